/-
  Joined and packed by program.
-/
import Derived.Test.YtikbegmodacopaaGreatDoorQ25
import Derived.Lib.QuietBelow
import Derived.Test.YtikbegmodacopaaGreatDoorQ26
namespace Go.Proofs.YtikbegmodacopaaGreatDoor
open Go.RowKit Go.PlainAid Go.BigFrame
set_option linter.unusedSimpArgs false
set_option linter.unusedVariables false
set_option maxRecDepth 100000
theorem inB_false {y:ByteArray} {l:List LabV} {k:Nat} (h:∀ j,j<k→∀ t,l[j]?=some t→t.name≠y):inB y ((l.take k).map (·.name))=false:=by
 apply Bool.eq_false_iff.2
 intro h1
 rw [inB_iff] at h1
 obtain ⟨t,ht,he⟩:=List.mem_map.1 h1
 obtain ⟨j,hj,rfl⟩:=List.getElem_of_mem ht
 rw [List.length_take] at hj
 rw [List.getElem_take] at he
 exact h j (by omega) _ (List.getElem?_eq_getElem (by omega)) he
theorem inB_true {y:ByteArray} {l:List LabV} {k j:Nat} (hj:j<k) {t:LabV} (h:l[j]?=some t) (he:t.name=y):inB y ((l.take k).map (·.name))=true:=by
 rw [inB_iff]
 refine List.mem_map.2 ⟨t,?_,he⟩
 exact List.mem_of_getElem? (i:=j) (by rw [List.getElem?_take,if_pos hj];exact h)
set_option maxHeartbeats 8000000 in
theorem rlabels_any (x:ObjV) (s:ObjS) (w:World) (hx:ObjOk x) (hr:ObjR w w.heap.size x s):Calls Tryz.prog 119 #[.agg (objV x s)] w fun e w'=>e=.returned (.bool (labsB x))∧Below w.heap.size w w':=by
 obtain ⟨_,_,hl,_,_,_⟩:=hx.lens
 have HLEN:=hide_ (fun sec w=>rlength_any x s sec w hx)
 have HRL:=hide_ hr.rl
 obtain ⟨⟨cA,cc⟩,⟨dA,dc⟩,⟨lA,lc⟩,⟨fA,fc⟩,⟨tA,tc⟩,⟨eA,ec⟩⟩:=s
 dsimp only [objV] at HLEN HRL ⊢
 have HNAM:=hide_ (fun (nm:ByteArray) (h:nm.size≤140737488351232) w=>Named_any nm w h)
 have HOK:=hide_ hx.labels
 obtain ⟨n,hn⟩:∃ n,n=x.labels.length:=⟨_,rfl⟩
 rw [← hn] at HRL hl HLEN ⊢
 have HN:=hide_ hn
 clear hx hr hn
 go_enter Tryz.func119,Tryz.ntmps119
 go_wp2
 go_loopw [3] (fun i wr=>∃ k:Nat,k≤n∧i=.int .i64 k∧Hid (∀ j,j<k→labOk x j=true) ∧
  wr.cell? ⟨w.heap.size,0,none⟩=some (.slice cA x.code.length cc)∧wr.cell? ⟨w.heap.size,1,none⟩=some (.slice dA x.data.length dc)∧wr.cell? ⟨w.heap.size,2,none⟩=some (.int .u32 x.zero)∧wr.cell? ⟨w.heap.size,3,none⟩=some (.int .u32 x.stack)∧wr.cell? ⟨w.heap.size,4,none⟩=some (.slice lA n lc)∧wr.cell? ⟨w.heap.size,5,none⟩=some (.slice fA x.fixes.length fc)∧wr.cell? ⟨w.heap.size,6,none⟩=some (.slice tA x.targets.length tc)∧wr.cell? ⟨w.heap.size,7,none⟩=some (.slice eA x.entries.length ec)∧w.heap.size<wr.heap.size∧Below w.heap.size w wr) (fun i _=>n - (intOf i).toNat)
 case atStart=>exact ⟨0,Nat.zero_le _,rfl,hide_ (fun j hj=>absurd hj (by omega)),by simp,by simp,by simp,by simp,by simp,by simp,by simp,by simp,by simp,(Below.refl _ _).alloc (Nat.le_refl _) _⟩
 case round =>
  obtain ⟨k,hk,rfl,HALL,o0,o1,o2,o3,o4,o5,o6,o7,hml,hb⟩:=hrel
  have hbz:=hb.size
  by_cases hlt:k<n
  ·obtain ⟨t,ht⟩:∃ t,x.labels[k]?=some t:=⟨_,List.getElem?_eq_getElem (by have:=HN.out;omega)⟩
   obtain ⟨hnmz,⟨sec0,sec1⟩,pl0,pl1⟩:=HOK.out t (List.mem_of_getElem? ht)
   obtain ⟨p,hp⟩:∃ p,0<k→x.labels[k - 1]?=some p:=by
    by_cases h0:0<k
    ·exact ⟨x.labels[k - 1]'(by have:=HN.out;omega),fun _=>List.getElem?_eq_getElem _⟩
    ·exact ⟨t,fun h=>absurd h h0⟩
   have HLO:=hide_ (labOk_at ht p hp)
   have HP:=hide_ hp
   obtain ⟨_,ad,rfl,hbk,p0,p1⟩:=el_cells lE_len (HRL.out.below hb) (by omega) ht
   have q0:=p0 _ rfl
   have q1:=p1 1 _ (by omega) rfl
   have q2:=p1 2 _ (by omega) rfl
   have q3:=p1 3 _ (by omega) rfl
   have hbs:(ad.add (k * 4)).block<wr.heap.size:=by omega
   obtain ⟨nm,sec,pl,opn⟩:=t
   obtain ⟨pnm,psec,ppl,popn⟩:=p
   simp only at q0 q1 q2 q3 hnmz sec0 sec1 pl0 pl1 HLO HP
   have HB:=hide_ hb
   have HEND:=hide_ (fun (h:labOk x k=false)=>hide_ (labsB_false (x:=x) (k:=k) (by have:=HN.out;omega) h))
   clear p0 p1 ht hp hbk hb
   go_wp2
   have f0:(wr.alloc (.cells #[.string nm,.int .u8 sec,.int .u32 pl,.bool opn] 78)).cell? ⟨w.heap.size,0,none⟩=some (.slice cA x.code.length cc):=(World.cell?_alloc_lt wr _ ⟨w.heap.size,0,none⟩ (show w.heap.size<wr.heap.size by omega)).trans o0
   have f1:(wr.alloc (.cells #[.string nm,.int .u8 sec,.int .u32 pl,.bool opn] 78)).cell? ⟨w.heap.size,1,none⟩=some (.slice dA x.data.length dc):=(World.cell?_alloc_lt wr _ ⟨w.heap.size,1,none⟩ (show w.heap.size<wr.heap.size by omega)).trans o1
   have f2:(wr.alloc (.cells #[.string nm,.int .u8 sec,.int .u32 pl,.bool opn] 78)).cell? ⟨w.heap.size,2,none⟩=some (.int .u32 x.zero):=(World.cell?_alloc_lt wr _ ⟨w.heap.size,2,none⟩ (show w.heap.size<wr.heap.size by omega)).trans o2
   have f3:(wr.alloc (.cells #[.string nm,.int .u8 sec,.int .u32 pl,.bool opn] 78)).cell? ⟨w.heap.size,3,none⟩=some (.int .u32 x.stack):=(World.cell?_alloc_lt wr _ ⟨w.heap.size,3,none⟩ (show w.heap.size<wr.heap.size by omega)).trans o3
   have f4:(wr.alloc (.cells #[.string nm,.int .u8 sec,.int .u32 pl,.bool opn] 78)).cell? ⟨w.heap.size,4,none⟩=some (.slice (some ad) n lc):=(World.cell?_alloc_lt wr _ ⟨w.heap.size,4,none⟩ (show w.heap.size<wr.heap.size by omega)).trans o4
   have f5:(wr.alloc (.cells #[.string nm,.int .u8 sec,.int .u32 pl,.bool opn] 78)).cell? ⟨w.heap.size,5,none⟩=some (.slice fA x.fixes.length fc):=(World.cell?_alloc_lt wr _ ⟨w.heap.size,5,none⟩ (show w.heap.size<wr.heap.size by omega)).trans o5
   have f6:(wr.alloc (.cells #[.string nm,.int .u8 sec,.int .u32 pl,.bool opn] 78)).cell? ⟨w.heap.size,6,none⟩=some (.slice tA x.targets.length tc):=(World.cell?_alloc_lt wr _ ⟨w.heap.size,6,none⟩ (show w.heap.size<wr.heap.size by omega)).trans o6
   have f7:(wr.alloc (.cells #[.string nm,.int .u8 sec,.int .u32 pl,.bool opn] 78)).cell? ⟨w.heap.size,7,none⟩=some (.slice eA x.entries.length ec):=(World.cell?_alloc_lt wr _ ⟨w.heap.size,7,none⟩ (show w.heap.size<wr.heap.size by omega)).trans o7
   have e0:(wr.alloc (.cells #[.string nm,.int .u8 sec,.int .u32 pl,.bool opn] 78)).cell? ⟨wr.heap.size,0,none⟩=some (.string nm):=by simp
   have e1:(wr.alloc (.cells #[.string nm,.int .u8 sec,.int .u32 pl,.bool opn] 78)).cell? ⟨wr.heap.size,1,none⟩=some (.int .u8 sec):=by simp
   have e2:(wr.alloc (.cells #[.string nm,.int .u8 sec,.int .u32 pl,.bool opn] 78)).cell? ⟨wr.heap.size,2,none⟩=some (.int .u32 pl):=by simp
   have hb5:=HB.out.alloc hbz (.cells #[.string nm,.int .u8 sec,.int .u32 pl,.bool opn] 78)
   have hz5:wr.heap.size<(wr.alloc (.cells #[.string nm,.int .u8 sec,.int .u32 pl,.bool opn] 78)).heap.size:=by simp
   have hwz:w.heap.size<(wr.alloc (.cells #[.string nm,.int .u8 sec,.int .u32 pl,.bool opn] 78)).heap.size:=by simp;omega
   clear q0 q1 q2 q3 o0 o1 o2 o3 o4 o5 o6 o7 hml hbs hbz
   generalize (wr.alloc (.cells #[.string nm,.int .u8 sec,.int .u32 pl,.bool opn] 78))=w5 at *
   have HBw5:=hide_ hb5
   clear hb5 HB
   generalize wr.heap.size=g5 at *
   obtain ⟨b1,hb1⟩:∃ b,b=nameB nm:=⟨_,rfl⟩
   obtain ⟨L,hL⟩:∃ L,L=lenOf x sec:=⟨_,rfl⟩
   have HN1:=hide_ (fun W=>HNAM.out nm hnmz W)
   have HL1:=hide_ (fun W=>HLEN.out sec W)
   rw [← hb1] at HN1 HLO
   rw [← hL] at HL1 HLO
   clear hb1 hL
   have cN:∀ d os,Calls Tryz.prog 121 #[.string nm] (Sort.grow (redrawn w5 d) os) fun e w''=>e=.returned (.bool b1)∧∃ p:Regrown,w''=Sort.grow (redrawn w5 p.d) p.os:=fun d os=>Calls.regrown_of (HN1.out _)
   have cL:∀ d os,Calls Tryz.prog 157 #[.agg #[.slice cA x.code.length cc,.slice dA x.data.length dc,.int .u32 x.zero,.int .u32 x.stack,.slice (some ad) n lc,.slice fA x.fixes.length fc,.slice tA x.targets.length tc,.slice eA x.entries.length ec],.int .u8 sec] (Sort.grow (redrawn w5 d) os) fun e w''=>e=.returned (.int .u64 L)∧∃ p:Regrown,w''=Sort.grow (redrawn w5 p.d) p.os:=fun d os=>Calls.regrown_of (HL1.out _)
   by_cases hgood:b1=true∧decide (sec<1)=false∧decide (3<sec)=false∧decide (L<pl)=false
   ·obtain ⟨rfl,c1,c2,c3⟩:=hgood
    have HKw6:=hide_ ((And.intro f0 (And.intro f1 (And.intro f2 (And.intro f3 (And.intro f4 (And.intro f5 (And.intro f6 (And.intro f7 (And.intro e0 (And.intro e1 e2)))))))))))
    replace f0:=cell_regrown f0
    replace f1:=cell_regrown f1
    replace f2:=cell_regrown f2
    replace f3:=cell_regrown f3
    replace f4:=cell_regrown f4
    replace f5:=cell_regrown f5
    replace f6:=cell_regrown f6
    replace f7:=cell_regrown f7
    replace e0:=cell_regrown e0
    replace e1:=cell_regrown e1
    replace e2:=cell_regrown e2
    refine wp_region_quiet_below (by kernel_rfl) (by kernel_rfl) ?_
    repeat (go_big_quiet_step ((first | exact cN _ _ | exact cL _ _)))
    refine wpQuiet_nil ?_
    intro w6 hw'
    obtain ⟨⟨dq,osq⟩,hw''⟩:=hw'
    have hbw6:Below w5.heap.size w5 w6:=by rw [hw''];exact below_regrown w5 dq osq
    clear hw'' f0 f1 f2 f3 f4 f5 f6 f7 e0 e1 e2
    obtain ⟨f0,f1,f2,f3,f4,f5,f6,f7,e0,e1,e2⟩:=HKw6.out
    have f0:=(hbw6.cell (p:=⟨w.heap.size,0,none⟩) hwz).trans f0
    have f1:=(hbw6.cell (p:=⟨w.heap.size,1,none⟩) hwz).trans f1
    have f2:=(hbw6.cell (p:=⟨w.heap.size,2,none⟩) hwz).trans f2
    have f3:=(hbw6.cell (p:=⟨w.heap.size,3,none⟩) hwz).trans f3
    have f4:=(hbw6.cell (p:=⟨w.heap.size,4,none⟩) hwz).trans f4
    have f5:=(hbw6.cell (p:=⟨w.heap.size,5,none⟩) hwz).trans f5
    have f6:=(hbw6.cell (p:=⟨w.heap.size,6,none⟩) hwz).trans f6
    have f7:=(hbw6.cell (p:=⟨w.heap.size,7,none⟩) hwz).trans f7
    have e0:=(hbw6.cell (p:=⟨g5,0,none⟩) hz5).trans e0
    have e1:=(hbw6.cell (p:=⟨g5,1,none⟩) hz5).trans e1
    have e2:=(hbw6.cell (p:=⟨g5,2,none⟩) hz5).trans e2
    clear HKw6
    have hwz:w.heap.size<w6.heap.size:=Nat.lt_of_lt_of_le hwz hbw6.size
    have hz5:g5<w6.heap.size:=Nat.lt_of_lt_of_le hz5 hbw6.size
    have HBw6:=hide_ (HBw5.out.trans (hbw6.mono HBw5.out.size))
    clear hbw6 cN cL
    have HLO2:=hide_ (show labOk x k=(!inB nm ((x.labels.take k).map (·.name)) && (decide (k=0) || !(decide (sec<psec) || (decide (sec=psec) && decide (pl<ppl))))) by
     rw [HLO.out,c1,c2,c3]
     simp)
    clear c1 c2 c3 HLO
    by_cases k0:k=0
    ·subst k0
     have HOR:=hide_ (show (decide ((0:Nat)=0) || !(decide (sec<psec) || (decide (sec=psec) && decide (pl<ppl))))=true by simp)
     go_wp2
     have HKw7:=hide_ ((And.intro f0 (And.intro f1 (And.intro f2 (And.intro f3 (And.intro f4 (And.intro f5 (And.intro f6 (And.intro f7 (And.intro e0 (And.intro e1 e2)))))))))))
     replace f0:=cell_regrown f0
     replace f1:=cell_regrown f1
     replace f2:=cell_regrown f2
     replace f3:=cell_regrown f3
     replace f4:=cell_regrown f4
     replace f5:=cell_regrown f5
     replace f6:=cell_regrown f6
     replace f7:=cell_regrown f7
     replace e0:=cell_regrown e0
     replace e1:=cell_regrown e1
     replace e2:=cell_regrown e2
     refine wp_region_quiet_below (by kernel_rfl) (by kernel_rfl) ?_
     repeat (go_big_quiet_step ((fail)))
     refine wpQuiet_nil ?_
     intro w7 hw'
     obtain ⟨⟨dq,osq⟩,hw''⟩:=hw'
     have hbw7:Below w6.heap.size w6 w7:=by rw [hw''];exact below_regrown w6 dq osq
     clear hw'' f0 f1 f2 f3 f4 f5 f6 f7 e0 e1 e2
     obtain ⟨f0,f1,f2,f3,f4,f5,f6,f7,e0,e1,e2⟩:=HKw7.out
     have f0:=(hbw7.cell (p:=⟨w.heap.size,0,none⟩) hwz).trans f0
     have f1:=(hbw7.cell (p:=⟨w.heap.size,1,none⟩) hwz).trans f1
     have f2:=(hbw7.cell (p:=⟨w.heap.size,2,none⟩) hwz).trans f2
     have f3:=(hbw7.cell (p:=⟨w.heap.size,3,none⟩) hwz).trans f3
     have f4:=(hbw7.cell (p:=⟨w.heap.size,4,none⟩) hwz).trans f4
     have f5:=(hbw7.cell (p:=⟨w.heap.size,5,none⟩) hwz).trans f5
     have f6:=(hbw7.cell (p:=⟨w.heap.size,6,none⟩) hwz).trans f6
     have f7:=(hbw7.cell (p:=⟨w.heap.size,7,none⟩) hwz).trans f7
     have e0:=(hbw7.cell (p:=⟨g5,0,none⟩) hz5).trans e0
     have e1:=(hbw7.cell (p:=⟨g5,1,none⟩) hz5).trans e1
     have e2:=(hbw7.cell (p:=⟨g5,2,none⟩) hz5).trans e2
     clear HKw7
     have hwz:w.heap.size<w7.heap.size:=Nat.lt_of_lt_of_le hwz hbw7.size
     have hz5:g5<w7.heap.size:=Nat.lt_of_lt_of_le hz5 hbw7.size
     have HBw7:=hide_ (HBw6.out.trans (hbw7.mono HBw6.out.size))
     clear hbw7
     go_wp2
     go_loopw [5] (fun i wr=>∃ j:Nat,j≤0∧i=.int .i64 j∧Hid (∀ q,q<j→∀ t,x.labels[q]?=some t→t.name≠nm)∧Below w7.heap.size w7 wr) (fun i _=>0 - (intOf i).toNat)
     case atStart=>exact ⟨0,Nat.zero_le _,rfl,hide_ (fun q hq=>absurd hq (by omega)),Below.refl _ _⟩
     case round =>
      obtain ⟨j,hj,rfl,HNE,hbwr⟩:=hrel
      have f0:=(hbwr.cell (p:=⟨w.heap.size,0,none⟩) hwz).trans f0
      have f1:=(hbwr.cell (p:=⟨w.heap.size,1,none⟩) hwz).trans f1
      have f2:=(hbwr.cell (p:=⟨w.heap.size,2,none⟩) hwz).trans f2
      have f3:=(hbwr.cell (p:=⟨w.heap.size,3,none⟩) hwz).trans f3
      have f4:=(hbwr.cell (p:=⟨w.heap.size,4,none⟩) hwz).trans f4
      have f5:=(hbwr.cell (p:=⟨w.heap.size,5,none⟩) hwz).trans f5
      have f6:=(hbwr.cell (p:=⟨w.heap.size,6,none⟩) hwz).trans f6
      have f7:=(hbwr.cell (p:=⟨w.heap.size,7,none⟩) hwz).trans f7
      have e0:=(hbwr.cell (p:=⟨g5,0,none⟩) hz5).trans e0
      have e1:=(hbwr.cell (p:=⟨g5,1,none⟩) hz5).trans e1
      have e2:=(hbwr.cell (p:=⟨g5,2,none⟩) hz5).trans e2
      have hwz:w.heap.size<wr.heap.size:=Nat.lt_of_lt_of_le hwz hbwr.size
      have hz5:g5<wr.heap.size:=Nat.lt_of_lt_of_le hz5 hbwr.size
      have HBwr:=hide_ (HBw7.out.trans (hbwr.mono HBw7.out.size))
      have HB7r:=hide_ hbwr
      clear hbwr
      by_cases hlt2:j<0
      ·exact absurd hlt2 (by omega)
      ·have hjk:0=j:=by omega
       subst hjk
       have HTR:=hide_ (show labOk x 0=true by rw [HLO2.out,inB_false HNE.out,HOR.out];rfl)
       go_wp2
       go_roundw
       case rel=>exact ⟨0+1,by omega,by first | exact rfl | go_num,hide_ (all_next (f:=labOk x) HALL.out HTR.out),f0,f1,f2,f3,f4,f5,f6,f7,hwz,HBwr.out⟩
       case measure=>simp [intOf];omega
    ·obtain ⟨_,ad2,hA2,hbk2,_,r1⟩:=el_cells lE_len (HRL.out.below HBw6.out) (by omega) (HP.out (by omega))
     obtain rfl:ad=ad2:=by injection hA2
     have r2:=r1 2 _ (by omega) rfl
     have r1:=r1 1 _ (by omega) rfl
     have hbs2:(ad.add ((k - 1) * 4)).block<w6.heap.size:=by omega
     have s1:IntKind.i64.wrap ((k:Int) - 1)=(k:Int) - 1:=IntWalk.i64_in _ (by omega)
     have s2:(0:Int)≤(k:Int) - 1:=by omega
     have s3:((k:Int) - 1).toNat=k - 1:=by omega
     have s4:(k:Int) - 1<(n:Int):=by omega
     have kp:0<k:=by omega
     have kp2:decide ((0:Int)<(k:Int))=true:=by simp;omega
     clear hA2 hbk2
     go_wp2
     by_cases hord:decide (sec<psec)=true∨(decide (sec<psec)=false∧sec=psec∧pl<ppl)
     ·have HE:=HEND.out (by
       rw [HLO2.out,decide_eq_false k0]
       rcases hord with h | ⟨h,h2,h3⟩
       ·rw [h];simp
       ·rw [h,decide_eq_true h2,decide_eq_true h3];simp)
      rcases hord with d1 | ⟨d1,d2,d3⟩
      ·replace d1:decide (sec<psec)=true:=d1
       have HKw7:=hide_ ((And.intro f0 (And.intro f1 (And.intro f2 (And.intro f3 (And.intro f4 (And.intro f5 (And.intro f6 (And.intro f7 (And.intro e0 (And.intro e1 (And.intro e2 (And.intro r1 r2)))))))))))))
       replace f0:=cell_regrown f0
       replace f1:=cell_regrown f1
       replace f2:=cell_regrown f2
       replace f3:=cell_regrown f3
       replace f4:=cell_regrown f4
       replace f5:=cell_regrown f5
       replace f6:=cell_regrown f6
       replace f7:=cell_regrown f7
       replace e0:=cell_regrown e0
       replace e1:=cell_regrown e1
       replace e2:=cell_regrown e2
       replace r1:=cell_regrown r1
       replace r2:=cell_regrown r2
       refine wp_region_quiet_below (by kernel_rfl) (by kernel_rfl) ?_
       repeat (go_big_quiet_step ((fail)))
       refine wpQuiet_nil ?_
       intro w7 hw'
       obtain ⟨⟨dq,osq⟩,hw''⟩:=hw'
       have hbw7:Below w6.heap.size w6 w7:=by rw [hw''];exact below_regrown w6 dq osq
       clear hw'' f0 f1 f2 f3 f4 f5 f6 f7 e0 e1 e2 r1 r2
       obtain ⟨f0,f1,f2,f3,f4,f5,f6,f7,e0,e1,e2,r1,r2⟩:=HKw7.out
       have f0:=(hbw7.cell (p:=⟨w.heap.size,0,none⟩) hwz).trans f0
       have f1:=(hbw7.cell (p:=⟨w.heap.size,1,none⟩) hwz).trans f1
       have f2:=(hbw7.cell (p:=⟨w.heap.size,2,none⟩) hwz).trans f2
       have f3:=(hbw7.cell (p:=⟨w.heap.size,3,none⟩) hwz).trans f3
       have f4:=(hbw7.cell (p:=⟨w.heap.size,4,none⟩) hwz).trans f4
       have f5:=(hbw7.cell (p:=⟨w.heap.size,5,none⟩) hwz).trans f5
       have f6:=(hbw7.cell (p:=⟨w.heap.size,6,none⟩) hwz).trans f6
       have f7:=(hbw7.cell (p:=⟨w.heap.size,7,none⟩) hwz).trans f7
       have e0:=(hbw7.cell (p:=⟨g5,0,none⟩) hz5).trans e0
       have e1:=(hbw7.cell (p:=⟨g5,1,none⟩) hz5).trans e1
       have e2:=(hbw7.cell (p:=⟨g5,2,none⟩) hz5).trans e2
       have r1:=(hbw7.cell (p:=⟨(ad.add ((k - 1) * 4)).block,(ad.add ((k - 1) * 4)).off+1,none⟩) hbs2).trans r1
       have r2:=(hbw7.cell (p:=⟨(ad.add ((k - 1) * 4)).block,(ad.add ((k - 1) * 4)).off+2,none⟩) hbs2).trans r2
       clear HKw7
       have hwz:w.heap.size<w7.heap.size:=Nat.lt_of_lt_of_le hwz hbw7.size
       have hz5:g5<w7.heap.size:=Nat.lt_of_lt_of_le hz5 hbw7.size
       have HBw7:=hide_ (HBw6.out.trans (hbw7.mono HBw6.out.size))
       clear hbw7
       go_wp2
       go_ret
       exact ⟨by rw [HE.out];rfl,HBw7.out⟩
      ·have g1:(psec == sec)=true:=by simpa using d2.symm
       have g2:decide (pl<ppl)=true:=decide_eq_true d3
       clear d2 d3
       have HKw7:=hide_ ((And.intro f0 (And.intro f1 (And.intro f2 (And.intro f3 (And.intro f4 (And.intro f5 (And.intro f6 (And.intro f7 (And.intro e0 (And.intro e1 (And.intro e2 (And.intro r1 r2)))))))))))))
       replace f0:=cell_regrown f0
       replace f1:=cell_regrown f1
       replace f2:=cell_regrown f2
       replace f3:=cell_regrown f3
       replace f4:=cell_regrown f4
       replace f5:=cell_regrown f5
       replace f6:=cell_regrown f6
       replace f7:=cell_regrown f7
       replace e0:=cell_regrown e0
       replace e1:=cell_regrown e1
       replace e2:=cell_regrown e2
       replace r1:=cell_regrown r1
       replace r2:=cell_regrown r2
       refine wp_region_quiet_below (by kernel_rfl) (by kernel_rfl) ?_
       repeat (go_big_quiet_step ((fail)))
       refine wpQuiet_nil ?_
       intro w7 hw'
       obtain ⟨⟨dq,osq⟩,hw''⟩:=hw'
       have hbw7:Below w6.heap.size w6 w7:=by rw [hw''];exact below_regrown w6 dq osq
       clear hw'' f0 f1 f2 f3 f4 f5 f6 f7 e0 e1 e2 r1 r2
       obtain ⟨f0,f1,f2,f3,f4,f5,f6,f7,e0,e1,e2,r1,r2⟩:=HKw7.out
       have f0:=(hbw7.cell (p:=⟨w.heap.size,0,none⟩) hwz).trans f0
       have f1:=(hbw7.cell (p:=⟨w.heap.size,1,none⟩) hwz).trans f1
       have f2:=(hbw7.cell (p:=⟨w.heap.size,2,none⟩) hwz).trans f2
       have f3:=(hbw7.cell (p:=⟨w.heap.size,3,none⟩) hwz).trans f3
       have f4:=(hbw7.cell (p:=⟨w.heap.size,4,none⟩) hwz).trans f4
       have f5:=(hbw7.cell (p:=⟨w.heap.size,5,none⟩) hwz).trans f5
       have f6:=(hbw7.cell (p:=⟨w.heap.size,6,none⟩) hwz).trans f6
       have f7:=(hbw7.cell (p:=⟨w.heap.size,7,none⟩) hwz).trans f7
       have e0:=(hbw7.cell (p:=⟨g5,0,none⟩) hz5).trans e0
       have e1:=(hbw7.cell (p:=⟨g5,1,none⟩) hz5).trans e1
       have e2:=(hbw7.cell (p:=⟨g5,2,none⟩) hz5).trans e2
       have r1:=(hbw7.cell (p:=⟨(ad.add ((k - 1) * 4)).block,(ad.add ((k - 1) * 4)).off+1,none⟩) hbs2).trans r1
       have r2:=(hbw7.cell (p:=⟨(ad.add ((k - 1) * 4)).block,(ad.add ((k - 1) * 4)).off+2,none⟩) hbs2).trans r2
       clear HKw7
       have hwz:w.heap.size<w7.heap.size:=Nat.lt_of_lt_of_le hwz hbw7.size
       have hz5:g5<w7.heap.size:=Nat.lt_of_lt_of_le hz5 hbw7.size
       have HBw7:=hide_ (HBw6.out.trans (hbw7.mono HBw6.out.size))
       clear hbw7
       go_wp2
       go_ret
       exact ⟨by rw [HE.out];rfl,HBw7.out⟩
     ·have HOR:=hide_ (show (decide (k=0) || !(decide (sec<psec) || (decide (sec=psec) && decide (pl<ppl))))=true by
       rw [decide_eq_false k0]
       revert hord
       by_cases h1:sec<psec <;> by_cases h2:sec=psec <;> by_cases h3:pl<ppl <;> simp [h1,h2,h3])
      have hw2:(decide (sec<psec)=false∧(psec == sec)=false)∨(decide (sec<psec)=false∧(psec == sec)=true∧decide (pl<ppl)=false):=by
       by_cases h1:sec<psec
       ·exact absurd (.inl (decide_eq_true h1)) hord
       ·by_cases h2:sec=psec
        ·by_cases h3:pl<ppl
         ·exact absurd (.inr ⟨decide_eq_false h1,h2,h3⟩) hord
         ·exact .inr ⟨decide_eq_false h1,by simpa using h2.symm,decide_eq_false h3⟩
        ·exact .inl ⟨decide_eq_false h1,by simpa using fun h=>h2 h.symm⟩
      clear hord
      rcases hw2 with ⟨d1,d2⟩ | ⟨d1,d2,d3⟩
      all_goals
       have HKw7:=hide_ ((And.intro f0 (And.intro f1 (And.intro f2 (And.intro f3 (And.intro f4 (And.intro f5 (And.intro f6 (And.intro f7 (And.intro e0 (And.intro e1 (And.intro e2 (And.intro r1 r2)))))))))))))
       replace f0:=cell_regrown f0
       replace f1:=cell_regrown f1
       replace f2:=cell_regrown f2
       replace f3:=cell_regrown f3
       replace f4:=cell_regrown f4
       replace f5:=cell_regrown f5
       replace f6:=cell_regrown f6
       replace f7:=cell_regrown f7
       replace e0:=cell_regrown e0
       replace e1:=cell_regrown e1
       replace e2:=cell_regrown e2
       replace r1:=cell_regrown r1
       replace r2:=cell_regrown r2
       refine wp_region_quiet_below (by kernel_rfl) (by kernel_rfl) ?_
       repeat (go_big_quiet_step ((fail)))
       refine wpQuiet_nil ?_
       intro w7 hw'
       obtain ⟨⟨dq,osq⟩,hw''⟩:=hw'
       have hbw7:Below w6.heap.size w6 w7:=by rw [hw''];exact below_regrown w6 dq osq
       clear hw'' f0 f1 f2 f3 f4 f5 f6 f7 e0 e1 e2 r1 r2
       obtain ⟨f0,f1,f2,f3,f4,f5,f6,f7,e0,e1,e2,r1,r2⟩:=HKw7.out
       have f0:=(hbw7.cell (p:=⟨w.heap.size,0,none⟩) hwz).trans f0
       have f1:=(hbw7.cell (p:=⟨w.heap.size,1,none⟩) hwz).trans f1
       have f2:=(hbw7.cell (p:=⟨w.heap.size,2,none⟩) hwz).trans f2
       have f3:=(hbw7.cell (p:=⟨w.heap.size,3,none⟩) hwz).trans f3
       have f4:=(hbw7.cell (p:=⟨w.heap.size,4,none⟩) hwz).trans f4
       have f5:=(hbw7.cell (p:=⟨w.heap.size,5,none⟩) hwz).trans f5
       have f6:=(hbw7.cell (p:=⟨w.heap.size,6,none⟩) hwz).trans f6
       have f7:=(hbw7.cell (p:=⟨w.heap.size,7,none⟩) hwz).trans f7
       have e0:=(hbw7.cell (p:=⟨g5,0,none⟩) hz5).trans e0
       have e1:=(hbw7.cell (p:=⟨g5,1,none⟩) hz5).trans e1
       have e2:=(hbw7.cell (p:=⟨g5,2,none⟩) hz5).trans e2
       have r1:=(hbw7.cell (p:=⟨(ad.add ((k - 1) * 4)).block,(ad.add ((k - 1) * 4)).off+1,none⟩) hbs2).trans r1
       have r2:=(hbw7.cell (p:=⟨(ad.add ((k - 1) * 4)).block,(ad.add ((k - 1) * 4)).off+2,none⟩) hbs2).trans r2
       clear HKw7
       have hwz:w.heap.size<w7.heap.size:=Nat.lt_of_lt_of_le hwz hbw7.size
       have hz5:g5<w7.heap.size:=Nat.lt_of_lt_of_le hz5 hbw7.size
       have HBw7:=hide_ (HBw6.out.trans (hbw7.mono HBw6.out.size))
       clear hbw7 r1 r2
       go_wp2
       go_loopw [5] (fun i wr=>∃ j:Nat,j≤k∧i=.int .i64 j∧Hid (∀ q,q<j→∀ t,x.labels[q]?=some t→t.name≠nm)∧Below w7.heap.size w7 wr) (fun i _=>k - (intOf i).toNat)
       case atStart=>exact ⟨0,Nat.zero_le _,rfl,hide_ (fun q hq=>absurd hq (by omega)),Below.refl _ _⟩
       case round =>
        obtain ⟨j,hj,rfl,HNE,hbwr⟩:=hrel
        have f0:=(hbwr.cell (p:=⟨w.heap.size,0,none⟩) hwz).trans f0
        have f1:=(hbwr.cell (p:=⟨w.heap.size,1,none⟩) hwz).trans f1
        have f2:=(hbwr.cell (p:=⟨w.heap.size,2,none⟩) hwz).trans f2
        have f3:=(hbwr.cell (p:=⟨w.heap.size,3,none⟩) hwz).trans f3
        have f4:=(hbwr.cell (p:=⟨w.heap.size,4,none⟩) hwz).trans f4
        have f5:=(hbwr.cell (p:=⟨w.heap.size,5,none⟩) hwz).trans f5
        have f6:=(hbwr.cell (p:=⟨w.heap.size,6,none⟩) hwz).trans f6
        have f7:=(hbwr.cell (p:=⟨w.heap.size,7,none⟩) hwz).trans f7
        have e0:=(hbwr.cell (p:=⟨g5,0,none⟩) hz5).trans e0
        have e1:=(hbwr.cell (p:=⟨g5,1,none⟩) hz5).trans e1
        have e2:=(hbwr.cell (p:=⟨g5,2,none⟩) hz5).trans e2
        have hwz:w.heap.size<wr.heap.size:=Nat.lt_of_lt_of_le hwz hbwr.size
        have hz5:g5<wr.heap.size:=Nat.lt_of_lt_of_le hz5 hbwr.size
        have HBwr:=hide_ (HBw7.out.trans (hbwr.mono HBw7.out.size))
        have HB7r:=hide_ hbwr
        clear hbwr
        by_cases hlt2:j<k
        ·obtain ⟨u,hu⟩:∃ t,x.labels[j]?=some t:=⟨_,List.getElem?_eq_getElem (by have:=HN.out;omega)⟩
         obtain ⟨_,ad2,hA2,hbk2,y0,_⟩:=el_cells lE_len (HRL.out.below HBwr.out) (by omega) hu
         obtain rfl:ad=ad2:=by injection hA2
         have y0:=y0 _ rfl
         have hbs3:(ad.add (j * 4)).block<wr.heap.size:=by omega
         have j1:(0:Int)≤(j:Int):=by omega
         have j2:(j:Int)<(n:Int):=by omega
         have HU:=hide_ hu
         clear hA2 hbk2 hu
         obtain ⟨unm,usec,upl,uop⟩:=u
         simp only at y0
         by_cases hnm:unm=nm
         ·have hq:(unm.toList == nm.toList)=true:=by rw [str_beq,decide_eq_true hnm]
          have HE:=HEND.out (by rw [HLO2.out,inB_true hlt2 HU.out hnm];rfl)
          clear hnm
          go_wp2
          have HKw8:=hide_ ((And.intro f4 (And.intro e0 y0)))
          replace f4:=cell_regrown f4
          replace e0:=cell_regrown e0
          replace y0:=cell_regrown y0
          refine wp_region_quiet_below (by kernel_rfl) (by kernel_rfl) ?_
          repeat (go_big_quiet_step ((fail)))
          refine wpQuiet_nil ?_
          intro w8 hw'
          obtain ⟨⟨dq,osq⟩,hw''⟩:=hw'
          have hbw8:Below wr.heap.size wr w8:=by rw [hw''];exact below_regrown wr dq osq
          clear hw'' f4 e0 y0
          obtain ⟨f4,e0,y0⟩:=HKw8.out
          have f4:=(hbw8.cell (p:=⟨w.heap.size,4,none⟩) hwz).trans f4
          have e0:=(hbw8.cell (p:=⟨g5,0,none⟩) hz5).trans e0
          have y0:=(hbw8.cell (p:=(ad.add (j * 4))) hbs3).trans y0
          clear HKw8
          have hwz:w.heap.size<w8.heap.size:=Nat.lt_of_lt_of_le hwz hbw8.size
          have hz5:g5<w8.heap.size:=Nat.lt_of_lt_of_le hz5 hbw8.size
          have HBw8:=hide_ (HBwr.out.trans (hbw8.mono HBwr.out.size))
          clear hbw8
          go_wp2
          go_ret
          exact ⟨by rw [HE.out];rfl,HBw8.out⟩
         ·have hq:(unm.toList == nm.toList)=false:=by rw [str_beq,decide_eq_false hnm]
          have HNX:=hide_ (show ∀ q,q<j+1→∀ t,x.labels[q]?=some t→t.name≠nm from fun q hq t ht=>by
           rcases Nat.lt_or_ge q j with h1 | h1
           ·exact HNE.out q h1 t ht
           ·obtain rfl:q=j:=by omega
            rw [HU.out] at ht
            injection ht with e
            exact e ▸ hnm)
          clear hnm
          go_wp2
          have HKw8:=hide_ ((And.intro f4 (And.intro e0 y0)))
          replace f4:=cell_regrown f4
          replace e0:=cell_regrown e0
          replace y0:=cell_regrown y0
          refine wp_region_quiet_below (by kernel_rfl) (by kernel_rfl) ?_
          repeat (go_big_quiet_step ((fail)))
          refine wpQuiet_nil ?_
          intro w8 hw'
          obtain ⟨⟨dq,osq⟩,hw''⟩:=hw'
          have hbw8:Below wr.heap.size wr w8:=by rw [hw''];exact below_regrown wr dq osq
          clear hw'' f4 e0 y0
          obtain ⟨f4,e0,y0⟩:=HKw8.out
          have f4:=(hbw8.cell (p:=⟨w.heap.size,4,none⟩) hwz).trans f4
          have e0:=(hbw8.cell (p:=⟨g5,0,none⟩) hz5).trans e0
          have y0:=(hbw8.cell (p:=(ad.add (j * 4))) hbs3).trans y0
          clear HKw8
          have HB78:=hide_ (HB7r.out.trans (hbw8.mono HB7r.out.size))
          clear hbw8
          go_wp2
          go_roundw
          case rel=>exact ⟨j+1,by omega,by go_num,HNX,HB78.out⟩
          case measure=>simp [intOf];omega
        ·have hjk:k=j:=by omega
         subst hjk
         have HTR:=hide_ (show labOk x k=true by rw [HLO2.out,inB_false HNE.out,HOR.out];rfl)
         go_wp2
         go_roundw
         case rel=>exact ⟨k+1,by omega,by first | exact rfl | go_num,hide_ (all_next (f:=labOk x) HALL.out HTR.out),f0,f1,f2,f3,f4,f5,f6,f7,hwz,HBwr.out⟩
         case measure=>simp [intOf];omega
   ·have HE:=HEND.out (by
     rw [HLO.out]
     revert hgood
     cases b1 <;> cases decide (sec<1) <;> cases decide (3<sec) <;> cases decide (L<pl) <;> simp)
    have hways:b1=false∨(b1=true∧decide (sec<1)=true)∨(b1=true∧decide (sec<1)=false∧decide (3<sec)=true)∨(b1=true∧decide (sec<1)=false∧decide (3<sec)=false∧decide (L<pl)=true):=by
     revert hgood
     cases b1 <;> cases decide (sec<1) <;> cases decide (3<sec) <;> cases decide (L<pl) <;> simp
    clear hgood
    rcases hways with rfl | ⟨rfl,c1⟩ | ⟨rfl,c1,c2⟩ | ⟨rfl,c1,c2,c3⟩
    all_goals
     have HKw6:=hide_ ((And.intro f0 (And.intro f1 (And.intro f2 (And.intro f3 (And.intro f4 (And.intro f5 (And.intro f6 (And.intro f7 (And.intro e0 (And.intro e1 e2)))))))))))
     replace f0:=cell_regrown f0
     replace f1:=cell_regrown f1
     replace f2:=cell_regrown f2
     replace f3:=cell_regrown f3
     replace f4:=cell_regrown f4
     replace f5:=cell_regrown f5
     replace f6:=cell_regrown f6
     replace f7:=cell_regrown f7
     replace e0:=cell_regrown e0
     replace e1:=cell_regrown e1
     replace e2:=cell_regrown e2
     refine wp_region_quiet_below (by kernel_rfl) (by kernel_rfl) ?_
     repeat (go_big_quiet_step ((first | exact cN _ _ | exact cL _ _)))
     refine wpQuiet_nil ?_
     intro w6 hw'
     obtain ⟨⟨dq,osq⟩,hw''⟩:=hw'
     have hbw6:Below w5.heap.size w5 w6:=by rw [hw''];exact below_regrown w5 dq osq
     clear hw'' f0 f1 f2 f3 f4 f5 f6 f7 e0 e1 e2
     obtain ⟨f0,f1,f2,f3,f4,f5,f6,f7,e0,e1,e2⟩:=HKw6.out
     have f0:=(hbw6.cell (p:=⟨w.heap.size,0,none⟩) hwz).trans f0
     have f1:=(hbw6.cell (p:=⟨w.heap.size,1,none⟩) hwz).trans f1
     have f2:=(hbw6.cell (p:=⟨w.heap.size,2,none⟩) hwz).trans f2
     have f3:=(hbw6.cell (p:=⟨w.heap.size,3,none⟩) hwz).trans f3
     have f4:=(hbw6.cell (p:=⟨w.heap.size,4,none⟩) hwz).trans f4
     have f5:=(hbw6.cell (p:=⟨w.heap.size,5,none⟩) hwz).trans f5
     have f6:=(hbw6.cell (p:=⟨w.heap.size,6,none⟩) hwz).trans f6
     have f7:=(hbw6.cell (p:=⟨w.heap.size,7,none⟩) hwz).trans f7
     have e0:=(hbw6.cell (p:=⟨g5,0,none⟩) hz5).trans e0
     have e1:=(hbw6.cell (p:=⟨g5,1,none⟩) hz5).trans e1
     have e2:=(hbw6.cell (p:=⟨g5,2,none⟩) hz5).trans e2
     clear HKw6
     have hwz:w.heap.size<w6.heap.size:=Nat.lt_of_lt_of_le hwz hbw6.size
     have hz5:g5<w6.heap.size:=Nat.lt_of_lt_of_le hz5 hbw6.size
     have HBw6:=hide_ (HBw5.out.trans (hbw6.mono HBw5.out.size))
     clear hbw6
     go_wp2
     go_ret
     exact ⟨by rw [HE.out];rfl,HBw6.out⟩
  ·obtain rfl:k=n:=by omega
   have HB:=hide_ hb
   have HEND:=hide_ (labsB_true (x:=x) (fun j hj=>HALL.out j (by rw [HN.out];exact hj)))
   clear hb hbz
   go_wp2
   go_ret
   exact ⟨by rw [HEND.out];rfl,HB.out⟩
end Go.Proofs.YtikbegmodacopaaGreatDoor
namespace Go.Proofs.YtikbegmodacopaaGreatDoor
open Go.RowKit Go.PlainAid Go.BigFrame
set_option linter.unusedSimpArgs false
set_option linter.unusedVariables false
set_option maxRecDepth 100000
theorem fix1_name {x:ObjV} {f:FixV} (h:nameB f.name=false):fixOk1 x f=false:=by unfold fixOk1;rw [h];rfl
theorem fix1_code {x:ObjV} {f:FixV} (h:f.sec=1) (hn:nameB f.name=true):fixOk1 x f=blankB x f:=by
 unfold fixOk1
 rw [hn,within_false (fun k hk l hl=>by unfold inFix;rw [decide_eq_false (by omega)];rfl)]
 simp
theorem four_at {l:List Int} {m:Nat} {a b c d:Int} (h0:l[m]?=some a) (h1:l[m+1]?=some b) (h2:l[m+2]?=some c) (h3:l[m+3]?=some d):(l.drop m).take 4=[a,b,c,d]:=by
 apply List.ext_getElem?
 intro i
 rw [List.getElem?_take]
 match i with
 | 0=>simpa using h0
 | 1=>simpa using h1
 | 2=>simpa using h2
 | 3=>simpa using h3
 | i+4 =>
  rw [if_neg (by omega)]
  simp
set_option maxHeartbeats 8000000 in
theorem fixMay_any (x:ObjV) (s:ObjS) (f:FixV) (w:World) (hx:ObjOk x) (hB:boundB x=true) (hnm:f.name.size≤140737488351232) (hf0:0≤f.at_∧f.at_<4294967296) (hr:ObjR w w.heap.size x s) :
  Calls Tryz.prog 158 #[.agg (objV x s),.agg #[.int .u8 f.sec,.int .u32 f.at_,.string f.name,.int .u32 f.add]] w fun e w'=>e=.returned (.bool (fixOk1 x f))∧Below w.heap.size w w':=by
 obtain ⟨l1,l2,_,l4,_,_⟩:=boundB_iff.1 hB
 have HRC:=hide_ hr.rc
 have HRD:=hide_ hr.rd
 have HRL:=hide_ hr.rl
 have HOC:=hide_ hx.code
 have HOD:=hide_ hx.data
 have HOL:=hide_ hx.labels
 obtain ⟨⟨cA,cc⟩,⟨dA,dc⟩,⟨lA,lc⟩,⟨fA,fc⟩,⟨tA,tc⟩,⟨eA,ec⟩⟩:=s
 dsimp only [objV] at HRC HRD HRL ⊢
 obtain ⟨n,hn⟩:∃ n,n=x.code.length:=⟨_,rfl⟩
 obtain ⟨nd,hnd⟩:∃ n,n=x.data.length:=⟨_,rfl⟩
 obtain ⟨nl,hnl⟩:∃ n,n=x.labels.length:=⟨_,rfl⟩
 rw [← hn] at HRC l1 ⊢
 rw [← hnd] at HRD l2 ⊢
 rw [← hnl] at HRL l4 ⊢
 have HN:=hide_ hn
 have HND:=hide_ hnd
 have HNL:=hide_ hnl
 have HNM:=hide_ (fun W=>Named_any f.name W hnm)
 have F1:=hide_ (fun h=>fix1_name (x:=x) (f:=f) h)
 have F2:=hide_ (fun h1 h2=>fix1_code (x:=x) (f:=f) h1 h2)
 obtain ⟨b1,hb1⟩:∃ b,b=nameB f.name:=⟨_,rfl⟩
 rw [← hb1] at HNM F1 F2
 have HB1:=hide_ hb1
 obtain ⟨fsec,fat,fnm,fadd⟩:=f
 simp only at hf0 HNM F1 F2 HB1 ⊢
 obtain ⟨m,hm⟩:∃ m:Nat,fat=(m:Int):=⟨fat.toNat,by omega⟩
 subst hm
 have hm4:m<4294967296:=by omega
 have HBK:=hide_ (blankB_eq x fsec m fnm fadd)
 clear hx hB hr hn hnd hnl hf0 hnm hb1
 go_enter Tryz.func158,Tryz.ntmps158
 go_wp2_with fail
 refine (HNM.out _).mono ?_
 rintro e w1 ⟨rfl,hb⟩
 have hZ:w.heap.size+1<w1.heap.size:=by have:=hb.size;simp at this;omega
 have yy0:w1.cell? ⟨w.heap.size,0,none⟩=some (.slice cA n cc):=(hb.cell (p:=⟨w.heap.size,0,none⟩) (by simp;omega)).trans (by go_simp)
 have yy1:w1.cell? ⟨w.heap.size,1,none⟩=some (.slice dA nd dc):=(hb.cell (p:=⟨w.heap.size,1,none⟩) (by simp;omega)).trans (by go_simp)
 have yy4:w1.cell? ⟨w.heap.size,4,none⟩=some (.slice lA nl lc):=(hb.cell (p:=⟨w.heap.size,4,none⟩) (by simp;omega)).trans (by go_simp)
 have v0:w1.cell? ⟨w.heap.size+1,0,none⟩=some (.int .u8 fsec):=(hb.cell (p:=⟨w.heap.size+1,0,none⟩) (by simp)).trans (by go_simp)
 have v1:w1.cell? ⟨w.heap.size+1,1,none⟩=some (.int .u32 (m:Int)):=(hb.cell (p:=⟨w.heap.size+1,1,none⟩) (by simp)).trans (by go_simp)
 have HW:=hide_ (show Below w.heap.size w w1 from (((Below.refl _ _).alloc (Nat.le_refl _) _).alloc (by simp) _).trans (hb.mono (by simp;omega)))
 have hZ0:w.heap.size<w1.heap.size:=by omega
 clear hb
 cases b1
 ·have HE:=hide_ (F1.out rfl)
  go_wp2
  go_ret
  exact ⟨by rw [HE.out];rfl,HW.out⟩
 by_cases h1:fsec=1
 ·have HBK2:=HBK.out
  rw [if_pos h1] at HBK2
  have HE0:=F2.out h1 rfl
  subst h1
  by_cases h2:m<n
  ·obtain ⟨t,ht⟩:∃ t,x.code[m]?=some t:=⟨_,List.getElem?_eq_getElem (by have:=HN.out;omega)⟩
   obtain ⟨⟨op0,op1⟩,ar0,ar1⟩:=HOC.out t (List.mem_of_getElem? ht)
   obtain ⟨_,ad,rfl,hbk,p0,p1⟩:=el_cells cE_len (HRC.out.below HW.out) (by omega) ht
   rw [ht] at HBK2
   obtain ⟨op,arg⟩:=t
   simp only at HBK2 op0 op1 ar0 ar1
   have q0:=p0 _ rfl
   have q1:=p1 1 _ (by omega) rfl
   have hbs:(ad.add (m * 2)).block<w1.heap.size:=by omega
   obtain ⟨r,hrr⟩:∃ r,r=opR op:=⟨_,rfl⟩
   have HI:=hide_ (fun w=>rInfo_any op op0 op1 w)
   have hV:opV op=(opCells r).toArray:=by rw [hrr];rfl
   rw [hV] at HI
   unfold opCells at HI
   rw [← hrr] at HBK2
   have HB2:=hide_ (HE0.trans HBK2)
   have m0:(0:Int)≤(m:Int):=by omega
   clear HBK2 p0 p1 ht hV hrr HBK HE0 hbk F1 F2
   go_wp2_with fail
   refine (HI.out _).mono ?_
   rintro e w2 ⟨rfl,hb2⟩
   have hc1:w2.cell? ⟨w1.heap.size,1,none⟩=some (.int .u32 arg):=(hb2.cell (p:=⟨w1.heap.size,1,none⟩) (by simp)).trans (by go_simp)
   have hz2:w1.heap.size<w2.heap.size:=by have:=hb2.size;simp at this;omega
   have HW2:=hide_ ((HW.out.alloc HW.out.size _).trans (hb2.mono (HW.out.alloc HW.out.size _).size))
   clear hb2
   by_cases hw:0<r.width
   ·have d1:decide ((0:Int)<(r.width:Int))=true:=by simp;exact hw
    have d1':decide (0<r.width)=true:=decide_eq_true hw
    by_cases ha:arg=0
    ·have d2:(arg == 0)=true:=by simpa using ha
     have HEND:=hide_ (show fixOk1 x ⟨1,(m:Int),fnm,fadd⟩=true by rw [HB2.out,d1',decide_eq_true ha];rfl)
     clear hw ha
     go_wp2
     go_ret
     exact ⟨by rw [HEND.out];rfl,(HW2.out).alloc HW2.out.size _⟩
    ·have d2:(arg == 0)=false:=by simpa using ha
     have HEND:=hide_ (show fixOk1 x ⟨1,(m:Int),fnm,fadd⟩=false by rw [HB2.out,decide_eq_false ha,Bool.and_false])
     clear hw ha
     go_wp2
     go_ret
     exact ⟨by rw [HEND.out];rfl,(HW2.out).alloc HW2.out.size _⟩
   ·have d1:decide ((0:Int)<(r.width:Int))=false:=by simp;omega
    have d1':decide (0<r.width)=false:=decide_eq_false hw
    have HEND:=hide_ (show fixOk1 x ⟨1,(m:Int),fnm,fadd⟩=false by rw [HB2.out,d1'];rfl)
    clear hw
    go_wp2
    go_ret
    exact ⟨by rw [HEND.out];rfl,(HW2.out).alloc HW2.out.size _⟩
  ·have HEND:=hide_ (show fixOk1 x ⟨1,(m:Int),fnm,fadd⟩=false by rw [HE0,HBK2,List.getElem?_eq_none (by have:=HN.out;omega)])
   have d1:decide ((n:Int)≤(m:Int))=true:=by simp;omega
   have d1':decide (n≤m)=true:=by simp;omega
   clear HBK2 HBK HE0 F1 F2
   go_wp2
   go_ret
   exact ⟨by rw [HEND.out];rfl,HW.out⟩
 ·have g1:(fsec == 1)=false:=by simpa using h1
  have HBK2:=HBK.out
  rw [if_neg h1] at HBK2
  clear HBK
  by_cases h2:fsec=2
  ·rw [if_pos h2] at HBK2
   subst h2
   by_cases h3:m+4≤nd
   ·have d1:decide ((nd:Int)<(m:Int)+4)=false:=by simp;omega
    have HF1:=hide_ (show withinB x ⟨2,(m:Int),fnm,fadd⟩=true→fixOk1 x ⟨2,(m:Int),fnm,fadd⟩=false from fun h=>by unfold fixOk1;rw [h];simp)
    have HF2:=hide_ (show withinB x ⟨2,(m:Int),fnm,fadd⟩=false→fixOk1 x ⟨2,(m:Int),fnm,fadd⟩=decide ((x.data.drop m).take 4=[0,0,0,0]) from fun h=>by
     unfold fixOk1
     rw [h,HBK2,decide_eq_true (show (m:Int)+4≤(x.data.length:Int) by have:=HND.out;omega),show nameB (⟨2,(m:Int),fnm,fadd⟩:FixV).name=true from HB1.out.symm]
     simp)
    have m0:(0:Int)≤(m:Int):=by omega
    clear HBK2 h1 F1 F2 HNM
    go_wp2
    go_loopw [9] (fun i wr=>∃ k:Nat,k≤nl∧i=.int .i64 k∧Hid (∀ j,j<k→∀ l,x.labels[j]?=some l→inFix ⟨2,(m:Int),fnm,fadd⟩ l=false) ∧
     wr.cell? ⟨w.heap.size,1,none⟩=some (.slice dA nd dc)∧wr.cell? ⟨w.heap.size,4,none⟩=some (.slice lA nl lc)∧wr.cell? ⟨w.heap.size+1,1,none⟩=some (.int .u32 (m:Int))∧w.heap.size+1<wr.heap.size∧Below w.heap.size w wr) (fun i _=>nl - (intOf i).toNat)
    case atStart=>exact ⟨0,Nat.zero_le _,rfl,hide_ (fun j hj=>absurd hj (by omega)),yy1,yy4,v1,hZ,HW.out⟩
    case round =>
     clear yy0 yy1 yy4 v0 v1 hZ hZ0 HW
     obtain ⟨k,hk,rfl,HALL,yy1,yy4,v1,hZ,hb⟩:=hrel
     have HB:=hide_ hb
     have hZ0:w.heap.size<wr.heap.size:=by omega
     by_cases hlt:k<nl
     ·obtain ⟨t,ht⟩:∃ t,x.labels[k]?=some t:=⟨_,List.getElem?_eq_getElem (by have:=HNL.out;omega)⟩
      obtain ⟨_,⟨sec0,sec1⟩,pl0,pl1⟩:=HOL.out t (List.mem_of_getElem? ht)
      obtain ⟨_,ad,rfl,hbk,p0,p1⟩:=el_cells lE_len (HRL.out.below hb) (by omega) ht
      have q0:=p0 _ rfl
      have q1:=p1 1 _ (by omega) rfl
      have q2:=p1 2 _ (by omega) rfl
      have q3:=p1 3 _ (by omega) rfl
      have hbs:(ad.add (k * 4)).block<wr.heap.size:=by omega
      have HT:=hide_ (fun h=>within_true (x:=x) (f:=⟨2,(m:Int),fnm,fadd⟩) (List.mem_of_getElem? ht) h)
      have HX2:=hide_ (fun (h:inFix ⟨2,(m:Int),fnm,fadd⟩ t=false)=>show ∀ j,j<k+1→∀ l,x.labels[j]?=some l→inFix ⟨2,(m:Int),fnm,fadd⟩ l=false from fun j hj l hjl=>by
       rcases Nat.lt_or_ge j k with h1 | h1
       ·exact HALL.out j h1 l hjl
       ·obtain rfl:j=k:=by omega
        rw [ht] at hjl
        injection hjl with e
        exact e ▸ h)
      obtain ⟨nm,sec,pl,opn⟩:=t
      simp only [inFix] at q0 q1 q2 q3 sec0 sec1 pl0 pl1 HT HX2
      have HBA:=hide_ (HB.out.alloc HB.out.size (.cells #[.string nm,.int .u8 sec,.int .u32 pl,.bool opn] 78))
      have k1:=(World.cell?_alloc_lt wr (.cells #[.string nm,.int .u8 sec,.int .u32 pl,.bool opn] 78) ⟨w.heap.size,1,none⟩ hZ0).trans yy1
      have k4:=(World.cell?_alloc_lt wr (.cells #[.string nm,.int .u8 sec,.int .u32 pl,.bool opn] 78) ⟨w.heap.size,4,none⟩ hZ0).trans yy4
      have k5:=(World.cell?_alloc_lt wr (.cells #[.string nm,.int .u8 sec,.int .u32 pl,.bool opn] 78) ⟨w.heap.size+1,1,none⟩ hZ).trans v1
      have HK:=hide_ (And.intro k1 (And.intro k4 k5))
      clear hb p0 p1 ht hbk k1 k4 k5
      by_cases h2:sec=2
      ·have g2:(sec == 2)=true:=by simpa using h2
       by_cases h3:(m:Int)<pl
       ·have g3:decide ((m:Int)<pl)=true:=decide_eq_true h3
        by_cases h4:pl<(m:Int)+4
        ·have g4:decide (pl<(m:Int)+4)=true:=decide_eq_true h4
         have HEND:=hide_ (HF1.out (HT.out (by rw [decide_eq_true h2,g3,g4];rfl)))
         clear h2 h3 h4
         go_wp2
         go_ret
         exact ⟨by rw [HEND.out];rfl,HBA.out⟩
        ·have g4:decide (pl<(m:Int)+4)=false:=decide_eq_false h4
         have HEND:=hide_ (HX2.out (by rw [g4,Bool.and_false]))
         clear h2 h3 h4
         go_wp2
         go_roundw
         case rel=>obtain ⟨k1,k4,k5⟩:=HK.out;exact ⟨k+1,by omega,by go_num,HEND,k1,k4,k5,by simp;omega,HBA.out⟩
         case measure=>simp [intOf];omega
       ·have g3:decide ((m:Int)<pl)=false:=decide_eq_false h3
        have HEND:=hide_ (HX2.out (by rw [g3,Bool.and_false];rfl))
        clear h2 h3
        go_wp2
        go_roundw
        case rel=>obtain ⟨k1,k4,k5⟩:=HK.out;exact ⟨k+1,by omega,by go_num,HEND,k1,k4,k5,by simp;omega,HBA.out⟩
        case measure=>simp [intOf];omega
      ·have g2:(sec == 2)=false:=by simpa using h2
       have HEND:=hide_ (HX2.out (by rw [decide_eq_false h2,Bool.and_false];rfl))
       clear h2
       go_wp2
       go_roundw
       case rel=>obtain ⟨k1,k4,k5⟩:=HK.out;exact ⟨k+1,by omega,by go_num,HEND,k1,k4,k5,by simp;omega,HBA.out⟩
       case measure=>simp [intOf];omega
     ·obtain rfl:k=nl:=by omega
      have HE1:=HF2.out (within_false (x:=x) (f:=⟨2,(m:Int),fnm,fadd⟩) (fun j hj=>HALL.out j (by rw [HNL.out];exact hj)))
      obtain ⟨ad,rfl,hbk,hcd⟩:=(HRD.out.below hb).2 (by omega)
      have hget:∀ i,i<nd→x.data[i]?=some (x.data[i]?.getD 0):=fun i hi=>by rw [List.getElem?_eq_getElem (by have:=HND.out;omega)];rfl
      obtain ⟨a0,ha0⟩:∃ a,x.data[m]?=some a:=⟨_,hget m (by omega)⟩
      obtain ⟨a1,ha1⟩:∃ a,x.data[m+1]?=some a:=⟨_,hget (m+1) (by omega)⟩
      obtain ⟨a2,ha2⟩:∃ a,x.data[m+2]?=some a:=⟨_,hget (m+2) (by omega)⟩
      obtain ⟨a3,ha3⟩:∃ a,x.data[m+3]?=some a:=⟨_,hget (m+3) (by omega)⟩
      have z0:=hcd m (.int .u8 a0) (by rw [List.getElem?_map,ha0];rfl)
      have z1:=hcd (m+1) (.int .u8 a1) (by rw [List.getElem?_map,ha1];rfl)
      have z2:=hcd (m+2) (.int .u8 a2) (by rw [List.getElem?_map,ha2];rfl)
      have z3:=hcd (m+3) (.int .u8 a3) (by rw [List.getElem?_map,ha3];rfl)
      have e0:(ad.add m).block<wr.heap.size:=by rw [block_of_add];omega
      have e1:ad.block<wr.heap.size:=by omega
      have key:∀ i,ad.add (m+(i+1))=⟨ad.block,ad.off+(m+(i+1)),none⟩:=fun i=>by unfold Addr.add;rw [if_neg (by omega)]
      rw [key 0] at z1
      rw [key 1] at z2
      rw [key 2] at z3
      clear key
      rw [four_at ha0 ha1 ha2 ha3] at HE1
      have i0:(m:Int)<(nd:Int):=by omega
      have i1:(m:Int)+1<(nd:Int):=by omega
      have i2:(m:Int)+2<(nd:Int):=by omega
      have i3:(m:Int)+3<(nd:Int):=by omega
      have n1:((m:Int)+1).toNat=m+1:=by omega
      have n2:((m:Int)+2).toNat=m+2:=by omega
      have n3:((m:Int)+3).toNat=m+3:=by omega
      have HEE:=hide_ HE1
      clear HE1 hb hcd hget ha0 ha1 ha2 ha3 hbk HALL
      by_cases c0:a0=0
      ·have t0:(a0 == 0)=true:=by simpa using c0
       by_cases c1:a1=0
       ·have t1:(a1 == 0)=true:=by simpa using c1
        by_cases c2:a2=0
        ·have t2:(a2 == 0)=true:=by simpa using c2
         by_cases c3:a3=0
         ·have t3:(a3 == 0)=true:=by simpa using c3
          have HEND:=hide_ (HEE.out.trans (decide_eq_true (by rw [c0,c1,c2,c3])))
          clear c0 c1 c2 c3
          go_wp2
          go_ret
          exact ⟨by rw [HEND.out];rfl,HB.out⟩
         ·have t3:(a3 == 0)=false:=by simpa using c3
          have HEND:=hide_ (HEE.out.trans (decide_eq_false (by simp [c3])))
          clear c0 c1 c2 c3
          go_wp2
          go_ret
          exact ⟨by rw [HEND.out];rfl,HB.out⟩
        ·have t2:(a2 == 0)=false:=by simpa using c2
         have HEND:=hide_ (HEE.out.trans (decide_eq_false (by simp [c2])))
         clear c0 c1 c2
         go_wp2
         go_ret
         exact ⟨by rw [HEND.out];rfl,HB.out⟩
       ·have t1:(a1 == 0)=false:=by simpa using c1
        have HEND:=hide_ (HEE.out.trans (decide_eq_false (by simp [c1])))
        clear c0 c1
        go_wp2
        go_ret
        exact ⟨by rw [HEND.out];rfl,HB.out⟩
      ·have t0:(a0 == 0)=false:=by simpa using c0
       have HEND:=hide_ (HEE.out.trans (decide_eq_false (by simp [c0])))
       clear c0
       go_wp2
       go_ret
       exact ⟨by rw [HEND.out];rfl,HB.out⟩
   ·have HEND:=hide_ (show fixOk1 x ⟨2,(m:Int),fnm,fadd⟩=false by unfold fixOk1;rw [HBK2,decide_eq_false (by have:=HND.out;omega)];simp)
    have d1:decide ((nd:Int)<(m:Int)+4)=true:=by simp;omega
    clear HBK2 h1 F1 F2
    go_wp2
    go_ret
    exact ⟨by rw [HEND.out];rfl,HW.out⟩
  ·rw [if_neg h2] at HBK2
   have g2:(fsec != 2)=true:=by simpa using h2
   have HEND:=hide_ (show fixOk1 x ⟨fsec,(m:Int),fnm,fadd⟩=false by unfold fixOk1;rw [HBK2];simp)
   clear HBK2 h1 h2 F1 F2
   go_wp2
   go_ret
   exact ⟨by rw [HEND.out];rfl,HW.out⟩
end Go.Proofs.YtikbegmodacopaaGreatDoor
namespace Go.Proofs.YtikbegmodacopaaGreatDoor
open Go.RowKit Go.PlainAid Go.BigFrame
set_option linter.unusedSimpArgs false
set_option linter.unusedVariables false
set_option maxRecDepth 100000
set_option maxHeartbeats 8000000 in
theorem rfixes_any (x:ObjV) (s:ObjS) (w:World) (hx:ObjOk x) (hB:boundB x=true) (hr:ObjR w w.heap.size x s):Calls Tryz.prog 120 #[.agg (objV x s)] w fun e w'=>e=.returned (.bool (fixesB x))∧Below w.heap.size w w':=by
 have hl:=(boundB_iff.1 hB).2.2.2.2.1
 have HRF:=hide_ hr.rf
 have HMAY:=hide_ (fun (f:FixV) (hn:f.name.size≤140737488351232) (h:0≤f.at_∧f.at_<4294967296) W (hb:Below w.heap.size w W)=>fixMay_any x s f W hx hB hn h ((hr.below hb).more hb.size))
 obtain ⟨⟨cA,cc⟩,⟨dA,dc⟩,⟨lA,lc⟩,⟨fA,fc⟩,⟨tA,tc⟩,⟨eA,ec⟩⟩:=s
 dsimp only [objV] at HRF HMAY ⊢
 have HOK:=hide_ hx.fixes
 obtain ⟨n,hn⟩:∃ n,n=x.fixes.length:=⟨_,rfl⟩
 rw [← hn] at HRF hl HMAY ⊢
 have HN:=hide_ hn
 clear hx hB hr hn
 go_enter Tryz.func120,Tryz.ntmps120
 go_wp2
 go_loopw [3] (fun i wr=>∃ k:Nat,k≤n∧i=.int .i64 k∧Hid (∀ j,j<k→fixOk x j=true) ∧
  wr.cell? ⟨w.heap.size,0,none⟩=some (.slice cA x.code.length cc)∧wr.cell? ⟨w.heap.size,1,none⟩=some (.slice dA x.data.length dc)∧wr.cell? ⟨w.heap.size,2,none⟩=some (.int .u32 x.zero)∧wr.cell? ⟨w.heap.size,3,none⟩=some (.int .u32 x.stack)∧wr.cell? ⟨w.heap.size,4,none⟩=some (.slice lA x.labels.length lc)∧wr.cell? ⟨w.heap.size,5,none⟩=some (.slice fA n fc)∧wr.cell? ⟨w.heap.size,6,none⟩=some (.slice tA x.targets.length tc)∧wr.cell? ⟨w.heap.size,7,none⟩=some (.slice eA x.entries.length ec)∧w.heap.size<wr.heap.size∧Below w.heap.size w wr) (fun i _=>n - (intOf i).toNat)
 case atStart=>exact ⟨0,Nat.zero_le _,rfl,hide_ (fun j hj=>absurd hj (by omega)),by simp,by simp,by simp,by simp,by simp,by simp,by simp,by simp,by simp,(Below.refl _ _).alloc (Nat.le_refl _) _⟩
 case round =>
  obtain ⟨k,hk,rfl,HALL,o0,o1,o2,o3,o4,o5,o6,o7,hml,hb⟩:=hrel
  have hbz:=hb.size
  by_cases hlt:k<n
  ·obtain ⟨t,ht⟩:∃ t,x.fixes[k]?=some t:=⟨_,List.getElem?_eq_getElem (by have:=HN.out;omega)⟩
   obtain ⟨hnmz,⟨sec0,sec1⟩,⟨pl0,pl1⟩,_⟩:=HOK.out t (List.mem_of_getElem? ht)
   obtain ⟨p,hp⟩:∃ p,0<k→x.fixes[k - 1]?=some p:=by
    by_cases h0:0<k
    ·exact ⟨x.fixes[k - 1]'(by have:=HN.out;omega),fun _=>List.getElem?_eq_getElem _⟩
    ·exact ⟨t,fun h=>absurd h h0⟩
   have HLO:=hide_ (fixOk_at ht p hp)
   have HPB:=hide_ (fun h:0<k=>HOK.out p (List.mem_of_getElem? (hp h)))
   have HP:=hide_ hp
   obtain ⟨_,ad,rfl,hbk,p0,p1⟩:=el_cells fE_len (HRF.out.below hb) (by omega) ht
   have q0:=p0 _ rfl
   have q1:=p1 1 _ (by omega) rfl
   have q2:=p1 2 _ (by omega) rfl
   have q3:=p1 3 _ (by omega) rfl
   have hbs:(ad.add (k * 4)).block<wr.heap.size:=by omega
   have HM1:=hide_ (fun W hb=>HMAY.out t hnmz ⟨pl0,pl1⟩ W hb)
   obtain ⟨b1,hb1⟩:∃ b,b=fixOk1 x t:=⟨_,rfl⟩
   rw [← hb1] at HM1 HLO
   have HB:=hide_ hb
   clear p0 p1 ht hp hbk hb1 hb
   obtain ⟨sec,fat,nm,add⟩:=t
   obtain ⟨psec,pat,pnm,padd⟩:=p
   simp only [fixBad] at q0 q1 q2 q3 hnmz sec0 sec1 pl0 pl1 HLO HM1 HP HPB
   have f0:(wr.alloc (.cells #[.int .u8 sec,.int .u32 fat,.string nm,.int .u32 add] 81)).cell? ⟨w.heap.size,0,none⟩=some (.slice cA x.code.length cc):=(World.cell?_alloc_lt wr _ ⟨w.heap.size,0,none⟩ (show w.heap.size<wr.heap.size by omega)).trans o0
   have f1:(wr.alloc (.cells #[.int .u8 sec,.int .u32 fat,.string nm,.int .u32 add] 81)).cell? ⟨w.heap.size,1,none⟩=some (.slice dA x.data.length dc):=(World.cell?_alloc_lt wr _ ⟨w.heap.size,1,none⟩ (show w.heap.size<wr.heap.size by omega)).trans o1
   have f2:(wr.alloc (.cells #[.int .u8 sec,.int .u32 fat,.string nm,.int .u32 add] 81)).cell? ⟨w.heap.size,2,none⟩=some (.int .u32 x.zero):=(World.cell?_alloc_lt wr _ ⟨w.heap.size,2,none⟩ (show w.heap.size<wr.heap.size by omega)).trans o2
   have f3:(wr.alloc (.cells #[.int .u8 sec,.int .u32 fat,.string nm,.int .u32 add] 81)).cell? ⟨w.heap.size,3,none⟩=some (.int .u32 x.stack):=(World.cell?_alloc_lt wr _ ⟨w.heap.size,3,none⟩ (show w.heap.size<wr.heap.size by omega)).trans o3
   have f4:(wr.alloc (.cells #[.int .u8 sec,.int .u32 fat,.string nm,.int .u32 add] 81)).cell? ⟨w.heap.size,4,none⟩=some (.slice lA x.labels.length lc):=(World.cell?_alloc_lt wr _ ⟨w.heap.size,4,none⟩ (show w.heap.size<wr.heap.size by omega)).trans o4
   have f5:(wr.alloc (.cells #[.int .u8 sec,.int .u32 fat,.string nm,.int .u32 add] 81)).cell? ⟨w.heap.size,5,none⟩=some (.slice (some ad) n fc):=(World.cell?_alloc_lt wr _ ⟨w.heap.size,5,none⟩ (show w.heap.size<wr.heap.size by omega)).trans o5
   have f6:(wr.alloc (.cells #[.int .u8 sec,.int .u32 fat,.string nm,.int .u32 add] 81)).cell? ⟨w.heap.size,6,none⟩=some (.slice tA x.targets.length tc):=(World.cell?_alloc_lt wr _ ⟨w.heap.size,6,none⟩ (show w.heap.size<wr.heap.size by omega)).trans o6
   have f7:(wr.alloc (.cells #[.int .u8 sec,.int .u32 fat,.string nm,.int .u32 add] 81)).cell? ⟨w.heap.size,7,none⟩=some (.slice eA x.entries.length ec):=(World.cell?_alloc_lt wr _ ⟨w.heap.size,7,none⟩ (show w.heap.size<wr.heap.size by omega)).trans o7
   have e0:(wr.alloc (.cells #[.int .u8 sec,.int .u32 fat,.string nm,.int .u32 add] 81)).cell? ⟨wr.heap.size,0,none⟩=some (.int .u8 sec):=by simp
   have e1:(wr.alloc (.cells #[.int .u8 sec,.int .u32 fat,.string nm,.int .u32 add] 81)).cell? ⟨wr.heap.size,1,none⟩=some (.int .u32 fat):=by simp
   have e2:(wr.alloc (.cells #[.int .u8 sec,.int .u32 fat,.string nm,.int .u32 add] 81)).cell? ⟨wr.heap.size,2,none⟩=some (.string nm):=by simp
   have e3:(wr.alloc (.cells #[.int .u8 sec,.int .u32 fat,.string nm,.int .u32 add] 81)).cell? ⟨wr.heap.size,3,none⟩=some (.int .u32 add):=by simp
   have hb5:=HB.out.alloc hbz (.cells #[.int .u8 sec,.int .u32 fat,.string nm,.int .u32 add] 81)
   have hz5:wr.heap.size<(wr.alloc (.cells #[.int .u8 sec,.int .u32 fat,.string nm,.int .u32 add] 81)).heap.size:=by simp
   have hwz:w.heap.size<(wr.alloc (.cells #[.int .u8 sec,.int .u32 fat,.string nm,.int .u32 add] 81)).heap.size:=by simp;omega
   have HB5:=hide_ hb5
   clear hb5 o0 o1 o2 o3 o4 o6 o7
   have HEND:=hide_ (fun (h:fixOk x k=false)=>hide_ (show fixesB x=false from range_false (k:=k) (by have:=HN.out;omega) h))
   go_wp2_with fail
   clear q0 q1 q2 q3 hbs hml o5
   generalize (wr.alloc (.cells #[.int .u8 sec,.int .u32 fat,.string nm,.int .u32 add] 81))=w5 at *
   generalize wr.heap.size=g5 at *
   refine (HM1.out _ HB5.out).mono ?_
   rintro e w8 ⟨rfl,hb8⟩
   have f0:=(hb8.cell (p:=⟨w.heap.size,0,none⟩) hwz).trans f0
   have f1:=(hb8.cell (p:=⟨w.heap.size,1,none⟩) hwz).trans f1
   have f2:=(hb8.cell (p:=⟨w.heap.size,2,none⟩) hwz).trans f2
   have f3:=(hb8.cell (p:=⟨w.heap.size,3,none⟩) hwz).trans f3
   have f4:=(hb8.cell (p:=⟨w.heap.size,4,none⟩) hwz).trans f4
   have f5:=(hb8.cell (p:=⟨w.heap.size,5,none⟩) hwz).trans f5
   have f6:=(hb8.cell (p:=⟨w.heap.size,6,none⟩) hwz).trans f6
   have f7:=(hb8.cell (p:=⟨w.heap.size,7,none⟩) hwz).trans f7
   have e0:=(hb8.cell (p:=⟨g5,0,none⟩) hz5).trans e0
   have e1:=(hb8.cell (p:=⟨g5,1,none⟩) hz5).trans e1
   have e2:=(hb8.cell (p:=⟨g5,2,none⟩) hz5).trans e2
   have e3:=(hb8.cell (p:=⟨g5,3,none⟩) hz5).trans e3
   have HB8:=hide_ (HB5.out.trans (hb8.mono HB5.out.size))
   have HRF8:=hide_ (HRF.out.below HB8.out)
   have hs8:=hb8.size
   have hz8:g5<w8.heap.size:=by omega
   have hwz8:w.heap.size<w8.heap.size:=by omega
   clear hb8 hz5 hwz hs8
   cases b1
   ·have HE:=HEND.out (by rw [HLO.out];rfl)
    go_wp2
    go_ret
    exact ⟨by rw [HE.out];rfl,HB8.out⟩
   ·have HLO2:=hide_ (show fixOk x k=(decide (k=0) || !(decide (sec<psec) || (decide (sec=psec) && decide (fat≤pat)) || (decide (sec=psec) && decide (sec=2) && decide (fat - pat<4)))) by rw [HLO.out];rfl)
    by_cases k0:k=0
    ·subst k0
     have HTR:=hide_ (show fixOk x 0=true by rw [HLO2.out];rfl)
     go_wp2
     go_roundw
     case rel=>exact ⟨1,by omega,by first | exact rfl | go_num,hide_ (all_next (f:=fixOk x) (fun j hj=>absurd hj (by omega)) HTR.out),f0,f1,f2,f3,f4,f5,f6,f7,hwz8,HB8.out⟩
     case measure=>simp [intOf];omega
    ·obtain ⟨_,ad2,hA2,hbk2,r0,r1⟩:=el_cells fE_len HRF8.out (by omega) (HP.out (by omega))
     obtain ⟨_,⟨ps0,ps1⟩,⟨pp0,pp1⟩,_⟩:=HPB.out (by omega)
     obtain rfl:ad=ad2:=by injection hA2
     have r0:=r0 _ rfl
     have r2:=r1 2 _ (by omega) rfl
     have r3:=r1 3 _ (by omega) rfl
     have r1:=r1 1 _ (by omega) rfl
     have hbs2:(ad.add ((k - 1) * 4)).block<w8.heap.size:=by omega
     have s1:IntKind.i64.wrap ((k:Int) - 1)=(k:Int) - 1:=IntWalk.i64_in _ (by omega)
     have s2:(0:Int)≤(k:Int) - 1:=by omega
     have s3:((k:Int) - 1).toNat=k - 1:=by omega
     have s4:(k:Int) - 1<(n:Int):=by omega
     have s5:((k:Int) == 0)=false:=by simpa using k0
     have HB9:=hide_ (HB8.out.alloc HB8.out.size (.cells #[.int .u8 psec,.int .u32 pat,.string pnm,.int .u32 padd] 81))
     clear hA2 hbk2
     have hways:Hid ((decide (sec<psec)=true∧fixOk x k=false)∨(decide (sec<psec)=false∧(psec == sec)=false∧fixOk x k=true)∨(decide (sec<psec)=false∧(psec == sec)=true∧decide (fat≤pat)=true∧fixOk x k=false) ∨
       (decide (sec<psec)=false∧(psec == sec)=true∧decide (fat≤pat)=false∧(sec == 2)=false∧fixOk x k=true) ∨
       (decide (sec<psec)=false∧(psec == sec)=true∧decide (fat≤pat)=false∧(sec == 2)=true∧decide (fat<pat+4)=true∧fixOk x k=false) ∨
       (decide (sec<psec)=false∧(psec == sec)=true∧decide (fat≤pat)=false∧(sec == 2)=true∧decide (fat<pat+4)=false∧fixOk x k=true)):=hide_ (by
      rw [HLO2.out,decide_eq_false k0,Bool.false_or]
      have e1:(psec == sec)=decide (sec=psec):=by
       by_cases h:sec=psec
       ·rw [decide_eq_true h,h];simp
       ·rw [decide_eq_false h];simpa using fun e=>h e.symm
      have e2:(sec == 2)=decide (sec=2):=by by_cases h:sec=2 <;> simp [h]
      have e3:decide (fat<pat+4)=decide (fat - pat<4):=by by_cases h:fat<pat+4 <;> simp <;> omega
      rw [e1,e2,e3]
      generalize decide (sec<psec)=a1
      generalize decide (sec=psec)=a2
      generalize decide (fat≤pat)=a3
      generalize decide (sec=2)=a4
      generalize decide (fat - pat<4)=a5
      cases a1 <;> cases a2 <;> cases a3 <;> cases a4 <;> cases a5 <;> simp)
     rcases hways.out with ⟨d1,hE⟩ | ⟨d1,d2,hE⟩ | ⟨d1,d2,d3,hE⟩ | ⟨d1,d2,d3,d4,hE⟩ | ⟨d1,d2,d3,d4,d5,hE⟩ | ⟨d1,d2,d3,d4,d5,hE⟩
     ·have HE:=HEND.out hE
      clear hE
      go_wp2
      go_ret
      exact ⟨by rw [HE.out];rfl,HB9.out⟩
     ·have HTR:=hide_ hE
      clear hE
      go_wp2
      go_roundw
      case rel=>exact ⟨k+1,by omega,by go_num,hide_ (all_next (f:=fixOk x) HALL.out HTR.out),(World.cell?_alloc_lt w8 _ ⟨w.heap.size,0,none⟩ hwz8).trans f0,(World.cell?_alloc_lt w8 _ ⟨w.heap.size,1,none⟩ hwz8).trans f1,(World.cell?_alloc_lt w8 _ ⟨w.heap.size,2,none⟩ hwz8).trans f2,(World.cell?_alloc_lt w8 _ ⟨w.heap.size,3,none⟩ hwz8).trans f3,(World.cell?_alloc_lt w8 _ ⟨w.heap.size,4,none⟩ hwz8).trans f4,(World.cell?_alloc_lt w8 _ ⟨w.heap.size,5,none⟩ hwz8).trans f5,(World.cell?_alloc_lt w8 _ ⟨w.heap.size,6,none⟩ hwz8).trans f6,(World.cell?_alloc_lt w8 _ ⟨w.heap.size,7,none⟩ hwz8).trans f7,by simp;omega,HB9.out⟩
      case measure=>simp [intOf];omega
     ·have HE:=HEND.out hE
      clear hE
      go_wp2
      go_ret
      exact ⟨by rw [HE.out];rfl,HB9.out⟩
     ·have HTR:=hide_ hE
      clear hE
      go_wp2
      go_roundw
      case rel=>exact ⟨k+1,by omega,by go_num,hide_ (all_next (f:=fixOk x) HALL.out HTR.out),(World.cell?_alloc_lt w8 _ ⟨w.heap.size,0,none⟩ hwz8).trans f0,(World.cell?_alloc_lt w8 _ ⟨w.heap.size,1,none⟩ hwz8).trans f1,(World.cell?_alloc_lt w8 _ ⟨w.heap.size,2,none⟩ hwz8).trans f2,(World.cell?_alloc_lt w8 _ ⟨w.heap.size,3,none⟩ hwz8).trans f3,(World.cell?_alloc_lt w8 _ ⟨w.heap.size,4,none⟩ hwz8).trans f4,(World.cell?_alloc_lt w8 _ ⟨w.heap.size,5,none⟩ hwz8).trans f5,(World.cell?_alloc_lt w8 _ ⟨w.heap.size,6,none⟩ hwz8).trans f6,(World.cell?_alloc_lt w8 _ ⟨w.heap.size,7,none⟩ hwz8).trans f7,by simp;omega,HB9.out⟩
      case measure=>simp [intOf];omega
     ·have HE:=HEND.out hE
      clear hE
      go_wp2
      go_ret
      exact ⟨by rw [HE.out];rfl,HB9.out⟩
     ·have HTR:=hide_ hE
      clear hE
      go_wp2
      go_roundw
      case rel=>exact ⟨k+1,by omega,by go_num,hide_ (all_next (f:=fixOk x) HALL.out HTR.out),(World.cell?_alloc_lt w8 _ ⟨w.heap.size,0,none⟩ hwz8).trans f0,(World.cell?_alloc_lt w8 _ ⟨w.heap.size,1,none⟩ hwz8).trans f1,(World.cell?_alloc_lt w8 _ ⟨w.heap.size,2,none⟩ hwz8).trans f2,(World.cell?_alloc_lt w8 _ ⟨w.heap.size,3,none⟩ hwz8).trans f3,(World.cell?_alloc_lt w8 _ ⟨w.heap.size,4,none⟩ hwz8).trans f4,(World.cell?_alloc_lt w8 _ ⟨w.heap.size,5,none⟩ hwz8).trans f5,(World.cell?_alloc_lt w8 _ ⟨w.heap.size,6,none⟩ hwz8).trans f6,(World.cell?_alloc_lt w8 _ ⟨w.heap.size,7,none⟩ hwz8).trans f7,by simp;omega,HB9.out⟩
      case measure=>simp [intOf];omega
  ·obtain rfl:k=n:=by omega
   have HB:=hide_ hb
   have HEND:=hide_ (show fixesB x=true from range_true (fun j hj=>HALL.out j (by rw [HN.out];exact hj)))
   clear hb hbz
   go_wp2
   go_ret
   exact ⟨by rw [HEND.out];rfl,HB.out⟩
end Go.Proofs.YtikbegmodacopaaGreatDoor
namespace Go.Proofs.YtikbegmodacopaaGreatDoor
open Go.RowKit Go.PlainAid Go.BigFrame
set_option linter.unusedSimpArgs false
set_option linter.unusedVariables false
set_option maxRecDepth 100000
theorem inL_false {y:ByteArray} {l:List ByteArray} {k:Nat} (h:∀ j,j<k→∀ t,l[j]?=some t→t≠y):inB y (l.take k)=false:=by
 apply Bool.eq_false_iff.2
 intro h1
 rw [inB_iff] at h1
 obtain ⟨j,hj,rfl⟩:=List.getElem_of_mem h1
 rw [List.length_take] at hj
 rw [List.getElem_take] at h
 exact h j (by omega) _ (List.getElem?_eq_getElem (by omega)) rfl
theorem inL_true {y:ByteArray} {l:List ByteArray} {k j:Nat} (hj:j<k) {t:ByteArray} (h:l[j]?=some t) (he:t=y):inB y (l.take k)=true:=by
 rw [inB_iff]
 exact List.mem_of_getElem? (i:=j) (by rw [List.getElem?_take,if_pos hj,h,he])
theorem inE_false {y:ByteArray} {l:List EntV} {k:Nat} (h:∀ j,j<k→∀ t,l[j]?=some t→t.name≠y):inB y ((l.take k).map (·.name))=false:=by
 apply Bool.eq_false_iff.2
 intro h1
 rw [inB_iff] at h1
 obtain ⟨t,ht,he⟩:=List.mem_map.1 h1
 obtain ⟨j,hj,rfl⟩:=List.getElem_of_mem ht
 rw [List.length_take] at hj
 rw [List.getElem_take] at he
 exact h j (by omega) _ (List.getElem?_eq_getElem (by omega)) he
theorem inE_true {y:ByteArray} {l:List EntV} {k j:Nat} (hj:j<k) {t:EntV} (h:l[j]?=some t) (he:t.name=y):inB y ((l.take k).map (·.name))=true:=by
 rw [inB_iff]
 exact List.mem_map.2 ⟨t,List.mem_of_getElem? (i:=j) (by rw [List.getElem?_take,if_pos hj];exact h),he⟩
theorem ok_bound {x:ObjV} (h:boundB x=false):okB x=false:=by unfold okB;rw [h];rfl
set_option maxHeartbeats 8000000 in
theorem rcheck_any (x:ObjV) (s:ObjS) (w:World) (hx:ObjOk x) (hr:ObjR w w.heap.size x s):Calls Tryz.prog 88 #[.agg (objV x s)] w fun e w'=>e=.returned (.int .i64 (chkV x))∧Below w.heap.size w w':=by
 obtain ⟨m1,m2,m3,m4,m5,m6⟩:=hx.lens
 obtain ⟨z0,z1⟩:=hx.zero
 have HRC:=hide_ hr.rc
 have HRT:=hide_ hr.rt
 have HRE:=hide_ hr.re
 have H2:=hide_ (fun W (hb:Below w.heap.size w W)=>rlabels_any x s W hx ((hr.below hb).more hb.size))
 have H3:=hide_ (fun (hB:boundB x=true) W (hb:Below w.heap.size w W)=>rfixes_any x s W hx hB ((hr.below hb).more hb.size))
 have HNAM:=hide_ (fun (nm:ByteArray) (h:nm.size≤140737488351232) w=>Named_any nm w h)
 have HOC:=hide_ hx.code
 have HOT:=hide_ hx.targets
 have HOE:=hide_ hx.entries
 obtain ⟨⟨cA,cc⟩,⟨dA,dc⟩,⟨lA,lc⟩,⟨fA,fc⟩,⟨tA,tc⟩,⟨eA,ec⟩⟩:=s
 dsimp only [objV] at HRC HRT HRE H2 H3 ⊢
 have HBI:=hide_ (boundB_iff (x:=x))
 obtain ⟨n,hn⟩:∃ n,n=x.code.length:=⟨_,rfl⟩
 obtain ⟨nd,hnd⟩:∃ n,n=x.data.length:=⟨_,rfl⟩
 obtain ⟨nl,hnl⟩:∃ n,n=x.labels.length:=⟨_,rfl⟩
 obtain ⟨nf,hnf⟩:∃ n,n=x.fixes.length:=⟨_,rfl⟩
 obtain ⟨nt,hnt⟩:∃ n,n=x.targets.length:=⟨_,rfl⟩
 obtain ⟨ne,hne⟩:∃ n,n=x.entries.length:=⟨_,rfl⟩
 obtain ⟨z,hz⟩:∃ z,z=x.zero:=⟨_,rfl⟩
 rw [← hn,← hnd,← hnl,← hnf,← hne,← hz] at HBI
 rw [← hn,← hnd,← hnl,← hnf,← hnt,← hne,← hz] at H2 H3 ⊢
 rw [← hn] at HRC m1
 rw [← hnt] at HRT m5
 rw [← hne] at HRE m6
 rw [← hnd] at m2
 rw [← hnl] at m3
 rw [← hnf] at m4
 rw [← hz] at z0 z1
 have HN:=hide_ hn
 have HNT:=hide_ hnt
 have HNE:=hide_ hne
 have f0:(w.alloc (.cells #[.slice cA n cc,.slice dA nd dc,.int .u32 z,.int .u32 x.stack,.slice lA nl lc,.slice fA nf fc,.slice tA nt tc,.slice eA ne ec] 36)).cell? ⟨w.heap.size,0,none⟩=some (.slice cA n cc):=by simp
 have f1:(w.alloc (.cells #[.slice cA n cc,.slice dA nd dc,.int .u32 z,.int .u32 x.stack,.slice lA nl lc,.slice fA nf fc,.slice tA nt tc,.slice eA ne ec] 36)).cell? ⟨w.heap.size,1,none⟩=some (.slice dA nd dc):=by simp
 have f2:(w.alloc (.cells #[.slice cA n cc,.slice dA nd dc,.int .u32 z,.int .u32 x.stack,.slice lA nl lc,.slice fA nf fc,.slice tA nt tc,.slice eA ne ec] 36)).cell? ⟨w.heap.size,2,none⟩=some (.int .u32 z):=by simp
 have f3:(w.alloc (.cells #[.slice cA n cc,.slice dA nd dc,.int .u32 z,.int .u32 x.stack,.slice lA nl lc,.slice fA nf fc,.slice tA nt tc,.slice eA ne ec] 36)).cell? ⟨w.heap.size,3,none⟩=some (.int .u32 x.stack):=by simp
 have f4:(w.alloc (.cells #[.slice cA n cc,.slice dA nd dc,.int .u32 z,.int .u32 x.stack,.slice lA nl lc,.slice fA nf fc,.slice tA nt tc,.slice eA ne ec] 36)).cell? ⟨w.heap.size,4,none⟩=some (.slice lA nl lc):=by simp
 have f5:(w.alloc (.cells #[.slice cA n cc,.slice dA nd dc,.int .u32 z,.int .u32 x.stack,.slice lA nl lc,.slice fA nf fc,.slice tA nt tc,.slice eA ne ec] 36)).cell? ⟨w.heap.size,5,none⟩=some (.slice fA nf fc):=by simp
 have f6:(w.alloc (.cells #[.slice cA n cc,.slice dA nd dc,.int .u32 z,.int .u32 x.stack,.slice lA nl lc,.slice fA nf fc,.slice tA nt tc,.slice eA ne ec] 36)).cell? ⟨w.heap.size,6,none⟩=some (.slice tA nt tc):=by simp
 have f7:(w.alloc (.cells #[.slice cA n cc,.slice dA nd dc,.int .u32 z,.int .u32 x.stack,.slice lA nl lc,.slice fA nf fc,.slice tA nt tc,.slice eA ne ec] 36)).cell? ⟨w.heap.size,7,none⟩=some (.slice eA ne ec):=by simp
 have HB0:=hide_ ((Below.refl w.heap.size w).alloc (Nat.le_refl _) (.cells #[.slice cA n cc,.slice dA nd dc,.int .u32 z,.int .u32 x.stack,.slice lA nl lc,.slice fA nf fc,.slice tA nt tc,.slice eA ne ec] 36))
 have hwz:w.heap.size<(w.alloc (.cells #[.slice cA n cc,.slice dA nd dc,.int .u32 z,.int .u32 x.stack,.slice lA nl lc,.slice fA nf fc,.slice tA nt tc,.slice eA ne ec] 36)).heap.size:=by simp
 have HBF:=hide_ (fun (h:¬ (n≤16384∧nd≤65536∧z≤65536∧nl≤4096∧nf≤16384∧ne≤64))=>ok_bound (x:=x) (Bool.eq_false_iff.2 (fun h2=>h (HBI.out.1 h2))))
 clear hx hr hn hnd hnl hnf hnt hne hz
 by_cases c1:n≤16384
 case neg =>
  have HO:=HBF.out (by omega)
  go_enter Tryz.func88,Tryz.ntmps88
  have HE:=hide_ (chkV_no (x:=x) (HO))
  go_wp2
  go_ret
  exact ⟨by rw [HE.out];rfl,HB0.out⟩
 by_cases c2:nd≤65536
 case neg =>
  have HO:=HBF.out (by omega)
  go_enter Tryz.func88,Tryz.ntmps88
  have HE:=hide_ (chkV_no (x:=x) (HO))
  go_wp2
  go_ret
  exact ⟨by rw [HE.out];rfl,HB0.out⟩
 by_cases c3:z≤65536
 case neg =>
  have HO:=HBF.out (by omega)
  go_enter Tryz.func88,Tryz.ntmps88
  have HE:=hide_ (chkV_no (x:=x) (HO))
  go_wp2
  go_ret
  exact ⟨by rw [HE.out];rfl,HB0.out⟩
 by_cases c4:nl≤4096
 case neg =>
  have HO:=HBF.out (by omega)
  go_enter Tryz.func88,Tryz.ntmps88
  have HE:=hide_ (chkV_no (x:=x) (HO))
  go_wp2
  go_ret
  exact ⟨by rw [HE.out];rfl,HB0.out⟩
 by_cases c5:nf≤16384
 case neg =>
  have HO:=HBF.out (by omega)
  go_enter Tryz.func88,Tryz.ntmps88
  have HE:=hide_ (chkV_no (x:=x) (HO))
  go_wp2
  go_ret
  exact ⟨by rw [HE.out];rfl,HB0.out⟩
 by_cases c6:ne≤64
 case neg =>
  have HO:=HBF.out (by omega)
  go_enter Tryz.func88,Tryz.ntmps88
  have HE:=hide_ (chkV_no (x:=x) (HO))
  go_wp2
  go_ret
  exact ⟨by rw [HE.out];rfl,HB0.out⟩
 have HBT:=hide_ (HBI.out.2 ⟨c1,c2,c3,c4,c5,c6⟩)
 clear HBF HBI
 go_enter Tryz.func88,Tryz.ntmps88
 go_wp2
 go_loopw [3] (fun i wr=>∃ k:Nat,k≤n∧i=.int .i64 k∧Hid (∀ j,j<k→(match x.code[j]? with
   | none=>true
   | some t=>decide (opChk t.1 t.2=0))=true)∧wr.cell? ⟨w.heap.size,0,none⟩=some (.slice cA n cc)∧wr.cell? ⟨w.heap.size,1,none⟩=some (.slice dA nd dc)∧wr.cell? ⟨w.heap.size,2,none⟩=some (.int .u32 z)∧wr.cell? ⟨w.heap.size,3,none⟩=some (.int .u32 x.stack)∧wr.cell? ⟨w.heap.size,4,none⟩=some (.slice lA nl lc)∧wr.cell? ⟨w.heap.size,5,none⟩=some (.slice fA nf fc)∧wr.cell? ⟨w.heap.size,6,none⟩=some (.slice tA nt tc)∧wr.cell? ⟨w.heap.size,7,none⟩=some (.slice eA ne ec)∧w.heap.size<wr.heap.size∧Below w.heap.size w wr) (fun i _=>n - (intOf i).toNat)
 case atStart=>exact ⟨0,Nat.zero_le _,rfl,hide_ (fun j hj=>absurd hj (by omega)),f0,f1,f2,f3,f4,f5,f6,f7,hwz,HB0.out⟩
 case round =>
  clear HB0 f0 f1 f2 f3 f4 f5 f6 f7 hwz
  obtain ⟨k,hk,rfl,HALL,f0,f1,f2,f3,f4,f5,f6,f7,hwz,hb⟩:=hrel
  have HB:=hide_ hb
  by_cases hlt:k<n
  ·obtain ⟨t,ht⟩:∃ t,x.code[k]?=some t:=⟨_,List.getElem?_eq_getElem (by have:=HN.out;omega)⟩
   obtain ⟨⟨op0,op1⟩,ar0,ar1⟩:=HOC.out t (List.mem_of_getElem? ht)
   obtain ⟨_,ad,rfl,hbk,p0,p1⟩:=el_cells cE_len (HRC.out.below hb) (by omega) ht
   have q0:=p0 _ rfl
   have q1:=p1 1 _ (by omega) rfl
   have hbs:(ad.add (k * 2)).block<wr.heap.size:=by omega
   have HLO:=hide_ (codeOk_at ht)
   obtain ⟨op,arg⟩:=t
   simp only at q0 q1 op0 op1 ar0 ar1 HLO
   have HCK:=hide_ (fun W=>rCheck_any op arg op0 op1 W)
   obtain ⟨y,hy⟩:∃ z,z=opChk op arg:=⟨_,rfl⟩
   rw [← hy] at HCK HLO
   clear hb p0 p1 ht hbk hy
   go_wp2_with fail
   refine (HCK.out _).mono ?_
   rintro e w9 ⟨rfl,hb9⟩
   have f0:=(hb9.cell (p:=⟨w.heap.size,0,none⟩) hwz).trans f0
   have f1:=(hb9.cell (p:=⟨w.heap.size,1,none⟩) hwz).trans f1
   have f2:=(hb9.cell (p:=⟨w.heap.size,2,none⟩) hwz).trans f2
   have f3:=(hb9.cell (p:=⟨w.heap.size,3,none⟩) hwz).trans f3
   have f4:=(hb9.cell (p:=⟨w.heap.size,4,none⟩) hwz).trans f4
   have f5:=(hb9.cell (p:=⟨w.heap.size,5,none⟩) hwz).trans f5
   have f6:=(hb9.cell (p:=⟨w.heap.size,6,none⟩) hwz).trans f6
   have f7:=(hb9.cell (p:=⟨w.heap.size,7,none⟩) hwz).trans f7
   have hwz9:w.heap.size<w9.heap.size:=Nat.lt_of_lt_of_le hwz hb9.size
   have HB9:=hide_ (HB.out.trans (hb9.mono HB.out.size))
   clear hb9 q0 q1
   by_cases h0:y=0
   ·have g:(y != 0)=false:=by simpa using h0
    have HTR:=hide_ (HLO.out.trans (decide_eq_true h0))
    clear h0
    go_wp2
    go_roundw
    case rel=>exact ⟨k+1,by omega,by go_num,hide_ (all_next HALL.out HTR.out),f0,f1,f2,f3,f4,f5,f6,f7,hwz9,HB9.out⟩
    case measure=>simp [intOf];omega
   ·have g:(y != 0)=true:=by simpa using h0
    have HO:=hide_ (show okB x=false by unfold okB;rw [show codeB x=false from range_false (k:=k) (by have:=HN.out;omega) (HLO.out.trans (decide_eq_false h0)),Bool.and_false])
    clear h0
    have HE:=hide_ (chkV_no (x:=x) (HO.out))
    go_wp2
    go_ret
    exact ⟨by rw [HE.out];rfl,HB9.out⟩
  ·obtain rfl:n=k:=by omega
   have HCB:=hide_ (show codeB x=true from range_true (fun j hj=>HALL.out j (by rw [HN.out];exact hj)))
   clear hb HALL HOC HRC
   obtain ⟨b2,hb2⟩:∃ b,b=labsB x:=⟨_,rfl⟩
   obtain ⟨b3,hb3⟩:∃ b,b=fixesB x:=⟨_,rfl⟩
   rw [← hb2] at H2
   rw [← hb3] at H3
   have E2:=hide_ hb2
   have E3:=hide_ hb3
   clear hb2 hb3
   go_wp2_with fail
   refine (H2.out _ HB.out).mono ?_
   rintro e w2 ⟨rfl,hb2⟩
   have f0:=(hb2.cell (p:=⟨w.heap.size,0,none⟩) hwz).trans f0
   have f1:=(hb2.cell (p:=⟨w.heap.size,1,none⟩) hwz).trans f1
   have f2:=(hb2.cell (p:=⟨w.heap.size,2,none⟩) hwz).trans f2
   have f3:=(hb2.cell (p:=⟨w.heap.size,3,none⟩) hwz).trans f3
   have f4:=(hb2.cell (p:=⟨w.heap.size,4,none⟩) hwz).trans f4
   have f5:=(hb2.cell (p:=⟨w.heap.size,5,none⟩) hwz).trans f5
   have f6:=(hb2.cell (p:=⟨w.heap.size,6,none⟩) hwz).trans f6
   have f7:=(hb2.cell (p:=⟨w.heap.size,7,none⟩) hwz).trans f7
   have HB2:=hide_ (HB.out.trans (hb2.mono HB.out.size))
   have hwz2:w.heap.size<w2.heap.size:=Nat.lt_of_lt_of_le hwz hb2.size
   clear hb2
   cases b2
   ·have HO:=hide_ (show okB x=false by unfold okB;rw [← E2.out];simp)
    have HE:=hide_ (chkV_no (x:=x) (HO.out))
    go_wp2
    go_ret
    exact ⟨by rw [HE.out];rfl,HB2.out⟩
   ·go_wp2_with fail
    refine (H3.out HBT.out _ HB2.out).mono ?_
    rintro e w3 ⟨rfl,hb3⟩
    have f0:=(hb3.cell (p:=⟨w.heap.size,0,none⟩) hwz2).trans f0
    have f1:=(hb3.cell (p:=⟨w.heap.size,1,none⟩) hwz2).trans f1
    have f2:=(hb3.cell (p:=⟨w.heap.size,2,none⟩) hwz2).trans f2
    have f3:=(hb3.cell (p:=⟨w.heap.size,3,none⟩) hwz2).trans f3
    have f4:=(hb3.cell (p:=⟨w.heap.size,4,none⟩) hwz2).trans f4
    have f5:=(hb3.cell (p:=⟨w.heap.size,5,none⟩) hwz2).trans f5
    have f6:=(hb3.cell (p:=⟨w.heap.size,6,none⟩) hwz2).trans f6
    have f7:=(hb3.cell (p:=⟨w.heap.size,7,none⟩) hwz2).trans f7
    have HB3:=hide_ (HB2.out.trans (hb3.mono HB2.out.size))
    have hwz3:w.heap.size<w3.heap.size:=Nat.lt_of_lt_of_le hwz2 hb3.size
    clear hb3 hwz hwz2
    cases b3
    ·have HO:=hide_ (show okB x=false by unfold okB;rw [← E3.out];simp)
     have HE:=hide_ (chkV_no (x:=x) (HO.out))
     go_wp2
     go_ret
     exact ⟨by rw [HE.out];rfl,HB3.out⟩
    ·have HOKX:=hide_ (show okB x=(tgtsB x && entsB x) by unfold okB;rw [HBT.out,← E2.out,← E3.out,HCB.out];simp)
     clear H2 H3 E2 E3 HBT HCB HB HB2
     go_wp2
     go_loopw [4] (fun i wr=>∃ k:Nat,k≤nt∧i=.int .i64 k∧Hid (∀ j,j<k→tgtOk x j=true)∧wr.cell? ⟨w.heap.size,0,none⟩=some (.slice cA n cc)∧wr.cell? ⟨w.heap.size,1,none⟩=some (.slice dA nd dc)∧wr.cell? ⟨w.heap.size,2,none⟩=some (.int .u32 z)∧wr.cell? ⟨w.heap.size,3,none⟩=some (.int .u32 x.stack)∧wr.cell? ⟨w.heap.size,4,none⟩=some (.slice lA nl lc)∧wr.cell? ⟨w.heap.size,5,none⟩=some (.slice fA nf fc)∧wr.cell? ⟨w.heap.size,6,none⟩=some (.slice tA nt tc)∧wr.cell? ⟨w.heap.size,7,none⟩=some (.slice eA ne ec)∧w.heap.size<wr.heap.size∧Below w.heap.size w wr) (fun i _=>nt - (intOf i).toNat)
     case atStart=>exact ⟨0,Nat.zero_le _,rfl,hide_ (fun j hj=>absurd hj (by omega)),f0,f1,f2,f3,f4,f5,f6,f7,hwz3,HB3.out⟩
     case round =>
      clear HB3 f0 f1 f2 f3 f4 f5 f6 f7 hwz3
      obtain ⟨k,hk,rfl,HALL,f0,f1,f2,f3,f4,f5,f6,f7,hwz,hb⟩:=hrel
      have HB:=hide_ hb
      by_cases hlt:k<nt
      ·obtain ⟨t,ht⟩:∃ t,x.targets[k]?=some t:=⟨_,List.getElem?_eq_getElem (by have:=HNT.out;omega)⟩
       have htz:=HOT.out t (List.mem_of_getElem? ht)
       have HLO:=hide_ (tgtOk_at ht)
       obtain ⟨ad,u,rfl,hbk,hu,hc⟩:=(HRT.out.below hb).at_ hlt
       have hu2:u=.string t:=by
        rw [strV,List.getElem?_map,ht] at hu
        simpa using hu.symm
       subst hu2
       have hbs:(ad.add k).block<wr.heap.size:=by rw [block_of_add];omega
       have hbs0:(ad.add k).block<w.heap.size:=by rw [block_of_add];omega
       have HN1:=hide_ (fun W=>HNAM.out t htz W)
       obtain ⟨b1,hb1⟩:∃ b,b=nameB t:=⟨_,rfl⟩
       rw [← hb1] at HN1 HLO
       have HBAD:=hide_ (fun (h:tgtOk x k=false)=>show okB x=false by rw [HOKX.out,show tgtsB x=false from range_false (k:=k) (by have:=HNT.out;omega) h];rfl)
       clear hb ht hu hb1
       go_wp2_with fail
       refine (HN1.out _).mono ?_
       rintro e w9 ⟨rfl,hb9⟩
       have f0:=(hb9.cell (p:=⟨w.heap.size,0,none⟩) hwz).trans f0
       have f1:=(hb9.cell (p:=⟨w.heap.size,1,none⟩) hwz).trans f1
       have f2:=(hb9.cell (p:=⟨w.heap.size,2,none⟩) hwz).trans f2
       have f3:=(hb9.cell (p:=⟨w.heap.size,3,none⟩) hwz).trans f3
       have f4:=(hb9.cell (p:=⟨w.heap.size,4,none⟩) hwz).trans f4
       have f5:=(hb9.cell (p:=⟨w.heap.size,5,none⟩) hwz).trans f5
       have f6:=(hb9.cell (p:=⟨w.heap.size,6,none⟩) hwz).trans f6
       have f7:=(hb9.cell (p:=⟨w.heap.size,7,none⟩) hwz).trans f7
       have y1:=(hb9.cell (p:=ad.add k) hbs).trans hc
       have hwz9:w.heap.size<w9.heap.size:=Nat.lt_of_lt_of_le hwz hb9.size
       have HB9:=hide_ (HB.out.trans (hb9.mono HB.out.size))
       have hby:(ad.add k).block<w9.heap.size:=Nat.lt_of_lt_of_le hbs hb9.size
       clear hb9 hc hwz
       cases b1
       ·have HO:=hide_ (HBAD.out (by rw [HLO.out];rfl))
        have HE:=hide_ (chkV_no (x:=x) (HO.out))
        go_wp2
        go_ret
        exact ⟨by rw [HE.out];rfl,HB9.out⟩
       ·have HLO2:=hide_ (show tgtOk x k=!inB t (x.targets.take k) by rw [HLO.out];rfl)
        go_wp2
        go_loopw [5] (fun i wr=>∃ j:Nat,j≤k∧i=.int .i64 j∧Hid (∀ q,q<j→∀ u,x.targets[q]?=some u→u≠t)∧Below w9.heap.size w9 wr) (fun i _=>k - (intOf i).toNat)
        case atStart=>exact ⟨0,Nat.zero_le _,rfl,hide_ (fun q hq=>absurd hq (by omega)),Below.refl _ _⟩
        case round =>
         obtain ⟨j,hj,rfl,HNE,hbr⟩:=hrel
         have f0:=(hbr.cell (p:=⟨w.heap.size,0,none⟩) hwz9).trans f0
         have f1:=(hbr.cell (p:=⟨w.heap.size,1,none⟩) hwz9).trans f1
         have f2:=(hbr.cell (p:=⟨w.heap.size,2,none⟩) hwz9).trans f2
         have f3:=(hbr.cell (p:=⟨w.heap.size,3,none⟩) hwz9).trans f3
         have f4:=(hbr.cell (p:=⟨w.heap.size,4,none⟩) hwz9).trans f4
         have f5:=(hbr.cell (p:=⟨w.heap.size,5,none⟩) hwz9).trans f5
         have f6:=(hbr.cell (p:=⟨w.heap.size,6,none⟩) hwz9).trans f6
         have f7:=(hbr.cell (p:=⟨w.heap.size,7,none⟩) hwz9).trans f7
         have y1:=(hbr.cell (p:=ad.add k) hby).trans y1
         have hwz:w.heap.size<wr.heap.size:=Nat.lt_of_lt_of_le hwz9 hbr.size
         have hbs1:(ad.add k).block<wr.heap.size:=Nat.lt_of_lt_of_le hby hbr.size
         have HBr:=hide_ (HB9.out.trans (hbr.mono HB9.out.size))
         have HB9r:=hide_ hbr
         clear hbr
         by_cases hlt2:j<k
         ·obtain ⟨v,hv⟩:∃ t,x.targets[j]?=some t:=⟨_,List.getElem?_eq_getElem (by have:=HNT.out;omega)⟩
          obtain ⟨ad2,u2,hA2,_,hu2,y0⟩:=(HRT.out.below HBr.out).at_ (show j<nt by omega)
          obtain rfl:ad=ad2:=by injection hA2
          have hu3:u2=.string v:=by
           rw [strV,List.getElem?_map,hv] at hu2
           simpa using hu2.symm
          subst hu3
          have hbs2:(ad.add j).block<wr.heap.size:=by rw [block_of_add] at hbs1 ⊢;exact hbs1
          have HV:=hide_ hv
          have i1:(0:Int)≤(j:Int):=by omega
          have i2:(j:Int)<(nt:Int):=by omega
          have i3:(0:Int)≤(k:Int):=by omega
          have i4:(k:Int)<(nt:Int):=by omega
          clear hA2 hu2 hv
          by_cases hnm:v=t
          ·have hq:(v.toList == t.toList)=true:=by rw [str_beq,decide_eq_true hnm]
           have hq2:(t.toList == v.toList)=true:=by rw [str_beq,decide_eq_true hnm.symm]
           have HO:=hide_ (HBAD.out (by rw [HLO2.out,inL_true hlt2 HV.out hnm];rfl))
           clear hnm
           go_wp2
           have HK:=hide_ ((And.intro f0 (And.intro f1 (And.intro f2 (And.intro f3 (And.intro f4 (And.intro f5 (And.intro f6 (And.intro f7 (And.intro y0 y1))))))))))
           replace f0:=cell_regrown f0
           replace f1:=cell_regrown f1
           replace f2:=cell_regrown f2
           replace f3:=cell_regrown f3
           replace f4:=cell_regrown f4
           replace f5:=cell_regrown f5
           replace f6:=cell_regrown f6
           replace f7:=cell_regrown f7
           replace y0:=cell_regrown y0
           replace y1:=cell_regrown y1
           refine wp_region_quiet_below (by kernel_rfl) (by kernel_rfl) ?_
           repeat (go_big_quiet_step (fail))
           refine wpQuiet_nil ?_
           intro w8 hw'
           obtain ⟨⟨dq,osq⟩,hw''⟩:=hw'
           have hbw8:Below wr.heap.size wr w8:=by rw [hw''];exact below_regrown wr dq osq
           clear hw'' f0 f1 f2 f3 f4 f5 f6 f7 y0 y1
           obtain ⟨f0,f1,f2,f3,f4,f5,f6,f7,y0,y1⟩:=HK.out
           have f0:=(hbw8.cell (p:=⟨w.heap.size,0,none⟩) hwz).trans f0
           have f1:=(hbw8.cell (p:=⟨w.heap.size,1,none⟩) hwz).trans f1
           have f2:=(hbw8.cell (p:=⟨w.heap.size,2,none⟩) hwz).trans f2
           have f3:=(hbw8.cell (p:=⟨w.heap.size,3,none⟩) hwz).trans f3
           have f4:=(hbw8.cell (p:=⟨w.heap.size,4,none⟩) hwz).trans f4
           have f5:=(hbw8.cell (p:=⟨w.heap.size,5,none⟩) hwz).trans f5
           have f6:=(hbw8.cell (p:=⟨w.heap.size,6,none⟩) hwz).trans f6
           have f7:=(hbw8.cell (p:=⟨w.heap.size,7,none⟩) hwz).trans f7
           have y0:=(hbw8.cell (p:=ad.add j) hbs2).trans y0
           have y1:=(hbw8.cell (p:=ad.add k) hbs1).trans y1
           clear HK
           have HB8:=hide_ (HBr.out.trans (hbw8.mono HBr.out.size))
           clear hbw8
           have HE:=hide_ (chkV_no (x:=x) (HO.out))
           go_wp2
           go_ret
           exact ⟨by rw [HE.out];rfl,HB8.out⟩
          ·have hq:(v.toList == t.toList)=false:=by rw [str_beq,decide_eq_false hnm]
           have hq2:(t.toList == v.toList)=false:=by rw [str_beq,decide_eq_false (fun e=>hnm e.symm)]
           have HNX:=hide_ (show ∀ q,q<j+1→∀ u,x.targets[q]?=some u→u≠t from fun q hq u hu=>by
            rcases Nat.lt_or_ge q j with h1 | h1
            ·exact HNE.out q h1 u hu
            ·obtain rfl:q=j:=by omega
             rw [HV.out] at hu
             injection hu with e
             exact e ▸ hnm)
           clear hnm
           go_wp2
           have HK:=hide_ ((And.intro f0 (And.intro f1 (And.intro f2 (And.intro f3 (And.intro f4 (And.intro f5 (And.intro f6 (And.intro f7 (And.intro y0 y1))))))))))
           replace f0:=cell_regrown f0
           replace f1:=cell_regrown f1
           replace f2:=cell_regrown f2
           replace f3:=cell_regrown f3
           replace f4:=cell_regrown f4
           replace f5:=cell_regrown f5
           replace f6:=cell_regrown f6
           replace f7:=cell_regrown f7
           replace y0:=cell_regrown y0
           replace y1:=cell_regrown y1
           refine wp_region_quiet_below (by kernel_rfl) (by kernel_rfl) ?_
           repeat (go_big_quiet_step (fail))
           refine wpQuiet_nil ?_
           intro w8 hw'
           obtain ⟨⟨dq,osq⟩,hw''⟩:=hw'
           have hbw8:Below wr.heap.size wr w8:=by rw [hw''];exact below_regrown wr dq osq
           clear hw'' f0 f1 f2 f3 f4 f5 f6 f7 y0 y1
           obtain ⟨f0,f1,f2,f3,f4,f5,f6,f7,y0,y1⟩:=HK.out
           have f0:=(hbw8.cell (p:=⟨w.heap.size,0,none⟩) hwz).trans f0
           have f1:=(hbw8.cell (p:=⟨w.heap.size,1,none⟩) hwz).trans f1
           have f2:=(hbw8.cell (p:=⟨w.heap.size,2,none⟩) hwz).trans f2
           have f3:=(hbw8.cell (p:=⟨w.heap.size,3,none⟩) hwz).trans f3
           have f4:=(hbw8.cell (p:=⟨w.heap.size,4,none⟩) hwz).trans f4
           have f5:=(hbw8.cell (p:=⟨w.heap.size,5,none⟩) hwz).trans f5
           have f6:=(hbw8.cell (p:=⟨w.heap.size,6,none⟩) hwz).trans f6
           have f7:=(hbw8.cell (p:=⟨w.heap.size,7,none⟩) hwz).trans f7
           have y0:=(hbw8.cell (p:=ad.add j) hbs2).trans y0
           have y1:=(hbw8.cell (p:=ad.add k) hbs1).trans y1
           clear HK
           have HB98:=hide_ (HB9r.out.trans (hbw8.mono HB9r.out.size))
           clear hbw8
           go_wp2
           go_roundw
           case rel=>exact ⟨j+1,by omega,by go_num,HNX,HB98.out⟩
           case measure=>simp [intOf];omega
         ·have hjk:k=j:=by omega
          subst hjk
          have HTR:=hide_ (show tgtOk x k=true by rw [HLO2.out,inL_false HNE.out];rfl)
          go_wp2
          go_roundw
          case rel=>exact ⟨k+1,by omega,by go_num,hide_ (all_next (f:=tgtOk x) HALL.out HTR.out),f0,f1,f2,f3,f4,f5,f6,f7,hwz,HBr.out⟩
          case measure=>simp [intOf];omega
      ·obtain rfl:nt=k:=by omega
       have HTG:=hide_ (show okB x=entsB x by rw [HOKX.out,show tgtsB x=true from range_true (fun j hj=>HALL.out j (by rw [HNT.out];exact hj))];rfl)
       clear HALL hb HOKX HOT HRT
       go_wp2
       go_loopw [6] (fun i wr=>∃ k:Nat,k≤ne∧i=.int .i64 k∧Hid (∀ j,j<k→entOk x j=true)∧wr.cell? ⟨w.heap.size,0,none⟩=some (.slice cA n cc)∧wr.cell? ⟨w.heap.size,1,none⟩=some (.slice dA nd dc)∧wr.cell? ⟨w.heap.size,2,none⟩=some (.int .u32 z)∧wr.cell? ⟨w.heap.size,3,none⟩=some (.int .u32 x.stack)∧wr.cell? ⟨w.heap.size,4,none⟩=some (.slice lA nl lc)∧wr.cell? ⟨w.heap.size,5,none⟩=some (.slice fA nf fc)∧wr.cell? ⟨w.heap.size,6,none⟩=some (.slice tA nt tc)∧wr.cell? ⟨w.heap.size,7,none⟩=some (.slice eA ne ec)∧w.heap.size<wr.heap.size∧Below w.heap.size w wr) (fun i _=>ne - (intOf i).toNat)
       case atStart=>exact ⟨0,Nat.zero_le _,rfl,hide_ (fun j hj=>absurd hj (by omega)),f0,f1,f2,f3,f4,f5,f6,f7,hwz,HB.out⟩
       case round =>
        clear HB f0 f1 f2 f3 f4 f5 f6 f7 hwz
        obtain ⟨k,hk,rfl,HALL,f0,f1,f2,f3,f4,f5,f6,f7,hwz,hb⟩:=hrel
        have HB:=hide_ hb
        by_cases hlt:k<ne
        ·obtain ⟨t,ht⟩:∃ t,x.entries[k]?=some t:=⟨_,List.getElem?_eq_getElem (by have:=HNE.out;omega)⟩
         obtain ⟨htz,hlz⟩:=HOE.out t (List.mem_of_getElem? ht)
         have HLO:=hide_ (entOk_at ht)
         obtain ⟨_,ad,rfl,hbk,p0,p1⟩:=el_cells eE_len (HRE.out.below hb) (by omega) ht
         have q0:=p0 _ rfl
         have q1:=p1 1 _ (by omega) rfl
         have hbs:(ad.add (k * 2)).block<wr.heap.size:=by have:=HB.out.size;omega
         obtain ⟨nm,lab⟩:=t
         simp only at q0 q1 htz hlz HLO
         have HN1:=hide_ (fun W=>HNAM.out lab hlz W)
         obtain ⟨b1,hb1⟩:∃ b,b=nameB lab:=⟨_,rfl⟩
         rw [← hb1] at HN1 HLO
         obtain ⟨sz,hsz⟩:∃ z,z=nm.size:=⟨_,rfl⟩
         have HBAD:=hide_ (fun (h:entOk x k=false)=>show okB x=false by rw [HTG.out,show entsB x=false from range_false (k:=k) (by have:=HNE.out;omega) h])
         clear hb ht hb1 p0 p1 hbk
         by_cases hs1:nm.size<1
         ·have d1:decide (nm.size<1)=true:=decide_eq_true hs1
          have d2:decide ((nm.size:Int)<1)=true:=by simp;omega
          have HO:=hide_ (HBAD.out (by rw [HLO.out,d1];simp))
          clear hs1
          have HE:=hide_ (chkV_no (x:=x) (HO.out))
          go_wp2
          go_ret
          exact ⟨by rw [HE.out];rfl,HB.out⟩
         ·have d1:decide (nm.size<1)=false:=decide_eq_false hs1
          have d2:decide ((nm.size:Int)<1)=false:=by simp;omega
          by_cases hs2:32<nm.size
          ·have d3:decide (32<nm.size)=true:=decide_eq_true hs2
           have d4:decide ((32:Int)<(nm.size:Int))=true:=by simp;omega
           have HO:=hide_ (HBAD.out (by rw [HLO.out,d1,d3];simp))
           clear hs1 hs2
           have HE:=hide_ (chkV_no (x:=x) (HO.out))
           go_wp2
           go_ret
           exact ⟨by rw [HE.out];rfl,HB.out⟩
          ·have d3:decide (32<nm.size)=false:=decide_eq_false hs2
           have d4:decide ((32:Int)<(nm.size:Int))=false:=by simp;omega
           have HLO1:=hide_ (show entOk x k=(!inB nm ((x.entries.take k).map (·.name)) && b1) by rw [HLO.out,d1,d3];simp)
           clear hs1 hs2
           go_wp2_with fail
           refine (HN1.out _).mono ?_
           rintro e w9 ⟨rfl,hb9⟩
           have f0:=(hb9.cell (p:=⟨w.heap.size,0,none⟩) hwz).trans f0
           have f1:=(hb9.cell (p:=⟨w.heap.size,1,none⟩) hwz).trans f1
           have f2:=(hb9.cell (p:=⟨w.heap.size,2,none⟩) hwz).trans f2
           have f3:=(hb9.cell (p:=⟨w.heap.size,3,none⟩) hwz).trans f3
           have f4:=(hb9.cell (p:=⟨w.heap.size,4,none⟩) hwz).trans f4
           have f5:=(hb9.cell (p:=⟨w.heap.size,5,none⟩) hwz).trans f5
           have f6:=(hb9.cell (p:=⟨w.heap.size,6,none⟩) hwz).trans f6
           have f7:=(hb9.cell (p:=⟨w.heap.size,7,none⟩) hwz).trans f7
           have y1:=(hb9.cell (p:=ad.add (k * 2)) hbs).trans q0
           have hwz9:w.heap.size<w9.heap.size:=Nat.lt_of_lt_of_le hwz hb9.size
           have HB9:=hide_ (HB.out.trans (hb9.mono HB.out.size))
           have hby:(ad.add (k * 2)).block<w9.heap.size:=Nat.lt_of_lt_of_le hbs hb9.size
           clear hb9 q0 q1 hwz
           cases b1
           ·have HO:=hide_ (HBAD.out (by rw [HLO1.out];simp))
            have HE:=hide_ (chkV_no (x:=x) (HO.out))
            go_wp2
            go_ret
            exact ⟨by rw [HE.out];rfl,HB9.out⟩
           ·have HLO2:=hide_ (show entOk x k=!inB nm ((x.entries.take k).map (·.name)) by rw [HLO1.out];simp)
            go_wp2
            go_loopw [7] (fun i wr=>∃ j:Nat,j≤k∧i=.int .i64 j∧Hid (∀ q,q<j→∀ u,x.entries[q]?=some u→u.name≠nm)∧Below w9.heap.size w9 wr) (fun i _=>k - (intOf i).toNat)
            case atStart=>exact ⟨0,Nat.zero_le _,rfl,hide_ (fun q hq=>absurd hq (by omega)),Below.refl _ _⟩
            case round =>
             obtain ⟨j,hj,rfl,HNX0,hbr⟩:=hrel
             have f0:=(hbr.cell (p:=⟨w.heap.size,0,none⟩) hwz9).trans f0
             have f1:=(hbr.cell (p:=⟨w.heap.size,1,none⟩) hwz9).trans f1
             have f2:=(hbr.cell (p:=⟨w.heap.size,2,none⟩) hwz9).trans f2
             have f3:=(hbr.cell (p:=⟨w.heap.size,3,none⟩) hwz9).trans f3
             have f4:=(hbr.cell (p:=⟨w.heap.size,4,none⟩) hwz9).trans f4
             have f5:=(hbr.cell (p:=⟨w.heap.size,5,none⟩) hwz9).trans f5
             have f6:=(hbr.cell (p:=⟨w.heap.size,6,none⟩) hwz9).trans f6
             have f7:=(hbr.cell (p:=⟨w.heap.size,7,none⟩) hwz9).trans f7
             have y1:=(hbr.cell (p:=ad.add (k * 2)) hby).trans y1
             have hwz:w.heap.size<wr.heap.size:=Nat.lt_of_lt_of_le hwz9 hbr.size
             have hbs1:(ad.add (k * 2)).block<wr.heap.size:=Nat.lt_of_lt_of_le hby hbr.size
             have HBr:=hide_ (HB9.out.trans (hbr.mono HB9.out.size))
             have HB9r:=hide_ hbr
             clear hbr
             by_cases hlt2:j<k
             ·obtain ⟨v,hv⟩:∃ t,x.entries[j]?=some t:=⟨_,List.getElem?_eq_getElem (by have:=HNE.out;omega)⟩
              obtain ⟨_,ad2,hA2,_,p0,_⟩:=el_cells eE_len (HRE.out.below HBr.out) (by omega) hv
              obtain rfl:ad=ad2:=by injection hA2
              have y0:=p0 _ rfl
              have hbs2:(ad.add (j * 2)).block<wr.heap.size:=by rw [block_of_add] at hbs1 ⊢;exact hbs1
              obtain ⟨vn,vl⟩:=v
              simp only at y0
              have HV:=hide_ hv
              have i1:(0:Int)≤(j:Int):=by omega
              have i2:(j:Int)<(ne:Int):=by omega
              have i3:(0:Int)≤(k:Int):=by omega
              have i4:(k:Int)<(ne:Int):=by omega
              clear hA2 hv p0
              by_cases hnm:vn=nm
              ·have hq:(vn.toList == nm.toList)=true:=by rw [str_beq,decide_eq_true hnm]
               have hq2:(nm.toList == vn.toList)=true:=by rw [str_beq,decide_eq_true hnm.symm]
               have HO:=hide_ (HBAD.out (by rw [HLO2.out,inE_true hlt2 HV.out hnm];rfl))
               clear hnm
               go_wp2
               have HK:=hide_ ((And.intro f0 (And.intro f1 (And.intro f2 (And.intro f3 (And.intro f4 (And.intro f5 (And.intro f6 (And.intro f7 (And.intro y0 y1))))))))))
               replace f0:=cell_regrown f0
               replace f1:=cell_regrown f1
               replace f2:=cell_regrown f2
               replace f3:=cell_regrown f3
               replace f4:=cell_regrown f4
               replace f5:=cell_regrown f5
               replace f6:=cell_regrown f6
               replace f7:=cell_regrown f7
               replace y0:=cell_regrown y0
               replace y1:=cell_regrown y1
               refine wp_region_quiet_below (by kernel_rfl) (by kernel_rfl) ?_
               repeat (go_big_quiet_step (fail))
               refine wpQuiet_nil ?_
               intro w8 hw'
               obtain ⟨⟨dq,osq⟩,hw''⟩:=hw'
               have hbw8:Below wr.heap.size wr w8:=by rw [hw''];exact below_regrown wr dq osq
               clear hw'' f0 f1 f2 f3 f4 f5 f6 f7 y0 y1
               obtain ⟨f0,f1,f2,f3,f4,f5,f6,f7,y0,y1⟩:=HK.out
               have f0:=(hbw8.cell (p:=⟨w.heap.size,0,none⟩) hwz).trans f0
               have f1:=(hbw8.cell (p:=⟨w.heap.size,1,none⟩) hwz).trans f1
               have f2:=(hbw8.cell (p:=⟨w.heap.size,2,none⟩) hwz).trans f2
               have f3:=(hbw8.cell (p:=⟨w.heap.size,3,none⟩) hwz).trans f3
               have f4:=(hbw8.cell (p:=⟨w.heap.size,4,none⟩) hwz).trans f4
               have f5:=(hbw8.cell (p:=⟨w.heap.size,5,none⟩) hwz).trans f5
               have f6:=(hbw8.cell (p:=⟨w.heap.size,6,none⟩) hwz).trans f6
               have f7:=(hbw8.cell (p:=⟨w.heap.size,7,none⟩) hwz).trans f7
               have y0:=(hbw8.cell (p:=ad.add (j * 2)) hbs2).trans y0
               have y1:=(hbw8.cell (p:=ad.add (k * 2)) hbs1).trans y1
               clear HK
               have HB8:=hide_ (HBr.out.trans (hbw8.mono HBr.out.size))
               clear hbw8
               have HE:=hide_ (chkV_no (x:=x) (HO.out))
               go_wp2
               go_ret
               exact ⟨by rw [HE.out];rfl,HB8.out⟩
              ·have hq:(vn.toList == nm.toList)=false:=by rw [str_beq,decide_eq_false hnm]
               have hq2:(nm.toList == vn.toList)=false:=by rw [str_beq,decide_eq_false (fun e=>hnm e.symm)]
               have HNX:=hide_ (show ∀ q,q<j+1→∀ u,x.entries[q]?=some u→u.name≠nm from fun q hq u hu=>by
                rcases Nat.lt_or_ge q j with h1 | h1
                ·exact HNX0.out q h1 u hu
                ·obtain rfl:q=j:=by omega
                 rw [HV.out] at hu
                 injection hu with e
                 subst e
                 exact hnm)
               clear hnm
               go_wp2
               have HK:=hide_ ((And.intro f0 (And.intro f1 (And.intro f2 (And.intro f3 (And.intro f4 (And.intro f5 (And.intro f6 (And.intro f7 (And.intro y0 y1))))))))))
               replace f0:=cell_regrown f0
               replace f1:=cell_regrown f1
               replace f2:=cell_regrown f2
               replace f3:=cell_regrown f3
               replace f4:=cell_regrown f4
               replace f5:=cell_regrown f5
               replace f6:=cell_regrown f6
               replace f7:=cell_regrown f7
               replace y0:=cell_regrown y0
               replace y1:=cell_regrown y1
               refine wp_region_quiet_below (by kernel_rfl) (by kernel_rfl) ?_
               repeat (go_big_quiet_step (fail))
               refine wpQuiet_nil ?_
               intro w8 hw'
               obtain ⟨⟨dq,osq⟩,hw''⟩:=hw'
               have hbw8:Below wr.heap.size wr w8:=by rw [hw''];exact below_regrown wr dq osq
               clear hw'' f0 f1 f2 f3 f4 f5 f6 f7 y0 y1
               obtain ⟨f0,f1,f2,f3,f4,f5,f6,f7,y0,y1⟩:=HK.out
               have f0:=(hbw8.cell (p:=⟨w.heap.size,0,none⟩) hwz).trans f0
               have f1:=(hbw8.cell (p:=⟨w.heap.size,1,none⟩) hwz).trans f1
               have f2:=(hbw8.cell (p:=⟨w.heap.size,2,none⟩) hwz).trans f2
               have f3:=(hbw8.cell (p:=⟨w.heap.size,3,none⟩) hwz).trans f3
               have f4:=(hbw8.cell (p:=⟨w.heap.size,4,none⟩) hwz).trans f4
               have f5:=(hbw8.cell (p:=⟨w.heap.size,5,none⟩) hwz).trans f5
               have f6:=(hbw8.cell (p:=⟨w.heap.size,6,none⟩) hwz).trans f6
               have f7:=(hbw8.cell (p:=⟨w.heap.size,7,none⟩) hwz).trans f7
               have y0:=(hbw8.cell (p:=ad.add (j * 2)) hbs2).trans y0
               have y1:=(hbw8.cell (p:=ad.add (k * 2)) hbs1).trans y1
               clear HK
               have HB98:=hide_ (HB9r.out.trans (hbw8.mono HB9r.out.size))
               clear hbw8
               go_wp2
               go_roundw
               case rel=>exact ⟨j+1,by omega,by go_num,HNX,HB98.out⟩
               case measure=>simp [intOf];omega
             ·have hjk:k=j:=by omega
              subst hjk
              have HTR:=hide_ (show entOk x k=true by rw [HLO2.out,inE_false HNX0.out];rfl)
              go_wp2
              go_roundw
              case rel=>exact ⟨k+1,by omega,by go_num,hide_ (all_next (f:=entOk x) HALL.out HTR.out),f0,f1,f2,f3,f4,f5,f6,f7,hwz,HBr.out⟩
              case measure=>simp [intOf];omega
        ·obtain rfl:ne=k:=by omega
         have HE:=hide_ (chkV_yes (x:=x) (by rw [HTG.out];exact range_true (fun j hj=>HALL.out j (by rw [HNE.out];exact hj))))
         clear hb
         go_wp2
         go_ret
         exact ⟨by rw [HE.out];rfl,HB.out⟩
end Go.Proofs.YtikbegmodacopaaGreatDoor
