/-
  Joined and packed by program.
-/
import Derived.Test.YtikbegmodacopaaGreatDoorC17
import Derived.Lib.QuietBelow
import Derived.Test.YtikbegmodacopaaGreatDoorC13
namespace Go.Proofs.YtikbegmodacopaaGreatDoor
open Go.RowKit Go.PlainAid Go.BigFrame Go.Maps
set_option linter.unusedSimpArgs false
set_option linter.unusedVariables false
set_option maxRecDepth 100000
set_option maxHeartbeats 8000000 in
theorem labelled_any (x:ObjV) (s:ObjS) (w:World) (hx:ObjOk x) (hB:boundB x=true) (hr:ObjR w w.heap.size x s):Calls Tryz.prog 109 #[.agg (objV x s)] w fun e w'=>e=.returned (.bool (labsB x))∧Below w.heap.size w w':=by
 have hl:=(boundB_iff.1 hB).2.2.2.1
 have HLEN:=hide_ (fun sec w=>length_any x s sec w hx hB)
 have HRL:=hide_ hr.rl
 obtain ⟨⟨cA,cc⟩,⟨dA,dc⟩,⟨lA,lc⟩,⟨fA,fc⟩,⟨tA,tc⟩,⟨eA,ec⟩⟩:=s
 dsimp only [objV] at HLEN HRL ⊢
 have HNAM:=hide_ (fun (nm:ByteArray) (h:nm.size≤140737488351232) w=>isName_any nm w h)
 have HOK:=hide_ hx.labels
 obtain ⟨n,hn⟩:∃ n,n=x.labels.length:=⟨_,rfl⟩
 rw [← hn] at HRL hl HLEN ⊢
 have HN:=hide_ hn
 have hmm:=@run_makeMap Tryz.prog
 have HM0:Hid (seenAt ((w.alloc (.cells #[.slice cA x.code.length cc,.slice dA x.data.length dc,.int .u32 x.zero,.int .u32 x.stack,.slice lA n lc,.slice fA x.fixes.length fc,.slice tA x.targets.length tc,.slice eA x.entries.length ec] 36)).alloc (.map #[] 0)) (w.alloc (.cells #[.slice cA x.code.length cc,.slice dA x.data.length dc,.int .u32 x.zero,.int .u32 x.stack,.slice lA n lc,.slice fA x.fixes.length fc,.slice tA x.targets.length tc,.slice eA x.entries.length ec] 36)).heap.size 0 (.map [])):=hide_ (World.ownsMap_made _ Tryz.prog 9 (plainElem Tryz.prog 3))
 rw [World.size_alloc] at HM0
 clear hx hB hr hn
 go_enter Tryz.func109,Tryz.ntmps109
 go_wp2
 go_loopw [13] (fun i wr=>∃ (k:Nat) (D:MS),k≤n∧i=.int .i64 k∧seenAt wr (w.heap.size+1) k D∧Hid (SeenP D ((x.labels.take k).map (·.name)))∧Hid (∀ j,j<k→labOk x j=true) ∧
  wr.cell? ⟨w.heap.size,0,none⟩=some (.slice cA x.code.length cc)∧wr.cell? ⟨w.heap.size,1,none⟩=some (.slice dA x.data.length dc)∧wr.cell? ⟨w.heap.size,2,none⟩=some (.int .u32 x.zero)∧wr.cell? ⟨w.heap.size,3,none⟩=some (.int .u32 x.stack)∧wr.cell? ⟨w.heap.size,4,none⟩=some (.slice lA n lc)∧wr.cell? ⟨w.heap.size,5,none⟩=some (.slice fA x.fixes.length fc)∧wr.cell? ⟨w.heap.size,6,none⟩=some (.slice tA x.targets.length tc)∧wr.cell? ⟨w.heap.size,7,none⟩=some (.slice eA x.entries.length ec)∧Below w.heap.size w wr) (fun i _=>n - (intOf i).toNat)
 case atStart=>exact ⟨0,_,Nat.zero_le _,rfl,HM0.out,hide_ (by simpa using SeenP.nil),hide_ (fun j hj=>absurd hj (by omega)),by simp,by simp,by simp,by simp,by simp,by simp,by simp,by simp,((Below.refl _ _).alloc (Nat.le_refl _) _).alloc (by simp) _⟩
 case round =>
  clear HM0 hmm
  obtain ⟨k,D,hk,rfl,hm,HS,HALL,o0,o1,o2,o3,o4,o5,o6,o7,hb⟩:=hrel
  have HMM:=hide_ hm
  have hbz:=hb.size
  have hml:w.heap.size+1<wr.heap.size:=by
   obtain ⟨es,clock,h1,_⟩:=hm
   rcases Nat.lt_or_ge (w.heap.size+1) wr.heap.size with h2 | h2
   ·exact h2
   ·rw [Array.getElem?_eq_none h2] at h1;cases h1
  by_cases hlt:k<n
  ·obtain ⟨t,ht⟩:∃ t,x.labels[k]?=some t:=⟨_,List.getElem?_eq_getElem (by have:=HN.out;omega)⟩
   obtain ⟨hnmz,⟨sec0,sec1⟩,pl0,pl1⟩:=HOK.out t (List.mem_of_getElem? ht)
   obtain ⟨p,hp⟩:∃ p,0<k→x.labels[k - 1]?=some p:=by
    by_cases h0:0<k
    ·exact ⟨x.labels[k - 1]'(by have:=HN.out;omega),fun _=>List.getElem?_eq_getElem _⟩
    ·exact ⟨t,fun h=>absurd h h0⟩
   have HLO:=hide_ (labOk_at ht p hp)
   have HP:=hide_ hp
   have HTK:=hide_ (show (x.labels.take (k+1)).map (·.name)=(x.labels.take k).map (·.name) ++ [t.name] by rw [List.take_add_one,ht];simp)
   obtain ⟨_,ad,rfl,hbk,p0,p1⟩:=el_cells lE_len (HRL.out.below hb) (by omega) ht
   have q0:=p0 _ rfl
   have q1:=p1 1 _ (by omega) rfl
   have q2:=p1 2 _ (by omega) rfl
   have q3:=p1 3 _ (by omega) rfl
   have hbs:(ad.add (k * 4)).block<wr.heap.size:=by omega
   obtain ⟨nm,sec,pl,opn⟩:=t
   obtain ⟨pnm,psec,ppl,popn⟩:=p
   simp only at q0 q1 q2 q3 hnmz sec0 sec1 pl0 pl1 HLO HTK HP
   obtain ⟨c,lk⟩:=seen_run (w:=wr.alloc (.cells #[.string nm,.int .u8 sec,.int .u32 pl,.bool opn] 78)) (HMM.out.alloc _) nm (by simp only [maxLen];omega)
   rw [HS.out.has nm] at lk
   obtain ⟨b0,hb0⟩:∃ b,b=inB nm ((x.labels.take k).map (·.name)):=⟨_,rfl⟩
   rw [← hb0] at lk HLO
   have HB:=hide_ hb
   clear hm p0 p1 ht hp hbk hb0 hb
   go_wp2
   have f0:(wr.alloc (.cells #[.string nm,.int .u8 sec,.int .u32 pl,.bool opn] 78)).cell? ⟨w.heap.size,0,none⟩=some (.slice cA x.code.length cc):=(World.cell?_alloc_lt wr _ ⟨w.heap.size,0,none⟩ (show w.heap.size<wr.heap.size by omega)).trans o0
   have f1:(wr.alloc (.cells #[.string nm,.int .u8 sec,.int .u32 pl,.bool opn] 78)).cell? ⟨w.heap.size,1,none⟩=some (.slice dA x.data.length dc):=(World.cell?_alloc_lt wr _ ⟨w.heap.size,1,none⟩ (show w.heap.size<wr.heap.size by omega)).trans o1
   have f2:(wr.alloc (.cells #[.string nm,.int .u8 sec,.int .u32 pl,.bool opn] 78)).cell? ⟨w.heap.size,2,none⟩=some (.int .u32 x.zero):=(World.cell?_alloc_lt wr _ ⟨w.heap.size,2,none⟩ (show w.heap.size<wr.heap.size by omega)).trans o2
   have f3:(wr.alloc (.cells #[.string nm,.int .u8 sec,.int .u32 pl,.bool opn] 78)).cell? ⟨w.heap.size,3,none⟩=some (.int .u32 x.stack):=(World.cell?_alloc_lt wr _ ⟨w.heap.size,3,none⟩ (show w.heap.size<wr.heap.size by omega)).trans o3
   have f4:(wr.alloc (.cells #[.string nm,.int .u8 sec,.int .u32 pl,.bool opn] 78)).cell? ⟨w.heap.size,4,none⟩=some (.slice (some ad) n lc):=(World.cell?_alloc_lt wr _ ⟨w.heap.size,4,none⟩ (show w.heap.size<wr.heap.size by omega)).trans o4
   have f5:(wr.alloc (.cells #[.string nm,.int .u8 sec,.int .u32 pl,.bool opn] 78)).cell? ⟨w.heap.size,5,none⟩=some (.slice fA x.fixes.length fc):=(World.cell?_alloc_lt wr _ ⟨w.heap.size,5,none⟩ (show w.heap.size<wr.heap.size by omega)).trans o5
   have f6:(wr.alloc (.cells #[.string nm,.int .u8 sec,.int .u32 pl,.bool opn] 78)).cell? ⟨w.heap.size,6,none⟩=some (.slice tA x.targets.length tc):=(World.cell?_alloc_lt wr _ ⟨w.heap.size,6,none⟩ (show w.heap.size<wr.heap.size by omega)).trans o6
   have f7:(wr.alloc (.cells #[.string nm,.int .u8 sec,.int .u32 pl,.bool opn] 78)).cell? ⟨w.heap.size,7,none⟩=some (.slice eA x.entries.length ec):=(World.cell?_alloc_lt wr _ ⟨w.heap.size,7,none⟩ (show w.heap.size<wr.heap.size by omega)).trans o7
   have e0:(wr.alloc (.cells #[.string nm,.int .u8 sec,.int .u32 pl,.bool opn] 78)).cell? ⟨wr.heap.size,0,none⟩=some (.string nm):=by simp
   have e1:(wr.alloc (.cells #[.string nm,.int .u8 sec,.int .u32 pl,.bool opn] 78)).cell? ⟨wr.heap.size,1,none⟩=some (.int .u8 sec):=by simp
   have e2:(wr.alloc (.cells #[.string nm,.int .u8 sec,.int .u32 pl,.bool opn] 78)).cell? ⟨wr.heap.size,2,none⟩=some (.int .u32 pl):=by simp
   have hm5:seenAt (wr.alloc (.cells #[.string nm,.int .u8 sec,.int .u32 pl,.bool opn] 78)) (w.heap.size+1) k D:=HMM.out.alloc _
   have hb5:=HB.out.alloc hbz (.cells #[.string nm,.int .u8 sec,.int .u32 pl,.bool opn] 78)
   have hz5:wr.heap.size<(wr.alloc (.cells #[.string nm,.int .u8 sec,.int .u32 pl,.bool opn] 78)).heap.size:=by simp
   clear lk q0 q1 q2 q3 o0 o1 o2 o3 o4 o5 o6 o7
   generalize wr.alloc (.cells #[.string nm,.int .u8 sec,.int .u32 pl,.bool opn] 78)=w5 at *
   have hwz:w.heap.size<w5.heap.size:=by omega
   have hmz:w.heap.size+1<w5.heap.size:=by omega
   have hg1:w.heap.size+1<wr.heap.size:=hml
   clear hbz hbs hml HB HMM
   generalize wr.heap.size=g5 at *
   obtain ⟨b1,hb1⟩:∃ b,b=nameB nm:=⟨_,rfl⟩
   obtain ⟨L,hL⟩:∃ L,L=lenOf x sec:=⟨_,rfl⟩
   have HN1:=hide_ (fun W=>HNAM.out nm hnmz W)
   have HL1:=hide_ (fun W=>HLEN.out sec W)
   rw [← hb1] at HN1 HLO
   rw [← hL] at HL1 HLO
   have HM5:=hide_ hm5
   have HB5:=hide_ hb5
   clear hm5 hb5 hb1 hL
   have cN:∀ d os,Calls Tryz.prog 152 #[.string nm] (Sort.grow (redrawn w5 d) os) fun e w''=>e=.returned (.bool b1)∧∃ p:Regrown,w''=Sort.grow (redrawn w5 p.d) p.os:=fun d os=>Calls.regrown_of (HN1.out _)
   have cL:∀ d os,Calls Tryz.prog 153 #[.agg #[.slice cA x.code.length cc,.slice dA x.data.length dc,.int .u32 x.zero,.int .u32 x.stack,.slice (some ad) n lc,.slice fA x.fixes.length fc,.slice tA x.targets.length tc,.slice eA x.entries.length ec],.int .u8 sec] (Sort.grow (redrawn w5 d) os) fun e w''=>e=.returned (.int .u32 L)∧∃ p:Regrown,w''=Sort.grow (redrawn w5 p.d) p.os:=fun d os=>Calls.regrown_of (HL1.out _)
   have F0:=hide_ (And.intro f0 (And.intro f1 (And.intro f2 (And.intro f3 (And.intro f4 (And.intro f5 (And.intro f6 (And.intro f7 (And.intro e0 (And.intro e1 e2))))))))))
   replace f0:=cell_regrown f0
   replace f1:=cell_regrown f1
   replace f2:=cell_regrown f2
   replace f3:=cell_regrown f3
   replace f4:=cell_regrown f4
   replace f5:=cell_regrown f5
   replace f6:=cell_regrown f6
   replace f7:=cell_regrown f7
   replace e0:=cell_regrown e0
   replace e1:=cell_regrown e1
   replace e2:=cell_regrown e2
   have hways:b0=true∨(b0=false∧b1=false)∨(b0=false∧b1=true∧decide (sec<1)=true)∨(b0=false∧b1=true∧decide (sec<1)=false∧decide (3<sec)=true)∨(b0=false∧b1=true∧decide (sec<1)=false∧decide (3<sec)=false∧decide (L<pl)=true)∨(b0=false∧b1=true∧decide (sec<1)=false∧decide (3<sec)=false∧decide (L<pl)=false):=by
    cases b0 <;> cases b1 <;> cases decide (sec<1) <;> cases decide (3<sec) <;> cases decide (L<pl) <;> simp
   have HWAY:=hide_ hways
   clear hways
   by_cases hgood:b0=false∧b1=true∧decide (sec<1)=false∧decide (3<sec)=false∧decide (L<pl)=false
   ·obtain ⟨rfl,rfl,c1,c2,c3⟩:=hgood
    refine wp_region_quiet_below (by kernel_rfl) (by kernel_rfl) ?_
    repeat (go_big_quiet_step ((first | exact cN _ _ | exact cL _ _)))
    refine wpQuiet_nil ?_
    intro w9 hw'
    obtain ⟨⟨dq,osq⟩,hw''⟩:=hw'
    have hfin:Below w5.heap.size w5 w9:=by rw [hw''];exact below_regrown w5 dq osq
    clear f0 f1 f2 f3 f4 f5 f6 f7 e0 e1 e2 cN cL hw'' HWAY
    obtain ⟨f0,f1,f2,f3,f4,f5,f6,f7,e0,e1,e2⟩:=F0.out
    have f0:=(hfin.cell (p:=⟨w.heap.size,0,none⟩) hwz).trans f0
    have f1:=(hfin.cell (p:=⟨w.heap.size,1,none⟩) hwz).trans f1
    have f2:=(hfin.cell (p:=⟨w.heap.size,2,none⟩) hwz).trans f2
    have f3:=(hfin.cell (p:=⟨w.heap.size,3,none⟩) hwz).trans f3
    have f4:=(hfin.cell (p:=⟨w.heap.size,4,none⟩) hwz).trans f4
    have f5:=(hfin.cell (p:=⟨w.heap.size,5,none⟩) hwz).trans f5
    have f6:=(hfin.cell (p:=⟨w.heap.size,6,none⟩) hwz).trans f6
    have f7:=(hfin.cell (p:=⟨w.heap.size,7,none⟩) hwz).trans f7
    have e0:=(hfin.cell (p:=⟨g5,0,none⟩) hz5).trans e0
    have e1:=(hfin.cell (p:=⟨g5,1,none⟩) hz5).trans e1
    have e2:=(hfin.cell (p:=⟨g5,2,none⟩) hz5).trans e2
    have hs9:=hfin.size
    have hz9:g5<w9.heap.size:=by omega
    have hwz9:w.heap.size<w9.heap.size:=by omega
    have hmz9:w.heap.size+1<w9.heap.size:=by omega
    have HM9:=hide_ (HM5.out.below hfin hmz)
    have HB9:=hide_ (HB5.out.trans (hfin.mono HB5.out.size))
    have HRL9:=hide_ (HRL.out.below HB9.out)
    have HLO2:=HLO.out
    rw [c1,c2,c3] at HLO2
    have HLO3:=hide_ (show labOk x k=(decide (k=0) || !(decide (sec<psec) || (decide (sec=psec) && decide (pl<ppl)))) by rw [HLO2];simp)
    clear HLO2 hfin hs9 hz5 hwz hmz hg1 HB5 HM5 F0
    by_cases k0:k=0
    ·subst k0
     obtain ⟨w7,hrun,o7,g7⟩:=seen_put HM9.out nm (by simp only [maxLen];omega) (by simp [maxLen]) (0:Int) wf_zi
     have HO7:=hide_ o7
     have HG7:=hide_ g7
     have HTR:=hide_ (show labOk x 0=true by rw [HLO3.out];simp)
     clear o7 g7
     go_wp2
     go_roundw
     case rel=>exact ⟨1,_,by omega,by first | exact rfl | go_num,HO7.out,hide_ (by have:=HS.out.put nm 0;rw [← HTK.out] at this;exact this),hide_ (all_next (f:=labOk x) (fun j hj=>absurd hj (by omega)) HTR.out),(cell_grown HG7.out (p:=⟨w.heap.size,0,none⟩) hwz9 (by simp)).trans f0,(cell_grown HG7.out (p:=⟨w.heap.size,1,none⟩) hwz9 (by simp)).trans f1,(cell_grown HG7.out (p:=⟨w.heap.size,2,none⟩) hwz9 (by simp)).trans f2,(cell_grown HG7.out (p:=⟨w.heap.size,3,none⟩) hwz9 (by simp)).trans f3,(cell_grown HG7.out (p:=⟨w.heap.size,4,none⟩) hwz9 (by simp)).trans f4,(cell_grown HG7.out (p:=⟨w.heap.size,5,none⟩) hwz9 (by simp)).trans f5,(cell_grown HG7.out (p:=⟨w.heap.size,6,none⟩) hwz9 (by simp)).trans f6,(cell_grown HG7.out (p:=⟨w.heap.size,7,none⟩) hwz9 (by simp)).trans f7,HB9.out.grown HG7.out HB9.out.size (fun j hj=>by cases hj;omega)⟩
     case measure=>simp [intOf];omega
    ·obtain ⟨_,ad2,hA2,hbk2,r0,r1⟩:=el_cells lE_len HRL9.out (by omega) (HP.out (by omega))
     obtain rfl:ad=ad2:=by injection hA2
     have r0:=r0 _ rfl
     have r2:=r1 2 _ (by omega) rfl
     have r3:=r1 3 _ (by omega) rfl
     have r1:=r1 1 _ (by omega) rfl
     have hbs2:(ad.add ((k - 1) * 4)).block<w9.heap.size:=by omega
     have s1:IntKind.i64.wrap ((k:Int) - 1)=(k:Int) - 1:=IntWalk.i64_in _ (by omega)
     have s2:(0:Int)≤(k:Int) - 1:=by omega
     have s3:((k:Int) - 1).toNat=k - 1:=by omega
     have s4:(k:Int) - 1<(n:Int):=by omega
     have kp:0<k:=by omega
     obtain ⟨w10,hw10⟩:∃ w10,w10=w9.alloc (.cells #[.string pnm,.int .u8 psec,.int .u32 ppl,.bool popn] 78):=⟨_,rfl⟩
     have h0:w10.cell? ⟨w.heap.size,0,none⟩=some (.slice cA x.code.length cc):=by rw [hw10];exact (World.cell?_alloc_lt w9 _ ⟨w.heap.size,0,none⟩ hwz9).trans f0
     have h1:w10.cell? ⟨w.heap.size,1,none⟩=some (.slice dA x.data.length dc):=by rw [hw10];exact (World.cell?_alloc_lt w9 _ ⟨w.heap.size,1,none⟩ hwz9).trans f1
     have h2:w10.cell? ⟨w.heap.size,2,none⟩=some (.int .u32 x.zero):=by rw [hw10];exact (World.cell?_alloc_lt w9 _ ⟨w.heap.size,2,none⟩ hwz9).trans f2
     have h3:w10.cell? ⟨w.heap.size,3,none⟩=some (.int .u32 x.stack):=by rw [hw10];exact (World.cell?_alloc_lt w9 _ ⟨w.heap.size,3,none⟩ hwz9).trans f3
     have h4:w10.cell? ⟨w.heap.size,4,none⟩=some (.slice (some ad) n lc):=by rw [hw10];exact (World.cell?_alloc_lt w9 _ ⟨w.heap.size,4,none⟩ hwz9).trans f4
     have h5:w10.cell? ⟨w.heap.size,5,none⟩=some (.slice fA x.fixes.length fc):=by rw [hw10];exact (World.cell?_alloc_lt w9 _ ⟨w.heap.size,5,none⟩ hwz9).trans f5
     have h6:w10.cell? ⟨w.heap.size,6,none⟩=some (.slice tA x.targets.length tc):=by rw [hw10];exact (World.cell?_alloc_lt w9 _ ⟨w.heap.size,6,none⟩ hwz9).trans f6
     have h7:w10.cell? ⟨w.heap.size,7,none⟩=some (.slice eA x.entries.length ec):=by rw [hw10];exact (World.cell?_alloc_lt w9 _ ⟨w.heap.size,7,none⟩ hwz9).trans f7
     have hwz10:w.heap.size<w10.heap.size:=by rw [hw10];simp;omega
     have hmz10:w.heap.size+1<w10.heap.size:=by rw [hw10];simp;omega
     have HB10:=hide_ (show Below w.heap.size w w10 by rw [hw10];exact HB9.out.alloc HB9.out.size _)
     obtain ⟨w7,hrun0,o7,g7⟩:=seen_put (w:=w10) (by rw [hw10];exact HM9.out.alloc _) nm (by simp only [maxLen];omega) (by simp only [maxLen];omega) (k:Int) (wf_nat (by omega))
     have hrun:(Instr.mapUpdate 187 (.map (some (w.heap.size+1))) (.string nm) (.int .i64 k)).run Tryz.prog (w9.alloc (.cells #[.string pnm,.int .u8 psec,.int .u32 ppl,.bool popn] 78))=.ok () w7:=by rw [← hw10];exact hrun0
     have HO7:=hide_ o7
     have HG7:=hide_ g7
     have HC10:=hide_ (And.intro h0 (And.intro h1 (And.intro h2 (And.intro h3 (And.intro h4 (And.intro h5 (And.intro h6 h7)))))))
     have HW10:=hide_ hw10
     clear o7 g7 hrun0 h0 h1 h2 h3 h4 h5 h6 h7 hw10 hbk2 hA2
     by_cases hs1:sec<psec
     ·have hd1:decide (sec<psec)=true:=decide_eq_true hs1
      have HEND:=hide_ (labsB_false (x:=x) (k:=k) (by have:=HN.out;omega) (by rw [HLO3.out,decide_eq_true hs1,decide_eq_false k0];rfl))
      clear hs1
      go_wp2
      go_ret
      exact ⟨by rw [HEND.out];rfl,by rw [← HW10.out];exact HB10.out⟩
     ·have hd1:decide (sec<psec)=false:=decide_eq_false hs1
      by_cases hs2:sec=psec
      ·have hd2:(sec == psec)=true:=by simpa using hs2
       by_cases hs3:pl<ppl
       ·have hd3:decide (pl<ppl)=true:=decide_eq_true hs3
        have HEND:=hide_ (labsB_false (x:=x) (k:=k) (by have:=HN.out;omega) (by rw [HLO3.out,decide_eq_false hs1,decide_eq_true hs2,decide_eq_true hs3,decide_eq_false k0];rfl))
        clear hs1 hs2 hs3
        go_wp2
        go_ret
        exact ⟨by rw [HEND.out];rfl,by rw [← HW10.out];exact HB10.out⟩
       ·have hd3:decide (pl<ppl)=false:=decide_eq_false hs3
        have HTR:=hide_ (show labOk x k=true by rw [HLO3.out,decide_eq_false hs1,decide_eq_false hs3,Bool.and_false];simp)
        clear hs1 hs2 hs3
        go_wp2
        go_roundw
        case rel=>obtain ⟨h0,h1,h2,h3,h4,h5,h6,h7⟩:=HC10.out;exact ⟨k+1,_,by omega,by go_num,HO7.out,hide_ (by have:=HS.out.put nm (k:Int);rw [← HTK.out] at this;exact this),hide_ (all_next (f:=labOk x) HALL.out HTR.out),(cell_grown HG7.out (p:=⟨w.heap.size,0,none⟩) hwz10 (by simp)).trans h0,(cell_grown HG7.out (p:=⟨w.heap.size,1,none⟩) hwz10 (by simp)).trans h1,(cell_grown HG7.out (p:=⟨w.heap.size,2,none⟩) hwz10 (by simp)).trans h2,(cell_grown HG7.out (p:=⟨w.heap.size,3,none⟩) hwz10 (by simp)).trans h3,(cell_grown HG7.out (p:=⟨w.heap.size,4,none⟩) hwz10 (by simp)).trans h4,(cell_grown HG7.out (p:=⟨w.heap.size,5,none⟩) hwz10 (by simp)).trans h5,(cell_grown HG7.out (p:=⟨w.heap.size,6,none⟩) hwz10 (by simp)).trans h6,(cell_grown HG7.out (p:=⟨w.heap.size,7,none⟩) hwz10 (by simp)).trans h7,HB10.out.grown HG7.out HB10.out.size (fun j hj=>by cases hj;omega)⟩
        case measure=>simp [intOf];omega
      ·have hd2:(sec == psec)=false:=by simpa using hs2
       have HTR:=hide_ (show labOk x k=true by rw [HLO3.out,decide_eq_false hs1,decide_eq_false hs2];simp)
       clear hs1 hs2
       go_wp2
       go_roundw
       case rel=>obtain ⟨h0,h1,h2,h3,h4,h5,h6,h7⟩:=HC10.out;exact ⟨k+1,_,by omega,by go_num,HO7.out,hide_ (by have:=HS.out.put nm (k:Int);rw [← HTK.out] at this;exact this),hide_ (all_next (f:=labOk x) HALL.out HTR.out),(cell_grown HG7.out (p:=⟨w.heap.size,0,none⟩) hwz10 (by simp)).trans h0,(cell_grown HG7.out (p:=⟨w.heap.size,1,none⟩) hwz10 (by simp)).trans h1,(cell_grown HG7.out (p:=⟨w.heap.size,2,none⟩) hwz10 (by simp)).trans h2,(cell_grown HG7.out (p:=⟨w.heap.size,3,none⟩) hwz10 (by simp)).trans h3,(cell_grown HG7.out (p:=⟨w.heap.size,4,none⟩) hwz10 (by simp)).trans h4,(cell_grown HG7.out (p:=⟨w.heap.size,5,none⟩) hwz10 (by simp)).trans h5,(cell_grown HG7.out (p:=⟨w.heap.size,6,none⟩) hwz10 (by simp)).trans h6,(cell_grown HG7.out (p:=⟨w.heap.size,7,none⟩) hwz10 (by simp)).trans h7,HB10.out.grown HG7.out HB10.out.size (fun j hj=>by cases hj;omega)⟩
       case measure=>simp [intOf];omega
   ·have HEND:=hide_ (labsB_false (x:=x) (k:=k) (by have:=HN.out;omega) (by
     rw [HLO.out]
     revert hgood
     cases b0 <;> cases b1 <;> cases decide (sec<1) <;> cases decide (3<sec) <;> cases decide (L<pl) <;> simp))
    have hways2:b0=true∨(b0=false∧b1=false)∨(b0=false∧b1=true∧decide (sec<1)=true)∨(b0=false∧b1=true∧decide (sec<1)=false∧decide (3<sec)=true)∨(b0=false∧b1=true∧decide (sec<1)=false∧decide (3<sec)=false∧decide (L<pl)=true):=by
     rcases HWAY.out with h | h | h | h | h | h
     ·exact .inl h
     ·exact .inr (.inl h)
     ·exact .inr (.inr (.inl h))
     ·exact .inr (.inr (.inr (.inl h)))
     ·exact .inr (.inr (.inr (.inr h)))
     ·exact absurd h hgood
    clear hgood
    rcases hways2 with rfl | ⟨rfl,rfl⟩ | ⟨rfl,rfl,c1⟩ | ⟨rfl,rfl,c1,c2⟩ | ⟨rfl,rfl,c1,c2,c3⟩
    all_goals
     refine wp_region_quiet_below (by kernel_rfl) (by kernel_rfl) ?_
     repeat (go_big_quiet_step ((first | exact cN _ _ | exact cL _ _)))
     refine wpQuiet_nil ?_
     intro _ hw'
     obtain ⟨⟨dq,osq⟩,hw''⟩:=hw'
     have hfin:Below w5.heap.size w5 (Sort.grow (redrawn w5 dq) osq):=below_regrown w5 dq osq
     rw [← hw''] at hfin
     have HFIN:=hide_ hfin
     clear hfin hw'' f0 f1 f2 f3 f4 f5 f6 f7 e0 e1 e2 cN cL
     go_wp2
     go_ret
     exact ⟨by rw [HEND.out];rfl,HB5.out.trans (HFIN.out.mono HB5.out.size)⟩
  ·obtain rfl:k=n:=by omega
   have HB:=hide_ hb
   have HEND:=hide_ (labsB_true (x:=x) (fun j hj=>HALL.out j (by rw [HN.out];exact hj)))
   clear hm hb hbz
   go_wp2
   go_ret
   exact ⟨by rw [HEND.out];rfl,HB.out⟩
end Go.Proofs.YtikbegmodacopaaGreatDoor
namespace Go.Proofs.YtikbegmodacopaaGreatDoor
open Go.RowKit Go.PlainAid Go.BigFrame
set_option linter.unusedSimpArgs false
set_option linter.unusedVariables false
set_option maxRecDepth 100000
def codeB (x:ObjV):Bool:=(List.range x.code.length).all fun k=>match x.code[k]? with
 | none=>true
 | some t=>decide (opChk t.1 t.2=0)
def okB (x:ObjV):Bool:=boundB x && labsB x && fixesB x && (tgtsB x && entsB x) && codeB x
def chkV (x:ObjV):Int:=if okB x=true then 0 else 104
theorem chkV_no {x:ObjV} (h:okB x=false):chkV x=104:=by unfold chkV;rw [h];rfl
theorem chkV_yes {x:ObjV} (h:okB x=true):chkV x=0:=if_pos h
theorem codeOk_at {x:ObjV} {k:Nat} {t:Int × Int} (h:x.code[k]?=some t):(match x.code[k]? with
 | none=>true
 | some t=>decide (opChk t.1 t.2=0))=decide (opChk t.1 t.2=0):=by rw [h]
set_option maxHeartbeats 8000000 in
theorem acheck_any (x:ObjV) (s:ObjS) (w:World) (hx:ObjOk x) (hr:ObjR w w.heap.size x s):Calls Tryz.prog 82 #[.agg (objV x s)] w fun e w'=>e=.returned (.int .i64 (chkV x))∧Below w.heap.size w w':=by
 have hl:=hx.lens.1
 have HRC:=hide_ hr.rc
 have H1:=hide_ (fun W=>bounded_any x s W hx)
 have H2:=hide_ (fun (hB:boundB x=true) W (hb:Below w.heap.size w W)=>labelled_any x s W hx hB ((hr.below hb).more hb.size))
 have H3:=hide_ (fun (hB:boundB x=true) W (hb:Below w.heap.size w W)=>fixed_any x s W hx hB ((hr.below hb).more hb.size))
 have H4:=hide_ (fun W (hb:Below w.heap.size w W)=>anamed_any x s W hx ((hr.below hb).more hb.size))
 have HOC:=hide_ hx.code
 obtain ⟨⟨cA,cc⟩,⟨dA,dc⟩,⟨lA,lc⟩,⟨fA,fc⟩,⟨tA,tc⟩,⟨eA,ec⟩⟩:=s
 dsimp only [objV] at HRC H1 H2 H3 H4 ⊢
 obtain ⟨n,hn⟩:∃ n,n=x.code.length:=⟨_,rfl⟩
 rw [← hn] at HRC hl H1 H2 H3 H4 ⊢
 have HN:=hide_ hn
 obtain ⟨b1,hb1⟩:∃ b,b=boundB x:=⟨_,rfl⟩
 obtain ⟨b2,hb2⟩:∃ b,b=labsB x:=⟨_,rfl⟩
 obtain ⟨b3,hb3⟩:∃ b,b=fixesB x:=⟨_,rfl⟩
 obtain ⟨b4,hb4⟩:∃ b,b=(tgtsB x && entsB x):=⟨_,rfl⟩
 rw [← hb1] at H1 H2 H3
 rw [← hb2] at H2
 rw [← hb3] at H3
 rw [← hb4] at H4
 have E1:=hide_ hb1
 have E2:=hide_ hb2
 have E3:=hide_ hb3
 have E4:=hide_ hb4
 have f0:(w.alloc (.cells #[.slice cA n cc,.slice dA x.data.length dc,.int .u32 x.zero,.int .u32 x.stack,.slice lA x.labels.length lc,.slice fA x.fixes.length fc,.slice tA x.targets.length tc,.slice eA x.entries.length ec] 36)).cell? ⟨w.heap.size,0,none⟩=some (.slice cA n cc):=by simp
 have f1:(w.alloc (.cells #[.slice cA n cc,.slice dA x.data.length dc,.int .u32 x.zero,.int .u32 x.stack,.slice lA x.labels.length lc,.slice fA x.fixes.length fc,.slice tA x.targets.length tc,.slice eA x.entries.length ec] 36)).cell? ⟨w.heap.size,1,none⟩=some (.slice dA x.data.length dc):=by simp
 have f2:(w.alloc (.cells #[.slice cA n cc,.slice dA x.data.length dc,.int .u32 x.zero,.int .u32 x.stack,.slice lA x.labels.length lc,.slice fA x.fixes.length fc,.slice tA x.targets.length tc,.slice eA x.entries.length ec] 36)).cell? ⟨w.heap.size,2,none⟩=some (.int .u32 x.zero):=by simp
 have f3:(w.alloc (.cells #[.slice cA n cc,.slice dA x.data.length dc,.int .u32 x.zero,.int .u32 x.stack,.slice lA x.labels.length lc,.slice fA x.fixes.length fc,.slice tA x.targets.length tc,.slice eA x.entries.length ec] 36)).cell? ⟨w.heap.size,3,none⟩=some (.int .u32 x.stack):=by simp
 have f4:(w.alloc (.cells #[.slice cA n cc,.slice dA x.data.length dc,.int .u32 x.zero,.int .u32 x.stack,.slice lA x.labels.length lc,.slice fA x.fixes.length fc,.slice tA x.targets.length tc,.slice eA x.entries.length ec] 36)).cell? ⟨w.heap.size,4,none⟩=some (.slice lA x.labels.length lc):=by simp
 have f5:(w.alloc (.cells #[.slice cA n cc,.slice dA x.data.length dc,.int .u32 x.zero,.int .u32 x.stack,.slice lA x.labels.length lc,.slice fA x.fixes.length fc,.slice tA x.targets.length tc,.slice eA x.entries.length ec] 36)).cell? ⟨w.heap.size,5,none⟩=some (.slice fA x.fixes.length fc):=by simp
 have f6:(w.alloc (.cells #[.slice cA n cc,.slice dA x.data.length dc,.int .u32 x.zero,.int .u32 x.stack,.slice lA x.labels.length lc,.slice fA x.fixes.length fc,.slice tA x.targets.length tc,.slice eA x.entries.length ec] 36)).cell? ⟨w.heap.size,6,none⟩=some (.slice tA x.targets.length tc):=by simp
 have f7:(w.alloc (.cells #[.slice cA n cc,.slice dA x.data.length dc,.int .u32 x.zero,.int .u32 x.stack,.slice lA x.labels.length lc,.slice fA x.fixes.length fc,.slice tA x.targets.length tc,.slice eA x.entries.length ec] 36)).cell? ⟨w.heap.size,7,none⟩=some (.slice eA x.entries.length ec):=by simp
 have HB0:=hide_ ((Below.refl w.heap.size w).alloc (Nat.le_refl _) (.cells #[.slice cA n cc,.slice dA x.data.length dc,.int .u32 x.zero,.int .u32 x.stack,.slice lA x.labels.length lc,.slice fA x.fixes.length fc,.slice tA x.targets.length tc,.slice eA x.entries.length ec] 36))
 have hwz:w.heap.size<(w.alloc (.cells #[.slice cA n cc,.slice dA x.data.length dc,.int .u32 x.zero,.int .u32 x.stack,.slice lA x.labels.length lc,.slice fA x.fixes.length fc,.slice tA x.targets.length tc,.slice eA x.entries.length ec] 36)).heap.size:=by simp
 clear hx hr hn hb1 hb2 hb3 hb4
 go_enter Tryz.func82,Tryz.ntmps82
 go_wp2_with fail
 refine (H1.out _).mono ?_
 rintro e w1 ⟨rfl,hb1⟩
 have f0:=(hb1.cell (p:=⟨w.heap.size,0,none⟩) hwz).trans f0
 have f1:=(hb1.cell (p:=⟨w.heap.size,1,none⟩) hwz).trans f1
 have f2:=(hb1.cell (p:=⟨w.heap.size,2,none⟩) hwz).trans f2
 have f3:=(hb1.cell (p:=⟨w.heap.size,3,none⟩) hwz).trans f3
 have f4:=(hb1.cell (p:=⟨w.heap.size,4,none⟩) hwz).trans f4
 have f5:=(hb1.cell (p:=⟨w.heap.size,5,none⟩) hwz).trans f5
 have f6:=(hb1.cell (p:=⟨w.heap.size,6,none⟩) hwz).trans f6
 have f7:=(hb1.cell (p:=⟨w.heap.size,7,none⟩) hwz).trans f7
 have HB1:=hide_ (HB0.out.trans (hb1.mono HB0.out.size))
 have hwz:w.heap.size<w1.heap.size:=Nat.lt_of_lt_of_le hwz hb1.size
 clear hb1
 cases b1
 ·have HE:=hide_ (chkV_no (x:=x) (by unfold okB;rw [← E1.out];simp))
  go_wp2
  go_ret
  exact ⟨by rw [HE.out];rfl,HB1.out⟩
 ·go_wp2_with fail
  refine (H2.out (by trivial) _ HB1.out).mono ?_
  rintro e w2 ⟨rfl,hb2⟩
  have f0:=(hb2.cell (p:=⟨w.heap.size,0,none⟩) hwz).trans f0
  have f1:=(hb2.cell (p:=⟨w.heap.size,1,none⟩) hwz).trans f1
  have f2:=(hb2.cell (p:=⟨w.heap.size,2,none⟩) hwz).trans f2
  have f3:=(hb2.cell (p:=⟨w.heap.size,3,none⟩) hwz).trans f3
  have f4:=(hb2.cell (p:=⟨w.heap.size,4,none⟩) hwz).trans f4
  have f5:=(hb2.cell (p:=⟨w.heap.size,5,none⟩) hwz).trans f5
  have f6:=(hb2.cell (p:=⟨w.heap.size,6,none⟩) hwz).trans f6
  have f7:=(hb2.cell (p:=⟨w.heap.size,7,none⟩) hwz).trans f7
  have HB2:=hide_ (HB1.out.trans (hb2.mono HB1.out.size))
  have hwz:w.heap.size<w2.heap.size:=Nat.lt_of_lt_of_le hwz hb2.size
  clear hb2
  cases b2
  ·have HE:=hide_ (chkV_no (x:=x) (by unfold okB;rw [← E2.out];simp))
   go_wp2
   go_ret
   exact ⟨by rw [HE.out];rfl,HB2.out⟩
  ·go_wp2_with fail
   refine (H3.out (by trivial) _ HB2.out).mono ?_
   rintro e w3 ⟨rfl,hb3⟩
   have f0:=(hb3.cell (p:=⟨w.heap.size,0,none⟩) hwz).trans f0
   have f1:=(hb3.cell (p:=⟨w.heap.size,1,none⟩) hwz).trans f1
   have f2:=(hb3.cell (p:=⟨w.heap.size,2,none⟩) hwz).trans f2
   have f3:=(hb3.cell (p:=⟨w.heap.size,3,none⟩) hwz).trans f3
   have f4:=(hb3.cell (p:=⟨w.heap.size,4,none⟩) hwz).trans f4
   have f5:=(hb3.cell (p:=⟨w.heap.size,5,none⟩) hwz).trans f5
   have f6:=(hb3.cell (p:=⟨w.heap.size,6,none⟩) hwz).trans f6
   have f7:=(hb3.cell (p:=⟨w.heap.size,7,none⟩) hwz).trans f7
   have HB3:=hide_ (HB2.out.trans (hb3.mono HB2.out.size))
   have hwz:w.heap.size<w3.heap.size:=Nat.lt_of_lt_of_le hwz hb3.size
   clear hb3
   cases b3
   ·have HE:=hide_ (chkV_no (x:=x) (by unfold okB;rw [← E3.out];simp))
    go_wp2
    go_ret
    exact ⟨by rw [HE.out];rfl,HB3.out⟩
   ·go_wp2_with fail
    refine (H4.out _ HB3.out).mono ?_
    rintro e w4 ⟨rfl,hb4⟩
    have f0:=(hb4.cell (p:=⟨w.heap.size,0,none⟩) hwz).trans f0
    have f1:=(hb4.cell (p:=⟨w.heap.size,1,none⟩) hwz).trans f1
    have f2:=(hb4.cell (p:=⟨w.heap.size,2,none⟩) hwz).trans f2
    have f3:=(hb4.cell (p:=⟨w.heap.size,3,none⟩) hwz).trans f3
    have f4:=(hb4.cell (p:=⟨w.heap.size,4,none⟩) hwz).trans f4
    have f5:=(hb4.cell (p:=⟨w.heap.size,5,none⟩) hwz).trans f5
    have f6:=(hb4.cell (p:=⟨w.heap.size,6,none⟩) hwz).trans f6
    have f7:=(hb4.cell (p:=⟨w.heap.size,7,none⟩) hwz).trans f7
    have HB4:=hide_ (HB3.out.trans (hb4.mono HB3.out.size))
    have hwz:w.heap.size<w4.heap.size:=Nat.lt_of_lt_of_le hwz hb4.size
    clear hb4
    cases b4
    ·have HE:=hide_ (chkV_no (x:=x) (by unfold okB;rw [← E4.out];simp))
     go_wp2
     go_ret
     exact ⟨by rw [HE.out];rfl,HB4.out⟩
    ·have HOKB:=hide_ (show okB x=codeB x by unfold okB;rw [← E1.out,← E2.out,← E3.out,← E4.out];rfl)
     clear H1 H2 H3 H4 E1 E2 E3 E4 HB0 HB1 HB2 HB3
     go_wp2
     go_loopw [26] (fun i wr=>∃ k:Nat,k≤n∧i=.int .i64 k∧Hid (∀ j,j<k→(match x.code[j]? with
       | none=>true
       | some t=>decide (opChk t.1 t.2=0))=true)∧Below w.heap.size w wr) (fun i _=>n - (intOf i).toNat)
     case atStart=>exact ⟨0,Nat.zero_le _,rfl,hide_ (fun j hj=>absurd hj (by omega)),HB4.out⟩
     case round =>
      clear HB4 f0 f1 f2 f3 f4 f5 f6 f7 hwz
      obtain ⟨k,hk,rfl,HALL,hb⟩:=hrel
      have HB:=hide_ hb
      have hbz:=hb.size
      by_cases hlt:k<n
      ·obtain ⟨t,ht⟩:∃ t,x.code[k]?=some t:=⟨_,List.getElem?_eq_getElem (by have:=HN.out;omega)⟩
       obtain ⟨⟨op0,op1⟩,ar0,ar1⟩:=HOC.out t (List.mem_of_getElem? ht)
       obtain ⟨_,ad,rfl,hbk,p0,p1⟩:=el_cells cE_len (HRC.out.below hb) (by omega) ht
       have q0:=p0 _ rfl
       have q1:=p1 1 _ (by omega) rfl
       have hbs:(ad.add (k * 2)).block<wr.heap.size:=by omega
       have HLO:=hide_ (codeOk_at ht)
       obtain ⟨op,arg⟩:=t
       simp only at q0 q1 op0 op1 ar0 ar1 HLO
       have HCK:=hide_ (fun W=>Check_any op arg W)
       obtain ⟨z,hz⟩:∃ z,z=opChk op arg:=⟨_,rfl⟩
       rw [← hz] at HCK HLO
       clear hb p0 p1 ht hbk hz
       go_wp2_with fail
       refine (HCK.out _).mono ?_
       rintro e w9 ⟨rfl,hb9⟩
       have HB9:=hide_ ((HB.out.alloc HB.out.size _).trans (hb9.mono (HB.out.alloc HB.out.size _).size))
       clear hb9 q0 q1
       by_cases h0:z=0
       ·have g:(z != 0)=false:=by simpa using h0
        have HTR:=hide_ (HLO.out.trans (decide_eq_true h0))
        clear h0
        go_wp2
        go_roundw
        case rel=>exact ⟨k+1,by omega,by go_num,hide_ (all_next HALL.out HTR.out),HB9.out⟩
        case measure=>simp [intOf];omega
       ·have g:(z != 0)=true:=by simpa using h0
        have HE:=hide_ (chkV_no (x:=x) (by rw [HOKB.out];exact range_false (k:=k) (by have:=HN.out;omega) (HLO.out.trans (decide_eq_false h0))))
        clear h0
        go_wp2
        go_ret
        exact ⟨by rw [HE.out];rfl,HB9.out⟩
      ·obtain rfl:k=n:=by omega
       have HE:=hide_ (chkV_yes (x:=x) (by rw [HOKB.out];exact range_true (fun j hj=>HALL.out j (by rw [HN.out];exact hj))))
       clear hb hbz
       go_wp2
       go_ret
       exact ⟨by rw [HE.out];rfl,HB.out⟩
end Go.Proofs.YtikbegmodacopaaGreatDoor
namespace Go.Proofs.YtikbegmodacopaaGreatDoor
set_option maxRecDepth 100000
open Go.RowKit Go.PlainAid
set_option linter.unusedSimpArgs false
set_option linter.unusedVariables false
theorem ba_assoc (a b c:ByteArray):a ++ b ++ c=a ++ (b ++ c):=by apply ByteArray.ext;simp
def e0B:ByteArray:=⟨#[]⟩
theorem ba_nil (a:ByteArray):a ++ e0B=a:=by apply ByteArray.ext;simp [e0B]
theorem nil_ba (a:ByteArray):e0B ++ a=a:=by apply ByteArray.ext;simp [e0B]
def cat:List ByteArray→ByteArray
 | []=>e0B
 | a :: l=>a ++ cat l
theorem cat_app (a b:List ByteArray):cat (a ++ b)=cat a ++ cat b:=by
 induction a with
 | nil=>rw [List.nil_append];exact (nil_ba _).symm
 | cons x a ih=>rw [List.cons_append];show x ++ cat (a ++ b)=(x ++ cat a) ++ cat b;rw [ih,ba_assoc]
theorem cat_snoc (a:List ByteArray) (x:ByteArray):cat (a ++ [x])=cat a ++ x:=by rw [cat_app];show cat a ++ (x ++ e0B)=_;rw [ba_nil]
theorem ba_size (a b:ByteArray):(a ++ b).size=a.size+b.size:=ByteArray.size_append
theorem ba_ne {a:ByteArray} (h:a≠e0B):0<a.size:=by
 rcases Nat.eq_zero_or_pos a.size with h0 | h0
 ·exact absurd (by
   apply ByteArray.ext
   have:a.data.size=0:=h0
   rw [Array.eq_empty_of_size_eq_zero this];rfl) h
 ·exact h0
def labLn (l:LabV):ByteArray:=l.name ++ ⟨#[58,10]⟩
def labAt (sec at_:Int) (l:LabV):Bool:=decide (l.sec=sec) && decide (l.at_=at_)
def atL (L:List LabV) (sec at_:Int):ByteArray:=cat ((L.filter (labAt sec at_)).map labLn)
def fixTx (f:FixV):ByteArray:=if f.add=0 then f.name else f.name ++ ⟨#[43]⟩ ++ decT f.add.toNat
def fixAtB (sec at_:Int) (f:FixV):Bool:=decide (f.sec=sec) && decide (f.at_=at_)
def fixT (F:List FixV) (sec at_:Int):ByteArray:=match F.find? (fixAtB sec at_) with
 | some f=>fixTx f
 | none=>e0B
def befL (sec at_:Int) (l:LabV):Prop:=l.sec<sec∨(l.sec=sec∧l.at_<at_)
def befF (sec at_:Int) (f:FixV):Prop:=f.sec<sec∨(f.sec=sec∧f.at_<at_)
def leL (a b:LabV):Prop:=a.sec<b.sec∨(a.sec=b.sec∧a.at_≤b.at_)
def ltF (a b:FixV):Prop:=a.sec<b.sec∨(a.sec=b.sec∧a.at_<b.at_∧(a.sec=2→a.at_+4≤b.at_))
structure LeftL (L R:List LabV) (sec at_:Int):Prop where
 all_:∃ D,L=D ++ R∧∀ d ∈ D,befL sec at_ d
 rest:∀ r ∈ R,¬ befL sec at_ r
 rise:R.Pairwise leL
structure LeftF (F R:List FixV) (sec at_:Int):Prop where
 all_:∃ D,F=D ++ R∧∀ d ∈ D,befF sec at_ d
 rest:∀ r ∈ R,¬ befF sec at_ r
 rise:R.Pairwise ltF
theorem labAt_bef {sec at_:Int} {l:LabV} (h:befL sec at_ l):labAt sec at_ l=false:=by
 unfold labAt befL at *
 rcases h with h | ⟨h1,h2⟩
 ·rw [decide_eq_false (by omega)];rfl
 ·rw [decide_eq_false (show ¬ l.at_=at_ by omega),Bool.and_false]
theorem fixAt_bef {sec at_:Int} {l:FixV} (h:befF sec at_ l):fixAtB sec at_ l=false:=by
 unfold fixAtB befF at *
 rcases h with h | ⟨h1,h2⟩
 ·rw [decide_eq_false (by omega)];rfl
 ·rw [decide_eq_false (show ¬ l.at_=at_ by omega),Bool.and_false]
theorem LeftL.atL_eq {L R:List LabV} {sec at_:Int} (h:LeftL L R sec at_):atL L sec at_=atL R sec at_:=by
 obtain ⟨D,rfl,hD⟩:=h.all_
 unfold atL
 rw [List.filter_append,List.filter_eq_nil_iff.2 (fun d hd=>by rw [labAt_bef (hD d hd)];simp),List.nil_append]
theorem LeftF.fixT_eq {F R:List FixV} {sec at_:Int} (h:LeftF F R sec at_):fixT F sec at_=fixT R sec at_:=by
 obtain ⟨D,rfl,hD⟩:=h.all_
 unfold fixT
 rw [List.find?_append,List.find?_eq_none.2 (fun d hd=>by rw [fixAt_bef (hD d hd)];simp)]
 rfl
theorem atL_stop {R:List LabV} {l:LabV} {sec at_:Int} (hr:(l :: R).Pairwise leL) (hn:¬ befL sec at_ l) (h:labAt sec at_ l=false):atL (l :: R) sec at_=e0B:=by
 unfold atL
 rw [List.filter_eq_nil_iff.2]
 ·rfl
 ·intro d hd
  have hl:l.sec≠sec∨l.at_≠at_:=by
   unfold labAt at h
   rcases Bool.and_eq_false_iff.1 h with h1 | h1
   ·exact .inl (of_decide_eq_false h1)
   ·exact .inr (of_decide_eq_false h1)
  unfold befL at hn
  rcases List.mem_cons.1 hd with rfl | hd
  ·rw [h];simp
  ·have:=(List.pairwise_cons.1 hr).1 d hd
   unfold leL at this
   unfold labAt
   intro hc
   rw [Bool.and_eq_true,decide_eq_true_eq,decide_eq_true_eq] at hc
   omega
theorem atL_take {R:List LabV} {l:LabV} {sec at_:Int} (h:labAt sec at_ l=true):atL (l :: R) sec at_=labLn l ++ atL R sec at_:=by
 unfold atL
 rw [List.filter_cons_of_pos (by rw [h])]
 rfl
theorem atL_nil (sec at_:Int):atL [] sec at_=e0B:=rfl
theorem LeftL.past {L R:List LabV} {sec at_:Int} (hl:∀ l,R.head?=some l→labAt sec at_ l=false) (h:LeftL L R sec at_):LeftL L R sec (at_+1):=by
 obtain ⟨D,hD,hb⟩:=h.all_
 refine ⟨⟨D,hD,fun d hd=>?_⟩,fun r hr=>?_,h.rise⟩
 ·have:=hb d hd;unfold befL at *;omega
 ·have h1:=h.rest r hr
  cases R with
  | nil=>cases hr
  | cons l R =>
   have h2:=hl l rfl
   have h3:=h.rest l (by simp)
   have hq:l.sec≠sec∨l.at_≠at_:=by
    unfold labAt at h2
    rcases Bool.and_eq_false_iff.1 h2 with h4 | h4
    ·exact .inl (of_decide_eq_false h4)
    ·exact .inr (of_decide_eq_false h4)
   unfold befL at *
   rcases List.mem_cons.1 hr with rfl | hr
   ·omega
   ·have:=(List.pairwise_cons.1 h.rise).1 r hr
    unfold leL at this
    omega
theorem LeftL.skip {L R:List LabV} {sec a b:Int} (h:LeftL L R sec a) (hab:a≤b) (hn:∀ l,R.head?=some l→¬ befL sec b l):LeftL L R sec b:=by
 obtain ⟨D,hD,hb⟩:=h.all_
 refine ⟨⟨D,hD,fun d hd=>?_⟩,fun r hr=>?_,h.rise⟩
 ·have:=hb d hd;unfold befL at *;omega
 ·cases R with
  | nil=>cases hr
  | cons l R =>
   have h2:=hn l rfl
   unfold befL at *
   rcases List.mem_cons.1 hr with rfl | hr
   ·omega
   ·have:=(List.pairwise_cons.1 h.rise).1 r hr
    unfold leL at this
    omega
theorem LeftF.skip {F R:List FixV} {sec a b:Int} (h:LeftF F R sec a) (hab:a≤b) (hn:∀ l,R.head?=some l→¬ befF sec b l):LeftF F R sec b:=by
 obtain ⟨D,hD,hb⟩:=h.all_
 refine ⟨⟨D,hD,fun d hd=>?_⟩,fun r hr=>?_,h.rise⟩
 ·have:=hb d hd;unfold befF at *;omega
 ·cases R with
  | nil=>cases hr
  | cons l R =>
   have h2:=hn l rfl
   unfold befF at *
   rcases List.mem_cons.1 hr with rfl | hr
   ·omega
   ·have:=(List.pairwise_cons.1 h.rise).1 r hr
    unfold ltF at this
    omega
theorem LeftL.take {L R:List LabV} {l:LabV} {sec at_:Int} (h:LeftL L (l :: R) sec at_) (hl:labAt sec at_ l=true):∃ D,L=D ++ R∧(∀ d ∈ D,¬ befL sec (at_+1) d→False):=by
 obtain ⟨D,hD,hb⟩:=h.all_
 refine ⟨D ++ [l],by rw [hD];simp,fun d hd hn=>hn ?_⟩
 unfold labAt at hl
 rw [Bool.and_eq_true,decide_eq_true_eq,decide_eq_true_eq] at hl
 rcases List.mem_append.1 hd with hd | hd
 ·have:=hb d hd;unfold befL at *;omega
 ·obtain rfl:=List.mem_singleton.1 hd
  unfold befL;omega
structure AtL (L R:List LabV) (sec at_:Int):Prop where
 all_:∃ D,L=D ++ R∧∀ d ∈ D,befL sec (at_+1) d
 rest:∀ r ∈ R,¬ befL sec at_ r
 rise:R.Pairwise leL
theorem LeftL.at_ {L R:List LabV} {sec at_:Int} (h:LeftL L R sec at_):AtL L R sec at_:=by
 obtain ⟨D,hD,hb⟩:=h.all_
 exact ⟨⟨D,hD,fun d hd=>by have:=hb d hd;unfold befL at *;omega⟩,h.rest,h.rise⟩
theorem AtL.take {L R:List LabV} {l:LabV} {sec at_:Int} (h:AtL L (l :: R) sec at_) (hl:labAt sec at_ l=true):AtL L R sec at_:=by
 obtain ⟨D,hD,hb⟩:=h.all_
 refine ⟨⟨D ++ [l],by rw [hD];simp,fun d hd=>?_⟩,fun r hr=>h.rest r (by simp [hr]),(List.pairwise_cons.1 h.rise).2⟩
 unfold labAt at hl
 rw [Bool.and_eq_true,decide_eq_true_eq,decide_eq_true_eq] at hl
 rcases List.mem_append.1 hd with hd | hd
 ·exact hb d hd
 ·obtain rfl:=List.mem_singleton.1 hd
  unfold befL;omega
theorem AtL.done {L R:List LabV} {sec at_:Int} (h:AtL L R sec at_) (hl:∀ l,R.head?=some l→labAt sec at_ l=false):LeftL L R sec (at_+1):=by
 refine ⟨h.all_,fun r hr=>?_,h.rise⟩
 have h1:=h.rest r hr
 cases R with
 | nil=>cases hr
 | cons l R =>
  have h2:=hl l rfl
  have h3:=h.rest l (by simp)
  have hq:l.sec≠sec∨l.at_≠at_:=by
   unfold labAt at h2
   rcases Bool.and_eq_false_iff.1 h2 with h4 | h4
   ·exact .inl (of_decide_eq_false h4)
   ·exact .inr (of_decide_eq_false h4)
  unfold befL at *
  rcases List.mem_cons.1 hr with rfl | hr
  ·omega
  ·have:=(List.pairwise_cons.1 h.rise).1 r hr
   unfold leL at this
   omega
theorem fixT_here {R:List FixV} {f:FixV} {sec at_:Int} (h:fixAtB sec at_ f=true):fixT (f :: R) sec at_=fixTx f:=by
 unfold fixT
 rw [List.find?_cons_of_pos h]
theorem fixT_none {F R:List FixV} {sec at_:Int} (h:LeftF F R sec at_) (hn:∀ f,R.head?=some f→fixAtB sec at_ f=false):fixT R sec at_=e0B:=by
 unfold fixT
 rw [List.find?_eq_none.2]
 intro d hd
 cases R with
 | nil=>cases hd
 | cons f R =>
  have h2:=hn f rfl
  have h3:=h.rest f (by simp)
  have hq:f.sec≠sec∨f.at_≠at_:=by
   unfold fixAtB at h2
   rcases Bool.and_eq_false_iff.1 h2 with h4 | h4
   ·exact .inl (of_decide_eq_false h4)
   ·exact .inr (of_decide_eq_false h4)
  rcases List.mem_cons.1 hd with rfl | hd
  ·rw [h2];simp
  ·have:=(List.pairwise_cons.1 h.rise).1 d hd
   unfold ltF at this
   unfold befF at h3
   unfold fixAtB
   intro hc
   rw [Bool.and_eq_true,decide_eq_true_eq,decide_eq_true_eq] at hc
   omega
theorem LeftF.past {F R:List FixV} {sec at_:Int} (h:LeftF F R sec at_) (hn:∀ f,R.head?=some f→fixAtB sec at_ f=false):LeftF F R sec (at_+1):=h.skip (by omega) fun l hl=>by
 have h2:=hn l hl
 have h3:=h.rest l (List.mem_of_mem_head? hl)
 have hq:l.sec≠sec∨l.at_≠at_:=by
  unfold fixAtB at h2
  rcases Bool.and_eq_false_iff.1 h2 with h4 | h4
  ·exact .inl (of_decide_eq_false h4)
  ·exact .inr (of_decide_eq_false h4)
 unfold befF at *
 omega
theorem LeftF.take {F R:List FixV} {f:FixV} {sec at_:Int} (h:LeftF F (f :: R) sec at_) (hf:fixAtB sec at_ f=true):LeftF F R sec (at_+(if sec=2 then 4 else 1)):=by
 obtain ⟨D,hD,hb⟩:=h.all_
 unfold fixAtB at hf
 rw [Bool.and_eq_true,decide_eq_true_eq,decide_eq_true_eq] at hf
 refine ⟨⟨D ++ [f],by rw [hD];simp,fun d hd=>?_⟩,fun r hr=>?_,(List.pairwise_cons.1 h.rise).2⟩
 ·rcases List.mem_append.1 hd with hd | hd
  ·have:=hb d hd;unfold befF at *;split <;> omega
  ·obtain rfl:=List.mem_singleton.1 hd
   unfold befF;split <;> omega
 ·have:=(List.pairwise_cons.1 h.rise).1 r hr
  unfold ltF at this
  unfold befF
  split <;> omega
def insT (x:ObjV) (i:Nat):ByteArray:=atL x.labels 1 i ++ (match x.code[i]? with
 | none=>e0B
 | some t=>⟨#[9]⟩ ++ ⟨(opR t.1).w.toArray⟩ ++ (if 0<(opR t.1).width then ⟨#[32]⟩ ++ (if fixT x.fixes 1 i=e0B then sgnT t.2 else fixT x.fixes 1 i) else e0B) ++ ⟨#[10]⟩)
def codeR (x:ObjV):Nat→Nat→ByteArray
 | 0,i=>atL x.labels 1 i
 | k+1,i=>insT x i ++ codeR x k (i+1)
def clearD (x:ObjV) (k:Nat):Bool:=decide (atL x.labels 2 k=e0B) && decide (fixT x.fixes 2 k=e0B)
def stopG (x:ObjV):Nat→Nat→Nat
 | 0,k=>k
 | f+1,k=>if k<x.data.length∧clearD x k=true then stopG x f (k+1) else k
def stopK (x:ObjV) (i:Nat):Nat:=stopG x 15 (i+1)
def showT (l:List Int):ByteArray:=strOfNums (showL l)
def dataR (x:ObjV):Nat→Nat→ByteArray
 | 0,_=>atL x.labels 2 x.data.length
 | k+1,i=>if x.data.length≤i then atL x.labels 2 x.data.length else atL x.labels 2 i ++
   (if fixT x.fixes 2 i=e0B then ⟨#[9,98,121,116,101,115,32]⟩ ++ showT ((x.data.drop i).take (stopK x i - i)) ++ ⟨#[10]⟩ ++ dataR x k (stopK x i)
    else ⟨#[9,119,111,114,100,32]⟩ ++ fixT x.fixes 2 i ++ ⟨#[10]⟩ ++ dataR x k (i+4))
def hasL (L:List LabV) (sec:Int):Bool:=L.any fun l=>decide (l.sec=sec)
def dataT (x:ObjV):ByteArray:=if x.data.length=0∧hasL x.labels 2=false then e0B else ⟨#[100,97,116,97,10]⟩ ++ dataR x x.data.length 0
def spaceT (n:Int):ByteArray:=⟨#[9,115,112,97,99,101,32]⟩ ++ decT n.toNat ++ ⟨#[10]⟩
def zeroR (z:Int):List LabV→Int→ByteArray
 | [],at_=>if at_<z then spaceT (z - at_) else e0B
 | l :: L,at_=>if l.sec=3 then (if at_<l.at_ then spaceT (l.at_ - at_) ++ (labLn l ++ zeroR z L l.at_) else labLn l ++ zeroR z L at_) else zeroR z L at_
def zeroT (x:ObjV):ByteArray:=if x.zero=0∧hasL x.labels 3=false then e0B else ⟨#[122,101,114,111,10]⟩ ++ zeroR x.zero x.labels 0
def stackT (x:ObjV):ByteArray:=if x.stack=0 then e0B else ⟨#[115,116,97,99,107,32]⟩ ++ decT x.stack.toNat ++ ⟨#[10]⟩
def openT (l:LabV):ByteArray:=if l.opn=true then ⟨#[111,112,101,110,32]⟩ ++ l.name ++ ⟨#[10]⟩ else e0B
def targT (t:ByteArray):ByteArray:=⟨#[116,97,114,103,101,116,32]⟩ ++ t ++ ⟨#[10]⟩
def numsB (s:ByteArray):List Int:=s.data.toList.map fun b=>(b.toNat:Int)
def entT (t:EntV):ByteArray:=⟨#[101,110,116,114,121,32]⟩ ++ showT (numsB t.name) ++ ⟨#[44,32]⟩ ++ t.lab ++ ⟨#[10]⟩
def codeT (x:ObjV):ByteArray:=⟨#[99,111,100,101,10]⟩ ++ codeR x x.code.length 0
def restT (x:ObjV):ByteArray:=stackT x ++ (cat (x.labels.map openT) ++ (cat (x.targets.map targT) ++ cat (x.entries.map entT)))
def bodyT (x:ObjV):ByteArray:=codeT x ++ (dataT x ++ (zeroT x ++ restT x))
def prtS (x:ObjV):ByteArray:=if okB x=true then (if 524288<(bodyT x).size then e0B else bodyT x) else e0B
def prtE (x:ObjV):Int:=if okB x=true then (if 524288<(bodyT x).size then 105 else 0) else 104
end Go.Proofs.YtikbegmodacopaaGreatDoor
namespace Go.Proofs.YtikbegmodacopaaGreatDoor
open Go.RowKit Go.PlainAid Go.BigFrame
set_option linter.unusedSimpArgs false
set_option linter.unusedVariables false
set_option maxRecDepth 100000
theorem drop_at {α:Type} {l:List α} {k:Nat} {a:α} (h:l[k]?=some a):l.drop k=a :: l.drop (k+1):=by
 obtain ⟨hk,rfl⟩:=List.getElem?_eq_some_iff.1 h
 exact List.drop_eq_getElem_cons hk
end Go.Proofs.YtikbegmodacopaaGreatDoor
namespace Go.Proofs.YtikbegmodacopaaGreatDoor
open Go.RowKit Go.PlainAid Go.BigFrame
set_option linter.unusedSimpArgs false
set_option linter.unusedVariables false
set_option maxRecDepth 100000
end Go.Proofs.YtikbegmodacopaaGreatDoor
