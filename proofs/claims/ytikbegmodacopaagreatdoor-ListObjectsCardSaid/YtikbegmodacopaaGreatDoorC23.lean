/-
  Joined and packed by program.
-/
import Derived.Test.YtikbegmodacopaaGreatDoorC22
import Derived.Test.YtikbegmodacopaaGreatDoorC19
namespace Go.Proofs.YtikbegmodacopaaGreatDoor
open Go.RowKit Go.PlainAid Go.BigFrame
set_option linter.unusedSimpArgs false
set_option linter.unusedVariables false
set_option maxRecDepth 100000
theorem zeroR_skipD {z:Int} {R:List LabV} {a:Int}:∀ (D:List LabV),(∀ d ∈ D,¬ d.sec=3)→zeroR z (D ++ R) a=zeroR z R a
 | [],_=>rfl
 | d :: D,h=>by rw [List.cons_append,zeroR_skip (h d (by simp))];exact zeroR_skipD D (fun e he=>h e (by simp [he]))
theorem zeroR_all {z:Int} {R:List LabV} {a:Int}:∀ (D:List LabV),(∀ d ∈ D,d.sec=3∧d.at_=a)→zeroR z (D ++ R) a=cat (D.map labLn) ++ zeroR z R a
 | [],_=>(nil_ba _).symm
 | d :: D,h=>by
  have h1:=h d (by simp)
  rw [List.cons_append,zeroR_at h1.1 (by omega),zeroR_all D (fun e he=>h e (by simp [he])),List.map_cons,cat,ba_assoc]
theorem zeroR_take {z:Int} {RL RL4:List LabV} {p:Int} (hR:RL.Pairwise leL∧∀ r ∈ RL,¬ befL 3 p r) (h:∀ L,LeftL L RL 3 p→LeftL L RL4 3 (p+1)):zeroR z RL p=atL RL 3 p ++ zeroR z RL4 p:=by
 have h0:LeftL RL RL 3 p:=⟨⟨[],rfl,fun d hd=>by cases hd⟩,hR.2,hR.1⟩
 have h1:=h RL h0
 obtain ⟨D,hD,hb⟩:=h1.all_
 have hd:∀ d ∈ D,d.sec=3∧d.at_=p:=fun d hd=>by
  have h2:=hb d hd
  have h3:=hR.2 d (by rw [hD];simp [hd])
  unfold befL at h2 h3
  omega
 have e1:atL RL 3 p=cat (D.map labLn):=by
  unfold atL
  rw [hD,List.filter_append,List.filter_eq_self.2 (fun d hq=>by have:=hd d hq;simp [labAt,this.1,this.2]),List.filter_eq_nil_iff.2,List.append_nil]
  intro r hr hc
  have h2:=h1.rest r hr
  unfold labAt at hc
  rw [Bool.and_eq_true,decide_eq_true_eq,decide_eq_true_eq] at hc
  unfold befL at h2
  omega
 rw [e1]
 conv=>lhs;rw [hD]
 exact zeroR_all D hd
theorem zeroR_head (z:Int):∀ (RL:List LabV) (p:Int),RL.Pairwise leL→(∀ r ∈ RL,¬ befL 3 p r)→∃ q,zeroR z RL p=atL RL 3 p ++ q
 | [],p,_,_=>⟨zeroR z [] p,by rw [atL_nil,nil_ba]⟩
 | l :: R,p,h1,h2=>by
  cases hl:labAt 3 p l with
  | false=>exact ⟨zeroR z (l :: R) p,by rw [atL_stop h1 (h2 l (by simp)) hl,nil_ba]⟩
  | true =>
   obtain ⟨q,hq⟩:=zeroR_head z R p (List.pairwise_cons.1 h1).2 (fun r hr=>h2 r (by simp [hr]))
   have hl2:=hl
   unfold labAt at hl2
   rw [Bool.and_eq_true,decide_eq_true_eq,decide_eq_true_eq] at hl2
   exact ⟨q,by rw [atL_take hl,zeroR_at hl2.1 (by omega),hq,ba_assoc]⟩
theorem zeroR_next {x:ObjV} (hok:okB x=true) {RL:List LabV} {p:Int} (hL:LeftL x.labels RL 3 (p+1)) (hp:p<x.zero) :
  p+1≤untilV RL [] 3 (p+1) x.zero∧untilV RL [] 3 (p+1) x.zero≤x.zero∧zeroR x.zero RL p=spaceT (untilV RL [] 3 (p+1) x.zero - p) ++ zeroR x.zero RL (untilV RL [] 3 (p+1) x.zero)∧LeftL x.labels RL 3 (untilV RL [] 3 (p+1) x.zero):=by
 cases RL with
 | nil =>
  have e:untilV [] [] 3 (p+1) x.zero=x.zero:=rfl
  rw [e]
  refine ⟨by omega,Int.le_refl _,?_,hL.skip (by omega) (fun l h=>by cases h)⟩
  rw [zeroR,if_pos hp,zeroR,if_neg (by omega),ba_nil]
 | cons l R =>
  have hm:=hL.mem (List.mem_cons_self ..)
  have hf:=lab_facts hok hm
  have hb:=hL.rest l (by simp)
  unfold befL at hb
  have h3:l.sec=3:=by omega
  have h4:l.at_≤x.zero:=by have:=hf.2.2.2;rw [h3] at this;exact this
  have h5:p+1≤l.at_:=by omega
  have e:untilV (l :: R) [] 3 (p+1) x.zero=l.at_:=by
   unfold untilV
   rw [List.head?_cons,Option.map_some,minB_yes h3 h5]
   show min x.zero l.at_=l.at_
   omega
  rw [e]
  refine ⟨h5,h4,?_,hL.skip (by omega) (fun q h hq=>by cases h;unfold befL at hq;omega)⟩
  rw [zeroR_on h3 (by omega),zeroR_at h3 (by omega)]
theorem fixes_done {x:ObjV} (hok:okB x=true) {RF:List FixV} (h:LeftF x.fixes RF 3 0):RF=[]:=by
 cases RF with
 | nil=>rfl
 | cons f R =>
  have h1:=h.rest f (by simp)
  have h2:=fix_place hok (h.mem (List.mem_cons_self ..))
  unfold befF at h1
  omega
def ZeroPost (B g:Nat) (x:ObjV) (s:ObjS) (T:ByteArray) (w w':World):Prop:=∃ RL RF,PrS B g (poOf x s) RL RF T w'∧PrM B g w w'
set_option maxHeartbeats 16000000 in
theorem pzero_any (x:ObjV) (s:ObjS) (B g:Nat) (RL0:List LabV) (RF0:List FixV) (T:ByteArray) (w:World) (hx:ObjOk x) (hok:okB x=true) (h:PrS B g (poOf x s) RL0 RF0 T w) (hL0:LeftL x.labels RL0 3 0) (hF0:LeftF x.fixes RF0 3 0)
  (hTb:∀ W,Below B w W→TabOk W) (hz:T.size+(zeroT x).size≤140737488351232) :
  Calls Tryz.prog 85 #[.pointer (some ⟨g,0,none⟩)] w fun e w'=>e=.returned (.tuple #[])∧ZeroPost B g x s (T ++ zeroT x) w w':=by
 have hrf:=fixes_done hok hF0
 subst hrf
 have HTB:=hide_ hTb
 have HX:=hide_ hx
 have HOK:=hide_ hok
 have HBL:=hide_ h.low
 have HBG:=hide_ h.base
 have HL0:=hide_ hL0
 have hnb:=(boundB_iff.1 (okB_parts hok).1).2.2.1
 obtain ⟨z,hzr⟩:∃ n,n=x.zero:=⟨_,rfl⟩
 have HZR:=hide_ hzr.symm
 have HZ0:=hide_ hx.zero
 rw [← hzr] at hnb HZ0
 have HNB:=hide_ hnb
 obtain ⟨TT,hTT⟩:∃ t,t=T ++ zeroT x:=⟨_,rfl⟩
 have HZ:=hide_ (show TT.size≤140737488351232 by rw [hTT,ba_size];exact hz)
 have HTT:=hide_ hTT.symm
 have hc4:=h.c4
 rw [← hzr] at hc4
 have HS0:=hide_ h
 have hhas:hasB RL0 3=hasL x.labels 3:=(hasB_eq hL0 (fun l hl=>(hx.labels l hl).2.2.1)).symm
 obtain ⟨po,hpo⟩:∃ p,p=poOf x s:=⟨_,rfl⟩
 unfold ZeroPost
 rw [← hpo] at HS0
 rw [← hpo,← hTT]
 obtain ⟨hs,hhs⟩:∃ b,b=hasL x.labels 3:=⟨_,rfl⟩
 rw [← hhs] at hhas
 have HHS:=hide_ hhs.symm
 have HPH:=hide_ (show ∀ W,PrS B g po RL0 [] T W→Calls Tryz.prog 116 #[.pointer (some ⟨g,0,none⟩),.int .u8 3] W fun e w'=>e=.returned (.bool hs)∧w'=W from fun W hW=>by rw [← hhas];exact phas_any B g po RL0 [] T 3 W hW)
 have hgl:=h.lt
 obtain ⟨hz0,hz1⟩:=HZ0.out
 clear h hTb hz hok hx hTT hpo hL0 hF0 hhas hhs hzr hnb
 go_enter Tryz.func85,Tryz.ntmps85
 go_upto_region 1 with (fail)
 go_cut [16] from 10 to 16 (fun b wx=>b=.bool (decide (z=0) && !hs)∧wx=w)
 case first =>
  by_cases hn0:z=0
  ·have e0:(z == 0)=true:=by rw [hn0];rfl
   have HN0:=hide_ hn0
   clear hn0
   go_wp2_with fail
   refine (HPH.out _ HS0.out).mono ?_
   rintro e w2 ⟨rfl,rfl⟩
   go_wp2
   go_meet
   exact ⟨by rw [decide_eq_true HN0.out];cases hs <;> rfl,rfl⟩
  ·have e0:(z == 0)=false:=by simpa using hn0
   have HN0:=hide_ hn0
   clear hn0
   go_wp2
   go_meet
   exact ⟨by rw [decide_eq_false HN0.out];rfl,rfl⟩
 case rest =>
  obtain ⟨rfl,rfl⟩:=hcut
  clear hc4
  obtain ⟨cd,hcd⟩:∃ c,c=(decide (z=0) && !hs):=⟨_,rfl⟩
  rw [← hcd]
  have HCD:=hide_ hcd
  clear hcd
  cases cd
  ·have HT2:=hide_ (show T ++ (⟨#[122,101,114,111,10]⟩ ++ zeroR z RL0 0)=TT by
    obtain ⟨D,hD,hb⟩:=HL0.out.all_
    have h4:zeroR z x.labels 0=zeroR z RL0 0:=by
     rw [hD]
     refine zeroR_skipD D (fun d hd h3=>?_)
     have h5:=hb d hd
     have h6:=(HX.out.labels d (by rw [hD];simp [hd])).2.2.1
     unfold befL at h5
     omega
    rw [← h4,← HTT.out,zeroT,if_neg,HZR.out]
    rintro ⟨h1,h2⟩
    have h3:=HCD.out
    rw [← HHS.out,h2,← HZR.out,h1] at h3
    simp at h3)
   have HQ0:=hide_ (show T.size+(cat [⟨#[122,101,114,111]⟩]).size+1≤140737488355328 by
    have h1:=congrArg ByteArray.size HT2.out
    rw [ba_size,ba_size] at h1
    have h2:(cat [⟨#[122,101,114,111]⟩]).size=4:=rfl
    have h3:(⟨#[122,101,114,111,10]⟩:ByteArray).size=5:=rfl
    have:=HZ.out
    omega)
   have HSA:=hide_ (HS0.out.alloc (.cells #[.string ⟨#[122,101,114,111]⟩] 9))
   have HBA:=hide_ (heap_alloc_new wc (.cells #[.string ⟨#[122,101,114,111]⟩] 9))
   have HMA:=hide_ (PrM.alloc (g:=g) HS0.out.low (.cells #[.string ⟨#[122,101,114,111]⟩] 9))
   go_wp2_with fail
   refine (line_any B g wc.heap.size _ _ _ T [⟨#[122,101,114,111]⟩] 1 _ HSA.out HBA.out rfl (by decide) HQ0.out).mono ?_
   rintro e w1 ⟨rfl,hS1,hM1⟩
   have HM1:=hide_ (HMA.out.trans hM1)
   have HT1:=hide_ (show (T ++ (cat [⟨#[122,101,114,111]⟩] ++ ⟨#[10]⟩)) ++ zeroR z RL0 0=TT by
    rw [← HT2.out]
    simp only [ba_assoc]
    rfl)
   have HS1:=hide_ hS1
   clear hS1 hM1 HSA HBA HQ0 HMA
   go_wp2
   go_loopw [3] (fun i wr=>∃ (p:Int) (RL:List LabV) (S:ByteArray),0≤p∧p≤z∧i=.int .u32 p∧Hid (PrS B g po RL [] S wr)∧Hid (S ++ zeroR z RL p=TT)∧Hid (LeftL x.labels RL 3 p)∧Hid (PrM B g wc wr)) (fun i _=>(z - intOf i).toNat)
   case atStart=>exact ⟨0,_,_,by omega,by omega,rfl,HS1,HT1,HL0,HM1⟩
   case round =>
    clear HS1 HT1 HL0 HM1
    obtain ⟨p,RL,S,hp0,hpz,rfl,HS,HT,HL,HM⟩:=hrel
    by_cases hlt:p<z
    ·have HQ1:=hide_ (show S.size+(atL RL 3 p).size≤140737488351232 by
      have h1:=congrArg ByteArray.size HT.out
      obtain ⟨q,h3⟩:=zeroR_head z RL p HL.out.rise HL.out.rest
      rw [h3,ba_size,ba_size] at h1
      have:=HZ.out
      omega)
     go_wp2_with fail
     refine (pat_any B g po RL [] S 3 p _ HS.out HL.out.rise HL.out.rest HQ1.out).mono ?_
     rintro e w4 ⟨rfl,RL4,hS4,hL4,hM4⟩
     have HTK:=hide_ (zeroR_take (z:=z) ⟨HL.out.rise,HL.out.rest⟩ hL4)
     have HM4:=hide_ (HM.out.trans hM4)
     have HL4:=hide_ (hL4 _ HL.out)
     have HS4:=hide_ hS4
     have hnx:=zeroR_next HOK.out HL4.out (by rw [HZR.out];exact hlt)
     rw [HZR.out] at hnx
     obtain ⟨q,hq⟩:∃ q,q=untilV RL4 [] 3 (p+1) z:=⟨_,rfl⟩
     rw [← hq] at hnx
     obtain ⟨hn1,hn2,hn3,hn4⟩:=hnx
     have HLQ:=hide_ hn4
     have HUN:=hide_ (show ∀ T W,PrS B g po RL4 [] T W→Calls Tryz.prog 117 #[.pointer (some ⟨g,0,none⟩),.int .u8 3,.int .u32 (p+1),.int .u32 z] W fun e w'=>e=.returned (.int .u32 q)∧w'=W from fun T W hW=>by rw [hq];exact until_any B g po RL4 [] T 3 (p+1) z W hW)
     obtain ⟨m,hm⟩:∃ m:Nat,q - p=(m:Int):=⟨(q - p).toNat,by omega⟩
     have HIT:=hide_ (show ∀ W,TabOk W→Calls Tryz.prog 103 #[.int .i64 (q - p)] W fun e w'=>e=.returned (.string (decT m))∧Below W.heap.size W w' from fun W hW=>by
      rw [hm]
      refine (Tryz.strconv_Itoa (m:Int) (by omega) (by omega) W hW).mono ?_
      rintro e w' ⟨rfl,k,os,rfl⟩
      exact ⟨by rw [Lib.itoa_nonneg];rfl,Lib.below_grow W.heap.size W (Nat.le_refl _) k os⟩)
     obtain ⟨sp,hsp⟩:∃ a,a=decT m:=⟨_,rfl⟩
     rw [← hsp] at HIT
     have HTY:=hide_ (show (S ++ atL RL 3 p) ++ (cat [⟨#[9,115,112,97,99,101,32]⟩,sp] ++ ⟨#[10]⟩) ++ zeroR z RL4 q=TT by
      rw [← HT.out,HTK.out,hn3,spaceT,hm,Int.toNat_natCast,← hsp]
      simp only [cat,ba_nil,ba_assoc])
     have HQ2:=hide_ (show (S ++ atL RL 3 p).size+(cat [⟨#[9,115,112,97,99,101,32]⟩,sp]).size+1≤140737488355328 by
      have h1:=congrArg ByteArray.size HTY.out
      rw [ba_size,ba_size,ba_size (cat _)] at h1
      have:(⟨#[10]⟩:ByteArray).size=1:=rfl
      have:=HZ.out
      omega)
     have w1i:IntKind.u32.wrap (p+1)=p+1:=IntWalk.u32_in _ (by have:=HNB.out;omega)
     have w2i:IntKind.u32.wrap (q - p)=q - p:=IntWalk.u32_in _ (by have:=HNB.out;omega)
     have w3i:IntKind.i64.wrap (q - p)=q - p:=IntWalk.i64_in _ (by have:=HNB.out;omega)
     clear hS4 hL4 hM4 hn3 hn4 hq hm hsp
     go_wp2_with fail
     refine (HUN.out _ _ HS4.out).mono ?_
     rintro e w8 ⟨rfl,rfl⟩
     go_wp2_with fail
     refine (HIT.out _ (HTB.out _ HM4.out.bel)).mono ?_
     rintro e w9 ⟨rfl,hb9⟩
     have HS9:=hide_ (HS4.out.below hb9)
     have HM9:=hide_ (HM4.out.trans (PrM.of_below HS4.out.low hb9))
     have HSA:=hide_ (HS9.out.alloc (.cells #[.string ⟨#[9,115,112,97,99,101,32]⟩,.string sp] 9))
     have HBA:=hide_ (heap_alloc_new w9 (.cells #[.string ⟨#[9,115,112,97,99,101,32]⟩,.string sp] 9))
     have HMA:=hide_ (HM9.out.trans (PrM.alloc HS9.out.low (.cells #[.string ⟨#[9,115,112,97,99,101,32]⟩,.string sp] 9)))
     clear hb9
     go_wp2_with fail
     refine (line_any B g w9.heap.size _ _ _ _ [⟨#[9,115,112,97,99,101,32]⟩,sp] 2 _ HSA.out HBA.out rfl (by decide) HQ2.out).mono ?_
     rintro e w10 ⟨rfl,hS10,hM10⟩
     have HS10:=hide_ hS10
     have HM10:=hide_ (HMA.out.trans hM10)
     clear hS10 hM10
     go_wp2
     go_roundw
     case rel=>exact ⟨q,_,_,by omega,by omega,rfl,HS10,HTY,HLQ,HM10⟩
     case measure=>simp [intOf];omega
    ·obtain rfl:p=z:=by omega
     have HQ1:=hide_ (show S.size+(atL RL 3 p).size≤140737488351232 by
      have h1:=congrArg ByteArray.size HT.out
      obtain ⟨q,h3⟩:=zeroR_head p RL p HL.out.rise HL.out.rest
      rw [h3,ba_size,ba_size] at h1
      have:=HZ.out
      omega)
     go_wp2_with fail
     refine (pat_any B g po RL [] S 3 p _ HS.out HL.out.rise HL.out.rest HQ1.out).mono ?_
     rintro e w4 ⟨rfl,RL4,hS4,hL4,hM4⟩
     have HFIN:=hide_ (show ∃ RL' RF',PrS B g po RL' RF' TT w4∧PrM B g wc w4 from by
      refine ⟨RL4,[],?_,HM.out.trans hM4⟩
      have h1:=zeroR_take (z:=p) ⟨HL.out.rise,HL.out.rest⟩ hL4
      have h2:=hL4 _ HL.out
      have h3:RL4=[]:=by
       cases RL4 with
       | nil=>rfl
       | cons l R =>
        have h4:=h2.rest l (by simp)
        have h5:=lab_facts HOK.out (h2.mem (List.mem_cons_self ..))
        unfold befL at h4
        have h6:l.sec=3:=by omega
        have h7:=h5.2.2.2
        rw [h6,lenOf,if_neg (by decide),if_neg (by decide),HZR.out] at h7
        omega
      rw [h3,zeroR,if_neg (by omega),ba_nil] at h1
      rw [← HT.out,h1]
      exact hS4)
     clear hS4 hL4 hM4
     go_wp2
     go_end0
     exact ⟨rfl,HFIN.out⟩
  ·have h3:=HCD.out
   have HFIN:=hide_ (show ∃ RL' RF',PrS B g po RL' RF' TT wc∧PrM B g wc wc from by
    have hn0:z=0:=by
     by_cases h:z=0
     ·exact h
     ·rw [decide_eq_false h] at h3;cases h3
    have hs0:hasL x.labels 3=false:=by
     rw [HHS.out]
     cases hs with
     | false=>rfl
     | true=>rw [Bool.not_true,Bool.and_false] at h3;cases h3
    refine ⟨RL0,[],?_,PrM.refl _ _ _⟩
    rw [← HTT.out,zeroT,if_pos ⟨by rw [HZR.out];exact hn0,hs0⟩,ba_nil]
    exact HS0.out)
   clear h3
   go_wp2
   refine bodyPost_ret (results_none rfl _ _ _) rfl ?_
   exact ⟨rfl,HFIN.out⟩
end Go.Proofs.YtikbegmodacopaaGreatDoor
namespace Go.Proofs.YtikbegmodacopaaGreatDoor
open Go.RowKit Go.PlainAid Go.BigFrame
set_option linter.unusedSimpArgs false
set_option linter.unusedVariables false
set_option maxRecDepth 100000
set_option maxHeartbeats 16000000 in
theorem prest_any (x:ObjV) (s:ObjS) (B g:Nat) (RL:List LabV) (RF:List FixV) (T:ByteArray) (w:World) (hx:ObjOk x) (hok:okB x=true) (hr:ObjR w B x s) (h:PrS B g (poOf x s) RL RF T w)
  (hTb:∀ W,Below B w W→TabOk W) (hz:T.size+(restT x).size≤140737488351232) :
  Calls Tryz.prog 86 #[.pointer (some ⟨g,0,none⟩),.agg (objV x s)] w fun e w'=>e=.returned (.tuple #[])∧ZeroPost B g x s (T ++ restT x) w w':=by
 have HTB:=hide_ hTb
 have HX:=hide_ hx
 have HEN:=hide_ (okB_ents hok)
 have HBL:=hide_ h.low
 have HZS:=hide_ hx.stack
 have HRL:=hide_ hr.rl
 have HRT:=hide_ hr.rt
 have HRE:=hide_ hr.re
 obtain ⟨l1,l2,l3,l4,l5,l6⟩:=hx.lens
 obtain ⟨TT,hTT⟩:∃ t,t=T ++ restT x:=⟨_,rfl⟩
 have HZ:=hide_ (show TT.size≤140737488351232 by rw [hTT,ba_size];exact hz)
 have HTT:=hide_ (show T ++ stackT x ++ (cat (x.labels.map openT) ++ (cat (x.targets.map targT) ++ cat (x.entries.map entT)))=TT by rw [hTT,restT];simp only [ba_assoc])
 have HS0:=hide_ h
 obtain ⟨po,hpo⟩:∃ p,p=poOf x s:=⟨_,rfl⟩
 unfold ZeroPost
 rw [← hpo] at HS0
 rw [← hpo,← hTT]
 obtain ⟨⟨cA,cc⟩,⟨dA,dc⟩,⟨lA,lc⟩,⟨fA,fc⟩,⟨tA,tc⟩,⟨eA,ec⟩⟩:=s
 dsimp only [objV] at HRL HRT HRE ⊢
 obtain ⟨n,hn⟩:∃ n,n=x.code.length:=⟨_,rfl⟩
 obtain ⟨nd,hnd⟩:∃ n,n=x.data.length:=⟨_,rfl⟩
 obtain ⟨nl,hnl⟩:∃ n,n=x.labels.length:=⟨_,rfl⟩
 obtain ⟨nf,hnf⟩:∃ n,n=x.fixes.length:=⟨_,rfl⟩
 obtain ⟨nt,hnt⟩:∃ n,n=x.targets.length:=⟨_,rfl⟩
 obtain ⟨ne,hne⟩:∃ n,n=x.entries.length:=⟨_,rfl⟩
 obtain ⟨z,hzr⟩:∃ z,z=x.zero:=⟨_,rfl⟩
 obtain ⟨sk,hsk⟩:∃ z,z=x.stack:=⟨_,rfl⟩
 rw [← hn,← hnd,← hnl,← hnf,← hnt,← hne,← hzr,← hsk]
 rw [← hnl] at HRL l3
 rw [← hnt] at HRT l5
 rw [← hne] at HRE l6
 rw [← hsk] at HZS
 have HNL:=hide_ hnl.symm
 have HNT:=hide_ hnt.symm
 have HNE:=hide_ hne.symm
 have HSK:=hide_ hsk.symm
 have HS1:=hide_ (HS0.out.alloc (.cells #[.slice cA n cc,.slice dA nd dc,.int .u32 z,.int .u32 sk,.slice lA nl lc,.slice fA nf fc,.slice tA nt tc,.slice eA ne ec] 36))
 have HM1:=hide_ (PrM.alloc (g:=g) HS0.out.low (.cells #[.slice cA n cc,.slice dA nd dc,.int .u32 z,.int .u32 sk,.slice lA nl lc,.slice fA nf fc,.slice tA nt tc,.slice eA ne ec] 36))
 have HX1:=hide_ (heap_alloc_new w (.cells #[.slice cA n cc,.slice dA nd dc,.int .u32 z,.int .u32 sk,.slice lA nl lc,.slice fA nf fc,.slice tA nt tc,.slice eA ne ec] 36))
 clear h hr hTb hz hok hx hTT hpo hn hnd hnl hnf hnt hne hzr hsk
 obtain ⟨w1,hw1⟩:∃ W,W=w.alloc (.cells #[.slice cA n cc,.slice dA nd dc,.int .u32 z,.int .u32 sk,.slice lA nl lc,.slice fA nf fc,.slice tA nt tc,.slice eA ne ec] 36):=⟨_,rfl⟩
 go_enter Tryz.func86,Tryz.ntmps86
 go_upto_region 1 with (fail)
 rw [← hw1] at HS1 HM1 HX1 ⊢
 clear hw1
 have f3:w1.cell? ⟨w.heap.size,3,none⟩=some (.int .u32 sk):=cell_of_row w1 _ 3 _ _ _ HX1.out
 have hbl:=blk_lt HX1.out
 go_upto_if 12 with (fail)
 go_cut [] from 12 to 19 (fun wx=>Hid (PrS B g po RL RF (T ++ stackT x) wx)∧Hid (PrM B g w wx)∧Hid (wx.heap[w.heap.size]?=some (.cells #[.slice cA n cc,.slice dA nd dc,.int .u32 z,.int .u32 sk,.slice lA nl lc,.slice fA nf fc,.slice tA nt tc,.slice eA ne ec] 36 (0,0))))
 case first =>
  by_cases hs0:sk=0
  ·have e0:(sk != 0)=false:=by simpa using hs0
   have HKS:=hide_ (show stackT x=e0B by rw [stackT,if_pos (by rw [HSK.out];exact hs0)])
   clear hs0
   go_wp2
   go_meet
   exact ⟨hide_ (by rw [HKS.out,ba_nil];exact HS1.out),HM1,HX1⟩
  ·have e0:(sk != 0)=true:=by simpa using hs0
   obtain ⟨m,hm⟩:∃ m:Nat,sk=(m:Int):=⟨sk.toNat,by have:=HZS.out;omega⟩
   have HKS:=hide_ (show stackT x=⟨#[115,116,97,99,107,32]⟩ ++ decT m ++ ⟨#[10]⟩ by rw [stackT,if_neg (by rw [HSK.out];exact hs0),HSK.out,hm,Int.toNat_natCast])
   have w64:IntKind.u64.wrap sk=sk:=IntWalk.u64_in _ (by have:=HZS.out;omega)
   have HU:Hid (∀ W,TabOk W→Calls Tryz.prog 75 #[.int .u64 sk,.int .i64 10] W fun e w'=>e=.returned (.string (decT m))∧Below W.heap.size W w'):=hide_ (fun W hW=>by rw [hm];exact Uint_any m (by have:=HZS.out;omega) W hW)
   obtain ⟨DD,hD⟩:∃ D,D=decT m:=⟨_,rfl⟩
   rw [← hD] at HU HKS
   have HQ:=hide_ (show T.size+(cat [⟨#[115,116,97,99,107,32]⟩,DD]).size+1≤140737488355328 by
    have h1:=congrArg ByteArray.size HTT.out
    rw [HKS.out] at h1
    simp only [ba_size] at h1
    simp only [cat,ba_size,show e0B.size=0 from rfl]
    have:(⟨#[10]⟩:ByteArray).size=1:=rfl
    have:=HZ.out
    omega)
   clear hs0 hD hm
   go_wp2_with fail
   refine (HU.out _ (HTB.out _ HM1.out.bel)).mono ?_
   rintro e w2 ⟨rfl,hb2⟩
   have HS2:=hide_ (HS1.out.below hb2)
   have HM2:=hide_ (HM1.out.trans (PrM.of_below HS1.out.low hb2))
   have HX2:=hide_ (blk_below HX1.out hb2)
   clear hb2 f3 hbl
   have HSA:=hide_ (HS2.out.alloc (.cells #[.string ⟨#[115,116,97,99,107,32]⟩,.string DD] 9))
   have HBA:=hide_ (heap_alloc_new w2 (.cells #[.string ⟨#[115,116,97,99,107,32]⟩,.string DD] 9))
   have HMA:=hide_ (HM2.out.trans (PrM.alloc HS2.out.low (.cells #[.string ⟨#[115,116,97,99,107,32]⟩,.string DD] 9)))
   have HXA:=hide_ (blk_below HX2.out ((Below.refl w2.heap.size w2).alloc (Nat.le_refl _) (.cells #[.string ⟨#[115,116,97,99,107,32]⟩,.string DD] 9)))
   go_wp2_with fail
   refine (line_any B g w2.heap.size _ _ _ _ [⟨#[115,116,97,99,107,32]⟩,DD] 2 _ HSA.out HBA.out rfl (by decide) HQ.out).mono ?_
   rintro e w3 ⟨rfl,hS3,hM3⟩
   have HX3:=hide_ (hM3.blk HXA.out (HSA.out.ne_blk HXA.out (by decide)) (by decide))
   have HS3:=hide_ hS3
   have HM3:=hide_ (HMA.out.trans hM3)
   clear hS3 hM3
   go_wp2
   go_meet
   exact ⟨hide_ (by rw [HKS.out];have h:=HS3.out;simp only [cat,ba_nil,ba_assoc] at h ⊢;exact h),HM3,HX3⟩
 case rest =>
  obtain ⟨HS2,HM2,HX2⟩:=hcut
  clear HS1 HM1 HX1 f3 hbl
  have f4:wc.cell? ⟨w.heap.size,4,none⟩=some (.slice lA nl lc):=cell_of_row wc _ 4 _ _ _ HX2.out
  have hbl:=blk_lt HX2.out
  have HT0:=hide_ (show T ++ stackT x ++ (cat ((x.labels.drop 0).map openT) ++ (cat (x.targets.map targT) ++ cat (x.entries.map entT)))=TT by rw [List.drop_zero];exact HTT.out)
  go_wp2
  go_loopw [23] (fun i wr=>∃ (k:Nat) (S:ByteArray),k≤nl∧i=.int .i64 k∧Hid (PrS B g po RL RF S wr)∧Hid (S ++ (cat ((x.labels.drop k).map openT) ++ (cat (x.targets.map targT) ++ cat (x.entries.map entT)))=TT)∧Hid (PrM B g w wr)∧Hid (wr.heap[w.heap.size]?=some (.cells #[.slice cA n cc,.slice dA nd dc,.int .u32 z,.int .u32 sk,.slice lA nl lc,.slice fA nf fc,.slice tA nt tc,.slice eA ne ec] 36 (0,0)))) (fun i _=>nl - (intOf i).toNat)
  case atStart=>exact ⟨0,_,Nat.zero_le _,rfl,HS2,HT0,HM2,HX2⟩
  case round =>
   clear HS2 HT0 HM2 HX2 f4 hbl
   obtain ⟨k,S,hk,rfl,HS,HT,HM,HBX⟩:=hrel
   by_cases hlt:k<nl
   ·obtain ⟨⟨nm,lsec,lpl,lop⟩,ht⟩:∃ t,x.labels[k]?=some t:=⟨_,List.getElem?_eq_getElem (by have:=HNL.out;omega)⟩
    have HDR:=hide_ (drop_at ht)
    obtain ⟨_,ad,rfl,hbk,p0,p1⟩:=el_cells lE_len HRL.out (by omega) ht
    have x0:=(HM.out.bel.cell (p:=ad.add (k * 4)) hbk).trans (p0 _ rfl)
    have x1:=(HM.out.bel.cell (p:=⟨(ad.add (k * 4)).block,(ad.add (k * 4)).off+1,none⟩) hbk).trans (p1 1 _ (by omega) rfl)
    have x2:=(HM.out.bel.cell (p:=⟨(ad.add (k * 4)).block,(ad.add (k * 4)).off+2,none⟩) hbk).trans (p1 2 _ (by omega) rfl)
    have x3:=(HM.out.bel.cell (p:=⟨(ad.add (k * 4)).block,(ad.add (k * 4)).off+3,none⟩) hbk).trans (p1 3 _ (by omega) rfl)
    simp only at x0 x1 x2 x3
    have hbs:(ad.add (k * 4)).block<wr.heap.size:=by have:=HS.out.low;omega
    have HS3:=hide_ (HS.out.alloc (.cells #[.string nm,.int .u8 lsec,.int .u32 lpl,.bool lop] 78))
    have HM3:=hide_ (HM.out.trans (PrM.alloc HS.out.low (.cells #[.string nm,.int .u8 lsec,.int .u32 lpl,.bool lop] 78)))
    have HX3:=hide_ (blk_below HBX.out ((Below.refl wr.heap.size wr).alloc (Nat.le_refl _) (.cells #[.string nm,.int .u8 lsec,.int .u32 lpl,.bool lop] 78)))
    clear p0 p1 hbk ht
    have hT:=HT.out
    rw [HDR.out,cat_map_cons,openT] at hT
    dsimp only at hT
    cases lop
    ·rw [if_neg (by simp),nil_ba] at hT
     have HTE:=hide_ hT
     clear hT
     go_wp2
     go_roundw
     case rel=>exact ⟨k+1,_,by omega,by go_num,HS3,HTE,HM3,HX3⟩
     case measure=>simp [intOf];omega
    ·rw [if_pos rfl] at hT
     have HTE:=hide_ (show (S ++ (cat [⟨#[111,112,101,110,32]⟩,nm] ++ ⟨#[10]⟩)) ++ (cat ((x.labels.drop (k+1)).map openT) ++ (cat (x.targets.map targT) ++ cat (x.entries.map entT)))=TT by
      rw [← hT]
      simp only [cat,ba_nil,ba_assoc])
     clear hT
     have HQ:=hide_ (show S.size+(cat [⟨#[111,112,101,110,32]⟩,nm]).size+1≤140737488355328 by
      have h1:=congrArg ByteArray.size HTE.out
      simp only [ba_size] at h1
      have:(⟨#[10]⟩:ByteArray).size=1:=rfl
      have:=HZ.out
      omega)
     obtain ⟨w3,hw3⟩:∃ W,W=wr.alloc (.cells #[.string nm,.int .u8 lsec,.int .u32 lpl,.bool true] 78):=⟨_,rfl⟩
     have n0:w3.cell? ⟨wr.heap.size,0,none⟩=some (.string nm):=by rw [hw3];go_simp
     have hl3:wr.heap.size<w3.heap.size:=by rw [hw3];simp
     go_upto_region 7 with (fail)
     rw [← hw3] at HS3 HM3 HX3 ⊢
     clear hw3 x0 x1 x2 x3 hbs
     have HSA:=hide_ (HS3.out.alloc (.cells #[.string ⟨#[111,112,101,110,32]⟩,.string nm] 9))
     have HBA:=hide_ (heap_alloc_new w3 (.cells #[.string ⟨#[111,112,101,110,32]⟩,.string nm] 9))
     have HMA:=hide_ (HM3.out.trans (PrM.alloc HS3.out.low (.cells #[.string ⟨#[111,112,101,110,32]⟩,.string nm] 9)))
     have HXA:=hide_ (blk_below HX3.out ((Below.refl w3.heap.size w3).alloc (Nat.le_refl _) (.cells #[.string ⟨#[111,112,101,110,32]⟩,.string nm] 9)))
     go_wp2_with fail
     refine (line_any B g w3.heap.size _ _ _ _ [⟨#[111,112,101,110,32]⟩,nm] 2 _ HSA.out HBA.out rfl (by decide) HQ.out).mono ?_
     rintro e w4 ⟨rfl,hS4,hM4⟩
     have HX4:=hide_ (hM4.blk HXA.out (HSA.out.ne_blk HXA.out (by decide)) (by decide))
     have HS4:=hide_ hS4
     have HM4:=hide_ (HMA.out.trans hM4)
     clear hS4 hM4
     clear n0 hl3
     go_wp2
     go_roundw
     case rel=>exact ⟨k+1,_,by omega,by go_num,HS4,HTE,HM4,HX4⟩
     case measure=>simp [intOf];omega
   ·have HT0:=hide_ (show S ++ (cat ((x.targets.drop 0).map targT) ++ cat (x.entries.map entT))=TT by
     have h:=HT.out
     rw [List.drop_of_length_le (by have:=HNL.out;omega),List.map_nil,cat,nil_ba] at h
     rw [List.drop_zero]
     exact h)
    have f6:wr.cell? ⟨w.heap.size,6,none⟩=some (.slice tA nt tc):=cell_of_row wr _ 6 _ _ _ HBX.out
    have hbl:=blk_lt HBX.out
    go_wp2
    go_loopw [38] (fun i wr=>∃ (k:Nat) (S:ByteArray),k≤nt∧i=.int .i64 k∧Hid (PrS B g po RL RF S wr)∧Hid (S ++ (cat ((x.targets.drop k).map targT) ++ cat (x.entries.map entT))=TT)∧Hid (PrM B g w wr)∧Hid (wr.heap[w.heap.size]?=some (.cells #[.slice cA n cc,.slice dA nd dc,.int .u32 z,.int .u32 sk,.slice lA nl lc,.slice fA nf fc,.slice tA nt tc,.slice eA ne ec] 36 (0,0)))) (fun i _=>nt - (intOf i).toNat)
    case atStart=>exact ⟨0,_,Nat.zero_le _,rfl,HS,HT0,HM,HBX⟩
    case round =>
     clear HS HT0 HM HBX f6 hbl HT
     obtain ⟨k,S,hk,rfl,HS,HT,HM,HBX⟩:=hrel
     by_cases hlt:k<nt
     ·obtain ⟨tg,ht⟩:∃ t,x.targets[k]?=some t:=⟨_,List.getElem?_eq_getElem (by have:=HNT.out;omega)⟩
      have HDR:=hide_ (drop_at ht)
      obtain ⟨b,o,rfl,hbk,hcl⟩:=reads_strs HRT.out (by omega)
      have x0:=(HM.out.bel.cell (p:=⟨b,o+k,none⟩) hbk).trans (hcl k tg ht)
      have hbs:b<wr.heap.size:=by have:=HS.out.low;omega
      have hT:=HT.out
      rw [HDR.out,cat_map_cons,targT] at hT
      have HTE:=hide_ (show (S ++ (cat [⟨#[116,97,114,103,101,116,32]⟩,tg] ++ ⟨#[10]⟩)) ++ (cat ((x.targets.drop (k+1)).map targT) ++ cat (x.entries.map entT))=TT by
       rw [← hT]
       simp only [cat,ba_nil,ba_assoc])
      clear hT hcl hbk ht
      have HQ:=hide_ (show S.size+(cat [⟨#[116,97,114,103,101,116,32]⟩,tg]).size+1≤140737488355328 by
       have h1:=congrArg ByteArray.size HTE.out
       simp only [ba_size] at h1
       have:(⟨#[10]⟩:ByteArray).size=1:=rfl
       have:=HZ.out
       omega)
      have HSA:=hide_ (HS.out.alloc (.cells #[.string ⟨#[116,97,114,103,101,116,32]⟩,.string tg] 9))
      have HBA:=hide_ (heap_alloc_new wr (.cells #[.string ⟨#[116,97,114,103,101,116,32]⟩,.string tg] 9))
      have HMA:=hide_ (HM.out.trans (PrM.alloc HS.out.low (.cells #[.string ⟨#[116,97,114,103,101,116,32]⟩,.string tg] 9)))
      have HXA:=hide_ (blk_below HBX.out ((Below.refl wr.heap.size wr).alloc (Nat.le_refl _) (.cells #[.string ⟨#[116,97,114,103,101,116,32]⟩,.string tg] 9)))
      go_wp2_with fail
      refine (line_any B g wr.heap.size _ _ _ _ [⟨#[116,97,114,103,101,116,32]⟩,tg] 2 _ HSA.out HBA.out rfl (by decide) HQ.out).mono ?_
      rintro e w4 ⟨rfl,hS4,hM4⟩
      have HX4:=hide_ (hM4.blk HXA.out (HSA.out.ne_blk HXA.out (by decide)) (by decide))
      have HS4:=hide_ hS4
      have HM4:=hide_ (HMA.out.trans hM4)
      clear hS4 hM4
      clear x0 hbs
      go_wp2
      go_roundw
      case rel=>exact ⟨k+1,_,by omega,by go_num,HS4,HTE,HM4,HX4⟩
      case measure=>simp [intOf];omega
     ·have HT0:=hide_ (show S ++ cat ((x.entries.drop 0).map entT)=TT by
       have h:=HT.out
       rw [List.drop_of_length_le (by have:=HNT.out;omega),List.map_nil,cat,nil_ba] at h
       rw [List.drop_zero]
       exact h)
      have f7:wr.cell? ⟨w.heap.size,7,none⟩=some (.slice eA ne ec):=cell_of_row wr _ 7 _ _ _ HBX.out
      have hbl:=blk_lt HBX.out
      go_wp2
      go_loopw [50] (fun i wr=>∃ (k:Nat) (S:ByteArray),k≤ne∧i=.int .i64 k∧Hid (PrS B g po RL RF S wr)∧Hid (S ++ cat ((x.entries.drop k).map entT)=TT)∧Hid (PrM B g w wr)) (fun i _=>ne - (intOf i).toNat)
      case atStart=>exact ⟨0,_,Nat.zero_le _,rfl,HS,HT0,HM⟩
      case round =>
       clear HS HT0 HM HBX f7 hbl HT
       obtain ⟨k,S,hk,rfl,HS,HT,HM⟩:=hrel
       by_cases hlt:k<ne
       ·obtain ⟨⟨en,el⟩,ht⟩:∃ t,x.entries[k]?=some t:=⟨_,List.getElem?_eq_getElem (by have:=HNE.out;omega)⟩
        have HDR:=hide_ (drop_at ht)
        have hen:en.size≤2097152:=Nat.le_trans (HEN.out _ (List.mem_of_getElem? ht)) (by decide)
        obtain ⟨_,ad,rfl,hbk,p0,p1⟩:=el_cells eE_len HRE.out (by omega) ht
        have x0:=(HM.out.bel.cell (p:=ad.add (k * 2)) hbk).trans (p0 _ rfl)
        have x1:=(HM.out.bel.cell (p:=⟨(ad.add (k * 2)).block,(ad.add (k * 2)).off+1,none⟩) hbk).trans (p1 1 _ (by omega) rfl)
        simp only at x0 x1
        have hbs:(ad.add (k * 2)).block<wr.heap.size:=by have:=HS.out.low;omega
        have HS3:=hide_ (HS.out.alloc (.cells #[.string en,.string el] 83))
        have HM3:=hide_ (HM.out.trans (PrM.alloc HS.out.low (.cells #[.string en,.string el] 83)))
        have HX3:=hide_ (heap_alloc_new wr (.cells #[.string en,.string el] 83))
        obtain ⟨w3,hw3⟩:∃ W,W=wr.alloc (.cells #[.string en,.string el] 83):=⟨_,rfl⟩
        go_upto_region 17 with (fail)
        rw [← hw3] at HS3 HM3 HX3 ⊢
        clear hw3 x0 x1 hbs p0 p1 hbk
        obtain ⟨cap,W2,hcv,hrd,hb2,hsz2⟩:=bytes_of_txt w3.drew en
        have HSH:=hide_ (fun W (hw:Below W2.heap.size W2 W)=>tShow_any _ en.size cap _ (w3.heap.size+1) W (hrd.below (hw.mono hsz2)) (Nat.le_trans hsz2 hw.size) hen (numsB_byte en))
        obtain ⟨sh,hsh⟩:∃ a,a=strOfNums (showL (numsB en)):=⟨_,rfl⟩
        rw [← hsh] at HSH
        have hT:=HT.out
        rw [HDR.out,cat_map_cons,entT,showT] at hT
        dsimp only at hT
        rw [← hsh] at hT
        have HTE:=hide_ (show (S ++ (cat [⟨#[101,110,116,114,121,32]⟩,sh,⟨#[44,32]⟩,el] ++ ⟨#[10]⟩)) ++ cat ((x.entries.drop (k+1)).map entT)=TT by
         rw [← hT]
         simp only [cat,ba_nil,ba_assoc])
        have HQ:=hide_ (show S.size+(cat [⟨#[101,110,116,114,121,32]⟩,sh,⟨#[44,32]⟩,el]).size+1≤140737488355328 by
         have h1:=congrArg ByteArray.size HTE.out
         simp only [ba_size] at h1
         have:(⟨#[10]⟩:ByteArray).size=1:=rfl
         have:=HZ.out
         omega)
        have hb3:Below w3.heap.size w3 W2:=(Below.refl w3.heap.size w3).drew.trans hb2
        have n0:w3.cell? ⟨wr.heap.size,0,none⟩=some (.string en):=cell_of_row w3 _ 0 _ _ _ HX3.out
        have n1:w3.cell? ⟨wr.heap.size,1,none⟩=some (.string el):=cell_of_row w3 _ 1 _ _ _ HX3.out
        have hl3:=blk_lt HX3.out
        have r1:=(hb3.cell (p:=⟨wr.heap.size,1,none⟩) hl3).trans n1
        have hl2:=Nat.lt_of_lt_of_le hl3 hb3.size
        have HB3:=hide_ hb3
        clear hT hsh hrd hen hb2 hb3 ht
        go_region_with (first
         | (go_at_call 118;refine (HSH.out _ (Below.refl _ _)).mono ?_;rintro e w8 ⟨rfl,hb8⟩;have hbd:=HB3.out.trans (hb8.mono HB3.out.size);have q1:=(hbd.cell (p:=⟨wr.heap.size,1,none⟩) hl3).trans n1;have hl8:=Nat.lt_of_lt_of_le hl3 hbd.size;have HS8:=hide_ (HS3.out.below hbd);have HM8:=hide_ (HM3.out.trans (PrM.of_below HS3.out.low hbd));clear hb8 hbd;have HSA:=hide_ (HS8.out.alloc (.cells #[.string ⟨#[101,110,116,114,121,32]⟩,.string sh,.string ⟨#[44,32]⟩,.string el] 9));have HBA:=hide_ (heap_alloc_new w8 (.cells #[.string ⟨#[101,110,116,114,121,32]⟩,.string sh,.string ⟨#[44,32]⟩,.string el] 9));have HMA:=hide_ (HM8.out.trans (PrM.alloc HS8.out.low (.cells #[.string ⟨#[101,110,116,114,121,32]⟩,.string sh,.string ⟨#[44,32]⟩,.string el] 9))))
         | (go_at_call 112;refine (line_any B g w8.heap.size _ _ _ _ [⟨#[101,110,116,114,121,32]⟩,sh,⟨#[44,32]⟩,el] 4 _ HSA.out HBA.out rfl (by decide) HQ.out).mono ?_;rintro e w9 ⟨rfl,hS9,hM9⟩;have HS9:=hide_ hS9;have HM9:=hide_ (HMA.out.trans hM9);clear hS9 hM9))
        all_goals
         clear n0 n1 hl3 r1 hl2 q1 hl8 hcv
         go_wp2
         go_roundw
         case rel=>exact ⟨k+1,_,by omega,by go_num,HS9,HTE,HM9⟩
         case measure=>simp [intOf];omega
       ·have HFIN:=hide_ (show ∃ RL' RF',PrS B g po RL' RF' TT wr∧PrM B g w wr from by
         refine ⟨RL,RF,?_,HM.out⟩
         have h:=HT.out
         rw [List.drop_of_length_le (by have:=HNE.out;omega),List.map_nil,cat,ba_nil] at h
         rw [← h]
         exact HS.out)
        go_wp2
        go_end0
        exact ⟨rfl,HFIN.out⟩
end Go.Proofs.YtikbegmodacopaaGreatDoor
