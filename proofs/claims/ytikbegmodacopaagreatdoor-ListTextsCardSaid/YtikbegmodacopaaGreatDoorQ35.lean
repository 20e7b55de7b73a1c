/-
  Joined and packed by program.
-/
import Derived.Test.YtikbegmodacopaaGreatDoorQ34
import Derived.Test.YtikbegmodacopaaGreatDoorQ29
namespace Go.Proofs.YtikbegmodacopaaGreatDoor
open Go.RowKit Go.PlainAid Go.BigFrame
set_option linter.unusedSimpArgs false
set_option linter.unusedVariables false
set_option maxRecDepth 100000
theorem hasL_bef {L:List LabV} {s:Int} (h:hasL L s=false):∀ l ∈ L,l.sec=s→False:=by
 intro l hl hs
 unfold hasL at h
 rw [List.any_eq_false] at h
 have:=h l hl
 simp at this
 exact this hs
set_option maxHeartbeats 16000000 in
theorem pdata_any (x:ObjV) (s:ObjS) (B g:Nat) (RL0:List LabV) (RF0:List FixV) (T:ByteArray) (w:World) (hx:ObjOk x) (hok:okB x=true) (hr:ObjR w B x s) (h:PrS B g (poOf x s) RL0 RF0 T w) (hL0:LeftL x.labels RL0 2 0) (hF0:LeftF x.fixes RF0 2 0)
  (hTb:∀ W,Below B w W→TabOk W) (hz:T.size+(dataT x).size≤140737488351232) :
  Calls Tryz.prog 84 #[.pointer (some ⟨g,0,none⟩)] w fun e w'=>e=.returned (.tuple #[])∧SecPost B g x s (T ++ dataT x) 3 w w':=by
 have HRD:=hide_ hr.rd
 have HCP:=hide_ hr.caps.2.1
 have HTB:=hide_ hTb
 have HX:=hide_ hx
 have HOK:=hide_ hok
 have HBL:=hide_ h.low
 have HBG:=hide_ h.base
 have HL0:=hide_ hL0
 have HF0:=hide_ hF0
 have hnb:=(boundB_iff.1 (okB_parts hok).1).2.1
 obtain ⟨nd,hnd⟩:∃ n,n=x.data.length:=⟨_,rfl⟩
 have HND:=hide_ hnd.symm
 rw [← hnd] at hnb HCP
 have HNB:=hide_ hnb
 obtain ⟨TT,hTT⟩:∃ t,t=T ++ dataT x:=⟨_,rfl⟩
 have HZ:=hide_ (show TT.size≤140737488351232 by rw [hTT,ba_size];exact hz)
 have HTT:=hide_ hTT.symm
 obtain ⟨sc,⟨dA,dc⟩,sl,sf,st,se⟩:=s
 have hc3:=h.c3
 dsimp only at HRD HCP hc3
 rw [← hnd] at HRD hc3
 have HS0:=hide_ h
 have hhas:hasB RL0 2=hasL x.labels 2:=(hasB_eq hL0 (fun l hl=>(hx.labels l hl).2.2.1)).symm
 obtain ⟨po,hpo⟩:∃ p,p=poOf x ⟨sc,⟨dA,dc⟩,sl,sf,st,se⟩:=⟨_,rfl⟩
 have HC3:Hid (∀ RL RF T W,PrS B g po RL RF T W→W.cell? ⟨g,3,none⟩=some (.slice dA nd dc)):=hide_ (fun RL RF T W hS=>by rw [hpo] at hS;have h:=hS.c3;dsimp only at h;rw [← hnd] at h;exact h)
 unfold SecPost
 rw [← hpo] at HS0
 rw [← hpo,← hTT]
 obtain ⟨hs,hhs⟩:∃ b,b=hasL x.labels 2:=⟨_,rfl⟩
 rw [← hhs] at hhas
 have HHS:=hide_ hhs.symm
 have HPH:=hide_ (show ∀ W,PrS B g po RL0 RF0 T W→Calls Tryz.prog 116 #[.pointer (some ⟨g,0,none⟩),.int .u8 2] W fun e w'=>e=.returned (.bool hs)∧w'=W from fun W hW=>by rw [← hhas];exact phas_any B g po RL0 RF0 T 2 W hW)
 have hgl:=h.lt
 have wnd:IntKind.u32.wrap (nd:Int)=(nd:Int):=IntWalk.u32_in _ (by omega)
 clear h hr hTb hz hok hx hTT hpo hL0 hF0 hhas hhs hnd hnb
 go_enter Tryz.func84,Tryz.ntmps84
 go_upto_region 1 with (fail)
 go_cut [18] from 12 to 18 (fun b wx=>b=.bool (decide (nd=0) && !hs)∧wx=w)
 case first =>
  by_cases hn0:nd=0
  ·have e0:((nd:Int) == 0)=true:=by rw [hn0];rfl
   have HN0:=hide_ hn0
   clear hn0
   go_wp2_with fail
   refine (HPH.out _ HS0.out).mono ?_
   rintro e w2 ⟨rfl,rfl⟩
   go_wp2
   go_meet
   exact ⟨by rw [decide_eq_true HN0.out];cases hs <;> rfl,rfl⟩
  ·have e0:((nd:Int) == 0)=false:=by simp;omega
   have HN0:=hide_ hn0
   clear hn0
   go_wp2
   go_meet
   exact ⟨by rw [decide_eq_false HN0.out];rfl,rfl⟩
 case rest =>
  obtain ⟨rfl,rfl⟩:=hcut
  clear hc3
  obtain ⟨cd,hcd⟩:∃ c,c=(decide (nd=0) && !hs):=⟨_,rfl⟩
  rw [← hcd]
  have HCD:=hide_ hcd
  clear hcd
  cases cd
  ·have HT2:=hide_ (show T ++ (⟨#[100,97,116,97,10]⟩ ++ dataR x nd 0)=TT by
    rw [← HTT.out,dataT,if_neg,HND.out]
    rintro ⟨h1,h2⟩
    have h3:=HCD.out
    rw [← HHS.out,h2,← HND.out,h1] at h3
    simp at h3)
   have HQ0:=hide_ (show T.size+(cat [⟨#[100,97,116,97]⟩]).size+1≤140737488355328 by
    have h1:=congrArg ByteArray.size HT2.out
    rw [ba_size,ba_size] at h1
    have h2:(cat [⟨#[100,97,116,97]⟩]).size=4:=rfl
    have h3:(⟨#[100,97,116,97,10]⟩:ByteArray).size=5:=rfl
    have:=HZ.out
    omega)
   have HSA:=hide_ (HS0.out.alloc (.cells #[.string ⟨#[100,97,116,97]⟩] 9))
   have HBA:=hide_ (heap_alloc_new wc (.cells #[.string ⟨#[100,97,116,97]⟩] 9))
   have HMA:=hide_ (PrM.alloc (g:=g) HS0.out.low (.cells #[.string ⟨#[100,97,116,97]⟩] 9))
   go_wp2_with fail
   refine (line_any B g wc.heap.size _ _ _ T [⟨#[100,97,116,97]⟩] 1 _ HSA.out HBA.out rfl (by decide) HQ0.out).mono ?_
   rintro e w1 ⟨rfl,hS1,hM1⟩
   have HM1:=hide_ (HMA.out.trans hM1)
   have HT1:=hide_ (show (T ++ (cat [⟨#[100,97,116,97]⟩] ++ ⟨#[10]⟩)) ++ dataR x nd 0=TT by
    rw [← HT2.out]
    simp only [ba_assoc]
    rfl)
   have HS1:=hide_ hS1
   clear hS1 hM1 HSA HBA HQ0 HMA
   go_wp2
   go_loopw [3] (fun i wr=>∃ (k f:Nat) (RL:List LabV) (RF:List FixV) (S:ByteArray),k≤nd∧nd≤k+f∧i=.int .u32 k∧Hid (PrS B g po RL RF S wr)∧Hid (S ++ dataR x f k=TT)∧Hid (LeftL x.labels RL 2 k)∧Hid (LeftF x.fixes RF 2 k)∧Hid (PrM B g wc wr)) (fun i _=>nd - (intOf i).toNat)
   case atStart=>exact ⟨0,nd,_,_,_,Nat.zero_le _,by omega,rfl,HS1,HT1,HL0,HF0,HM1⟩
   case round =>
    clear HS1 HT1 HL0 HF0 HM1
    obtain ⟨k,f,RL,RF,S,hk,hkf,rfl,HS,HT,HL,HF,HM⟩:=hrel
    by_cases hlt:k<nd
    ·obtain ⟨f,rfl⟩:∃ g,f=g+1:=⟨f - 1,by omega⟩
     have hT:=HT.out
     rw [dataR_step (by have:=HND.out;omega),HL.out.atL_eq,HF.out.fixT_eq] at hT
     have HTX:=hide_ hT
     have hss:=congrArg ByteArray.size hT
     simp only [ba_size] at hss
     have HQ1:=hide_ (show S.size+(atL RL 2 k).size≤140737488351232 by have:=HZ.out;omega)
     have hlti:(k:Int)<(nd:Int):=by omega
     clear hT hss
     go_wp2_with fail
     refine (pat_any B g po RL RF S 2 (k:Int) _ HS.out HL.out.rise HL.out.rest HQ1.out).mono ?_
     rintro e w4 ⟨rfl,RL4,hS4,hL4,hM4⟩
     have HM4:=hide_ (HM.out.trans hM4)
     have HL4:=hide_ (hL4 _ HL.out)
     have HS4:=hide_ hS4
     clear hS4 hL4 hM4
     go_wp2_with fail
     refine (here_any B g po RL4 RF _ 2 (k:Int) w4 HS4.out).mono ?_
     rintro e w7 ⟨rfl,rfl⟩
     obtain ⟨hb,hhb⟩:∃ b,b=hereB RF 2 (k:Int):=⟨_,rfl⟩
     rw [← hhb]
     have HHB:=hide_ hhb.symm
     clear hhb
     cases hb
     ·have hfn:∀ f,RF.head?=some f→fixAtB 2 (k:Int) f=false:=fun f hf=>by
       have h:=HHB.out
       cases RF with
       | nil=>cases hf
       | cons f' R'=>cases hf;exact h
      have HFX:=hide_ (fixT_none HF.out hfn)
      have HFN:=hide_ (HF.out.past hfn)
      have hst:=stop_eq HOK.out HL4.out HFN.out (by have:=HND.out;omega)
      rw [HND.out] at hst
      have hlt2:=stopK_lt x k
      obtain ⟨m,hm⟩:∃ m,m=stopK x k:=⟨_,rfl⟩
      rw [← hm] at hst hlt2
      have HME:=hide_ hm.symm
      clear hm
      obtain ⟨hst1,hst2,hst3,hst4⟩:=hst
      have HLM:=hide_ hst3
      have HFM:=hide_ hst4
      obtain ⟨uv,huv⟩:∃ u,u=untilV RL4 RF 2 ((k:Int)+1) nd:=⟨_,rfl⟩
      rw [← huv] at hst1
      have HUN:=hide_ (show ∀ T W,PrS B g po RL4 RF T W→Calls Tryz.prog 117 #[.pointer (some ⟨g,0,none⟩),.int .u8 2,.int .u32 ((k:Int)+1),.int .u32 (nd:Int)] W fun e w'=>e=.returned (.int .u32 uv)∧w'=W from fun T W hW=>by rw [huv];exact until_any B g po RL4 RF T 2 ((k:Int)+1) nd W hW)
      clear huv hst3 hst4 hfn
      obtain ⟨ad,hda,hpart⟩:=reads_part HRD.out hlt2 hst2
      subst hda
      have HPART:=hide_ (fun W (hw:Below B wc W)=>tShow_any (some (ad.add k)) (m - k) (dc - k) _ B W (hpart.below hw) (Nat.le_trans HBL.out hw.size) (by have:=HNB.out;omega) (fun q hq=>HX.out.data q (List.mem_of_mem_drop (List.mem_of_mem_take hq))))
      obtain ⟨sh,hsh⟩:∃ a,a=strOfNums (showL ((x.data.drop k).take (m - k))):=⟨_,rfl⟩
      rw [← hsh] at HPART
      have HTY:=hide_ (show (S ++ atL RL 2 k) ++ (cat [⟨#[9,98,121,116,101,115,32]⟩,sh] ++ ⟨#[10]⟩) ++ dataR x f m=TT by
       rw [← HTX.out,HFX.out,if_pos rfl,HME.out,showT,← hsh]
       simp only [cat,ba_nil,ba_assoc])
      have HQ2:=hide_ (show (S ++ atL RL 2 k).size+(cat [⟨#[9,98,121,116,101,115,32]⟩,sh]).size+1≤140737488355328 by
       have h1:=congrArg ByteArray.size HTY.out
       rw [ba_size,ba_size,ba_size (cat _)] at h1
       have:(⟨#[10]⟩:ByteArray).size=1:=rfl
       have:=HZ.out
       omega)
      have c1:m≤dc:=Nat.le_trans hst2 HCP.out
      have c2:k≤m:=by omega
      have c3:¬ dc=k:=by omega
      have c4:k≤dc:=by omega
      have w16:IntKind.u32.wrap ((k:Int)+16)=(k:Int)+16:=IntWalk.u32_in _ (by have:=HNB.out;omega)
      have w1i:IntKind.u32.wrap ((k:Int)+1)=(k:Int)+1:=IntWalk.u32_in _ (by have:=HNB.out;omega)
      have q3:=HC3.out _ _ _ _ HS4.out
      have hgl7:=HS4.out.lt
      clear hsh hpart
      go_wp2_with fail
      refine (HUN.out _ _ HS4.out).mono ?_
      rintro e w8 ⟨rfl,rfl⟩
      go_wp2_with fail
      refine (HPART.out _ HM4.out.bel).mono ?_
      rintro e w9 ⟨rfl,hb9⟩
      have HS9:=hide_ (HS4.out.below hb9)
      have HM9:=hide_ (HM4.out.trans (PrM.of_below HS4.out.low hb9))
      have HSA:=hide_ (HS9.out.alloc (.cells #[.string ⟨#[9,98,121,116,101,115,32]⟩,.string sh] 9))
      have HBA:=hide_ (heap_alloc_new w9 (.cells #[.string ⟨#[9,98,121,116,101,115,32]⟩,.string sh] 9))
      have HMA:=hide_ (HM9.out.trans (PrM.alloc HS9.out.low (.cells #[.string ⟨#[9,98,121,116,101,115,32]⟩,.string sh] 9)))
      clear hb9 q3 hgl7
      go_wp2_with fail
      refine (line_any B g w9.heap.size _ _ _ _ [⟨#[9,98,121,116,101,115,32]⟩,sh] 2 _ HSA.out HBA.out rfl (by decide) HQ2.out).mono ?_
      rintro e w10 ⟨rfl,hS10,hM10⟩
      have HS10:=hide_ hS10
      have HM10:=hide_ (HMA.out.trans hM10)
      clear hS10 hM10 c1 c2 c3 c4
      go_wp2
      go_roundw
      case rel=>exact ⟨m,f,_,_,_,by omega,by omega,by first | rfl | go_num,HS10,HTY,HLM,HFM,HM10⟩
      case measure=>simp [intOf];omega
     ·obtain ⟨fx,RF2,hRF⟩:∃ f R,RF=f :: R:=by
       have h:=HHB.out
       cases RF with
       | nil=>cases h
       | cons f R=>exact ⟨f,R,rfl⟩
      subst hRF
      have hfa:fixAtB 2 (k:Int) fx=true:=HHB.out
      have hmem:=HF.out.mem (List.mem_cons_self ..)
      have hfo:=HX.out.fixes _ hmem
      have hfa2:=hfa
      unfold fixAtB at hfa2
      rw [Bool.and_eq_true,decide_eq_true_eq,decide_eq_true_eq] at hfa2
      have HFA:=hide_ (And.intro hfo.1 hfo.2.2.2)
      have HFN:=hide_ (show LeftF x.fixes RF2 2 ((k:Int)+4) by have h:=HF.out.take hfa;rw [if_pos rfl] at h;exact h)
      have hpl:k+4≤nd:=by
       rcases fix_place HOK.out hmem with ⟨h1,_⟩ | ⟨_,h1⟩
       ·rw [hfa2.1] at h1;cases h1
       ·rw [hfa2.2,HND.out] at h1;omega
      have HLN:=hide_ (show LeftL x.labels RL4 2 ((k:Int)+4) from HL4.out.skip (by omega) (fun l hl hb=>by
       have h1:=HL4.out.rest l (List.mem_of_mem_head? hl)
       unfold befL at h1 hb
       have h2:l.sec=2:=by omega
       have h3:=fix_apart HOK.out hmem hfa2.1 (HL4.out.mem (List.mem_of_mem_head? hl)) h2
       omega))
      have HTY:=hide_ (show (S ++ atL RL 2 k) ++ (cat [⟨#[9,119,111,114,100,32]⟩,fixTx fx] ++ ⟨#[10]⟩) ++ dataR x f (k+4)=TT by
       rw [← HTX.out,fixT_here hfa,if_neg (fixTx_ne (name_some (fix_facts HOK.out hmem).1))]
       simp only [cat,ba_nil,ba_assoc])
      have HQ2:=hide_ (show (S ++ atL RL 2 k).size+(cat [⟨#[9,119,111,114,100,32]⟩,fixTx fx]).size+1≤140737488355328 by
       have h1:=congrArg ByteArray.size HTY.out
       rw [ba_size,ba_size,ba_size (cat _)] at h1
       have:(⟨#[10]⟩:ByteArray).size=1:=rfl
       have:=HZ.out
       omega)
      have w4i:IntKind.u32.wrap ((k:Int)+4)=(k:Int)+4:=IntWalk.u32_in _ (by have:=HNB.out;omega)
      clear hfa hfa2 hmem hfo
      go_wp2_with fail
      refine (pfix_any B g po RL4 RF2 fx _ _ HS4.out HFA.out.1 HFA.out.2 (fun W hW=>HTB.out W (HM4.out.bel.trans hW))).mono ?_
      rintro e w9 ⟨rfl,hS9,hM9⟩
      have HS9:=hide_ hS9
      have HM9:=hide_ (HM4.out.trans hM9)
      have HSA:=hide_ (HS9.out.alloc (.cells #[.string ⟨#[9,119,111,114,100,32]⟩,.string (fixTx fx)] 9))
      have HBA:=hide_ (heap_alloc_new w9 (.cells #[.string ⟨#[9,119,111,114,100,32]⟩,.string (fixTx fx)] 9))
      have HMA:=hide_ (HM9.out.trans (PrM.alloc HS9.out.low (.cells #[.string ⟨#[9,119,111,114,100,32]⟩,.string (fixTx fx)] 9)))
      clear hS9 hM9
      go_wp2_with fail
      refine (line_any B g w9.heap.size _ _ _ _ [⟨#[9,119,111,114,100,32]⟩,fixTx fx] 2 _ HSA.out HBA.out rfl (by decide) HQ2.out).mono ?_
      rintro e w10 ⟨rfl,hS10,hM10⟩
      have HS10:=hide_ hS10
      have HM10:=hide_ (HMA.out.trans hM10)
      clear hS10 hM10
      go_wp2
      go_roundw
      case rel=>exact ⟨k+4,f,_,_,_,by omega,by omega,by go_num,HS10,HTY,HLN,HFN,HM10⟩
      case measure=>simp [intOf];omega
    ·obtain rfl:k=nd:=by omega
     have HTX:=hide_ (show S ++ atL RL 2 k=TT by
      have h:=HT.out
      rw [dataR_end (by have:=HND.out;omega),HND.out,HL.out.atL_eq] at h
      exact h)
     have HQ1:=hide_ (show S.size+(atL RL 2 k).size≤140737488351232 by
      have h:=congrArg ByteArray.size HTX.out
      rw [ba_size] at h
      have:=HZ.out
      omega)
     go_wp2_with fail
     refine (pat_any B g po RL RF S 2 (k:Int) _ HS.out HL.out.rise HL.out.rest HQ1.out).mono ?_
     rintro e w4 ⟨rfl,RL4,hS4,hL4,hM4⟩
     have HFIN:=hide_ (show ∃ RL' RF',PrS B g po RL' RF' TT w4∧LeftL x.labels RL' 3 0∧LeftF x.fixes RF' 3 0∧PrM B g wc w4 from by
      refine ⟨RL4,RF,by rw [← HTX.out];exact hS4,?_,?_,HM.out.trans hM4⟩
      ·refine (hL4 _ HL.out).next (fun l hl h1=>?_) (fun l hl=>(HX.out.labels l hl).2.2.1)
       have h2:=(lab_facts HOK.out hl).2.2.2
       rw [h1,lenOf,if_neg (by decide),if_pos rfl,HND.out] at h2
       omega
      ·refine HF.out.next (fun f hf h1=>?_) (fun f hf=>(HX.out.fixes f hf).2.2.1.1)
       rcases fix_place HOK.out hf with ⟨h2,_⟩ | ⟨_,h2⟩
       ·rw [h1] at h2;cases h2
       ·rw [HND.out] at h2;omega)
     clear hS4 hL4 hM4
     go_wp2
     go_end0
     exact ⟨rfl,HFIN.out⟩
  ·have h3:=HCD.out
   have HFIN:=hide_ (show ∃ RL' RF',PrS B g po RL' RF' TT wc∧LeftL x.labels RL' 3 0∧LeftF x.fixes RF' 3 0∧PrM B g wc wc from by
    have hn0:nd=0:=by
     by_cases h:nd=0
     ·exact h
     ·rw [decide_eq_false h] at h3;cases h3
    have hs0:hasL x.labels 2=false:=by
     rw [HHS.out]
     cases hs with
     | false=>rfl
     | true=>rw [Bool.not_true,Bool.and_false] at h3;cases h3
    refine ⟨RL0,RF0,?_,?_,?_,PrM.refl _ _ _⟩
    ·rw [← HTT.out,dataT,if_pos ⟨by rw [HND.out];exact hn0,hs0⟩,ba_nil]
     exact HS0.out
    ·exact HL0.out.next (fun l hl h1=>absurd (hasL_bef hs0 l hl h1) id) (fun l hl=>(HX.out.labels l hl).2.2.1)
    ·refine HF0.out.next (fun f hf h1=>?_) (fun f hf=>(HX.out.fixes f hf).2.2.1.1)
     have h0:=(HX.out.fixes f hf).2.2.1.1
     rcases fix_place HOK.out hf with ⟨h2,_⟩ | ⟨_,h2⟩
     ·rw [h1] at h2;cases h2
     ·rw [HND.out] at h2;omega)
   clear h3
   go_wp2
   refine bodyPost_ret (results_none rfl _ _ _) rfl ?_
   exact ⟨rfl,HFIN.out⟩
end Go.Proofs.YtikbegmodacopaaGreatDoor
namespace Go.Proofs.YtikbegmodacopaaGreatDoor
open Go.RowKit Go.PlainAid Go.BigFrame
set_option linter.unusedSimpArgs false
set_option linter.unusedVariables false
set_option maxRecDepth 100000
theorem zeroR_skipD {z:Int} {R:List LabV} {a:Int}:∀ (D:List LabV),(∀ d ∈ D,¬ d.sec=3)→zeroR z (D ++ R) a=zeroR z R a
 | [],_=>rfl
 | d :: D,h=>by rw [List.cons_append,zeroR_skip (h d (by simp))];exact zeroR_skipD D (fun e he=>h e (by simp [he]))
theorem zeroR_all {z:Int} {R:List LabV} {a:Int}:∀ (D:List LabV),(∀ d ∈ D,d.sec=3∧d.at_=a)→zeroR z (D ++ R) a=cat (D.map labLn) ++ zeroR z R a
 | [],_=>(nil_ba _).symm
 | d :: D,h=>by
  have h1:=h d (by simp)
  rw [List.cons_append,zeroR_at h1.1 (by omega),zeroR_all D (fun e he=>h e (by simp [he])),List.map_cons,cat,ba_assoc]
theorem zeroR_take {z:Int} {RL RL4:List LabV} {p:Int} (hR:RL.Pairwise leL∧∀ r ∈ RL,¬ befL 3 p r) (h:∀ L,LeftL L RL 3 p→LeftL L RL4 3 (p+1)):zeroR z RL p=atL RL 3 p ++ zeroR z RL4 p:=by
 have h0:LeftL RL RL 3 p:=⟨⟨[],rfl,fun d hd=>by cases hd⟩,hR.2,hR.1⟩
 have h1:=h RL h0
 obtain ⟨D,hD,hb⟩:=h1.all_
 have hd:∀ d ∈ D,d.sec=3∧d.at_=p:=fun d hd=>by
  have h2:=hb d hd
  have h3:=hR.2 d (by rw [hD];simp [hd])
  unfold befL at h2 h3
  omega
 have e1:atL RL 3 p=cat (D.map labLn):=by
  unfold atL
  rw [hD,List.filter_append,List.filter_eq_self.2 (fun d hq=>by have:=hd d hq;simp [labAt,this.1,this.2]),List.filter_eq_nil_iff.2,List.append_nil]
  intro r hr hc
  have h2:=h1.rest r hr
  unfold labAt at hc
  rw [Bool.and_eq_true,decide_eq_true_eq,decide_eq_true_eq] at hc
  unfold befL at h2
  omega
 rw [e1]
 conv=>lhs;rw [hD]
 exact zeroR_all D hd
theorem zeroR_head (z:Int):∀ (RL:List LabV) (p:Int),RL.Pairwise leL→(∀ r ∈ RL,¬ befL 3 p r)→∃ q,zeroR z RL p=atL RL 3 p ++ q
 | [],p,_,_=>⟨zeroR z [] p,by rw [atL_nil,nil_ba]⟩
 | l :: R,p,h1,h2=>by
  cases hl:labAt 3 p l with
  | false=>exact ⟨zeroR z (l :: R) p,by rw [atL_stop h1 (h2 l (by simp)) hl,nil_ba]⟩
  | true =>
   obtain ⟨q,hq⟩:=zeroR_head z R p (List.pairwise_cons.1 h1).2 (fun r hr=>h2 r (by simp [hr]))
   have hl2:=hl
   unfold labAt at hl2
   rw [Bool.and_eq_true,decide_eq_true_eq,decide_eq_true_eq] at hl2
   exact ⟨q,by rw [atL_take hl,zeroR_at hl2.1 (by omega),hq,ba_assoc]⟩
theorem zeroR_next {x:ObjV} (hok:okB x=true) {RL:List LabV} {p:Int} (hL:LeftL x.labels RL 3 (p+1)) (hp:p<x.zero) :
  p+1≤untilV RL [] 3 (p+1) x.zero∧untilV RL [] 3 (p+1) x.zero≤x.zero∧zeroR x.zero RL p=spaceT (untilV RL [] 3 (p+1) x.zero - p) ++ zeroR x.zero RL (untilV RL [] 3 (p+1) x.zero)∧LeftL x.labels RL 3 (untilV RL [] 3 (p+1) x.zero):=by
 cases RL with
 | nil =>
  have e:untilV [] [] 3 (p+1) x.zero=x.zero:=rfl
  rw [e]
  refine ⟨by omega,Int.le_refl _,?_,hL.skip (by omega) (fun l h=>by cases h)⟩
  rw [zeroR,if_pos hp,zeroR,if_neg (by omega),ba_nil]
 | cons l R =>
  have hm:=hL.mem (List.mem_cons_self ..)
  have hf:=lab_facts hok hm
  have hb:=hL.rest l (by simp)
  unfold befL at hb
  have h3:l.sec=3:=by omega
  have h4:l.at_≤x.zero:=by have:=hf.2.2.2;rw [h3] at this;exact this
  have h5:p+1≤l.at_:=by omega
  have e:untilV (l :: R) [] 3 (p+1) x.zero=l.at_:=by
   unfold untilV
   rw [List.head?_cons,Option.map_some,minB_yes h3 h5]
   show min x.zero l.at_=l.at_
   omega
  rw [e]
  refine ⟨h5,h4,?_,hL.skip (by omega) (fun q h hq=>by cases h;unfold befL at hq;omega)⟩
  rw [zeroR_on h3 (by omega),zeroR_at h3 (by omega)]
theorem fixes_done {x:ObjV} (hok:okB x=true) {RF:List FixV} (h:LeftF x.fixes RF 3 0):RF=[]:=by
 cases RF with
 | nil=>rfl
 | cons f R =>
  have h1:=h.rest f (by simp)
  have h2:=fix_place hok (h.mem (List.mem_cons_self ..))
  unfold befF at h1
  omega
def ZeroPost (B g:Nat) (x:ObjV) (s:ObjS) (T:ByteArray) (w w':World):Prop:=∃ RL RF,PrS B g (poOf x s) RL RF T w'∧PrM B g w w'
set_option maxHeartbeats 16000000 in
theorem pzero_any (x:ObjV) (s:ObjS) (B g:Nat) (RL0:List LabV) (RF0:List FixV) (T:ByteArray) (w:World) (hx:ObjOk x) (hok:okB x=true) (h:PrS B g (poOf x s) RL0 RF0 T w) (hL0:LeftL x.labels RL0 3 0) (hF0:LeftF x.fixes RF0 3 0)
  (hTb:∀ W,Below B w W→TabOk W) (hz:T.size+(zeroT x).size≤140737488351232) :
  Calls Tryz.prog 85 #[.pointer (some ⟨g,0,none⟩)] w fun e w'=>e=.returned (.tuple #[])∧ZeroPost B g x s (T ++ zeroT x) w w':=by
 have hrf:=fixes_done hok hF0
 subst hrf
 have HTB:=hide_ hTb
 have HX:=hide_ hx
 have HOK:=hide_ hok
 have HBL:=hide_ h.low
 have HBG:=hide_ h.base
 have HL0:=hide_ hL0
 have hnb:=(boundB_iff.1 (okB_parts hok).1).2.2.1
 obtain ⟨z,hzr⟩:∃ n,n=x.zero:=⟨_,rfl⟩
 have HZR:=hide_ hzr.symm
 have HZ0:=hide_ hx.zero
 rw [← hzr] at hnb HZ0
 have HNB:=hide_ hnb
 obtain ⟨TT,hTT⟩:∃ t,t=T ++ zeroT x:=⟨_,rfl⟩
 have HZ:=hide_ (show TT.size≤140737488351232 by rw [hTT,ba_size];exact hz)
 have HTT:=hide_ hTT.symm
 have hc4:=h.c4
 rw [← hzr] at hc4
 have HS0:=hide_ h
 have hhas:hasB RL0 3=hasL x.labels 3:=(hasB_eq hL0 (fun l hl=>(hx.labels l hl).2.2.1)).symm
 obtain ⟨po,hpo⟩:∃ p,p=poOf x s:=⟨_,rfl⟩
 unfold ZeroPost
 rw [← hpo] at HS0
 rw [← hpo,← hTT]
 obtain ⟨hs,hhs⟩:∃ b,b=hasL x.labels 3:=⟨_,rfl⟩
 rw [← hhs] at hhas
 have HHS:=hide_ hhs.symm
 have HPH:=hide_ (show ∀ W,PrS B g po RL0 [] T W→Calls Tryz.prog 116 #[.pointer (some ⟨g,0,none⟩),.int .u8 3] W fun e w'=>e=.returned (.bool hs)∧w'=W from fun W hW=>by rw [← hhas];exact phas_any B g po RL0 [] T 3 W hW)
 have hgl:=h.lt
 obtain ⟨hz0,hz1⟩:=HZ0.out
 clear h hTb hz hok hx hTT hpo hL0 hF0 hhas hhs hzr hnb
 go_enter Tryz.func85,Tryz.ntmps85
 go_upto_region 1 with (fail)
 go_cut [16] from 10 to 16 (fun b wx=>b=.bool (decide (z=0) && !hs)∧wx=w)
 case first =>
  by_cases hn0:z=0
  ·have e0:(z == 0)=true:=by rw [hn0];rfl
   have HN0:=hide_ hn0
   clear hn0
   go_wp2_with fail
   refine (HPH.out _ HS0.out).mono ?_
   rintro e w2 ⟨rfl,rfl⟩
   go_wp2
   go_meet
   exact ⟨by rw [decide_eq_true HN0.out];cases hs <;> rfl,rfl⟩
  ·have e0:(z == 0)=false:=by simpa using hn0
   have HN0:=hide_ hn0
   clear hn0
   go_wp2
   go_meet
   exact ⟨by rw [decide_eq_false HN0.out];rfl,rfl⟩
 case rest =>
  obtain ⟨rfl,rfl⟩:=hcut
  clear hc4
  obtain ⟨cd,hcd⟩:∃ c,c=(decide (z=0) && !hs):=⟨_,rfl⟩
  rw [← hcd]
  have HCD:=hide_ hcd
  clear hcd
  cases cd
  ·have HT2:=hide_ (show T ++ (⟨#[122,101,114,111,10]⟩ ++ zeroR z RL0 0)=TT by
    obtain ⟨D,hD,hb⟩:=HL0.out.all_
    have h4:zeroR z x.labels 0=zeroR z RL0 0:=by
     rw [hD]
     refine zeroR_skipD D (fun d hd h3=>?_)
     have h5:=hb d hd
     have h6:=(HX.out.labels d (by rw [hD];simp [hd])).2.2.1
     unfold befL at h5
     omega
    rw [← h4,← HTT.out,zeroT,if_neg,HZR.out]
    rintro ⟨h1,h2⟩
    have h3:=HCD.out
    rw [← HHS.out,h2,← HZR.out,h1] at h3
    simp at h3)
   have HQ0:=hide_ (show T.size+(cat [⟨#[122,101,114,111]⟩]).size+1≤140737488355328 by
    have h1:=congrArg ByteArray.size HT2.out
    rw [ba_size,ba_size] at h1
    have h2:(cat [⟨#[122,101,114,111]⟩]).size=4:=rfl
    have h3:(⟨#[122,101,114,111,10]⟩:ByteArray).size=5:=rfl
    have:=HZ.out
    omega)
   have HSA:=hide_ (HS0.out.alloc (.cells #[.string ⟨#[122,101,114,111]⟩] 9))
   have HBA:=hide_ (heap_alloc_new wc (.cells #[.string ⟨#[122,101,114,111]⟩] 9))
   have HMA:=hide_ (PrM.alloc (g:=g) HS0.out.low (.cells #[.string ⟨#[122,101,114,111]⟩] 9))
   go_wp2_with fail
   refine (line_any B g wc.heap.size _ _ _ T [⟨#[122,101,114,111]⟩] 1 _ HSA.out HBA.out rfl (by decide) HQ0.out).mono ?_
   rintro e w1 ⟨rfl,hS1,hM1⟩
   have HM1:=hide_ (HMA.out.trans hM1)
   have HT1:=hide_ (show (T ++ (cat [⟨#[122,101,114,111]⟩] ++ ⟨#[10]⟩)) ++ zeroR z RL0 0=TT by
    rw [← HT2.out]
    simp only [ba_assoc]
    rfl)
   have HS1:=hide_ hS1
   clear hS1 hM1 HSA HBA HQ0 HMA
   go_wp2
   go_loopw [3] (fun i wr=>∃ (p:Int) (RL:List LabV) (S:ByteArray),0≤p∧p≤z∧i=.int .u32 p∧Hid (PrS B g po RL [] S wr)∧Hid (S ++ zeroR z RL p=TT)∧Hid (LeftL x.labels RL 3 p)∧Hid (PrM B g wc wr)) (fun i _=>(z - intOf i).toNat)
   case atStart=>exact ⟨0,_,_,by omega,by omega,rfl,HS1,HT1,HL0,HM1⟩
   case round =>
    clear HS1 HT1 HL0 HM1
    obtain ⟨p,RL,S,hp0,hpz,rfl,HS,HT,HL,HM⟩:=hrel
    by_cases hlt:p<z
    ·have HQ1:=hide_ (show S.size+(atL RL 3 p).size≤140737488351232 by
      have h1:=congrArg ByteArray.size HT.out
      obtain ⟨q,h3⟩:=zeroR_head z RL p HL.out.rise HL.out.rest
      rw [h3,ba_size,ba_size] at h1
      have:=HZ.out
      omega)
     go_wp2_with fail
     refine (pat_any B g po RL [] S 3 p _ HS.out HL.out.rise HL.out.rest HQ1.out).mono ?_
     rintro e w4 ⟨rfl,RL4,hS4,hL4,hM4⟩
     have HTK:=hide_ (zeroR_take (z:=z) ⟨HL.out.rise,HL.out.rest⟩ hL4)
     have HM4:=hide_ (HM.out.trans hM4)
     have HL4:=hide_ (hL4 _ HL.out)
     have HS4:=hide_ hS4
     have hnx:=zeroR_next HOK.out HL4.out (by rw [HZR.out];exact hlt)
     rw [HZR.out] at hnx
     obtain ⟨q,hq⟩:∃ q,q=untilV RL4 [] 3 (p+1) z:=⟨_,rfl⟩
     rw [← hq] at hnx
     obtain ⟨hn1,hn2,hn3,hn4⟩:=hnx
     have HLQ:=hide_ hn4
     have HUN:=hide_ (show ∀ T W,PrS B g po RL4 [] T W→Calls Tryz.prog 117 #[.pointer (some ⟨g,0,none⟩),.int .u8 3,.int .u32 (p+1),.int .u32 z] W fun e w'=>e=.returned (.int .u32 q)∧w'=W from fun T W hW=>by rw [hq];exact until_any B g po RL4 [] T 3 (p+1) z W hW)
     obtain ⟨m,hm⟩:∃ m:Nat,q - p=(m:Int):=⟨(q - p).toNat,by omega⟩
     have HIT:=hide_ (show ∀ W,TabOk W→Calls Tryz.prog 103 #[.int .i64 (q - p)] W fun e w'=>e=.returned (.string (decT m))∧Below W.heap.size W w' from fun W hW=>by
      rw [hm]
      refine (Tryz.strconv_Itoa (m:Int) (by omega) (by omega) W hW).mono ?_
      rintro e w' ⟨rfl,k,os,rfl⟩
      exact ⟨by rw [Lib.itoa_nonneg];rfl,Lib.below_grow W.heap.size W (Nat.le_refl _) k os⟩)
     obtain ⟨sp,hsp⟩:∃ a,a=decT m:=⟨_,rfl⟩
     rw [← hsp] at HIT
     have HTY:=hide_ (show (S ++ atL RL 3 p) ++ (cat [⟨#[9,115,112,97,99,101,32]⟩,sp] ++ ⟨#[10]⟩) ++ zeroR z RL4 q=TT by
      rw [← HT.out,HTK.out,hn3,spaceT,hm,Int.toNat_natCast,← hsp]
      simp only [cat,ba_nil,ba_assoc])
     have HQ2:=hide_ (show (S ++ atL RL 3 p).size+(cat [⟨#[9,115,112,97,99,101,32]⟩,sp]).size+1≤140737488355328 by
      have h1:=congrArg ByteArray.size HTY.out
      rw [ba_size,ba_size,ba_size (cat _)] at h1
      have:(⟨#[10]⟩:ByteArray).size=1:=rfl
      have:=HZ.out
      omega)
     have w1i:IntKind.u32.wrap (p+1)=p+1:=IntWalk.u32_in _ (by have:=HNB.out;omega)
     have w2i:IntKind.u32.wrap (q - p)=q - p:=IntWalk.u32_in _ (by have:=HNB.out;omega)
     have w3i:IntKind.i64.wrap (q - p)=q - p:=IntWalk.i64_in _ (by have:=HNB.out;omega)
     clear hS4 hL4 hM4 hn3 hn4 hq hm hsp
     go_wp2_with fail
     refine (HUN.out _ _ HS4.out).mono ?_
     rintro e w8 ⟨rfl,rfl⟩
     go_wp2_with fail
     refine (HIT.out _ (HTB.out _ HM4.out.bel)).mono ?_
     rintro e w9 ⟨rfl,hb9⟩
     have HS9:=hide_ (HS4.out.below hb9)
     have HM9:=hide_ (HM4.out.trans (PrM.of_below HS4.out.low hb9))
     have HSA:=hide_ (HS9.out.alloc (.cells #[.string ⟨#[9,115,112,97,99,101,32]⟩,.string sp] 9))
     have HBA:=hide_ (heap_alloc_new w9 (.cells #[.string ⟨#[9,115,112,97,99,101,32]⟩,.string sp] 9))
     have HMA:=hide_ (HM9.out.trans (PrM.alloc HS9.out.low (.cells #[.string ⟨#[9,115,112,97,99,101,32]⟩,.string sp] 9)))
     clear hb9
     go_wp2_with fail
     refine (line_any B g w9.heap.size _ _ _ _ [⟨#[9,115,112,97,99,101,32]⟩,sp] 2 _ HSA.out HBA.out rfl (by decide) HQ2.out).mono ?_
     rintro e w10 ⟨rfl,hS10,hM10⟩
     have HS10:=hide_ hS10
     have HM10:=hide_ (HMA.out.trans hM10)
     clear hS10 hM10
     go_wp2
     go_roundw
     case rel=>exact ⟨q,_,_,by omega,by omega,rfl,HS10,HTY,HLQ,HM10⟩
     case measure=>simp [intOf];omega
    ·obtain rfl:p=z:=by omega
     have HQ1:=hide_ (show S.size+(atL RL 3 p).size≤140737488351232 by
      have h1:=congrArg ByteArray.size HT.out
      obtain ⟨q,h3⟩:=zeroR_head p RL p HL.out.rise HL.out.rest
      rw [h3,ba_size,ba_size] at h1
      have:=HZ.out
      omega)
     go_wp2_with fail
     refine (pat_any B g po RL [] S 3 p _ HS.out HL.out.rise HL.out.rest HQ1.out).mono ?_
     rintro e w4 ⟨rfl,RL4,hS4,hL4,hM4⟩
     have HFIN:=hide_ (show ∃ RL' RF',PrS B g po RL' RF' TT w4∧PrM B g wc w4 from by
      refine ⟨RL4,[],?_,HM.out.trans hM4⟩
      have h1:=zeroR_take (z:=p) ⟨HL.out.rise,HL.out.rest⟩ hL4
      have h2:=hL4 _ HL.out
      have h3:RL4=[]:=by
       cases RL4 with
       | nil=>rfl
       | cons l R =>
        have h4:=h2.rest l (by simp)
        have h5:=lab_facts HOK.out (h2.mem (List.mem_cons_self ..))
        unfold befL at h4
        have h6:l.sec=3:=by omega
        have h7:=h5.2.2.2
        rw [h6,lenOf,if_neg (by decide),if_neg (by decide),HZR.out] at h7
        omega
      rw [h3,zeroR,if_neg (by omega),ba_nil] at h1
      rw [← HT.out,h1]
      exact hS4)
     clear hS4 hL4 hM4
     go_wp2
     go_end0
     exact ⟨rfl,HFIN.out⟩
  ·have h3:=HCD.out
   have HFIN:=hide_ (show ∃ RL' RF',PrS B g po RL' RF' TT wc∧PrM B g wc wc from by
    have hn0:z=0:=by
     by_cases h:z=0
     ·exact h
     ·rw [decide_eq_false h] at h3;cases h3
    have hs0:hasL x.labels 3=false:=by
     rw [HHS.out]
     cases hs with
     | false=>rfl
     | true=>rw [Bool.not_true,Bool.and_false] at h3;cases h3
    refine ⟨RL0,[],?_,PrM.refl _ _ _⟩
    rw [← HTT.out,zeroT,if_pos ⟨by rw [HZR.out];exact hn0,hs0⟩,ba_nil]
    exact HS0.out)
   clear h3
   go_wp2
   refine bodyPost_ret (results_none rfl _ _ _) rfl ?_
   exact ⟨rfl,HFIN.out⟩
end Go.Proofs.YtikbegmodacopaaGreatDoor
