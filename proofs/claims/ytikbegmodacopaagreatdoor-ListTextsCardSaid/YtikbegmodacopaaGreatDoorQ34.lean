/-
  Joined and packed by program.
-/
import Derived.Test.YtikbegmodacopaaGreatDoorQ33
import Derived.Test.YtikbegmodacopaaGreatDoorQ28
import Derived.Deep.RegionHeld3
import Derived.Test.YtikbegmodacopaaGreatDoorQ29
import Derived.Test.YtikbegmodacopaaGreatDoorQ07
namespace Go.Proofs.YtikbegmodacopaaGreatDoor
open Go.RowKit Go.PlainAid Go.BigFrame
set_option linter.unusedSimpArgs false
set_option linter.unusedVariables false
set_option maxRecDepth 100000
def poOf (x:ObjV) (s:ObjS):PO:=⟨.slice s.c.A x.code.length s.c.c,.slice s.d.A x.data.length s.d.c,.int .u32 x.zero,.int .u32 x.stack,.slice s.t.A x.targets.length s.t.c,.slice s.e.A x.entries.length s.e.c⟩
def SecPost (B g:Nat) (x:ObjV) (s:ObjS) (T:ByteArray) (sec:Int) (w w':World):Prop :=
 ∃ RL RF,PrS B g (poOf x s) RL RF T w'∧LeftL x.labels RL sec 0∧LeftF x.fixes RF sec 0∧PrM B g w w'
theorem PrS.c2 {B g:Nat} {x:ObjV} {s:ObjS} {RL:List LabV} {RF:List FixV} {T:ByteArray} {w:World} (h:PrS B g (poOf x s) RL RF T w):w.cell? ⟨g,2,none⟩=some (.slice s.c.A x.code.length s.c.c):=by
 obtain ⟨_,_,_,_,_,_,h,_⟩:=h;exact h.c2
theorem PrS.c3 {B g:Nat} {x:ObjV} {s:ObjS} {RL:List LabV} {RF:List FixV} {T:ByteArray} {w:World} (h:PrS B g (poOf x s) RL RF T w):w.cell? ⟨g,3,none⟩=some (.slice s.d.A x.data.length s.d.c):=by
 obtain ⟨_,_,_,_,_,_,h,_⟩:=h;exact h.c3
theorem PrS.c4 {B g:Nat} {x:ObjV} {s:ObjS} {RL:List LabV} {RF:List FixV} {T:ByteArray} {w:World} (h:PrS B g (poOf x s) RL RF T w):w.cell? ⟨g,4,none⟩=some (.int .u32 x.zero):=by
 obtain ⟨_,_,_,_,_,_,h,_⟩:=h;exact h.c4
theorem blk_below {W W':World} {m:Nat} {t:TypeId} {cs:Array Value} (h:W.heap[m]?=some (.cells cs t (0,0))) (hb:Below W.heap.size W W'):W'.heap[m]?=some (.cells cs t (0,0)) :=
 (hb.block m (Array.getElem?_eq_some_iff.1 h).1).trans h
theorem blk_lt {W:World} {m:Nat} {o:Obj} (h:W.heap[m]?=some o):m<W.heap.size:=(Array.getElem?_eq_some_iff.1 h).1
set_option maxHeartbeats 16000000 in
theorem pcode_any (x:ObjV) (s:ObjS) (B g:Nat) (T:ByteArray) (w:World) (hx:ObjOk x) (hok:okB x=true) (hr:ObjR w B x s) (h:PrS B g (poOf x s) x.labels x.fixes T w) (hTb:∀ W,Below B w W→TabOk W)
  (hz:T.size+(codeT x).size≤140737488351232) :
  Calls Tryz.prog 83 #[.pointer (some ⟨g,0,none⟩)] w fun e w'=>e=.returned (.tuple #[])∧SecPost B g x s (T ++ codeT x) 2 w w':=by
 have HRC:=hide_ hr.rc
 have HTB:=hide_ hTb
 have HX:=hide_ hx
 have HOK:=hide_ hok
 have HBL:=hide_ h.low
 have HBG:=hide_ h.base
 have hnb:=(boundB_iff.1 (okB_parts hok).1).1
 obtain ⟨n,hn⟩:∃ n,n=x.code.length:=⟨_,rfl⟩
 have HN:=hide_ hn.symm
 rw [← hn] at hnb
 obtain ⟨TT,hTT⟩:∃ t,t=T ++ codeT x:=⟨_,rfl⟩
 have HZ:=hide_ (show TT.size≤140737488351232 by rw [hTT,ba_size];exact hz)
 have HTT:=hide_ hTT.symm
 obtain ⟨⟨cA,cc⟩,sd,sl,sf,st,se⟩:=s
 have hc2:=h.c2
 dsimp only at HRC hc2
 rw [← hn] at HRC hc2
 have HS0:=hide_ (h.alloc (.cells #[.string ⟨#[99,111,100,101]⟩] 9))
 have HB0:=hide_ (heap_alloc_new w (.cells #[.string ⟨#[99,111,100,101]⟩] 9))
 have HQ0:=hide_ (show T.size+(cat [⟨#[99,111,100,101]⟩]).size+1≤140737488355328 by
  have h1:(codeT x).size=5+(codeR x x.code.length 0).size:=by rw [codeT,ba_size];rfl
  have h2:(cat [⟨#[99,111,100,101]⟩]).size=4:=rfl
  omega)
 have HM0:=hide_ (PrM.alloc (g:=g) h.low (.cells #[.string ⟨#[99,111,100,101]⟩] 9))
 obtain ⟨po,hpo⟩:∃ p,p=poOf x ⟨⟨cA,cc⟩,sd,sl,sf,st,se⟩:=⟨_,rfl⟩
 have HC2:Hid (∀ RL RF T W,PrS B g po RL RF T W→W.cell? ⟨g,2,none⟩=some (.slice cA n cc)):=hide_ (fun RL RF T W hS=>by rw [hpo] at hS;have h:=hS.c2;dsimp only at h;rw [← hn] at h;exact h)
 unfold SecPost
 rw [← hpo] at HS0
 rw [← hpo,← hTT]
 have HPO:=hide_ hpo
 clear h hr hTb hz hok hx hn hTT hpo hc2
 go_enter Tryz.func83,Tryz.ntmps83
 go_wp2_with fail
 refine (line_any B g w.heap.size _ _ _ T [⟨#[99,111,100,101]⟩] 1 _ HS0.out HB0.out rfl (by decide) HQ0.out).mono ?_
 rintro e w1 ⟨rfl,hS1,hM1⟩
 have HM1:=hide_ (HM0.out.trans hM1)
 have HT1:=hide_ (show (T ++ (cat [⟨#[99,111,100,101]⟩] ++ ⟨#[10]⟩)) ++ codeR x (n - 0) 0=TT by
  rw [← HTT.out,codeT,HN.out]
  simp only [ba_assoc,Nat.sub_zero]
  rfl)
 have c2:=HC2.out _ _ _ _ hS1
 have hgl:=hS1.lt
 have HS1:=hide_ hS1
 have HL1:=hide_ (LeftL.start HOK.out HX.out)
 have HF1:=hide_ (LeftF.start HOK.out HX.out)
 clear hS1 hM1 HS0 HB0 HQ0 HM0
 go_wp2
 go_loopw [15] (fun i wr=>∃ (k:Nat) (RL:List LabV) (RF:List FixV) (S:ByteArray),k≤n∧i=.int .i64 k∧Hid (PrS B g po RL RF S wr)∧Hid (S ++ codeR x (n - k) k=TT)∧Hid (LeftL x.labels RL 1 k)∧Hid (LeftF x.fixes RF 1 k)∧Hid (PrM B g w wr)) (fun i _=>n - (intOf i).toNat)
 case atStart=>exact ⟨0,_,_,_,Nat.zero_le _,rfl,HS1,HT1,HL1,HF1,HM1⟩
 case round =>
  clear HS1 HT1 HL1 HF1 HM1 c2 hgl
  obtain ⟨k,RL,RF,S,hk,rfl,HS,HT,HL,HF,HM⟩:=hrel
  by_cases hlt:k<n
  ·obtain ⟨⟨op,arg⟩,ht⟩:∃ t,x.code[k]?=some t:=⟨_,List.getElem?_eq_getElem (by have:=HN.out;omega)⟩
   have hop:=HX.out.code _ (List.mem_of_getElem? ht)
   obtain ⟨⟨q0,q1⟩,a0,a1⟩:=hop
   simp only at q0 q1 a0 a1
   obtain ⟨_,ad,rfl,hbk,p0,p1⟩:=el_cells cE_len HRC.out (by omega) ht
   have x0:=(HM.out.bel.cell (p:=ad.add (k * 2)) hbk).trans (p0 _ rfl)
   have x1:=(HM.out.bel.cell (p:=⟨(ad.add (k * 2)).block,(ad.add (k * 2)).off+1,none⟩) hbk).trans (p1 1 _ (by omega) rfl)
   simp only at x0 x1
   have hbs:(ad.add (k * 2)).block<wr.heap.size:=by have:=HS.out.low;omega
   have HI:=hide_ (fun W=>Info_any op W)
   have HSG:=hide_ (fun W hW=>Signed_any arg a0 a1 W hW)
   have HCK:=hide_ ht
   have hT:=HT.out
   rw [show n - k=(n - (k+1))+1 by omega,codeR,insT_at ht,HL.out.atL_eq,HF.out.fixT_eq] at hT
   obtain ⟨r,hr⟩:∃ r,r=opR op:=⟨_,rfl⟩
   have HR:=hide_ hr
   unfold opV at HI
   rw [← hr] at HI hT
   clear hr p0 p1 ht q0 q1 a0 a1
   obtain ⟨rw_,rwid,rmost,rtk,rgv,rkd⟩:=r
   unfold opCells at HI
   simp only at HI hT
   obtain ⟨wd,hwd⟩:∃ d:ByteArray,d=⟨rw_.toArray⟩:=⟨_,rfl⟩
   obtain ⟨sg,hsg⟩:∃ a,a=sgnT arg:=⟨_,rfl⟩
   obtain ⟨rest,hrest⟩:∃ a,a=codeR x (n - (k+1)) (k+1):=⟨_,rfl⟩
   rw [← hwd] at HI hT
   rw [← hsg] at HSG hT
   rw [← hrest] at hT
   have HREST:=hide_ hrest
   have HTX:=hide_ hT
   have hss:=congrArg ByteArray.size hT
   simp only [ba_size] at hss
   have HQ1:=hide_ (show S.size+(atL RL 1 k).size≤140737488351232 by have:=HZ.out;omega)
   have wk:IntKind.u32.wrap (k:Int)=(k:Int):=IntWalk.u32_in _ (by omega)
   have HS3:=hide_ (HS.out.alloc (.cells #[.int .u8 op,.int .u32 arg] 66))
   have HM3:=hide_ (HM.out.trans (PrM.alloc HS.out.low (.cells #[.int .u8 op,.int .u32 arg] 66)))
   have HI3:=hide_ (heap_alloc_new wr (.cells #[.int .u8 op,.int .u32 arg] 66))
   clear hT hss hwd hsg hrest hbk
   go_wp2_with fail
   refine (pat_any B g po RL RF S 1 (k:Int) _ HS3.out HL.out.rise HL.out.rest HQ1.out).mono ?_
   rintro e w4 ⟨rfl,RL4,hS4,hL4,hM4⟩
   have HI4:=hide_ (hM4.blk HI3.out (HS3.out.ne_blk HI3.out (by decide)) (by decide))
   have HM4:=hide_ (HM3.out.trans hM4)
   have HL4:=hide_ (hL4 _ HL.out)
   have HS4:=hide_ hS4
   have i0:w4.cell? ⟨wr.heap.size,0,none⟩=some (.int .u8 op):=cell_of_row w4 _ 0 _ _ _ HI4.out
   have hil:=blk_lt HI4.out
   clear hS4 hL4 hM4 x0 x1 hbs HS3 HM3 HI3
   go_wp2_with fail
   refine (HI.out _).mono ?_
   rintro e w5 ⟨rfl,hb5⟩
   have HI5:=hide_ (blk_below HI4.out hb5)
   have HS5:=hide_ (HS4.out.below hb5)
   have HM5:=hide_ (HM4.out.trans (PrM.of_below HS4.out.low hb5))
   have HS6:=hide_ (HS5.out.alloc (.cells #[.string wd,.int .i64 rwid,.int .u32 rmost,.int .i64 rtk,.int .i64 rgv,.int .u8 rkd] 114))
   have HM6:=hide_ (HM5.out.trans (PrM.alloc HS5.out.low (.cells #[.string wd,.int .i64 rwid,.int .u32 rmost,.int .i64 rtk,.int .i64 rgv,.int .u8 rkd] 114)))
   have HI6:=hide_ (blk_below HI5.out ((Below.refl w5.heap.size w5).alloc (Nat.le_refl _) (.cells #[.string wd,.int .i64 rwid,.int .u32 rmost,.int .i64 rtk,.int .i64 rgv,.int .u8 rkd] 114)))
   have HK6:=hide_ (heap_alloc_new w5 (.cells #[.string wd,.int .i64 rwid,.int .u32 rmost,.int .i64 rtk,.int .i64 rgv,.int .u8 rkd] 114))
   clear hb5 i0 hil
   obtain ⟨w6,hw6⟩:∃ W,W=w5.alloc (.cells #[.string wd,.int .i64 rwid,.int .u32 rmost,.int .i64 rtk,.int .i64 rgv,.int .u8 rkd] 114):=⟨_,rfl⟩
   go_upto_region 7 with (fail)
   rw [← hw6] at HS6 HM6 HI6 HK6 ⊢
   clear hw6 HS5 HM5 HI5 HI4 HS4 HM4
   go_wp2_with fail
   refine (here_any B g po RL4 RF _ 1 (k:Int) w6 HS6.out).mono ?_
   rintro e w7 ⟨rfl,rfl⟩
   have kw:w7.cell? ⟨w5.heap.size,0,none⟩=some (.string wd):=cell_of_row w7 _ 0 _ _ _ HK6.out
   have kwid:w7.cell? ⟨w5.heap.size,1,none⟩=some (.int .i64 rwid):=cell_of_row w7 _ 1 _ _ _ HK6.out
   have karg:w7.cell? ⟨wr.heap.size,1,none⟩=some (.int .u32 arg):=cell_of_row w7 _ 1 _ _ _ HI6.out
   have hkl:=blk_lt HK6.out
   have hil:=blk_lt HI6.out
   obtain ⟨hb,hhb⟩:∃ b,b=hereB RF 1 (k:Int):=⟨_,rfl⟩
   rw [← hhb]
   have HHB:=hide_ hhb.symm
   clear hhb
   cases hb
   ·
    have HFX:=hide_ (show fixT RF 1 (k:Int)=e0B from fixT_none HF.out (fun f hf=>by
     have h:=HHB.out
     cases RF with
     | nil=>cases hf
     | cons f' R'=>cases hf;exact h))
    have HFN:=hide_ (HF.out.past (fun f hf=>by
     have h:=HHB.out
     cases RF with
     | nil=>cases hf
     | cons f' R'=>cases hf;exact h))
    by_cases hw:0<rwid
    ·have hwi:(0:Int)<(rwid:Int):=by omega
     have HTY:=hide_ (show (S ++ atL RL 1 k) ++ (cat [⟨#[9]⟩,wd,⟨#[32]⟩,sg] ++ ⟨#[10]⟩) ++ rest=TT by
      rw [← HTX.out,HFX.out,if_pos hw,if_pos rfl]
      simp only [cat,ba_nil,ba_assoc])
     have HQ2:=hide_ (show (S ++ atL RL 1 k).size+(cat [⟨#[9]⟩,wd,⟨#[32]⟩,sg]).size+1≤140737488355328 by
      have h1:=congrArg ByteArray.size HTY.out
      rw [ba_size,ba_size,ba_size (cat _)] at h1
      have:(⟨#[10]⟩:ByteArray).size=1:=rfl
      have:=HZ.out
      omega)
     clear hw
     go_upto_region 10 with (fail)
     go_region_held3 (fun W=>W.cell? ⟨w5.heap.size,0,none⟩=some (.string wd)∧W.cell? ⟨wr.heap.size,1,none⟩=some (.int .u32 arg))
      (first | exact ⟨kw,karg⟩ | exact ⟨cell_of_row w8 _ 0 _ _ _ HK8.out,cell_of_row w8 _ 1 _ _ _ HI8.out⟩ | exact ⟨cell_of_row _ _ 0 _ _ _ HKA.out,cell_of_row _ _ 1 _ _ _ HIA.out⟩ | exact ⟨cell_of_row w9 _ 0 _ _ _ HK9.out,cell_of_row w9 _ 1 _ _ _ HI9.out⟩ | go_keep)
      (first
        | (go_at_call 67;refine (HSG.out _ (HTB.out _ HM6.out.bel.drew)).mono ?_;rintro e w8 ⟨rfl,hb8⟩;have hbd:Below w7.heap.size w7 w8:=(Below.refl w7.heap.size w7).drew.trans hb8;have HK8:=hide_ (blk_below HK6.out hbd);have HI8:=hide_ (blk_below HI6.out hbd);have HS8:=hide_ (HS6.out.below hbd);have HM8:=hide_ (HM6.out.trans (PrM.of_below HS6.out.low hbd));clear hb8 hbd;have HSA:=hide_ (HS8.out.alloc (.cells #[.string ⟨#[9]⟩,.string wd,.string ⟨#[32]⟩,.string sg] 9));have HBA:=hide_ (heap_alloc_new w8 (.cells #[.string ⟨#[9]⟩,.string wd,.string ⟨#[32]⟩,.string sg] 9));have HMA:=hide_ (HM8.out.trans (PrM.alloc HS8.out.low (.cells #[.string ⟨#[9]⟩,.string wd,.string ⟨#[32]⟩,.string sg] 9)));have HKA:=hide_ (blk_below HK8.out ((Below.refl w8.heap.size w8).alloc (Nat.le_refl _) (.cells #[.string ⟨#[9]⟩,.string wd,.string ⟨#[32]⟩,.string sg] 9)));have HIA:=hide_ (blk_below HI8.out ((Below.refl w8.heap.size w8).alloc (Nat.le_refl _) (.cells #[.string ⟨#[9]⟩,.string wd,.string ⟨#[32]⟩,.string sg] 9))))
        | (go_at_call 112;refine (line_any B g w8.heap.size _ _ _ _ [⟨#[9]⟩,wd,⟨#[32]⟩,sg] 4 _ HSA.out HBA.out rfl (by decide) HQ2.out).mono ?_;rintro e w9 ⟨rfl,hS9,hM9⟩;have HK9:=hide_ (hM9.blk HKA.out (HSA.out.ne_blk HKA.out (by decide)) (by decide));have HI9:=hide_ (hM9.blk HIA.out (HSA.out.ne_blk HIA.out (by decide)) (by decide));have HS9:=hide_ hS9;have HM9:=hide_ (HMA.out.trans hM9);clear hS9 hM9))
     have HTE:=hide_ (show (S ++ atL RL 1 k ++ (cat [⟨#[9]⟩,wd,⟨#[32]⟩,sg] ++ ⟨#[10]⟩)) ++ codeR x (n - (k+1)) (k+1)=TT by rw [← HREST.out];exact HTY.out)
     clear kw kwid karg hkl hil
     go_wp2
     go_roundw
     case rel=>exact ⟨k+1,_,_,_,by omega,by go_num,HS9,HTE,HL4,HFN,HM9⟩
     case measure=>simp [intOf];omega
    ·have hwi:¬ (0:Int)<(rwid:Int):=by omega
     have HTY:=hide_ (show (S ++ atL RL 1 k) ++ (cat [⟨#[9]⟩,wd] ++ ⟨#[10]⟩) ++ rest=TT by
      rw [← HTX.out,HFX.out,if_neg hw]
      simp only [cat,ba_nil,ba_assoc])
     have HQ2:=hide_ (show (S ++ atL RL 1 k).size+(cat [⟨#[9]⟩,wd]).size+1≤140737488355328 by
      have h1:=congrArg ByteArray.size HTY.out
      rw [ba_size,ba_size,ba_size (cat _)] at h1
      have:(⟨#[10]⟩:ByteArray).size=1:=rfl
      have:=HZ.out
      omega)
     have HS8:=hide_ (HS6.out.alloc (.cells #[.string ⟨#[9]⟩,.string wd] 9))
     have HB8:=hide_ (heap_alloc_new w7 (.cells #[.string ⟨#[9]⟩,.string wd] 9))
     have HM8:=hide_ (HM6.out.trans (PrM.alloc HS6.out.low (.cells #[.string ⟨#[9]⟩,.string wd] 9)))
     clear hw
     go_wp2_with fail
     refine (line_any B g w7.heap.size _ _ _ _ [⟨#[9]⟩,wd] 2 _ HS8.out HB8.out rfl (by decide) HQ2.out).mono ?_
     rintro e w9 ⟨rfl,hS9,hM9⟩
     have HS9:=hide_ hS9
     have HM9:=hide_ (HM8.out.trans hM9)
     have HTE:=hide_ (show (S ++ atL RL 1 k ++ (cat [⟨#[9]⟩,wd] ++ ⟨#[10]⟩)) ++ codeR x (n - (k+1)) (k+1)=TT by rw [← HREST.out];exact HTY.out)
     clear hS9 hM9 kw kwid karg hkl hil
     go_wp2
     go_roundw
     case rel=>exact ⟨k+1,_,_,_,by omega,by go_num,HS9,HTE,HL4,HFN,HM9⟩
     case measure=>simp [intOf];omega
   ·
    obtain ⟨f,RF2,hRF⟩:∃ f R,RF=f :: R:=by
     have h:=HHB.out
     cases RF with
     | nil=>cases h
     | cons f R=>exact ⟨f,R,rfl⟩
    subst hRF
    have hfa:fixAtB 1 (k:Int) f=true:=HHB.out
    have hmem:=HF.out.mem (List.mem_cons_self ..)
    have hfo:=HX.out.fixes _ hmem
    have HFA:=hide_ (And.intro hfo.1 hfo.2.2.2)
    have HFN:=hide_ (show LeftF x.fixes RF2 1 ((k:Int)+1) by have h:=HF.out.take hfa;rw [if_neg (by decide)] at h;exact h)
    have hwid:0<rwid:=by
     unfold fixAtB at hfa
     rw [Bool.and_eq_true,decide_eq_true_eq,decide_eq_true_eq] at hfa
     rcases fix_place HOK.out hmem with ⟨_,t,h1,h2⟩ | ⟨h1,_⟩
     ·rw [hfa.2,Int.toNat_natCast,HCK.out] at h1
      injection h1 with h1
      subst h1
      rw [← HR.out] at h2
      exact h2
     ·rw [hfa.1] at h1;cases h1
    have HTY:=hide_ (show (S ++ atL RL 1 k) ++ (cat [⟨#[9]⟩,wd,⟨#[32]⟩,fixTx f] ++ ⟨#[10]⟩) ++ rest=TT by
     rw [← HTX.out,if_pos hwid,fixT_here hfa,if_neg (fixTx_ne (name_some (fix_facts HOK.out hmem).1))]
     simp only [cat,ba_nil,ba_assoc])
    have HQ2:=hide_ (show (S ++ atL RL 1 k).size+(cat [⟨#[9]⟩,wd,⟨#[32]⟩,fixTx f]).size+1≤140737488355328 by
     have h1:=congrArg ByteArray.size HTY.out
     rw [ba_size,ba_size,ba_size (cat _)] at h1
     have:(⟨#[10]⟩:ByteArray).size=1:=rfl
     have:=HZ.out
     omega)
    have HSD:=hide_ (show PrS B g po RL4 (f :: RF2) (S ++ atL RL 1 k) w7.drew from HS6.out.below (Below.refl _ _).drew)
    have HKD:=hide_ (show w7.drew.heap[w5.heap.size]?=_ from HK6.out)
    have HID:=hide_ (show w7.drew.heap[wr.heap.size]?=_ from HI6.out)
    clear hfa hmem hfo hwid
    go_upto_region 8 with (fail)
    go_region_held3 (fun W=>W.cell? ⟨w5.heap.size,0,none⟩=some (.string wd))
     (first | exact kw | exact (cell_of_row w8 _ 0 _ _ _ HK8.out) | exact (cell_of_row _ _ 0 _ _ _ HKA.out) | exact (cell_of_row w9 _ 0 _ _ _ HK9.out) | go_keep)
     (first
       | (go_at_call 115;refine (pfix_any B g po RL4 RF2 f _ _ (HSD.out) HFA.out.1 HFA.out.2 (fun W hW=>HTB.out W (HM6.out.bel.drew.trans hW))).mono ?_;rintro e w8 ⟨rfl,hS8,hM8⟩;have HK8:=hide_ (hM8.blk HKD.out (HSD.out.ne_blk HKD.out (by decide)) (by decide));have HI8:=hide_ (hM8.blk HID.out (HSD.out.ne_blk HID.out (by decide)) (by decide));have HS8:=hide_ hS8;have HM8:=hide_ ((PrM.mk HM6.out.bel.drew HM6.out.kept.drew).trans hM8);clear hS8 hM8;have HSA:=hide_ (HS8.out.alloc (.cells #[.string ⟨#[9]⟩,.string wd,.string ⟨#[32]⟩,.string (fixTx f)] 9));have HBA:=hide_ (heap_alloc_new w8 (.cells #[.string ⟨#[9]⟩,.string wd,.string ⟨#[32]⟩,.string (fixTx f)] 9));have HMA:=hide_ (HM8.out.trans (PrM.alloc HS8.out.low (.cells #[.string ⟨#[9]⟩,.string wd,.string ⟨#[32]⟩,.string (fixTx f)] 9)));have HKA:=hide_ (blk_below HK8.out ((Below.refl w8.heap.size w8).alloc (Nat.le_refl _) (.cells #[.string ⟨#[9]⟩,.string wd,.string ⟨#[32]⟩,.string (fixTx f)] 9)));have HIA:=hide_ (blk_below HI8.out ((Below.refl w8.heap.size w8).alloc (Nat.le_refl _) (.cells #[.string ⟨#[9]⟩,.string wd,.string ⟨#[32]⟩,.string (fixTx f)] 9))))
       | (go_at_call 112;refine (line_any B g w8.heap.size _ _ _ _ [⟨#[9]⟩,wd,⟨#[32]⟩,fixTx f] 4 _ HSA.out HBA.out rfl (by decide) HQ2.out).mono ?_;rintro e w9 ⟨rfl,hS9,hM9⟩;have HK9:=hide_ (hM9.blk HKA.out (HSA.out.ne_blk HKA.out (by decide)) (by decide));have HI9:=hide_ (hM9.blk HIA.out (HSA.out.ne_blk HIA.out (by decide)) (by decide));have HS9:=hide_ hS9;have HM9:=hide_ (HMA.out.trans hM9);clear hS9 hM9))
    have HTE:=hide_ (show (S ++ atL RL 1 k ++ (cat [⟨#[9]⟩,wd,⟨#[32]⟩,fixTx f] ++ ⟨#[10]⟩)) ++ codeR x (n - (k+1)) (k+1)=TT by rw [← HREST.out];exact HTY.out)
    clear kw kwid karg hkl hil
    go_wp2
    go_roundw
    case rel=>exact ⟨k+1,_,_,_,by omega,by go_num,HS9,HTE,HL4,HFN,HM9⟩
    case measure=>simp [intOf];omega
  ·obtain rfl:k=n:=by omega
   have HTX:=hide_ (show S ++ atL RL 1 k=TT by
    have h:=HT.out
    rw [Nat.sub_self,codeR,HL.out.atL_eq] at h
    exact h)
   have HQ1:=hide_ (show S.size+(atL RL 1 k).size≤140737488351232 by
    have h:=congrArg ByteArray.size HTX.out
    rw [ba_size] at h
    have:=HZ.out
    omega)
   have wk:IntKind.u32.wrap (k:Int)=(k:Int):=IntWalk.u32_in _ (by omega)
   have c2:=HC2.out _ _ _ _ HS.out
   have hgl:=HS.out.lt
   go_wp2_with fail
   refine (pat_any B g po RL RF S 1 (k:Int) _ HS.out HL.out.rise HL.out.rest HQ1.out).mono ?_
   rintro e w4 ⟨rfl,RL4,hS4,hL4,hM4⟩
   have HFIN:=hide_ (show ∃ RL' RF',PrS B g po RL' RF' TT w4∧LeftL x.labels RL' 2 0∧LeftF x.fixes RF' 2 0∧PrM B g w w4 from by
    refine ⟨RL4,RF,by rw [← HTX.out];exact hS4,?_,?_,HM.out.trans hM4⟩
    ·refine (hL4 _ HL.out).next (fun l hl h1=>?_) (fun l hl=>(HX.out.labels l hl).2.2.1)
     have h2:=(lab_facts HOK.out hl).2.2.2
     rw [h1,lenOf,if_pos rfl,HN.out] at h2
     omega
    ·refine HF.out.next (fun f hf h1=>?_) (fun f hf=>(HX.out.fixes f hf).2.2.1.1)
     have h0:=(HX.out.fixes f hf).2.2.1.1
     rcases fix_place HOK.out hf with ⟨_,t,h2,_⟩ | ⟨h2,_⟩
     ·have h3:=(List.getElem?_eq_some_iff.1 h2).1
      rw [HN.out] at h3
      omega
     ·rw [h1] at h2;cases h2)
   clear hS4 hL4 hM4 c2 hgl
   go_wp2
   go_end0
   exact ⟨rfl,HFIN.out⟩
end Go.Proofs.YtikbegmodacopaaGreatDoor
namespace Go.Proofs.YtikbegmodacopaaGreatDoor
open Go.RowKit Go.PlainAid
set_option linter.unusedSimpArgs false
set_option linter.unusedVariables false
set_option maxRecDepth 100000
theorem stopG_eq {x:ObjV}:∀ (f j m:Nat),j≤m→m≤j+f→(∀ i,j≤i→i<m→i<x.data.length∧clearD x i=true)→(m=j+f∨¬ (m<x.data.length∧clearD x m=true))→stopG x f j=m
 | 0,j,m,h1,h2,_,_=>by rw [stopG];omega
 | f+1,j,m,h1,h2,h3,h4=>by
  rw [stopG]
  by_cases hjm:j=m
  ·subst hjm
   rw [if_neg]
   rcases h4 with h4 | h4
   ·omega
   ·exact h4
  ·rw [if_pos (h3 j (Nat.le_refl _) (by omega))]
   exact stopG_eq f (j+1) m (by omega) (by omega) (fun i h5 h6=>h3 i (by omega) h6) (by rcases h4 with h4 | h4;exact .inl (by omega);exact .inr h4)
theorem atL_none {L R:List LabV} {s p j:Int} (h:LeftL L R s p) (hj:p≤j) (hn:∀ l,R.head?=some l→l.sec=s→j<l.at_):atL L s j=e0B:=by
 obtain ⟨D,rfl,hb⟩:=h.all_
 unfold atL
 rw [List.filter_eq_nil_iff.2]
 ·rfl
 ·intro l hl hc
  unfold labAt at hc
  rw [Bool.and_eq_true,decide_eq_true_eq,decide_eq_true_eq] at hc
  rcases List.mem_append.1 hl with hl | hl
  ·have:=hb l hl;unfold befL at this;omega
  ·cases R with
   | nil=>cases hl
   | cons r R =>
    have h1:=hn r rfl
    have h2:=h.rest r (by simp)
    unfold befL at h2
    rcases List.mem_cons.1 hl with rfl | hl
    ·have:=h1 hc.1;omega
    ·have h3:=(List.pairwise_cons.1 h.rise).1 l hl
     unfold leL at h3
     by_cases hs:r.sec=s
     ·have:=h1 hs;omega
     ·omega
theorem fixT_none' {L R:List FixV} {s p j:Int} (h:LeftF L R s p) (hj:p≤j) (hn:∀ l,R.head?=some l→l.sec=s→j<l.at_):fixT L s j=e0B:=by
 obtain ⟨D,rfl,hb⟩:=h.all_
 unfold fixT
 rw [List.find?_eq_none.2]
 intro l hl hc
 unfold fixAtB at hc
 rw [Bool.and_eq_true,decide_eq_true_eq,decide_eq_true_eq] at hc
 rcases List.mem_append.1 hl with hl | hl
 ·have:=hb l hl;unfold befF at this;omega
 ·cases R with
  | nil=>cases hl
  | cons r R =>
   have h1:=hn r rfl
   have h2:=h.rest r (by simp)
   unfold befF at h2
   rcases List.mem_cons.1 hl with rfl | hl
   ·have:=h1 hc.1;omega
   ·have h3:=(List.pairwise_cons.1 h.rise).1 l hl
    unfold ltF at h3
    by_cases hs:r.sec=s
    ·have:=h1 hs;omega
    ·omega
theorem atL_some {L:List LabV} {l:LabV} {s j:Int} (hl:l ∈ L) (h1:l.sec=s) (h2:l.at_=j):atL L s j≠e0B:=by
 intro e
 have h3:l ∈ L.filter (labAt s j):=List.mem_filter.2 ⟨hl,by simp [labAt,h1,h2]⟩
 unfold atL at e
 have key:∀ K:List LabV,l ∈ K→0<(cat (K.map labLn)).size:=by
  intro K
  induction K with
  | nil=>intro h;cases h
  | cons a K ih =>
   intro h
   rw [List.map_cons,cat,ba_size]
   rcases List.mem_cons.1 h with rfl | h
   ·have:0<(labLn l).size:=by rw [labLn,ba_size];have:(⟨#[58,10]⟩:ByteArray).size=2:=rfl;omega
    omega
   ·have:=ih h;omega
 have:=key _ h3
 rw [e] at this
 exact absurd this (by decide)
theorem fixT_some {L:List FixV} {l:FixV} {s j:Int} (hl:l ∈ L) (h1:l.sec=s) (h2:l.at_=j) (hn:∀ f ∈ L,f.name≠e0B):fixT L s j≠e0B:=by
 unfold fixT
 cases h:L.find? (fixAtB s j) with
 | none=>exact absurd (by simp [fixAtB,h1,h2]) (List.find?_eq_none.1 h l hl)
 | some f=>exact fixTx_ne (hn f (List.mem_of_find?_eq_some h))
theorem stop_eq {x:ObjV} (hok:okB x=true) {RL:List LabV} {RF:List FixV} {k:Nat} (hL:LeftL x.labels RL 2 ((k:Int)+1)) (hF:LeftF x.fixes RF 2 ((k:Int)+1)) (hk:k<x.data.length) :
  min ((k:Int)+16) (untilV RL RF 2 ((k:Int)+1) x.data.length)=(stopK x k:Int)∧stopK x k≤x.data.length∧LeftL x.labels RL 2 (stopK x k)∧LeftF x.fixes RF 2 (stopK x k):=by
 obtain ⟨m,hm⟩:∃ m:Int,m=min ((k:Int)+16) (untilV RL RF 2 ((k:Int)+1) x.data.length):=⟨_,rfl⟩
 have hl:∀ l,RL.head?=some l→l.sec=2→m≤l.at_∧(k:Int)+1≤l.at_:=by
  intro l h1 h2
  have h3:=hL.rest l (List.mem_of_mem_head? h1)
  unfold befL at h3
  have h4:(k:Int)+1≤l.at_:=by omega
  refine ⟨?_,h4⟩
  rw [hm,untilV,h1,Option.map_some,minB_yes h2 h4]
  cases RF.head? with
  | none=>simp only [Option.map_none,minB];omega
  | some f =>
   simp only [Option.map_some,minB]
   split <;> omega
 have hf:∀ l,RF.head?=some l→l.sec=2→m≤l.at_∧(k:Int)+1≤l.at_:=by
  intro l h1 h2
  have h3:=hF.rest l (List.mem_of_mem_head? h1)
  unfold befF at h3
  have h4:(k:Int)+1≤l.at_:=by omega
  refine ⟨?_,h4⟩
  rw [hm,untilV,h1,Option.map_some,minB_yes h2 h4]
  omega
 have hcase:m=(k:Int)+16∨m=x.data.length∨(∃ l,RL.head?=some l∧l.sec=2∧m=l.at_)∨(∃ l,RF.head?=some l∧l.sec=2∧m=l.at_):=by
  rw [hm,untilV]
  cases h1:RL.head? with
  | none =>
   simp only [Option.map_none,minB]
   cases h2:RF.head? with
   | none=>simp only [Option.map_none];omega
   | some f =>
    simp only [Option.map_some]
    by_cases h3:f.sec=2∧(k:Int)+1≤f.at_
    ·rw [if_pos h3]
     rcases Int.le_total ((k:Int)+16) (min (x.data.length:Int) f.at_) with h5 | h5
     ·left;omega
     ·rcases Int.le_total (x.data.length:Int) f.at_ with h6 | h6
      ·right;left;omega
      ·right;right;right;exact ⟨f,rfl,h3.1,by omega⟩
    ·rw [if_neg h3];omega
  | some l =>
   simp only [Option.map_some,minB]
   by_cases h4:l.sec=2∧(k:Int)+1≤l.at_
   ·rw [if_pos h4]
    cases h2:RF.head? with
    | none =>
     simp only [Option.map_none]
     rcases Int.le_total ((k:Int)+16) (min (x.data.length:Int) l.at_) with h5 | h5
     ·left;omega
     ·rcases Int.le_total (x.data.length:Int) l.at_ with h6 | h6
      ·right;left;omega
      ·right;right;left;exact ⟨l,rfl,h4.1,by omega⟩
    | some f =>
     simp only [Option.map_some]
     by_cases h3:f.sec=2∧(k:Int)+1≤f.at_
     ·rw [if_pos h3]
      rcases Int.le_total ((k:Int)+16) (min (min (x.data.length:Int) l.at_) f.at_) with h5 | h5
      ·left;omega
      ·rcases Int.le_total (x.data.length:Int) (min l.at_ f.at_) with h6 | h6
       ·right;left;omega
       ·rcases Int.le_total l.at_ f.at_ with h7 | h7
        ·right;right;left;exact ⟨l,rfl,h4.1,by omega⟩
        ·right;right;right;exact ⟨f,rfl,h3.1,by omega⟩
     ·rw [if_neg h3]
      rcases Int.le_total ((k:Int)+16) (min (x.data.length:Int) l.at_) with h5 | h5
      ·left;omega
      ·rcases Int.le_total (x.data.length:Int) l.at_ with h6 | h6
       ·right;left;omega
       ·right;right;left;exact ⟨l,rfl,h4.1,by omega⟩
   ·rw [if_neg h4]
    cases h2:RF.head? with
    | none=>simp only [Option.map_none];omega
    | some f =>
     simp only [Option.map_some]
     by_cases h3:f.sec=2∧(k:Int)+1≤f.at_
     ·rw [if_pos h3]
      rcases Int.le_total ((k:Int)+16) (min (x.data.length:Int) f.at_) with h5 | h5
      ·left;omega
      ·rcases Int.le_total (x.data.length:Int) f.at_ with h6 | h6
       ·right;left;omega
       ·right;right;right;exact ⟨f,rfl,h3.1,by omega⟩
     ·rw [if_neg h3];omega
 have hm1:(k:Int)+1≤m:=by
  rcases hcase with h | h | ⟨l,h1,h2,h3⟩ | ⟨l,h1,h2,h3⟩
  ·omega
  ·omega
  ·have:=(hl l h1 h2).2;omega
  ·have:=(hf l h1 h2).2;omega
 have hm2:m≤(k:Int)+16:=by rw [hm];exact Int.min_le_left _ _
 have hm3:m≤x.data.length:=by
  have h5:untilV RL RF 2 ((k:Int)+1) x.data.length≤x.data.length:=by
   unfold untilV
   have hb:∀ (e:Int) o,minB 2 ((k:Int)+1) e o≤e:=by
    intro e o
    cases o with
    | none=>exact Int.le_refl _
    | some q=>obtain ⟨s,a⟩:=q;unfold minB;split <;> omega
   exact Int.le_trans (hb _ _) (hb _ _)
  rw [hm]
  omega
 obtain ⟨mm,hmm⟩:∃ q:Nat,m=(q:Int):=⟨m.toNat,by omega⟩
 have hst:stopK x k=mm:=by
  refine stopG_eq 15 (k+1) mm (by omega) (by omega) (fun i h1 h2=>⟨by omega,?_⟩) ?_
  ·unfold clearD
   rw [decide_eq_true (atL_none hL (by omega) (fun l h3 h4=>by have:=(hl l h3 h4).1;omega)),decide_eq_true (fixT_none' hF (by omega) (fun l h3 h4=>by have:=(hf l h3 h4).1;omega))]
   rfl
  ·rcases hcase with h | h | ⟨l,h1,h2,h3⟩ | ⟨l,h1,h2,h3⟩
   ·exact .inl (by omega)
   ·exact .inr (fun h4=>by omega)
   ·refine .inr (fun h4=>?_)
    have h5:=h4.2
    unfold clearD at h5
    rw [decide_eq_false (atL_some (hL.mem (List.mem_of_mem_head? h1)) h2 (by rw [← h3,hmm]))] at h5
    cases h5
   ·refine .inr (fun h4=>?_)
    have h5:=h4.2
    unfold clearD at h5
    rw [decide_eq_false (fixT_some (hF.mem (List.mem_of_mem_head? h1)) h2 (by rw [← h3,hmm]) (fun f hq=>name_some (fix_facts hok hq).1)),Bool.and_false] at h5
    cases h5
 refine ⟨by rw [← hm,hmm,hst],by omega,?_,?_⟩
 ·refine hL.skip (by omega) (fun l h1 hb=>?_)
  have h2:=hL.rest l (List.mem_of_mem_head? h1)
  unfold befL at h2 hb
  by_cases hs:l.sec=2
  ·have:=(hl l h1 hs).1;omega
  ·omega
 ·refine hF.skip (by omega) (fun l h1 hb=>?_)
  have h2:=hF.rest l (List.mem_of_mem_head? h1)
  unfold befF at h2 hb
  by_cases hs:l.sec=2
  ·have:=(hf l h1 hs).1;omega
  ·omega
end Go.Proofs.YtikbegmodacopaaGreatDoor
namespace Go.Proofs.YtikbegmodacopaaGreatDoor
open Go.RowKit Go.PlainAid Go.Shelf
abbrev digs:ByteArray:=⟨#[48,49,50,51,52,53,54,55,56,57,97,98,99,100,101,102]⟩
theorem digs_at (j:Nat) (h:j<16):bt digs j=nibN (j:Int):=by
 match j,h with
 | 0,_=>decide
 | 1,_=>decide
 | 2,_=>decide
 | 3,_=>decide
 | 4,_=>decide
 | 5,_=>decide
 | 6,_=>decide
 | 7,_=>decide
 | 8,_=>decide
 | 9,_=>decide
 | 10,_=>decide
 | 11,_=>decide
 | 12,_=>decide
 | 13,_=>decide
 | 14,_=>decide
 | 15,_=>decide
 | n+16,h=>exact absurd h (by omega)
theorem u8_and15 (x:Int) (h0:0≤x) (h1:x<256):bits .and .u8 x 15=x % 16:=bits_mask .u8 8 (by decide) (fun n h0 h1=>by simp only [IntKind.wrap_u8];omega) 4 (by decide) x h0 h1
theorem isB_k {T e:TypeId} {B b:Nat} {bs:List Value} {w:World} (h:Lib.BuilderAtF T e B b (.pointer (some ⟨b,0,none⟩)) bs w):Lib.IsBuilderF T e B b bs w:=.inr h
set_option maxRecDepth 100000 in
set_option maxHeartbeats 1000000 in
theorem tShow_any (A:Option Addr) (n c:Nat) (xs:List Int) (B:Nat) (w:World) (ha:Reads w B 1 A n (u8s xs)) (hB:B≤w.heap.size) (hn:n≤2097152) (hx:∀ x ∈ xs,isByte x) :
  Calls Tryz.prog 118 #[.slice A n c] w fun e w'=>e=.returned (.string (strOfNums (showL xs)))∧Below w.heap.size w w':=by
 have la:xs.length=n:=by simpa using ha.1
 have HLA:=hide_ la
 clear la
 go_enter Tryz.func118,Tryz.ntmps118
 go_wp2_with (go_at_call 156;refine (bld_byte w.heap.size w.heap.size [] 34 _ (Lib.IsBuilderF.of (Lib.fresh_isBuilder 96 5 w)) (by simp) (by simp)).mono ?_)
 rintro e w1 ⟨rfl,h1,b1,_⟩
 have hI1:=isB_k h1
 have hb1:Below w.heap.size w w1:=((Below.refl _ w).alloc (Nat.le_refl _) _).trans b1
 clear h1 b1
 go_wp2
 go_loopw [9] (fun i wr=>∃ k:Nat,k≤n∧i=.int .i64 k∧Lib.IsBuilderF 96 5 w.heap.size w.heap.size (u8s (showM (xs.take k))) wr∧Below w.heap.size w wr) (fun i _=>n - (intOf i).toNat)
 case atStart =>
  exact ⟨0,Nat.zero_le _,rfl,hI1,hb1⟩
 case round =>
  obtain ⟨k,hk,rfl,hI,hb⟩:=hrel
  have hsz:=hb.size
  have hlen:(showM (xs.take k)).length≤4 * k+1:=by
   have h1:=showM_len (xs.take k)
   have h2:(xs.take k).length≤k:=by simp;omega
   omega
  by_cases hlt:k<n
  ·obtain ⟨ad,u,rfl,hadb,hu1,hc⟩:=((ha.below (hb.mono hB))).at_ hlt
   have hu:=get_map (Value.int .u8) xs 0 k (by rw [HLA.out];exact hlt) hu1
   subst hu
   have hxb:isByte (xs[k]?.getD 0):=by
    have h9:k<xs.length:=by rw [HLA.out];exact hlt
    rw [List.getElem?_eq_getElem h9];exact hx _ (List.getElem_mem h9)
   obtain ⟨x,hxx⟩:∃ x,x=xs[k]?.getD 0:=⟨_,rfl⟩
   rw [← hxx] at hc hxb
   have HS:=hide_ (show u8s (showM (xs.take (k+1)))=u8s (showM (xs.take k)) ++ u8s (showB x) by rw [take_snoc xs 0 k (by rw [HLA.out];exact hlt),← hxx,showM_snoc,u8s_app])
   clear hxx hu1
   obtain ⟨L,hL⟩:∃ L,L=u8s (showM (xs.take k)):=⟨_,rfl⟩
   have hLl:L.length≤4 * k+1:=by rw [hL];simpa using hlen
   rw [← hL] at hI HS
   clear hL hlen
   have h0:=hxb.1
   have h1:=hxb.2
   rcases show_ways x hxb with h | h | h
   ·clear hxb h0 h1
    rcases h with rfl | rfl | rfl | rfl | rfl | rfl
    ·go_wp2_with (go_at_call 57;refine (bld_string w.heap.size w.heap.size L ⟨#[92,110]⟩ _ hI (by show L.length+2≤_;omega) (by omega)).mono ?_)
     rintro e W1 ⟨rfl,h2,b2,_⟩
     go_wp2
     go_roundw
     case rel =>
      refine ⟨k+1,by omega,by go_num,?_,hb.trans b2⟩
      rw [HS.out]
      exact isB_k h2
     case measure=>simp [intOf];omega
    ·go_wp2_with (go_at_call 57;refine (bld_string w.heap.size w.heap.size L ⟨#[92,116]⟩ _ hI (by show L.length+2≤_;omega) (by omega)).mono ?_)
     rintro e W1 ⟨rfl,h2,b2,_⟩
     go_wp2
     go_roundw
     case rel =>
      refine ⟨k+1,by omega,by go_num,?_,hb.trans b2⟩
      rw [HS.out]
      exact isB_k h2
     case measure=>simp [intOf];omega
    ·go_wp2_with (go_at_call 57;refine (bld_string w.heap.size w.heap.size L ⟨#[92,114]⟩ _ hI (by show L.length+2≤_;omega) (by omega)).mono ?_)
     rintro e W1 ⟨rfl,h2,b2,_⟩
     go_wp2
     go_roundw
     case rel =>
      refine ⟨k+1,by omega,by go_num,?_,hb.trans b2⟩
      rw [HS.out]
      exact isB_k h2
     case measure=>simp [intOf];omega
    ·go_wp2_with (go_at_call 57;refine (bld_string w.heap.size w.heap.size L ⟨#[92,48]⟩ _ hI (by show L.length+2≤_;omega) (by omega)).mono ?_)
     rintro e W1 ⟨rfl,h2,b2,_⟩
     go_wp2
     go_roundw
     case rel =>
      refine ⟨k+1,by omega,by go_num,?_,hb.trans b2⟩
      rw [HS.out]
      exact isB_k h2
     case measure=>simp [intOf];omega
    ·go_wp2_with (go_at_call 156;refine (bld_byte w.heap.size w.heap.size L 92 _ hI (by omega) (by omega)).mono ?_)
     rintro e W1 ⟨rfl,h2,b2,_⟩
     have hz2:=b2.size
     go_wp2_with (go_at_call 156;refine (bld_byte w.heap.size w.heap.size (L ++ [.int .u8 92]) 34 _ (isB_k h2) (by simp;omega) (by omega)).mono ?_)
     rintro e W2 ⟨rfl,h3,b3,_⟩
     go_wp2
     go_roundw
     case rel =>
      refine ⟨k+1,by omega,by go_num,?_,hb.trans (b2.trans b3)⟩
      rw [HS.out]
      have:=isB_k h3
      rw [List.append_assoc] at this
      exact this
     case measure=>simp [intOf];omega
    ·go_wp2_with (go_at_call 156;refine (bld_byte w.heap.size w.heap.size L 92 _ hI (by omega) (by omega)).mono ?_)
     rintro e W1 ⟨rfl,h2,b2,_⟩
     have hz2:=b2.size
     go_wp2_with (go_at_call 156;refine (bld_byte w.heap.size w.heap.size (L ++ [.int .u8 92]) 92 _ (isB_k h2) (by simp;omega) (by omega)).mono ?_)
     rintro e W2 ⟨rfl,h3,b3,_⟩
     go_wp2
     go_roundw
     case rel =>
      refine ⟨k+1,by omega,by go_num,?_,hb.trans (b2.trans b3)⟩
      rw [HS.out]
      have:=isB_k h3
      rw [List.append_assoc] at this
      exact this
     case measure=>simp [intOf];omega
   ·have HB:=hide_ (showB_self x h)
    obtain ⟨g0,g1,g2,g3⟩:=h
    have d4:(x == 10)=false:=by rw [beq_eq_false_iff_ne];omega
    have d5:(x == 9)=false:=by rw [beq_eq_false_iff_ne];omega
    have d6:(x == 13)=false:=by rw [beq_eq_false_iff_ne];omega
    have d7:(x == 0)=false:=by rw [beq_eq_false_iff_ne];omega
    have d2:(x == 34)=false:=by rw [beq_eq_false_iff_ne];omega
    have d3:(x == 92)=false:=by rw [beq_eq_false_iff_ne];omega
    have d8:decide (32≤x)=true:=by simpa using g0
    have d9:decide (x≤126)=true:=by simpa using g1
    clear g2 g3
    go_wp2_with (go_at_call 156;refine (bld_byte w.heap.size w.heap.size L x _ hI (by omega) (by omega)).mono ?_)
    rintro e W1 ⟨rfl,h2,b2,_⟩
    go_wp2
    go_roundw
    case rel =>
     refine ⟨k+1,by omega,by go_num,?_,hb.trans b2⟩
     rw [HS.out,HB.out]
     exact isB_k h2
    case measure=>simp [intOf];omega
   ·have HB:=hide_ (showB_hex x h)
    have d4:(x == 10)=false:=by rw [beq_eq_false_iff_ne];omega
    have d5:(x == 9)=false:=by rw [beq_eq_false_iff_ne];omega
    have d6:(x == 13)=false:=by rw [beq_eq_false_iff_ne];omega
    have d7:(x == 0)=false:=by rw [beq_eq_false_iff_ne];omega
    have d2:(x == 34)=false:=by rw [beq_eq_false_iff_ne];omega
    have d3:(x == 92)=false:=by rw [beq_eq_false_iff_ne];omega
    have hbt:=get_bt digs
    have e1:=digs_at (x / 16).toNat (by omega)
    have e2:=digs_at (x % 16).toNat (by omega)
    rw [Int.toNat_of_nonneg (by omega)] at e1 e2
    have e3:=u8_and15 x (by omega) (by omega)
    have e4:0≤x / 16:=by omega
    have e5:x / 16<16:=by omega
    have e6:0≤x % 16:=by omega
    have e7:x % 16<16:=by omega
    have h':x<32∨126<x:=by omega
    clear h
    rcases h' with h | h
    ·have d8:decide (32≤x)=false:=by simp;omega
     clear h
     go_wp2_with (go_at_call 57;refine (bld_string w.heap.size w.heap.size L ⟨#[92,120]⟩ _ hI (by show L.length+2≤_;omega) (by omega)).mono ?_)
     rintro e W1 ⟨rfl,h2,b2,_⟩
     have hz2:=b2.size
     have l2:(L ++ Lib.strCells ⟨#[92,120]⟩).length=L.length+2:=by rw [List.length_append];rfl
     go_wp2_with (go_at_call 156;refine (bld_byte w.heap.size w.heap.size (L ++ Lib.strCells ⟨#[92,120]⟩) (nibN (x / 16)) _ (isB_k h2) (by omega) (by omega)).mono ?_)
     rintro e W2 ⟨rfl,h3,b3,_⟩
     have hz3:=b3.size
     go_wp2_with (go_at_call 156;refine (bld_byte w.heap.size w.heap.size (L ++ Lib.strCells ⟨#[92,120]⟩ ++ [.int .u8 (nibN (x / 16))]) (nibN (x % 16)) _ (isB_k h3) (by simp only [List.length_append,List.length_cons,List.length_nil] at l2 ⊢;omega) (by omega)).mono ?_)
     rintro e W3 ⟨rfl,h4,b4,_⟩
     go_wp2
     go_roundw
     case rel =>
      refine ⟨k+1,by omega,by go_num,?_,hb.trans (b2.trans (b3.trans b4))⟩
      rw [HS.out,HB.out]
      have:=isB_k h4
      rw [List.append_assoc,List.append_assoc] at this
      exact this
     case measure=>simp [intOf];omega
    ·have d8:decide (32≤x)=true:=by simp;omega
     have d9:decide (x≤126)=false:=by simp;omega
     clear h
     go_wp2_with (go_at_call 57;refine (bld_string w.heap.size w.heap.size L ⟨#[92,120]⟩ _ hI (by show L.length+2≤_;omega) (by omega)).mono ?_)
     rintro e W1 ⟨rfl,h2,b2,_⟩
     have hz2:=b2.size
     have l2:(L ++ Lib.strCells ⟨#[92,120]⟩).length=L.length+2:=by rw [List.length_append];rfl
     go_wp2_with (go_at_call 156;refine (bld_byte w.heap.size w.heap.size (L ++ Lib.strCells ⟨#[92,120]⟩) (nibN (x / 16)) _ (isB_k h2) (by omega) (by omega)).mono ?_)
     rintro e W2 ⟨rfl,h3,b3,_⟩
     have hz3:=b3.size
     go_wp2_with (go_at_call 156;refine (bld_byte w.heap.size w.heap.size (L ++ Lib.strCells ⟨#[92,120]⟩ ++ [.int .u8 (nibN (x / 16))]) (nibN (x % 16)) _ (isB_k h3) (by simp only [List.length_append,List.length_cons,List.length_nil] at l2 ⊢;omega) (by omega)).mono ?_)
     rintro e W3 ⟨rfl,h4,b4,_⟩
     go_wp2
     go_roundw
     case rel =>
      refine ⟨k+1,by omega,by go_num,?_,hb.trans (b2.trans (b3.trans b4))⟩
      rw [HS.out,HB.out]
      have:=isB_k h4
      rw [List.append_assoc,List.append_assoc] at this
      exact this
     case measure=>simp [intOf];omega
  ·obtain rfl:k=n:=by omega
   have HT:=hide_ (show xs.take k=xs by rw [← HLA.out];exact List.take_length)
   rw [HT.out] at hI hlen
   have hLl:(u8s (showM xs)).length≤4 * k+1:=by simpa using hlen
   have hcell:=b8s_cells (showL xs) (showL_byte xs hx)
   go_wp2_with (go_at_call 156;refine (bld_byte w.heap.size w.heap.size (u8s (showM xs)) 34 _ hI (by omega) (by omega)).mono ?_)
   rintro e W1 ⟨rfl,h2,b2,_⟩
   have hz2:=b2.size
   go_wp2_with (go_at_call 59;refine (Tryz.Builder_String_any_k w.heap.size w.heap.size (b8s (showL xs)) _ (by rw [← hcell];have:=isB_k h2;simpa [showL,u8s] using this) (by omega)).mono ?_)
   rintro e W2 ⟨rfl,_,b3,_⟩
   go_wp2
   go_ret
   exact ⟨rfl,hb.trans (b2.trans b3)⟩
end Go.Proofs.YtikbegmodacopaaGreatDoor
