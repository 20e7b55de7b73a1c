/-
  Joined and packed by program.
-/
import Derived.Test.YtikbegmodacopaaGreatDoorC19
import Derived.Test.YtikbegmodacopaaGreatDoorC18
import Derived.Deep.LoopGhost
namespace Go.Proofs.YtikbegmodacopaaGreatDoor
open Go.RowKit Go.PlainAid Go.BigFrame
set_option linter.unusedSimpArgs false
set_option linter.unusedVariables false
set_option maxRecDepth 100000
def PrS (B g:Nat) (o:PO) (RL:List LabV) (RF:List FixV) (T:ByteArray) (w:World):Prop :=
 ∃ p aL cL aF cF,PrIs g p∧PrAt B g p o (.slice aL RL.length cL) (.slice aF RF.length cF) T w∧Reads w B 4 aL RL.length (RL.flatMap lE)∧RL.length≤cL∧Reads w B 4 aF RF.length (RF.flatMap fE)∧RF.length≤cF
structure PrM (B g:Nat) (w w':World):Prop where
 bel:Below B w w'
 kept:Lib.OthersKept 5 (some g) w w'
theorem PrIs.self (g:Nat):PrIs g (selfP g):=.inr rfl
section
variable {B g:Nat} {o:PO} {RL:List LabV} {RF:List FixV} {T:ByteArray} {w w' w'':World}
theorem PrM.refl (B g:Nat) (w:World):PrM B g w w:=⟨Below.refl _ _,Lib.OthersKept.refl _ _ _⟩
theorem PrM.trans (h:PrM B g w w') (k:PrM B g w' w''):PrM B g w w'':=⟨h.bel.trans k.bel,h.kept.trans k.kept⟩
theorem PrM.of_below (hB:B≤w.heap.size) (h:Below w.heap.size w w'):PrM B g w w':=⟨h.mono hB,fun k x hk _ _=>(h.block k (Array.getElem?_eq_some_iff.1 hk).1).trans hk⟩
theorem PrM.alloc (hB:B≤w.heap.size) (x:Obj):PrM B g w (w.alloc x):=PrM.of_below hB ((Below.refl _ _).alloc (Nat.le_refl _) x)
theorem PrM.setOwn (hB:B≤g) (i:Nat) (u:Value):PrM B g w (w.setCell ⟨g,i,none⟩ u):=⟨(Below.refl B w).setCell (p:=⟨g,i,none⟩) hB _,(Lib.OthersKept.refl _ _ w).setCell ⟨g,i,none⟩ rfl _⟩
theorem PrM.blk {m:Nat} {t:TypeId} {cs:Array Value} (h:PrM B g w w') (hm:w.heap[m]?=some (.cells cs t (0,0))) (hg:m≠g) (ht:t≠5):w'.heap[m]?=some (.cells cs t (0,0)) :=
 h.kept m _ hm (fun e=>hg (by injection e)) (fun c fz e=>ht (by injection e))
theorem PrS.lt (h:PrS B g o RL RF T w):g<w.heap.size:=by obtain ⟨_,_,_,_,_,_,h,_⟩:=h;exact h.lt
theorem PrS.base (h:PrS B g o RL RF T w):B≤g:=by obtain ⟨_,_,_,_,_,_,h,_⟩:=h;exact h.base
theorem PrS.low (h:PrS B g o RL RF T w):B≤w.heap.size:=Nat.le_trans h.base (Nat.le_of_lt h.lt)
theorem PrS.below (h:PrS B g o RL RF T w) (hb:Below w.heap.size w w'):PrS B g o RL RF T w':=by
 have hl:=h.low
 obtain ⟨p,aL,cL,aF,cF,h0,h1,h2,h3,h4,h5⟩:=h
 exact ⟨p,aL,cL,aF,cF,h0,h1.below hb,h2.below (hb.mono hl),h3,h4.below (hb.mono hl),h5⟩
theorem PrS.alloc (h:PrS B g o RL RF T w) (x:Obj):PrS B g o RL RF T (w.alloc x):=h.below ((Below.refl _ _).alloc (Nat.le_refl _) x)
theorem PrS.ne_blk {m:Nat} {t:TypeId} {cs:Array Value} (h:PrS B g o RL RF T w) (hm:w.heap[m]?=some (.cells cs t (0,0))) (ht:t≠133):m≠g:=by
 rintro rfl
 obtain ⟨_,_,_,_,_,_,h,_⟩:=h
 obtain ⟨_,v,hb,_⟩:=h
 rw [hm] at hb
 injection hb with hb
 injection hb with _ e _
 exact ht e
end
set_option maxHeartbeats 4000000 in
theorem line_any (B g m:Nat) (o:PO) (RL:List LabV) (RF:List FixV) (T:ByteArray) (ps:List ByteArray) (n:Nat) (w:World) (h:PrS B g o RL RF T w) (hm:w.heap[m]?=some (.cells (ps.map Value.string).toArray 9 (0,0))) (hn:ps.length=n) (hn2:n≤8)
  (hz:T.size+(cat ps).size+1≤140737488355328) :
  Calls Tryz.prog 112 #[.pointer (some ⟨g,0,none⟩),.slice (some ⟨m,0,none⟩) n n] w fun e w'=>e=.returned (.tuple #[])∧PrS B g o RL RF (T ++ (cat ps ++ ⟨#[10]⟩)) w'∧PrM B g w w':=by
 have HM:=hide_ hm
 have HMG:=hide_ (h.ne_blk hm (by decide))
 have HLB:=hide_ h.low
 have HS0:=hide_ (show PrS B g o RL RF (T ++ cat (ps.take 0)) w from by rw [List.take_zero,cat,ba_nil];exact h)
 have HZ:=hide_ hz
 have HN:=hide_ hn
 have hmlt:m<w.heap.size:=(Array.getElem?_eq_some_iff.1 hm).1
 clear h hm hz hn
 go_enter Tryz.func112,Tryz.ntmps112
 go_wp2
 go_loopw [8] (fun i wr=>∃ k:Nat,k≤n∧i=.int .i64 k∧Hid (PrS B g o RL RF (T ++ cat (ps.take k)) wr)∧Hid (PrM B g w wr)) (fun i _=>n - (intOf i).toNat)
 case atStart=>exact ⟨0,Nat.zero_le _,rfl,HS0,hide_ (PrM.refl _ _ _)⟩
 case round =>
  clear HS0
  obtain ⟨k,hk,rfl,HS,HP⟩:=hrel
  have HBL:=hide_ (HP.out.blk HM.out HMG.out (by decide))
  by_cases hlt:k<n
  ·obtain ⟨s,hs⟩:∃ s,ps[k]?=some s:=⟨_,List.getElem?_eq_getElem (by have:=HN.out;omega)⟩
   have hc:wr.cell? ⟨m,k,none⟩=some (.string s):=by rw [cell_of_row wr m k _ _ _ HBL.out];simp [hs]
   have hml:m<wr.heap.size:=(Array.getElem?_eq_some_iff.1 HBL.out).1
   have HT:=hide_ (show cat (ps.take (k+1))=cat (ps.take k) ++ s by rw [List.take_add_one,hs,Option.toList_some,cat_snoc])
   have HQ:=hide_ (show (T ++ cat (ps.take k)).size+s.size≤140737488355328 by
    have h1:=HT.out
    have h2:cat ps=cat (ps.take (k+1)) ++ cat (ps.drop (k+1)):=by rw [← cat_app,List.take_append_drop]
    have h3:=HZ.out
    have h4:=congrArg ByteArray.size h2
    rw [h1,ba_size,ba_size] at h4
    rw [ba_size]
    omega)
   obtain ⟨p,aL,cL,aF,cF,hp,hA,hR1,hc1,hR2,hc2⟩:=HS.out
   have HA:=hide_ hA
   have HRR:=hide_ (And.intro hR1 (And.intro hc1 (And.intro hR2 hc2)))
   have HLW:=hide_ HS.out.low
   clear hA hR1 hc1 hR2 hc2 hs
   go_wp2_with fail
   refine (pr_string B g p o _ _ _ s wr hp HA.out HQ.out HLW.out).mono ?_
   rintro e w2 ⟨rfl,h2,hb2,hk2⟩
   have HS2:=hide_ (show PrS B g o RL RF (T ++ cat (ps.take (k+1))) w2 from ⟨selfP g,aL,cL,aF,cF,PrIs.self g,by rw [HT.out,← ba_assoc];exact h2,HRR.out.1.below hb2,HRR.out.2.1,HRR.out.2.2.1.below hb2,HRR.out.2.2.2⟩)
   have HP2:=hide_ (HP.out.trans ⟨hb2,hk2⟩)
   clear h2 hb2 hk2 hc hml hp
   go_wp2
   go_roundw
   case rel=>exact ⟨k+1,by omega,by go_num,HS2,HP2⟩
   case measure=>simp [intOf];omega
  ·obtain rfl:k=n:=by omega
   have HS3:=hide_ (show PrS B g o RL RF (T ++ cat ps) wr by
    have h:=HS.out
    rw [List.take_of_length_le (by have:=HN.out;omega)] at h
    exact h)
   obtain ⟨p,aL,cL,aF,cF,hp,hA,hR1,hc1,hR2,hc2⟩:=HS3.out
   have HA:=hide_ hA
   have HRR:=hide_ (And.intro hR1 (And.intro hc1 (And.intro hR2 hc2)))
   have HLW:=hide_ HS.out.low
   have HQ:=hide_ (show (T ++ cat ps).size+1≤140737488355328 by rw [ba_size];exact HZ.out)
   clear hA hR1 hc1 hR2 hc2
   go_wp2_with fail
   refine (pr_byte B g p o _ _ _ wr hp HA.out HQ.out HLW.out).mono ?_
   rintro e w2 ⟨rfl,h2,hb2,hk2⟩
   have HS2:=hide_ (show PrS B g o RL RF (T ++ (cat ps ++ ⟨#[10]⟩)) w2 from ⟨selfP g,aL,cL,aF,cF,PrIs.self g,by rw [← ba_assoc];exact h2,HRR.out.1.below hb2,HRR.out.2.1,HRR.out.2.2.1.below hb2,HRR.out.2.2.2⟩)
   have HP2:=hide_ (HP.out.trans ⟨hb2,hk2⟩)
   clear h2 hb2 hk2 hp
   go_wp2
   go_end0
   exact ⟨rfl,HS2.out,HP2.out⟩
theorem head_cells {α:Type} {enc:α→List Value} {K:Nat} (hK:∀ a,(enc a).length=K) (hp:0<K) {W:World} {B:Nat} {A:Option Addr} {a:α} {l:List α} (hr:Reads W B K A (l.length+1) ((a :: l).flatMap enc)) :
  ∃ ad,A=some ad∧ad.block<B∧(∀ u,(enc a)[0]?=some u→W.cell? ad=some u)∧∀ j u,0<j→(enc a)[j]?=some u→W.cell? ⟨ad.block,ad.off+j,none⟩=some u:=by
 obtain ⟨_,ad,rfl,hb,h0,h1⟩:=el_cells hK hr hp (k:=0) rfl
 have e:ad.add (0 * K)=ad:=by rw [Nat.zero_mul];rfl
 rw [e] at hb h0 h1
 exact ⟨ad,rfl,hb,h0,h1⟩
theorem tail_reads {α:Type} {enc:α→List Value} {K:Nat} (hK:∀ a,(enc a).length=K) {W:World} {B c:Nat} {A:Option Addr} {a:α} {l:List α} (hr:Reads W B K A (l.length+1) ((a :: l).flatMap enc)) (hc:l.length+1≤c) :
  Reads W B K (if c=1 then A else A.map (·.add (1 * K))) l.length (l.flatMap enc):=by
 have h:=hr.cut (k:=1) (cap:=c) (by omega) hc
 rw [show l.length+1 - 1=l.length by omega] at h
 rw [List.flatMap_cons,Nat.one_mul,List.drop_left' (hK a)] at h
 rw [Nat.one_mul]
 exact h
def AtPost (B g:Nat) (o:PO) (RL:List LabV) (RF:List FixV) (T:ByteArray) (sec pl:Int) (w w':World):Prop :=
 ∃ RL',PrS B g o RL' RF (T ++ atL RL sec pl) w'∧(∀ L,LeftL L RL sec pl→LeftL L RL' sec (pl+1))∧PrM B g w w'
set_option maxHeartbeats 8000000 in
theorem pat_any (B g:Nat) (o:PO) (RL:List LabV) (RF:List FixV) (T:ByteArray) (sec pl:Int) (w:World) (h:PrS B g o RL RF T w) (hs1:RL.Pairwise leL) (hs2:∀ r ∈ RL,¬ befL sec pl r) (hz:T.size+(atL RL sec pl).size≤140737488351232) :
  Calls Tryz.prog 113 #[.pointer (some ⟨g,0,none⟩),.int .u8 sec,.int .u32 pl] w fun e w'=>e=.returned (.tuple #[])∧AtPost B g o RL RF T sec pl w w':=by
 have HS0:=hide_ h
 have HSO:=hide_ (And.intro hs1 hs2)
 have HLB:=hide_ h.low
 have HBG:=hide_ h.base
 obtain ⟨TT,hTT⟩:∃ t,t=T ++ atL RL sec pl:=⟨_,rfl⟩
 have HZ:=hide_ (show TT.size≤140737488351232 by rw [hTT,ba_size];exact hz)
 have HTT:=hide_ hTT.symm
 clear h hs1 hs2 hz hTT
 go_enter Tryz.func113,Tryz.ntmps113
 go_wp2
 go_loopg [] RL.length (fun k wr=>∃ (R:List LabV) (S:ByteArray),k=R.length∧Hid (PrS B g o R RF S wr)∧Hid (S ++ atL R sec pl=TT)∧Hid (∀ L,LeftL L RL sec pl→AtL L R sec pl)∧Hid (R.Pairwise leL∧∀ r ∈ R,¬ befL sec pl r)∧Hid (PrM B g w wr))
 case atStart=>exact ⟨RL,T,rfl,HS0,HTT,hide_ (fun L hL=>hL.at_),HSO,hide_ (PrM.refl _ _ _)⟩
 case round =>
  clear HS0 HSO
  obtain ⟨R,S,hgk,HS,HT,HL,HSO,HP⟩:=hrel
  obtain ⟨p,aL,cL,aF,cF,hp,hA,hR1,hc1,hR2,hc2⟩:=HS.out
  have q6:=hA.c6
  have hgl:=hA.lt
  have HA:=hide_ hA
  have HRR:=hide_ (And.intro hR2 hc2)
  have HFIN:(∀ l,R.head?=some l→labAt sec pl l=false)→S=TT→AtPost B g o RL RF T sec pl w wr:=fun h1 h2=>⟨R,by rw [HTT.out,← h2];exact HS.out,fun L hL=>(HL.out L hL).done h1,HP.out⟩
  have HFN:=hide_ HFIN
  clear HFIN hA hR2 hc2
  cases R with
  | nil =>
   have HE:=hide_ (HFN.out (fun l h=>by cases h) (by have h:=HT.out;rw [atL_nil,ba_nil] at h;exact h))
   simp only [List.length_nil] at q6
   go_wp2
   go_end0
   exact ⟨rfl,HE.out⟩
  | cons l R' =>
   obtain ⟨nm,lsec,lpl,lop⟩:=l
   obtain ⟨ad,rfl,hbk,p0,p1⟩:=head_cells lE_len (by omega) hR1
   have HTR:=hide_ (tail_reads lE_len hR1 hc1)
   have x0:=p0 _ rfl
   have x1:=p1 1 _ (by omega) rfl
   have x2:=p1 2 _ (by omega) rfl
   simp only at x0 x1 x2
   simp only [List.length_cons] at q6 hc1
   obtain ⟨rl,hrl⟩:∃ n,n=R'.length:=⟨_,rfl⟩
   rw [← hrl] at q6 hc1
   have HRL:=hide_ hrl.symm
   have i0:(0:Int)<(rl:Int)+1:=by omega
   have hbs:ad.block<wr.heap.size:=by have:=HS.out.low;omega
   clear p0 p1 hR1 hrl
   by_cases h1:lsec=sec
   ·by_cases h2:lpl=pl
    ·have e1:(lsec == sec)=true:=by simpa using h1
     have e2:(lpl == pl)=true:=by simpa using h2
     have hlab:labAt sec pl ⟨nm,lsec,lpl,lop⟩=true:=by simp [labAt,h1,h2]
     have hT:=HT.out
     rw [atL_take hlab,labLn] at hT
     dsimp only at hT
     have HT2:=hide_ (show (S ++ (cat [nm,⟨#[58]⟩] ++ ⟨#[10]⟩)) ++ atL R' sec pl=TT by
      rw [← hT,show cat [nm,⟨#[58]⟩] ++ ⟨#[10]⟩=nm ++ ⟨#[58,10]⟩ from by
       show nm ++ (⟨#[58]⟩ ++ e0B) ++ ⟨#[10]⟩=_
       rw [ba_assoc]
       rfl,ba_assoc])
     have HQ:=hide_ (show S.size+(cat [nm,⟨#[58]⟩]).size+1≤140737488355328 by
      have h4:=congrArg ByteArray.size HT2.out
      rw [ba_size,ba_size,ba_size] at h4
      have:(⟨#[10]⟩:ByteArray).size=1:=rfl
      have:=HZ.out
      omega)
     have HLN:=hide_ (fun W=>line_any B g wr.heap.size o (⟨nm,lsec,lpl,lop⟩ :: R') RF S [nm,⟨#[58]⟩] 2 W)
     have HAT:=hide_ (fun L hL=>(HL.out L hL).take hlab)
     have HS4:=hide_ (HS.out.alloc (.cells #[.string nm,.string ⟨#[58]⟩] 9))
     have HB4:=hide_ (heap_alloc_new wr (.cells #[.string nm,.string ⟨#[58]⟩] 9))
     clear hT hlab h1 h2
     go_wp2_with fail
     refine (HLN.out _ HS4.out HB4.out rfl (by decide) HQ.out).mono ?_
     rintro e w5 ⟨rfl,hS5,hM5⟩
     have HP5:=hide_ ((PrM.alloc HS.out.low _).trans hM5)
     obtain ⟨p,aL,cL',aF,cF,hp,hA,hR1,hc1',hR2,hc2⟩:=hS5
     have q6:=hA.c6
     have hfz:=hA.frozen 6
     have hgl:=hA.lt
     clear hM5
     obtain ⟨ad5,rfl,hbk5,_,_⟩:=head_cells lE_len (by omega) hR1
     have HTR5:=hide_ (tail_reads lE_len hR1 hc1')
     have HA5:=hide_ hA
     have HRR5:=hide_ (And.intro hR2 hc2)
     simp only [List.length_cons] at q6 hc1'
     rw [HRL.out] at q6 hc1'
     have c1:1≤cL':=by omega
     have c2:1≤rl+1:=by omega
     have HPI:=hide_ hp
     clear hR1 hR2 hc2 hA hbk5 x0 x1 x2 hp
     by_cases hcq:cL'=1
     ·have HQ1:=hide_ hcq
      have HTR6:=hide_ (show Reads w5 B 4 (some ad5) R'.length (R'.flatMap lE) by have h:=HTR5.out;rw [if_pos HQ1.out] at h;exact h)
      go_wp2
      have HM6:=hide_ (PrM.setOwn (w:=w5) HBG.out 6 (.slice (some ad5) rl 0))
      go_roundg rl
      case measure=>have:=HRL.out;simp only [List.length_cons] at hgk;omega
      case rel =>
       refine ⟨R',_,HRL.out.symm,hide_ ⟨p,some ad5,0,aF,cF,HPI.out,?_,HTR6.out.below HM6.out.bel,?_,HRR5.out.1.below HM6.out.bel,HRR5.out.2⟩,HT2,HAT,hide_ ⟨(List.pairwise_cons.1 HSO.out.1).2,fun r hr=>HSO.out.2 r (by simp [hr])⟩,hide_ (HP.out.trans (HP5.out.trans HM6.out))⟩
       ·rw [HRL.out];exact HA5.out.setL _
       ·have:=HRL.out;have:=HQ1.out;omega
     ·have HQ1:=hide_ hcq
      have HTR6:=hide_ (show Reads w5 B 4 (some ⟨ad5.block,ad5.off+4,none⟩) R'.length (R'.flatMap lE) by have h:=HTR5.out;rw [if_neg HQ1.out] at h;exact h)
      go_wp2
      have HM6:=hide_ (PrM.setOwn (w:=w5) HBG.out 6 (.slice (some ⟨ad5.block,ad5.off+4,none⟩) rl (cL' - 1)))
      go_roundg rl
      case measure=>have:=HRL.out;simp only [List.length_cons] at hgk;omega
      case rel =>
       refine ⟨R',_,HRL.out.symm,hide_ ⟨p,some ⟨ad5.block,ad5.off+4,none⟩,cL' - 1,aF,cF,HPI.out,?_,HTR6.out.below HM6.out.bel,?_,HRR5.out.1.below HM6.out.bel,HRR5.out.2⟩,HT2,HAT,hide_ ⟨(List.pairwise_cons.1 HSO.out.1).2,fun r hr=>HSO.out.2 r (by simp [hr])⟩,hide_ (HP.out.trans (HP5.out.trans HM6.out))⟩
       ·rw [HRL.out];exact HA5.out.setL _
       ·have:=HRL.out;have:=HQ1.out;omega
    ·have e1:(lsec == sec)=true:=by simpa using h1
     have e2:(lpl == pl)=false:=by simpa using h2
     have hlab:labAt sec pl ⟨nm,lsec,lpl,lop⟩=false:=by simp [labAt,h2]
     have HE:=hide_ (HFN.out (fun l h=>by cases h;exact hlab) (by have h:=HT.out;rw [atL_stop HSO.out.1 (HSO.out.2 _ (by simp)) hlab,ba_nil] at h;exact h))
     clear hlab h2 h1
     go_wp2
     go_end0
     exact ⟨rfl,HE.out⟩
   ·have e1:(lsec == sec)=false:=by simpa using h1
    have hlab:labAt sec pl ⟨nm,lsec,lpl,lop⟩=false:=by simp [labAt,h1]
    have HE:=hide_ (HFN.out (fun l h=>by cases h;exact hlab) (by have h:=HT.out;rw [atL_stop HSO.out.1 (HSO.out.2 _ (by simp)) hlab,ba_nil] at h;exact h))
    clear hlab h1
    go_wp2
    go_end0
    exact ⟨rfl,HE.out⟩
end Go.Proofs.YtikbegmodacopaaGreatDoor
namespace Go.Proofs.YtikbegmodacopaaGreatDoor
open Go.RowKit Go.PlainAid
set_option linter.unusedSimpArgs false
set_option linter.unusedVariables false
set_option maxRecDepth 100000
theorem pairwise_step {α:Type} {R:α→α→Prop} (htr:∀ a b c,R a b→R b c→R a c):∀ (l:List α),(∀ k a b,l[k]?=some a→l[k+1]?=some b→R a b)→l.Pairwise R
 | [],_=>List.Pairwise.nil
 | [a],_=>List.pairwise_singleton _ _
 | a :: b :: l,h=>by
  have ih:=pairwise_step htr (b :: l) (fun k x y hx hy=>h (k+1) x y (by simpa using hx) (by simpa using hy))
  refine List.pairwise_cons.2 ⟨fun c hc=>?_,ih⟩
  have hab:=h 0 a b rfl rfl
  rcases List.mem_cons.1 hc with rfl | hc
  ·exact hab
  ·exact htr a b c hab ((List.pairwise_cons.1 ih).1 c hc)
theorem leL_trans (a b c:LabV) (h1:leL a b) (h2:leL b c):leL a c:=by unfold leL at *;omega
theorem ltF_trans (a b c:FixV) (h1:ltF a b) (h2:ltF b c):ltF a c:=by unfold ltF at *;omega
theorem okB_parts {x:ObjV} (h:okB x=true):boundB x=true∧labsB x=true∧fixesB x=true∧tgtsB x=true∧entsB x=true∧codeB x=true:=by
 unfold okB at h
 simp only [Bool.and_eq_true] at h
 exact ⟨h.1.1.1.1,h.1.1.1.2,h.1.1.2,h.1.2.1,h.1.2.2,h.2⟩
theorem okB_lab {x:ObjV} (h:okB x=true) {k:Nat} {t:LabV} (ht:x.labels[k]?=some t):labOk x k=true :=
 List.all_eq_true.1 (okB_parts h).2.1 k (List.mem_range.2 (List.getElem?_eq_some_iff.1 ht).1)
theorem okB_fix {x:ObjV} (h:okB x=true) {k:Nat} {t:FixV} (ht:x.fixes[k]?=some t):fixOk x k=true :=
 List.all_eq_true.1 (okB_parts h).2.2.1 k (List.mem_range.2 (List.getElem?_eq_some_iff.1 ht).1)
theorem lab_facts {x:ObjV} (h:okB x=true) {t:LabV} (ht:t ∈ x.labels):nameB t.name=true∧1≤t.sec∧t.sec≤3∧t.at_≤lenOf x t.sec:=by
 obtain ⟨k,hk,rfl⟩:=List.getElem_of_mem ht
 have h1:=okB_lab h (List.getElem?_eq_getElem hk)
 unfold labOk at h1
 rw [List.getElem?_eq_getElem hk] at h1
 simp only [Bool.and_eq_true,Bool.not_eq_true',decide_eq_false_iff_not] at h1
 exact ⟨h1.1.1.1.1.1,by omega,by omega,by omega⟩
theorem labs_rise {x:ObjV} (h:okB x=true):x.labels.Pairwise leL:=by
 refine pairwise_step leL_trans _ (fun k a b ha hb=>?_)
 have h1:=okB_lab h hb
 unfold labOk at h1
 rw [hb] at h1
 simp only [ha,Bool.and_eq_true,Bool.not_eq_true',decide_eq_false_iff_not,Bool.or_eq_false_iff,Bool.and_eq_false_iff] at h1
 have h2:=h1.2
 unfold leL
 omega
theorem fix_facts {x:ObjV} (h:okB x=true) {f:FixV} (hf:f ∈ x.fixes):nameB f.name=true∧blankB x f=true∧withinB x f=false:=by
 obtain ⟨k,hk,rfl⟩:=List.getElem_of_mem hf
 have h1:=okB_fix h (List.getElem?_eq_getElem hk)
 unfold fixOk at h1
 rw [List.getElem?_eq_getElem hk] at h1
 simp only [Bool.and_eq_true] at h1
 have h2:=h1.1
 unfold fixOk1 at h2
 simp only [Bool.and_eq_true,Bool.not_eq_true'] at h2
 exact ⟨h2.1.1,h2.1.2,h2.2⟩
theorem fixes_rise {x:ObjV} (h:okB x=true):x.fixes.Pairwise ltF:=by
 refine pairwise_step ltF_trans _ (fun k a b ha hb=>?_)
 have h1:=okB_fix h hb
 unfold fixOk at h1
 rw [hb] at h1
 simp only [ha,Bool.and_eq_true,Bool.not_eq_true'] at h1
 have h2:=h1.2
 unfold fixBad at h2
 simp only [Bool.or_eq_false_iff,Bool.and_eq_false_iff,decide_eq_false_iff_not] at h2
 unfold ltF
 omega
theorem fix_place {x:ObjV} (h:okB x=true) {f:FixV} (hf:f ∈ x.fixes):(f.sec=1∧∃ t,x.code[f.at_.toNat]?=some t∧0<(opR t.1).width)∨(f.sec=2∧f.at_+4≤x.data.length):=by
 have h1:=(fix_facts h hf).2.1
 unfold blankB at h1
 split at h1
 ·rename_i hs
  left
  refine ⟨hs,?_⟩
  split at h1
  ·rename_i t ht
   simp only [Bool.and_eq_true,decide_eq_true_eq] at h1
   exact ⟨t,ht,h1.1⟩
  ·cases h1
 ·split at h1
  ·rename_i hs
   simp only [Bool.and_eq_true,decide_eq_true_eq] at h1
   exact .inr ⟨hs,h1.1⟩
  ·cases h1
theorem fix_apart {x:ObjV} (h:okB x=true) {f:FixV} (hf:f ∈ x.fixes) (h2:f.sec=2) {l:LabV} (hl:l ∈ x.labels) (hs:l.sec=2):l.at_≤f.at_∨f.at_+4≤l.at_:=by
 have h1:=(fix_facts h hf).2.2
 unfold withinB at h1
 rw [List.any_eq_false] at h1
 have h3:=h1 l hl
 unfold inFix at h3
 rw [h2,hs] at h3
 simp at h3
 omega
theorem name_ne:nameB e0B=false:=by decide +kernel
theorem name_some {s:ByteArray} (h:nameB s=true):s≠e0B:=by
 rintro rfl
 rw [name_ne] at h
 cases h
theorem fixTx_ne {f:FixV} (h:f.name≠e0B):fixTx f≠e0B:=by
 intro e
 have h1:=ba_ne h
 unfold fixTx at e
 have h2:=congrArg ByteArray.size e
 split at h2
 ·rw [show e0B.size=0 from rfl] at h2;omega
 ·rw [ba_size,ba_size,show e0B.size=0 from rfl] at h2;omega
theorem LeftL.next {L R:List LabV} {s p:Int} (h:LeftL L R s p) (hs:∀ l ∈ L,l.sec=s→l.at_<p) (h0:∀ l ∈ L,0≤l.at_):LeftL L R (s+1) 0:=by
 obtain ⟨D,hD,hb⟩:=h.all_
 refine ⟨⟨D,hD,fun d hd=>?_⟩,fun r hr=>?_,h.rise⟩
 ·have:=hb d hd;unfold befL at *;omega
 ·have h1:=h.rest r hr
  have h2:=hs r (by rw [hD];simp [hr])
  have h3:=h0 r (by rw [hD];simp [hr])
  unfold befL at *
  omega
theorem LeftF.next {L R:List FixV} {s p:Int} (h:LeftF L R s p) (hs:∀ l ∈ L,l.sec=s→l.at_<p) (h0:∀ l ∈ L,0≤l.at_):LeftF L R (s+1) 0:=by
 obtain ⟨D,hD,hb⟩:=h.all_
 refine ⟨⟨D,hD,fun d hd=>?_⟩,fun r hr=>?_,h.rise⟩
 ·have:=hb d hd;unfold befF at *;omega
 ·have h1:=h.rest r hr
  have h2:=hs r (by rw [hD];simp [hr])
  have h3:=h0 r (by rw [hD];simp [hr])
  unfold befF at *
  omega
theorem LeftL.mem {L R:List LabV} {s p:Int} (h:LeftL L R s p) {r:LabV} (hr:r ∈ R):r ∈ L:=by obtain ⟨D,hD,_⟩:=h.all_;rw [hD];simp [hr]
theorem LeftF.mem {L R:List FixV} {s p:Int} (h:LeftF L R s p) {r:FixV} (hr:r ∈ R):r ∈ L:=by obtain ⟨D,hD,_⟩:=h.all_;rw [hD];simp [hr]
theorem LeftL.start {x:ObjV} (h:okB x=true) (hx:ObjOk x):LeftL x.labels x.labels 1 0 :=
 ⟨⟨[],rfl,fun d hd=>by cases hd⟩,fun r hr=>by have h1:=(lab_facts h hr).2.1;have h2:=(hx.labels r hr).2.2.1;unfold befL;omega,labs_rise h⟩
theorem LeftF.start {x:ObjV} (h:okB x=true) (hx:ObjOk x):LeftF x.fixes x.fixes 1 0 :=
 ⟨⟨[],rfl,fun d hd=>by cases hd⟩,fun r hr=>by have h1:=fix_place h hr;have h2:=(hx.fixes r hr).2.2.1.1;unfold befF;omega,fixes_rise h⟩
def hasHd:List LabV→Int→Bool
 | [],_=>false
 | l :: _,s=>decide (l.sec=s)
theorem hasB_eq {L R:List LabV} {s:Int} (h:LeftL L R s 0) (h0:∀ l ∈ L,0≤l.at_):hasL L s=hasHd R s:=by
 obtain ⟨D,hD,hb⟩:=h.all_
 have h1:∀ d ∈ D,decide (d.sec=s)=false:=fun d hd=>decide_eq_false (by
  have:=hb d hd
  have:=h0 d (by rw [hD];simp [hd])
  unfold befL at *
  omega)
 subst hD
 unfold hasL
 rw [List.any_append,List.any_eq_false.2 (fun d hd=>by rw [h1 d hd];simp),Bool.false_or]
 cases R with
 | nil=>rfl
 | cons l R =>
  rw [List.any_cons]
  by_cases hl:l.sec=s
  ·rw [hasHd,decide_eq_true hl,Bool.true_or]
  ·rw [hasHd,decide_eq_false hl,Bool.false_or]
   rw [List.any_eq_false]
   intro r hr
   have h2:=(List.pairwise_cons.1 h.rise).1 r hr
   have h3:=h.rest l (by simp)
   have h4:=h.rest r (by simp [hr])
   unfold leL at h2
   unfold befL at h3 h4
   simp only [decide_eq_true_eq]
   omega
end Go.Proofs.YtikbegmodacopaaGreatDoor
