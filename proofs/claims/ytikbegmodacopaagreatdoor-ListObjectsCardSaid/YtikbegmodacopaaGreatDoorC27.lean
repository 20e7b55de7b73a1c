/-
  Joined and packed by program.
-/
import Derived.Test.YtikbegmodacopaaGreatDoorC24
import Derived.Test.YtikbegmodacopaaGreatDoorC26
import Derived.Test.YtikbegmodacopaaGreatDoorC16
import Derived.Test.YtikbegmodacopaaGreatDoorC13
import Derived.Test.YtikbegmodacopaaGreatDoorC09
namespace Go.Proofs.YtikbegmodacopaaGreatDoor
open Go.RowKit Go.PlainAid Go.BigFrame
set_option linter.unusedSimpArgs false
set_option linter.unusedVariables false
set_option maxRecDepth 100000
end Go.Proofs.YtikbegmodacopaaGreatDoor
namespace Go.Proofs.YtikbegmodacopaaGreatDoor
open Go.RowKit Go.PlainAid Go.BigFrame
set_option linter.unusedSimpArgs false
set_option linter.unusedVariables false
set_option maxRecDepth 100000
def smpI:ImgV:=⟨[(3,8),(8,0),(8,1),(13,5),(6,1),(8,7),(4,8)],[5],[],4,64,[⟨⟨#[109,97,105,110]⟩,0⟩]⟩
def smpS (n:Nat):ImgS:=⟨⟨some ⟨n+1,0,none⟩,7⟩,⟨some ⟨n+1+1,0,none⟩,1⟩,⟨none,0⟩,⟨some ⟨n+1+1+1,0,none⟩,1⟩⟩
theorem smp_ok:ImgOk smpI:=by
 refine ⟨?_,?_,?_,?_,?_,?_,?_⟩ <;> (unfold smpI;simp <;> decide)
theorem cell_setRow {W:World} {q:Nat} {cs:Array Value} (p:Addr) (h:p.block≠q):(W.setRow q cs).cell? p=W.cell? p:=by
 have h1:=setRow_other W q p.block cs h
 unfold World.cell?
 rw [h1]
theorem reads_setRow {W:World} {B K n g q:Nat} {cs:Array Value} {xs:List Value} (h:Reads W B K (some ⟨g,0,none⟩) n xs) (hg:g≠q):Reads (W.setRow q cs) B K (some ⟨g,0,none⟩) n xs:=by
 refine ⟨h.1,fun hn=>?_⟩
 obtain ⟨ad,e,hb,hc⟩:=h.2 hn
 refine ⟨ad,e,hb,fun j u hu=>?_⟩
 injection e with e
 subst e
 have e1:(⟨g,0,none⟩:Addr).add j=⟨g,j,none⟩:=by unfold Addr.add;split <;> simp_all
 rw [← hc j u hu,e1]
 exact cell_setRow _ hg
set_option maxHeartbeats 4000000 in
theorem sample_any (w:World):Calls Tryz.prog 31 #[] w fun e w'=>∃ s,e=.returned (.agg (imgV smpI s))∧ImgR w' w'.heap.size smpI s∧Below w.heap.size w w':=by
 obtain ⟨w1,hw1⟩:∃ W,W=w.alloc (.cells z6 28):=⟨_,rfl⟩
 have hs1:w1.heap.size=w.heap.size+1:=by rw [hw1];simp
 have HB1:=hide_ (show Below w.heap.size w w1 by rw [hw1];exact (Below.refl _ _).alloc (Nat.le_refl _) _)
 have HK1:=hide_ (show Blk w1 w.heap.size 28 z6 by rw [hw1];exact Blk.new w _ _)
 obtain ⟨w2,hw2⟩:∃ W,W=w1.alloc (.cells #[.int .u8 3,.int .u32 8,.int .u8 8,.int .u32 0,.int .u8 8,.int .u32 1,.int .u8 13,.int .u32 5,.int .u8 6,.int .u32 1,.int .u8 8,.int .u32 7,.int .u8 4,.int .u32 8] 66):=⟨_,rfl⟩
 have hs2:w2.heap.size=w.heap.size+1+1:=by rw [hw2];simp [hs1]
 have HB2:=hide_ (show Below w1.heap.size w1 w2 by rw [hw2];exact (Below.refl _ _).alloc (Nat.le_refl _) _)
 have HR2:=hide_ (show Reads w2 w2.heap.size 2 (some ⟨w.heap.size+1,0,none⟩) 7 (smpI.code.flatMap cE) by
  have h:=reads_new w1 66 2 7 (smpI.code.flatMap cE) rfl
  rw [← hs1,hs2,← hs1,hw2]
  exact h)
 obtain ⟨w3,hw3⟩:∃ W,W=w2.alloc (.cells #[.int .u32 5] 25):=⟨_,rfl⟩
 have hs3:w3.heap.size=w.heap.size+1+1+1:=by rw [hw3];simp [hs2]
 have HB3:=hide_ (show Below w2.heap.size w2 w3 by rw [hw3];exact (Below.refl _ _).alloc (Nat.le_refl _) _)
 have HR3:=hide_ (show Reads w3 w3.heap.size 1 (some ⟨w.heap.size+1+1,0,none⟩) 1 (u32s smpI.jumps) by
  have h:=reads_new w2 25 1 1 (u32s smpI.jumps) rfl
  rw [← hs2,hs3,← hs2,hw3]
  exact h)
 obtain ⟨w4,hw4⟩:∃ W,W=w3.alloc (.cells #[.string ⟨#[109,97,105,110]⟩,.int .u32 0] 44):=⟨_,rfl⟩
 have hs4:w4.heap.size=w.heap.size+1+1+1+1:=by rw [hw4];simp [hs3]
 have HB4:=hide_ (show Below w3.heap.size w3 w4 by rw [hw4];exact (Below.refl _ _).alloc (Nat.le_refl _) _)
 have HR4:=hide_ (show Reads w4 w4.heap.size 2 (some ⟨w.heap.size+1+1+1,0,none⟩) 1 (smpI.names.flatMap xE) by
  have h:=reads_new w3 44 2 1 (smpI.names.flatMap xE) rfl
  rw [← hs3,hs4,← hs3,hw4]
  exact h)
 have RS:=hide_ (show Blk w4 w.heap.size 28 z6 by rw [hw4,hw3,hw2];exact ((HK1.out.alloc _).alloc _).alloc _)
 have FIN:=hide_ (show ∃ s,(Ending.returned (.agg (imgV smpI (smpS w.heap.size))))=.returned (.agg (imgV smpI s))∧ImgR (w4.setRow w.heap.size (imgV smpI (smpS w.heap.size))) (w4.setRow w.heap.size (imgV smpI (smpS w.heap.size))).heap.size smpI s∧Below w.heap.size w (w4.setRow w.heap.size (imgV smpI (smpS w.heap.size))) by
  have hr:=fun {K n:Nat} {g:Nat} {xs:List Value} (h:Reads w4 w4.heap.size K (some ⟨g,0,none⟩) n xs) (hg:g≠w.heap.size)=>reads_setRow h (cs:=imgV smpI (smpS w.heap.size)) hg
  have hz:(w4.setRow w.heap.size (imgV smpI (smpS w.heap.size))).heap.size=w4.heap.size:=size_setRow ..
  refine ⟨smpS w.heap.size,rfl,?_,?_⟩
  ·rw [hz]
   refine ⟨hr ((((HR2.out.below (HB3.out)).more (by omega)).below HB4.out).more (by omega)) (by omega),hr ((HR3.out.below HB4.out).more (by omega)) (by omega),⟨rfl,fun h=>absurd h (by decide)⟩,hr HR4.out (by omega),?_⟩
   unfold smpI smpS
   dsimp only
   decide
  ·exact below_setRow ((HB1.out.trans (HB2.out.mono (by omega))).trans ((HB3.out.mono (by omega)).trans (HB4.out.mono (by omega)))) (Nat.le_refl _) _)
 have OO:=hide_ (show (imgV smpI (smpS w.heap.size)).all (·.oneCell')=true by simp [imgV,Value.oneCell'])
 have HZ:=hide_ (And.intro hs1 (And.intro hs2 (And.intro hs3 hs4)))
 unfold z6 at hw1
 go_enter Tryz.func31,Tryz.ntmps31
 go_upto_region 1 with (fail)
 rw [← hw1]
 clear hw1
 go_upto_region 2 with (fail)
 rw [← hw2]
 clear hw2
 rw [hw3] at hw4
 go_wp2_with (first | (rw [← hw4];refine wpList_store_row rfl 28 (.tmp 0) (.tmp 14) rfl _ (imgV smpI (smpS w.heap.size)) rfl rfl 28 z6 RS.out z6_sz rfl OO.out ?_))
 exact bodyPost_ret (v:=.agg (imgV smpI (smpS w.heap.size))) (results_cell_row rfl _ _ w.heap.size _ _ _ _ rfl (setRow_heap _ _ _ _ _ _ RS.out) Tryz.underlying28 rfl z6_sz) rfl FIN.out
end Go.Proofs.YtikbegmodacopaaGreatDoor
namespace Go.Proofs.YtikbegmodacopaaGreatDoor
set_option maxRecDepth 100000
open Go.RowKit Go.PlainAid Go.BigFrame
set_option linter.unusedSimpArgs false
set_option linter.unusedVariables false
theorem join3 (a b c:List UInt8):Lib.join [a,b,c] []=a ++ b ++ c:=by
 rw [Lib.join_cons]
 simp [Lib.joinTail]
theorem joined3 (bk:Nat) (a b c:ByteArray) (W:World) (h:W.heap[bk]?=some (.cells #[.string a,.string b,.string c] 9 (0,0))) (hs:a.size+b.size+c.size≤140737488355328) :
  Calls Tryz.prog 66 #[.slice (some ⟨bk,0,none⟩) 3 3] W fun e w'=>e=.returned (.string (a ++ b ++ c))∧Below W.heap.size W w':=by
 have hlt:bk<W.heap.size:=by
  rcases Nat.lt_or_ge bk W.heap.size with h1 | h1
  ·exact h1
  ·rw [Array.getElem?_eq_none h1] at h;cases h
 have hc:∀ (j:Nat) x,[a,b,c][j]?=some x→W.cell? ⟨bk,0+j,none⟩=some (.string x):=fun j x hj=>by
  rw [Nat.zero_add,cell_of_row W bk j _ _ _ h]
  match j,hj with
  | 0,hj=>simp at hj;subst hj;rfl
  | 1,hj=>simp at hj;subst hj;rfl
  | 2,hj=>simp at hj;subst hj;rfl
  | j+3,hj=>simp at hj
 have hJ:=Tryz.strings_Join bk 0 3 [a,b,c] ⟨#[]⟩ W hc hlt (by simp) (Nat.le_refl _) (by
  simp only [List.map_cons,List.map_nil]
  rw [join3]
  simp
  omega)
 have e1:(Lib.join ([a,b,c].map (·.data.toList)) (⟨#[]⟩:ByteArray).data.toList)=a.data.toList ++ b.data.toList ++ c.data.toList:=join3 _ _ _
 rw [e1,show (⟨(a.data.toList ++ b.data.toList ++ c.data.toList).toArray⟩:ByteArray)=a ++ b ++ c from by apply ByteArray.ext;simp] at hJ
 have HJ:=hide_ hJ
 clear hJ e1 hc hs h
 go_enter Tryz.func66,Tryz.ntmps66
 go_wp2_with fail
 refine HJ.out.mono ?_
 rintro e w1 ⟨rfl,hb⟩
 have HB:=hide_ hb
 clear hb
 go_wp2
 go_ret
 exact ⟨rfl,HB.out⟩
def lineS (op arg:Int):ByteArray:=if opChk op arg≠0 then ⟨#[]⟩ else if (opR op).width=0 then ⟨(opR op).w.toArray⟩ else ⟨(opR op).w.toArray⟩ ++ ⟨#[32]⟩ ++ sgnT arg
theorem words_shortL:∀ r ∈ opRows,r.w.length≤8:=by decide
theorem opR_shortL (op:Int):(opR op).w.length≤8:=by
 unfold opR
 split
 ·unfold opRow
  rw [List.getD_eq_getElem?_getD]
  cases h:opRows[op.toNat]? with
  | none=>simp
  | some r=>exact words_shortL r (List.mem_of_getElem? h)
 ·simp
theorem sgnT_size {x:Int} (h0:0≤x) (h1:x<4294967296):(sgnT x).size≤4294967298:=by
 have hd:∀ n:Nat,(Lib.decDigits n).length≤n+1:=fun n=>by
  have h1:=d0_len n
  by_cases h:n=0
  ·subst h;rw [Lib.decDigits_one (by omega)];simp
  ·unfold d0 dcm at h1
   rw [if_neg h,List.length_map] at h1
   omega
 by_cases h:2147483648≤x
 ·rw [sgnT_neg h h1]
  have:=hd (4294967296 - x).toNat
  simp [ByteArray.size]
  omega
 ·rw [sgnT_pos h0 h]
  have:=hd x.toNat
  simp [ByteArray.size]
  omega
set_option maxHeartbeats 2000000 in
theorem Line_any (op arg:Int) (q0:0≤op) (q1:op≤255) (a0:0≤arg) (a1:arg<4294967296) (w:World) (hT:TabOk w) :
  Calls Tryz.prog 30 #[.agg #[.int .u8 op,.int .u32 arg]] w fun e w'=>e=.returned (.tuple #[.string (lineS op arg),.int .i64 (opChk op arg)])∧Below w.heap.size w w':=by
 have HC:=hide_ (fun w=>Check_any op arg w)
 have HI:=hide_ (fun w=>Info_any op w)
 have hsh:=opR_shortL op
 unfold lineS
 obtain ⟨k,hk⟩:∃ k,k=opChk op arg:=⟨_,rfl⟩
 obtain ⟨r,hr⟩:∃ r,r=opR op:=⟨_,rfl⟩
 have hV:opV op=(opCells r).toArray:=by rw [hr];rfl
 rw [hV] at HI
 rw [← hk] at HC ⊢
 rw [← hr] at hsh ⊢
 have HT:=hide_ hT
 clear hr hV hT
 unfold opCells at HI
 by_cases hk0:k=0
 ·have hok:opOk op=true:=by
   rw [hk] at hk0
   unfold opChk at hk0
   cases h:opOk op with
   | true=>rfl
   | false=>rw [h] at hk0;simp at hk0
  rw [hok] at HI
  clear hok hk
  subst hk0
  rw [if_neg (by simp)]
  by_cases hw:r.width=0
  ·rw [if_pos hw]
   have hwi:((r.width:Int) == 0)=true:=by rw [hw];rfl
   clear hw
   go_enter Tryz.func30,Tryz.ntmps30
   go_wp2_with fail
   refine (HC.out _).mono ?_
   rintro e w1 ⟨rfl,hb⟩
   have hc:=(hb.cell (p:=⟨w.heap.size,0,none⟩) (by simp)).trans (show (w.alloc (.cells #[.int .u8 op,.int .u32 arg] 66)).cell? ⟨w.heap.size,0,none⟩=some (.int .u8 op) from by simp)
   have hz:w.heap.size<w1.heap.size:=by have:=hb.size;simp at this;omega
   have HB:=hide_ (show Below w.heap.size w w1 from ((Below.refl _ _).alloc (Nat.le_refl _) _).trans (hb.mono (by simp)))
   clear hb
   go_wp2_with fail
   refine (HI.out _).mono ?_
   rintro e w2 ⟨rfl,hb2⟩
   have HB2:=hide_ (HB.out.trans (hb2.mono HB.out.size))
   clear hb2
   go_wp2
   go_ret2
   exact ⟨rfl,(HB2.out).alloc HB2.out.size _⟩
  ·rw [if_neg hw]
   have hwi:((r.width:Int) == 0)=false:=by simpa using hw
   clear hw
   go_enter Tryz.func30,Tryz.ntmps30
   go_wp2_with fail
   refine (HC.out _).mono ?_
   rintro e w1 ⟨rfl,hb⟩
   have hc:=(hb.cell (p:=⟨w.heap.size,0,none⟩) (by simp)).trans (show (w.alloc (.cells #[.int .u8 op,.int .u32 arg] 66)).cell? ⟨w.heap.size,0,none⟩=some (.int .u8 op) from by simp)
   have hc1:=(hb.cell (p:=⟨w.heap.size,1,none⟩) (by simp)).trans (show (w.alloc (.cells #[.int .u8 op,.int .u32 arg] 66)).cell? ⟨w.heap.size,1,none⟩=some (.int .u32 arg) from by simp)
   have hz:w.heap.size<w1.heap.size:=by have:=hb.size;simp at this;omega
   have HB:=hide_ (show Below w.heap.size w w1 from ((Below.refl _ _).alloc (Nat.le_refl _) _).trans (hb.mono (by simp)))
   clear hb
   go_wp2_with fail
   refine (HI.out _).mono ?_
   rintro e w2 ⟨rfl,hb2⟩
   have HB2:=hide_ (HB.out.trans (hb2.mono HB.out.size))
   have hc2:=(hb2.cell (p:=⟨w.heap.size,1,none⟩) hz).trans hc1
   have hz2:w.heap.size<w2.heap.size:=Nat.lt_of_lt_of_le hz hb2.size
   clear hb2 hc hc1
   go_wp2
   have c0:(w2.alloc (.cells #[.string ⟨r.w.toArray⟩,.int .i64 r.width,.int .u32 r.most,.int .i64 r.takes,.int .i64 r.gives,.int .u8 r.kind] 114)).cell? ⟨w2.heap.size,0,none⟩=some (.string ⟨r.w.toArray⟩):=by simp
   have c1:(w2.alloc (.cells #[.string ⟨r.w.toArray⟩,.int .i64 r.width,.int .u32 r.most,.int .i64 r.takes,.int .i64 r.gives,.int .u8 r.kind] 114)).cell? ⟨w.heap.size,1,none⟩=some (.int .u32 arg):=(World.cell?_alloc_lt w2 _ ⟨w.heap.size,1,none⟩ hz2).trans hc2
   have hB0:=(HB2.out).alloc HB2.out.size (.cells #[.string ⟨r.w.toArray⟩,.int .i64 r.width,.int .u32 r.most,.int .i64 r.takes,.int .i64 r.gives,.int .u8 r.kind] 114)
   have hs0:w2.heap.size<(w2.alloc (.cells #[.string ⟨r.w.toArray⟩,.int .i64 r.width,.int .u32 r.most,.int .i64 r.takes,.int .i64 r.gives,.int .u8 r.kind] 114)).heap.size:=by simp
   generalize w2.alloc (.cells #[.string ⟨r.w.toArray⟩,.int .i64 r.width,.int .u32 r.most,.int .i64 r.takes,.int .i64 r.gives,.int .u8 r.kind] 114)=W0 at c0 c1 hB0 hs0 ⊢
   have hs1:w.heap.size<W0.heap.size:=Nat.lt_trans hz2 hs0
   generalize w2.heap.size=g5 at c0 hs0 ⊢
   have HT0:=hide_ (HT.out.below hB0)
   have HSZ:=hide_ (show (⟨r.w.toArray⟩:ByteArray).size+(⟨#[32]⟩:ByteArray).size+(sgnT arg).size≤140737488355328 by
    have:=sgnT_size a0 a1
    have e1:(⟨r.w.toArray⟩:ByteArray).size=r.w.length:=by simp [ByteArray.size]
    have e2:(⟨#[32]⟩:ByteArray).size=1:=rfl
    omega)
   have SS:Hid (∀ W W',Below W0.heap.size W0 W→Below W.heap.size W W'→W'.cell? ⟨g5,0,none⟩=some (.string ⟨r.w.toArray⟩)∧W'.cell? ⟨w.heap.size,1,none⟩=some (.int .u32 arg)∧Below W0.heap.size W0 W'):=hide_ fun W W' h1 h2=>by
    have h3:=h1.trans (h2.mono h1.size)
    exact ⟨(h3.cell hs0).trans c0,(h3.cell hs1).trans c1,h3⟩
   have HST:=hide_ (show W0.drew.cell? ⟨g5,0,none⟩=some (.string ⟨r.w.toArray⟩)∧W0.drew.cell? ⟨w.heap.size,1,none⟩=some (.int .u32 arg)∧Below W0.heap.size W0 W0.drew from ⟨c0,c1,(Below.refl W0.heap.size W0).drew⟩)
   have SG:=hide_ (fun W (h:Below W0.heap.size W0 W)=>Signed_any arg a0 a1 W (HT0.out.below h))
   have HB0:=hide_ hB0
   clear hB0 hc2 hz hz2 HT
   go_region_held3 (fun W'=>W'.cell? ⟨g5,0,none⟩=some (.string ⟨r.w.toArray⟩)∧W'.cell? ⟨w.heap.size,1,none⟩=some (.int .u32 arg)∧Below W0.heap.size W0 W')
    (first | exact HST.out | (go_split_ands;exact SS.out _ _ (by assumption) hb9) | (go_split_ands;exact SS.out _ _ (by assumption) ((Below.refl _ _).alloc (Nat.le_refl _) _)))
    ((first
      | (go_at_call 67;go_split_ands;refine (SG.out _ (by assumption)).mono ?_;rintro e w9 ⟨rfl,hb9⟩)
      | (go_at_call 66;go_split_ands;refine (joined3 _ _ _ _ _ (heap_alloc_new _ _) HSZ.out).mono ?_;rintro e w9 ⟨rfl,hb9⟩)))
   go_wp2
   go_ret2
   go_split_ands
   have hfin:Below W0.heap.size W0 w9:=by assumption
   exact ⟨rfl,HB0.out.trans (hfin.mono HB0.out.size)⟩
 ·rw [if_pos hk0]
  have hkb:(k != 0)=true:=by simpa using hk0
  clear hk hk0
  go_enter Tryz.func30,Tryz.ntmps30
  go_wp2_with fail
  refine (HC.out _).mono ?_
  rintro e w1 ⟨rfl,hb⟩
  have HB:=hide_ (show Below w.heap.size w w1 from ((Below.refl _ _).alloc (Nat.le_refl _) _).trans (hb.mono (by simp)))
  clear hb
  go_wp2
  go_ret2
  exact ⟨rfl,HB.out⟩
end Go.Proofs.YtikbegmodacopaaGreatDoor
namespace Go.Proofs.YtikbegmodacopaaGreatDoor
open Go.RowKit Go.PlainAid Go.BigFrame
set_option linter.unusedSimpArgs false
set_option linter.unusedVariables false
set_option maxRecDepth 100000
theorem smp_beg:begB smpI=true:=by decide +kernel
theorem smp_plc:plc smpI=[0,1,5]:=(plc_eq smp_ok smp_beg).trans (by decide +kernel)
def smpO:ObjV:=⟨smpI.code.map (codP 7),[],4,64,[0,1,5].map labP,fixF smpI 7,[5].map natS,smpI.names.map entP⟩
theorem smp_obj:objO smpI=smpO:=by unfold objO;rw [smp_plc];rfl
theorem smp_oe:objE smpI=0:=by unfold objE;rw [smp_plc,if_neg (by decide +kernel),if_neg (by decide +kernel),if_neg (by decide)]
theorem smp_txt:txtS smpI=⟨(([99,111,100,101,10,97,116,48,58,10,9,101,110,116,101,114,32,56,10,97,116,49,58,10,9,99,111,110,115,116,32,48,10].append [9,99,111,110,115,116,32,49,10,9,101,113,32,97,116,53,10,9,103,111,116,111,32,97,116,49,10,97,116,53,58,10,9,99]).append ([111,110,115,116,32,55,10,9,108,101,97,118,101,32,56,10,122,101,114,111,10,9,115,112,97,99,101,32,52,10,115,116,97,99].append [107,32,54,52,10,116,97,114,103,101,116,32,97,116,53,10,101,110,116,114,121,32,34,109,97,105,110,34,44,32,97,116,48,10])).toArray⟩:=by
 rw [txtS,if_pos smp_oe,smp_obj]
 decide +kernel
theorem smp_err:txtE smpI=0:=by
 rw [txtE,if_pos smp_oe,smp_obj]
 decide +kernel
theorem awk_line:lineS 8 4294967295=⟨#[99,111,110,115,116,32,45,49]⟩:=by decide +kernel
theorem awk_chk:opChk 8 4294967295=0:=by decide +kernel
set_option maxHeartbeats 4000000 in
theorem awake_any (w:World) (hT:TabOk w):Calls Tryz.prog 18 #[] w fun e w'=>e=.returned (.bool true)∧Below w.heap.size w w':=by
 have HS:=hide_ (fun w=>sample_any w)
 have HT:=hide_ (fun W (hb:Below w.heap.size w W)=>hT.below hb)
 have HX:=hide_ (fun s W (hr:ImgR W W.heap.size smpI s) (hb:Below w.heap.size w W)=>lText_any smpI s W smp_ok hr (HT.out W hb))
 have HL:=hide_ (fun W (hb:Below w.heap.size w W)=>Line_any 8 4294967295 (by decide) (by decide) (by decide) (by decide) W (HT.out W hb))
 rw [awk_line,awk_chk] at HL
 clear hT
 go_enter Tryz.func18,Tryz.ntmps18
 go_wp2_with fail
 refine (HS.out _).mono ?_
 rintro e w1 ⟨s,rfl,hr,hb1⟩
 have TX:=hide_ (HX.out s w1 hr hb1)
 unfold TxtIs at TX
 rw [smp_txt,smp_err] at TX
 have HB1:=hide_ hb1
 clear hr hb1 HX HS
 unfold imgV at TX ⊢
 go_wp2_with fail
 refine TX.out.mono ?_
 rintro e w2 ⟨rfl,hb2⟩
 have HB2:=hide_ (HB1.out.trans (hb2.mono HB1.out.size))
 clear hb2 TX
 go_wp2_with fail
 refine (HL.out w2 HB2.out).mono ?_
 rintro e w3 ⟨rfl,hb3⟩
 have HB3:=hide_ (HB2.out.trans (hb3.mono HB2.out.size))
 clear hb3
 go_wp2_with fail
 exact bodyPost_ret (v:=.bool true) (by simp [results,Tryz.results18,go_sem]) rfl ⟨rfl,HB3.out⟩
end Go.Proofs.YtikbegmodacopaaGreatDoor
