/-
  Joined and packed by program.
-/
import Derived.Test.YtikbegmodacopaaGreatDoorQ26
import Derived.Test.YtikbegmodacopaaGreatDoorQ20
import Derived.Lib.QuietBelow
namespace Go.Proofs.YtikbegmodacopaaGreatDoor
set_option maxRecDepth 100000
open Go.RowKit Go.PlainAid
set_option linter.unusedSimpArgs false
set_option linter.unusedVariables false
theorem ba_assoc (a b c:ByteArray):a ++ b ++ c=a ++ (b ++ c):=by apply ByteArray.ext;simp
def e0B:ByteArray:=⟨#[]⟩
theorem ba_nil (a:ByteArray):a ++ e0B=a:=by apply ByteArray.ext;simp [e0B]
theorem nil_ba (a:ByteArray):e0B ++ a=a:=by apply ByteArray.ext;simp [e0B]
def cat:List ByteArray→ByteArray
 | []=>e0B
 | a :: l=>a ++ cat l
theorem cat_app (a b:List ByteArray):cat (a ++ b)=cat a ++ cat b:=by
 induction a with
 | nil=>rw [List.nil_append];exact (nil_ba _).symm
 | cons x a ih=>rw [List.cons_append];show x ++ cat (a ++ b)=(x ++ cat a) ++ cat b;rw [ih,ba_assoc]
theorem cat_snoc (a:List ByteArray) (x:ByteArray):cat (a ++ [x])=cat a ++ x:=by rw [cat_app];show cat a ++ (x ++ e0B)=_;rw [ba_nil]
theorem ba_size (a b:ByteArray):(a ++ b).size=a.size+b.size:=ByteArray.size_append
theorem ba_ne {a:ByteArray} (h:a≠e0B):0<a.size:=by
 rcases Nat.eq_zero_or_pos a.size with h0 | h0
 ·exact absurd (by
   apply ByteArray.ext
   have:a.data.size=0:=h0
   rw [Array.eq_empty_of_size_eq_zero this];rfl) h
 ·exact h0
def labLn (l:LabV):ByteArray:=l.name ++ ⟨#[58,10]⟩
def labAt (sec at_:Int) (l:LabV):Bool:=decide (l.sec=sec) && decide (l.at_=at_)
def atL (L:List LabV) (sec at_:Int):ByteArray:=cat ((L.filter (labAt sec at_)).map labLn)
def fixTx (f:FixV):ByteArray:=if f.add=0 then f.name else f.name ++ ⟨#[43]⟩ ++ decT f.add.toNat
def fixAtB (sec at_:Int) (f:FixV):Bool:=decide (f.sec=sec) && decide (f.at_=at_)
def fixT (F:List FixV) (sec at_:Int):ByteArray:=match F.find? (fixAtB sec at_) with
 | some f=>fixTx f
 | none=>e0B
def befL (sec at_:Int) (l:LabV):Prop:=l.sec<sec∨(l.sec=sec∧l.at_<at_)
def befF (sec at_:Int) (f:FixV):Prop:=f.sec<sec∨(f.sec=sec∧f.at_<at_)
def leL (a b:LabV):Prop:=a.sec<b.sec∨(a.sec=b.sec∧a.at_≤b.at_)
def ltF (a b:FixV):Prop:=a.sec<b.sec∨(a.sec=b.sec∧a.at_<b.at_∧(a.sec=2→a.at_+4≤b.at_))
structure LeftL (L R:List LabV) (sec at_:Int):Prop where
 all_:∃ D,L=D ++ R∧∀ d ∈ D,befL sec at_ d
 rest:∀ r ∈ R,¬ befL sec at_ r
 rise:R.Pairwise leL
structure LeftF (F R:List FixV) (sec at_:Int):Prop where
 all_:∃ D,F=D ++ R∧∀ d ∈ D,befF sec at_ d
 rest:∀ r ∈ R,¬ befF sec at_ r
 rise:R.Pairwise ltF
theorem labAt_bef {sec at_:Int} {l:LabV} (h:befL sec at_ l):labAt sec at_ l=false:=by
 unfold labAt befL at *
 rcases h with h | ⟨h1,h2⟩
 ·rw [decide_eq_false (by omega)];rfl
 ·rw [decide_eq_false (show ¬ l.at_=at_ by omega),Bool.and_false]
theorem fixAt_bef {sec at_:Int} {l:FixV} (h:befF sec at_ l):fixAtB sec at_ l=false:=by
 unfold fixAtB befF at *
 rcases h with h | ⟨h1,h2⟩
 ·rw [decide_eq_false (by omega)];rfl
 ·rw [decide_eq_false (show ¬ l.at_=at_ by omega),Bool.and_false]
theorem LeftL.atL_eq {L R:List LabV} {sec at_:Int} (h:LeftL L R sec at_):atL L sec at_=atL R sec at_:=by
 obtain ⟨D,rfl,hD⟩:=h.all_
 unfold atL
 rw [List.filter_append,List.filter_eq_nil_iff.2 (fun d hd=>by rw [labAt_bef (hD d hd)];simp),List.nil_append]
theorem LeftF.fixT_eq {F R:List FixV} {sec at_:Int} (h:LeftF F R sec at_):fixT F sec at_=fixT R sec at_:=by
 obtain ⟨D,rfl,hD⟩:=h.all_
 unfold fixT
 rw [List.find?_append,List.find?_eq_none.2 (fun d hd=>by rw [fixAt_bef (hD d hd)];simp)]
 rfl
theorem atL_stop {R:List LabV} {l:LabV} {sec at_:Int} (hr:(l :: R).Pairwise leL) (hn:¬ befL sec at_ l) (h:labAt sec at_ l=false):atL (l :: R) sec at_=e0B:=by
 unfold atL
 rw [List.filter_eq_nil_iff.2]
 ·rfl
 ·intro d hd
  have hl:l.sec≠sec∨l.at_≠at_:=by
   unfold labAt at h
   rcases Bool.and_eq_false_iff.1 h with h1 | h1
   ·exact .inl (of_decide_eq_false h1)
   ·exact .inr (of_decide_eq_false h1)
  unfold befL at hn
  rcases List.mem_cons.1 hd with rfl | hd
  ·rw [h];simp
  ·have:=(List.pairwise_cons.1 hr).1 d hd
   unfold leL at this
   unfold labAt
   intro hc
   rw [Bool.and_eq_true,decide_eq_true_eq,decide_eq_true_eq] at hc
   omega
theorem atL_take {R:List LabV} {l:LabV} {sec at_:Int} (h:labAt sec at_ l=true):atL (l :: R) sec at_=labLn l ++ atL R sec at_:=by
 unfold atL
 rw [List.filter_cons_of_pos (by rw [h])]
 rfl
theorem atL_nil (sec at_:Int):atL [] sec at_=e0B:=rfl
theorem LeftL.past {L R:List LabV} {sec at_:Int} (hl:∀ l,R.head?=some l→labAt sec at_ l=false) (h:LeftL L R sec at_):LeftL L R sec (at_+1):=by
 obtain ⟨D,hD,hb⟩:=h.all_
 refine ⟨⟨D,hD,fun d hd=>?_⟩,fun r hr=>?_,h.rise⟩
 ·have:=hb d hd;unfold befL at *;omega
 ·have h1:=h.rest r hr
  cases R with
  | nil=>cases hr
  | cons l R =>
   have h2:=hl l rfl
   have h3:=h.rest l (by simp)
   have hq:l.sec≠sec∨l.at_≠at_:=by
    unfold labAt at h2
    rcases Bool.and_eq_false_iff.1 h2 with h4 | h4
    ·exact .inl (of_decide_eq_false h4)
    ·exact .inr (of_decide_eq_false h4)
   unfold befL at *
   rcases List.mem_cons.1 hr with rfl | hr
   ·omega
   ·have:=(List.pairwise_cons.1 h.rise).1 r hr
    unfold leL at this
    omega
theorem LeftL.skip {L R:List LabV} {sec a b:Int} (h:LeftL L R sec a) (hab:a≤b) (hn:∀ l,R.head?=some l→¬ befL sec b l):LeftL L R sec b:=by
 obtain ⟨D,hD,hb⟩:=h.all_
 refine ⟨⟨D,hD,fun d hd=>?_⟩,fun r hr=>?_,h.rise⟩
 ·have:=hb d hd;unfold befL at *;omega
 ·cases R with
  | nil=>cases hr
  | cons l R =>
   have h2:=hn l rfl
   unfold befL at *
   rcases List.mem_cons.1 hr with rfl | hr
   ·omega
   ·have:=(List.pairwise_cons.1 h.rise).1 r hr
    unfold leL at this
    omega
theorem LeftF.skip {F R:List FixV} {sec a b:Int} (h:LeftF F R sec a) (hab:a≤b) (hn:∀ l,R.head?=some l→¬ befF sec b l):LeftF F R sec b:=by
 obtain ⟨D,hD,hb⟩:=h.all_
 refine ⟨⟨D,hD,fun d hd=>?_⟩,fun r hr=>?_,h.rise⟩
 ·have:=hb d hd;unfold befF at *;omega
 ·cases R with
  | nil=>cases hr
  | cons l R =>
   have h2:=hn l rfl
   unfold befF at *
   rcases List.mem_cons.1 hr with rfl | hr
   ·omega
   ·have:=(List.pairwise_cons.1 h.rise).1 r hr
    unfold ltF at this
    omega
theorem LeftL.take {L R:List LabV} {l:LabV} {sec at_:Int} (h:LeftL L (l :: R) sec at_) (hl:labAt sec at_ l=true):∃ D,L=D ++ R∧(∀ d ∈ D,¬ befL sec (at_+1) d→False):=by
 obtain ⟨D,hD,hb⟩:=h.all_
 refine ⟨D ++ [l],by rw [hD];simp,fun d hd hn=>hn ?_⟩
 unfold labAt at hl
 rw [Bool.and_eq_true,decide_eq_true_eq,decide_eq_true_eq] at hl
 rcases List.mem_append.1 hd with hd | hd
 ·have:=hb d hd;unfold befL at *;omega
 ·obtain rfl:=List.mem_singleton.1 hd
  unfold befL;omega
structure AtL (L R:List LabV) (sec at_:Int):Prop where
 all_:∃ D,L=D ++ R∧∀ d ∈ D,befL sec (at_+1) d
 rest:∀ r ∈ R,¬ befL sec at_ r
 rise:R.Pairwise leL
theorem LeftL.at_ {L R:List LabV} {sec at_:Int} (h:LeftL L R sec at_):AtL L R sec at_:=by
 obtain ⟨D,hD,hb⟩:=h.all_
 exact ⟨⟨D,hD,fun d hd=>by have:=hb d hd;unfold befL at *;omega⟩,h.rest,h.rise⟩
theorem AtL.take {L R:List LabV} {l:LabV} {sec at_:Int} (h:AtL L (l :: R) sec at_) (hl:labAt sec at_ l=true):AtL L R sec at_:=by
 obtain ⟨D,hD,hb⟩:=h.all_
 refine ⟨⟨D ++ [l],by rw [hD];simp,fun d hd=>?_⟩,fun r hr=>h.rest r (by simp [hr]),(List.pairwise_cons.1 h.rise).2⟩
 unfold labAt at hl
 rw [Bool.and_eq_true,decide_eq_true_eq,decide_eq_true_eq] at hl
 rcases List.mem_append.1 hd with hd | hd
 ·exact hb d hd
 ·obtain rfl:=List.mem_singleton.1 hd
  unfold befL;omega
theorem AtL.done {L R:List LabV} {sec at_:Int} (h:AtL L R sec at_) (hl:∀ l,R.head?=some l→labAt sec at_ l=false):LeftL L R sec (at_+1):=by
 refine ⟨h.all_,fun r hr=>?_,h.rise⟩
 have h1:=h.rest r hr
 cases R with
 | nil=>cases hr
 | cons l R =>
  have h2:=hl l rfl
  have h3:=h.rest l (by simp)
  have hq:l.sec≠sec∨l.at_≠at_:=by
   unfold labAt at h2
   rcases Bool.and_eq_false_iff.1 h2 with h4 | h4
   ·exact .inl (of_decide_eq_false h4)
   ·exact .inr (of_decide_eq_false h4)
  unfold befL at *
  rcases List.mem_cons.1 hr with rfl | hr
  ·omega
  ·have:=(List.pairwise_cons.1 h.rise).1 r hr
   unfold leL at this
   omega
theorem fixT_here {R:List FixV} {f:FixV} {sec at_:Int} (h:fixAtB sec at_ f=true):fixT (f :: R) sec at_=fixTx f:=by
 unfold fixT
 rw [List.find?_cons_of_pos h]
theorem fixT_none {F R:List FixV} {sec at_:Int} (h:LeftF F R sec at_) (hn:∀ f,R.head?=some f→fixAtB sec at_ f=false):fixT R sec at_=e0B:=by
 unfold fixT
 rw [List.find?_eq_none.2]
 intro d hd
 cases R with
 | nil=>cases hd
 | cons f R =>
  have h2:=hn f rfl
  have h3:=h.rest f (by simp)
  have hq:f.sec≠sec∨f.at_≠at_:=by
   unfold fixAtB at h2
   rcases Bool.and_eq_false_iff.1 h2 with h4 | h4
   ·exact .inl (of_decide_eq_false h4)
   ·exact .inr (of_decide_eq_false h4)
  rcases List.mem_cons.1 hd with rfl | hd
  ·rw [h2];simp
  ·have:=(List.pairwise_cons.1 h.rise).1 d hd
   unfold ltF at this
   unfold befF at h3
   unfold fixAtB
   intro hc
   rw [Bool.and_eq_true,decide_eq_true_eq,decide_eq_true_eq] at hc
   omega
theorem LeftF.past {F R:List FixV} {sec at_:Int} (h:LeftF F R sec at_) (hn:∀ f,R.head?=some f→fixAtB sec at_ f=false):LeftF F R sec (at_+1):=h.skip (by omega) fun l hl=>by
 have h2:=hn l hl
 have h3:=h.rest l (List.mem_of_mem_head? hl)
 have hq:l.sec≠sec∨l.at_≠at_:=by
  unfold fixAtB at h2
  rcases Bool.and_eq_false_iff.1 h2 with h4 | h4
  ·exact .inl (of_decide_eq_false h4)
  ·exact .inr (of_decide_eq_false h4)
 unfold befF at *
 omega
theorem LeftF.take {F R:List FixV} {f:FixV} {sec at_:Int} (h:LeftF F (f :: R) sec at_) (hf:fixAtB sec at_ f=true):LeftF F R sec (at_+(if sec=2 then 4 else 1)):=by
 obtain ⟨D,hD,hb⟩:=h.all_
 unfold fixAtB at hf
 rw [Bool.and_eq_true,decide_eq_true_eq,decide_eq_true_eq] at hf
 refine ⟨⟨D ++ [f],by rw [hD];simp,fun d hd=>?_⟩,fun r hr=>?_,(List.pairwise_cons.1 h.rise).2⟩
 ·rcases List.mem_append.1 hd with hd | hd
  ·have:=hb d hd;unfold befF at *;split <;> omega
  ·obtain rfl:=List.mem_singleton.1 hd
   unfold befF;split <;> omega
 ·have:=(List.pairwise_cons.1 h.rise).1 r hr
  unfold ltF at this
  unfold befF
  split <;> omega
def insT (x:ObjV) (i:Nat):ByteArray:=atL x.labels 1 i ++ (match x.code[i]? with
 | none=>e0B
 | some t=>⟨#[9]⟩ ++ ⟨(opR t.1).w.toArray⟩ ++ (if 0<(opR t.1).width then ⟨#[32]⟩ ++ (if fixT x.fixes 1 i=e0B then sgnT t.2 else fixT x.fixes 1 i) else e0B) ++ ⟨#[10]⟩)
def codeR (x:ObjV):Nat→Nat→ByteArray
 | 0,i=>atL x.labels 1 i
 | k+1,i=>insT x i ++ codeR x k (i+1)
def clearD (x:ObjV) (k:Nat):Bool:=decide (atL x.labels 2 k=e0B) && decide (fixT x.fixes 2 k=e0B)
def stopG (x:ObjV):Nat→Nat→Nat
 | 0,k=>k
 | f+1,k=>if k<x.data.length∧clearD x k=true then stopG x f (k+1) else k
def stopK (x:ObjV) (i:Nat):Nat:=stopG x 15 (i+1)
def showT (l:List Int):ByteArray:=strOfNums (showL l)
def dataR (x:ObjV):Nat→Nat→ByteArray
 | 0,_=>atL x.labels 2 x.data.length
 | k+1,i=>if x.data.length≤i then atL x.labels 2 x.data.length else atL x.labels 2 i ++
   (if fixT x.fixes 2 i=e0B then ⟨#[9,98,121,116,101,115,32]⟩ ++ showT ((x.data.drop i).take (stopK x i - i)) ++ ⟨#[10]⟩ ++ dataR x k (stopK x i)
    else ⟨#[9,119,111,114,100,32]⟩ ++ fixT x.fixes 2 i ++ ⟨#[10]⟩ ++ dataR x k (i+4))
def hasL (L:List LabV) (sec:Int):Bool:=L.any fun l=>decide (l.sec=sec)
def dataT (x:ObjV):ByteArray:=if x.data.length=0∧hasL x.labels 2=false then e0B else ⟨#[100,97,116,97,10]⟩ ++ dataR x x.data.length 0
def spaceT (n:Int):ByteArray:=⟨#[9,115,112,97,99,101,32]⟩ ++ decT n.toNat ++ ⟨#[10]⟩
def zeroR (z:Int):List LabV→Int→ByteArray
 | [],at_=>if at_<z then spaceT (z - at_) else e0B
 | l :: L,at_=>if l.sec=3 then (if at_<l.at_ then spaceT (l.at_ - at_) ++ (labLn l ++ zeroR z L l.at_) else labLn l ++ zeroR z L at_) else zeroR z L at_
def zeroT (x:ObjV):ByteArray:=if x.zero=0∧hasL x.labels 3=false then e0B else ⟨#[122,101,114,111,10]⟩ ++ zeroR x.zero x.labels 0
def stackT (x:ObjV):ByteArray:=if x.stack=0 then e0B else ⟨#[115,116,97,99,107,32]⟩ ++ decT x.stack.toNat ++ ⟨#[10]⟩
def openT (l:LabV):ByteArray:=if l.opn=true then ⟨#[111,112,101,110,32]⟩ ++ l.name ++ ⟨#[10]⟩ else e0B
def targT (t:ByteArray):ByteArray:=⟨#[116,97,114,103,101,116,32]⟩ ++ t ++ ⟨#[10]⟩
def numsB (s:ByteArray):List Int:=s.data.toList.map fun b=>(b.toNat:Int)
def entT (t:EntV):ByteArray:=⟨#[101,110,116,114,121,32]⟩ ++ showT (numsB t.name) ++ ⟨#[44,32]⟩ ++ t.lab ++ ⟨#[10]⟩
def codeT (x:ObjV):ByteArray:=⟨#[99,111,100,101,10]⟩ ++ codeR x x.code.length 0
def restT (x:ObjV):ByteArray:=stackT x ++ (cat (x.labels.map openT) ++ (cat (x.targets.map targT) ++ cat (x.entries.map entT)))
def bodyT (x:ObjV):ByteArray:=codeT x ++ (dataT x ++ (zeroT x ++ restT x))
def prtS (x:ObjV):ByteArray:=if okB x=true then (if 524288<(bodyT x).size then e0B else bodyT x) else e0B
def prtE (x:ObjV):Int:=if okB x=true then (if 524288<(bodyT x).size then 105 else 0) else 104
end Go.Proofs.YtikbegmodacopaaGreatDoor
namespace Go.Proofs.YtikbegmodacopaaGreatDoor
open Go.RowKit Go.PlainAid Go.BigFrame
set_option linter.unusedSimpArgs false
set_option linter.unusedVariables false
set_option maxRecDepth 100000
theorem drop_at {α:Type} {l:List α} {k:Nat} {a:α} (h:l[k]?=some a):l.drop k=a :: l.drop (k+1):=by
 obtain ⟨hk,rfl⟩:=List.getElem?_eq_some_iff.1 h
 exact List.drop_eq_getElem_cons hk
theorem atL_cons (l:LabV) (R:List LabV) (sec at_:Int):atL (l :: R) sec at_=if labAt sec at_ l=true then labLn l ++ atL R sec at_ else atL R sec at_:=by
 unfold atL
 rw [List.filter_cons]
 split <;> rfl
set_option maxHeartbeats 4000000 in
theorem labelsAt_any (x:ObjV) (s:ObjS) (B:Nat) (sec pl:Int) (w:World) (hx:ObjOk x) (hr:ObjR w B x s) (hBw:B≤w.heap.size) (hz:(atL x.labels sec pl).size≤140737488351232) :
  Calls Tryz.prog 122 #[.agg (objV x s),.int .u8 sec,.int .u32 pl] w fun e w'=>e=.returned (.string (atL x.labels sec pl))∧Below w.heap.size w w':=by
 obtain ⟨⟨cA,cc⟩,⟨dA,dc⟩,⟨lA,lc⟩,⟨fA,fc⟩,⟨tA,tc⟩,⟨eA,ec⟩⟩:=s
 have HRC:=hide_ hr.rc
 have HRD:=hide_ hr.rd
 have HRL:=hide_ hr.rl
 have HRF:=hide_ hr.rf
 have HRT:=hide_ hr.rt
 have HRE:=hide_ hr.re
 obtain ⟨l1,l2,l3,l4,l5,l6⟩:=hx.lens
 have HX:=hide_ hx
 dsimp only [objV] at HRC HRD HRL HRF HRT HRE ⊢
 obtain ⟨n,hn⟩:∃ n,n=x.code.length:=⟨_,rfl⟩
 obtain ⟨nd,hnd⟩:∃ n,n=x.data.length:=⟨_,rfl⟩
 obtain ⟨nl,hnl⟩:∃ n,n=x.labels.length:=⟨_,rfl⟩
 obtain ⟨nf,hnf⟩:∃ n,n=x.fixes.length:=⟨_,rfl⟩
 obtain ⟨nt,hnt⟩:∃ n,n=x.targets.length:=⟨_,rfl⟩
 obtain ⟨ne,hne⟩:∃ n,n=x.entries.length:=⟨_,rfl⟩
 obtain ⟨z,hzr⟩:∃ z,z=x.zero:=⟨_,rfl⟩
 obtain ⟨sk,hsk⟩:∃ z,z=x.stack:=⟨_,rfl⟩
 rw [← hn,← hnd,← hnl,← hnf,← hnt,← hne,← hzr,← hsk]
 rw [← hn] at HRC l1
 rw [← hnd] at HRD l2
 rw [← hnl] at HRL l3
 rw [← hnf] at HRF l4
 rw [← hnt] at HRT l5
 rw [← hne] at HRE l6
 have HN:=hide_ hn.symm
 have HND:=hide_ hnd.symm
 have HNL:=hide_ hnl.symm
 have HNF:=hide_ hnf.symm
 have HNT:=hide_ hnt.symm
 have HNE:=hide_ hne.symm
 have HZ:=hide_ hzr.symm
 have HSK:=hide_ hsk.symm
 clear hr hx hn hnd hnl hnf hnt hne hzr hsk
 obtain ⟨T,hT⟩:∃ T,T=atL x.labels sec pl:=⟨_,rfl⟩
 rw [← hT] at hz ⊢
 have HT:=hide_ hT.symm
 have HBW:=hide_ hBw
 have HSZ:=hide_ hz
 clear hT hz hBw
 obtain ⟨W1,hW1⟩:∃ W,W=w.alloc (.cells #[.slice cA n cc,.slice dA nd dc,.int .u32 z,.int .u32 sk,.slice lA nl lc,.slice fA nf fc,.slice tA nt tc,.slice eA ne ec] 36):=⟨_,rfl⟩
 have f4:W1.cell? ⟨w.heap.size,4,none⟩=some (.slice lA nl lc):=by rw [hW1];go_simp
 have HB1:=hide_ (show Below w.heap.size w W1 by rw [hW1];exact (Below.refl _ _).alloc (Nat.le_refl _) _)
 have hlt0:w.heap.size<W1.heap.size:=by rw [hW1];simp
 go_enter Tryz.func122,Tryz.ntmps122
 go_upto_region 1 with (fail)
 rw [← hW1]
 clear hW1
 go_wp2
 go_loopw [7,8] (fun s i wr=>∃ (k:Nat) (S:ByteArray),k≤nl∧s=.string S∧i=.int .i64 k∧S ++ atL (x.labels.drop k) sec pl=T∧Drew W1 wr) (fun _ i _=>nl - (intOf i).toNat)
 case atStart=>exact ⟨0,e0B,Nat.zero_le _,rfl,rfl,by rw [List.drop_zero,nil_ba,HT.out],Drew.refl W1⟩
 case round =>
  obtain ⟨k,S,hk,rfl,rfl,hS,hd⟩:=hrel
  have HD:=hide_ hd
  have f4:=(hd.cell _).trans f4
  have hlt0:w.heap.size<wr.heap.size:=by rw [hd.size];exact hlt0
  have HBR:=hide_ (HB1.out.trans (hd.below _))
  clear hd
  have HS:=hide_ hS
  clear hS
  by_cases hlt:k<nl
  ·obtain ⟨⟨nm,lsec,lpl,lop⟩,ht⟩:∃ t,x.labels[k]?=some t:=⟨_,List.getElem?_eq_getElem (by have:=HNL.out;omega)⟩
   have HDR:=hide_ (drop_at ht)
   obtain ⟨_,ad,rfl,hbk,p0,p1⟩:=el_cells lE_len (HRL.out.below (HBR.out.mono HBW.out)) (by omega) ht
   have x0:=p0 _ rfl
   have x1:=p1 1 _ (by omega) rfl
   have x2:=p1 2 _ (by omega) rfl
   simp only at x0 x1 x2
   have hbs:(ad.add (k * 4)).block<wr.heap.size:=by have:=HBW.out;have:=HBR.out.size;omega
   clear p0 p1 ht hbk
   by_cases h1:lsec=sec
   ·subst h1
    by_cases h2:lpl=pl
    ·subst h2
     have hS:=HS.out
     rw [HDR.out,atL_cons,if_pos (by simp [labAt])] at hS
     have HS2:=hide_ (show (S ++ nm ++ ⟨#[58,10]⟩) ++ atL (x.labels.drop (k+1)) lsec lpl=T by rw [← hS,labLn];simp only [ba_assoc])
     have hss:=congrArg ByteArray.size HS2.out
     have hs2:(⟨#[58,10]⟩:ByteArray).size=2:=rfl
     rw [ba_size,ba_size,ba_size,hs2] at hss
     have hm1:¬ (9223372036854775807:Int)<(S.size:Int)+(nm.size:Int):=by have:=HSZ.out;omega
     have hm2:¬ 9223372036854775807<S.size+nm.size+2:=by have:=HSZ.out;omega
     clear hS hss hs2
     go_wp2
     go_roundw
     case rel=>exact ⟨k+1,_,by omega,rfl,by go_num,HS2.out,HD.out⟩
     case measure=>simp [intOf];omega
    ·have e2:(lpl == pl)=false:=by simpa using h2
     have hS:=HS.out
     rw [HDR.out,atL_cons,if_neg (by simp [labAt,h2])] at hS
     have HS2:=hide_ hS
     clear hS h2
     go_wp2
     go_roundw
     case rel=>exact ⟨k+1,_,by omega,rfl,by go_num,HS2.out,HD.out⟩
     case measure=>simp [intOf];omega
   ·have e1:(lsec == sec)=false:=by simpa using h1
    have hS:=HS.out
    rw [HDR.out,atL_cons,if_neg (by simp [labAt,h1])] at hS
    have HS2:=hide_ hS
    clear hS h1
    go_wp2
    go_roundw
    case rel=>exact ⟨k+1,_,by omega,rfl,by go_num,HS2.out,HD.out⟩
    case measure=>simp [intOf];omega
  ·obtain rfl:k=nl:=by omega
   have HF:=hide_ (show S=T by
    have h:=HS.out
    rw [List.drop_of_length_le (by have:=HNL.out;omega),atL_nil,ba_nil] at h
    exact h)
   go_wp2
   go_ret
   exact ⟨by rw [HF.out];rfl,HBR.out⟩
end Go.Proofs.YtikbegmodacopaaGreatDoor
namespace Go.Proofs.YtikbegmodacopaaGreatDoor
open Go.RowKit Go.PlainAid Go.BigFrame
set_option linter.unusedSimpArgs false
set_option linter.unusedVariables false
set_option maxRecDepth 100000
theorem hasL_cons (l:LabV) (R:List LabV) (sec:Int):hasL (l :: R) sec=(decide (l.sec=sec) || hasL R sec):=rfl
set_option maxHeartbeats 4000000 in
theorem has_any (x:ObjV) (s:ObjS) (B:Nat) (sec:Int) (w:World) (hx:ObjOk x) (hr:ObjR w B x s) (hBw:B≤w.heap.size) :
  Calls Tryz.prog 124 #[.agg (objV x s),.int .u8 sec] w fun e w'=>e=.returned (.bool (hasL x.labels sec))∧Below w.heap.size w w':=by
 obtain ⟨⟨cA,cc⟩,⟨dA,dc⟩,⟨lA,lc⟩,⟨fA,fc⟩,⟨tA,tc⟩,⟨eA,ec⟩⟩:=s
 have HRC:=hide_ hr.rc
 have HRD:=hide_ hr.rd
 have HRL:=hide_ hr.rl
 have HRF:=hide_ hr.rf
 have HRT:=hide_ hr.rt
 have HRE:=hide_ hr.re
 obtain ⟨l1,l2,l3,l4,l5,l6⟩:=hx.lens
 have HX:=hide_ hx
 dsimp only [objV] at HRC HRD HRL HRF HRT HRE ⊢
 obtain ⟨n,hn⟩:∃ n,n=x.code.length:=⟨_,rfl⟩
 obtain ⟨nd,hnd⟩:∃ n,n=x.data.length:=⟨_,rfl⟩
 obtain ⟨nl,hnl⟩:∃ n,n=x.labels.length:=⟨_,rfl⟩
 obtain ⟨nf,hnf⟩:∃ n,n=x.fixes.length:=⟨_,rfl⟩
 obtain ⟨nt,hnt⟩:∃ n,n=x.targets.length:=⟨_,rfl⟩
 obtain ⟨ne,hne⟩:∃ n,n=x.entries.length:=⟨_,rfl⟩
 obtain ⟨z,hzr⟩:∃ z,z=x.zero:=⟨_,rfl⟩
 obtain ⟨sk,hsk⟩:∃ z,z=x.stack:=⟨_,rfl⟩
 rw [← hn,← hnd,← hnl,← hnf,← hnt,← hne,← hzr,← hsk]
 rw [← hn] at HRC l1
 rw [← hnd] at HRD l2
 rw [← hnl] at HRL l3
 rw [← hnf] at HRF l4
 rw [← hnt] at HRT l5
 rw [← hne] at HRE l6
 have HN:=hide_ hn.symm
 have HND:=hide_ hnd.symm
 have HNL:=hide_ hnl.symm
 have HNF:=hide_ hnf.symm
 have HNT:=hide_ hnt.symm
 have HNE:=hide_ hne.symm
 have HZ:=hide_ hzr.symm
 have HSK:=hide_ hsk.symm
 clear hr hx hn hnd hnl hnf hnt hne hzr hsk
 obtain ⟨T,hT⟩:∃ T,T=hasL x.labels sec:=⟨_,rfl⟩
 rw [← hT]
 have HT:=hide_ hT.symm
 have HBW:=hide_ hBw
 clear hT hBw
 obtain ⟨W1,hW1⟩:∃ W,W=w.alloc (.cells #[.slice cA n cc,.slice dA nd dc,.int .u32 z,.int .u32 sk,.slice lA nl lc,.slice fA nf fc,.slice tA nt tc,.slice eA ne ec] 36):=⟨_,rfl⟩
 have f4:W1.cell? ⟨w.heap.size,4,none⟩=some (.slice lA nl lc):=by rw [hW1];go_simp
 have HB1:=hide_ (show Below w.heap.size w W1 by rw [hW1];exact (Below.refl _ _).alloc (Nat.le_refl _) _)
 have hlt0:w.heap.size<W1.heap.size:=by rw [hW1];simp
 go_enter Tryz.func124,Tryz.ntmps124
 go_upto_region 1 with (fail)
 rw [← hW1]
 clear hW1
 go_wp2
 go_loopw [5] (fun i wr=>∃ (k:Nat),k≤nl∧i=.int .i64 k∧Hid (hasL (x.labels.drop k) sec=T)∧Drew W1 wr) (fun i _=>nl - (intOf i).toNat)
 case atStart=>exact ⟨0,Nat.zero_le _,rfl,hide_ (by rw [List.drop_zero,HT.out]),Drew.refl W1⟩
 case round =>
  obtain ⟨k,hk,rfl,HS,hd⟩:=hrel
  have HD:=hide_ hd
  have f4:=(hd.cell _).trans f4
  have hlt0:w.heap.size<wr.heap.size:=by rw [hd.size];exact hlt0
  have HBR:=hide_ (HB1.out.trans (hd.below _))
  clear hd
  by_cases hlt:k<nl
  ·obtain ⟨⟨nm,lsec,lpl,lop⟩,ht⟩:∃ t,x.labels[k]?=some t:=⟨_,List.getElem?_eq_getElem (by have:=HNL.out;omega)⟩
   have HDR:=hide_ (drop_at ht)
   obtain ⟨_,ad,rfl,hbk,p0,p1⟩:=el_cells lE_len (HRL.out.below (HBR.out.mono HBW.out)) (by omega) ht
   have x1:=p1 1 _ (by omega) rfl
   simp only at x1
   have hbs:(ad.add (k * 4)).block<wr.heap.size:=by have:=HBW.out;have:=HBR.out.size;omega
   clear p0 p1 ht hbk
   by_cases h1:lsec=sec
   ·subst h1
    have hS:=HS.out
    rw [HDR.out,hasL_cons,decide_eq_true rfl,Bool.true_or] at hS
    have HS2:=hide_ hS
    clear hS
    go_wp2
    go_ret
    exact ⟨by rw [← HS2.out];rfl,HBR.out⟩
   ·have e1:(lsec == sec)=false:=by simpa using h1
    have hS:=HS.out
    rw [HDR.out,hasL_cons,decide_eq_false h1,Bool.false_or] at hS
    have HS2:=hide_ hS
    clear hS h1
    go_wp2
    go_roundw
    case rel=>exact ⟨k+1,by omega,by go_num,HS2,HD.out⟩
    case measure=>simp [intOf];omega
  ·obtain rfl:k=nl:=by omega
   have HF:=hide_ (show false=T by
    have h:=HS.out
    rw [List.drop_of_length_le (by have:=HNL.out;omega)] at h
    exact h)
   go_wp2
   go_ret
   exact ⟨by rw [← HF.out];rfl,HBR.out⟩
theorem str_empty (T:ByteArray):(T.toList == ([]:List UInt8))=decide (T=e0B):=by
 have h:=str_beq T e0B
 rw [show e0B.toList=[] from by unfold e0B ByteArray.toList;rw [ByteArray.toList.loop];simp [ByteArray.size]] at h
 exact h
set_option maxHeartbeats 2000000 in
theorem marked_any (x:ObjV) (s:ObjS) (B:Nat) (sec pl:Int) (w:World) (hx:ObjOk x) (hr:ObjR w B x s) (hBw:B≤w.heap.size) (hz:(atL x.labels sec pl).size≤140737488351232) :
  Calls Tryz.prog 125 #[.agg (objV x s),.int .u8 sec,.int .u32 pl] w fun e w'=>e=.returned (.bool (decide (atL x.labels sec pl≠e0B)))∧Below w.heap.size w w':=by
 have HLA:=hide_ (fun W (hw:Below w.heap.size w W)=>labelsAt_any x s B sec pl W hx (hr.below (hw.mono hBw)) (Nat.le_trans hBw hw.size) hz)
 obtain ⟨⟨cA,cc⟩,⟨dA,dc⟩,⟨lA,lc⟩,⟨fA,fc⟩,⟨tA,tc⟩,⟨eA,ec⟩⟩:=s
 have HRC:=hide_ hr.rc
 have HRD:=hide_ hr.rd
 have HRL:=hide_ hr.rl
 have HRF:=hide_ hr.rf
 have HRT:=hide_ hr.rt
 have HRE:=hide_ hr.re
 obtain ⟨l1,l2,l3,l4,l5,l6⟩:=hx.lens
 have HX:=hide_ hx
 dsimp only [objV] at HRC HRD HRL HRF HRT HRE ⊢
 obtain ⟨n,hn⟩:∃ n,n=x.code.length:=⟨_,rfl⟩
 obtain ⟨nd,hnd⟩:∃ n,n=x.data.length:=⟨_,rfl⟩
 obtain ⟨nl,hnl⟩:∃ n,n=x.labels.length:=⟨_,rfl⟩
 obtain ⟨nf,hnf⟩:∃ n,n=x.fixes.length:=⟨_,rfl⟩
 obtain ⟨nt,hnt⟩:∃ n,n=x.targets.length:=⟨_,rfl⟩
 obtain ⟨ne,hne⟩:∃ n,n=x.entries.length:=⟨_,rfl⟩
 obtain ⟨z,hzr⟩:∃ z,z=x.zero:=⟨_,rfl⟩
 obtain ⟨sk,hsk⟩:∃ z,z=x.stack:=⟨_,rfl⟩
 rw [← hn,← hnd,← hnl,← hnf,← hnt,← hne,← hzr,← hsk]
 rw [← hn] at HRC l1
 rw [← hnd] at HRD l2
 rw [← hnl] at HRL l3
 rw [← hnf] at HRF l4
 rw [← hnt] at HRT l5
 rw [← hne] at HRE l6
 have HN:=hide_ hn.symm
 have HND:=hide_ hnd.symm
 have HNL:=hide_ hnl.symm
 have HNF:=hide_ hnf.symm
 have HNT:=hide_ hnt.symm
 have HNE:=hide_ hne.symm
 have HZ:=hide_ hzr.symm
 have HSK:=hide_ hsk.symm
 dsimp only [objV] at HLA
 rw [← hn,← hnd,← hnl,← hnf,← hnt,← hne,← hzr,← hsk] at HLA
 clear hr hx hn hnd hnl hnf hnt hne hzr hsk
 obtain ⟨T,hT⟩:∃ T,T=atL x.labels sec pl:=⟨_,rfl⟩
 rw [← hT] at HLA ⊢
 clear hT hBw hz
 obtain ⟨W1,hW1⟩:∃ W,W=w.alloc (.cells #[.slice cA n cc,.slice dA nd dc,.int .u32 z,.int .u32 sk,.slice lA nl lc,.slice fA nf fc,.slice tA nt tc,.slice eA ne ec] 36):=⟨_,rfl⟩
 have f0:W1.cell? ⟨w.heap.size,0,none⟩=some (.slice cA n cc):=by rw [hW1];go_simp
 have f1:W1.cell? ⟨w.heap.size,1,none⟩=some (.slice dA nd dc):=by rw [hW1];go_simp
 have f2:W1.cell? ⟨w.heap.size,2,none⟩=some (.int .u32 z):=by rw [hW1];go_simp
 have f3:W1.cell? ⟨w.heap.size,3,none⟩=some (.int .u32 sk):=by rw [hW1];go_simp
 have f4:W1.cell? ⟨w.heap.size,4,none⟩=some (.slice lA nl lc):=by rw [hW1];go_simp
 have f5:W1.cell? ⟨w.heap.size,5,none⟩=some (.slice fA nf fc):=by rw [hW1];go_simp
 have f6:W1.cell? ⟨w.heap.size,6,none⟩=some (.slice tA nt tc):=by rw [hW1];go_simp
 have f7:W1.cell? ⟨w.heap.size,7,none⟩=some (.slice eA ne ec):=by rw [hW1];go_simp
 have HB1:=hide_ (show Below w.heap.size w W1 by rw [hW1];exact (Below.refl _ _).alloc (Nat.le_refl _) _)
 have hlt0:w.heap.size<W1.heap.size:=by rw [hW1];simp
 go_enter Tryz.func125,Tryz.ntmps125
 go_upto_region 1 with (fail)
 rw [← hW1]
 clear hW1
 go_wp2_with fail
 refine (HLA.out _ HB1.out).mono ?_
 rintro e W2 ⟨rfl,hb2⟩
 have HB2:=hide_ (HB1.out.trans (hb2.mono HB1.out.size))
 clear hb2 f0 f1 f2 f3 f4 f5 f6 f7
 by_cases hT0:T=e0B
 ·have hq:(T.toList == ([]:List UInt8))=true:=by rw [str_empty,decide_eq_true hT0]
  have hres:decide (T≠e0B)=false:=by simpa using hT0
  have HRES:=hide_ hres
  clear hT0 hres
  go_wp2
  go_ret
  exact ⟨by rw [HRES.out];rfl,HB2.out⟩
 ·have hq:(T.toList == ([]:List UInt8))=false:=by rw [str_empty,decide_eq_false hT0]
  have hres:decide (T≠e0B)=true:=by simpa using hT0
  have HRES:=hide_ hres
  clear hT0 hres
  go_wp2
  go_ret
  exact ⟨by rw [HRES.out];rfl,HB2.out⟩
theorem fixT_cons (f:FixV) (R:List FixV) (sec at_:Int):fixT (f :: R) sec at_=if fixAtB sec at_ f=true then fixTx f else fixT R sec at_:=by
 unfold fixT
 rw [List.find?_cons]
 cases h:fixAtB sec at_ f <;> simp
set_option maxHeartbeats 8000000 in
theorem fixAt_any (x:ObjV) (s:ObjS) (B:Nat) (sec pl:Int) (w:World) (hx:ObjOk x) (hr:ObjR w B x s) (hBw:B≤w.heap.size) (hz:(fixT x.fixes sec pl).size≤140737488351232) :
  Calls Tryz.prog 123 #[.agg (objV x s),.int .u8 sec,.int .u32 pl] w fun e w'=>e=.returned (.string (fixT x.fixes sec pl))∧Below w.heap.size w w':=by
 obtain ⟨⟨cA,cc⟩,⟨dA,dc⟩,⟨lA,lc⟩,⟨fA,fc⟩,⟨tA,tc⟩,⟨eA,ec⟩⟩:=s
 have HRC:=hide_ hr.rc
 have HRD:=hide_ hr.rd
 have HRL:=hide_ hr.rl
 have HRF:=hide_ hr.rf
 have HRT:=hide_ hr.rt
 have HRE:=hide_ hr.re
 obtain ⟨l1,l2,l3,l4,l5,l6⟩:=hx.lens
 have HX:=hide_ hx
 dsimp only [objV] at HRC HRD HRL HRF HRT HRE ⊢
 obtain ⟨n,hn⟩:∃ n,n=x.code.length:=⟨_,rfl⟩
 obtain ⟨nd,hnd⟩:∃ n,n=x.data.length:=⟨_,rfl⟩
 obtain ⟨nl,hnl⟩:∃ n,n=x.labels.length:=⟨_,rfl⟩
 obtain ⟨nf,hnf⟩:∃ n,n=x.fixes.length:=⟨_,rfl⟩
 obtain ⟨nt,hnt⟩:∃ n,n=x.targets.length:=⟨_,rfl⟩
 obtain ⟨ne,hne⟩:∃ n,n=x.entries.length:=⟨_,rfl⟩
 obtain ⟨z,hzr⟩:∃ z,z=x.zero:=⟨_,rfl⟩
 obtain ⟨sk,hsk⟩:∃ z,z=x.stack:=⟨_,rfl⟩
 rw [← hn,← hnd,← hnl,← hnf,← hnt,← hne,← hzr,← hsk]
 rw [← hn] at HRC l1
 rw [← hnd] at HRD l2
 rw [← hnl] at HRL l3
 rw [← hnf] at HRF l4
 rw [← hnt] at HRT l5
 rw [← hne] at HRE l6
 have HN:=hide_ hn.symm
 have HND:=hide_ hnd.symm
 have HNL:=hide_ hnl.symm
 have HNF:=hide_ hnf.symm
 have HNT:=hide_ hnt.symm
 have HNE:=hide_ hne.symm
 have HZ:=hide_ hzr.symm
 have HSK:=hide_ hsk.symm
 clear hr hx hn hnd hnl hnf hnt hne hzr hsk
 obtain ⟨T,hT⟩:∃ T,T=fixT x.fixes sec pl:=⟨_,rfl⟩
 rw [← hT] at hz ⊢
 have HT:=hide_ hT.symm
 have HBW:=hide_ hBw
 have HSZ:=hide_ hz
 clear hT hz hBw
 obtain ⟨W1,hW1⟩:∃ W,W=w.alloc (.cells #[.slice cA n cc,.slice dA nd dc,.int .u32 z,.int .u32 sk,.slice lA nl lc,.slice fA nf fc,.slice tA nt tc,.slice eA ne ec] 36):=⟨_,rfl⟩
 have f5:W1.cell? ⟨w.heap.size,5,none⟩=some (.slice fA nf fc):=by rw [hW1];go_simp
 have HB1:=hide_ (show Below w.heap.size w W1 by rw [hW1];exact (Below.refl _ _).alloc (Nat.le_refl _) _)
 have hlt0:w.heap.size<W1.heap.size:=by rw [hW1];simp
 go_enter Tryz.func123,Tryz.ntmps123
 go_upto_region 1 with (fail)
 rw [← hW1]
 clear hW1
 go_wp2
 go_loopw [7] (fun i wr=>∃ (k:Nat),k≤nf∧i=.int .i64 k∧Hid (fixT (x.fixes.drop k) sec pl=T)∧Below W1.heap.size W1 wr) (fun i _=>nf - (intOf i).toNat)
 case atStart=>exact ⟨0,Nat.zero_le _,rfl,hide_ (by rw [List.drop_zero,HT.out]),Below.refl _ _⟩
 case round =>
  obtain ⟨k,hk,rfl,HS,hb⟩:=hrel
  have HB:=hide_ hb
  have f5:=(hb.cell (p:=⟨w.heap.size,5,none⟩) hlt0).trans f5
  have hlt0:w.heap.size<wr.heap.size:=Nat.lt_of_lt_of_le hlt0 hb.size
  have HBR:=hide_ (HB1.out.trans (hb.mono HB1.out.size))
  clear hb
  by_cases hlt:k<nf
  ·obtain ⟨⟨fsec,fpl,nm,fadd⟩,ht⟩:∃ t,x.fixes[k]?=some t:=⟨_,List.getElem?_eq_getElem (by have:=HNF.out;omega)⟩
   have HDR:=hide_ (drop_at ht)
   have ho:=HX.out.fixes _ (List.mem_of_getElem? ht)
   obtain ⟨hnz,_,_,ha0,ha1⟩:=ho
   simp only at hnz ha0 ha1
   obtain ⟨_,ad,rfl,hbk,p0,p1⟩:=el_cells fE_len (HRF.out.below (HBR.out.mono HBW.out)) (by omega) ht
   have x0:=p0 _ rfl
   have x1:=p1 1 _ (by omega) rfl
   have x2:=p1 2 _ (by omega) rfl
   have x3:=p1 3 _ (by omega) rfl
   simp only at x0 x1 x2 x3
   have hbs:(ad.add (k * 4)).block<wr.heap.size:=by have:=HBW.out;have:=HBR.out.size;omega
   have HBA:=hide_ (HB.out.alloc HB.out.size (.cells #[.int .u8 fsec,.int .u32 fpl,.string nm,.int .u32 fadd] 81))
   have HBAR:=hide_ (HBR.out.alloc HBR.out.size (.cells #[.int .u8 fsec,.int .u32 fpl,.string nm,.int .u32 fadd] 81))
   clear p0 p1 ht hbk
   by_cases h1:fsec=sec
   ·subst h1
    by_cases h2:fpl=pl
    ·subst h2
     have hS:=HS.out
     rw [HDR.out,fixT_cons,if_pos (by simp [fixAtB]),fixTx] at hS
     by_cases h3:fadd=0
     ·subst h3
      rw [if_pos rfl] at hS
      have HS2:=hide_ hS
      clear hS
      go_wp2
      go_ret
      exact ⟨by rw [← HS2.out];rfl,HBAR.out⟩
     ·have e3:(fadd == 0)=false:=by simpa using h3
      dsimp only at hS
      rw [if_neg h3] at hS
      have HS2:=hide_ hS
      have hs1:(⟨#[43]⟩:ByteArray).size=1:=rfl
      have hz1:=decT_size fadd.toNat (by omega)
      obtain ⟨D,hD⟩:∃ D,D=decT fadd.toNat:=⟨_,rfl⟩
      obtain ⟨m,hm⟩:∃ m:Nat,fadd=(m:Int):=⟨fadd.toNat,by omega⟩
      have HU:=hide_ (fun W=>unsigned_any m (by omega) W)
      rw [hm,Int.toNat_natCast] at hD
      rw [show fadd.toNat=m by omega] at HS2 hz1
      subst hm
      rw [← hD] at HU HS2 hz1
      have hm1:¬ 9223372036854775807<nm.size+1:=by omega
      have hm2:¬ 9223372036854775807<nm.size+1+D.size:=by omega
      clear hS hD h3 hs1 ha0 ha1
      obtain ⟨W5,hW5⟩:∃ W,W=wr.alloc (.cells #[.int .u8 fsec,.int .u32 fpl,.string nm,.int .u32 (m:Int)] 81):=⟨_,rfl⟩
      have g2:W5.cell? ⟨wr.heap.size,2,none⟩=some (.string nm):=by rw [hW5];go_simp
      have g3:W5.cell? ⟨wr.heap.size,3,none⟩=some (.int .u32 (m:Int)):=by rw [hW5];go_simp
      have hlt5:wr.heap.size<W5.heap.size:=by rw [hW5];simp
      go_upto_region 8 with (fail)
      rw [← hW5] at HBAR ⊢
      clear hW5
      have cU:∀ d os,Calls Tryz.prog 92 #[.int .u32 (m:Int)] (Sort.grow (redrawn W5 d) os) fun e w''=>e=.returned (.string D)∧∃ p:Regrown,w''=Sort.grow (redrawn W5 p.d) p.os:=fun d os=>Calls.regrown_of (HU.out _)
      replace g2:=cell_regrown g2
      replace g3:=cell_regrown g3
      refine wp_region_quiet_below (by kernel_rfl) (by kernel_rfl) ?_
      repeat (go_big_quiet_step ((exact cU _ _)))
      refine wpQuiet_nil ?_
      intro w6 hw'
      obtain ⟨⟨dq,osq⟩,hw''⟩:=hw'
      have HB6:=hide_ (show Below w.heap.size w w6 by rw [hw''];exact HBAR.out.trans ((below_regrown W5 dq osq).mono HBAR.out.size))
      clear hw'' g2 g3 cU
      go_wp2
      go_ret
      exact ⟨by rw [← HS2.out];rfl,HB6.out⟩
    ·have e2:(fpl == pl)=false:=by simpa using h2
     have hS:=HS.out
     rw [HDR.out,fixT_cons,if_neg (by simp [fixAtB,h2])] at hS
     have HS2:=hide_ hS
     clear hS h2
     go_wp2
     go_roundw
     case rel=>exact ⟨k+1,by omega,by go_num,HS2,HBA.out⟩
     case measure=>simp [intOf];omega
   ·have e1:(fsec == sec)=false:=by simpa using h1
    have hS:=HS.out
    rw [HDR.out,fixT_cons,if_neg (by simp [fixAtB,h1])] at hS
    have HS2:=hide_ hS
    clear hS h1
    go_wp2
    go_roundw
    case rel=>exact ⟨k+1,by omega,by go_num,HS2,HBA.out⟩
    case measure=>simp [intOf];omega
  ·obtain rfl:k=nf:=by omega
   have HF:=hide_ (show e0B=T by
    have h:=HS.out
    rw [List.drop_of_length_le (by have:=HNF.out;omega)] at h
    exact h)
   go_wp2
   go_ret
   exact ⟨by rw [← HF.out];rfl,HBR.out⟩
end Go.Proofs.YtikbegmodacopaaGreatDoor
