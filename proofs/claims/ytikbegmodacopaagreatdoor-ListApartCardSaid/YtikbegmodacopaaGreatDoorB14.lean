/-
  Joined and packed by program.
-/
import Derived.Test.YtikbegmodacopaaGreatDoorB13
import Derived.Test.YtikbegmodacopaaGreatDoorB04
import Derived.Deep.LoopGhost
import Derived.Test.YtikbegmodacopaaGreatDoorB01
namespace Go.Proofs.YtikbegmodacopaaGreatDoor
open Go.RowKit Go.PlainAid Go.BigFrame
set_option linter.unusedSimpArgs false
set_option linter.unusedVariables false
set_option maxRecDepth 100000
def natS (p:Int):ByteArray:=⟨#[97,116]⟩ ++ decT p.toNat
set_option maxHeartbeats 1000000 in
theorem static_any (op arg:Int) (n:Nat) (w:World) (a0:0≤arg) (a1:arg<4294967296) (hn:n≤140737488351232) :
  Calls Tryz.prog 41 #[.agg #[.int .u8 op,.int .u32 arg],.int .i64 n] w fun e w'=>e=.returned (.bool (stB n (op,arg)))∧Below w.heap.size w w':=by
 obtain ⟨r,hr⟩:∃ r,r=opR op:=⟨_,rfl⟩
 obtain ⟨b,hb⟩:∃ b,b=opOk op:=⟨_,rfl⟩
 have HI:=hide_ (fun w=>Info_any op w)
 unfold opV at HI
 unfold stB
 dsimp only
 rw [← hr,← hb] at HI
 rw [← hr]
 clear hr hb
 unfold opCells at HI
 have hways:((r.kind:Int) == 3)=true∨(((r.kind:Int) == 3)=false∧((r.kind:Int) == 2)=true)∨(((r.kind:Int) == 3)=false∧((r.kind:Int) == 2)=false):=by
  cases (r.kind:Int) == 3 <;> cases (r.kind:Int) == 2 <;> simp
 have hres:(decide (r.kind=3∨r.kind=2) && decide (arg≤n))=((((r.kind:Int) == 3) || ((r.kind:Int) == 2)) && decide (arg≤(n:Int))):=by
  congr 1
  rw [Bool.eq_iff_iff]
  simp
  omega
 rw [hres]
 clear hres
 rcases hways with h1 | ⟨h1,h2⟩ | ⟨h1,h2⟩
 ·rw [h1,Bool.true_or,Bool.true_and]
  have h3:(r.kind:Int)=3:=by simpa using h1
  clear h1
  obtain ⟨kd,hkd⟩:∃ k:Int,k=(r.kind:Int):=⟨_,rfl⟩
  rw [← hkd] at HI h3
  subst h3
  clear hkd
  go_enter Tryz.func41,Tryz.ntmps41
  go_wp2_with fail
  refine (HI.out _).mono ?_
  rintro e w1 ⟨rfl,hb⟩
  have hc:=(hb.cell (p:=⟨w.heap.size,1,none⟩) (by simp)).trans (show (w.alloc (.cells #[.int .u8 op,.int .u32 arg] 66)).cell? ⟨w.heap.size,1,none⟩=some (.int .u32 arg) from by simp)
  have hz:w.heap.size<w1.heap.size:=by have:=hb.size;simp at this;omega
  have HB:=hide_ (show Below w.heap.size w w1 from ((Below.refl _ _).alloc (Nat.le_refl _) _).trans (hb.mono (by simp)))
  clear hb
  go_wp2
  go_ret
  exact ⟨rfl,(HB.out).alloc HB.out.size _⟩
 ·rw [h1,h2,Bool.false_or,Bool.true_and]
  have h3:(r.kind:Int)=2:=by simpa using h2
  clear h1 h2
  obtain ⟨kd,hkd⟩:∃ k:Int,k=(r.kind:Int):=⟨_,rfl⟩
  rw [← hkd] at HI h3
  subst h3
  clear hkd
  go_enter Tryz.func41,Tryz.ntmps41
  go_wp2_with fail
  refine (HI.out _).mono ?_
  rintro e w1 ⟨rfl,hb⟩
  have hc:=(hb.cell (p:=⟨w.heap.size,1,none⟩) (by simp)).trans (show (w.alloc (.cells #[.int .u8 op,.int .u32 arg] 66)).cell? ⟨w.heap.size,1,none⟩=some (.int .u32 arg) from by simp)
  have hz:w.heap.size<w1.heap.size:=by have:=hb.size;simp at this;omega
  have HB:=hide_ (show Below w.heap.size w w1 from ((Below.refl _ _).alloc (Nat.le_refl _) _).trans (hb.mono (by simp)))
  clear hb
  go_wp2
  go_ret
  exact ⟨rfl,(HB.out).alloc HB.out.size _⟩
 ·rw [h1,h2,Bool.false_or,Bool.false_and]
  go_enter Tryz.func41,Tryz.ntmps41
  go_wp2_with fail
  refine (HI.out _).mono ?_
  rintro e w1 ⟨rfl,hb⟩
  have hz:w.heap.size<w1.heap.size:=by have:=hb.size;simp at this;omega
  have HB:=hide_ (show Below w.heap.size w w1 from ((Below.refl _ _).alloc (Nat.le_refl _) _).trans (hb.mono (by simp)))
  clear hb
  go_wp2
  go_ret
  exact ⟨rfl,(HB.out).alloc HB.out.size _⟩
set_option maxHeartbeats 1000000 in
theorem lam_any (gl gp n c i:Nat) (ad:Addr) (u p:Int) (w:World) (h0:w.cell? ⟨gl,0,none⟩=some (.slice (some ad) n c)) (h1:w.cell? ⟨gp,0,none⟩=some (.int .u32 p)) (h2:w.cell? (ad.add i)=some (.int .u32 u)) (hi:i<n) (hn:n≤140737488351232) :
  Calls Tryz.prog 74 #[.int .i64 i,.pointer (some ⟨gl,0,none⟩),.pointer (some ⟨gp,0,none⟩)] w fun e w'=>e=.returned (.bool (decide (p≤u)))∧Below w.heap.size w w':=by
 go_enter Tryz.func74,Tryz.ntmps74
 go_wp2_with fail
 go_big_quiet (fail)
 go_wp2
 go_ret
 exact ⟨rfl,srt_below _ (Below.refl _ _)⟩
def SearchIs (n:Nat) (p:Nat→Bool) (w:World) (e:Ending) (w':World):Prop :=
 ∃ i:Nat,e=.returned (.int .i64 i)∧i≤n∧(∀ t,t<i→p t=false)∧(∀ t,i≤t→t<n→p t=true)∧Below w.heap.size w w'
set_option maxHeartbeats 2000000 in
theorem search_any (n:Nat) (cb:Array Value) (v1 v2:Value) (hcb:cb=#[v1,v2]) (p:Nat→Bool) (w:World) (hsz:n≤140737488351232)
  (hf:∀ (W:World) (i:Nat),i<n→Below w.heap.size w W→Calls Tryz.prog 74 #[.int .i64 i,v1,v2] W fun e w'=>e=.returned (.bool (p i))∧Below W.heap.size W w')
  (hmono:∀ a b,a≤b→b<n→p a=true→p b=true) :
  Calls Tryz.prog 73 #[.int .i64 n,.func (.func 74) #[] cb] w (SearchIs n p w):=by
 subst hcb
 have HF:=hide_ hf
 have HM:=hide_ hmono
 clear hf hmono
 go_enter Tryz.func73,Tryz.ntmps73
 go_wp2
 go_loopg [5,6] n (fun kx s5 s6 wr=>∃ (lo hi:Nat),s5=.int .i64 lo∧s6=.int .i64 hi∧lo≤hi∧hi≤n∧hi - lo≤kx∧Hid (Below w.heap.size w wr) ∧
  Hid ((∀ t,t<lo→p t=false)∧(∀ t,hi≤t→t<n→p t=true)))
 case atStart=>exact ⟨0,n,rfl,rfl,Nat.zero_le _,Nat.le_refl _,by omega,hide_ (Below.refl _ _),hide_ ⟨fun t ht=>absurd ht (Nat.not_lt_zero _),fun t h1 h2=>by omega⟩⟩
 case round =>
  obtain ⟨lo,hi,rfl,rfl,hlh,hin,hg,HB,HI⟩:=hrel
  by_cases hlt:lo<hi
  ·obtain ⟨m,hm⟩:∃ m,m=(lo+hi) / 2:=⟨_,rfl⟩
   have m1:lo≤m:=by omega
   have m2:m<hi:=by omega
   have hz:((lo:Int)+(hi:Int)) / 2=(m:Int):=by omega
   have HC:=hide_ (HF.out wr m (by omega) HB.out)
   obtain ⟨q,hq⟩:∃ q,q=p m:=⟨_,rfl⟩
   rw [← hq] at HC
   have HQ:=hide_ hq
   clear hm hq
   cases q with
   | false =>
    go_wp2_with fail
    refine HC.out.mono ?_
    rintro e w2 ⟨rfl,hb⟩
    have HB2:=hide_ (HB.out.trans (hb.mono HB.out.size))
    clear hb
    go_wp2
    go_roundg (hi - (m+1))
    case measure=>omega
    case rel=>exact ⟨m+1,hi,by go_num,rfl,by omega,hin,Nat.le_refl _,HB2,hide_ ⟨fun t ht=>(by
      cases h:p t with
      | false=>rfl
      | true=>have:=HM.out t m (by omega) (by omega) h;rw [← HQ.out] at this;cases this),HI.out.2⟩⟩
   | true =>
    go_wp2_with fail
    refine HC.out.mono ?_
    rintro e w2 ⟨rfl,hb⟩
    have HB2:=hide_ (HB.out.trans (hb.mono HB.out.size))
    clear hb
    go_wp2
    go_roundg (m - lo)
    case measure=>omega
    case rel=>exact ⟨lo,m,rfl,rfl,by omega,by omega,Nat.le_refl _,HB2,hide_ ⟨HI.out.1,fun t ht htn=>HM.out m t ht htn HQ.out.symm⟩⟩
  ·obtain rfl:hi=lo:=by omega
   go_wp2
   go_ret
   exact ⟨hi,rfl,hin,HI.out.1,HI.out.2,HB.out⟩
def catL (xs:List ByteArray):ByteArray:=⟨(xs.flatMap (·.data.toList)).toArray⟩
theorem catL_2 (a b:ByteArray):catL [a,b]=a ++ b:=by apply ByteArray.ext;simp [catL]
theorem join_flat (l:List (List UInt8)):Lib.join l []=l.flatten:=by
 cases l with
 | nil=>rfl
 | cons x r=>rw [Lib.join_cons];simp [Lib.joinTail]
theorem joined_any (bk c:Nat) (xs:List ByteArray) (W:World) (hc:∀ (j:Nat) x,xs[j]?=some x→W.cell? ⟨bk,j,none⟩=some (.string x)) (hlt:bk<W.heap.size) (hN:xs.length≤140737488355328) (hcap:xs.length≤c) (hs:(catL xs).size≤140737488355328) :
  Calls Tryz.prog 66 #[.slice (some ⟨bk,0,none⟩) xs.length c] W fun e w'=>e=.returned (.string (catL xs))∧Below W.heap.size W w':=by
 have e1:Lib.join (xs.map (·.data.toList)) (⟨#[]⟩:ByteArray).data.toList=xs.flatMap (·.data.toList):=by
  show Lib.join _ []=_
  rw [join_flat,List.flatMap_def]
 have hJ:=Tryz.strings_Join bk 0 c xs ⟨#[]⟩ W (fun j x hj=>by rw [Nat.zero_add];exact hc j x hj) hlt hN hcap (by
  have e2:(catL xs).size=(xs.flatMap (·.data.toList)).length:=List.size_toArray
  rw [e1,← e2]
  exact hs)
 rw [e1] at hJ
 have HJ:=hide_ hJ
 clear hJ e1 hc hs
 obtain ⟨n,hn⟩:∃ n,n=xs.length:=⟨_,rfl⟩
 rw [← hn] at HJ ⊢
 clear hn hN hcap
 obtain ⟨r,hr⟩:∃ r:ByteArray,r=⟨(xs.flatMap (·.data.toList)).toArray⟩:=⟨_,rfl⟩
 show Calls _ _ _ _ fun e w'=>e=.returned (.string ⟨(xs.flatMap (·.data.toList)).toArray⟩)∧_
 rw [← hr] at HJ ⊢
 clear hr
 go_enter Tryz.func66,Tryz.ntmps66
 go_wp2_with fail
 refine HJ.out.mono ?_
 rintro e w1 ⟨rfl,hb⟩
 have HB:=hide_ hb
 clear hb
 go_wp2
 go_ret
 exact ⟨rfl,HB.out⟩
theorem rise_get {l:List Int} (h:l.Pairwise (· < ·)) {i j:Nat} {a b:Int} (ha:l[i]?=some a) (hb:l[j]?=some b) (hij:i<j):a<b:=by
 obtain ⟨h1,rfl⟩:=List.getElem?_eq_some_iff.1 ha
 obtain ⟨h2,rfl⟩:=List.getElem?_eq_some_iff.1 hb
 exact List.pairwise_iff_getElem.1 h i j h1 h2 hij
theorem find_at {l:List Int} (h:l.Pairwise (· < ·)) {i k:Nat} {p:Int} (hk:l[k]?=some p) (hlo:∀ t,t<i→decide (p≤l[t]?.getD 0)=false) (hhi:∀ t,i≤t→t<l.length→decide (p≤l[t]?.getD 0)=true):i=k:=by
 have hkl:=(List.getElem?_eq_some_iff.1 hk).1
 rcases Nat.lt_trichotomy i k with hlt | he | hgt
 ·have h1:=of_decide_eq_true (hhi i (Nat.le_refl _) (by omega))
  have hi:l[i]?=some (l[i]'(by omega)):=List.getElem?_eq_getElem _
  rw [hi] at h1
  have:=rise_get h hi hk hlt
  simp only [Option.getD_some] at h1
  omega
 ·exact he
 ·have:=of_decide_eq_false (hlo k hgt)
  rw [hk] at this
  simp only [Option.getD_some] at this
  omega
theorem u32s_get {l:List Int} {k:Nat} {v:Int} (h:l[k]?=some v):(u32s l)[k]?=some (.int .u32 v):=by unfold u32s;rw [List.getElem?_map,h];rfl
theorem natS_size (p:Int) (h:p<4294967296):(natS p).size≤22:=by
 unfold natS
 have:=decT_size p.toNat (by omega)
 rw [ByteArray.size_append]
 show 2+_≤22
 omega
set_option maxHeartbeats 4000000 in
theorem lnamed_any (l:List Int) (A:Option Addr) (c k:Nat) (p:Int) (w:World) (hr:Reads w w.heap.size 1 A l.length (u32s l)) (hl:l.length≤140737488351232) (rise:l.Pairwise (· < ·)) (hk:l[k]?=some p) (p0:0≤p) (p1:p<4294967296) (hT:TabOk w) :
  Calls Tryz.prog 40 #[.slice A l.length c,.int .u32 p] w fun e w'=>e=.returned (.string (natS p))∧Below w.heap.size w w':=by
 have hkl:=(List.getElem?_eq_some_iff.1 hk).1
 obtain ⟨ad,rfl,hbk,hcell⟩:=hr.2 (by omega)
 have HCELL:=hide_ (fun (W:World) (hb:Below w.heap.size w W) (t:Nat) (ht:t<l.length)=>show W.cell? (ad.add t)=some (.int .u32 (l[t]?.getD 0)) by
  rw [List.getElem?_eq_getElem ht]
  exact (hb.cell (by rw [block_of_add];exact hbk)).trans (hcell t _ (u32s_get (List.getElem?_eq_getElem ht))))
 have HFIND:=hide_ (fun (i:Nat) hlo hhi=>find_at rise (i:=i) hk hlo hhi)
 have HMONO:=hide_ (fun (a b:Nat) (hab:a≤b) (hb:b<l.length) (h:decide (p≤l[a]?.getD 0)=true)=>show decide (p≤l[b]?.getD 0)=true by
  rcases Nat.eq_or_lt_of_le hab with rfl | hlt
  ·exact h
  ·have h1:=of_decide_eq_true h
   have h2:=rise_get rise (List.getElem?_eq_getElem (show a<l.length by omega)) (List.getElem?_eq_getElem hb) hlt
   rw [List.getElem?_eq_getElem (show a<l.length by omega)] at h1
   rw [List.getElem?_eq_getElem hb]
   simp only [Option.getD_some] at h1 ⊢
   exact decide_eq_true (by omega))
 have HK:=hide_ hk
 have HTAB:=hide_ (fun W (hb:Below w.heap.size w W)=>hT.below hb)
 obtain ⟨n,hn⟩:∃ n,n=l.length:=⟨_,rfl⟩
 rw [← hn] at hl hkl HCELL HFIND HMONO ⊢
 clear hn hr hcell rise hk hT
 obtain ⟨W1,hW1⟩:∃ W,W=(w.alloc (.cells #[.slice (some ad) n c] 23)).alloc (.cells #[.int .u32 p] 25):=⟨_,rfl⟩
 have hs1:W1.heap.size=w.heap.size+2:=by rw [hW1];simp
 have HS1:=hide_ hs1
 have g0:W1.cell? ⟨w.heap.size,0,none⟩=some (.slice (some ad) n c):=by rw [hW1];go_simp
 have g1:W1.cell? ⟨w.heap.size+1,0,none⟩=some (.int .u32 p):=by rw [hW1];go_simp
 have HB1:=hide_ (show Below w.heap.size w W1 by rw [hW1];exact ((Below.refl _ _).alloc (Nat.le_refl _) _).alloc (by simp) _)
 have HG:=hide_ (And.intro g0 g1)
 have SRCH:=hide_ (search_any n _ (.pointer (some ⟨w.heap.size,0,none⟩)) (.pointer (some ⟨w.heap.size+1,0,none⟩)) rfl (fun i=>decide (p≤l[i]?.getD 0)) W1 hl (fun W i hi hb=>by
  have hb2:=HB1.out.trans (hb.mono (by have:=HB1.out.size;omega))
  exact lam_any w.heap.size (w.heap.size+1) n c i ad _ p W ((hb.cell (p:=⟨w.heap.size,0,none⟩) (by rw [HS1.out];show w.heap.size<_;omega)).trans HG.out.1) ((hb.cell (p:=⟨w.heap.size+1,0,none⟩) (by rw [HS1.out];show w.heap.size+1<_;omega)).trans HG.out.2) (HCELL.out W hb2 i hi) hi hl) HMONO.out)
 clear hs1
 go_enter Tryz.func40,Tryz.ntmps40
 go_upto_region 1 with (fail)
 rw [← hW1]
 clear hW1
 go_wp2_with fail
 refine SRCH.out.mono ?_
 rintro e w2 ⟨i,rfl,hi,hlo,hhi,hb2⟩
 obtain rfl:i=k:=HFIND.out i hlo hhi
 have HB2:=hide_ (HB1.out.trans (hb2.mono (by have:=HB1.out.size;omega)))
 have g0:=(hb2.cell (p:=⟨w.heap.size,0,none⟩) (by rw [HS1.out];show w.heap.size<_;omega)).trans g0
 have g1:=(HCELL.out w2 HB2.out i hkl)
 rw [HK.out] at g1
 dsimp only [Option.getD] at g1
 have FU:=hide_ (Uint_any p.toNat (by omega) w2 (HTAB.out w2 HB2.out))
 rw [show ((p.toNat:Nat):Int)=p by omega] at FU
 have NS:=hide_ (show ⟨#[97,116]⟩ ++ decT p.toNat=natS p from rfl)
 have SZ:=hide_ (natS_size p p1)
 obtain ⟨sx,hsx⟩:∃ s,s=decT p.toNat:=⟨_,rfl⟩
 rw [← hsx] at FU NS
 clear hsx hlo hhi hb2 hi
 go_wp2_with fail
 refine FU.out.mono ?_
 rintro e w3 ⟨rfl,hb3⟩
 have HB3:=hide_ (HB2.out.trans (hb3.mono HB2.out.size))
 clear hb3 g0 g1
 have JN:=hide_ (fun (W:World) (bk:Nat) (h:Blk W bk 9 #[.string ⟨#[97,116]⟩,.string sx])=>by
  have:=joined_any bk 2 [⟨#[97,116]⟩,sx] W (fun j x hj=>by
   rw [h.cell]
   match j,hj with
   | 0,hj=>simp at hj;subst hj;rfl
   | 1,hj=>simp at hj;subst hj;rfl
   | j+2,hj=>simp at hj) h.lt (by simp) (Nat.le_refl _) (by rw [catL_2,NS.out];have:=SZ.out;omega)
  rw [catL_2,NS.out] at this
  exact this)
 go_wp2_with fail
 refine (JN.out _ _ (Blk.new w3 _ _)).mono ?_
 rintro e w4 ⟨rfl,hb4⟩
 have HB4:=hide_ ((HB3.out.alloc HB3.out.size _).trans (hb4.mono (by have:=HB3.out.size;simp;omega)))
 clear hb4
 go_wp2
 go_ret
 exact ⟨rfl,HB4.out⟩
end Go.Proofs.YtikbegmodacopaaGreatDoor
namespace Go.Proofs.YtikbegmodacopaaGreatDoor
open Go.RowKit Go.PlainAid Go.BigFrame
set_option linter.unusedSimpArgs false
set_option linter.unusedVariables false
set_option maxRecDepth 100000
def OwnU (W:World) (B:Nat) (v:Value) (l:List Int):Prop:=W.ownsRow B 25 1 v l.length (u32s l)
theorem info_u32p:(Tryz.prog.info? 25).map (fun i=>(i.zero,i.size,i.bytes))=some (some (.int .u32 0),1,4):=by kernel_rfl
theorem own_lo {W:World} {B B':Nat} {e:TypeId} {size n:Nat} {v:Value} {xs:List Value} (h:W.ownsRow B e size v n xs) (hB:B'≤B):W.ownsRow B' e size v n xs:=by
 refine ⟨h.1,?_⟩
 rcases h.2 with h2 | ⟨g,cap,cur,hv,hg,rest⟩
 ·exact .inl h2
 ·exact .inr ⟨g,cap,cur,hv,by omega,rest⟩
theorem OwnU.owns {W:World} {B:Nat} {v:Value} {l:List Int} (h:OwnU W B v l):Owns W B [⟨25,1,v,l.length,u32s l⟩]:=⟨fun q hq=>by rw [List.mem_singleton.1 hq];exact h,List.pairwise_singleton _ _⟩
theorem OwnU.below {W W':World} {B:Nat} {v:Value} {l:List Int} (h:OwnU W B v l) (hb:Below W.heap.size W W'):OwnU W' B v l:=(h.owns.below hb).at_ (i:=0) rfl
theorem OwnU.alloc {W:World} {B:Nat} {v:Value} {l:List Int} (h:OwnU W B v l) (o:Obj):OwnU (W.alloc o) B v l:=(h.owns.alloc o).at_ (i:=0) rfl
theorem OwnU.slice {W:World} {B:Nat} {v:Value} {l:List Int} (h:OwnU W B v l):∃ A c,v=.slice A l.length c:=by
 obtain ⟨A,c,e,_,_⟩:=ownsRow_slice h
 exact ⟨A,c,e⟩
theorem app_u32 {ops:Array Oper} {rest:List Oper} {o:Oper} {a:Act} {Q:Exit→Act→World→Prop} (hgd:o.guard=none) (s x:Operand)
  (ho:o.op=.call { callee:=.builtin .append,args:=#[s,x],argTypes:=#[23,23] }) (W:World) (B:Nat) (v:Value) (l:List Int) (y:Int) (hs:a.eval s=v) (hO:OwnU W B v l) (hB:B≤W.heap.size)
  {g:Nat} (hx:a.eval x=.slice (some ⟨g,0,none⟩) 1 1) (hg:g=W.heap.size) (hk:l.length≤17592186043904)
  (h:∀ v' w',OwnU w' B v' (l ++ [y])→Below B W w'→wpList Tryz.prog ops Q rest (a.put o.dst v') w'):wpList Tryz.prog ops Q (o :: rest) a (W.alloc (.cells #[.int .u32 y] 25)):=by
 subst hg
 obtain ⟨i0,hi,hz0,hz1,hz2⟩:=info_parts info_u32p
 refine wpList_append_owns _ hgd s x 23 ho B _ 0 25 1 v l.length (u32s l) rfl (hO.owns.alloc _) (by rw [World.size_alloc];omega) i0 _ 4 Tryz.underlying23 hi hz0 hz1 hz2 rfl (by omega) hs _ _ 1 1 [.int .u32 y] hx (reads_new W 25 1 1 [.int .u32 y] rfl) (by simp [Value.oneCell']) (by simp only [maxLen];omega) (by omega) ?_
 intro v' w' hO' hb' _
 refine h v' w' ?_ (((Below.refl _ _).alloc hB _).trans hb')
 have:=hO'.at_ (i:=0) rfl
 unfold OwnU u32s
 rw [List.length_append,List.map_append]
 exact this
def PlcIs (x:ImgV) (w:World) (e:Ending) (w':World):Prop :=
 if begB x=true then ∃ v,e=.returned (.tuple #[v,.bool true])∧OwnU w' w.heap.size v (plc x)∧Below w.heap.size w w'
 else e=.returned (.tuple #[.slice none 0 0,.bool false])∧Below w.heap.size w w'
theorem plc_no {x:ImgV} {w w':World} (h:begB x=false) (hb:Below w.heap.size w w'):PlcIs x w (.returned (.tuple #[.slice none 0 0,.bool false])) w':=by
 unfold PlcIs;rw [if_neg (by rw [h];exact Bool.false_ne_true)];exact ⟨rfl,hb⟩
theorem plc_yes {x:ImgV} {w w':World} {v:Value} (h:begB x=true) (ho:OwnU w' w.heap.size v (plc x)) (hb:Below w.heap.size w w'):PlcIs x w (.returned (.tuple #[v,.bool true])) w':=by
 unfold PlcIs;rw [if_pos h];exact ⟨v,rfl,ho,hb⟩
theorem take_at {α β:Type} (f:α→β) {l:List α} {k:Nat} {t:α} (h:l[k]?=some t):(l.take (k+1)).map f=(l.take k).map f ++ [f t]:=by
 rw [List.take_add_one,h];simp
theorem takeU_at {l:List Int} {k:Nat} {t:Int} (h:l[k]?=some t):l.take (k+1)=l.take k ++ [t]:=by
 rw [List.take_add_one,h];simp
theorem takeF_at {α:Type} (p:α→Bool) (f:α→Int) {l:List α} {k:Nat} {t:α} (h:l[k]?=some t):((l.take (k+1)).filter p).map f=((l.take k).filter p).map f ++ (if p t=true then [f t] else []):=by
 rw [List.take_add_one,h,List.filter_append,List.map_append]
 congr 1
 cases hp:p t <;> simp [List.filter_cons,hp]
theorem jmpsB_of {x:ImgV} (h:jmpsB x=false):begB x=false:=by unfold begB;rw [h];rfl
theorem natB_of {x:ImgV} (h:natB x=false):begB x=false:=by unfold begB;rw [h,Bool.and_false]
set_option maxHeartbeats 16000000 in
theorem places_any (x:ImgV) (s:ImgS) (w:World) (hx:ImgOk x) (hr:ImgR w w.heap.size x s) (hbd:x.code.length≤16384∧x.jumps.length≤16384∧x.names.length≤64):Calls Tryz.prog 37 #[.agg (imgV x s)] w (PlcIs x w):=by
 obtain ⟨l1,l2,l4⟩:=hbd
 have l3:=hx.lens.2.2.1
 have HOK:=hide_ hx
 have HR:=hide_ hr
 obtain ⟨W1,hW1⟩:∃ W,W=w.alloc (.cells (imgV x s) 28):=⟨_,rfl⟩
 have HB1:=hide_ (show Below w.heap.size w W1 by rw [hW1];exact (Below.refl _ _).alloc (Nat.le_refl _) _)
 have HK1:=hide_ (show Blk W1 w.heap.size 28 (imgV x s) by rw [hW1];exact Blk.new w _ _)
 have hlt0:w.heap.size<W1.heap.size:=by rw [hW1];simp
 have HAT:=hide_ (fun W (hb:Below W1.heap.size W1 W)=>img_cells (HK1.out.below hb hlt0))
 have FIN:=hide_ (fun W (hb:Below W1.heap.size W1 W)=>show Below w.heap.size w W from HB1.out.trans (hb.mono (by omega)))
 have HRC:=hide_ (fun W (hb:Below W1.heap.size W1 W)=>HR.out.rc.below (FIN.out W hb))
 have HRJ:=hide_ (fun W (hb:Below W1.heap.size W1 W)=>HR.out.rj.below (FIN.out W hb))
 have HRN:=hide_ (fun W (hb:Below W1.heap.size W1 W)=>HR.out.rn.below (FIN.out W hb))
 have NO:=hide_ (fun W (h:begB x=false) (hb:Below W1.heap.size W1 W)=>plc_no h (FIN.out W hb))
 have YES:=hide_ (fun W v (h:begB x=true) (ho:OwnU W W1.heap.size v (plc x)) (hb:Below W1.heap.size W1 W)=>plc_yes h (own_lo ho (Nat.le_of_lt hlt0)) (FIN.out W hb))
 have ALLP:=hide_ (show allP x=x.jumps ++ x.names.map (·.at_) ++ (x.code.filter (stB x.code.length)).map (·.2) from rfl)
 clear HR HK1 HB1 hr hx
 unfold imgV at hW1 ⊢
 obtain ⟨⟨cA,cc⟩,⟨jA,jc⟩,⟨dA,dc⟩,⟨nA,nc⟩⟩:=s
 dsimp only at hW1 HAT HRC HRJ HRN ⊢
 obtain ⟨nC,hnC⟩:∃ n,n=x.code.length:=⟨_,rfl⟩
 obtain ⟨nJ,hnJ⟩:∃ n,n=x.jumps.length:=⟨_,rfl⟩
 obtain ⟨nN,hnN⟩:∃ n,n=x.names.length:=⟨_,rfl⟩
 rw [← hnC] at l1 HAT HRC hW1 ALLP ⊢
 rw [← hnJ] at l2 HAT HRJ hW1 ⊢
 rw [← hnN] at l4 HAT HRN hW1 ⊢
 have HN:=hide_ (And.intro hnC (And.intro hnJ hnN))
 clear hnC hnJ hnN
 go_enter Tryz.func37,Tryz.ntmps37
 go_upto_region 2 with (fail)
 rw [← hW1]
 clear hW1
 have HBW:=hide_ (Below.refl W1.heap.size W1)
 obtain ⟨f0,f1,f2,f3,f4,f5⟩:=HAT.out W1 HBW.out
 go_wp2_with fail
 clear f0 f1 f2 f3 f4 f5
 go_loopw [4,19] (fun v i wr=>∃ k:Nat,k≤nJ∧i=.int .i64 k∧Hid (OwnU wr W1.heap.size v (x.jumps.take k))∧Hid (∀ t,t<k→jmpOk x t=true)∧Hid (Below W1.heap.size W1 wr)) (fun _ i _=>nJ - (intOf i).toNat)
 case atStart=>exact ⟨0,Nat.zero_le _,rfl,hide_ (World.ownsRow_nil _ _ _ _),hide_ (fun t ht=>absurd ht (by omega)),HBW⟩
 case round =>
  clear HBW
  obtain ⟨k,hk,rfl,HO,HJ,HB⟩:=hrel
  obtain ⟨f0,f1,f2,f3,f4,f5⟩:=HAT.out wr HB.out
  by_cases hlt:k<nJ
  ·obtain ⟨j,hj⟩:∃ j,x.jumps[k]?=some j:=⟨_,List.getElem?_eq_getElem (by have:=HN.out.2.1;omega)⟩
   obtain ⟨j0,j1⟩:=HOK.out.jumps j (List.mem_of_getElem? hj)
   obtain ⟨ad,rfl,hbk,hcell⟩:=(HRJ.out wr HB.out).2 (by omega)
   have q0:=hcell k _ (u32s_get hj)
   have NEXT:=hide_ (takeU_at hj)
   have ONE:=hide_ (fun (h:jmpOk x k=true)=>show ∀ t,t<k+1→jmpOk x t=true from fun t ht=>(by
    by_cases e:t=k
    ·rw [e];exact h
    ·exact HJ.out t (by omega)))
   have BAD:=hide_ (fun (h:jmpOk x k=false)=>NO.out wr (jmpsB_of (jmpsB_no (by have:=HN.out.2.1;omega) h)) HB.out)
   have hlk:=HN.out.2.1
   have HTL:=hide_ (show (x.jumps.take k).length≤17592186043904 by have:=List.length_take_le k x.jumps;omega)
   clear hlk
   cases k with
   | zero =>
    have HOK0:=jmpOk_0 hj
    rw [← HN.out.1] at HOK0
    have q1:wr.cell? ad=some (.int .u32 j):=by simpa [Addr.add] using q0
    have z0:decide ((0:Int)<((0:Nat):Int))=false:=rfl
    by_cases hjn:j≤nC
    ·have c1:¬ (nC:Int)<j:=by omega
     have F:=hide_ (ONE.out (by rw [HOK0];exact decide_eq_true hjn))
     clear HOK0 hcell hj
     go_wp2_with (at_builtin;refine app_u32 rfl (.tmp 42) (.tmp 44) rfl wr W1.heap.size _ _ j rfl HO.out HB.out.size rfl rfl HTL.out ?_)
     intro v1 w1 hO1 hb1
     have HO1:=hide_ hO1
     have HB1:=hide_ (HB.out.trans hb1)
     clear hO1 hb1
     go_wp2
     go_roundw
     case rel=>exact ⟨0+1,by omega,by go_num,hide_ (by rw [NEXT.out];exact HO1.out),F,HB1⟩
     case measure=>simp [intOf] <;> omega
    ·have c1:(nC:Int)<j:=by omega
     have F:=hide_ (BAD.out (by rw [HOK0];exact decide_eq_false hjn))
     clear HOK0 hcell hj
     go_wp2
     go_ret2
     exact F.out
   | succ m =>
    obtain ⟨p,hp⟩:∃ p,x.jumps[m]?=some p:=⟨_,List.getElem?_eq_getElem (by have:=HN.out.2.1;omega)⟩
    have q1:=hcell m _ (u32s_get hp)
    have q2:wr.cell? ⟨ad.block,ad.off+(m+1),none⟩=some (.int .u32 j):=by simpa [Addr.add] using q0
    have HOK0:=jmpOk_s hj hp
    rw [← HN.out.1] at HOK0
    have z0:decide ((0:Int)<(m:Int)+1)=true:=decide_eq_true (by omega)
    by_cases hjn:j≤nC
    ·have c1:¬ (nC:Int)<j:=by omega
     by_cases hpj:p<j
     ·have c2:¬ j≤p:=by omega
      have F:=hide_ (ONE.out (by rw [HOK0,decide_eq_true hjn,decide_eq_true hpj];rfl))
      clear HOK0 hcell hj hp
      go_wp2_with (at_builtin;refine app_u32 rfl (.tmp 42) (.tmp 44) rfl wr W1.heap.size _ _ j rfl HO.out HB.out.size rfl rfl HTL.out ?_)
      intro v1 w1 hO1 hb1
      have HO1:=hide_ hO1
      have HB1:=hide_ (HB.out.trans hb1)
      clear hO1 hb1
      go_wp2
      go_roundw
      case rel=>exact ⟨m+1+1,by omega,by go_num,hide_ (by rw [NEXT.out];exact HO1.out),F,HB1⟩
      case measure=>simp [intOf] <;> omega
     ·have c2:j≤p:=by omega
      have F:=hide_ (BAD.out (by rw [HOK0,decide_eq_false hpj,Bool.and_false]))
      clear HOK0 hcell hj hp
      go_wp2
      go_ret2
      exact F.out
    ·have c1:(nC:Int)<j:=by omega
     have F:=hide_ (BAD.out (by rw [HOK0,decide_eq_false hjn];rfl))
     clear HOK0 hcell hj hp
     go_wp2
     go_ret2
     exact F.out
  ·obtain rfl:k=nJ:=by omega
   have JOK:=hide_ (show jmpsB x=true from jmpsB_all fun t ht=>HJ.out t (by rw [HN.out.2.1];exact ht))
   have HO2:=hide_ (show OwnU wr W1.heap.size u4 (x.jumps ++ (x.names.take 0).map (·.at_)) by
    have h9:=HO.out
    rw [List.take_of_length_le (by rw [HN.out.2.1];exact Nat.le_refl _)] at h9
    simpa using h9)
   clear HO HJ
   go_wp2_with fail
   obtain ⟨wo,rfl⟩:∃ wo:World,wo=wr:=⟨_,rfl⟩
   go_loopw [4,50] (fun v i wr=>∃ k:Nat,k≤nN∧i=.int .i64 k∧Hid (OwnU wr W1.heap.size v (x.jumps ++ (x.names.take k).map (·.at_)))∧Hid (∀ t,t<k→∀ e,x.names[t]?=some e→e.at_≤x.code.length)∧Hid (Below W1.heap.size W1 wr)) (fun _ i _=>nN - (intOf i).toNat)
   case atStart=>exact ⟨0,Nat.zero_le _,rfl,HO2,hide_ (fun t ht=>absurd ht (by omega)),HB⟩
   case round =>
    clear HO2 HB f0 f1 f2 f3 f4 f5
    obtain ⟨k,hk,rfl,HO,HA,HB⟩:=hrel
    obtain ⟨f0,f1,f2,f3,f4,f5⟩:=HAT.out wr HB.out
    have hbz:w.heap.size<wr.heap.size:=by have:=HB.out.size;omega
    by_cases hlt:k<nN
    ·obtain ⟨t,ht⟩:∃ t,x.names[k]?=some t:=⟨_,List.getElem?_eq_getElem (by have:=HN.out.2.2;omega)⟩
     obtain ⟨_,a0,a1⟩:=HOK.out.names t (List.mem_of_getElem? ht)
     obtain ⟨_,ad,rfl,hbk,p0,p1⟩:=el_cells xE_len (HRN.out wr HB.out) (by omega) ht
     have q0:=p0 _ rfl
     have q1:=p1 1 _ (by omega) rfl
     have NEXT:=hide_ (show x.jumps ++ (x.names.take (k+1)).map (·.at_)=x.jumps ++ (x.names.take k).map (·.at_) ++ [t.at_] by rw [take_at _ ht,List.append_assoc])
     have HTL:=hide_ (show (x.jumps ++ (x.names.take k).map (·.at_)).length≤17592186043904 by
      have:=List.length_take_le k x.names
      have:=HN.out.2.1
      rw [List.length_append,List.length_map]
      omega)
     have ONE:=hide_ (fun (h:t.at_≤x.code.length)=>show ∀ r,r<k+1→∀ e,x.names[r]?=some e→e.at_≤x.code.length from fun r hr e he=>(by
      by_cases h2:r=k
      ·rw [h2,ht] at he;injection he with he;rw [← he];exact h
      ·exact HA.out r (by omega) e he))
     have BAD:=hide_ (fun (h:¬ t.at_≤x.code.length) W hb=>NO.out W (natB_of (natB_no ht h)) hb)
     rw [← HN.out.1] at ONE BAD
     obtain ⟨nm,at_⟩:=t
     dsimp only at q0 q1 a0 a1 NEXT ONE BAD
     clear p0 p1 ht
     have HBA:=hide_ (HB.out.alloc HB.out.size (.cells #[.string nm,.int .u32 at_] 44))
     by_cases hjn:at_≤nC
     ·have c1:¬ (nC:Int)<at_:=by omega
      have F:=hide_ (ONE.out hjn)
      go_wp2_with (at_builtin;refine app_u32 rfl (.tmp 59) (.tmp 62) rfl (wr.alloc (.cells #[.string nm,.int .u32 at_] 44)) W1.heap.size _ _ at_ rfl (HO.out.alloc _) HBA.out.size rfl (by simp) HTL.out ?_)
      intro v1 w1 hO1 hb1
      have HO1:=hide_ hO1
      have HB1:=hide_ (HBA.out.trans hb1)
      clear hO1 hb1
      go_wp2
      go_roundw
      case rel=>exact ⟨k+1,by omega,by go_num,hide_ (by rw [NEXT.out];have h9:=HO1.out;simpa [List.map_take] using h9),by rw [HN.out.1] at F;exact F,HB1⟩
      case measure=>simp [intOf] <;> omega
     ·have c1:(nC:Int)<at_:=by omega
      have F:=hide_ (BAD.out hjn _ HBA.out)
      go_wp2
      go_ret2
      exact F.out
    ·obtain rfl:k=nN:=by omega
     have NOK:=hide_ (show begB x=true by
      unfold begB natB
      rw [JOK.out,Bool.true_and,List.all_eq_true]
      intro e he
      obtain ⟨r,hr⟩:=List.mem_iff_getElem?.1 he
      exact decide_eq_true (HA.out r (by have:=(List.getElem?_eq_some_iff.1 hr).1;have:=HN.out.2.2;omega) e hr))
     have HO2:=hide_ (show OwnU wr W1.heap.size u4 (x.jumps ++ x.names.map (·.at_) ++ ((x.code.take 0).filter (stB nC)).map (·.2)) by
      have h9:=HO.out
      rw [List.take_of_length_le (by rw [HN.out.2.2];exact Nat.le_refl _)] at h9
      simpa using h9)
     clear HO HA
     go_wp2_with fail
     obtain ⟨wo2,rfl⟩:∃ wo:World,wo=wr:=⟨_,rfl⟩
     go_loopw [4,68] (fun v i wr=>∃ k:Nat,k≤nC∧i=.int .i64 k∧Hid (OwnU wr W1.heap.size v (x.jumps ++ x.names.map (·.at_) ++ ((x.code.take k).filter (stB nC)).map (·.2)))∧Hid (Below W1.heap.size W1 wr)) (fun _ i _=>nC - (intOf i).toNat)
     case atStart=>exact ⟨0,Nat.zero_le _,rfl,HO2,HB⟩
     case round =>
      clear HO2 HB f0 f1 f2 f3 f4 f5 hbz
      obtain ⟨k,hk,rfl,HO,HB⟩:=hrel
      obtain ⟨f0,f1,f2,f3,f4,f5⟩:=HAT.out wr HB.out
      have hbz:w.heap.size<wr.heap.size:=by have:=HB.out.size;omega
      have HTL:=hide_ (show (x.jumps ++ x.names.map (·.at_) ++ ((x.code.take k).filter (stB nC)).map (·.2)).length≤17592186043904 by
       have:=List.length_take_le k x.code
       have:=List.length_filter_le (stB nC) (x.code.take k)
       have:=HN.out.2
       rw [List.length_append,List.length_append,List.length_map,List.length_map]
       omega)
      by_cases hlt:k<nC
      ·obtain ⟨t,ht⟩:∃ t,x.code[k]?=some t:=⟨_,List.getElem?_eq_getElem (by have:=HN.out.1;omega)⟩
       obtain ⟨_,a0,a1⟩:=HOK.out.code t (List.mem_of_getElem? ht)
       obtain ⟨_,ad,rfl,hbk,p0,p1⟩:=el_cells cE_len (HRC.out wr HB.out) (by omega) ht
       have q0:=p0 _ rfl
       have q1:=p1 1 _ (by omega) rfl
       have NEXT:=hide_ (congrArg (fun q=>x.jumps ++ x.names.map (·.at_) ++ q) (takeF_at (stB nC) (·.2) ht))
       obtain ⟨op,arg⟩:=t
       dsimp only at q0 q1 a0 a1 NEXT
       have HST:=hide_ (fun W=>static_any op arg nC W a0 a1 (by omega))
       obtain ⟨b,hb⟩:∃ b,b=stB nC (op,arg):=⟨_,rfl⟩
       rw [← hb] at HST NEXT
       clear hb p0 p1 ht
       have HBA:=hide_ (HB.out.alloc HB.out.size (.cells #[.int .u8 op,.int .u32 arg] 66))
       have e1:(wr.alloc (.cells #[.int .u8 op,.int .u32 arg] 66)).cell? ⟨wr.heap.size,1,none⟩=some (.int .u32 arg):=by simp
       go_wp2_with fail
       refine (HST.out _).mono ?_
       rintro e w3 ⟨rfl,hb3⟩
       have e1:=(hb3.cell (p:=⟨wr.heap.size,1,none⟩) (by simp)).trans e1
       have HO3:=hide_ ((HO.out.alloc (.cells #[.int .u8 op,.int .u32 arg] 66)).below hb3)
       have HB3:=hide_ (HBA.out.trans (hb3.mono HBA.out.size))
       clear hb3 f0 f1 f2 f3 f4 f5 q0 q1 HO HB HBA
       cases b with
       | true =>
        go_wp2_with (at_builtin;refine app_u32 rfl (.tmp 77) (.tmp 80) rfl w3 W1.heap.size _ _ arg rfl HO3.out HB3.out.size rfl rfl HTL.out ?_)
        intro v1 w4 hO1 hb1
        have HO1:=hide_ hO1
        have HB1:=hide_ (HB3.out.trans hb1)
        clear hO1 hb1
        go_wp2
        go_roundw
        case rel=>exact ⟨k+1,by omega,by go_num,hide_ (by have h9:=HO1.out;have h8:=NEXT.out;simp only [if_true] at h8;rw [h8];simpa using h9),HB1⟩
        case measure=>simp [intOf] <;> omega
       | false =>
        go_wp2
        go_roundw
        case rel=>exact ⟨k+1,by omega,by go_num,hide_ (by have h9:=HO3.out;have h8:=NEXT.out;simp only [Bool.false_eq_true,if_false,List.append_nil] at h8;rw [h8];exact h9),HB3⟩
        case measure=>simp [intOf] <;> omega
      ·obtain rfl:k=nC:=by omega
       have HO2:=hide_ (show OwnU wr W1.heap.size u4 (allP x) by
        have h9:=HO.out
        rw [List.take_of_length_le (by rw [HN.out.1];exact Nat.le_refl _)] at h9
        rw [ALLP.out]
        exact h9)
       have HTA:=hide_ (show (allP x).length<4611686018427387904 by
        have h9:=HTL.out
        rw [List.take_of_length_le (by rw [HN.out.1];exact Nat.le_refl _),← ALLP.out] at h9
        omega)
       have HTM:=hide_ (show ((allP x).mergeSort fun a b=>decide (a≤b)).length=(allP x).length from List.length_mergeSort _)
       clear HO HTL f0 f1 f2 f3 f4 f5
       go_wp2_with fail
       refine (srt_row (B:=W1.heap.size) (ix:=0) (rs:=[⟨25,1,_,(allP x).length,u32s (allP x)⟩]) rfl HO2.out.owns HTA.out).mono ?_
       rintro e w3 ⟨rfl,hO3,hb3⟩
       have HB3:=hide_ (HB.out.trans hb3)
       have HO3:=hide_ (show Owns w3 W1.heap.size [⟨25,1,u4,((allP x).mergeSort fun a b=>decide (a≤b)).length,((allP x).mergeSort fun a b=>decide (a≤b)).map (Value.int .u32)⟩] by rw [HTM.out];exact hO3)
       clear hO3 hb3 HO2 HB
       go_wp2_with fail
       refine (cpt_row (B:=W1.heap.size) (ix:=0) (rs:=[⟨25,1,_,_,_⟩]) rfl HO3.out HB3.out.size (by rw [HTM.out];exact HTA.out)).mono ?_
       rintro e w4 ⟨v',rfl,hO4,hb4⟩
       have F:=hide_ (YES.out w4 v' NOK.out (hO4.at_ (i:=0) rfl) (HB3.out.trans hb4))
       clear hO4 hb4
       go_wp2
       go_ret2
       exact F.out
end Go.Proofs.YtikbegmodacopaaGreatDoor
namespace Go.Proofs.YtikbegmodacopaaGreatDoor
set_option maxRecDepth 100000
open Go.RowKit
set_option linter.unusedVariables false
section
variable {P:Program} (w:World)
end
end Go.Proofs.YtikbegmodacopaaGreatDoor
namespace Go.Proofs.YtikbegmodacopaaGreatDoor
set_option maxRecDepth 100000
open Go.RowKit
set_option linter.unusedVariables false
section
variable {P:Program} (w:World)
end
theorem Owns.pick {w:World} {B:Nat} {l m:List Ro} (h:Owns w B l) (d:List Ro)
  (hc:∀ (cnt:List Ro→Nat) (one:Ro→Nat),(∀ x y,cnt (x ++ y)=cnt x+cnt y)→(∀ x l,cnt (x :: l)=one x+cnt l)→cnt []=0→cnt l=cnt d+cnt m):Owns w B m:=by
 classical
 have hp:l.Perm (d ++ m):=List.perm_iff_count.2 fun a=>by
  rw [List.count_append]
  exact hc (fun l=>List.count a l) (fun x=>if x == a then 1 else 0) (fun x y=>List.count_append) (fun x l=>by rw [List.count_cons];omega) rfl
 exact (h.swap hp).sub (List.sublist_append_right _ _)
theorem Owns.perm {w:World} {B:Nat} {l m:List Ro} (h:Owns w B l)
  (hc:∀ (cnt:List Ro→Nat) (one:Ro→Nat),(∀ x y,cnt (x ++ y)=cnt x+cnt y)→(∀ x l,cnt (x :: l)=one x+cnt l)→cnt []=0→cnt l=cnt m):Owns w B m :=
 h.pick [] fun cnt one h1 h2 h3=>by rw [h3,hc cnt one h1 h2 h3];omega
end Go.Proofs.YtikbegmodacopaaGreatDoor
