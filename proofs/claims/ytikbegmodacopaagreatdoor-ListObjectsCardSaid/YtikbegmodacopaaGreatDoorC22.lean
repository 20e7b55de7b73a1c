/-
  Joined and packed by program.
-/
import Derived.Test.YtikbegmodacopaaGreatDoorC21
import Derived.Test.YtikbegmodacopaaGreatDoorC19
import Derived.Test.YtikbegmodacopaaGreatDoorC04
namespace Go.Proofs.YtikbegmodacopaaGreatDoor
open Go.RowKit Go.PlainAid
set_option linter.unusedSimpArgs false
set_option linter.unusedVariables false
set_option maxRecDepth 100000
theorem stopG_eq {x:ObjV}:∀ (f j m:Nat),j≤m→m≤j+f→(∀ i,j≤i→i<m→i<x.data.length∧clearD x i=true)→(m=j+f∨¬ (m<x.data.length∧clearD x m=true))→stopG x f j=m
 | 0,j,m,h1,h2,_,_=>by rw [stopG];omega
 | f+1,j,m,h1,h2,h3,h4=>by
  rw [stopG]
  by_cases hjm:j=m
  ·subst hjm
   rw [if_neg]
   rcases h4 with h4 | h4
   ·omega
   ·exact h4
  ·rw [if_pos (h3 j (Nat.le_refl _) (by omega))]
   exact stopG_eq f (j+1) m (by omega) (by omega) (fun i h5 h6=>h3 i (by omega) h6) (by rcases h4 with h4 | h4;exact .inl (by omega);exact .inr h4)
theorem atL_none {L R:List LabV} {s p j:Int} (h:LeftL L R s p) (hj:p≤j) (hn:∀ l,R.head?=some l→l.sec=s→j<l.at_):atL L s j=e0B:=by
 obtain ⟨D,rfl,hb⟩:=h.all_
 unfold atL
 rw [List.filter_eq_nil_iff.2]
 ·rfl
 ·intro l hl hc
  unfold labAt at hc
  rw [Bool.and_eq_true,decide_eq_true_eq,decide_eq_true_eq] at hc
  rcases List.mem_append.1 hl with hl | hl
  ·have:=hb l hl;unfold befL at this;omega
  ·cases R with
   | nil=>cases hl
   | cons r R =>
    have h1:=hn r rfl
    have h2:=h.rest r (by simp)
    unfold befL at h2
    rcases List.mem_cons.1 hl with rfl | hl
    ·have:=h1 hc.1;omega
    ·have h3:=(List.pairwise_cons.1 h.rise).1 l hl
     unfold leL at h3
     by_cases hs:r.sec=s
     ·have:=h1 hs;omega
     ·omega
theorem fixT_none' {L R:List FixV} {s p j:Int} (h:LeftF L R s p) (hj:p≤j) (hn:∀ l,R.head?=some l→l.sec=s→j<l.at_):fixT L s j=e0B:=by
 obtain ⟨D,rfl,hb⟩:=h.all_
 unfold fixT
 rw [List.find?_eq_none.2]
 intro l hl hc
 unfold fixAtB at hc
 rw [Bool.and_eq_true,decide_eq_true_eq,decide_eq_true_eq] at hc
 rcases List.mem_append.1 hl with hl | hl
 ·have:=hb l hl;unfold befF at this;omega
 ·cases R with
  | nil=>cases hl
  | cons r R =>
   have h1:=hn r rfl
   have h2:=h.rest r (by simp)
   unfold befF at h2
   rcases List.mem_cons.1 hl with rfl | hl
   ·have:=h1 hc.1;omega
   ·have h3:=(List.pairwise_cons.1 h.rise).1 l hl
    unfold ltF at h3
    by_cases hs:r.sec=s
    ·have:=h1 hs;omega
    ·omega
theorem atL_some {L:List LabV} {l:LabV} {s j:Int} (hl:l ∈ L) (h1:l.sec=s) (h2:l.at_=j):atL L s j≠e0B:=by
 intro e
 have h3:l ∈ L.filter (labAt s j):=List.mem_filter.2 ⟨hl,by simp [labAt,h1,h2]⟩
 unfold atL at e
 have key:∀ K:List LabV,l ∈ K→0<(cat (K.map labLn)).size:=by
  intro K
  induction K with
  | nil=>intro h;cases h
  | cons a K ih =>
   intro h
   rw [List.map_cons,cat,ba_size]
   rcases List.mem_cons.1 h with rfl | h
   ·have:0<(labLn l).size:=by rw [labLn,ba_size];have:(⟨#[58,10]⟩:ByteArray).size=2:=rfl;omega
    omega
   ·have:=ih h;omega
 have:=key _ h3
 rw [e] at this
 exact absurd this (by decide)
theorem fixT_some {L:List FixV} {l:FixV} {s j:Int} (hl:l ∈ L) (h1:l.sec=s) (h2:l.at_=j) (hn:∀ f ∈ L,f.name≠e0B):fixT L s j≠e0B:=by
 unfold fixT
 cases h:L.find? (fixAtB s j) with
 | none=>exact absurd (by simp [fixAtB,h1,h2]) (List.find?_eq_none.1 h l hl)
 | some f=>exact fixTx_ne (hn f (List.mem_of_find?_eq_some h))
theorem stop_eq {x:ObjV} (hok:okB x=true) {RL:List LabV} {RF:List FixV} {k:Nat} (hL:LeftL x.labels RL 2 ((k:Int)+1)) (hF:LeftF x.fixes RF 2 ((k:Int)+1)) (hk:k<x.data.length) :
  min ((k:Int)+16) (untilV RL RF 2 ((k:Int)+1) x.data.length)=(stopK x k:Int)∧stopK x k≤x.data.length∧LeftL x.labels RL 2 (stopK x k)∧LeftF x.fixes RF 2 (stopK x k):=by
 obtain ⟨m,hm⟩:∃ m:Int,m=min ((k:Int)+16) (untilV RL RF 2 ((k:Int)+1) x.data.length):=⟨_,rfl⟩
 have hl:∀ l,RL.head?=some l→l.sec=2→m≤l.at_∧(k:Int)+1≤l.at_:=by
  intro l h1 h2
  have h3:=hL.rest l (List.mem_of_mem_head? h1)
  unfold befL at h3
  have h4:(k:Int)+1≤l.at_:=by omega
  refine ⟨?_,h4⟩
  rw [hm,untilV,h1,Option.map_some,minB_yes h2 h4]
  cases RF.head? with
  | none=>simp only [Option.map_none,minB];omega
  | some f =>
   simp only [Option.map_some,minB]
   split <;> omega
 have hf:∀ l,RF.head?=some l→l.sec=2→m≤l.at_∧(k:Int)+1≤l.at_:=by
  intro l h1 h2
  have h3:=hF.rest l (List.mem_of_mem_head? h1)
  unfold befF at h3
  have h4:(k:Int)+1≤l.at_:=by omega
  refine ⟨?_,h4⟩
  rw [hm,untilV,h1,Option.map_some,minB_yes h2 h4]
  omega
 have hcase:m=(k:Int)+16∨m=x.data.length∨(∃ l,RL.head?=some l∧l.sec=2∧m=l.at_)∨(∃ l,RF.head?=some l∧l.sec=2∧m=l.at_):=by
  rw [hm,untilV]
  cases h1:RL.head? with
  | none =>
   simp only [Option.map_none,minB]
   cases h2:RF.head? with
   | none=>simp only [Option.map_none];omega
   | some f =>
    simp only [Option.map_some]
    by_cases h3:f.sec=2∧(k:Int)+1≤f.at_
    ·rw [if_pos h3]
     rcases Int.le_total ((k:Int)+16) (min (x.data.length:Int) f.at_) with h5 | h5
     ·left;omega
     ·rcases Int.le_total (x.data.length:Int) f.at_ with h6 | h6
      ·right;left;omega
      ·right;right;right;exact ⟨f,rfl,h3.1,by omega⟩
    ·rw [if_neg h3];omega
  | some l =>
   simp only [Option.map_some,minB]
   by_cases h4:l.sec=2∧(k:Int)+1≤l.at_
   ·rw [if_pos h4]
    cases h2:RF.head? with
    | none =>
     simp only [Option.map_none]
     rcases Int.le_total ((k:Int)+16) (min (x.data.length:Int) l.at_) with h5 | h5
     ·left;omega
     ·rcases Int.le_total (x.data.length:Int) l.at_ with h6 | h6
      ·right;left;omega
      ·right;right;left;exact ⟨l,rfl,h4.1,by omega⟩
    | some f =>
     simp only [Option.map_some]
     by_cases h3:f.sec=2∧(k:Int)+1≤f.at_
     ·rw [if_pos h3]
      rcases Int.le_total ((k:Int)+16) (min (min (x.data.length:Int) l.at_) f.at_) with h5 | h5
      ·left;omega
      ·rcases Int.le_total (x.data.length:Int) (min l.at_ f.at_) with h6 | h6
       ·right;left;omega
       ·rcases Int.le_total l.at_ f.at_ with h7 | h7
        ·right;right;left;exact ⟨l,rfl,h4.1,by omega⟩
        ·right;right;right;exact ⟨f,rfl,h3.1,by omega⟩
     ·rw [if_neg h3]
      rcases Int.le_total ((k:Int)+16) (min (x.data.length:Int) l.at_) with h5 | h5
      ·left;omega
      ·rcases Int.le_total (x.data.length:Int) l.at_ with h6 | h6
       ·right;left;omega
       ·right;right;left;exact ⟨l,rfl,h4.1,by omega⟩
   ·rw [if_neg h4]
    cases h2:RF.head? with
    | none=>simp only [Option.map_none];omega
    | some f =>
     simp only [Option.map_some]
     by_cases h3:f.sec=2∧(k:Int)+1≤f.at_
     ·rw [if_pos h3]
      rcases Int.le_total ((k:Int)+16) (min (x.data.length:Int) f.at_) with h5 | h5
      ·left;omega
      ·rcases Int.le_total (x.data.length:Int) f.at_ with h6 | h6
       ·right;left;omega
       ·right;right;right;exact ⟨f,rfl,h3.1,by omega⟩
     ·rw [if_neg h3];omega
 have hm1:(k:Int)+1≤m:=by
  rcases hcase with h | h | ⟨l,h1,h2,h3⟩ | ⟨l,h1,h2,h3⟩
  ·omega
  ·omega
  ·have:=(hl l h1 h2).2;omega
  ·have:=(hf l h1 h2).2;omega
 have hm2:m≤(k:Int)+16:=by rw [hm];exact Int.min_le_left _ _
 have hm3:m≤x.data.length:=by
  have h5:untilV RL RF 2 ((k:Int)+1) x.data.length≤x.data.length:=by
   unfold untilV
   have hb:∀ (e:Int) o,minB 2 ((k:Int)+1) e o≤e:=by
    intro e o
    cases o with
    | none=>exact Int.le_refl _
    | some q=>obtain ⟨s,a⟩:=q;unfold minB;split <;> omega
   exact Int.le_trans (hb _ _) (hb _ _)
  rw [hm]
  omega
 obtain ⟨mm,hmm⟩:∃ q:Nat,m=(q:Int):=⟨m.toNat,by omega⟩
 have hst:stopK x k=mm:=by
  refine stopG_eq 15 (k+1) mm (by omega) (by omega) (fun i h1 h2=>⟨by omega,?_⟩) ?_
  ·unfold clearD
   rw [decide_eq_true (atL_none hL (by omega) (fun l h3 h4=>by have:=(hl l h3 h4).1;omega)),decide_eq_true (fixT_none' hF (by omega) (fun l h3 h4=>by have:=(hf l h3 h4).1;omega))]
   rfl
  ·rcases hcase with h | h | ⟨l,h1,h2,h3⟩ | ⟨l,h1,h2,h3⟩
   ·exact .inl (by omega)
   ·exact .inr (fun h4=>by omega)
   ·refine .inr (fun h4=>?_)
    have h5:=h4.2
    unfold clearD at h5
    rw [decide_eq_false (atL_some (hL.mem (List.mem_of_mem_head? h1)) h2 (by rw [← h3,hmm]))] at h5
    cases h5
   ·refine .inr (fun h4=>?_)
    have h5:=h4.2
    unfold clearD at h5
    rw [decide_eq_false (fixT_some (hF.mem (List.mem_of_mem_head? h1)) h2 (by rw [← h3,hmm]) (fun f hq=>name_some (fix_facts hok hq).1)),Bool.and_false] at h5
    cases h5
 refine ⟨by rw [← hm,hmm,hst],by omega,?_,?_⟩
 ·refine hL.skip (by omega) (fun l h1 hb=>?_)
  have h2:=hL.rest l (List.mem_of_mem_head? h1)
  unfold befL at h2 hb
  by_cases hs:l.sec=2
  ·have:=(hl l h1 hs).1;omega
  ·omega
 ·refine hF.skip (by omega) (fun l h1 hb=>?_)
  have h2:=hF.rest l (List.mem_of_mem_head? h1)
  unfold befF at h2 hb
  by_cases hs:l.sec=2
  ·have:=(hf l h1 hs).1;omega
  ·omega
end Go.Proofs.YtikbegmodacopaaGreatDoor
namespace Go.Proofs.YtikbegmodacopaaGreatDoor
open Go.RowKit Go.PlainAid Go.Shelf
abbrev digs:ByteArray:=⟨#[48,49,50,51,52,53,54,55,56,57,97,98,99,100,101,102]⟩
theorem digs_at (j:Nat) (h:j<16):bt digs j=nibN (j:Int):=by
 match j,h with
 | 0,_=>decide
 | 1,_=>decide
 | 2,_=>decide
 | 3,_=>decide
 | 4,_=>decide
 | 5,_=>decide
 | 6,_=>decide
 | 7,_=>decide
 | 8,_=>decide
 | 9,_=>decide
 | 10,_=>decide
 | 11,_=>decide
 | 12,_=>decide
 | 13,_=>decide
 | 14,_=>decide
 | 15,_=>decide
 | n+16,h=>exact absurd h (by omega)
theorem u8_and15 (x:Int) (h0:0≤x) (h1:x<256):bits .and .u8 x 15=x % 16:=bits_mask .u8 8 (by decide) (fun n h0 h1=>by simp only [IntKind.wrap_u8];omega) 4 (by decide) x h0 h1
theorem isB_k {T e:TypeId} {B b:Nat} {bs:List Value} {w:World} (h:Lib.BuilderAtF T e B b (.pointer (some ⟨b,0,none⟩)) bs w):Lib.IsBuilderF T e B b bs w:=.inr h
set_option maxRecDepth 100000 in
set_option maxHeartbeats 1000000 in
theorem tShow_any (A:Option Addr) (n c:Nat) (xs:List Int) (B:Nat) (w:World) (ha:Reads w B 1 A n (u8s xs)) (hB:B≤w.heap.size) (hn:n≤2097152) (hx:∀ x ∈ xs,isByte x) :
  Calls Tryz.prog 118 #[.slice A n c] w fun e w'=>e=.returned (.string (strOfNums (showL xs)))∧Below w.heap.size w w':=by
 have la:xs.length=n:=by simpa using ha.1
 have HLA:=hide_ la
 clear la
 go_enter Tryz.func118,Tryz.ntmps118
 go_wp2_with (go_at_call 156;refine (bld_byte w.heap.size w.heap.size [] 34 _ (Lib.IsBuilderF.of (Lib.fresh_isBuilder 96 5 w)) (by simp) (by simp)).mono ?_)
 rintro e w1 ⟨rfl,h1,b1,_⟩
 have hI1:=isB_k h1
 have hb1:Below w.heap.size w w1:=((Below.refl _ w).alloc (Nat.le_refl _) _).trans b1
 clear h1 b1
 go_wp2
 go_loopw [9] (fun i wr=>∃ k:Nat,k≤n∧i=.int .i64 k∧Lib.IsBuilderF 96 5 w.heap.size w.heap.size (u8s (showM (xs.take k))) wr∧Below w.heap.size w wr) (fun i _=>n - (intOf i).toNat)
 case atStart =>
  exact ⟨0,Nat.zero_le _,rfl,hI1,hb1⟩
 case round =>
  obtain ⟨k,hk,rfl,hI,hb⟩:=hrel
  have hsz:=hb.size
  have hlen:(showM (xs.take k)).length≤4 * k+1:=by
   have h1:=showM_len (xs.take k)
   have h2:(xs.take k).length≤k:=by simp;omega
   omega
  by_cases hlt:k<n
  ·obtain ⟨ad,u,rfl,hadb,hu1,hc⟩:=((ha.below (hb.mono hB))).at_ hlt
   have hu:=get_map (Value.int .u8) xs 0 k (by rw [HLA.out];exact hlt) hu1
   subst hu
   have hxb:isByte (xs[k]?.getD 0):=by
    have h9:k<xs.length:=by rw [HLA.out];exact hlt
    rw [List.getElem?_eq_getElem h9];exact hx _ (List.getElem_mem h9)
   obtain ⟨x,hxx⟩:∃ x,x=xs[k]?.getD 0:=⟨_,rfl⟩
   rw [← hxx] at hc hxb
   have HS:=hide_ (show u8s (showM (xs.take (k+1)))=u8s (showM (xs.take k)) ++ u8s (showB x) by rw [take_snoc xs 0 k (by rw [HLA.out];exact hlt),← hxx,showM_snoc,u8s_app])
   clear hxx hu1
   obtain ⟨L,hL⟩:∃ L,L=u8s (showM (xs.take k)):=⟨_,rfl⟩
   have hLl:L.length≤4 * k+1:=by rw [hL];simpa using hlen
   rw [← hL] at hI HS
   clear hL hlen
   have h0:=hxb.1
   have h1:=hxb.2
   rcases show_ways x hxb with h | h | h
   ·clear hxb h0 h1
    rcases h with rfl | rfl | rfl | rfl | rfl | rfl
    ·go_wp2_with (go_at_call 57;refine (bld_string w.heap.size w.heap.size L ⟨#[92,110]⟩ _ hI (by show L.length+2≤_;omega) (by omega)).mono ?_)
     rintro e W1 ⟨rfl,h2,b2,_⟩
     go_wp2
     go_roundw
     case rel =>
      refine ⟨k+1,by omega,by go_num,?_,hb.trans b2⟩
      rw [HS.out]
      exact isB_k h2
     case measure=>simp [intOf];omega
    ·go_wp2_with (go_at_call 57;refine (bld_string w.heap.size w.heap.size L ⟨#[92,116]⟩ _ hI (by show L.length+2≤_;omega) (by omega)).mono ?_)
     rintro e W1 ⟨rfl,h2,b2,_⟩
     go_wp2
     go_roundw
     case rel =>
      refine ⟨k+1,by omega,by go_num,?_,hb.trans b2⟩
      rw [HS.out]
      exact isB_k h2
     case measure=>simp [intOf];omega
    ·go_wp2_with (go_at_call 57;refine (bld_string w.heap.size w.heap.size L ⟨#[92,114]⟩ _ hI (by show L.length+2≤_;omega) (by omega)).mono ?_)
     rintro e W1 ⟨rfl,h2,b2,_⟩
     go_wp2
     go_roundw
     case rel =>
      refine ⟨k+1,by omega,by go_num,?_,hb.trans b2⟩
      rw [HS.out]
      exact isB_k h2
     case measure=>simp [intOf];omega
    ·go_wp2_with (go_at_call 57;refine (bld_string w.heap.size w.heap.size L ⟨#[92,48]⟩ _ hI (by show L.length+2≤_;omega) (by omega)).mono ?_)
     rintro e W1 ⟨rfl,h2,b2,_⟩
     go_wp2
     go_roundw
     case rel =>
      refine ⟨k+1,by omega,by go_num,?_,hb.trans b2⟩
      rw [HS.out]
      exact isB_k h2
     case measure=>simp [intOf];omega
    ·go_wp2_with (go_at_call 156;refine (bld_byte w.heap.size w.heap.size L 92 _ hI (by omega) (by omega)).mono ?_)
     rintro e W1 ⟨rfl,h2,b2,_⟩
     have hz2:=b2.size
     go_wp2_with (go_at_call 156;refine (bld_byte w.heap.size w.heap.size (L ++ [.int .u8 92]) 34 _ (isB_k h2) (by simp;omega) (by omega)).mono ?_)
     rintro e W2 ⟨rfl,h3,b3,_⟩
     go_wp2
     go_roundw
     case rel =>
      refine ⟨k+1,by omega,by go_num,?_,hb.trans (b2.trans b3)⟩
      rw [HS.out]
      have:=isB_k h3
      rw [List.append_assoc] at this
      exact this
     case measure=>simp [intOf];omega
    ·go_wp2_with (go_at_call 156;refine (bld_byte w.heap.size w.heap.size L 92 _ hI (by omega) (by omega)).mono ?_)
     rintro e W1 ⟨rfl,h2,b2,_⟩
     have hz2:=b2.size
     go_wp2_with (go_at_call 156;refine (bld_byte w.heap.size w.heap.size (L ++ [.int .u8 92]) 92 _ (isB_k h2) (by simp;omega) (by omega)).mono ?_)
     rintro e W2 ⟨rfl,h3,b3,_⟩
     go_wp2
     go_roundw
     case rel =>
      refine ⟨k+1,by omega,by go_num,?_,hb.trans (b2.trans b3)⟩
      rw [HS.out]
      have:=isB_k h3
      rw [List.append_assoc] at this
      exact this
     case measure=>simp [intOf];omega
   ·have HB:=hide_ (showB_self x h)
    obtain ⟨g0,g1,g2,g3⟩:=h
    have d4:(x == 10)=false:=by rw [beq_eq_false_iff_ne];omega
    have d5:(x == 9)=false:=by rw [beq_eq_false_iff_ne];omega
    have d6:(x == 13)=false:=by rw [beq_eq_false_iff_ne];omega
    have d7:(x == 0)=false:=by rw [beq_eq_false_iff_ne];omega
    have d2:(x == 34)=false:=by rw [beq_eq_false_iff_ne];omega
    have d3:(x == 92)=false:=by rw [beq_eq_false_iff_ne];omega
    have d8:decide (32≤x)=true:=by simpa using g0
    have d9:decide (x≤126)=true:=by simpa using g1
    clear g2 g3
    go_wp2_with (go_at_call 156;refine (bld_byte w.heap.size w.heap.size L x _ hI (by omega) (by omega)).mono ?_)
    rintro e W1 ⟨rfl,h2,b2,_⟩
    go_wp2
    go_roundw
    case rel =>
     refine ⟨k+1,by omega,by go_num,?_,hb.trans b2⟩
     rw [HS.out,HB.out]
     exact isB_k h2
    case measure=>simp [intOf];omega
   ·have HB:=hide_ (showB_hex x h)
    have d4:(x == 10)=false:=by rw [beq_eq_false_iff_ne];omega
    have d5:(x == 9)=false:=by rw [beq_eq_false_iff_ne];omega
    have d6:(x == 13)=false:=by rw [beq_eq_false_iff_ne];omega
    have d7:(x == 0)=false:=by rw [beq_eq_false_iff_ne];omega
    have d2:(x == 34)=false:=by rw [beq_eq_false_iff_ne];omega
    have d3:(x == 92)=false:=by rw [beq_eq_false_iff_ne];omega
    have hbt:=get_bt digs
    have e1:=digs_at (x / 16).toNat (by omega)
    have e2:=digs_at (x % 16).toNat (by omega)
    rw [Int.toNat_of_nonneg (by omega)] at e1 e2
    have e3:=u8_and15 x (by omega) (by omega)
    have e4:0≤x / 16:=by omega
    have e5:x / 16<16:=by omega
    have e6:0≤x % 16:=by omega
    have e7:x % 16<16:=by omega
    have h':x<32∨126<x:=by omega
    clear h
    rcases h' with h | h
    ·have d8:decide (32≤x)=false:=by simp;omega
     clear h
     go_wp2_with (go_at_call 57;refine (bld_string w.heap.size w.heap.size L ⟨#[92,120]⟩ _ hI (by show L.length+2≤_;omega) (by omega)).mono ?_)
     rintro e W1 ⟨rfl,h2,b2,_⟩
     have hz2:=b2.size
     have l2:(L ++ Lib.strCells ⟨#[92,120]⟩).length=L.length+2:=by rw [List.length_append];rfl
     go_wp2_with (go_at_call 156;refine (bld_byte w.heap.size w.heap.size (L ++ Lib.strCells ⟨#[92,120]⟩) (nibN (x / 16)) _ (isB_k h2) (by omega) (by omega)).mono ?_)
     rintro e W2 ⟨rfl,h3,b3,_⟩
     have hz3:=b3.size
     go_wp2_with (go_at_call 156;refine (bld_byte w.heap.size w.heap.size (L ++ Lib.strCells ⟨#[92,120]⟩ ++ [.int .u8 (nibN (x / 16))]) (nibN (x % 16)) _ (isB_k h3) (by simp only [List.length_append,List.length_cons,List.length_nil] at l2 ⊢;omega) (by omega)).mono ?_)
     rintro e W3 ⟨rfl,h4,b4,_⟩
     go_wp2
     go_roundw
     case rel =>
      refine ⟨k+1,by omega,by go_num,?_,hb.trans (b2.trans (b3.trans b4))⟩
      rw [HS.out,HB.out]
      have:=isB_k h4
      rw [List.append_assoc,List.append_assoc] at this
      exact this
     case measure=>simp [intOf];omega
    ·have d8:decide (32≤x)=true:=by simp;omega
     have d9:decide (x≤126)=false:=by simp;omega
     clear h
     go_wp2_with (go_at_call 57;refine (bld_string w.heap.size w.heap.size L ⟨#[92,120]⟩ _ hI (by show L.length+2≤_;omega) (by omega)).mono ?_)
     rintro e W1 ⟨rfl,h2,b2,_⟩
     have hz2:=b2.size
     have l2:(L ++ Lib.strCells ⟨#[92,120]⟩).length=L.length+2:=by rw [List.length_append];rfl
     go_wp2_with (go_at_call 156;refine (bld_byte w.heap.size w.heap.size (L ++ Lib.strCells ⟨#[92,120]⟩) (nibN (x / 16)) _ (isB_k h2) (by omega) (by omega)).mono ?_)
     rintro e W2 ⟨rfl,h3,b3,_⟩
     have hz3:=b3.size
     go_wp2_with (go_at_call 156;refine (bld_byte w.heap.size w.heap.size (L ++ Lib.strCells ⟨#[92,120]⟩ ++ [.int .u8 (nibN (x / 16))]) (nibN (x % 16)) _ (isB_k h3) (by simp only [List.length_append,List.length_cons,List.length_nil] at l2 ⊢;omega) (by omega)).mono ?_)
     rintro e W3 ⟨rfl,h4,b4,_⟩
     go_wp2
     go_roundw
     case rel =>
      refine ⟨k+1,by omega,by go_num,?_,hb.trans (b2.trans (b3.trans b4))⟩
      rw [HS.out,HB.out]
      have:=isB_k h4
      rw [List.append_assoc,List.append_assoc] at this
      exact this
     case measure=>simp [intOf];omega
  ·obtain rfl:k=n:=by omega
   have HT:=hide_ (show xs.take k=xs by rw [← HLA.out];exact List.take_length)
   rw [HT.out] at hI hlen
   have hLl:(u8s (showM xs)).length≤4 * k+1:=by simpa using hlen
   have hcell:=b8s_cells (showL xs) (showL_byte xs hx)
   go_wp2_with (go_at_call 156;refine (bld_byte w.heap.size w.heap.size (u8s (showM xs)) 34 _ hI (by omega) (by omega)).mono ?_)
   rintro e W1 ⟨rfl,h2,b2,_⟩
   have hz2:=b2.size
   go_wp2_with (go_at_call 59;refine (Tryz.Builder_String_any_k w.heap.size w.heap.size (b8s (showL xs)) _ (by rw [← hcell];have:=isB_k h2;simpa [showL,u8s] using this) (by omega)).mono ?_)
   rintro e W2 ⟨rfl,_,b3,_⟩
   go_wp2
   go_ret
   exact ⟨rfl,hb.trans (b2.trans b3)⟩
end Go.Proofs.YtikbegmodacopaaGreatDoor
namespace Go.Proofs.YtikbegmodacopaaGreatDoor
open Go.RowKit Go.PlainAid Go.BigFrame
set_option linter.unusedSimpArgs false
set_option linter.unusedVariables false
set_option maxRecDepth 100000
theorem hasL_bef {L:List LabV} {s:Int} (h:hasL L s=false):∀ l ∈ L,l.sec=s→False:=by
 intro l hl hs
 unfold hasL at h
 rw [List.any_eq_false] at h
 have:=h l hl
 simp at this
 exact this hs
set_option maxHeartbeats 16000000 in
theorem pdata_any (x:ObjV) (s:ObjS) (B g:Nat) (RL0:List LabV) (RF0:List FixV) (T:ByteArray) (w:World) (hx:ObjOk x) (hok:okB x=true) (hr:ObjR w B x s) (h:PrS B g (poOf x s) RL0 RF0 T w) (hL0:LeftL x.labels RL0 2 0) (hF0:LeftF x.fixes RF0 2 0)
  (hTb:∀ W,Below B w W→TabOk W) (hz:T.size+(dataT x).size≤140737488351232) :
  Calls Tryz.prog 84 #[.pointer (some ⟨g,0,none⟩)] w fun e w'=>e=.returned (.tuple #[])∧SecPost B g x s (T ++ dataT x) 3 w w':=by
 have HRD:=hide_ hr.rd
 have HCP:=hide_ hr.caps.2.1
 have HTB:=hide_ hTb
 have HX:=hide_ hx
 have HOK:=hide_ hok
 have HBL:=hide_ h.low
 have HBG:=hide_ h.base
 have HL0:=hide_ hL0
 have HF0:=hide_ hF0
 have hnb:=(boundB_iff.1 (okB_parts hok).1).2.1
 obtain ⟨nd,hnd⟩:∃ n,n=x.data.length:=⟨_,rfl⟩
 have HND:=hide_ hnd.symm
 rw [← hnd] at hnb HCP
 have HNB:=hide_ hnb
 obtain ⟨TT,hTT⟩:∃ t,t=T ++ dataT x:=⟨_,rfl⟩
 have HZ:=hide_ (show TT.size≤140737488351232 by rw [hTT,ba_size];exact hz)
 have HTT:=hide_ hTT.symm
 obtain ⟨sc,⟨dA,dc⟩,sl,sf,st,se⟩:=s
 have hc3:=h.c3
 dsimp only at HRD HCP hc3
 rw [← hnd] at HRD hc3
 have HS0:=hide_ h
 have hhas:hasB RL0 2=hasL x.labels 2:=(hasB_eq hL0 (fun l hl=>(hx.labels l hl).2.2.1)).symm
 obtain ⟨po,hpo⟩:∃ p,p=poOf x ⟨sc,⟨dA,dc⟩,sl,sf,st,se⟩:=⟨_,rfl⟩
 have HC3:Hid (∀ RL RF T W,PrS B g po RL RF T W→W.cell? ⟨g,3,none⟩=some (.slice dA nd dc)):=hide_ (fun RL RF T W hS=>by rw [hpo] at hS;have h:=hS.c3;dsimp only at h;rw [← hnd] at h;exact h)
 unfold SecPost
 rw [← hpo] at HS0
 rw [← hpo,← hTT]
 obtain ⟨hs,hhs⟩:∃ b,b=hasL x.labels 2:=⟨_,rfl⟩
 rw [← hhs] at hhas
 have HHS:=hide_ hhs.symm
 have HPH:=hide_ (show ∀ W,PrS B g po RL0 RF0 T W→Calls Tryz.prog 116 #[.pointer (some ⟨g,0,none⟩),.int .u8 2] W fun e w'=>e=.returned (.bool hs)∧w'=W from fun W hW=>by rw [← hhas];exact phas_any B g po RL0 RF0 T 2 W hW)
 have hgl:=h.lt
 have wnd:IntKind.u32.wrap (nd:Int)=(nd:Int):=IntWalk.u32_in _ (by omega)
 clear h hr hTb hz hok hx hTT hpo hL0 hF0 hhas hhs hnd hnb
 go_enter Tryz.func84,Tryz.ntmps84
 go_upto_region 1 with (fail)
 go_cut [18] from 12 to 18 (fun b wx=>b=.bool (decide (nd=0) && !hs)∧wx=w)
 case first =>
  by_cases hn0:nd=0
  ·have e0:((nd:Int) == 0)=true:=by rw [hn0];rfl
   have HN0:=hide_ hn0
   clear hn0
   go_wp2_with fail
   refine (HPH.out _ HS0.out).mono ?_
   rintro e w2 ⟨rfl,rfl⟩
   go_wp2
   go_meet
   exact ⟨by rw [decide_eq_true HN0.out];cases hs <;> rfl,rfl⟩
  ·have e0:((nd:Int) == 0)=false:=by simp;omega
   have HN0:=hide_ hn0
   clear hn0
   go_wp2
   go_meet
   exact ⟨by rw [decide_eq_false HN0.out];rfl,rfl⟩
 case rest =>
  obtain ⟨rfl,rfl⟩:=hcut
  clear hc3
  obtain ⟨cd,hcd⟩:∃ c,c=(decide (nd=0) && !hs):=⟨_,rfl⟩
  rw [← hcd]
  have HCD:=hide_ hcd
  clear hcd
  cases cd
  ·have HT2:=hide_ (show T ++ (⟨#[100,97,116,97,10]⟩ ++ dataR x nd 0)=TT by
    rw [← HTT.out,dataT,if_neg,HND.out]
    rintro ⟨h1,h2⟩
    have h3:=HCD.out
    rw [← HHS.out,h2,← HND.out,h1] at h3
    simp at h3)
   have HQ0:=hide_ (show T.size+(cat [⟨#[100,97,116,97]⟩]).size+1≤140737488355328 by
    have h1:=congrArg ByteArray.size HT2.out
    rw [ba_size,ba_size] at h1
    have h2:(cat [⟨#[100,97,116,97]⟩]).size=4:=rfl
    have h3:(⟨#[100,97,116,97,10]⟩:ByteArray).size=5:=rfl
    have:=HZ.out
    omega)
   have HSA:=hide_ (HS0.out.alloc (.cells #[.string ⟨#[100,97,116,97]⟩] 9))
   have HBA:=hide_ (heap_alloc_new wc (.cells #[.string ⟨#[100,97,116,97]⟩] 9))
   have HMA:=hide_ (PrM.alloc (g:=g) HS0.out.low (.cells #[.string ⟨#[100,97,116,97]⟩] 9))
   go_wp2_with fail
   refine (line_any B g wc.heap.size _ _ _ T [⟨#[100,97,116,97]⟩] 1 _ HSA.out HBA.out rfl (by decide) HQ0.out).mono ?_
   rintro e w1 ⟨rfl,hS1,hM1⟩
   have HM1:=hide_ (HMA.out.trans hM1)
   have HT1:=hide_ (show (T ++ (cat [⟨#[100,97,116,97]⟩] ++ ⟨#[10]⟩)) ++ dataR x nd 0=TT by
    rw [← HT2.out]
    simp only [ba_assoc]
    rfl)
   have HS1:=hide_ hS1
   clear hS1 hM1 HSA HBA HQ0 HMA
   go_wp2
   go_loopw [3] (fun i wr=>∃ (k f:Nat) (RL:List LabV) (RF:List FixV) (S:ByteArray),k≤nd∧nd≤k+f∧i=.int .u32 k∧Hid (PrS B g po RL RF S wr)∧Hid (S ++ dataR x f k=TT)∧Hid (LeftL x.labels RL 2 k)∧Hid (LeftF x.fixes RF 2 k)∧Hid (PrM B g wc wr)) (fun i _=>nd - (intOf i).toNat)
   case atStart=>exact ⟨0,nd,_,_,_,Nat.zero_le _,by omega,rfl,HS1,HT1,HL0,HF0,HM1⟩
   case round =>
    clear HS1 HT1 HL0 HF0 HM1
    obtain ⟨k,f,RL,RF,S,hk,hkf,rfl,HS,HT,HL,HF,HM⟩:=hrel
    by_cases hlt:k<nd
    ·obtain ⟨f,rfl⟩:∃ g,f=g+1:=⟨f - 1,by omega⟩
     have hT:=HT.out
     rw [dataR_step (by have:=HND.out;omega),HL.out.atL_eq,HF.out.fixT_eq] at hT
     have HTX:=hide_ hT
     have hss:=congrArg ByteArray.size hT
     simp only [ba_size] at hss
     have HQ1:=hide_ (show S.size+(atL RL 2 k).size≤140737488351232 by have:=HZ.out;omega)
     have hlti:(k:Int)<(nd:Int):=by omega
     clear hT hss
     go_wp2_with fail
     refine (pat_any B g po RL RF S 2 (k:Int) _ HS.out HL.out.rise HL.out.rest HQ1.out).mono ?_
     rintro e w4 ⟨rfl,RL4,hS4,hL4,hM4⟩
     have HM4:=hide_ (HM.out.trans hM4)
     have HL4:=hide_ (hL4 _ HL.out)
     have HS4:=hide_ hS4
     clear hS4 hL4 hM4
     go_wp2_with fail
     refine (here_any B g po RL4 RF _ 2 (k:Int) w4 HS4.out).mono ?_
     rintro e w7 ⟨rfl,rfl⟩
     obtain ⟨hb,hhb⟩:∃ b,b=hereB RF 2 (k:Int):=⟨_,rfl⟩
     rw [← hhb]
     have HHB:=hide_ hhb.symm
     clear hhb
     cases hb
     ·have hfn:∀ f,RF.head?=some f→fixAtB 2 (k:Int) f=false:=fun f hf=>by
       have h:=HHB.out
       cases RF with
       | nil=>cases hf
       | cons f' R'=>cases hf;exact h
      have HFX:=hide_ (fixT_none HF.out hfn)
      have HFN:=hide_ (HF.out.past hfn)
      have hst:=stop_eq HOK.out HL4.out HFN.out (by have:=HND.out;omega)
      rw [HND.out] at hst
      have hlt2:=stopK_lt x k
      obtain ⟨m,hm⟩:∃ m,m=stopK x k:=⟨_,rfl⟩
      rw [← hm] at hst hlt2
      have HME:=hide_ hm.symm
      clear hm
      obtain ⟨hst1,hst2,hst3,hst4⟩:=hst
      have HLM:=hide_ hst3
      have HFM:=hide_ hst4
      obtain ⟨uv,huv⟩:∃ u,u=untilV RL4 RF 2 ((k:Int)+1) nd:=⟨_,rfl⟩
      rw [← huv] at hst1
      have HUN:=hide_ (show ∀ T W,PrS B g po RL4 RF T W→Calls Tryz.prog 117 #[.pointer (some ⟨g,0,none⟩),.int .u8 2,.int .u32 ((k:Int)+1),.int .u32 (nd:Int)] W fun e w'=>e=.returned (.int .u32 uv)∧w'=W from fun T W hW=>by rw [huv];exact until_any B g po RL4 RF T 2 ((k:Int)+1) nd W hW)
      clear huv hst3 hst4 hfn
      obtain ⟨ad,hda,hpart⟩:=reads_part HRD.out hlt2 hst2
      subst hda
      have HPART:=hide_ (fun W (hw:Below B wc W)=>tShow_any (some (ad.add k)) (m - k) (dc - k) _ B W (hpart.below hw) (Nat.le_trans HBL.out hw.size) (by have:=HNB.out;omega) (fun q hq=>HX.out.data q (List.mem_of_mem_drop (List.mem_of_mem_take hq))))
      obtain ⟨sh,hsh⟩:∃ a,a=strOfNums (showL ((x.data.drop k).take (m - k))):=⟨_,rfl⟩
      rw [← hsh] at HPART
      have HTY:=hide_ (show (S ++ atL RL 2 k) ++ (cat [⟨#[9,98,121,116,101,115,32]⟩,sh] ++ ⟨#[10]⟩) ++ dataR x f m=TT by
       rw [← HTX.out,HFX.out,if_pos rfl,HME.out,showT,← hsh]
       simp only [cat,ba_nil,ba_assoc])
      have HQ2:=hide_ (show (S ++ atL RL 2 k).size+(cat [⟨#[9,98,121,116,101,115,32]⟩,sh]).size+1≤140737488355328 by
       have h1:=congrArg ByteArray.size HTY.out
       rw [ba_size,ba_size,ba_size (cat _)] at h1
       have:(⟨#[10]⟩:ByteArray).size=1:=rfl
       have:=HZ.out
       omega)
      have c1:m≤dc:=Nat.le_trans hst2 HCP.out
      have c2:k≤m:=by omega
      have c3:¬ dc=k:=by omega
      have c4:k≤dc:=by omega
      have w16:IntKind.u32.wrap ((k:Int)+16)=(k:Int)+16:=IntWalk.u32_in _ (by have:=HNB.out;omega)
      have w1i:IntKind.u32.wrap ((k:Int)+1)=(k:Int)+1:=IntWalk.u32_in _ (by have:=HNB.out;omega)
      have q3:=HC3.out _ _ _ _ HS4.out
      have hgl7:=HS4.out.lt
      clear hsh hpart
      go_wp2_with fail
      refine (HUN.out _ _ HS4.out).mono ?_
      rintro e w8 ⟨rfl,rfl⟩
      go_wp2_with fail
      refine (HPART.out _ HM4.out.bel).mono ?_
      rintro e w9 ⟨rfl,hb9⟩
      have HS9:=hide_ (HS4.out.below hb9)
      have HM9:=hide_ (HM4.out.trans (PrM.of_below HS4.out.low hb9))
      have HSA:=hide_ (HS9.out.alloc (.cells #[.string ⟨#[9,98,121,116,101,115,32]⟩,.string sh] 9))
      have HBA:=hide_ (heap_alloc_new w9 (.cells #[.string ⟨#[9,98,121,116,101,115,32]⟩,.string sh] 9))
      have HMA:=hide_ (HM9.out.trans (PrM.alloc HS9.out.low (.cells #[.string ⟨#[9,98,121,116,101,115,32]⟩,.string sh] 9)))
      clear hb9 q3 hgl7
      go_wp2_with fail
      refine (line_any B g w9.heap.size _ _ _ _ [⟨#[9,98,121,116,101,115,32]⟩,sh] 2 _ HSA.out HBA.out rfl (by decide) HQ2.out).mono ?_
      rintro e w10 ⟨rfl,hS10,hM10⟩
      have HS10:=hide_ hS10
      have HM10:=hide_ (HMA.out.trans hM10)
      clear hS10 hM10 c1 c2 c3 c4
      go_wp2
      go_roundw
      case rel=>exact ⟨m,f,_,_,_,by omega,by omega,by first | rfl | go_num,HS10,HTY,HLM,HFM,HM10⟩
      case measure=>simp [intOf];omega
     ·obtain ⟨fx,RF2,hRF⟩:∃ f R,RF=f :: R:=by
       have h:=HHB.out
       cases RF with
       | nil=>cases h
       | cons f R=>exact ⟨f,R,rfl⟩
      subst hRF
      have hfa:fixAtB 2 (k:Int) fx=true:=HHB.out
      have hmem:=HF.out.mem (List.mem_cons_self ..)
      have hfo:=HX.out.fixes _ hmem
      have hfa2:=hfa
      unfold fixAtB at hfa2
      rw [Bool.and_eq_true,decide_eq_true_eq,decide_eq_true_eq] at hfa2
      have HFA:=hide_ (And.intro hfo.1 hfo.2.2.2)
      have HFN:=hide_ (show LeftF x.fixes RF2 2 ((k:Int)+4) by have h:=HF.out.take hfa;rw [if_pos rfl] at h;exact h)
      have hpl:k+4≤nd:=by
       rcases fix_place HOK.out hmem with ⟨h1,_⟩ | ⟨_,h1⟩
       ·rw [hfa2.1] at h1;cases h1
       ·rw [hfa2.2,HND.out] at h1;omega
      have HLN:=hide_ (show LeftL x.labels RL4 2 ((k:Int)+4) from HL4.out.skip (by omega) (fun l hl hb=>by
       have h1:=HL4.out.rest l (List.mem_of_mem_head? hl)
       unfold befL at h1 hb
       have h2:l.sec=2:=by omega
       have h3:=fix_apart HOK.out hmem hfa2.1 (HL4.out.mem (List.mem_of_mem_head? hl)) h2
       omega))
      have HTY:=hide_ (show (S ++ atL RL 2 k) ++ (cat [⟨#[9,119,111,114,100,32]⟩,fixTx fx] ++ ⟨#[10]⟩) ++ dataR x f (k+4)=TT by
       rw [← HTX.out,fixT_here hfa,if_neg (fixTx_ne (name_some (fix_facts HOK.out hmem).1))]
       simp only [cat,ba_nil,ba_assoc])
      have HQ2:=hide_ (show (S ++ atL RL 2 k).size+(cat [⟨#[9,119,111,114,100,32]⟩,fixTx fx]).size+1≤140737488355328 by
       have h1:=congrArg ByteArray.size HTY.out
       rw [ba_size,ba_size,ba_size (cat _)] at h1
       have:(⟨#[10]⟩:ByteArray).size=1:=rfl
       have:=HZ.out
       omega)
      have w4i:IntKind.u32.wrap ((k:Int)+4)=(k:Int)+4:=IntWalk.u32_in _ (by have:=HNB.out;omega)
      clear hfa hfa2 hmem hfo
      go_wp2_with fail
      refine (pfix_any B g po RL4 RF2 fx _ _ HS4.out HFA.out.1 HFA.out.2 (fun W hW=>HTB.out W (HM4.out.bel.trans hW))).mono ?_
      rintro e w9 ⟨rfl,hS9,hM9⟩
      have HS9:=hide_ hS9
      have HM9:=hide_ (HM4.out.trans hM9)
      have HSA:=hide_ (HS9.out.alloc (.cells #[.string ⟨#[9,119,111,114,100,32]⟩,.string (fixTx fx)] 9))
      have HBA:=hide_ (heap_alloc_new w9 (.cells #[.string ⟨#[9,119,111,114,100,32]⟩,.string (fixTx fx)] 9))
      have HMA:=hide_ (HM9.out.trans (PrM.alloc HS9.out.low (.cells #[.string ⟨#[9,119,111,114,100,32]⟩,.string (fixTx fx)] 9)))
      clear hS9 hM9
      go_wp2_with fail
      refine (line_any B g w9.heap.size _ _ _ _ [⟨#[9,119,111,114,100,32]⟩,fixTx fx] 2 _ HSA.out HBA.out rfl (by decide) HQ2.out).mono ?_
      rintro e w10 ⟨rfl,hS10,hM10⟩
      have HS10:=hide_ hS10
      have HM10:=hide_ (HMA.out.trans hM10)
      clear hS10 hM10
      go_wp2
      go_roundw
      case rel=>exact ⟨k+4,f,_,_,_,by omega,by omega,by go_num,HS10,HTY,HLN,HFN,HM10⟩
      case measure=>simp [intOf];omega
    ·obtain rfl:k=nd:=by omega
     have HTX:=hide_ (show S ++ atL RL 2 k=TT by
      have h:=HT.out
      rw [dataR_end (by have:=HND.out;omega),HND.out,HL.out.atL_eq] at h
      exact h)
     have HQ1:=hide_ (show S.size+(atL RL 2 k).size≤140737488351232 by
      have h:=congrArg ByteArray.size HTX.out
      rw [ba_size] at h
      have:=HZ.out
      omega)
     go_wp2_with fail
     refine (pat_any B g po RL RF S 2 (k:Int) _ HS.out HL.out.rise HL.out.rest HQ1.out).mono ?_
     rintro e w4 ⟨rfl,RL4,hS4,hL4,hM4⟩
     have HFIN:=hide_ (show ∃ RL' RF',PrS B g po RL' RF' TT w4∧LeftL x.labels RL' 3 0∧LeftF x.fixes RF' 3 0∧PrM B g wc w4 from by
      refine ⟨RL4,RF,by rw [← HTX.out];exact hS4,?_,?_,HM.out.trans hM4⟩
      ·refine (hL4 _ HL.out).next (fun l hl h1=>?_) (fun l hl=>(HX.out.labels l hl).2.2.1)
       have h2:=(lab_facts HOK.out hl).2.2.2
       rw [h1,lenOf,if_neg (by decide),if_pos rfl,HND.out] at h2
       omega
      ·refine HF.out.next (fun f hf h1=>?_) (fun f hf=>(HX.out.fixes f hf).2.2.1.1)
       rcases fix_place HOK.out hf with ⟨h2,_⟩ | ⟨_,h2⟩
       ·rw [h1] at h2;cases h2
       ·rw [HND.out] at h2;omega)
     clear hS4 hL4 hM4
     go_wp2
     go_end0
     exact ⟨rfl,HFIN.out⟩
  ·have h3:=HCD.out
   have HFIN:=hide_ (show ∃ RL' RF',PrS B g po RL' RF' TT wc∧LeftL x.labels RL' 3 0∧LeftF x.fixes RF' 3 0∧PrM B g wc wc from by
    have hn0:nd=0:=by
     by_cases h:nd=0
     ·exact h
     ·rw [decide_eq_false h] at h3;cases h3
    have hs0:hasL x.labels 2=false:=by
     rw [HHS.out]
     cases hs with
     | false=>rfl
     | true=>rw [Bool.not_true,Bool.and_false] at h3;cases h3
    refine ⟨RL0,RF0,?_,?_,?_,PrM.refl _ _ _⟩
    ·rw [← HTT.out,dataT,if_pos ⟨by rw [HND.out];exact hn0,hs0⟩,ba_nil]
     exact HS0.out
    ·exact HL0.out.next (fun l hl h1=>absurd (hasL_bef hs0 l hl h1) id) (fun l hl=>(HX.out.labels l hl).2.2.1)
    ·refine HF0.out.next (fun f hf h1=>?_) (fun f hf=>(HX.out.fixes f hf).2.2.1.1)
     have h0:=(HX.out.fixes f hf).2.2.1.1
     rcases fix_place HOK.out hf with ⟨h2,_⟩ | ⟨_,h2⟩
     ·rw [h1] at h2;cases h2
     ·rw [HND.out] at h2;omega)
   clear h3
   go_wp2
   refine bodyPost_ret (results_none rfl _ _ _) rfl ?_
   exact ⟨rfl,HFIN.out⟩
end Go.Proofs.YtikbegmodacopaaGreatDoor
