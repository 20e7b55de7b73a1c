/-
  The walk of the statement GateLess.
-/
import Derived.Test.YtgppbdcnpailaaaLessP
import Derived.Test.YtgppbdcnpailaaaGrants
namespace Go.Proofs.Ytgppbdcnpailaaa
open Go.RowKit Go.Maps
set_option linter.unusedVariables false

theorem contains_step (os : List Int) (k : Nat) {y x : Int} (hy : os[k]? = some y) : (os.take (k + 1)).contains x = ((os.take k).contains x || (y == x)) := by
  rw [List.take_add_one, hy, Bool.eq_iff_iff]
  simp only [List.contains_iff_mem, Bool.or_eq_true, List.mem_append, Option.toList_some, List.mem_singleton, beq_iff_eq]
  exact or_congr_right ⟨fun e => e.symm, fun e => e.symm⟩
theorem GReads.of_own {w : World} {B : Nat} {A : Option Addr} {l : List (Int × Int)} {c : Nat} (h : w.ownsRow B 95 2 (.slice A l.length c) l.length (gCells l)) : GReads w w.heap.size A l.length l :=
  GReads.of_reads (Reads.of_own h)
theorem rev_get (l : List (Int × Int)) {k : Nat} (h : k < l.length) : l.reverse[k]? = l[l.length - 1 - k]? := by
  rw [List.getElem?_reverse h]
set_option maxRecDepth 100000 in
set_option maxHeartbeats 2000000 in
theorem GateLess_walk (A : Option Addr) (n c : Nat) (ns : List Int) (A1 : Option Addr) (n1 c1 : Nat) (os : List Int) (w : World)
    (hr : Reads w w.heap.size 1 A n (u32s ns)) (hwf : ∀ x ∈ ns, (Lit.int .u32 x).wf = true) (_hnc : n ≤ c) (_hcb : c * 4 ≤ 140737488351232) (hr1 : Reads w w.heap.size 1 A1 n1 (u32s os)) (hwf1 : ∀ x ∈ os, (Lit.int .u32 x).wf = true) (_hnc1 : n1 ≤ c1) (_hcb1 : c1 * 4 ≤ 140737488351232) :
    Calls Try.prog 16 #[.slice A n c, .slice A1 n1 c1] w fun e w' => e = .returned (.bool true) ∧ Below w.heap.size w w' := by
  have h1 := hide_ (some_any A n c ns w hr hwf (by omega))
  have HR1 := hide_ hr1
  have HW1 := hide_ hwf1
  have hn1 : n1 ≤ 140737488351232 := by omega
  have hol : os.length = n1 := by simpa using hr1.1
  have HOL := hide_ hol
  obtain ⟨i0, hi0, hz0, hz1, hz2⟩ := info_parts grant_info
  clear hr hwf hr1 hwf1 _hnc _hcb _hnc1 _hcb1 hol
  go_enter Try.func16, Try.ntmps16
  go_wp2_with fail
  refine h1.out.mono ?_
  rintro e w1 ⟨q, l, Al, cl, rfl, hok, hg1, hgl, hcl, hb1⟩
  obtain ⟨D, hD⟩ : ∃ D, D = putAll (.map []) l := ⟨_, rfl⟩
  rw [← hD] at hg1
  clear h1
  have h2 := hide_ (Less_any q D A1 n1 c1 os w1 hg1 ((HR1.out.below hb1).more hb1.size) HW1.out hn1)
  have HG1 := hide_ hg1
  have HB1 := hide_ hb1
  have HGL := hide_ hgl
  have HOK := hide_ hok
  have hfew := hok.few
  obtain ⟨m, hm⟩ : ∃ m, m = l.length := ⟨_, rfl⟩
  rw [← hm] at hcl hfew ⊢
  have HM := hide_ hm
  have HD := hide_ hD
  clear hg1 hb1 hgl hok hm hD
  go_wp2_with fail
  refine h2.out.mono ?_
  rintro e w2 ⟨q2, rfl, hg2, hb2⟩
  have hB2 := HB1.out.trans (hb2.mono HB1.out.size)
  obtain ⟨D2, hD2⟩ : ∃ D2, D2 = delAll D os := ⟨_, rfl⟩
  rw [← hD2] at hg2
  have HG2 := hide_ hg2
  have hw21 : WithinP D2 D := by rw [hD2]; exact WithinP.less _ _
  have h3 := hide_ (Within_any q2 q D2 D w2 hg2 (HG1.out.below hb2))
  have HC2 := hide_ (HG1.out.below hb2)
  have HGL2 := hide_ (((HGL.out.below hb2)).more hb2.size)
  have HB2 := hide_ hB2
  have HW21 := hide_ hw21
  have HD2 := hide_ hD2
  clear hg2 hb2 hB2 h2 HG1 HB1 HGL hw21 hD2
  go_wp2_with fail
  refine h3.out.mono ?_
  rintro e w3 ⟨b3, rfl, hb3, hB3⟩
  obtain rfl : b3 = true := hb3.2 HW21.out
  -- what stands from here on
  have HS : Hid (∀ w', Below w2.heap.size w2 w' → GateAt w' q D ∧ GateAt w' q2 D2 ∧ GReads w' w'.heap.size Al m l ∧ Below w.heap.size w w' ∧ Reads w' w'.heap.size 1 A1 n1 (u32s os)) := hide_ fun w' hb => by
    have h := HB2.out.trans (hb.mono HB2.out.size)
    refine ⟨HC2.out.below hb, HG2.out.below hb, ?_, h, (HR1.out.below h).more h.size⟩
    rw [HM.out]
    exact ((HGL2.out.below hb)).more hb.size
  have HB3 := hide_ hB3
  clear h3 hb3 hB3 HC2 HG2 HGL2 HB2
  go_wp2
  go_loopw [9] (fun i wr => ∃ k : Nat, k ≤ m ∧ i = .int .i64 k ∧ Below w2.heap.size w2 wr) (fun i _ => m - (intOf i).toNat)
  case atStart => exact ⟨0, Nat.zero_le _, rfl, HB3.out⟩
  case round =>
    clear HB3
    obtain ⟨k, hk, rfl, hb⟩ := hrel
    by_cases hlt : k < m
    · obtain ⟨gq, gq2, hgl, hbw, hro⟩ := HS.out wr hb
      obtain ⟨⟨x, a⟩, hx⟩ : ∃ t, l[k]? = some t := ⟨_, List.getElem?_eq_getElem (by rw [← HM.out]; exact hlt)⟩
      obtain ⟨adl, rfl, hbl, hcl2⟩ := hgl.2 (by omega)
      obtain ⟨l0, l1⟩ := hcl2 k x a hx
      have hxm := List.mem_of_getElem? hx
      obtain ⟨⟨x0, x1⟩, a0, a1⟩ := HOK.out.ok _ hxm
      simp only at x0 x1 a0 a1
      have hla := less_at HOK.out os hxm
      rw [← HD.out, ← HD2.out] at hla
      have HLA := hide_ hla
      have hbs : (adl.add (k * 2)).block < wr.heap.size := by rw [block_of_add]; exact hbl
      have HRO := hide_ hro
      have HB := hide_ hb
      have HGQ := hide_ (show GateAt wr q D ∧ GateAt wr q2 D2 from ⟨gq, gq2⟩)
      clear hcl2 hgl hla hx hxm gq gq2 hbw hro hb hbl
      go_wp2
      obtain ⟨wo, hwo⟩ : ∃ wo : World, wo = wr := ⟨_, rfl⟩
      have HWO := hide_ hwo
      clear hwo
      go_loopw [10, 11] (fun tw i W => ∃ j : Nat, j ≤ n1 ∧ i = .int .i64 j ∧ tw = .bool ((os.take j).contains x) ∧ ∃ nq, W = wr.drewN nq) (fun _ i _ => n1 - (intOf i).toNat)
      case atStart => exact ⟨0, Nat.zero_le _, rfl, rfl, 0, rfl⟩
      case round =>
        obtain ⟨j, hj, rfl, rfl, nq, rfl⟩ := hrel
        by_cases hj1 : j < n1
        · obtain ⟨ado, u, rfl, hbo, hu, hcu⟩ := HRO.out.at_ hj1
          have hjl : j < os.length := by rw [HOL.out]; exact hj1
          rw [u32s_get hjl] at hu
          injection hu with hu
          subst hu
          obtain ⟨y, hy⟩ : ∃ y, y = os[j]?.getD 0 := ⟨_, rfl⟩
          rw [← hy] at hcu
          have hst := contains_step os j (y := y) (x := x) (by rw [hy, List.getElem?_eq_getElem hjl]; rfl)
          obtain ⟨tb, htb⟩ : ∃ tb, tb = (os.take j).contains x := ⟨_, rfl⟩
          rw [← htb] at hst ⊢
          have HST := hide_ hst
          have hbo' : (ado.add j).block < wr.heap.size := by rw [block_of_add]; exact hbo
          clear hst htb hy hbo
          go_wp2
          go_quiet (fail)
          go_wp2
          all_goals
            go_roundw
            case rel => exact ⟨j + 1, by omega, by go_num, by rw [HST.out]; simp [*], _, rfl⟩
            case measure => simp [intOf]; omega
        · obtain rfl : j = n1 := by omega
          rw [List.take_of_length_le (by rw [HOL.out]; omega)]
          obtain ⟨gone, hgone⟩ : ∃ gone, gone = os.contains x := ⟨_, rfl⟩
          obtain ⟨z1, z2, z3⟩ := HLA.out
          rw [← hgone] at z1 z2 z3 ⊢
          have hgq2 : GateAt (wr.drewN nq) q2 D2 := HGQ.out.2
          have hgq : GateAt (wr.drewN nq) q D := HGQ.out.1
          have h4 := Granted_any q2 D2 x (wr.drewN nq) hgq2 (wf_u32_of x0 (by omega))
          rw [z1] at h4
          have h5 := hide_ (Within_any q q2 D D2 (wr.drewN nq) hgq hgq2)
          have H4 := hide_ h4
          have Z2 := hide_ z2
          have Z3 := hide_ z3
          have HB4 := hide_ (below_draws2 HB.out nq)
          clear h4 z1 z2 z3 hgq2 hgq hgone
          go_wp2_with fail
          refine H4.out.mono ?_
          rintro e w5 ⟨cc, rfl, hcc, rfl⟩
          cases gone with
          | false =>
            have h6 := Z2.out rfl
            rw [h6] at hcc
            have e6 : a = cc := congrArg (fun d : MD => match d with | .lit (.int _ a) => a | _ => 0) hcc
            subst e6
            have e7 : (a != a) = false := by simp
            clear hcc h6 H4 h5
            go_wp2
            go_roundw
            case rel => exact ⟨k + 1, by omega, by go_num, HB4.out⟩
            case measure => simp [intOf]; omega
          | true =>
            clear hcc H4
            go_wp2_with fail
            refine h5.out.mono ?_
            rintro e w6 ⟨b6, rfl, hb6, hB6⟩
            obtain rfl : b6 = false := by
              cases b6 with
              | false => rfl
              | true => exact absurd (hb6.1 rfl) (Z3.out (by trivial))
            have HB6 := hide_ (HB4.out.trans (hB6.mono HB4.out.size))
            clear hb6 hB6 h5
            go_wp2
            go_roundw
            case rel => exact ⟨k + 1, by omega, by go_num, HB6.out⟩
            case measure => simp [intOf]; omega
    · obtain rfl : k = m := by omega
      have s0 : IntKind.i64.wrap ((k : Int) - 1) = (k : Int) - 1 := IntWalk.i64_in _ (by omega)
      have HB := hide_ hb
      clear hb
      go_wp2
      obtain ⟨wo, rfl⟩ : ∃ wo : World, wo = wr := ⟨_, rfl⟩
      go_loopw [14, 15] (fun v i W => ∃ (j : Nat) (A4 : Option Addr) (c4 : Nat), j ≤ k ∧ i = .int .i64 ((k : Int) - 1 - j) ∧ v = .slice A4 j c4 ∧ W.ownsRow wo.heap.size 95 2 (.slice A4 j c4) j (gCells (l.reverse.take j)) ∧ Below wo.heap.size wo W) (fun _ i _ => (intOf i + 1).toNat)
      case atStart => exact ⟨0, none, 0, Nat.zero_le _, by simp, rfl, by simpa [gCells] using World.ownsRow_nil _ _ _ _, Below.refl _ _⟩
      case round =>
        obtain ⟨j, A4, c4, hj, rfl, rfl, hown, hbj⟩ := hrel
        by_cases hlt2 : j < k
        · obtain ⟨_, _, hgl, _, _⟩ := HS.out _ (HB.out.trans (hbj.mono HB.out.size))
          obtain ⟨⟨x, a⟩, hx⟩ : ∃ t, l[k - 1 - j]? = some t := ⟨_, List.getElem?_eq_getElem (by rw [← HM.out]; omega)⟩
          obtain ⟨adl, rfl, hbl, hcl2⟩ := hgl.2 (by omega)
          obtain ⟨l0, l1⟩ := hcl2 _ x a hx
          have hst : l.reverse.take (j + 1) = l.reverse.take j ++ [(x, a)] := by
            rw [List.take_add_one, rev_get l (by rw [← HM.out]; exact hlt2), ← HM.out, hx]
            rfl
          have e1 : ((k : Int) - 1 - (j : Int)) = ((k - 1 - j : Nat) : Int) := by omega
          obtain ⟨p, hp⟩ : ∃ p, p = k - 1 - j := ⟨_, rfl⟩
          rw [← hp] at l0 l1 e1
          have hpk : p < k := by omega
          have HST := hide_ hst
          have hO0 : Owns _ wo.heap.size [⟨95, 2, .slice A4 j c4, j, gCells (l.reverse.take j)⟩] := ⟨fun r hr => by rw [List.mem_singleton.1 hr]; exact hown, List.pairwise_singleton _ _⟩
          have HO := hide_ hO0
          have HP := hide_ hp
          have HBJ := hide_ hbj
          have hsz := hbj.size
          have hbs : (adl.add (p * 2)).block < wr.heap.size := by rw [block_of_add]; exact hbl
          rw [e1]
          clear hst hO0 hown hcl2 hgl hx e1 hbl hp hbj
          go_wp2_with (at_builtin; refine wpList_append_owns _ rfl (.tmp 107) (.tmp 112) 38 rfl wo.heap.size _ 0 95 2 (.slice A4 j c4) j (gCells (l.reverse.take j)) rfl (HO.out.alloc _) (by simp; omega) i0 _ 16 Try.underlying38 hi0 hz0 hz1 hz2 rfl (by omega) rfl _ _ 1 1 [.int .u32 x, .int .i64 a] rfl (reads_new wr 95 2 1 [.int .u32 x, .int .i64 a] rfl) (by simp [Value.oneCell']) (by simp only [maxLen]; omega) (by omega) ?_)
          intro v1 w7 hO1 hb7 hsz7
          obtain ⟨A5, c5, hv, _, _⟩ := ownsRow_slice (hO1.at_ (i := 0) rfl)
          simp only at hv
          subst hv
          have HO1 := hide_ (hO1.at_ (i := 0) rfl)
          have HB7 := hide_ ((HBJ.out.alloc HBJ.out.size _).trans hb7)
          clear hO1 hb7
          have s1 : IntKind.i64.wrap ((p : Int) - 1) = (p : Int) - 1 := IntWalk.i64_in _ (by omega)
          go_wp2
          go_roundw
          case rel =>
            have hp := HP.out
            refine ⟨j + 1, A5, c5, by omega, by rw [show ((k : Int) - 1 - ((j + 1 : Nat) : Int)) = (p : Int) - 1 by omega], rfl, ?_, HB7.out⟩
            rw [HST.out, show gCells (List.take j l.reverse ++ [(x, a)]) = _ from gCells_snoc _ x a]
            exact HO1.out
          case measure => simp [intOf]
        · obtain rfl : j = k := by omega
          have hrl : l.reverse.length = j := by rw [List.length_reverse, HM.out]
          rw [List.take_of_length_le (by omega)] at hown
          have hokr := HOK.out.perm (List.reverse_perm l).symm
          have hng := New_gany A4 j c4 l.reverse wr.heap.size wr (by have := GReads.of_reads (Reads.of_own hown); exact this) (Nat.le_refl _) (fun t ht => by
            obtain ⟨⟨t0, t1⟩, t2, t3⟩ := hokr.ok t ht
            exact ⟨wf_u32_of t0 (by omega), wf_i64_of (by omega) (by omega)⟩)
          rw [newD_ok hokr] at hng
          obtain ⟨Dh, hDh⟩ : ∃ Dh, Dh = putAll (.map []) l.reverse := ⟨_, rfl⟩
          rw [← hDh] at hng
          have hw1 : WithinP D Dh := by rw [HD.out, hDh]; exact perm_within (List.reverse_perm l).symm HOK.out
          have hw2 : WithinP Dh D := by rw [HD.out, hDh]; exact perm_within (List.reverse_perm l) hokr
          have HNG := hide_ hng
          have HDH := hide_ hDh
          have HW1 := hide_ hw1
          have HW2 := hide_ hw2
          have HOKR := hide_ hokr
          have HBW := hide_ (HB.out.trans (hbj.mono HB.out.size))
          have d0 : decide ((0 : Int) ≤ (j : Int) - 1 - (j : Int)) = false := by simp; omega
          clear hng hDh hw1 hw2 hokr hown hbj hrl
          go_wp2_with fail
          refine HNG.out.mono ?_
          rintro e w8 ⟨hor, hb8⟩
          rcases hor with ⟨Dx, q3, hDx, rfl, hg3, hq3⟩ | ⟨hDx, _⟩
          · injection hDx with hDx
            subst hDx
            have HBW8 := hide_ (HBW.out.trans (hb8.mono HBW.out.size))
            obtain ⟨gq, _, _, hbig, _⟩ := HS.out w8 HBW8.out
            have h9 := hide_ (Within_any q q3 D Dh w8 gq hg3)
            have HG3 := hide_ hg3
            have HGQ := hide_ gq
            have HBIG := hide_ hbig
            clear hb8 gq hg3 hbig
            go_wp2_with fail
            refine h9.out.mono ?_
            rintro e w9 ⟨b9, rfl, hb9, hB9⟩
            obtain rfl : b9 = true := hb9.2 HW1.out
            have HG39 := hide_ (HG3.out.below hB9)
            have HGQ9 := hide_ (HGQ.out.below hB9)
            have h10 := hide_ (Within_any q3 q Dh D w9 HG39.out HGQ9.out)
            have HBIG9 := hide_ (HBIG.out.trans (hB9.mono HBIG.out.size))
            clear hb9 hB9 h9
            go_wp2_with fail
            refine h10.out.mono ?_
            rintro e w10 ⟨b10, rfl, hb10, hB10⟩
            obtain rfl : b10 = true := hb10.2 HW2.out
            have HG310 := hide_ (HG39.out.below hB10)
            have h11 := hide_ (Grants_any q D w10 (HGQ9.out.below hB10))
            have HBIG10 := hide_ (HBIG9.out.trans (hB10.mono HBIG9.out.size))
            clear hb10 hB10 h10
            go_wp2_with fail
            refine h11.out.mono ?_
            rintro e w11 ⟨A11, l11, c11, rfl, ht11, ho11, hB11, hl11⟩
            have HG311 := hide_ (HG310.out.below hB11)
            have h12 := hide_ (Grants_any q3 Dh w11 HG311.out)
            have hr11 := GReads.of_own ho11
            have HR11 := hide_ hr11
            have HT11 := hide_ ht11
            have HBIG11 := hide_ (HBIG10.out.trans (hB11.mono HBIG10.out.size))
            clear ht11 ho11 hB11 hr11 h11
            go_wp2_with fail
            refine h12.out.mono ?_
            rintro e w12 ⟨A12, l12, c12, rfl, ht12, ho12, hB12, hl12⟩
            have hl12e : l11 = l12 := HT11.out.eq_of ht12 HW1.out HW2.out
            have hr11 := (HR11.out.below hB12).more hB12.size
            have hr12 := GReads.of_own ho12
            have h13 := SameGrants_any A11 A12 l11.length c11 l12.length c12 l11 l12 w12.heap.size w12 hr11 hr12 (Nat.le_refl _) (by omega) (by omega)
            rw [decide_eq_true hl12e] at h13
            have H13 := hide_ h13
            have HG312 := hide_ (HG311.out.below hB12)
            have HBIG12 := hide_ (HBIG11.out.trans (hB12.mono HBIG11.out.size))
            clear h13 hr11 hr12 hl12e ht12 ho12 hB12 h12 hl11 hl12
            go_wp2_with fail
            refine H13.out.mono ?_
            rintro e w13 ⟨rfl, nq, rfl⟩
            have hg313 : GateAt (w12.drewN nq) q3 Dh := HG312.out
            have h14 := hide_ (Grants_any q3 Dh (w12.drewN nq) hg313)
            have HBIG13 := hide_ (below_draws2 HBIG12.out nq)
            clear hg313 H13
            go_wp2_with fail
            refine h14.out.mono ?_
            rintro e w14 ⟨A14, l14, c14, rfl, ht14, ho14, hB14, hl14⟩
            have hlen : l14.length = j := by
              rw [HDH.out] at ht14
              rw [ht14.len HOKR.out, List.length_reverse, HM.out]
            obtain ⟨n14, hn14⟩ : ∃ n14, n14 = l14.length := ⟨_, rfl⟩
            have hr14 := GReads.of_own ho14
            rw [← hn14] at hlen hr14 hl14 ⊢
            subst hlen
            have HR14 := hide_ hr14
            have HT14 := hide_ ht14
            have HBIG14 := hide_ (HBIG13.out.trans (hB14.mono HBIG13.out.size))
            have HN14 := hide_ hn14
            clear hr14 ht14 ho14 hB14 hn14 h14
            go_wp2
            obtain ⟨wo, rfl⟩ : ∃ wo : World, wo = w14 := ⟨_, rfl⟩
            go_loopw [18] (fun i W => ∃ j : Nat, (j + 1 ≤ n14 ∨ j = 0) ∧ i = .int .i64 ((j : Int) + 1) ∧ ∃ nq, W = wo.drewN nq) (fun i _ => n14 - (intOf i).toNat)
            case atStart => exact ⟨0, .inr rfl, rfl, 0, rfl⟩
            case round =>
              obtain ⟨j, hj, rfl, nq2, rfl⟩ := hrel
              by_cases hlt5 : j + 1 < n14
              · obtain ⟨⟨x, a⟩, hx⟩ : ∃ t, l14[j]? = some t := ⟨_, List.getElem?_eq_getElem (by rw [← HN14.out]; omega)⟩
                obtain ⟨⟨y, b⟩, hy⟩ : ∃ t, l14[j + 1]? = some t := ⟨_, List.getElem?_eq_getElem (by rw [← HN14.out]; omega)⟩
                obtain ⟨ad, rfl, hbk, hc⟩ := HR14.out.2 (by omega)
                obtain ⟨c0, _⟩ := hc j x a hx
                obtain ⟨c2, _⟩ := hc (j + 1) y b hy
                have hxy : x < y := by
                  have h := List.pairwise_iff_getElem.1 HT14.out.sorted j (j + 1) (List.getElem?_eq_some_iff.1 hx).1 (List.getElem?_eq_some_iff.1 hy).1 (by omega)
                  rw [(List.getElem?_eq_some_iff.1 hx).2, (List.getElem?_eq_some_iff.1 hy).2] at h
                  exact h
                have dxy : decide (y ≤ x) = false := by simp; omega
                have s1 : IntKind.i64.wrap ((j : Int) + 1 - 1) = (j : Int) := by rw [IntWalk.i64_in _ (by omega)]; omega
                have hb0 : (ad.add (j * 2)).block < wo.heap.size := by rw [block_of_add]; exact hbk
                have hb1 : (ad.add ((j + 1) * 2)).block < wo.heap.size := by rw [block_of_add]; exact hbk
                have t1 : ((j : Int) + 1).toNat = j + 1 := by omega
                have g0 : (0 : Int) ≤ (j : Int) + 1 := by omega
                have g1 : (j : Int) + 1 < (n14 : Int) := by omega
                clear hc hx hy hbk hxy
                go_wp2
                go_quiet (fail)
                clear s1 t1 g0 g1
                go_wp2
                go_roundw
                case rel => exact ⟨j + 1, by omega, by go_num, _, rfl⟩
                case measure => simp [intOf]; omega
              · have hge : n14 ≤ j + 1 := by omega
                have hEND := hide_ (below_draws2 HBIG14.out nq2)
                go_wp2
                go_ret
                exact ⟨by simp, hEND.out⟩
          · cases hDx
end Go.Proofs.Ytgppbdcnpailaaa
