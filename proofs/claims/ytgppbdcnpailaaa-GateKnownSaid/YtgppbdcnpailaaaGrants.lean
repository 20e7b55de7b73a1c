/-
  The walk of gate's Grants.
-/
import Derived.Shelf.SlSortCmp.NoneTotal
import Derived.Test.YtgppbdcnpailaaaGranted
import Derived.Test.YtgppbdcnpailaaaGSort
import Derived.Test.YtgppbdcnpailaaaSortLay
namespace Go.Proofs.Ytgppbdcnpailaaa
open Go.RowKit Go.Maps
set_option linter.unusedVariables false

theorem run_cmp (a b : GU) (W : World) : Calls Try.prog 92 #[.agg (encU a).toArray, .agg (encU b).toArray] W fun e w' => e = .returned (.int .i64 (cfU a b)) ∧ ∃ q os, w' = Go.Sort.grow (W.drewN q) os := by
  obtain ⟨a0, a1⟩ := ofU_bd a
  obtain ⟨b0, b1⟩ := ofU_bd b
  unfold encU cfU
  generalize (ofU a).1 = x at a0 a1 ⊢
  generalize (ofU b).1 = x' at b0 b1 ⊢
  generalize (ofU a).2 = y
  generalize (ofU b).2 = y'
  have s1 : IntKind.i64.wrap (x - x') = x - x' := IntWalk.i64_in _ (by omega)
  go_enter Try.func92, Try.ntmps92
  go_wp2
  go_ret
  exact ⟨by simp, 0, _, by rw [Go.Sort.alloc_eq_grow, Go.Sort.alloc_eq_grow, Go.Sort.grow_grow]; rfl⟩
/-- the sort, of a row of grants that the call owns -/
theorem sort_any (A : Option Addr) (c B : Nat) (l : List (Int × Int)) (W : World) (h : W.ownsRow B 95 2 (.slice A l.length c) l.length (gCells l)) (hwf : ∀ t ∈ l, (Lit.int .u32 t.1).wf = true) (hl : l.length ≤ 64) (cb : Nat) (hB : B ≤ W.heap.size) :
    Calls Try.prog 91 #[.slice A l.length c, .func (.func 92) #[] #[]] W fun e W' => e = .returned (.tuple #[]) ∧ ∃ l' : List (Int × Int), l'.Perm l ∧ (l'.Pairwise fun s t => s.1 ≤ t.1) ∧
      W'.ownsRow B 95 2 (.slice A l.length c) l.length (gCells l') ∧ Below B W W' := by
  rcases Nat.eq_zero_or_pos l.length with h0 | h0
  · obtain rfl := List.eq_nil_of_length_eq_zero h0
    have hS := AnyF.slices_SortFunc_none (P := Try.prog) (ρ := Try.sortG_ren) { Try.sortG with } A c (.func (.func 92) #[] #[]) W
    refine hS.mono ?_
    rintro e W' ⟨rfl, rfl⟩
    exact ⟨rfl, [], .refl _, List.Pairwise.nil, h, Below.refl _ _⟩
  · obtain ⟨g, c', hv⟩ := ownsRow_some h h0
    injection hv with hv _ _
    subst hv
    obtain ⟨d, hd⟩ : ∃ d : Array GU, d = (l.map toU).toArray := ⟨_, rfl⟩
    have hds : d.size = l.length := by rw [hd]; simp
    have hdl : d.toList.map ofU = l := by
      rw [hd, List.map_map]
      refine (List.map_congr_left fun t ht => ?_).trans (List.map_id l)
      obtain ⟨t0, t1⟩ := wf_u32 (hwf t ht)
      exact ofU_toU t0 t1
    have hown : W.ownsRow B 95 2 (.slice (some ⟨g, 0, none⟩) l.length c) l.length (Go.Sort.flatK encU 2 d).toList := by rw [flatU, hdl]; exact h
    have eg : ∀ args w, (callFunc 92 args).run Try.prog w = .ok (.enter 92 args) w := enters_of Try.func92 (by kernel_rfl) rfl
    have hlt : g < W.heap.size := (h.lt g rfl).2
    have hS := AnyQ.slices_SortFunc Try.sortG 2 Try.isAgg95 Try.sizeOf95 encU (fun _ => rfl) (fun x v hv => by simp [encU] at hv; rcases hv with rfl | rfl <;> rfl) cfU swoU 92 #[] g 0 c d W eg
      (fun m os dk _ x y => run_cmp x y _) (holds_of_own hown) hlt (by omega)
    rw [hds] at hS
    refine hS.mono ?_
    rintro e W' ⟨rfl, d', n, os, hp, hsd, rfl⟩
    have hs' : d'.size = d.size := hp.1
    refine ⟨rfl, d'.toList.map ofU, ?_, ?_, ?_, ?_⟩
    · have h2 := hp.2.2
      rw [Array.extract_eq_self_of_le (by omega), Array.extract_eq_self_of_le (by omega)] at h2
      have := h2.map ofU
      rwa [hdl] at this
    · rw [List.pairwise_map, List.pairwise_iff_getElem]
      intro i j hi hj hij
      have h3 := hsd i j (Nat.zero_le _) hij (by rw [Array.length_toList] at hj; omega)
      rw [ltU] at h3
      rw [Array.length_toList] at hi hj
      rw [getElem!_pos d' j hj, getElem!_pos d' i hi] at h3
      simp only [decide_eq_false_iff_not] at h3
      rw [Array.getElem_toList, Array.getElem_toList]
      omega
    · rw [← flatU]
      exact ownsRow_sorted hown hds.symm hs' n os
    · exact (Below.refl _ _).grown (grown_sorted W g n d' os hlt) hB (fun j hj => by cases hj; exact (h.lt g rfl).1)
set_option maxRecDepth 100000 in
theorem Grants_any (q : Nat) (D : MD) (w : World) (h : GateAt w q D) :
    Calls Try.prog 61 #[.pointer (some ⟨q, 0, none⟩)] w fun e w' => ∃ A l c, e = .returned (.slice A l.length c) ∧ Told D l ∧ w'.ownsRow w.heap.size 95 2 (.slice A l.length c) l.length (gCells l) ∧ Below w.heap.size w w' ∧ l.length ≤ 64 := by
  obtain ⟨i0, hi0, hz0, hz1, hz2⟩ := info_parts grant_info
  obtain ⟨m, n, c1, l1, s1, o1, n64⟩ := h
  have g1 := gmade_any q m w c1
  have hsz := o1.size_le
  obtain ⟨sz, hsz0⟩ : ∃ sz, sz = Maps.size D := ⟨_, rfl⟩
  have hs64 : sz ≤ 64 := by omega
  clear hsz n64
  go_enter Try.func61, Try.ntmps61
  go_wp2_with fail
  refine g1.mono ?_
  rintro e w' ⟨rfl, hw⟩
  subst w'
  go_wp2_with (first
    | (at_range; refine wpList_range_own _ rfl _ 101 rfl 23 3 K32 Try.underlying101 _ m n _ rfl o1 ?_; intro w0 hrg0 hg0 hs0)
    | go_in)
  rw [← hsz0] at hrg0
  clear hsz0 o1 g1
  go_frame
  go_loopw [3] (fun v wr => ∃ (left : Lit → Bool) (cnt : Nat) (A : Option Addr) (l : List (Int × Int)) (c : Nat), wr.ranges Try.prog 23 (plainElem Try.prog 3) m w.heap.size n D left cnt ∧ Below w.heap.size w wr ∧ v = .slice A l.length c ∧ Gathered D left l ∧ l.length + cnt ≤ 64 ∧ wr.ownsRow (w.heap.size + 1) 95 2 (.slice A l.length c) l.length (gCells l) ∧ w.heap.size < wr.heap.size) (fun _ wr => wr.rangeLeft m w.heap.size)
  case atStart => exact ⟨_, _, none, [], 0, hrg0, (Below.refl _ _).grown hg0 (Nat.le_refl _) (fun j hj => by cases hj), rfl, ⟨List.Pairwise.nil, by simp, by simp, fun x _ h1 h2 => by rw [h1] at h2; cases h2⟩, by simpa using hs64, World.ownsRow_nil _ _ _ _, by omega⟩
  case round =>
    clear hrg0 hg0 hs0
    obtain ⟨left, cnt, A, l, c, hrg, hb, rfl, hG, hlen, hown, hsz1⟩ := hrel
    have HG := hide_ hG
    have HB := hide_ hb
    obtain ⟨k, hk⟩ : ∃ k, k = l.length := ⟨_, rfl⟩
    rw [← hk] at hown hlen ⊢
    have HK := hide_ hk
    clear hG hb hk
    go_wp2_with (first
      | (at_next; refine wpList_next_ranges_ii _ rfl _ rfl 23 3 .u32 .i64 K32 Try.underlying23 Try.underlying3 m w.heap.size n _ _ _ rfl hrg ?_ ?_)
      | go_in)
    · intro _ hl0
      have hL0 := hide_ hl0
      have hsrt := sort_any A c (w.heap.size + 1) l wr (by rw [← HK.out]; exact hown) (fun t ht => (HG.out.ok t ht).1) (by rw [← HK.out]; omega) 0 (by omega)
      have HS := hide_ hsrt
      rw [← HK.out] at HS
      clear hl0 hsrt hown hrg
      go_wp2_with fail
      refine HS.out.mono ?_
      rintro e w2 ⟨rfl, l', hp, hs', hown2, hb2⟩
      have hlen2 := hp.length_eq
      rw [← HK.out] at hlen2
      have HT := hide_ (sorted_told HG.out hL0.out hp hs')
      have HO2 := hide_ hown2
      have HB2 := hide_ (HB.out.trans (hb2.mono (by omega)))
      have HL2 := hide_ hlen2
      clear hown2 hb2 hlen2 hp hs'
      go_wp2
      go_ret
      refine ⟨A, l', c, by rw [HL2.out]; rfl, HT.out, ?_, HB2.out, by rw [HL2.out]; omega⟩
      rw [HL2.out]
      have h3 := HO2.out
      refine ⟨h3.1, ?_⟩
      rcases h3.2 with h4 | ⟨g, cap, cur, hv, hg0, rest⟩
      · exact .inl h4
      · exact .inr ⟨g, cap, cur, hv, by omega, rest⟩
    · intro x c2 w1 cnt1 hwx hwc hlx hat hrg1 hlt hg1 hs1 hen
      have HG1 := hide_ (HG.out.next hwx hwc hlx hat)
      have hb1 : Below w.heap.size w w1 := HB.out.grown hg1 HB.out.size (fun j hj => by cases hj; exact Nat.le_refl _)
      have hO0 : Owns w1 (w.heap.size + 1) [⟨95, 2, .slice A k c, k, gCells l⟩] := ⟨fun r hr => by
        rw [List.mem_singleton.1 hr]
        refine hown.kept hg1 ?_
        rcases hown.2 with ⟨hn, _⟩ | ⟨g, cap, cur, hv, hg0, _⟩
        · rw [hn]; exact .inl rfl
        · rw [hv]; right; simp only [Value.ownBlock]; intro e; injection e with e; omega, List.pairwise_singleton _ _⟩
      have HB1 := hide_ hb1
      have HLT := hide_ hlt
      have hRG := hrg
      have HRG := hide_ (show wr.rangeLeft m w.heap.size = cnt from hRG.left_eq)
      have hs9 : w.heap.size < w1.heap.size := by omega
      have hrg2 := hrg1.alloc (.cells #[.int .u32 x, .int .i64 c2] 95)
      have HRG1 := hide_ hrg2
      clear hb1 hlx hat hown hRG hrg hwx hwc hrg2 hs1 hg1 hlt hrg1
      go_wp2_with (at_builtin; refine wpList_append_owns _ rfl (.tmp 19) (.tmp 23) 38 rfl (w.heap.size + 1) _ 0 95 2 (.slice A k c) k (gCells l) rfl (hO0.alloc _) (by simp; omega) i0 _ 16 Try.underlying38 hi0 hz0 hz1 hz2 rfl (by omega) rfl _ _ 1 1 [.int .u32 x, .int .i64 c2] rfl (reads_new w1 95 2 1 [.int .u32 x, .int .i64 c2] rfl) (by simp [Value.oneCell']) (by simp only [maxLen]; omega) (by omega) ?_)
      intro v1 w2 hO1 hb2 hsz2
      obtain ⟨A1, c3, hv, _, _⟩ := ownsRow_slice (hO1.at_ (i := 0) rfl)
      simp only at hv
      subst hv
      have HO1 := hide_ (hO1.at_ (i := 0) rfl)
      have HB2 := hide_ hb2
      clear hO1 hb2 hO0
      have hRG3 : w2.ranges Try.prog 23 (plainElem Try.prog 3) m w.heap.size n D (fun z => left z && !z.sameKey (.int .u32 x)) cnt1 := by
        have h1 := HRG1.out
        have hm : m < w.heap.size + 1 := by omega
        obtain ⟨es, clock, since, seen, c0, r1, r2, r3, r4, r5, rest⟩ := h1
        exact ⟨es, clock, since, seen, c0, (HB2.out.block m hm).trans r1, r2, r3, r4, (HB2.out.block w.heap.size (by omega)).trans r5, rest⟩
      have HRG3 := hide_ hRG3
      clear hRG3
      go_wp2
      go_roundw
      case rel =>
        refine ⟨_, cnt1, A1, l ++ [(x, c2)], c3, HRG3.out, (HB1.out.alloc HB1.out.size _).trans (HB2.out.mono (by omega)), ?_, HG1.out, ?_, ?_, by omega⟩
        · rw [List.length_append, ← HK.out]; rfl
        · rw [List.length_append, ← HK.out]; have := HLT.out; simp; omega
        · rw [gCells_snoc, List.length_append, ← HK.out]
          exact HO1.out
      case measure => rw [HRG3.out.left_eq, HRG.out]; exact HLT.out
end Go.Proofs.Ytgppbdcnpailaaa
