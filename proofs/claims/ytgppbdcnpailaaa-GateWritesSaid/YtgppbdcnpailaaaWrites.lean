/-
  The walk of the statement GateWrites.
-/
import Derived.Test.YtgppbdcnpailaaaApply
import Derived.Test.YtgppbdcnpailaaaMemRaw
namespace Go.Proofs.Ytgppbdcnpailaaa
open Go.RowKit

def gateRow (q mp : Nat) : Ro := ⟨103, 1, .slice (some ⟨q, 0, none⟩) 1 1, 1, [.map (some mp)]⟩
def dPart (xs : List Int) (k : Nat) : List Int := (List.range 256).map fun j => if j < k then xs[j]?.getD 0 else 0
theorem dPart_len (xs : List Int) (k : Nat) : (dPart xs k).length = 256 := by simp [dPart]
theorem dPart_get (xs : List Int) (k j : Nat) (hj : j < 256) : (dPart xs k)[j]? = some (if j < k then xs[j]?.getD 0 else 0) := by
  unfold dPart
  rw [List.getElem?_map, List.getElem?_range hj]
  rfl
theorem dPart_none (xs : List Int) (k j : Nat) (hj : ¬ j < 256) : (dPart xs k)[j]? = none := List.getElem?_eq_none (by rw [dPart_len]; omega)
theorem dPart_set (xs : List Int) (k : Nat) (hk : k < 256) : (dPart xs k).set k (xs[k]?.getD 0) = dPart xs (k + 1) := by
  apply List.ext_getElem?
  intro j
  rw [List.getElem?_set, dPart_len]
  by_cases hj : j < 256
  · rw [dPart_get _ _ _ hj, dPart_get _ _ _ hj]
    by_cases e : k = j
    · subst e
      rw [if_pos rfl, if_pos hj, if_pos (by omega)]
    · rw [if_neg e]
      by_cases c1 : j < k
      · rw [if_pos c1, if_pos (by omega)]
      · rw [if_neg c1, if_neg (by omega)]
  · rw [dPart_none _ _ _ hj, dPart_none _ _ _ hj]
    by_cases e : k = j
    · omega
    · rw [if_neg e]
theorem dPart_ok {xs : List Int} (h : bytesOk xs) (k : Nat) : bytesOk (dPart xs k) := by
  intro x hx
  obtain ⟨j, _, rfl⟩ := List.mem_map.1 hx
  split
  · cases hq : xs[j]? with
    | none => simp
    | some y => exact h y (List.mem_of_getElem? hq)
  · omega
theorem dPart_zero (xs : List Int) : dPart xs 0 = List.replicate 256 0 := by
  apply List.ext_getElem?
  intro j
  by_cases hj : j < 256
  · rw [dPart_get _ _ _ hj, if_neg (by omega), List.getElem?_replicate, if_pos hj]
  · rw [dPart_none _ _ _ hj, List.getElem?_replicate, if_neg hj]

theorem one_own {w : World} {B : Nat} {e : TypeId} {size n : Nat} {v : Value} {xs : List Value} (h : w.ownsRow B e size v n xs) : Owns w B [⟨e, size, v, n, xs⟩] := ⟨fun r hr => by rw [List.mem_singleton.1 hr]; exact h, List.pairwise_singleton _ _⟩
set_option maxRecDepth 100000 in
set_option maxHeartbeats 2000000 in
theorem GateWrites_walk (A : Option Addr) (n c : Nat) (xs : List Int) (a : Int) (A' : Option Addr) (n' c' : Nat) (ys : List Int) (w : World) (hr : Reads w w.heap.size 1 A n (u8s xs)) (hxw : ∀ x ∈ xs, (Lit.int .u8 x).wf = true) (_hnc : n ≤ c) (_hcb : c * 1 ≤ 140737488351232)
    (hwa : (Lit.int .u32 a).wf = true) (hr' : Reads w w.heap.size 1 A' n' (u8s ys)) (hyw : ∀ x ∈ ys, (Lit.int .u8 x).wf = true) (_hnc' : n' ≤ c') (_hcb' : c' * 1 ≤ 140737488351232) :
    Calls Try.prog 8 #[.slice A n c, .int .u32 a, .slice A' n' c'] w fun e w' => e = .returned (.bool true) ∧ Below w.heap.size w w' := by
  obtain ⟨i0, hi0, hz0, hz1, hz2⟩ := info_parts Try.info_u8
  obtain ⟨a0, a1⟩ := wf_u32 hwa
  have hxl : xs.length = n := by simpa using hr.1
  have hyl : ys.length = n' := by simpa using hr'.1
  have HXO := hide_ (show bytesOk xs from fun x hx => wf_u8 (hxw x hx))
  have HYO := hide_ (show bytesOk ys from fun x hx => wf_u8 (hyw x hx))
  have HX := hide_ hxl
  have HY := hide_ hyl
  have HR := hide_ hr
  have HR' := hide_ hr'
  have hg := hide_ (New_nil w)
  clear hr hr' hxw hyw hwa hxl hyl
  go_enter Try.func8, Try.ntmps8
  go_wp2_with fail
  refine hg.out.mono ?_
  rintro e w1 ⟨q, mp, rfl, hq1, hq0, hb1⟩
  have hO1 : Owns w1 w.heap.size [gateRow q mp] := ⟨fun r h => by rw [List.mem_singleton.1 h]; exact blk_own hq1 hq0 (by show 1 ≤ maxLen; unfold maxLen; decide), List.pairwise_singleton _ _⟩
  have HO1 := hide_ hO1
  have HB1 := hide_ hb1
  clear hq1 hb1 hO1
  go_wp2_with (refine wpList_make_full _ rfl (.const (.int .i64 256)) (.const (.int .i64 256)) 46 rfl w1.heap.size 5 i0 _ 1 Try.underlying46 hi0 hz0 hz1 .i64 .i64 256 256 256 rfl rfl rfl rfl (by rw [hz2]; omega) (by simp only [maxLen]; omega) (Nat.le_refl _) ?_)
  intro w2 hown hgr
  have e1 : (madeCells #[Value.int .u8 0] 256).toList = u8s (dPart xs 0) := by
    rw [toList_madeCells_one, dPart_zero]
    simp
  rw [e1] at hown
  have hb2 : Below w1.heap.size w1 w2 := (Below.refl _ _).grown hgr (Nat.le_refl _) (fun k e => by cases e)
  have hO2 : Owns w2 w.heap.size [gateRow q mp, outR w1.heap.size 256 256 (dPart xs 0)] := HO1.out.push hb2 (r := outR w1.heap.size 256 256 (dPart xs 0)) hown HB1.out.size
  have hB2 : Below w.heap.size w w2 := HB1.out.trans (hb2.mono HB1.out.size)
  obtain ⟨o, ho⟩ : ∃ o, o = w1.heap.size := ⟨_, rfl⟩
  rw [← ho] at hO2 ⊢
  clear hown hgr e1 hb2 ho
  go_wp2
  go_loopw [10] (fun i wr => ∃ k : Nat, k ≤ 256 ∧ k ≤ n ∧ i = .int .i64 k ∧ Owns wr w.heap.size [gateRow q mp, outR o 256 256 (dPart xs k)] ∧ Below w.heap.size w wr) (fun i _ => 256 - (intOf i).toNat)
  case atStart => exact ⟨0, by omega, by omega, rfl, hO2, hB2⟩
  case round =>
    clear hO2 hB2
    obtain ⟨k, hk, hkn, rfl, hO, hb⟩ := hrel
    by_cases hlt : k < 256 ∧ k < n
    · obtain ⟨hk1, hk2⟩ := hlt
      obtain ⟨ad, u, rfl, hab, hu, hcu⟩ := (HR.out.below hb).at_ hk2
      rw [u8s_get (by rw [HX.out]; exact hk2)] at hu
      injection hu with hu
      subst hu
      have hsz := hb.size
      have hbk : (ad.add k).block < wr.heap.size := by rw [block_of_add]; omega
      have cd : wr.cell? ⟨o, k, none⟩ = some (.int .u8 ((dPart xs k)[k]?.getD 0)) := hO.cell (i := 1) rfl (u8s_get (by rw [dPart_len]; exact hk1))
      have fd := hO.frozen (i := 1) rfl k
      have hst := hO.store (i := 1) (e := 5) (size := 1) (n := 256) (g := o) (c := 256) (j := k) (xs := u8s (dPart xs k)) rfl (by simp [dPart_len]; exact hk1) (.int .u8 (xs[k]?.getD 0))
      rw [show (u8s (dPart xs k)).set k (.int .u8 (xs[k]?.getD 0)) = u8s (dPart xs (k + 1)) by rw [← dPart_set xs k hk1]; exact (List.map_set).symm] at hst
      have hb3 := hb.setCell (p := ⟨o, k, none⟩) (hO.base (i := 1) rfl).1 (.int .u8 (xs[k]?.getD 0))
      have hob : o < wr.heap.size := (hO.base (i := 1) rfl).2
      have HST := hide_ hst
      have HB3 := hide_ hb3
      clear hO hb hst hb3 hab
      go_wp2
      go_roundw
      case rel => exact ⟨k + 1, by omega, by omega, by go_num, HST.out, HB3.out⟩
      case measure => simp [intOf]; omega
    · have hseg : IsSeg 256 := ⟨8, by omega, by omega, rfl⟩
      obtain ⟨D, hD⟩ : ∃ D, D = dPart xs k := ⟨_, rfl⟩
      have hDl : D.length = 256 := by rw [hD]; exact dPart_len _ _
      have hDo : bytesOk D := by rw [hD]; exact dPart_ok HXO.out _
      rw [← hD] at hO
      have h3 := hide_ (From_any (some ⟨o, 0, none⟩) 256 hO hb.size (Reads.of_own (hO.at_ (i := 1) rfl)) hseg)
      have HD := hide_ (show D.length = 256 ∧ bytesOk D from ⟨hDl, hDo⟩)
      have HB := hide_ hb
      clear hD hDl hDo hO hb
      have hk3 : k = 256 ∨ (decide ((k : Int) < 256) = true ∧ decide (k < n) = false) := by
        by_cases h1 : k < 256
        · exact .inr ⟨by simp; omega, by simp; omega⟩
        · exact .inl (by omega)
      rcases hk3 with rfl | ⟨d1, d2⟩
      all_goals
        clear hlt
        go_wp2_with fail
        refine h3.out.mono ?_
        rintro e w3 ⟨g, d, c3, rfl, hO3, hb3⟩
        have hB3 : Below w.heap.size w w3 := HB.out.trans (hb3.mono HB.out.size)
        have hS3 : Seg w3 w.heap.size g d 256 c3 D [gateRow q mp, outR o 256 256 D] := ⟨⟨_, hO3⟩, hB3.size, hseg, HD.out.1, HD.out.2⟩
        have hq3 : w3.cell? ⟨q, 0, none⟩ = some (.map (some mp)) := hO3.cell (i := 3) rfl rfl
        have hqs : q < w3.heap.size := (hO3.base (i := 3) rfl).2
        have hb4 : Below w3.heap.size w3 (w3.alloc (.cells #[.int .u32 a, .slice A' n' c'] 53)) := (Below.refl _ _).alloc (Nat.le_refl _) _
        have hS4 := hS3.below hb4
        have hq4 := (hb4.cell (p := ⟨q, 0, none⟩) hqs).trans hq3
        have hk4 := Blk.new w3 53 #[.int .u32 a, .slice A' n' c']
        have hr4 := HR'.out.below (hB3.trans (hb4.mono hB3.size))
        have HB4 := hide_ (hB3.trans (hb4.mono hB3.size))
        by_cases hn' : n' ≤ 256
        · have h5 := hide_ (Apply_one 8 q mp w3.heap.size n' c' w.heap.size a A' ys hS4 (by omega) (by omega) rfl hq4 (by simp; omega) (by simp) (hk4.cell 0) (hk4.cell 1) hn' a0 (by omega) hr4 (Nat.le_refl _) HYO.out)
          have d5 : decide ((256 : Int) < (n' : Int)) = false := by simp; omega
          clear hO3 hb3 hB3 hS3 hq3 hqs hb4 hS4 hq4 hk4 hr4 h3
          go_wp2_with fail
          refine h5.out.mono ?_
          rintro e w5 ⟨rfl, hS5, hb5⟩
          have h6 := hide_ (Bytes_off hS5)
          have HC5 := hide_ hS5.base
          have HB5 := hide_ (HB4.out.trans hb5)
          clear hS5 hb5 h5
          go_wp2_with fail
          refine h6.out.mono ?_
          rintro e w6 ⟨o6, co6, rfl, hown6, hS6, hb6⟩
          have hB6 := HB5.out.trans (hb6.mono HC5.out)
          have hnow : ∀ i, i < 256 → w6.cell? ⟨o6, i, none⟩ = some (.int .u8 ((puts 256 a ys D n')[i]?.getD 0)) := fun i hi => (one_own hown6).cell (i := 0) rfl (u8s_get (by rw [hS6.len]; exact hi))
          have hdat : ∀ i, i < 256 → w6.cell? ⟨o, i, none⟩ = some (.int .u8 (D[i]?.getD 0)) := fun i hi => by
            obtain ⟨⟨tv, hO⟩, _⟩ := hS6
            exact hO.cell (i := 4) rfl (u8s_get (by rw [HD.out.1]; exact hi))
          have hbyt := HR'.out.below hB6
          have HNOW := hide_ hnow
          have HDAT := hide_ hdat
          have HBYT := hide_ hbyt
          have HB6 := hide_ hB6
          have HSZ6 := hide_ (show w.heap.size ≤ w6.heap.size ∧ o6 < w6.heap.size ∧ o < w6.heap.size from ⟨hB6.size, ((one_own hown6).base (i := 0) rfl).2, by obtain ⟨⟨tv, hO⟩, _⟩ := hS6; exact (hO.base (i := 4) rfl).2⟩)
          clear hnow hdat hbyt hB6 hown6 hS6 hb6 h6
          go_wp2
          go_loopw [14] (fun i wr => ∃ j : Nat, j ≤ 256 ∧ i = .int .i64 j ∧ ∃ nq, Hid (wr = w6.drewN nq)) (fun i _ => 256 - (intOf i).toNat)
          case atStart => exact ⟨0, by omega, rfl, 0, hide_ rfl⟩
          case round =>
            obtain ⟨j, hj, rfl, nq, HW⟩ := hrel
            by_cases hj2 : j < 256
            · have hl := HSZ6.out
              have c1 : wr.cell? ⟨o6, j, none⟩ = some (.int .u8 ((puts 256 a ys D n')[j]?.getD 0)) := by rw [HW.out]; exact HNOW.out j hj2
              have c2 : wr.cell? ⟨o, j, none⟩ = some (.int .u8 (D[j]?.getD 0)) := by rw [HW.out]; exact HDAT.out j hj2
              obtain ⟨kk, hkk⟩ : ∃ kk : Nat, ((j : Int) - a) % 4294967296 % 256 = (kk : Int) := Int.eq_ofNat_of_zero_le (by omega)
              have hp256 : IsPow 256 := ⟨8, by omega, rfl⟩
              have hkb : kk < 256 := by omega
              have hplc : plc 256 a kk = (j : Int) := by
                rw [plc_mod hp256]
                omega
              have hgp := gt_puts hp256 (a := a) (ys := ys) HD.out.1 n' hn' kk hkb
              rw [hplc, gt_nat, gt_nat] at hgp
              have hkk2 : ((j : Int) - a) % 256 = (kk : Int) := by omega
              have ho6 : o6 < wr.heap.size := by rw [HW.out]; exact hl.2.1
              have hoo : o < wr.heap.size := by rw [HW.out]; exact hl.2.2
              have hbw : Reads wr w.heap.size 1 A' n' (u8s ys) := by rw [HW.out]; exact HBYT.out.drewN nq
              have hws : w.heap.size ≤ wr.heap.size := by rw [HW.out]; exact hl.1
              by_cases hc : kk < n'
              · rw [if_pos hc] at hgp
                obtain ⟨ad, u, rfl, hab, hu, hcu⟩ := hbw.at_ hc
                rw [u8s_get (by rw [HY.out]; exact hc)] at hu
                injection hu with hu
                subst hu
                obtain ⟨y, hy⟩ : ∃ y, y = ys[kk]?.getD 0 := ⟨_, rfl⟩
                rw [hgp, ← hy] at c1
                rw [← hy] at hcu
                have hab2 : (ad.add kk).block < wr.heap.size := by rw [block_of_add]; omega
                have x1 : decide (kk < n') = true := by simp; omega
                have x2 : decide (n' ≤ kk) = false := by simp; omega
                have k0 : (0 : Int) ≤ (kk : Int) := by omega
                have k1 : (kk : Int) < (n' : Int) := by omega
                clear hgp hplc hp256 hbw hab hy hc hl
                go_wp2
                go_quiet (fail)
                go_wp2
                go_roundw
                case rel => exact ⟨j + 1, by omega, by go_num, _, hide_ (by rw [HW.out]; exact World.drewN_drewN _ _ _)⟩
                case measure => simp [intOf]; omega
              · rw [if_neg hc] at hgp
                obtain ⟨y, hy⟩ : ∃ y, y = D[j]?.getD 0 := ⟨_, rfl⟩
                rw [hgp, ← hy] at c1
                rw [← hy] at c2
                have x1 : decide (kk < n') = false := by simp; omega
                have x2 : decide (n' ≤ kk) = true := by simp; omega
                clear hgp hplc hp256 hbw hy hc hl
                go_wp2
                go_quiet (fail)
                go_wp2
                go_roundw
                case rel => exact ⟨j + 1, by omega, by go_num, _, hide_ (by rw [HW.out]; exact World.drewN_drewN _ _ _)⟩
                case measure => simp [intOf]; omega
            · obtain rfl : j = 256 := by omega
              go_wp2
              go_ret
              exact ⟨rfl, by rw [HW.out]; exact below_draws2 HB6.out nq⟩
        · have h5 := hide_ (Apply_big 8 q mp w3.heap.size n' c' a A' hS4 (by omega) (by omega) rfl hq4 (by simp; omega) (by simp) (hk4.cell 0) (hk4.cell 1) (by omega))
          have d5 : decide ((256 : Int) < (n' : Int)) = true := by simp; omega
          clear hO3 hb3 hB3 hS3 hq3 hqs hb4 hS4 hq4 hk4 hr4 h3 hn'
          go_wp2_with fail
          refine h5.out.mono ?_
          rintro e w5 ⟨rfl, hS5, hb5⟩
          have h6 := hide_ (Bytes_off hS5)
          have HC5 := hide_ hS5.base
          have HB5 := hide_ (HB4.out.trans hb5)
          clear hS5 hb5 h5
          go_wp2_with fail
          refine h6.out.mono ?_
          rintro e w6 ⟨o6, co6, rfl, hown6, hS6, hb6⟩
          have hB6 := HB5.out.trans (hb6.mono HC5.out)
          have hr6 := Reads.of_own hown6
          have hr7 : Reads w6 w6.heap.size 1 (some ⟨o, 0, none⟩) 256 (u8s D) := by
            obtain ⟨⟨tv, hO⟩, _⟩ := hS6
            exact Reads.of_own (hO.at_ (i := 4) rfl)
          have s6 := SameBytes_any (some ⟨o6, 0, none⟩) (some ⟨o, 0, none⟩) 256 co6 256 256 D D w6.heap.size w6 hr6 hr7 (by unfold maxLen; omega) (by unfold maxLen; omega)
          rw [decide_eq_true rfl] at s6
          have S6 := hide_ s6
          have HB6 := hide_ hB6
          clear s6 hr6 hr7 hB6 hown6 hS6 hb6 h6
          go_wp2_with fail
          refine S6.out.mono ?_
          rintro e w7 ⟨rfl, nq7, rfl⟩
          go_wp2_with fail
          go_ret
          exact ⟨rfl, below_draws2 HB6.out nq7⟩
end Go.Proofs.Ytgppbdcnpailaaa
