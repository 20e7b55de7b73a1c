/-
  The walks of gate's Apply of any reply, of a segment whose log is off; playpenkit.SameEvent of two events that are the same.
-/
import Derived.Test.YtgppbdcnpailaaaGEvent
namespace Go.Proofs.Ytgppbdcnpailaaa
open Go.RowKit Go.Maps
set_option linter.unusedVariables false

set_option maxHeartbeats 1000000 in
theorem SameEvent_eq (a x v : Int) (A A' : Option Addr) (n c c' : Nat) (xs : List Int) (w : World) (ha : Reads w w.heap.size 1 A n (u32s xs)) (hb : Reads w w.heap.size 1 A' n (u32s xs)) (hn : n ≤ 140737488351232) :
    Calls Try.prog 64 #[.agg (evCells a x v A n c), .agg (evCells a x v A' n c')] w fun e w' => e = .returned (.bool true) ∧ Below w.heap.size w w' := by
  have hb2 : Below w.heap.size w ((w.alloc (.cells (evCells a x v A n c) 108)).alloc (.cells (evCells a x v A' n c') 108)) := ((Below.refl _ _).alloc (Nat.le_refl _) _).alloc (by simp) _
  have hs := SameWords_any A A' n c n c' xs xs ((w.alloc (.cells (evCells a x v A n c) 108)).alloc (.cells (evCells a x v A' n c') 108)).heap.size _ ((ha.below hb2).more hb2.size) ((hb.below hb2).more hb2.size) (by unfold maxLen; omega) (by unfold maxLen; omega)
  rw [decide_eq_true rfl] at hs
  have HS := hide_ hs
  have HB := hide_ hb2
  have da : (a == a) = true := by simp
  have dx : (x == x) = true := by simp
  have dv : (v == v) = true := by simp
  clear hs hb2 ha hb
  unfold evCells at *
  go_enter Try.func64, Try.ntmps64
  go_wp2_with fail
  refine HS.out.mono ?_
  rintro e w' ⟨rfl, nq, rfl⟩
  have HE := hide_ (below_draws2 HB.out nq)
  go_wp2
  go_ret
  exact ⟨rfl, HE.out⟩
/-- the bytes behind the first k writes -/
def applyW (N : Nat) (ws : Nat → Wr) (zs : Nat → List Int) (xs : List Int) : Nat → List Int
  | 0 => xs
  | k + 1 => puts N (ws k).at_ (zs k) (applyW N ws zs xs k) (ws k).n
/-- the writes of a reply, their bytes: nothing of it lies in the block d -/
structure ReplyAt (W : World) (d : Nat) (A : Option Addr) (n : Nat) (ws : Nat → Wr) (zs : Nat → List Int) : Prop where
  rd : WReads W W.heap.size A n ws
  far : ∀ ad, A = some ad → ad.block ≠ d
  wr : ∀ j, j < n → (0 ≤ (ws j).at_ ∧ (ws j).at_ < 4294967296) ∧ Reads W W.heap.size 1 (ws j).A (ws j).n (u8s (zs j)) ∧ bytesOk (zs j) ∧ ∀ ad, (ws j).A = some ad → ad.block ≠ d
theorem ReplyAt.kept {W W' : World} {d n : Nat} {A : Option Addr} {ws : Nat → Wr} {zs : Nat → List Int} (h : ReplyAt W d A n ws zs) (hg : W.grownBy W' (some d)) : ReplyAt W' d A n ws zs := by
  have hk : ∀ p : Addr, p.block < W.heap.size → p.block ≠ d → W'.cell? p = W.cell? p := fun p hp hne => World.cell?_of_block (hg.block p.block hp (fun e => hne (Option.some.inj e)))
  refine ⟨fun hn => ?_, h.far, fun j hj => ?_⟩
  · obtain ⟨ad, rfl, hb, hc⟩ := h.rd hn
    have hf := h.far ad rfl
    exact ⟨ad, rfl, Nat.lt_of_lt_of_le hb hg.size, fun j hj => ⟨(hk _ (by rw [block_of_add]; exact hb) (by rw [block_of_add]; exact hf)).trans (hc j hj).1, (hk _ (by show (ad.add (j * 2)).block < _; rw [block_of_add]; exact hb) (by show (ad.add (j * 2)).block ≠ _; rw [block_of_add]; exact hf)).trans (hc j hj).2⟩⟩
  · obtain ⟨h1, h2, h3, h4⟩ := h.wr j hj
    refine ⟨h1, ⟨h2.1, fun hn => ?_⟩, h3, h4⟩
    obtain ⟨ad, e, hb, hc⟩ := h2.2 hn
    exact ⟨ad, e, Nat.lt_of_lt_of_le hb hg.size, fun i u hu => (hk _ (by rw [block_of_add]; exact hb) (by rw [block_of_add]; exact h4 ad e)).trans (hc i u hu)⟩
section
variable {W : World} {g d N c : Nat} {xs : List Int}
theorem applyW_len (N : Nat) (ws : Nat → Wr) (zs : Nat → List Int) (xs : List Int) : ∀ k, (applyW N ws zs xs k).length = xs.length
  | 0 => rfl
  | k + 1 => by rw [applyW, puts_len, applyW_len]
set_option maxRecDepth 100000 in
set_option maxHeartbeats 1000000 in
theorem Apply_s (q : Nat) (D : MD) (v : Int) (A2 : Option Addr) (n2 c2 : Nat) (ws : Nat → Wr) (zs : Nat → List Int) (h : GateAt W q D) (h2 : MemAt W g d N c xs) (hr : ReplyAt W d A2 n2 ws zs) (hn2 : n2 ≤ maxLen) (hfit : fitsN n2 ws n2 = true) :
    Calls Try.prog 31 #[.pointer (some ⟨q, 0, none⟩), .pointer (some ⟨g, 0, none⟩), .agg #[.int .u32 v, .slice A2 n2 c2]] W fun e w' => e = .returned (.int .i64 0) ∧ Laid W w' g d N c (applyW N ws zs xs n2) := by
  obtain ⟨W2, hW2⟩ : ∃ W2, W2 = (W.alloc (.cells #[.int .u32 v, .slice A2 n2 c2] 29)) := ⟨_, rfl⟩
  have hb : Below W.heap.size W W2 := by rw [hW2]; exact (Below.refl _ _).alloc (Nat.le_refl _) _
  have hk1 : Blk W2 W.heap.size 29 #[.int .u32 v, .slice A2 n2 c2] := by rw [hW2]; exact Blk.new W _ _
  have hrs : W.heap.size < W2.heap.size := hk1.lt
  have hdl := h2.dl
  have hm2 := h2.below hb
  obtain ⟨m, k, c1, l1, s1, o1, _⟩ := h.below hb
  have hm := hide_ (gmade_any q m W2 c1)
  have hbt := hide_ (Bits_s hm2)
  have HW2 := hide_ hW2
  have HB := hide_ hb
  have HK := hide_ hk1
  have HR := hide_ (hr.kept (grown_of_below (row := some d) hb))
  have HM := hide_ hm2
  have HFF := hide_ hfit
  clear h h2 hr hfit hb hk1 o1 c1 hm2 hW2
  go_enter Try.func31, Try.ntmps31
  go_wp2_with fail
  rw [← HW2.out]
  clear HW2
  refine hm.out.mono ?_
  rintro e w1 ⟨rfl, hw⟩
  subst w1
  go_wp2_with fail
  refine hbt.out.mono ?_
  rintro e w1 ⟨b, b8, rfl, nq, rfl⟩
  have dB : ((b : Int) == 0) = false := by rw [beq_eq_false_iff_ne]; omega
  have hB3 := below_draws2 HB.out nq
  have hk3 := HK.out.drewN nq
  have hr3 := HR.out.kept (grown_of_below (row := some d) (below_draws2 (Below.refl _ _) nq))
  have hm3 := HM.out.below (below_draws2 (Below.refl _ _) nq)
  have hrs3 : W.heap.size < (W2.drewN nq).heap.size := hrs
  clear HB HK HR HM hbt hrs hm
  generalize W2.drewN nq = w3 at hB3 hk3 hr3 hm3 hrs3 ⊢
  have hf := gFits_any v A2 n2 c2 w3.heap.size ws w3 hr3.rd (Nat.le_refl _) hn2
  rw [HFF.out] at hf
  have HF := hide_ hf
  have r0 := hk3.cell 0
  have r1 := hk3.cell 1
  have HB := hide_ hB3
  have HK := hide_ hk3
  have HR := hide_ hr3
  have HM := hide_ hm3
  clear hf hB3 hk3 hr3 hm3
  go_wp2_with fail
  refine HF.out.mono ?_
  rintro e w4 ⟨rfl, hb4⟩
  have hB4 := HB.out.trans (hb4.mono HB.out.size)
  have hk4 := HK.out.below hb4 hrs3
  have hr4 := HR.out.kept (grown_of_below (row := some d) hb4)
  have hm4 := HM.out.below hb4
  have r0' := hk4.cell 0
  have r1' := hk4.cell 1
  have hrs4 : W.heap.size < w4.heap.size := hk4.lt
  have HS : Hid (Laid W w4 g d N c (applyW N ws zs xs 0) ∧ ReplyAt w4 d A2 n2 ws zs) := hide_ ⟨⟨hm4, grown_of_below hB4⟩, hr4⟩
  have HFIT : Hid (n2 ≤ 16 ∧ ∀ j, j < n2 → (ws j).n ≤ 256) := hide_ (by
    have h9 := HFF.out
    unfold fitsN at h9
    simp only [Bool.and_eq_true, decide_eq_true_eq, List.all_eq_true, List.mem_range] at h9
    exact h9)
  have hn16 := HFIT.out.1
  clear hb4 hB4 hk4 hr4 hm4 r0 r1 HB HK HR HM HF hrs3
  go_wp2
  go_loopw [24] (fun i wr => ∃ k : Nat, k ≤ n2 ∧ i = .int .i64 k ∧ Hid (Laid W wr g d N c (applyW N ws zs xs k) ∧ ReplyAt wr d A2 n2 ws zs)) (fun i _ => n2 - (intOf i).toNat)
  case atStart => exact ⟨0, Nat.zero_le _, rfl, HS⟩
  case round =>
    clear HS r0' r1'
    obtain ⟨k, hk, rfl, HS⟩ := hrel
    by_cases hlt : k < n2
    · obtain ⟨hL, hRp⟩ := HS.out
      obtain ⟨ad, rfl, hab, hc0, hc1⟩ := hRp.rd.at_ hlt
      have hwr := hRp.wr k hlt
      have h256 := HFIT.out.2 k hlt
      obtain ⟨wk, hwk⟩ : ∃ wk, wk = ws k := ⟨_, rfl⟩
      rw [← hwk] at hc0 hc1 hwr h256
      obtain ⟨⟨at0, at1⟩, hrd, hok, hfar⟩ := hwr
      obtain ⟨W5, hW5⟩ : ∃ W5, W5 = wr.alloc (.cells #[.int .u32 wk.at_, .slice wk.A wk.n wk.c] 53) := ⟨_, rfl⟩
      have hb5 : Below wr.heap.size wr W5 := by rw [hW5]; exact (Below.refl _ _).alloc (Nat.le_refl _) _
      have hk5 : Blk W5 wr.heap.size 53 #[.int .u32 wk.at_, .slice wk.A wk.n wk.c] := by rw [hW5]; exact Blk.new wr _ _
      have hl5 := hk5.lt
      have hw := hide_ (Write_s wk.at_ wk.A wk.n wk.c (zs k) (hL.1.below hb5) at0 (by omega) (by omega) ((hrd.below hb5).more hb5.size) hfar hok)
      have HL5 := hide_ (show W.grownBy W5 (some d) ∧ ReplyAt W5 d (some ad) n2 ws zs from ⟨grown_trans hL.2 (grown_of_below hb5), hRp.kept (grown_of_below hb5)⟩)
      have HW5 := hide_ hW5
      have HWK := hide_ hwk
      have p0 := hk5.cell 0
      have p1 := hk5.cell 1
      clear hL hRp hb5 hk5 hrd hok hfar hwk hW5 HS
      go_wp2_with fail
      rw [← HW5.out]
      clear HW5
      refine hw.out.mono ?_
      rintro e w6 ⟨rfl, hL6⟩
      have HS6 : Hid (Laid W w6 g d N c (applyW N ws zs xs (k + 1)) ∧ ReplyAt w6 d (some ad) n2 ws zs) := hide_ (by
        rw [applyW, ← HWK.out]
        exact ⟨⟨hL6.1, grown_trans HL5.out.1 hL6.2⟩, HL5.out.2.kept hL6.2⟩)
      clear hL6 HL5 hw
      go_wp2
      go_roundw
      case rel => exact ⟨k + 1, by omega, by go_num, HS6⟩
      case measure => simp [intOf]; omega
    · obtain rfl : k = n2 := by omega
      have HL := hide_ HS.out.1
      clear HS
      go_wp2
      go_ret
      exact ⟨rfl, HL.out⟩
set_option maxRecDepth 100000 in
set_option maxHeartbeats 1000000 in
theorem Apply_no (q : Nat) (D : MD) (v : Int) (A2 : Option Addr) (n2 c2 : Nat) (ws : Nat → Wr) (h : GateAt W q D) (h2 : MemAt W g d N c xs) (hr : WReads W W.heap.size A2 n2 ws) (hn2 : n2 ≤ maxLen) (hfit : fitsN n2 ws n2 = false) :
    Calls Try.prog 31 #[.pointer (some ⟨q, 0, none⟩), .pointer (some ⟨g, 0, none⟩), .agg #[.int .u32 v, .slice A2 n2 c2]] W fun e w' => e = .returned (.int .i64 5) ∧ Below W.heap.size W w' := by
  obtain ⟨W2, hW2⟩ : ∃ W2, W2 = (W.alloc (.cells #[.int .u32 v, .slice A2 n2 c2] 29)) := ⟨_, rfl⟩
  have hb : Below W.heap.size W W2 := by rw [hW2]; exact (Below.refl _ _).alloc (Nat.le_refl _) _
  have hk1 : Blk W2 W.heap.size 29 #[.int .u32 v, .slice A2 n2 c2] := by rw [hW2]; exact Blk.new W _ _
  have hrs : W.heap.size < W2.heap.size := hk1.lt
  have hm2 := h2.below hb
  obtain ⟨m, k, c1, l1, s1, o1, _⟩ := h.below hb
  have hm := hide_ (gmade_any q m W2 c1)
  have hbt := hide_ (Bits_s hm2)
  have HW2 := hide_ hW2
  have HB := hide_ hb
  have HK := hide_ hk1
  have HR := hide_ ((hr.below hb).more hb.size)
  have HFF := hide_ hfit
  clear h h2 hr hfit hb hk1 o1 c1 hm2 hW2
  go_enter Try.func31, Try.ntmps31
  go_wp2_with fail
  rw [← HW2.out]
  clear HW2
  refine hm.out.mono ?_
  rintro e w1 ⟨rfl, hw⟩
  subst w1
  go_wp2_with fail
  refine hbt.out.mono ?_
  rintro e w1 ⟨b, b8, rfl, nq, rfl⟩
  have dB : ((b : Int) == 0) = false := by rw [beq_eq_false_iff_ne]; omega
  have hB3 := below_draws2 HB.out nq
  have hk3 := HK.out.drewN nq
  have hr3 := (HR.out.below (below_draws2 (Below.refl W2.heap.size W2) nq))
  have hrs3 : W.heap.size < (W2.drewN nq).heap.size := hrs
  have hf := gFits_any v A2 n2 c2 W2.heap.size ws (W2.drewN nq) hr3 (Nat.le_refl _) hn2
  rw [HFF.out] at hf
  clear HB HK HR hbt hrs hm hr3
  generalize W2.drewN nq = w3 at hB3 hk3 hrs3 hf ⊢
  have HF := hide_ hf
  have r0 := hk3.cell 0
  have r1 := hk3.cell 1
  have HB := hide_ hB3
  clear hf hB3 hk3
  go_wp2_with fail
  refine HF.out.mono ?_
  rintro e w4 ⟨rfl, hb4⟩
  have HB4 := hide_ (HB.out.trans (hb4.mono HB.out.size))
  clear hb4
  go_wp2
  go_ret
  exact ⟨rfl, HB4.out⟩
theorem Apply_mno (q : Nat) (D : MD) (P2 : Option Addr) (v : Int) (A2 : Option Addr) (n2 c2 : Nat) (h : GateAt W q D) (h2 : NotMade W P2) :
    Calls Try.prog 31 #[.pointer (some ⟨q, 0, none⟩), .pointer P2, .agg #[.int .u32 v, .slice A2 n2 c2]] W fun e w' => e = .returned (.int .i64 1) ∧ Below W.heap.size W w' := by
  obtain ⟨W2, hW2⟩ : ∃ W2, W2 = (W.alloc (.cells #[.int .u32 v, .slice A2 n2 c2] 29)) := ⟨_, rfl⟩
  have hb : Below W.heap.size W W2 := by rw [hW2]; exact (Below.refl _ _).alloc (Nat.le_refl _) _
  obtain ⟨m, k, c1, l1, s1, o1, _⟩ := h.below hb
  have hm := hide_ (gmade_any q m W2 c1)
  have hbt := hide_ (Bits_not (h2.below hb))
  have HW2 := hide_ hW2
  have HB := hide_ hb
  clear h h2 hb o1 c1 hW2
  go_enter Try.func31, Try.ntmps31
  go_wp2_with fail
  rw [← HW2.out]
  clear HW2
  refine hm.out.mono ?_
  rintro e w1 ⟨rfl, hw⟩
  subst w1
  go_wp2_with fail
  refine hbt.out.mono ?_
  rintro e w1 ⟨rfl, hb1⟩
  have HB1 := hide_ (HB.out.trans (hb1.mono HB.out.size))
  clear hb1
  go_wp2
  go_ret
  exact ⟨rfl, HB1.out⟩
end
end Go.Proofs.Ytgppbdcnpailaaa
