/-
  ListApart: two images have one text only if they are one image.
-/
import Derived.Test.YtikbegmodacopaaGreatDoorCop
import Derived.Test.YtikbegmodacopaaGreatDoorSmi
import Derived.Test.YtikbegmodacopaaGreatDoorB27
namespace Go.Proofs.YtikbegmodacopaaGreatDoor
open Go.RowKit Go.PlainAid Go.BigFrame
set_option linter.unusedSimpArgs false
set_option linter.unusedVariables false
set_option maxRecDepth 100000
set_option maxHeartbeats 4000000 in
theorem ListApart_any (x y : ImgV) (s t : ImgS) (w : World) (hx : ImgOk x) (hy : ImgOk y) (hl : x.code.length * 8 ≤ 140737488351232 ∧ x.jumps.length * 4 ≤ 140737488351232 ∧ x.data.length * 1 ≤ 140737488351232 ∧ x.names.length * 24 ≤ 140737488351232)
    (hl' : y.code.length * 8 ≤ 140737488351232 ∧ y.jumps.length * 4 ≤ 140737488351232 ∧ y.data.length * 1 ≤ 140737488351232 ∧ y.names.length * 24 ≤ 140737488351232) (hr : ImgR w w.heap.size x s) (hr' : ImgR w w.heap.size y t) (hT : TabOk w) :
    Calls Tryz.prog 5 #[.agg (imgV x s), .agg (imgV y t)] w fun e w' => e = .returned (.bool true) ∧ Below w.heap.size w w' := by
  obtain ⟨w1, hw1⟩ : ∃ W, W = ((w.alloc (.cells (imgV x s) 28)).alloc (.cells (imgV y t) 28)) := ⟨_, rfl⟩
  have HB1 := hide_ (show Below w.heap.size w w1 by rw [hw1]; exact ((Below.refl _ _).alloc (Nat.le_refl _) _).alloc (by simp) _)
  have hsz : w1.heap.size = w.heap.size + 2 := by rw [hw1]; simp
  have K1 := hide_ (show Blk w1 w.heap.size 28 (imgV x s) by
    rw [hw1]
    exact (Blk.new w 28 (imgV x s)).below ((Below.refl _ _).alloc (Nat.le_refl _) _) (by simp))
  have K2 := hide_ (show Blk w1 (w.heap.size + 1) 28 (imgV y t) by
    rw [hw1]
    have := Blk.new (w.alloc (.cells (imgV x s) 28)) 28 (imgV y t)
    simpa using this)
  have HSZ := hide_ hsz
  have HLE := hide_ (show w.heap.size ≤ w1.heap.size by omega)
  have HAX := hide_ (fun W (hb : Below w1.heap.size w1 W) => img_cells (K1.out.below hb (by rw [HSZ.out]; omega)))
  have HAY := hide_ (fun W (hb : Below w1.heap.size w1 W) => img_cells (K2.out.below hb (by rw [HSZ.out]; omega)))
  have HZ := hide_ (fun W (hb : Below w1.heap.size w1 W) => show w.heap.size < W.heap.size ∧ w.heap.size + 1 < W.heap.size by have := hb.size; have := HSZ.out; omega)
  have HRX := hide_ (fun W (hb : Below w1.heap.size w1 W) => show ImgR W W.heap.size x s from (hr.below (HB1.out.trans (hb.mono HLE.out))).more (Nat.le_trans HLE.out hb.size))
  have HRY := hide_ (fun W (hb : Below w1.heap.size w1 W) => show ImgR W W.heap.size y t from (hr'.below (HB1.out.trans (hb.mono HLE.out))).more (Nat.le_trans HLE.out hb.size))
  have HTT := hide_ (fun W (hb : Below w1.heap.size w1 W) => show TabOk W from hT.below (HB1.out.trans (hb.mono HLE.out)))
  have HCX := hide_ (Copied_any x s w1 hx hl (HRX.out w1 (Below.refl _ _)))
  have HCY := hide_ (fun W (hb : Below w1.heap.size w1 W) => Copied_any y t W hy hl' (HRY.out W hb))
  have TXX := hide_ (fun s' W (h : ImgR W W.heap.size x s') (hb : Below w1.heap.size w1 W) => lText_any x s' W hx h (HTT.out W hb))
  have TXY := hide_ (fun s' W (h : ImgR W W.heap.size y s') (hb : Below w1.heap.size w1 W) => lText_any y s' W hy h (HTT.out W hb))
  have SM := hide_ (fun W (hb : Below w1.heap.size w1 W) => SameImage_any x y s t W.heap.size W hx hy (HRX.out W hb) (HRY.out W hb) (Nat.le_refl _))
  have HA := hide_ (fun W (hb : Below w1.heap.size w1 W) => awake_any W (HTT.out W hb))
  have INJ := hide_ (fun (h1 : txtE x = 0) (h2 : txtE y = 0) => show ((txtS x).toList == (txtS y).toList) = decide (x = y) by
    rw [str_beq]
    by_cases h : x = y
    · rw [h]; simp
    · rw [decide_eq_false h, decide_eq_false (fun e => h (txt_inj hx hy h1 h2 e))])
  obtain ⟨r, hr9⟩ : ∃ r, r = decide (x = y) := ⟨_, rfl⟩
  rw [← hr9] at SM INJ
  clear hr hr' hT hx hy hl hl' K1 K2 hr9 hsz
  unfold imgV at hw1 HCX HCY TXX TXY SM ⊢
  obtain ⟨⟨aC, a0⟩, ⟨aJ, a1⟩, ⟨aD, a2⟩, ⟨aN, a3⟩⟩ := s
  obtain ⟨⟨bC, b0⟩, ⟨bJ, b1⟩, ⟨bD, b2⟩, ⟨bN, b3⟩⟩ := t
  dsimp only at hw1 HAX HAY HCX HCY SM ⊢
  have HB0 := hide_ (Below.refl w1.heap.size w1)
  obtain ⟨f0, f1, f2, f3, f4, f5⟩ := HAX.out w1 HB0.out
  obtain ⟨g0, g1, g2, g3, g4, g5⟩ := HAY.out w1 HB0.out
  obtain ⟨z0, z1⟩ := HZ.out w1 HB0.out
  go_enter Tryz.func5, Tryz.ntmps5
  go_upto_region 1 with (fail)
  rw [← hw1]
  clear hw1
  go_wp2_with fail
  refine HCX.out.mono ?_
  rintro e w2 ⟨s2, rfl, hO, hb2⟩
  have HB2 := hide_ hb2
  have TX := hide_ (TXX.out s2 w2 (imgR_own hO hb2.size) hb2)
  clear f0 f1 f2 f3 f4 f5 g0 g1 g2 g3 g4 g5 z0 z1 HCX hO hb2 TXX HB0
  go_wp2_with fail
  refine TX.out.mono ?_
  intro e w3 h3
  unfold TxtIs at h3
  obtain ⟨rfl, hb3⟩ := h3
  have HB3 := hide_ (HB2.out.trans (hb3.mono HB2.out.size))
  clear hb3 TX HB2
  obtain ⟨f0, f1, f2, f3, f4, f5⟩ := HAX.out w3 HB3.out
  obtain ⟨g0, g1, g2, g3, g4, g5⟩ := HAY.out w3 HB3.out
  obtain ⟨z0, z1⟩ := HZ.out w3 HB3.out
  obtain ⟨t1, ht1⟩ : ∃ t, t = txtS x := ⟨_, rfl⟩
  obtain ⟨E1, hE1⟩ : ∃ E, E = txtE x := ⟨_, rfl⟩
  rw [← ht1, ← hE1] at INJ ⊢
  clear ht1 hE1
  go_wp2_with fail
  refine (HCY.out w3 HB3.out).mono ?_
  rintro e w4 ⟨s4, rfl, hO, hb4⟩
  have HB4 := hide_ (HB3.out.trans (hb4.mono HB3.out.size))
  have TX := hide_ (TXY.out s4 w4 (imgR_own hO hb4.size) HB4.out)
  clear f0 f1 f2 f3 f4 f5 g0 g1 g2 g3 g4 g5 z0 z1 HCY hO hb4 TXY HB3
  go_wp2_with fail
  refine TX.out.mono ?_
  intro e w5 h5
  unfold TxtIs at h5
  obtain ⟨rfl, hb5⟩ := h5
  have HB5 := hide_ (HB4.out.trans (hb5.mono HB4.out.size))
  clear hb5 TX HB4
  obtain ⟨f0, f1, f2, f3, f4, f5⟩ := HAX.out w5 HB5.out
  obtain ⟨g0, g1, g2, g3, g4, g5⟩ := HAY.out w5 HB5.out
  obtain ⟨z0, z1⟩ := HZ.out w5 HB5.out
  obtain ⟨t2, ht2⟩ : ∃ t, t = txtS y := ⟨_, rfl⟩
  obtain ⟨E2, hE2⟩ : ∃ E, E = txtE y := ⟨_, rfl⟩
  rw [← ht2, ← hE2] at INJ ⊢
  clear ht2 hE2
  have FIN := hide_ (fun W W' (h : Below w1.heap.size w1 W) (hb : Below W.heap.size W W') => show Below w.heap.size w W' from HB1.out.trans ((h.trans (hb.mono h.size)).mono HLE.out))
  by_cases e1 : E1 = 0
  · subst e1
    by_cases e2 : E2 = 0
    · subst e2
      have hq := INJ.out rfl rfl
      clear INJ
      go_wp2_with fail
      refine (SM.out w5 HB5.out).mono ?_
      rintro e w6 ⟨rfl, hb6⟩
      have HB6 := hide_ (HB5.out.trans (hb6.mono HB5.out.size))
      clear hb6 f0 f1 f2 f3 f4 f5 g0 g1 g2 g3 g4 g5 z0 z1 SM HB5
      have hrr : (r == r) = true := by simp
      go_wp2_with fail
      refine (HA.out w6 HB6.out).mono ?_
      rintro e w7 ⟨rfl, hb7⟩
      have HB7 := hide_ (FIN.out _ _ HB6.out hb7)
      clear hb7
      go_wp2_with fail
      exact bodyPost_ret (v := .bool true) (by simp [results, Tryz.results5, go_sem]) rfl ⟨rfl, HB7.out⟩
    · have d2 : (E2 != 0) = true := by simpa using e2
      clear INJ SM
      go_wp2_with fail
      refine (HA.out w5 HB5.out).mono ?_
      rintro e w7 ⟨rfl, hb7⟩
      have HB7 := hide_ (FIN.out _ _ HB5.out hb7)
      clear hb7
      go_wp2_with fail
      exact bodyPost_ret (v := .bool true) (by simp [results, Tryz.results5, go_sem]) rfl ⟨rfl, HB7.out⟩
  · have d1 : (E1 != 0) = true := by simpa using e1
    clear INJ SM
    go_wp2_with fail
    refine (HA.out w5 HB5.out).mono ?_
    rintro e w7 ⟨rfl, hb7⟩
    have HB7 := hide_ (FIN.out _ _ HB5.out hb7)
    clear hb7
    go_wp2_with fail
    exact bodyPost_ret (v := .bool true) (by simp [results, Tryz.results5, go_sem]) rfl ⟨rfl, HB7.out⟩
end Go.Proofs.YtikbegmodacopaaGreatDoor
