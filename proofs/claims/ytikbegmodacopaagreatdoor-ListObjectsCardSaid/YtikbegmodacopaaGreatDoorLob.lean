/-
  ListObjects: every image's object, in memory of its own.
-/
import Derived.Test.YtikbegmodacopaaGreatDoorLobP
import Derived.Test.YtikbegmodacopaaGreatDoorLnd
import Derived.Test.YtikbegmodacopaaGreatDoorSmo
import Derived.Test.YtikbegmodacopaaGreatDoorApt
import Derived.Test.YtikbegmodacopaaGreatDoorC27
namespace Go.Proofs.YtikbegmodacopaaGreatDoor
open Go.RowKit Go.PlainAid Go.BigFrame
set_option linter.unusedSimpArgs false
set_option linter.unusedVariables false
set_option maxRecDepth 100000
set_option maxHeartbeats 4000000 in
theorem ListObjects_any (x : ImgV) (s : ImgS) (w : World) (hx : ImgOk x) (hl : x.code.length * 8 ≤ 140737488351232 ∧ x.jumps.length * 4 ≤ 140737488351232 ∧ x.data.length * 1 ≤ 140737488351232 ∧ x.names.length * 24 ≤ 140737488351232) (hr : ImgR w w.heap.size x s) (hT : TabOk w) :
    Calls Tryz.prog 3 #[.agg (imgV x s)] w fun e w' => e = .returned (.bool true) ∧ Below w.heap.size w w' := by
  obtain ⟨W1, hW1⟩ : ∃ W, W = w.alloc (.cells (imgV x s) 28) := ⟨_, rfl⟩
  have HS1 := hide_ (show W1.heap.size = w.heap.size + 1 by rw [hW1]; simp)
  have HB1 := hide_ (show Below w.heap.size w W1 by rw [hW1]; exact (Below.refl _ _).alloc (Nat.le_refl _) _)
  have HK0 := hide_ (show Blk W1 w.heap.size 28 (imgV x s) by rw [hW1]; exact Blk.new w _ _)
  have HAT := hide_ (fun W (hb : Below W1.heap.size W1 W) => And.intro (img_cells (HK0.out.below hb (by have := HS1.out; omega))) (show w.heap.size < W.heap.size by have := hb.size; have := HS1.out; omega))
  have FIN := hide_ (fun W (hb : Below W1.heap.size W1 W) => show Below w.heap.size w W from HB1.out.trans (hb.mono (by have := HS1.out; omega)))
  have HRR := hide_ (fun W (hb : Below W1.heap.size W1 W) => show ImgR W W.heap.size x s from (hr.below (FIN.out W hb)).more (by have := hb.size; have := HS1.out; omega))
  have HLN := hide_ (fun W (hb : Below W1.heap.size W1 W) => lend_any x s W hx hl (HRR.out W hb))
  have HOB := hide_ (fun s' W (h : ImgR W W.heap.size x s') (hb : Below W1.heap.size W1 W) => (Object_any x s' W hx h (hT.below (FIN.out W hb))).mono (fun e w' h => objIs_y h))
  have HRO := hide_ (fun W (hb : Below W1.heap.size W1 W) => (rObject_any x s W hx (HRR.out W hb)).mono (fun e w' h => objIs_y h))
  obtain ⟨l1, l2, l3, l4⟩ := hl
  have HKC := hide_ (fun s' W ex (hO : Owns W W1.heap.size (lRows x s' ++ ex)) (hb : Below W1.heap.size W1 W) => KeptCode_any s'.c.A s.c.A x.code.length s'.c.c s.c.c W.heap.size x.code W (by omega) rfl (Reads.of_owns (i := 0) hO rfl) (HRR.out W hb).rc (Nat.le_refl _))
  have HKW := hide_ (fun s' W ex (hO : Owns W W1.heap.size (lRows x s' ++ ex)) (hb : Below W1.heap.size W1 W) => (KeptWords_any s'.j.A s.j.A (x.jumps.length + 64) s'.j.c x.jumps.length s.j.c (x.jumps ++ marksW 64) x.jumps W.heap.size W (Reads.of_owns (i := 1) hO rfl) (HRR.out W hb).rj (by unfold maxLen; omega) (by unfold maxLen; omega)).mono (fun e w' h => show e = .returned (.bool true) ∧ Below W.heap.size W w' by obtain ⟨h1, nq, rfl⟩ := h; exact ⟨by simpa using h1, below_draws2 (Below.refl _ _) _⟩))
  have HKB := hide_ (fun s' W ex (hO : Owns W W1.heap.size (lRows x s' ++ ex)) (hb : Below W1.heap.size W1 W) => (KeptBytes_any s'.d.A s.d.A (x.data.length + 64) s'.d.c x.data.length s.d.c (x.data ++ marks8 0 0 64) x.data W.heap.size W (Reads.of_owns (i := 2) hO rfl) (HRR.out W hb).rd (by unfold maxLen; omega) (by unfold maxLen; omega)).mono (fun e w' h => show e = .returned (.bool true) ∧ Below W.heap.size W w' by obtain ⟨h1, nq, rfl⟩ := h; exact ⟨by simpa using h1, below_draws2 (Below.refl _ _) _⟩))
  have HAW := hide_ (fun W (hb : Below W1.heap.size W1 W) => awake_any W (hT.below (FIN.out W hb)))
  have L1 := hide_ (show x.code.length + 64 ≤ 140737488355264 by omega)
  have L4 := hide_ l4
  have L3 := hide_ (show x.data.length + 64 ≤ 140737488355264 by omega)
  have YOK := hide_ (y_ok hx)
  have YFT := hide_ (y_fit hx)
  obtain ⟨y, hy⟩ : ∃ y, y = yO x := ⟨_, rfl⟩
  obtain ⟨E, hE⟩ : ∃ E, E = objE x := ⟨_, rfl⟩
  rw [← hy, ← hE] at HOB HRO
  rw [← hy] at YOK YFT
  clear hr hT hx l1 l2 l3 l4 HK0 HB1 hy hE
  unfold imgV at hW1 HLN HRO ⊢
  obtain ⟨⟨aC, a0⟩, ⟨aJ, a1⟩, ⟨aD, a2⟩, ⟨aN, a3⟩⟩ := s
  dsimp only at hW1 HAT HRR HLN HRO HKC HKW HKB ⊢
  have HB0 := hide_ (Below.refl W1.heap.size W1)
  obtain ⟨⟨f0, f1, f2, f3, f4, f5⟩, z0⟩ := HAT.out W1 HB0.out
  go_enter Tryz.func3, Tryz.ntmps3
  go_upto_region 1 with (fail)
  rw [← hW1]
  clear hW1
  go_wp2_with fail
  refine (HLN.out W1 HB0.out).mono ?_
  rintro e w2 ⟨s2, rfl, hO2, hb2⟩
  have HO2 := hide_ hO2
  have HB2 := hide_ hb2
  obtain ⟨w3, hw3⟩ : ∃ W, W = w2.alloc (.cells (imgV x s2) 28) := ⟨_, rfl⟩
  obtain ⟨gi, hgi⟩ : ∃ g, g = w2.heap.size := ⟨_, rfl⟩
  have HO3 := hide_ (show Owns w3 W1.heap.size (lRows x s2) by rw [hw3]; exact hO2.alloc _)
  have HB3 := hide_ (show Below W1.heap.size W1 w3 by rw [hw3]; exact hb2.alloc hb2.size _)
  have HIN := hide_ (fun W (hb : Below w3.heap.size w3 W) => show (W.cell? ⟨gi, 0, none⟩ = some (.slice s2.c.A x.code.length s2.c.c) ∧ W.cell? ⟨gi, 1, none⟩ = some (.slice s2.j.A x.jumps.length s2.j.c) ∧ W.cell? ⟨gi, 2, none⟩ = some (.slice s2.d.A x.data.length s2.d.c) ∧ W.cell? ⟨gi, 3, none⟩ = some (.int .u32 x.zero) ∧ W.cell? ⟨gi, 4, none⟩ = some (.int .u32 x.stack) ∧ W.cell? ⟨gi, 5, none⟩ = some (.slice s2.n.A x.names.length s2.n.c)) ∧ gi < W.heap.size from by
    have hk : Blk w3 gi 28 (imgV x s2) := by rw [hw3, hgi]; exact Blk.new w2 _ _
    have hz : gi < w3.heap.size := by rw [hw3, hgi]; simp
    exact ⟨img_cells (hk.below hb hz), Nat.lt_of_lt_of_le hz hb.size⟩)
  unfold lendV
  unfold imgV at hw3 HOB ⊢
  obtain ⟨⟨bC, b0⟩, ⟨bJ, b1⟩, ⟨bD, b2⟩, ⟨bN, b3⟩⟩ := s2
  dsimp only at hw3 HIN ⊢
  clear f0 f1 f2 f3 f4 f5 z0 hO2 hb2 HO2 HB2 HLN
  go_upto_region 2 with (fail)
  rw [← hw3, ← hgi]
  clear hw3 hgi
  obtain ⟨⟨f0, f1, f2, f3, f4, f5⟩, z0⟩ := HIN.out w3 (Below.refl _ _)
  have OB1 := hide_ (HOB.out ⟨⟨bC, b0⟩, ⟨bJ, b1⟩, ⟨bD, b2⟩, ⟨bN, b3⟩⟩ w3 (lR_img (ex := []) (by rw [List.append_nil]; exact HO3.out)) HB3.out)
  dsimp only at OB1
  go_wp2_with fail
  refine OB1.out.mono ?_
  rintro e w4 ⟨so, rfl, hOo, hb4⟩
  obtain ⟨go, hgo⟩ : ∃ g, g = w4.heap.size := ⟨_, rfl⟩
  obtain ⟨w5, hw5⟩ : ∃ W, W = w4.alloc (.cells (objV y so) 36) := ⟨_, rfl⟩
  have HB5 := hide_ (show Below W1.heap.size W1 w5 by rw [hw5]; exact (HB3.out.trans (hb4.mono HB3.out.size)).alloc (Nat.le_trans HB3.out.size hb4.size) _)
  have HI5 := hide_ (show Below w3.heap.size w3 w5 by rw [hw5]; exact hb4.alloc hb4.size _)
  have HO5 := hide_ (show Owns w5 W1.heap.size (lRows x ⟨⟨bC, b0⟩, ⟨bJ, b1⟩, ⟨bD, b2⟩, ⟨bN, b3⟩⟩ ++ (ownO y so ++ [boxR go y so])) by
    have h := (HO3.out.join hb4 hOo HB3.out.size).boxO y so (Nat.le_trans HB3.out.size hb4.size)
    rw [List.append_assoc] at h
    rw [hw5, hgo]
    exact h)
  clear f0 f1 f2 f3 f4 f5 z0 hOo hb4 OB1 HB3
  have hw5' := hw5
  clear hw5
  have hw5 := hw5'
  clear hw5'
  unfold objV at hw5 ⊢
  go_upto_region 3 with (fail)
  rw [← hw5, ← hgo]
  clear hw5 hgo
  obtain ⟨⟨f0, f1, f2, f3, f4, f5⟩, z0⟩ := HIN.out w5 HI5.out
  have OB2 := hide_ (HOB.out ⟨⟨bC, b0⟩, ⟨bJ, b1⟩, ⟨bD, b2⟩, ⟨bN, b3⟩⟩ w5 (lR_img HO5.out) HB5.out)
  dsimp only at OB2
  clear HOB
  go_wp2_with fail
  refine OB2.out.mono ?_
  rintro e w6 ⟨sp, rfl, hOp, hb6⟩
  obtain ⟨gp, hgp⟩ : ∃ g, g = w6.heap.size := ⟨_, rfl⟩
  obtain ⟨w7, hw7⟩ : ∃ W, W = w6.alloc (.cells (objV y sp) 36) := ⟨_, rfl⟩
  have HB7 := hide_ (show Below W1.heap.size W1 w7 by rw [hw7]; exact (HB5.out.trans (hb6.mono HB5.out.size)).alloc (Nat.le_trans HB5.out.size hb6.size) _)
  have HO7 := hide_ (show Owns w7 W1.heap.size (lRows x ⟨⟨bC, b0⟩, ⟨bJ, b1⟩, ⟨bD, b2⟩, ⟨bN, b3⟩⟩ ++ (ownO y so ++ [boxR go y so] ++ ownO y sp ++ [boxR gp y sp])) by
    have h := (HO5.out.join hb6 hOp HB5.out.size).boxO y sp (Nat.le_trans HB5.out.size hb6.size)
    rw [List.append_assoc, List.append_assoc] at h
    rw [hw7, hgp, List.append_assoc (ownO y so ++ [boxR go y so])]
    exact h)
  clear f0 f1 f2 f3 f4 f5 z0 hOp hb6 OB2 HB5 HI5 HIN HO5 HO3
  unfold objV at hw7 ⊢
  go_upto_region 4 with (fail)
  rw [← hw7, ← hgp]
  clear hw7 hgp
  obtain ⟨⟨f0, f1, f2, f3, f4, f5⟩, z0⟩ := HAT.out w7 HB7.out
  have OB3 := hide_ (HRO.out w7 HB7.out)
  clear HRO
  go_wp2_with fail
  refine OB3.out.mono ?_
  rintro e w8 ⟨sw, rfl, hOw, hb8⟩
  obtain ⟨gw, hgw⟩ : ∃ g, g = w8.heap.size := ⟨_, rfl⟩
  obtain ⟨w9, hw9⟩ : ∃ W, W = w8.alloc (.cells (objV y sw) 36) := ⟨_, rfl⟩
  have HB := hide_ (show Below W1.heap.size W1 w9 by rw [hw9]; exact (HB7.out.trans (hb8.mono HB7.out.size)).alloc (Nat.le_trans HB7.out.size hb8.size) _)
  have HO := hide_ (show Owns w9 W1.heap.size (lRows x ⟨⟨bC, b0⟩, ⟨bJ, b1⟩, ⟨bD, b2⟩, ⟨bN, b3⟩⟩ ++ restR y so sp sw go gp gw) by
    have h := (HO7.out.join hb8 hOw HB7.out.size).boxO y sw (Nat.le_trans HB7.out.size hb8.size)
    rw [List.append_assoc, List.append_assoc] at h
    rw [hw9, hgw]
    unfold restR
    exact h)
  clear f0 f1 f2 f3 f4 f5 z0 hOw hb8 OB3 HB7 HO7
  unfold objV at hw9 ⊢
  go_upto_region 5 with (fail)
  rw [← hw9, ← hgw]
  clear hw9 hgw
  obtain ⟨⟨f0, f1, f2, f3, f4, f5⟩, z0⟩ := HAT.out w9 HB.out
  have hEE : (E != E) = false := by simp
  go_wp2_with fail
  refine (HKC.out ⟨⟨bC, b0⟩, ⟨bJ, b1⟩, ⟨bD, b2⟩, ⟨bN, b3⟩⟩ w9 _ HO.out HB.out).mono ?_
  rintro e w10 ⟨rfl, hb10⟩
  have HOa := hide_ (HO.out.below hb10)
  have HBa := hide_ (HB.out.trans (hb10.mono HB.out.size))
  clear f0 f1 f2 f3 f4 f5 z0 hb10 HO HB HKC
  obtain ⟨⟨f0, f1, f2, f3, f4, f5⟩, z0⟩ := HAT.out w10 HBa.out
  go_wp2_with fail
  refine (HKW.out ⟨⟨bC, b0⟩, ⟨bJ, b1⟩, ⟨bD, b2⟩, ⟨bN, b3⟩⟩ w10 _ HOa.out HBa.out).mono ?_
  rintro e w11 ⟨rfl, hb11⟩
  have HO := hide_ (HOa.out.below hb11)
  have HB := hide_ (HBa.out.trans (hb11.mono HBa.out.size))
  clear f0 f1 f2 f3 f4 f5 z0 hb11 HOa HBa HKW
  obtain ⟨⟨f0, f1, f2, f3, f4, f5⟩, z0⟩ := HAT.out w11 HB.out
  go_wp2_with fail
  refine (HKB.out ⟨⟨bC, b0⟩, ⟨bJ, b1⟩, ⟨bD, b2⟩, ⟨bN, b3⟩⟩ w11 _ HO.out HB.out).mono ?_
  rintro e w12 ⟨rfl, hb12⟩
  have HOa := hide_ (HO.out.below hb12)
  have HBa := hide_ (HB.out.trans (hb12.mono HB.out.size))
  clear f0 f1 f2 f3 f4 f5 z0 hb12 HO HB HKB hEE
  go_wp2_with fail
  go_loopw [14] (fun i wr => ∃ k : Nat, k ≤ x.names.length ∧ i = .int .i64 k ∧ Drew w12 wr) (fun i _ => x.names.length - (intOf i).toNat)
  case atStart => exact ⟨0, Nat.zero_le _, rfl, Drew.refl w12⟩
  case round =>
    obtain ⟨k, hk, rfl, hd⟩ := hrel
    have HD := hide_ hd
    have HO := hide_ (HOa.out.below (hd.below _))
    have HB := hide_ (HBa.out.trans (hd.below _))
    obtain ⟨⟨f0, f1, f2, f3, f4, f5⟩, z0⟩ := HAT.out wr HB.out
    by_cases hlt : k < x.names.length
    · obtain ⟨⟨nm, pa⟩, hp⟩ : ∃ p, x.names[k]? = some p := ⟨_, List.getElem?_eq_getElem hlt⟩
      obtain ⟨_, ad, rfl, hbk, p0, p1⟩ := el_cells xE_len (HRR.out wr HB.out).rn (by omega) hp
      obtain ⟨hk1, ad', rfl, hbk', r0, r1⟩ := el_cells xE_len (Reads.of_owns (i := 3) HO.out rfl) (by omega) (show (x.names ++ [mkX])[k]? = some ⟨nm, pa⟩ by rw [List.getElem?_append_left hlt]; exact hp)
      have x0 := p0 _ rfl
      have x1 := p1 1 _ (by omega) rfl
      have y0 := r0 _ rfl
      have y1 := r1 1 _ (by omega) rfl
      have hq := fun w => exp_eq w nm pa
      have hlt2 : (k : Int) < (x.names.length : Int) + 1 := by omega
      have hbd := L4.out
      dsimp only at x0 x1 y0 y1
      clear p0 p1 r0 r1 hp hd
      go_wp2
      go_big_quiet (fail)
      go_wp2
      go_roundw
      case rel => exact ⟨k + 1, by omega, by go_num, HD.out.more _⟩
      case measure => simp [intOf]; omega
    · have hkn : k = x.names.length := by omega
      subst hkn
      obtain ⟨hk1, ad', rfl, hbk', r0, r1⟩ := el_cells xE_len (Reads.of_owns (i := 3) HO.out rfl) (by omega) (show (x.names ++ [mkX])[x.names.length]? = some mkX by simp)
      have y0 := r0 _ rfl
      have y1 := r1 1 _ (by omega) rfl
      have hq := fun w => exp_eq w ⟨#[109, 97, 114, 107]⟩ 77
      have hlt2 : (x.names.length : Int) < (x.names.length : Int) + 1 := by omega
      dsimp only [mkX] at y0 y1
      obtain ⟨g0, k0, hv0⟩ := ownsRow_some (HO.out.at_ (i := 0) rfl) (show 0 < x.code.length + 64 by omega)
      have hv : Value.slice bC (x.code.length + 64) b0 = .slice (some ⟨g0, 0, none⟩) (x.code.length + 64) k0 := hv0
      injection hv with e1 e2 e3
      subst e1 e3
      clear e2
      obtain ⟨g2, k2, hv2⟩ := ownsRow_some (HO.out.at_ (i := 2) rfl) (show 0 < x.data.length + 64 by omega)
      have hv : Value.slice bD (x.data.length + 64) b2 = .slice (some ⟨g2, 0, none⟩) (x.data.length + 64) k2 := hv2
      injection hv with e1 e2 e3
      subst e1 e3
      clear e2
      have OC := hide_ (OverCode_any g0 (x.code.length + 64) b0 W1.heap.size 0 (x.code ++ marksC 64) _ wr L1.out (by rw [List.length_append, marksC_len]) rfl HO.out HB.out.size)
      clear r0 r1 hd hv0 hv2 HD HOa HBa
      go_wp2_with fail
      refine OC.out.mono ?_
      rintro e w13 ⟨rfl, hO13, hb13⟩
      have HBa := hide_ (HB.out.trans hb13)
      have OD := hide_ (OverBytesR_any g2 (x.data.length + 64) b2 W1.heap.size 2 (x.data ++ marks8 0 0 64) _ w13 L3.out (by rw [List.length_append, marks8_len]) rfl hO13 HBa.out.size)
      clear f0 f1 f2 f3 f4 f5 z0 y0 y1 hq hlt2 OC hO13 hb13 HO HB hk1 hbk'
      go_wp2_with fail
      refine OD.out.mono ?_
      rintro e w14 ⟨rfl, hO14, hb14⟩
      have HB := hide_ (HBa.out.trans hb14)
      obtain ⟨q0, q1, q2, q3, hq4⟩ : ∃ q0 q1 q2 q3, Owns w14 W1.heap.size ([q0, q1, q2, q3] ++ restR y so sp sw go gp gw) := ⟨_, _, _, _, hO14⟩
      have HO := hide_ hq4
      clear OD hO14 hq4 hb14 HBa
      obtain ⟨⟨⟨s0, s1, s2, s3, s4, s5, s6, s7⟩, zs⟩, _, ⟨u0, u1, u2, u3, u4, u5, u6, u7⟩, zu⟩ := rest_boxes HO.out
      have SM1 := hide_ (sameObj_any y so sw w14.heap.size w14 YOK.out (rest_R HO.out).1 (rest_R HO.out).2.2 (Nat.le_refl _))
      dsimp only [objV] at SM1
      go_wp2_with fail
      refine SM1.out.mono ?_
      rintro e w15 ⟨rfl, hb15⟩
      have HOa := hide_ (HO.out.below hb15)
      have HBa := hide_ (HB.out.trans (hb15.mono HB.out.size))
      clear s0 s1 s2 s3 s4 s5 s6 s7 zs u0 u1 u2 u3 u4 u5 u6 u7 zu SM1 hb15 HO HB
      obtain ⟨_, ⟨⟨t0, t1, t2, t3, t4, t5, t6, t7⟩, zt⟩, ⟨u0, u1, u2, u3, u4, u5, u6, u7⟩, zu⟩ := rest_boxes HOa.out
      have SM2 := hide_ (sameObj_any y sp sw w15.heap.size w15 YOK.out (rest_R HOa.out).2.1 (rest_R HOa.out).2.2 (Nat.le_refl _))
      dsimp only [objV] at SM2
      go_wp2_with fail
      refine SM2.out.mono ?_
      rintro e w16 ⟨rfl, hb16⟩
      have HO := hide_ (HOa.out.below hb16)
      have HB := hide_ (HBa.out.trans (hb16.mono HBa.out.size))
      clear t0 t1 t2 t3 t4 t5 t6 t7 zt u0 u1 u2 u3 u4 u5 u6 u7 zu SM2 hb16 HOa HBa
      go_wp2_with fail
      refine (HAW.out w16 HB.out).mono ?_
      rintro e w17 ⟨rfl, hb17⟩
      have HP := hide_ (rest_pair (HO.out.below hb17))
      have HBa := hide_ (HB.out.trans (hb17.mono HB.out.size))
      clear hb17 HO HB HAW YOK
      have BX := hide_ (fun W (h : Owns W W1.heap.size (pairR y so sp go gp)) => And.intro (boxR_cells (i := 12) h rfl) (boxR_cells (i := 13) h rfl))
      obtain ⟨⟨⟨s0, s1, s2, s3, s4, s5, s6, s7⟩, zs⟩, ⟨t0, t1, t2, t3, t4, t5, t6, t7⟩, zt⟩ := BX.out w17 HP.out
      clear s1 s2 s3 s4 s5 s6 s7 t1 t2 t3 t4 t5 t6 t7
      have AC := hide_ (ApartCode_any (some ⟨w17.heap.size, 0, none⟩) 2 2 W1.heap.size (two (.slice so.c.A y.code.length so.c.c) (.slice sp.c.A y.code.length sp.c.c)) (fun _ => y.code.length) (fun _ => y.code) _ _ (two_in (L := 22) HP.out HBa.out.size) (fun _ _ => rfl) (by have := HBa.out.size; simp; omega) (fun _ _ => by have := YFT.out.c; show y.code.length ≤ 17592186044000; omega) (by omega))
      go_wp2_with fail
      refine AC.out.mono ?_
      rintro e w18 ⟨rfl, hO18, hb18⟩
      have HQ := hide_ hO18
      have HB := hide_ (HBa.out.trans ((Below.alloc (Below.refl _ _) HBa.out.size _).trans hb18))
      clear hO18 hb18 AC HP HBa s0 t0 zs zt BX
      obtain ⟨⟨⟨s0, s1, s2, s3, s4, s5, s6, s7⟩, zs⟩, ⟨t0, t1, t2, t3, t4, t5, t6, t7⟩, zt⟩ := And.intro (boxR_cells (i := 10) HQ.out rfl) (boxR_cells (i := 11) HQ.out rfl)
      clear s0 s2 s3 s4 s5 s6 s7 t0 t2 t3 t4 t5 t6 t7
      have AC := hide_ (ApartBytesG_any (some ⟨w18.heap.size, 0, none⟩) 2 2 W1.heap.size (two (.slice so.d.A y.data.length so.d.c) (.slice sp.d.A y.data.length sp.d.c)) (fun _ => y.data.length) (fun _ => y.data) _ _ (two_in (L := 24) HQ.out HB.out.size) (fun _ _ => rfl) (by have := HB.out.size; simp; omega) (fun _ _ => by have := YFT.out.d; show y.data.length ≤ 140737488355264; omega) (by omega))
      go_wp2_with fail
      refine AC.out.mono ?_
      rintro e w19 ⟨rfl, hO19, hb19⟩
      have HP := hide_ hO19
      have HBa := hide_ (HB.out.trans ((Below.alloc (Below.refl _ _) HB.out.size _).trans hb19))
      clear hO19 hb19 AC HQ HB s1 t1 zs zt
      obtain ⟨⟨⟨s0, s1, s2, s3, s4, s5, s6, s7⟩, zs⟩, ⟨t0, t1, t2, t3, t4, t5, t6, t7⟩, zt⟩ := And.intro (boxR_cells (i := 8) HP.out rfl) (boxR_cells (i := 9) HP.out rfl)
      clear s0 s1 s2 s3 s4 s5 s7 t0 t1 t2 t3 t4 t5 t7
      have AC := hide_ (ApartTexts_any (some ⟨w19.heap.size, 0, none⟩) 2 2 W1.heap.size (two (.slice so.t.A y.targets.length so.t.c) (.slice sp.t.A y.targets.length sp.t.c)) (fun _ => y.targets.length) (fun _ => y.targets) _ _ (two_in (L := 33) HP.out HBa.out.size) (fun _ _ => rfl) (by have := HBa.out.size; simp; omega) (fun _ _ => by have := YFT.out.t; show y.targets.length ≤ 8796093022000; omega) (by omega))
      go_wp2_with fail
      refine AC.out.mono ?_
      rintro e w20 ⟨rfl, hO20, hb20⟩
      have HQ := hide_ hO20
      have HB := hide_ (HBa.out.trans ((Below.alloc (Below.refl _ _) HBa.out.size _).trans hb20))
      clear hO20 hb20 AC HP HBa s6 t6 zs zt
      obtain ⟨⟨⟨s0, s1, s2, s3, s4, s5, s6, s7⟩, zs⟩, ⟨t0, t1, t2, t3, t4, t5, t6, t7⟩, zt⟩ := And.intro (boxR_cells (i := 6) HQ.out rfl) (boxR_cells (i := 7) HQ.out rfl)
      have AP := hide_ (apart_any y so sp W1.heap.size w20 YFT.out (HQ.out.sub (List.sublist_append_left _ [boxR go y so, boxR gp y sp])) HB.out.size)
      dsimp only [objV] at AP
      go_wp2_with fail
      refine AP.out.mono ?_
      rintro e w21 ⟨rfl, hb21⟩
      have HBa := hide_ (FIN.out _ (HB.out.trans hb21))
      clear hb21 AP HQ HB s0 s1 s2 s3 s4 s5 s6 s7 zs t0 t1 t2 t3 t4 t5 t6 t7 zt
      go_wp2_with fail
      exact bodyPost_ret (v := .bool true) (by simp [results, Tryz.results3, go_sem]) rfl ⟨rfl, HBa.out⟩
end Go.Proofs.YtikbegmodacopaaGreatDoor
