/-
  The document's instructions of bytes: one, Size.
-/
import Derived.Test.YtikbegmodacopaaGreatDoorB27
namespace Go.Proofs.YtikbegmodacopaaGreatDoor
open Go.RowKit Go.PlainAid Go.Shelf Go.BigFrame
set_option linter.unusedSimpArgs false
set_option linter.unusedVariables false
set_option maxRecDepth 100000
set_option maxHeartbeats 4000000 in
theorem rone_any (A : Option Addr) (n c i : Nat) (b : List Int) (w : World) (hr : Reads w w.heap.size 1 A n (u8s b)) (hn : n ≤ 140737488351232) (hb : isBytes b) (hi : i < n) :
    Calls Tryz.prog 100 #[.slice A n c, .int .i64 i] w fun e w' => e = .returned (.tuple #[.agg (rdV b i), .int .i64 (rdN b i), .int .i64 (rdE b i)]) ∧ Below w.heap.size w w' := by
  have la : b.length = n := by simpa using hr.1
  obtain ⟨ad, u, rfl, hadb, hu, hc⟩ := hr.at_ hi
  obtain rfl := u8s_at (by omega) hu
  have hc := (World.cell?_alloc_lt w (.cells zI 66) (ad.add i) (by rw [block_of_add]; exact hadb)).trans hc
  unfold zI at hc
  obtain ⟨V, hV⟩ : ∃ V, V = rdV b i := ⟨_, rfl⟩
  obtain ⟨N, hN⟩ : ∃ N, N = rdN b i := ⟨_, rfl⟩
  obtain ⟨E, hE⟩ : ∃ E, E = rdE b i := ⟨_, rfl⟩
  rw [← hV, ← hN, ← hE]
  have HBAD := hide_ (fun (k : Int) (hk : k ≠ 0) (he : rdE b i = k) => show Ending.returned (.tuple #[.agg (insC 0 0), .int .i64 0, .int .i64 k]) = .returned (.tuple #[.agg V, .int .i64 (N : Nat), .int .i64 E]) by
    rw [hV, hN, hE, rdV, rdN, he, if_neg hk, if_neg hk]
    rfl)
  have HGOOD := hide_ (fun (he : rdE b i = 0) => show Ending.returned (.tuple #[.agg (insC (bA b i) (rdA b i)), .int .i64 (1 + (rdW b i : Nat)), .int .i64 0]) = .returned (.tuple #[.agg V, .int .i64 (N : Nat), .int .i64 E]) by
    rw [hV, hN, hE, rdV, rdN, he, if_pos rfl, if_pos rfl]
    push_cast
    rfl)
  clear hV hN hE
  have HI := hide_ (fun w => rInfo_any (bA b i) (bA_byte hb i).1 (bA_byte hb i).2 w)
  have hwid := opR_wid (bA b i)
  have HE := hide_ (show rdE b i = if opOk (bA b i) = false then 70 else if b.length < i + 1 + rdW b i then 72 else if ((opR (bA b i)).most : Int) < rdA b i then 71 else 0 from rfl)
  by_cases hok : opOk (bA b i) = true
  · have HCELL := hide_ (fun W (hb : Below w.heap.size w W) j (hj : j < n) => show W.cell? (ad.add j) = some (.int .u8 (bA b j)) by
      obtain ⟨ad', u', e', hb', hu', hc'⟩ := hr.at_ hj
      injection e' with e'
      subst e'
      obtain rfl := u8s_at (by omega) hu'
      exact (hb.cell (by rw [block_of_add]; exact hb')).trans hc')
    have HBY := hide_ (fun j => bA_byte hb j)
    have HOPD := hide_ (fun j => opdJ_bd hb i (rdW b i) j)
    have HLA := hide_ la
    rw [hok] at HI
    unfold opV at HI
    unfold rdA at HE HGOOD
    have hW : rdW b i = (opR (bA b i)).width := rfl
    obtain ⟨r, hr'⟩ : ∃ r, r = opR (bA b i) := ⟨_, rfl⟩
    obtain ⟨o, ho⟩ : ∃ o, o = bA b i := ⟨_, rfl⟩
    rw [hok, la] at HE
    rw [← hr'] at HI hwid HE hW
    rw [← ho] at HI hc HGOOD
    have HCI := hide_ (fun W (hb : Below w.heap.size w W) => show W.cell? (ad.add i) = some (.int .u8 o) from (HCELL.out W hb i hi).trans (by rw [ho]))
    rw [hW] at HE HOPD HGOOD
    clear hr' ho hok hu hr la hb
    unfold opCells at HI
    have e1 : IntKind.i64.wrap ((i : Int) + (r.width : Int)) = (i : Int) + (r.width : Int) := IntWalk.i64_in _ (by omega)
    by_cases hcut : n < i + 1 + r.width
    · have he : rdE b i = 72 := by rw [HE.out, if_neg (by simp), if_pos hcut]
      have HEE := hide_ (HBAD.out 72 (by decide) he)
      have d1 : decide ((n : Int) ≤ (i : Int) + (r.width : Int)) = true := decide_eq_true (by omega)
      clear HE he HCI HOPD HCELL HBY HLA hcut hW HBAD HGOOD
      go_enter Tryz.func100, Tryz.ntmps100
      go_wp2_with fail
      refine (HI.out _).mono ?_
      rintro e w1 ⟨rfl, hb1⟩
      have hK := hide_ ((Blk.new w 66 #[.int .u8 0, .int .u32 0]).below hb1 (by simp))
      have HB := hide_ (((Below.refl _ _).alloc (Nat.le_refl w.heap.size) (.cells #[.int .u8 0, .int .u32 0] 66)).trans (hb1.mono (by simp)))
      have hz : w.heap.size < w1.heap.size := hK.out.lt
      clear hb1
      go_wp2_with (first | (refine wpList_store_row rfl 66 (.tmp 4) (.tmp 29) rfl _ (insC 0 0) rfl rfl 66 #[.int .u8 0, .int .u32 0] (hK.out.alloc _) (ins_info _ rfl) rfl (insC_one 0 0) ?_))
      exact bodyPost_ret (v := .tuple #[.agg (insC 0 0), .int .i64 0, .int .i64 72]) (result_cell3 rfl _ _ _ w.heap.size _ _ _ rfl rfl rfl (ins_load (setRow_heap _ _ _ _ _ _ (hK.out.alloc _)) rfl)) rfl
        ⟨HEE.out, below_setRow (HB.out.alloc HB.out.size _) (Nat.le_refl _) _⟩
    · have d1 : decide ((n : Int) ≤ (i : Int) + (r.width : Int)) = false := decide_eq_false (by omega)
      obtain ⟨wd, hwd⟩ : ∃ wd, wd = r.width := ⟨_, rfl⟩
      rw [← hwd] at HE HOPD HI d1 hwid hcut HGOOD e1
      have HE := hide_ (show rdE b i = if (r.most : Int) < opdJ b i wd wd then 71 else 0 by rw [HE.out, if_neg (by simp), if_neg hcut])
      have HNC := hide_ hcut
      clear hcut hW hwd
      go_enter Tryz.func100, Tryz.ntmps100
      go_wp2_with fail
      refine (HI.out _).mono ?_
      rintro e w1 ⟨rfl, hb1⟩
      have hK := hide_ ((Blk.new w 66 #[.int .u8 0, .int .u32 0]).below hb1 (by simp))
      have HB := hide_ (((Below.refl _ _).alloc (Nat.le_refl w.heap.size) (.cells #[.int .u8 0, .int .u32 0] 66)).trans (hb1.mono (by simp)))
      have hz : w.heap.size < w1.heap.size := hK.out.lt
      clear hb1
      obtain ⟨W1, hW1⟩ : ∃ W, W = w1.alloc (.cells #[.string ⟨r.w.toArray⟩, .int .i64 wd, .int .u32 r.most, .int .i64 r.takes, .int .i64 r.gives, .int .u8 r.kind] 114) := ⟨_, rfl⟩
      have HB1 := hide_ (show Below w.heap.size w W1 by rw [hW1]; exact HB.out.alloc HB.out.size _)
      have HK7 := hide_ (show Blk W1 w1.heap.size 114 #[.string ⟨r.w.toArray⟩, .int .i64 wd, .int .u32 r.most, .int .i64 r.takes, .int .i64 r.gives, .int .u8 r.kind] by rw [hW1]; exact Blk.new _ _ _)
      have HK4 := hide_ (show Blk W1 w.heap.size 66 #[.int .u8 0, .int .u32 0] by rw [hW1]; exact hK.out.alloc _)
      have hs1 : W1.heap.size = w1.heap.size + 1 := by rw [hW1]; simp
      go_wp2
      rw [← hW1]
      clear hW1 hs1 hc e1 d1 hK HB HI
      go_loopw [9, 10] (fun x k wr => ∃ j : Nat, j ≤ wd ∧ x = .int .u32 (opdJ b i wd j) ∧ k = .int .i64 ((wd : Int) - (j : Int)) ∧ Hid (wr = W1)) (fun _ k _ => (intOf k).toNat)
      case atStart => exact ⟨0, Nat.zero_le _, rfl, by simp, hide_ rfl⟩
      case round =>
        obtain ⟨j, hj, rfl, rfl, HWR⟩ := hrel
        obtain ⟨p0, p1⟩ := HOPD.out j
        obtain ⟨x, hx⟩ : ∃ x, x = opdJ b i wd j := ⟨_, rfl⟩
        obtain rfl := HWR.out
        have f2 := HK7.out.cell 1
        have f3 := HK7.out.cell 2
        have z7 := HK7.out.lt
        have z4 := HK4.out.lt
        by_cases hlt : j < wd
        · obtain ⟨m, hm⟩ : ∃ m, m = wd - j := ⟨_, rfl⟩
          have hidx : i + m < n := by have := HNC.out; omega
          have hcw := HCELL.out wr HB1.out (i + m) hidx
          obtain ⟨y0, y1⟩ := HBY.out (i + m)
          have HNX := hide_ (show opdJ b i wd (j + 1) = x * 256 + bA b (i + m) by rw [opdJ, ← hx, ← hm])
          obtain ⟨y, hy⟩ : ∃ y, y = bA b (i + m) := ⟨_, rfl⟩
          rw [← hy] at hcw y0 y1 HNX
          have hm2 : (wd : Int) - (j : Int) = (m : Int) := by omega
          have hm3 : 1 ≤ m ∧ m ≤ 4 := by omega
          have px : x < 16777216 := by
            rw [← hx] at p1
            have : 256 ^ j ≤ 256 ^ 3 := Nat.pow_le_pow_right (by omega) (by omega)
            have h3 : (256 : Nat) ^ 3 = 16777216 := by decide
            omega
          rw [← hx] at p0 ⊢
          have HM := hide_ hm
          have HM2 := hide_ hm2
          rw [hm2]
          have s1 : IntKind.i64.wrap ((i : Int) + (m : Int)) = (i : Int) + (m : Int) := IntWalk.i64_in _ (by omega)
          have s2 : (0 : Int) ≤ (i : Int) + (m : Int) := by omega
          have s3 : ((i : Int) + (m : Int)).toNat = i + m := by omega
          have s4 : (i : Int) + (m : Int) < (n : Int) := by omega
          have s5 : IntKind.u32.wrap (x * 256) = x * 256 := IntWalk.u32_in _ (by omega)
          have s6 : IntKind.u32.wrap y = y := IntWalk.u32_in _ (by omega)
          have s7 : IntKind.u32.wrap (x * 256 + y) = x * 256 + y := IntWalk.u32_in _ (by omega)
          have s8 : decide ((0 : Int) < (m : Int)) = true := decide_eq_true (by omega)
          have s9 : decide (0 < m) = true := decide_eq_true (by omega)
          have s10 : IntKind.i64.wrap ((m : Int) - 1) = (m : Int) - 1 := IntWalk.i64_in _ (by omega)
          clear hx hy hm hm2 hlt HOPD HCI HE HNC p1 HCELL HBY HWR
          go_wp2
          go_roundw
          case rel => exact ⟨j + 1, by have := HM.out; omega, by rw [HNX.out], by have := HM2.out; congr 1; push_cast; omega, by first | exact hide_ rfl | exact hide_ trivial⟩
          case measure => have := HM2.out; simp [intOf]; omega
        · obtain rfl : j = wd := by omega
          have z0 : (j : Int) - (j : Int) = 0 := by omega
          rw [z0]
          by_cases hm : (r.most : Int) < opdJ b i j j
          · have he : rdE b i = 71 := by rw [HE.out, if_pos hm]
            have HEE := hide_ (HBAD.out 71 (by decide) he)
            have d2 : decide ((r.most : Int) < opdJ b i j j) = true := decide_eq_true hm
            rw [← hx] at d2 ⊢
            clear HE he hm hx HOPD HCELL HBY HCI HNC p0 p1 HBAD HGOOD HWR
            go_wp2_with (first | (refine wpList_store_row rfl 66 (.tmp 4) (.tmp 50) rfl _ (insC 0 0) rfl rfl 66 #[.int .u8 0, .int .u32 0] HK4.out (ins_info _ rfl) rfl (insC_one 0 0) ?_))
            exact bodyPost_ret (v := .tuple #[.agg (insC 0 0), .int .i64 0, .int .i64 71]) (result_cell3 rfl _ _ _ w.heap.size _ _ _ rfl rfl rfl (ins_load (setRow_heap _ _ _ _ _ _ HK4.out) rfl)) rfl
              ⟨HEE.out, below_setRow HB1.out (Nat.le_refl _) _⟩
          · have he : rdE b i = 0 := by rw [HE.out, if_neg hm]
            have HEE := hide_ (HGOOD.out he)
            have d2 : decide ((r.most : Int) < opdJ b i j j) = false := decide_eq_false hm
            have hcw := HCI.out wr HB1.out
            rw [← hx] at d2 HEE ⊢
            have s10 : IntKind.i64.wrap (1 + (j : Int)) = 1 + (j : Int) := IntWalk.i64_in _ (by omega)
            clear HE he hm hx HOPD HCELL HBY HCI HNC p0 p1 HBAD HGOOD HWR
            have g0 := HK4.out.cell 0
            have g1 := HK4.out.cell 1
            have g2 := HK4.out.frozen 0
            have g3 := HK4.out.frozen 1
            go_wp2_with fail
            go_region
            go_wp2
            exact bodyPost_ret (v := .tuple #[.agg (insC o x), .int .i64 (1 + (j : Int)), .int .i64 0]) (result_cell3 rfl _ _ _ w.heap.size _ _ _ rfl rfl rfl (ins_load (show Blk _ _ _ (insC o x) from ((HK4.out.set_ 0 _).set_ 1 _).drew) rfl)) rfl
              ⟨HEE.out, ((HB1.out.setCell (p := ⟨w.heap.size, 0, none⟩) (Nat.le_refl _) _).setCell (p := ⟨w.heap.size, 1, none⟩) (Nat.le_refl _) _).drew⟩
  · have hok : opOk (bA b i) = false := by simpa using hok
    have he : rdE b i = 70 := by rw [HE.out, if_pos hok]
    have HEE := hide_ (HBAD.out 70 (by decide) he)
    rw [hok] at HI
    unfold opV at HI
    obtain ⟨r, hr'⟩ : ∃ r, r = opR (bA b i) := ⟨_, rfl⟩
    obtain ⟨o, ho⟩ : ∃ o, o = bA b i := ⟨_, rfl⟩
    rw [← hr'] at HI
    rw [← ho] at HI hc
    clear hr' ho HE hok he hwid hu hr
    unfold opCells at HI
    clear HBAD HGOOD
    go_enter Tryz.func100, Tryz.ntmps100
    go_wp2_with fail
    refine (HI.out _).mono ?_
    rintro e w1 ⟨rfl, hb1⟩
    have hK := hide_ ((Blk.new w 66 #[.int .u8 0, .int .u32 0]).below hb1 (by simp))
    have HB := hide_ (((Below.refl _ _).alloc (Nat.le_refl w.heap.size) (.cells #[.int .u8 0, .int .u32 0] 66)).trans (hb1.mono (by simp)))
    have hz : w.heap.size < w1.heap.size := hK.out.lt
    clear hb1
    go_wp2_with (first | (refine wpList_store_row rfl 66 (.tmp 4) (.tmp 21) rfl _ (insC 0 0) rfl rfl 66 #[.int .u8 0, .int .u32 0] (hK.out.alloc _) (ins_info _ rfl) rfl (insC_one 0 0) ?_))
    exact bodyPost_ret (v := .tuple #[.agg (insC 0 0), .int .i64 0, .int .i64 70]) (result_cell3 rfl _ _ _ w.heap.size _ _ _ rfl rfl rfl (ins_load (setRow_heap _ _ _ _ _ _ (hK.out.alloc _)) rfl)) rfl
      ⟨HEE.out, below_setRow (HB.out.alloc HB.out.size _) (Nat.le_refl _) _⟩
set_option maxHeartbeats 2000000 in
theorem rSize_ok (op arg : Int) (q0 : 0 ≤ op) (q1 : op ≤ 255) (h : opChk op arg = 0) (w : World) : Calls Tryz.prog 61 #[.agg #[.int .u8 op, .int .u32 arg]] w fun e w' => e = .returned (.int .i64 (1 + ((opR op).width : Nat))) ∧ Below w.heap.size w w' := by
  have HC := hide_ (fun w => rCheck_any op arg q0 q1 w)
  rw [h] at HC
  have HI := hide_ (fun w => rInfo_any op q0 q1 w)
  have hwid := opR_wid op
  unfold opV at HI
  obtain ⟨r, hr⟩ : ∃ r, r = opR op := ⟨_, rfl⟩
  obtain ⟨ok, hok⟩ : ∃ k, k = opOk op := ⟨_, rfl⟩
  rw [← hr, ← hok] at HI
  rw [← hr] at hwid ⊢
  clear hr hok h
  unfold opCells at HI
  have s1 : IntKind.i64.wrap (1 + (r.width : Int)) = 1 + (r.width : Int) := IntWalk.i64_in _ (by omega)
  go_enter Tryz.func61, Tryz.ntmps61
  go_wp2_with fail
  refine (HC.out _).mono ?_
  rintro e w1 ⟨rfl, hb1⟩
  have hK := (Blk.new w 66 #[.int .u8 op, .int .u32 arg]).below hb1 (by simp)
  have c0 := hK.cell 0
  have HB := hide_ (((Below.refl _ _).alloc (Nat.le_refl w.heap.size) (.cells #[.int .u8 op, .int .u32 arg] 66)).trans (hb1.mono (by simp)))
  clear hb1 hK
  go_wp2_with fail
  refine (HI.out _).mono ?_
  rintro e w2 ⟨rfl, hb2⟩
  have HB2 := hide_ (HB.out.trans (hb2.mono HB.out.size))
  clear hb2 c0 HB
  go_wp2
  go_ret
  exact ⟨rfl, HB2.out.alloc HB2.out.size _⟩
end Go.Proofs.YtikbegmodacopaaGreatDoor
