/-
  The walk of the statement MemCopies.
-/
import Derived.Test.YtgppbdcnpailaaaClone
import Derived.Test.YtgppbdcnpailaaaMemRaw
namespace Go.Proofs.Ytgppbdcnpailaaa
open Go.RowKit

theorem Seg.drop {W : World} {B g d N c : Nat} {xs : List Int} {ex ex' : List Ro} (h : Seg W B g d N c xs ex) (hs : ex'.Sublist ex) : Seg W B g d N c xs ex' := by
  obtain ⟨⟨tv, h1⟩, h2, h3, h4, h5⟩ := h
  exact ⟨⟨tv, h1.sub ((List.Sublist.refl _).append hs)⟩, h2, h3, h4, h5⟩
theorem word1 (N : Nat) (a : Int) (xs : List Int) : wordAt N a xs 1 = gt xs (plc N a 0) := by simp [wordAt]
set_option maxRecDepth 100000 in
set_option maxHeartbeats 2000000 in
theorem MemCopies_walk (x : ShotV) (w : World) (hx : ShotOk w x) : Calls Try.prog 11 #[.agg (shotCells x).toArray] w fun e w' => e = .returned (.bool true) ∧ Below w.heap.size w w' := by
  obtain ⟨bits, A, n, c, zs, a, v, far, m⟩ := x
  obtain ⟨⟨b0, b1⟩, ⟨a0, a1⟩, ⟨v0, v1⟩, _, ⟨m0, m1⟩, hseed, hzs, hnc, hcb⟩ := hx
  simp only at b0 b1 a0 a1 v0 v1 m0 m1 hseed hzs hnc hcb
  obtain ⟨K, hK⟩ : ∃ K : Nat, bits % 9 = (K : Int) := Int.eq_ofNat_of_zero_le (by omega)
  have hW1 : Below w.heap.size w (w.alloc (.cells (shotCells ⟨bits, A, n, c, zs, a, v, far, m⟩).toArray 59)) := (Below.refl _ _).alloc (Nat.le_refl _) _
  have k0 : Blk (w.alloc (.cells (shotCells ⟨bits, A, n, c, zs, a, v, far, m⟩).toArray 59)) w.heap.size 59 (shotCells ⟨bits, A, n, c, zs, a, v, far, m⟩).toArray := Blk.new w _ _
  have hmade := hide_ (made_seg bits K hK A n c w.heap.size zs b0 b1 (W := w.alloc (.cells (shotCells ⟨bits, A, n, c, zs, a, v, far, m⟩).toArray 59)) (B := w.heap.size + 1) (ex := []) (Owns.nil_) (by simp) (hseed.below hW1) (by simp) (by omega))
  have K0 := hide_ k0
  have HW1 := hide_ hW1
  have hK8 : K ≤ 8 := by omega
  have HZS := hide_ hzs
  clear k0 hW1 hseed hzs hK b0 b1 hnc hcb
  unfold shotCells at *
  go_enter Try.func11, Try.ntmps11
  go_wp2_with (go_at_call 34; refine hmade.out.mono ?_; rintro e w2 ⟨g, d, c2, rfl, hO2, hb2⟩)
  obtain ⟨N, hN⟩ : ∃ N, N = 2 ^ (8 + K) := ⟨_, rfl⟩
  rw [← hN] at hO2
  have hseg : IsSeg N := ⟨8 + K, by omega, by omega, hN⟩
  obtain ⟨xs, hxs⟩ : ∃ xs, xs = seedXs zs N := ⟨_, rfl⟩
  have hS2 : Seg w2 (w.heap.size + 1) g d N c2 xs [] := ⟨⟨_, by rw [hxs]; exact hO2⟩, by have := hb2.size; simp at this; omega, hseg, by rw [hxs]; exact seedXs_len _ _, by rw [hxs]; exact seedXs_ok HZS.out _⟩
  obtain ⟨W1, hW1⟩ : ∃ W1, W1 = w.alloc (.cells #[.int .u8 bits, .slice A n c, .int .u32 a, .int .u32 v, .int .u32 far, .int .u16 m] 59) := ⟨_, rfl⟩
  have hs1 : W1.heap.size = w.heap.size + 1 := by rw [hW1]; simp
  have hb2' : Below (w.heap.size + 1) W1 w2 := by rw [← hs1, hW1]; exact hb2
  have HCELL : Hid (∀ W', Below (w.heap.size + 1) W1 W' → W'.cell? ⟨w.heap.size, 3, none⟩ = some (.int .u32 v) ∧ w.heap.size < W'.heap.size) := hide_ fun W' hb => by
    have kk : Blk W' w.heap.size 59 #[.int .u8 bits, .slice A n c, .int .u32 a, .int .u32 v, .int .u32 far, .int .u16 m] := (show Blk W1 _ _ _ by rw [hW1]; exact K0.out).below hb (by omega)
    exact ⟨kk.cell 3, kk.lt⟩
  have HFIN : Hid (∀ W', Below (w.heap.size + 1) W1 W' → Below w.heap.size w W') := hide_ fun W' hb => by
    have h1 : Below w.heap.size w W1 := by rw [hW1]; exact HW1.out
    exact h1.trans (hb.mono (by omega))
  have HSG := hide_ hseg
  have hxl := hide_ hS2.len
  have hxo := hide_ hS2.ok
  clear hO2 hb2 hN hseg hW1 hs1 hmade hxs
  refine (awake_any w2).mono ?_
  rintro e w3 ⟨rfl, hb3⟩
  have hS3 := hS2.below hb3
  have hB3 : Below (w.heap.size + 1) W1 w3 := hb2'.trans (hb3.mono hS2.base)
  have h4 := hide_ (Clone_off hS3)
  have HB3 := hide_ hB3
  have HS3 := hide_ hS3.base
  clear hS2 hb2' hb3 hS3 hB3
  go_wp2_with (go_at_call 48; refine h4.out.mono ?_; rintro e w4 ⟨g2, d2, c4, tv4, rfl, hQ4, hb4⟩)
  -- Q: the clone first, m behind it
  obtain ⟨tv5, hP4⟩ := pair_swap hQ4 HSG.out hxl.out hxo.out
  have hB4 := HB3.out.trans (hb4.mono HS3.out)
  have s1 := Same_off hQ4 hP4
  rw [decide_eq_true rfl] at s1
  have S1 := hide_ s1
  have HP4 := hide_ hP4
  have HB4 := hide_ hB4
  clear h4 hQ4 hP4 hb4 hB4 s1
  refine S1.out.mono ?_
  rintro e w5 ⟨rfl, nq5, rfl⟩
  have hP5 := HP4.out.drewN nq5
  obtain ⟨tv6, hQ5⟩ := pair_swap hP5 HSG.out hxl.out hxo.out
  have s2 := Same_off hP5 hQ5
  rw [decide_eq_true rfl] at s2
  have S2 := hide_ s2
  have HP5 := hide_ hP5
  have HB5 := hide_ (below_draws2 HB4.out nq5)
  clear hP5 hQ5 s2 S1 HP4
  generalize w4.drewN nq5 = w5 at S2 HP5 HB5 ⊢
  go_wp2_with (go_at_call 49; refine S2.out.mono ?_; rintro e w6 ⟨rfl, nq6, rfl⟩; have hc6 := HCELL.out _ (below_draws2 HB5.out nq6))
  have hP6 := HP5.out.drewN nq6
  have HB6 := hide_ (below_draws2 HB5.out nq6)
  generalize w5.drewN nq6 = w6 at hP6 HB6 hc6 ⊢
  clear HP5 HB5 S2 HB4 HS3 HB3
  by_cases hbig : 4096 < m
  · have dm : decide ((4096 : Int) < m) = true := by simp; omega
    obtain ⟨tv7, hQ6⟩ := pair_swap hP6 HSG.out hxl.out hxo.out
    have s3 := Same_off hP6 hQ6
    rw [decide_eq_true rfl] at s3
    have S3 := hide_ s3
    have CB := hide_ (Copy_big a v m hP6 hbig)
    clear hP6 hQ6 s3 hbig
    refine CB.out.mono ?_
    rintro e w7 ⟨rfl, rfl⟩
    go_wp2_with (go_at_call 49; refine S3.out.mono ?_; rintro e w8 ⟨rfl, nq8, rfl⟩)
    go_ret
    exact ⟨rfl, HFIN.out _ (below_draws2 HB6.out nq8)⟩
  · obtain ⟨M, rfl⟩ := Int.eq_ofNat_of_zero_le m0
    have hM : M ≤ 4096 := by omega
    have dm : decide ((4096 : Int) < (M : Int)) = false := by simp; omega
    obtain ⟨bs, hbs⟩ : ∃ bs, bs = readN N v xs M := ⟨_, rfl⟩
    have hbl : bs.length = M := by rw [hbs]; exact readN_len _ _ _ _
    have hbo : bytesOk bs := by rw [hbs]; exact readN_ok hxo.out _
    have h7 := Copy_off a v M hP6 a0 (by omega) v0 (by omega) hM
    rw [← hbs] at h7
    obtain ⟨ys, hys⟩ : ∃ ys, ys = puts N a bs xs M := ⟨_, rfl⟩
    rw [← hys] at h7
    have H7 := hide_ h7
    have HBS := hide_ hbs
    have HYS := hide_ hys
    have HBO := hide_ (show bs.length = M ∧ bytesOk bs from ⟨hbl, hbo⟩)
    clear h7 hP6 hbs hys hbl hbo hbig m0 m1
    refine H7.out.mono ?_
    rintro e w7 ⟨rfl, hP7, hb7⟩
    have HYL := hide_ (show ys.length = N ∧ bytesOk ys from ⟨hP7.len, hP7.ok⟩)
    obtain ⟨tv8, hQ7⟩ := pair_swap hP7 HSG.out hxl.out hxo.out
    have hB7 := HB6.out.trans hb7
    have hc7 := HCELL.out _ hB7
    have h8 := Read_off v M hQ7 v0 (by omega) hM
    rw [← HBS.out] at h8
    have H8 := hide_ h8
    have HB7 := hide_ hB7
    clear h8 hQ7 hP7 hb7 hB7 H7 hc6
    go_wp2_with (go_at_call 43; refine H8.out.mono ?_; rintro e w8 ⟨o8, rfl, hQ8, hb8⟩)
    have h9 := Write_own a o8 M bs hQ8 a0 (by omega) hM HBO.out.1 HBO.out.2
    rw [← HYS.out] at h9
    have H9 := hide_ h9
    have HB8 := hide_ (HB7.out.trans hb8)
    clear h9 hQ8 hb8 hc7
    refine H9.out.mono ?_
    rintro e w9 ⟨rfl, hQ9, hb9⟩
    have hQ9' := hQ9.drop (ex' := memRows g d N c2 false tv8 [] ys ++ []) (.cons _ (.refl _))
    obtain ⟨tv9, hP9⟩ := pair_swap hQ9' HSG.out HYL.out.1 HYL.out.2
    have s9 := Same_off hP9 hQ9'
    rw [decide_eq_true rfl] at s9
    have S9 := hide_ s9
    have HP9 := hide_ hP9
    have HB9 := hide_ (HB8.out.trans hb9)
    clear s9 hP9 hQ9 hQ9' hb9
    go_wp2_with (go_at_call 49; refine S9.out.mono ?_; rintro e w10 ⟨rfl, nq10, rfl⟩)
    have hP10 := HP9.out.drewN nq10
    have HB10 := hide_ (below_draws2 HB9.out nq10)
    generalize w9.drewN nq10 = w10 at hP10 HB10 ⊢
    have t10 := hide_ (Bytes_off hP10)
    have HC10 := hide_ hP10.base
    clear hP10 HP9 S9 HB9 H9
    refine t10.out.mono ?_
    rintro e w11 ⟨o11, co11, rfl, hown11, hP11, hb11⟩
    have hr11 := Reads.of_own hown11
    obtain ⟨tv11, hQ11⟩ := pair_swap hP11 HSG.out HYL.out.1 HYL.out.2
    have t11 := hide_ (Bytes_off hQ11)
    have HR11 := hide_ hr11
    have HB11 := hide_ (HB10.out.trans (hb11.mono HC10.out))
    have HC11 := hide_ hP11.base
    clear hP11 hQ11 hown11 hb11 hr11
    go_wp2_with (go_at_call 33; refine t11.out.mono ?_; rintro e w12 ⟨o12, co12, rfl, hown12, hQ12, hb12⟩)
    have hr12 := Reads.of_own hown12
    have hr13 := (HR11.out.below hb12).more hb12.size
    obtain ⟨tv12, hP12⟩ := pair_swap hQ12 HSG.out HYL.out.1 HYL.out.2
    have N1 := HSG.out.bd.2
    have s12 := SameBytes_any (some ⟨o11, 0, none⟩) (some ⟨o12, 0, none⟩) N co11 N co12 ys ys w12.heap.size w12 hr13 hr12 (by unfold maxLen; omega) (by unfold maxLen; omega)
    rw [decide_eq_true rfl] at s12
    have S12 := hide_ s12
    have HP12 := hide_ hP12
    have HB12 := hide_ (HB11.out.trans (hb12.mono HC11.out))
    clear s12 hP12 hQ12 hown12 hb12 hr12 hr13 N1
    refine S12.out.mono ?_
    rintro e w' ⟨rfl, nq13, rfl⟩
    have hP13 := HP12.out.drewN nq13
    have HB13 := hide_ (below_draws2 HB12.out nq13)
    generalize w12.drewN nq13 = w13 at hP13 HB13 ⊢
    have l14 := Load1_off a hP13
    obtain ⟨z, hz⟩ : ∃ z, z = wordAt N a ys 1 := ⟨_, rfl⟩
    have hzb : 0 ≤ z ∧ z < 256 := by rw [hz, word1]; exact gt_bd HYL.out.2 _
    rw [← hz] at l14
    have L14 := hide_ l14
    have HZ0 := hide_ hz
    clear l14 hP13 HP12 HB12 S12 hz
    go_wp2_with (go_at_call 39; refine L14.out.mono ?_; rintro e w14 ⟨rfl, hP14, hb14⟩)
    have l15 := Store1_off a (z + 1) hP14 (by omega) (by omega)
    obtain ⟨us, hus⟩ : ∃ us, us = puts N a (bytes4 (z + 1)) ys 1 := ⟨_, rfl⟩
    rw [← hus] at l15
    have hN := HSG.out.pow
    have hz := HZ0.out
    have hgu : gt us (plc N a 0) = (z + 1) % 256 := by
      rw [hus, gt_puts hN HYL.out.1 1 (by have := hN.bd; omega) 0 (by have := hN.bd; omega), if_pos (by omega)]
      simp [bytes4]
    have hne : decide (us = ys) = false := by
      rw [decide_eq_false_iff_not]
      rintro rfl
      rw [← word1, ← hz] at hgu
      omega
    have L15 := hide_ l15
    have HB14 := hide_ (HB13.out.trans hb14)
    have HZ := hide_ (show wordAt N a ys 1 = z ∧ wordAt N a us 1 = (z + 1) % 256 from ⟨hz.symm, (word1 _ _ _).trans hgu⟩)
    have HNE := hide_ hne
    clear l15 hP14 hb14 hus hgu hne hz hN
    refine L15.out.mono ?_
    rintro e w15 ⟨rfl, hP15, hb15⟩
    obtain ⟨tv15, hQ15⟩ := pair_swap hP15 HSG.out HYL.out.1 HYL.out.2
    have HUL := hide_ (show us.length = N ∧ bytesOk us from ⟨hP15.len, hP15.ok⟩)
    have s16 := Same_off hP15 hQ15
    rw [HNE.out] at s16
    have S16 := hide_ s16
    have HQ15 := hide_ hQ15
    have HB15 := hide_ (HB14.out.trans hb15)
    clear s16 hP15 hQ15 hb15
    go_wp2_with (go_at_call 49; refine S16.out.mono ?_; rintro e w' ⟨rfl, nq16, rfl⟩)
    have hQ16 := HQ15.out.drewN nq16
    have HB16 := hide_ (below_draws2 HB15.out nq16)
    generalize w15.drewN nq16 = w16 at hQ16 HB16 ⊢
    have l17 := Load1_off a hQ16
    rw [HZ.out.1] at l17
    have L17 := hide_ l17
    clear l17 hQ16 HQ15 HB15 S16
    refine L17.out.mono ?_
    rintro e w17 ⟨rfl, hQ17, hb17⟩
    obtain ⟨tv17, hP17⟩ := pair_swap hQ17 HSG.out HUL.out.1 HUL.out.2
    have l18 := Load1_off a hP17
    rw [HZ.out.2] at l18
    have L18 := hide_ l18
    have HB17 := hide_ (HB16.out.trans hb17)
    clear l18 hQ17 hP17 hb17
    go_wp2_with (go_at_call 39; refine L18.out.mono ?_; rintro e w18 ⟨rfl, hP18, hb18⟩)
    go_ret
    exact ⟨rfl, HFIN.out _ (HB17.out.trans hb18)⟩
set_option maxRecDepth 100000 in
theorem MemCopies_raw {H : Type} {enc : TypeId × Value → H} {base : Nat} (v : Value) (w : World) (hv : Value.okWide Try.prog w .any base 59 v) (h : Seen enc Try.prog w true 59 v.cells.toList) :
    Calls Try.prog 11 #[v] w fun e w' => e = .returned (.bool true) ∧ Below w.heap.size w w' := by
  obtain ⟨x, rfl, hx⟩ := seen_shot hv h
  clear hv h
  exact MemCopies_walk x w hx
end Go.Proofs.Ytgppbdcnpailaaa
