/-
  The document's Dump.
-/
import Derived.Test.YtikbegmodacopaaGreatDoorRDmpW
import Derived.Test.YtikbegmodacopaaGreatDoorB27
namespace Go.Proofs.YtikbegmodacopaaGreatDoor
open Go.RowKit Go.PlainAid Go.Shelf Go.BigFrame
set_option linter.unusedSimpArgs false
set_option linter.unusedVariables false
set_option maxRecDepth 100000
theorem rDump_big (A : Option Addr) (n c : Nat) (w : World) (hn : 65536 < n) :
    Calls Tryz.prog 29 #[.slice A n c] w fun e w' => e = .returned (.tuple #[.string ⟨#[]⟩, .int .i64 122]) ∧ Below w.heap.size w w' := by
  have h : decide ((65536 : Int) < (n : Int)) = true := decide_eq_true (by omega)
  have h2 : decide (65536 < n) = true := decide_eq_true hn
  go_enter Tryz.func29, Tryz.ntmps29
  go_wp2
  go_ret2
  exact ⟨rfl, Below.refl _ _⟩
theorem dumpL_size {b : List Int} (hb : isBytes b) (hl : b.length ≤ 65536) : (catL (dumpL b)).size ≤ 8192000 := by
  have h1 := catL_len 100 (dumpL b) (fun y hy => by
    rcases List.mem_append.1 hy with hy | hy
    · obtain ⟨s, hs, rfl⟩ := List.mem_map.1 hy
      exact stepRow_size hb hl (stepsF_ok hb _ _ s hs)
    · exact tailF_size hb hl _ _ y hy)
  have h2 := stepsF_len b 16384 0
  have h3 := tailF_len b b.length (stEnd (steps b))
  have h4 : (dumpL b).length = (stepsF b 16384 0).length + (tailF b b.length (stEnd (steps b))).length := by rw [dumpL, List.length_append, List.length_map]; rfl
  omega
set_option maxHeartbeats 4000000 in
theorem rDump_small (A : Option Addr) (n c : Nat) (b : List Int) (w : World) (hr : Reads w w.heap.size 1 A n (u8s b)) (hb : isBytes b) (hn : n ≤ 65536) :
    Calls Tryz.prog 29 #[.slice A n c] w fun e w' => e = .returned (.tuple #[.string (catL (dumpL b)), .int .i64 0]) ∧ Below w.heap.size w w' := by
  have la : b.length = n := by simpa using hr.1
  have h1 : decide ((65536 : Int) < (n : Int)) = false := decide_eq_false (by omega)
  have h2 : decide (65536 < n) = false := decide_eq_false (by omega)
  have HW := hide_ (rWalk_any A n c b w hr hb hn)
  have HR := hide_ (fun W (hb : Below w.heap.size w W) => (hr.below hb).more hb.size)
  have HBY := hide_ hb
  have HLA := hide_ la
  have HTOT := hide_ (dumpL_size hb (by omega))
  have HOKS := hide_ (fun s (hs : s ∈ steps b) => stepsF_ok hb 16384 0 s hs)
  have HSL := hide_ (show (steps b).length ≤ 16384 from stepsF_len b 16384 0)
  obtain ⟨R, hR⟩ : ∃ R, R = catL (dumpL b) := ⟨_, rfl⟩
  rw [← hR]
  have HRR := hide_ hR
  have HE := hide_ (stEnd_le hb)
  clear la hr hb hR
  go_enter Tryz.func29, Tryz.ntmps29
  go_wp2_with fail
  refine HW.out.mono ?_
  rintro e w1 ⟨v1, v2, z1, z2, rfl, hO, hb1⟩
  obtain ⟨A1, c1, hv1, hc1, hd1⟩ := ownsRow_slice (hO.at_ (i := 0) rfl)
  simp only at hv1
  subst hv1
  obtain ⟨A2, c2, hv2, hc2, hd2⟩ := ownsRow_slice (hO.at_ (i := 1) rfl)
  simp only at hv2
  subst hv2
  have HP := hide_ (fun W (hb : Below w1.heap.size w1 W) => ((Reads.of_own (show w1.ownsRow w.heap.size 3 1 (.slice A1 (steps b).length c1) (steps b).length (plcV (steps b)) from hO.at_ (i := 0) rfl)).below hb))
  have HC := hide_ (fun W (hb : Below w1.heap.size w1 W) => ((Reads.of_own (show w1.ownsRow w.heap.size 66 2 (.slice A2 (steps b).length c2) (steps b).length ((steps b).flatMap insE) from hO.at_ (i := 1) rfl)).below hb))
  have HB1 := hide_ hb1
  obtain ⟨L, hL⟩ : ∃ L, L = (steps b).length := ⟨_, rfl⟩
  rw [← hL] at HP HC HSL ⊢
  have HLL := hide_ hL
  clear hO hb1 hc1 hc2 hd1 hd2 HW hL
  have hsl := HSL.out
  go_wp2
  go_loopw [8, 9, 10] (fun s8 s9 s10 wr => ∃ k : Nat, k ≤ L ∧ s10 = .int .i64 k ∧ s8 = .string (catL (((steps b).take k).map (stepRow b))) ∧ s9 = .int .i64 (stEnd ((steps b).take k)) ∧ Hid (Below w1.heap.size w1 wr)) (fun _ _ s10 _ => L - (intOf s10).toNat)
  case atStart => exact ⟨0, Nat.zero_le _, rfl, rfl, rfl, hide_ (Below.refl _ _)⟩
  case round =>
    obtain ⟨k, hk, rfl, rfl, rfl, HB⟩ := hrel
    by_cases hlt : k < L
    · obtain ⟨x, hx⟩ : ∃ x, (steps b)[k]? = some x := ⟨_, List.getElem?_eq_getElem (by have := HLL.out; omega)⟩
      have hmem := List.mem_of_getElem? hx
      have HX := hide_ (HOKS.out x hmem)
      obtain ⟨_, ad2, rfl, hbk2, hc0, hc1⟩ := el_cells insE_len (HC.out wr HB.out) (by omega) hx
      obtain ⟨ad1, u, rfl, hbk1, hu, hc2⟩ := (HP.out wr HB.out).at_ hlt
      have hu2 : u = .int .i64 x.at_ := by
        unfold plcV at hu
        rw [List.getElem?_map, hx] at hu
        injection hu with hu
        exact hu.symm
      subst hu2
      have d0 := hc0 _ rfl
      have d1 := hc1 1 _ (by omega) rfl
      have HT := hide_ (show catL (((steps b).take (k + 1)).map (stepRow b)) = catL (((steps b).take k).map (stepRow b)) ++ stepRow b x by
        rw [List.take_add_one, hx]
        show catL ((_ ++ [x]).map _) = _
        rw [List.map_append, List.map_cons, List.map_nil, catL_snoc])
      have HEN := hide_ (show stEnd ((steps b).take (k + 1)) = x.at_ + stW x by
        rw [List.take_add_one, hx]
        exact stEnd_snoc _ _)
      have HSZ := hide_ (show (catL (((steps b).take k).map (stepRow b))).size ≤ 8192000 ∧ (stepRow b x).size ≤ 100 by
        refine ⟨?_, stepRow_size HBY.out (by rw [HLA.out]; exact hn) HX.out⟩
        have h1 := catL_len 100 (((steps b).take k).map (stepRow b)) (fun y hy => by
          obtain ⟨s, hs, rfl⟩ := List.mem_map.1 hy
          exact stepRow_size HBY.out (by rw [HLA.out]; exact hn) (HOKS.out s (List.mem_of_mem_take hs)))
        rw [List.length_map, List.length_take] at h1
        omega)
      obtain ⟨T, hT⟩ : ∃ T, T = catL (((steps b).take k).map (stepRow b)) := ⟨_, rfl⟩
      obtain ⟨E, hE⟩ : ∃ T, T = stEnd ((steps b).take k) := ⟨_, rfl⟩
      rw [← hT] at HT HSZ ⊢
      rw [← hE]
      obtain ⟨pl, op, arg⟩ := x
      obtain ⟨q0, q1, a0, a1, hchk, hfit⟩ := HX.out
      simp only at q0 q1 a0 a1 hchk hfit d0 d1 hc2
      have hwid := opR_wid op
      have HLN := hide_ (fun W => rLine_any op arg q0 q1 a0 a1 W)
      rw [hchk] at HLN
      have HSIZ := hide_ (fun W => rSize_ok op arg q0 q1 hchk W)
      have HROW := hide_ (fun W (hb : Below w1.heap.size w1 W) => rrow_any A n c pl (1 + (opR op).width) b (lineS op arg) W (HR.out W (HB1.out.trans (hb.mono HB1.out.size))) hn HBY.out (by rw [HLA.out] at hfit; exact hfit) (by omega) (lineS_short op a0 a1))
      have hrw : rowS pl (cutB b pl (1 + (opR op).width)) (lineS op arg) = stepRow b ⟨pl, op, arg⟩ := rfl
      rw [hrw] at HROW
      have HEN := hide_ (show stEnd ((steps b).take (k + 1)) = pl + (1 + (opR op).width) from HEN.out)
      rw [HLA.out] at hfit
      obtain ⟨wd, hwd⟩ : ∃ wd, wd = (opR op).width := ⟨_, rfl⟩
      obtain ⟨lt, hlt'⟩ : ∃ l, l = lineS op arg := ⟨_, rfl⟩
      obtain ⟨rt, hrt⟩ : ∃ l, l = stepRow b ⟨pl, op, arg⟩ := ⟨_, rfl⟩
      rw [← hwd] at HSIZ HROW HEN hfit hwid
      rw [← hlt'] at HLN HROW
      rw [← hrt] at HROW HT HSZ
      have s1 : IntKind.i64.wrap ((pl : Int) + (1 + (wd : Int))) = ((pl + (1 + wd) : Nat) : Int) := by rw [show (pl : Int) + (1 + (wd : Int)) = ((pl + (1 + wd) : Nat) : Int) by push_cast; rfl]; exact IntWalk.i64_in _ (by omega)
      have z1 := HSZ.out.1
      have z2 := HSZ.out.2
      have g1 : ¬ (9223372036854775807 : Int) < (T.size : Int) + (rt.size : Int) := by omega
      have g2 : ¬ 9223372036854775807 < T.size + rt.size := by omega
      have HN2 := hide_ (fun W (hb : Below wr.heap.size wr W) => show W.cell? (ad2.add (k * 2)) = some (.int .u8 op) ∧ W.cell? ⟨(ad2.add (k * 2)).block, (ad2.add (k * 2)).off + 1, none⟩ = some (.int .u32 arg) ∧ W.cell? (ad1.add k) = some (.int .i64 pl) from
        ⟨(hb.cell (Nat.lt_of_lt_of_le hbk2 HB.out.size)).trans d0, (hb.cell (p := ⟨(ad2.add (k * 2)).block, (ad2.add (k * 2)).off + 1, none⟩) (Nat.lt_of_lt_of_le hbk2 HB.out.size)).trans d1, (hb.cell (by rw [block_of_add]; exact Nat.lt_of_lt_of_le hbk1 HB.out.size)).trans hc2⟩)
      clear hwd hlt' hrt hT hE hx hmem hu hbk1 hbk2 hc0 hc1 hc2 q0 q1 a0 a1 hchk HX z1 z2 HSZ hrw
      go_wp2_with fail
      refine (HSIZ.out wr).mono ?_
      rintro e w2 ⟨rfl, hb2⟩
      have HB2 := hide_ hb2
      clear d0 d1 hb2 HSIZ
      obtain ⟨d0, d1, hc2⟩ := HN2.out w2 HB2.out
      go_wp2_with fail
      refine (HLN.out w2).mono ?_
      rintro e w3 ⟨rfl, hb3⟩
      have HB3 := hide_ (HB2.out.trans (hb3.mono HB2.out.size))
      clear d0 d1 hc2 hb3 HLN
      obtain ⟨d0, d1, hc2⟩ := HN2.out w3 HB3.out
      go_wp2_with fail
      refine (HROW.out w3 (HB.out.trans (HB3.out.mono HB.out.size))).mono ?_
      rintro e w4 ⟨rfl, hb4⟩
      have HB4 := hide_ (HB3.out.trans (hb4.mono HB3.out.size))
      clear d0 d1 hc2 hb4 HROW
      obtain ⟨d0, d1, hc2⟩ := HN2.out w4 HB4.out
      go_wp2
      go_roundw
      case rel => exact ⟨k + 1, by omega, by go_num, by rw [HT.out], by rw [HEN.out]; push_cast; rfl, hide_ (HB.out.trans (HB4.out.mono HB.out.size))⟩
      case measure => simp [intOf]; omega
    · obtain rfl : k = L := by omega
      have htk : (steps b).take k = steps b := List.take_of_length_le (Nat.le_of_eq HLL.out.symm)
      rw [htk]
      have HT0 := hide_ (show catL ((steps b).map (stepRow b)) ++ catL (tailF b b.length (stEnd (steps b))) = R by rw [HRR.out, ← catL_app]; rfl)
      obtain ⟨e0, he0⟩ : ∃ e, e = stEnd (steps b) := ⟨_, rfl⟩
      obtain ⟨T0, hT0⟩ : ∃ e, e = catL ((steps b).map (stepRow b)) := ⟨_, rfl⟩
      rw [← he0] at HE HT0 ⊢
      rw [← hT0] at HT0 ⊢
      have HBB := hide_ (HB1.out.trans (HB.out.mono HB1.out.size))
      clear he0 hT0 htk HP HC HLL hk HB
      go_wp2
      go_loopw [8, 9] (fun s8 s9 wr => ∃ (e f : Nat) (T : ByteArray), s8 = .string T ∧ s9 = .int .i64 e ∧ Hid (T ++ catL (tailF b f e) = R) ∧ n - e ≤ f ∧ e ≤ n ∧ Hid (Below w.heap.size w wr)) (fun _ s9 _ => n - (intOf s9).toNat)
      case atStart => exact ⟨e0, b.length, T0, rfl, rfl, HT0, by rw [HLA.out]; omega, by rw [← HLA.out]; exact HE.out, HBB⟩
      case round =>
        obtain ⟨e, f, T, rfl, rfl, HTT, hef, hen, HB⟩ := hrel
        clear HT0 HBB
        have htot := congrArg ByteArray.size HTT.out
        rw [ByteArray.size_append] at htot
        have htt := HTOT.out
        rw [← HRR.out] at htt
        by_cases hlt : e < n
        · obtain ⟨f, rfl⟩ : ∃ g, f = g + 1 := ⟨f - 1, by omega⟩
          have s3 : decide ((e : Int) < (n : Int)) = true := decide_eq_true (by omega)
          have s4 : decide (e < n) = true := decide_eq_true hlt
          have s5 : IntKind.i64.wrap ((n : Int) - (e : Int)) = (n : Int) - (e : Int) := IntWalk.i64_in _ (by omega)
          have tails : ∀ m, m = min 8 (n - e) → T ++ rowS e (cutB b e m) e0C ++ catL (tailF b f (e + m)) = R := fun m hm => by
            rw [← HTT.out, tailF, if_pos (by rw [HLA.out]; exact hlt), catL_cons, HLA.out, ← hm, app_assoc]
          have TAILS := hide_ tails
          have HROW := hide_ (fun (m : Nat) (h8 : m ≤ 8) (hm : e + m ≤ n) => rrow_any A n c e m b e0C wr (HR.out wr HB.out) hn HBY.out hm h8 (by show 0 ≤ 30; omega))
          clear tails HTT
          by_cases h8 : 8 < n - e
          · have TT := hide_ (TAILS.out 8 (by omega))
            have RW := hide_ (HROW.out 8 (by omega) (by omega))
            obtain ⟨rt, hrt⟩ : ∃ r, r = rowS e (cutB b e 8) e0C := ⟨_, rfl⟩
            rw [← hrt] at TT RW
            have hsz := congrArg ByteArray.size TT.out
            rw [ByteArray.size_append, ByteArray.size_append] at hsz
            have g1 : ¬ (9223372036854775807 : Int) < (T.size : Int) + (rt.size : Int) := by omega
            have g2 : ¬ 9223372036854775807 < T.size + rt.size := by omega
            have c1 : decide ((8 : Int) < (n : Int) - (e : Int)) = true := decide_eq_true (by omega)
            have s6 : IntKind.i64.wrap ((e : Int) + 8) = ((e + 8 : Nat) : Int) := by rw [show (e : Int) + 8 = ((e + 8 : Nat) : Int) by push_cast; rfl]; exact IntWalk.i64_in _ (by omega)
            unfold e0C at RW
            clear hrt hsz htot htt TAILS HROW
            go_wp2_with fail
            refine RW.out.mono ?_
            rintro e' w2 ⟨rfl, hb2⟩
            have HB2 := hide_ (HB.out.trans (hb2.mono HB.out.size))
            clear hb2 RW
            go_wp2
            go_roundw
            case rel => exact ⟨e + 8, f, T ++ rt, rfl, by push_cast; rfl, TT, by omega, by omega, HB2⟩
            case measure => simp [intOf]; omega
          · obtain ⟨m, hm⟩ : ∃ m, m = n - e := ⟨_, rfl⟩
            have hz : (n : Int) - (e : Int) = (m : Int) := by omega
            have hem : e + m = n := by omega
            have TT := hide_ (TAILS.out m (by omega))
            have RW := hide_ (HROW.out m (by omega) (by omega))
            obtain ⟨rt, hrt⟩ : ∃ r, r = rowS e (cutB b e m) e0C := ⟨_, rfl⟩
            rw [← hrt] at TT RW
            have hsz := congrArg ByteArray.size TT.out
            rw [ByteArray.size_append, ByteArray.size_append] at hsz
            have g1 : ¬ (9223372036854775807 : Int) < (T.size : Int) + (rt.size : Int) := by omega
            have g2 : ¬ 9223372036854775807 < T.size + rt.size := by omega
            have c1 : decide ((8 : Int) < (m : Int)) = false := decide_eq_false (by omega)
            have c2 : decide (8 < m) = false := decide_eq_false (by omega)
            have s6 : IntKind.i64.wrap ((e : Int) + (m : Int)) = ((e + m : Nat) : Int) := by rw [show (e : Int) + (m : Int) = ((e + m : Nat) : Int) by push_cast; rfl]; exact IntWalk.i64_in _ (by omega)
            rw [hz] at s5
            unfold e0C at RW
            have HEM := hide_ hem
            have HZ := hide_ hz
            have s5' : IntKind.i64.wrap ((n : Int) - (e : Int)) = (m : Int) := by rw [hz]; exact s5
            clear hrt hsz htot htt TAILS HROW hm hem hz s5 h8
            go_wp2_with fail
            refine RW.out.mono ?_
            rintro e' w2 ⟨rfl, hb2⟩
            have HB2 := hide_ (HB.out.trans (hb2.mono HB.out.size))
            clear hb2 RW
            go_wp2
            go_roundw
            case rel => exact ⟨e + m, f, T ++ rt, rfl, by push_cast; rfl, TT, by have := HEM.out; omega, by have := HEM.out; omega, HB2⟩
            case measure => have := HEM.out; simp [intOf]; omega
        · obtain rfl : e = n := by omega
          have HEQ := hide_ (show T = R by
            rw [← HTT.out, tailF_ge _ (by rw [HLA.out]; exact Nat.le_refl _)]
            apply ByteArray.ext
            simp [catL])
          have s3 : decide ((e : Int) < (e : Int)) = false := decide_eq_false (by omega)
          clear HTT htot htt
          go_wp2
          go_ret2
          exact ⟨by rw [← HEQ.out]; rfl, HB.out⟩
theorem rDump_any (A : Option Addr) (n c : Nat) (b : List Int) (w : World) (hr : Reads w w.heap.size 1 A n (u8s b)) (hb : isBytes b) :
    Calls Tryz.prog 29 #[.slice A n c] w fun e w' => e = .returned (.tuple #[.string (dumpS b), .int .i64 (dumpE b)]) ∧ Below w.heap.size w w' := by
  have la : b.length = n := by simpa using hr.1
  by_cases h : 65536 < n
  · obtain ⟨h1, h2⟩ := dumpS_big (b := b) (by omega)
    rw [h1, h2]
    exact rDump_big A n c w h
  · obtain ⟨h1, h2⟩ := dumpS_small (b := b) (by omega)
    rw [h1, h2]
    exact rDump_small A n c b w hr hb (by omega)
end Go.Proofs.YtikbegmodacopaaGreatDoor
