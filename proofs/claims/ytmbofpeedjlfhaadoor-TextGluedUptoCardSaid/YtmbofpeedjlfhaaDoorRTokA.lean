/-
  The walks of the document's token parts: digit, plainLetter, signByte, nameEnd, figureEnd, litEnd, passed.
-/
import Derived.Test.YtmbofpeedjlfhaaDoorTokS
import Derived.Test.YtmbofpeedjlfhaaDoorCutsWalk
import Derived.Deep.CutRange
namespace Go.Proofs.YtmbofpeedjlfhaaDoor
open Go.RowKit Go.PlainAid
set_option linter.unusedVariables false
set_option maxRecDepth 100000

def plainR (r : Int) : Bool := (decide (65 ≤ r) && decide (r ≤ 90)) || (decide (97 ≤ r) && decide (r ≤ 122))
theorem rdigit_any (x : Int) (w : World) : Calls Tryd.prog 60 #[.int .u8 x] w fun e w' => e = .returned (.bool (digR x)) ∧ w' = w := by
  rcases (show (x < 48) ∨ (48 ≤ x ∧ x ≤ 57) ∨ (57 < x) by omega) with a | ⟨a, b⟩ | a
  · have e : digR x = false := by unfold digR; simp; omega
    rw [e]
    clear e
    go_enter Tryd.func60, Tryd.ntmps60
    go_wp2
    go_ret
    exact ⟨by first | rfl | (simp; omega) | simp, rfl⟩
  · have e : digR x = true := by unfold digR; simp; omega
    rw [e]
    clear e
    go_enter Tryd.func60, Tryd.ntmps60
    go_wp2
    go_ret
    exact ⟨by first | rfl | (simp; omega) | simp, rfl⟩
  · have e : digR x = false := by unfold digR; simp; omega
    rw [e]
    clear e
    go_enter Tryd.func60, Tryd.ntmps60
    go_wp2
    go_ret
    exact ⟨by first | rfl | (simp; omega) | simp, rfl⟩
theorem rplain_any (x : Int) (w : World) : Calls Tryd.prog 61 #[.int .u8 x] w fun e w' => e = .returned (.bool (plainR x)) ∧ w' = w := by
  rcases (show (x < 65) ∨ (65 ≤ x ∧ x ≤ 90) ∨ (90 < x ∧ x < 97) ∨ (97 ≤ x ∧ x ≤ 122) ∨ (122 < x) by omega) with a | ⟨a, b⟩ | ⟨a, b⟩ | ⟨a, b⟩ | a
  · have e : plainR x = false := by unfold plainR; simp; omega
    rw [e]
    clear e
    go_enter Tryd.func61, Tryd.ntmps61
    go_wp2
    go_ret
    exact ⟨by first | rfl | (simp; omega) | simp, rfl⟩
  · have e : plainR x = true := by unfold plainR; simp; omega
    rw [e]
    clear e
    go_enter Tryd.func61, Tryd.ntmps61
    go_wp2
    go_ret
    exact ⟨by first | rfl | (simp; omega) | simp, rfl⟩
  · have e : plainR x = false := by unfold plainR; simp; omega
    rw [e]
    clear e
    go_enter Tryd.func61, Tryd.ntmps61
    go_wp2
    go_ret
    exact ⟨by first | rfl | (simp; omega) | simp, rfl⟩
  · have e : plainR x = true := by unfold plainR; simp; omega
    rw [e]
    clear e
    go_enter Tryd.func61, Tryd.ntmps61
    go_wp2
    go_ret
    exact ⟨by first | rfl | (simp; omega) | simp, rfl⟩
  · have e : plainR x = false := by unfold plainR; simp; omega
    rw [e]
    clear e
    go_enter Tryd.func61, Tryd.ntmps61
    go_wp2
    go_ret
    exact ⟨by first | rfl | (simp; omega) | simp, rfl⟩
def signZ (x : Int) : Bool := decide (32 < x) && decide (x < 127) && !digR x && !plainR x && !(decide (x = 34) || decide (x = 35) || decide (x = 39) || decide (x = 92) || decide (x = 95) || decide (x = 96))
theorem signZ_nat (c : Nat) : signZ (c : Int) = signC c := by
  unfold signZ signC digR plainR
  rw [Bool.eq_iff_iff]
  simp
  omega
set_option maxHeartbeats 1000000 in
theorem signByte_any (x : Int) (w : World) : Calls Tryd.prog 38 #[.int .u8 x] w fun e w' => e = .returned (.bool (signZ x)) ∧ w' = w := by
  have HD := hide_ (fun W => rdigit_any x W)
  have HL := hide_ (fun W => rplain_any x W)
  rcases (show (x ≤ 32) ∨ (127 ≤ x) ∨ (48 ≤ x ∧ x ≤ 57) ∨ ((65 ≤ x ∧ x ≤ 90) ∨ (97 ≤ x ∧ x ≤ 122)) ∨ x = 34 ∨ x = 35 ∨ x = 39 ∨ x = 92 ∨ x = 95 ∨ x = 96 ∨ (32 < x ∧ x < 127 ∧ ¬ (48 ≤ x ∧ x ≤ 57) ∧ ¬ (65 ≤ x ∧ x ≤ 90) ∧ ¬ (97 ≤ x ∧ x ≤ 122) ∧ x ≠ 34 ∧ x ≠ 35 ∧ x ≠ 39 ∧ x ≠ 92 ∧ x ≠ 95 ∧ x ≠ 96) by omega) with a | a | a | a | rfl | rfl | rfl | rfl | rfl | rfl | a
  · have e : signZ x = false := by unfold signZ; simp; omega
    rw [e]
    have d1 : decide (x ≤ 32) = true := decide_eq_true a
    clear e
    go_enter Tryd.func38, Tryd.ntmps38
    go_wp2
    go_ret
    exact ⟨rfl, rfl⟩
  · have e : signZ x = false := by unfold signZ; simp; omega
    rw [e]
    have d1 : decide (x ≤ 32) = false := decide_eq_false (by omega)
    have d2 : decide (127 ≤ x) = true := decide_eq_true a
    clear e
    go_enter Tryd.func38, Tryd.ntmps38
    go_wp2
    go_ret
    exact ⟨rfl, rfl⟩
  · have hd : digR x = true := by unfold digR; simp; omega
    have e : signZ x = false := by unfold signZ; rw [hd]; simp
    rw [e]
    rw [hd] at HD
    have d1 : decide (x ≤ 32) = false := decide_eq_false (by omega)
    have d2 : decide (127 ≤ x) = false := decide_eq_false (by omega)
    clear e hd
    go_enter Tryd.func38, Tryd.ntmps38
    go_wp2_with fail
    refine (HD.out _).mono ?_
    rintro e w2 ⟨rfl, rfl⟩
    go_wp2
    go_ret
    exact ⟨rfl, rfl⟩
  · have hd : digR x = false := by unfold digR; simp; omega
    have hl : plainR x = true := by unfold plainR; simp; omega
    have e : signZ x = false := by unfold signZ; rw [hl]; simp
    rw [e]
    rw [hd] at HD
    rw [hl] at HL
    have d1 : decide (x ≤ 32) = false := decide_eq_false (by omega)
    have d2 : decide (127 ≤ x) = false := decide_eq_false (by omega)
    clear e hd hl a
    go_enter Tryd.func38, Tryd.ntmps38
    go_wp2_with fail
    refine (HD.out _).mono ?_
    rintro e w2 ⟨rfl, rfl⟩
    go_wp2_with fail
    refine (HL.out _).mono ?_
    rintro e w2 ⟨rfl, rfl⟩
    go_wp2
    go_ret
    exact ⟨rfl, rfl⟩
  · rw [show digR 34 = false from rfl] at HD
    rw [show plainR 34 = false from rfl] at HL
    go_enter Tryd.func38, Tryd.ntmps38
    go_wp2_with fail
    refine (HD.out _).mono ?_
    rintro e w2 ⟨rfl, rfl⟩
    go_wp2_with fail
    refine (HL.out _).mono ?_
    rintro e w2 ⟨rfl, rfl⟩
    go_wp2
    go_ret
    exact ⟨rfl, rfl⟩
  · rw [show digR 35 = false from rfl] at HD
    rw [show plainR 35 = false from rfl] at HL
    go_enter Tryd.func38, Tryd.ntmps38
    go_wp2_with fail
    refine (HD.out _).mono ?_
    rintro e w2 ⟨rfl, rfl⟩
    go_wp2_with fail
    refine (HL.out _).mono ?_
    rintro e w2 ⟨rfl, rfl⟩
    go_wp2
    go_ret
    exact ⟨rfl, rfl⟩
  · rw [show digR 39 = false from rfl] at HD
    rw [show plainR 39 = false from rfl] at HL
    go_enter Tryd.func38, Tryd.ntmps38
    go_wp2_with fail
    refine (HD.out _).mono ?_
    rintro e w2 ⟨rfl, rfl⟩
    go_wp2_with fail
    refine (HL.out _).mono ?_
    rintro e w2 ⟨rfl, rfl⟩
    go_wp2
    go_ret
    exact ⟨rfl, rfl⟩
  · rw [show digR 92 = false from rfl] at HD
    rw [show plainR 92 = false from rfl] at HL
    go_enter Tryd.func38, Tryd.ntmps38
    go_wp2_with fail
    refine (HD.out _).mono ?_
    rintro e w2 ⟨rfl, rfl⟩
    go_wp2_with fail
    refine (HL.out _).mono ?_
    rintro e w2 ⟨rfl, rfl⟩
    go_wp2
    go_ret
    exact ⟨rfl, rfl⟩
  · rw [show digR 95 = false from rfl] at HD
    rw [show plainR 95 = false from rfl] at HL
    go_enter Tryd.func38, Tryd.ntmps38
    go_wp2_with fail
    refine (HD.out _).mono ?_
    rintro e w2 ⟨rfl, rfl⟩
    go_wp2_with fail
    refine (HL.out _).mono ?_
    rintro e w2 ⟨rfl, rfl⟩
    go_wp2
    go_ret
    exact ⟨rfl, rfl⟩
  · rw [show digR 96 = false from rfl] at HD
    rw [show plainR 96 = false from rfl] at HL
    go_enter Tryd.func38, Tryd.ntmps38
    go_wp2_with fail
    refine (HD.out _).mono ?_
    rintro e w2 ⟨rfl, rfl⟩
    go_wp2_with fail
    refine (HL.out _).mono ?_
    rintro e w2 ⟨rfl, rfl⟩
    go_wp2
    go_ret
    exact ⟨rfl, rfl⟩
  · have hd : digR x = false := by unfold digR; simp; omega
    have hl : plainR x = false := by unfold plainR; simp; omega
    have e : signZ x = true := by unfold signZ; rw [hd, hl]; simp; omega
    rw [e]
    rw [hd] at HD
    rw [hl] at HL
    have d1 : decide (x ≤ 32) = false := decide_eq_false (by omega)
    have d2 : decide (127 ≤ x) = false := decide_eq_false (by omega)
    have n1 : (x != 34) = true := bne_iff_ne.2 (by omega)
    have n2 : (x != 35) = true := bne_iff_ne.2 (by omega)
    have n3 : (x != 39) = true := bne_iff_ne.2 (by omega)
    have n4 : (x != 92) = true := bne_iff_ne.2 (by omega)
    have n5 : (x != 95) = true := bne_iff_ne.2 (by omega)
    have n6 : (x != 96) = true := bne_iff_ne.2 (by omega)
    clear e hd hl a
    go_enter Tryd.func38, Tryd.ntmps38
    go_wp2_with fail
    refine (HD.out _).mono ?_
    rintro e w2 ⟨rfl, rfl⟩
    go_wp2_with fail
    refine (HL.out _).mono ?_
    rintro e w2 ⟨rfl, rfl⟩
    go_wp2
    go_ret
    exact ⟨by simp, rfl⟩
set_option maxHeartbeats 1000000 in
theorem nameEnd_any (s : ByteArray) (i : Nat) (w : World) (hz : s.size ≤ 140737488351232) (hi : i ≤ s.size) :
    Calls Tryd.prog 83 #[.string s, .int .i64 i] w fun e w' => e = .returned (.int .i64 (nameE s i)) ∧ w = w' := by
  have hbt := get_bt s
  obtain ⟨R, hR⟩ : ∃ R, R = nameE s i := ⟨_, rfl⟩
  have HR := hide_ hR
  rw [← hR]
  clear hR
  go_enter Tryd.func83, Tryd.ntmps83
  go_wp2
  go_loopw [1] (fun v wr => ∃ m : Nat, v = .int .i64 m ∧ m ≤ s.size ∧ Hid (R = nameE s m) ∧ w = wr) (fun v _ => s.size - (intOf v).toNat)
  case atStart => exact ⟨i, rfl, hi, HR, rfl⟩
  case round =>
    clear HR
    obtain ⟨m, rfl, hm, HR, rfl⟩ := hrel
    by_cases hlt : m < s.size
    · have hbm := bt_eq s m hlt
      have hb0 := bt_nonneg s m
      have hb1 := bt_le s m
      by_cases hl : lost s m
      · have HF := hide_ (runeAt_lost s m w (by omega) hlt hl)
        have HRM := hide_ (show R = m by
          rw [HR.out, nameE_stop]
          unfold cutR
          rw [if_pos hl]
          unfold namR letR digR
          simp
          omega)
        clear hl HR hbm
        go_wp2_with fail
        refine HF.out.mono ?_
        rintro e w2 ⟨rfl, rfl⟩
        go_wp2
        go_ret
        exact ⟨by rw [HRM.out]; rfl, by trivial⟩
      · have HF := hide_ (runeAt_found s m w (by omega) hlt hl)
        have hfit := cutN_fits s m hlt
        have hpos := cutN_pos s m
        have HGO := hide_ (fun h => (HR.out).trans (nameE_step s m hlt h))
        have HST := hide_ (fun h => (HR.out).trans (nameE_stop s m h))
        have hr0 : 0 ≤ cutR s m := by unfold cutR; rw [if_neg hl]; omega
        have hlow := cutR_low s m
        have hhigh := cutR_high s m
        obtain ⟨r, hr⟩ : ∃ r, r = cutR s m := ⟨_, rfl⟩
        obtain ⟨k, hk⟩ : ∃ k, k = cutN s m := ⟨_, rfl⟩
        rw [← hr] at HF HGO HST hr0 hlow hhigh
        rw [← hk] at HF HGO hfit hpos
        clear hr hk hl HR
        have hk0 : ((k : Int) == 0) = false := by simp; omega
        have hku : k ≤ 140737488351232 := by omega
        by_cases h192 : 192 ≤ r
        · have HG := hide_ (HGO.out (by unfold namR letR; simp; omega))
          have d1 : decide (r < 192) = false := decide_eq_false (by omega)
          clear HGO HST hlow hhigh hbm h192
          go_wp2_with fail
          refine HF.out.mono ?_
          rintro e w2 ⟨rfl, rfl⟩
          go_wp2
          go_roundw
          case rel => exact ⟨m + k, by go_num, hfit, HG, by trivial⟩
          case measure => simp [intOf]; omega
        have d1 : decide (r < 192) = true := decide_eq_true (by omega)
        have HPL := hide_ (fun W => rplain_any (bt s m) W)
        have HDG := hide_ (fun W => rdigit_any (bt s m) W)
        by_cases hpl : plainR (bt s m) = true
        · have HG := hide_ (HGO.out (by
            have : bn s m < 128 := by unfold plainR at hpl; simp at hpl; omega
            rw [hlow this, ← hbm]
            unfold plainR at hpl
            unfold namR letR
            simp at hpl ⊢
            omega))
          rw [hpl] at HPL
          clear HGO HST hlow hhigh hbm h192 hpl
          go_wp2_with fail
          refine HF.out.mono ?_
          rintro e w2 ⟨rfl, rfl⟩
          go_wp2_with fail
          refine (HPL.out _).mono ?_
          rintro e w2 ⟨rfl, rfl⟩
          go_wp2
          go_roundw
          case rel => exact ⟨m + k, by go_num, hfit, HG, by trivial⟩
          case measure => simp [intOf]; omega
        rw [Bool.not_eq_true] at hpl
        rw [hpl] at HPL
        by_cases hdg : digR (bt s m) = true
        · have HG := hide_ (HGO.out (by
            have : bn s m < 128 := by unfold digR at hdg; simp at hdg; omega
            rw [hlow this, ← hbm]
            unfold namR
            rw [hdg]
            simp))
          rw [hdg] at HDG
          clear HGO HST hlow hhigh hbm h192 hpl hdg
          go_wp2_with fail
          refine HF.out.mono ?_
          rintro e w2 ⟨rfl, rfl⟩
          go_wp2_with fail
          refine (HPL.out _).mono ?_
          rintro e w2 ⟨rfl, rfl⟩
          go_wp2_with fail
          refine (HDG.out _).mono ?_
          rintro e w2 ⟨rfl, rfl⟩
          go_wp2
          go_roundw
          case rel => exact ⟨m + k, by go_num, hfit, HG, by trivial⟩
          case measure => simp [intOf]; omega
        rw [Bool.not_eq_true] at hdg
        rw [hdg] at HDG
        by_cases h95 : bn s m = 95
        · have HG := hide_ (HGO.out (by
            rw [hlow (by omega), h95]
            rfl))
          have e95 : (bt s m != 95) = false := by rw [hbm]; simp; omega
          clear HGO HST hlow hhigh hbm h192 hpl hdg h95
          go_wp2_with fail
          refine HF.out.mono ?_
          rintro e w2 ⟨rfl, rfl⟩
          go_wp2_with fail
          refine (HPL.out _).mono ?_
          rintro e w2 ⟨rfl, rfl⟩
          go_wp2_with fail
          refine (HDG.out _).mono ?_
          rintro e w2 ⟨rfl, rfl⟩
          go_wp2
          go_roundw
          case rel => exact ⟨m + k, by go_num, hfit, HG, by trivial⟩
          case measure => simp [intOf]; omega
        · have HRM := hide_ (HST.out (by
            unfold namR letR digR
            unfold plainR at hpl
            unfold digR at hdg
            by_cases h128 : bn s m < 128
            · rw [hlow h128, ← hbm]
              simp at hpl hdg ⊢
              omega
            · have := hhigh (by omega)
              simp
              omega))
          have e95 : (bt s m != 95) = true := by rw [hbm]; simp; omega
          clear HGO HST hlow hhigh hbm h192 hpl hdg h95
          go_wp2_with fail
          refine HF.out.mono ?_
          rintro e w2 ⟨rfl, rfl⟩
          go_wp2_with fail
          refine (HPL.out _).mono ?_
          rintro e w2 ⟨rfl, rfl⟩
          go_wp2_with fail
          refine (HDG.out _).mono ?_
          rintro e w2 ⟨rfl, rfl⟩
          go_wp2
          go_ret
          exact ⟨by rw [HRM.out]; rfl, by trivial⟩
    · have HRM := hide_ (show R = m by rw [HR.out, nameE_ge s m (by omega)])
      clear HR
      go_wp2
      go_ret
      exact ⟨by rw [HRM.out]; rfl, by trivial⟩
end Go.Proofs.YtmbofpeedjlfhaaDoor
