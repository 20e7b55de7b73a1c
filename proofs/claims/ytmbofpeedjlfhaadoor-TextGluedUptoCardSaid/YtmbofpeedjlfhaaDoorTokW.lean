/-
  The walks of between and awake, and of TextStands.
-/
import Derived.Test.YtmbofpeedjlfhaaDoorTokS
namespace Go.Proofs.YtmbofpeedjlfhaaDoor
open Go.RowKit Go.PlainAid
set_option linter.unusedVariables false
set_option maxRecDepth 100000

set_option maxHeartbeats 1000000 in
theorem between_any (s : ByteArray) (i k : Nat) (w : World) (hz : s.size ≤ 140737488351232) (hik : i ≤ k) (hk : k ≤ s.size) (hb : blank s i k = true) :
    Calls Tryd.prog 14 #[.string s, .int .i64 i, .int .i64 k] w fun e w' => e = .returned (.bool true) ∧ w' = w := by
  have hbt := get_bt s
  have HB := hide_ hb
  clear hb
  go_enter Tryd.func14, Tryd.ntmps14
  go_wp2
  go_loopw [1] (fun v wr => ∃ m : Nat, v = .int .i64 m ∧ m ≤ k ∧ Hid (blank s m k = true) ∧ w = wr) (fun v _ => k - (intOf v).toNat)
  case atStart => exact ⟨i, rfl, hik, HB, rfl⟩
  case round =>
    clear HB
    obtain ⟨m, rfl, hm, HB, rfl⟩ := hrel
    by_cases hlt : m < k
    · have hbm := bt_eq s m (by omega)
      by_cases h35 : bn s m = 35
      · have e35 : (bt s m == 35) = true := by rw [hbm]; simp; omega
        have h1 := HB.out
        rw [blank_note s m k hk hlt h35, Bool.and_eq_true, decide_eq_true_iff] at h1
        have hl := lineE_lt s m (by omega) h35
        have HL := hide_ (show lineF s (s.size - m) m = lineE s m from rfl)
        obtain ⟨q, hq⟩ : ∃ q, q = lineE s m := ⟨_, rfl⟩
        rw [← hq] at h1 hl HL
        have HQ := hide_ h1.2
        have hqk := h1.1
        clear h1 hq HB hbm h35
        go_wp2
        go_loopw [1] (fun v wr => ∃ j : Nat, v = .int .i64 j ∧ m ≤ j ∧ j ≤ q ∧ Hid (lineF s (s.size - j) j = q) ∧ w = wr) (fun v _ => k - (intOf v).toNat)
        case atStart => exact ⟨m, rfl, by omega, by omega, HL, rfl⟩
        case round =>
          clear HL
          obtain ⟨j, rfl, hj1, hj2, HJ, rfl⟩ := hrel
          by_cases hjk : j < k
          · have hbj := bt_eq s j (by omega)
            by_cases h10 : bn s j = 10
            · have e10 : (bt s j != 10) = false := by rw [hbj]; simp; omega
              have hjq : j = q := by
                have := HJ.out
                rw [show s.size - j = (s.size - (j + 1)) + 1 by omega, lineF, if_pos (by omega), if_pos h10] at this
                exact this
              subst hjq
              clear hbj h10
              go_wp2
              go_roundw
              case rel => exact ⟨j, rfl, by omega, HQ, by trivial⟩
              case measure => simp [intOf]; omega
            · have e10 : (bt s j != 10) = true := by rw [hbj]; simp; omega
              have HJ2 := hide_ (show lineF s (s.size - (j + 1)) (j + 1) = q by
                have := HJ.out
                rw [show s.size - j = (s.size - (j + 1)) + 1 by omega, lineF, if_pos (by omega), if_neg h10] at this
                exact this)
              have hjq : j + 1 ≤ q := by
                have := lineF_bd s (s.size - (j + 1)) (j + 1) (by omega)
                have := HJ2.out
                omega
              clear hbj h10 HJ
              go_wp2
              go_roundw
              case rel => exact ⟨j + 1, by go_num, by omega, by omega, HJ2, by trivial⟩
              case measure => simp [intOf]; omega
          · have hjq : j = q := by omega
            subst hjq
            go_wp2
            go_roundw
            case rel => exact ⟨j, rfl, by omega, HQ, by trivial⟩
            case measure => simp [intOf]; omega
      · have e35 : (bt s m == 35) = false := by rw [hbm]; simp; omega
        by_cases hsp : bn s m = 32 ∨ bn s m = 9 ∨ bn s m = 13
        · have HB2 := hide_ (show blank s (m + 1) k = true by rw [← blank_sp s m k hk hlt hsp]; exact HB.out)
          have hh : bt s m = 32 ∨ bt s m = 9 ∨ bt s m = 13 := by omega
          clear HB hsp hbm h35
          rcases hh with h | h | h
          all_goals
            go_wp2
            go_roundw
            case rel => exact ⟨m + 1, by go_num, by omega, HB2, by trivial⟩
            case measure => simp [intOf]; omega
        · exfalso
          have := HB.out
          rw [blank_no s m k hk hlt h35 hsp] at this
          cases this
    · go_wp2
      go_ret
      exact ⟨rfl, by trivial⟩
abbrev awText : ByteArray := ⟨#[97, 98, 32, 60, 61, 32, 55]⟩
abbrev awSigns : List ByteArray := [⟨#[60]⟩, ⟨#[60, 61]⟩]
theorem awake_toks : toksN awText awSigns = (some [(1, 0, 2), (5, 3, 5), (2, 6, 7)], 0, 0) := by decide +kernel
theorem awake_cells : tkCells awText [(1, 0, 2), (5, 3, 5), (2, 6, 7)] = [.int .u8 1, .int .i64 0, .string ⟨#[97, 98]⟩, .int .u8 5, .int .i64 3, .string ⟨#[60, 61]⟩, .int .u8 2, .int .i64 6, .string ⟨#[55]⟩] := by rfl
set_option maxHeartbeats 1000000 in
theorem awake_any (w : World) : Calls Tryd.prog 13 #[] w fun e w' => e = .returned (.bool true) ∧ Below w.heap.size w w' := by
  have HT := hide_ (show ∀ W1 : World, W1 = w.alloc (.cells #[.string ⟨#[60]⟩, .string ⟨#[60, 61]⟩] 9) → Calls Tryd.prog 9 #[.string awText, .slice (some ⟨w.heap.size, 0, none⟩) 2 2] W1 fun e w' => ∃ v, e = .returned (.tuple #[v, .int .i64 0, .int .i64 0]) ∧ w'.ownsRow W1.heap.size 36 3 v 3 [.int .u8 1, .int .i64 0, .string ⟨#[97, 98]⟩, .int .u8 5, .int .i64 3, .string ⟨#[60, 61]⟩, .int .u8 2, .int .i64 6, .string ⟨#[55]⟩] ∧ Below W1.heap.size W1 w' from fun W1 hW1 => by
    have h := tokens_any awText (some ⟨w.heap.size, 0, none⟩) 2 2 (w.heap.size + 1) awSigns W1 (by decide) (by decide) (by decide) (by rw [hW1]; exact reads_new w 9 1 2 [.string ⟨#[60]⟩, .string ⟨#[60, 61]⟩] rfl) (by rw [hW1]; simp)
    rw [awake_toks] at h
    unfold ToksIs at h
    simp only [Option.getD_some, awake_cells] at h
    exact h)
  go_enter Tryd.func13, Tryd.ntmps13
  go_wp2_with fail
  refine (HT.out _ rfl).mono ?_
  rintro e w2 ⟨v, rfl, hown, hb⟩
  obtain ⟨g, c, rfl⟩ := ownsRow_some hown (by decide)
  have HB := hide_ (show Below w.heap.size w w2 from ((Below.refl _ w).alloc (Nat.le_refl _) _).trans (hb.mono (by simp)))
  have hO := one_row (r := ⟨36, 3, .slice (some ⟨g, 0, none⟩) 3 c, 3, _⟩) hown
  have c0 := hO.cell (i := 0) (j := 0) rfl rfl
  have c1 := hO.cell (i := 0) (j := 1) rfl rfl
  have c2 := hO.cell (i := 0) (j := 2) rfl rfl
  have c3 := hO.cell (i := 0) (j := 3) rfl rfl
  have c4 := hO.cell (i := 0) (j := 4) rfl rfl
  have c5 := hO.cell (i := 0) (j := 5) rfl rfl
  have c6 := hO.cell (i := 0) (j := 6) rfl rfl
  have c7 := hO.cell (i := 0) (j := 7) rfl rfl
  have c8 := hO.cell (i := 0) (j := 8) rfl rfl
  have hg := (hO.base (i := 0) rfl).2
  clear hO hown hb HT
  go_wp2
  go_ret
  exact ⟨rfl, HB.out⟩
end Go.Proofs.YtmbofpeedjlfhaaDoor
