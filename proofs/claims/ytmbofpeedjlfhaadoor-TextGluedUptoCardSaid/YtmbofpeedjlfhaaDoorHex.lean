/-
  The walks of text.hex, text.number and of the document's hexDigit, hexes.
-/
import Derived.Test.YtmbofpeedjlfhaaDoorProg
import Derived.Test.YtmbofpeedjlfhaaDoorKit
import Derived.Test.YtmbofpeedjlfhaaDoorHexP
namespace Go.Proofs.YtmbofpeedjlfhaaDoor
set_option maxRecDepth 100000
open Go.RowKit Go.PlainAid

theorem i32_or16 (x y : Int) (hx : 0 ≤ x) (hx' : x < 16777216) (h0 : 0 ≤ y) (h1 : y < 16) : bits .or .i32 (x * 16) y = x * 16 + y := bits_join .i32 31 (by decide) wraps_i32 4 (x * 16) y (by omega) (by omega) (by omega) h0 (by omega) (by omega)
theorem hex_any (c : Int) (w : World) (h0 : 0 ≤ c) (h1 : c < 256) :
    Calls Tryd.prog 101 #[.int .u8 c] w fun e w' => e = .returned (.int .i32 (hexD c)) ∧ w = w' := by
  rcases (show c < 48 ∨ (48 ≤ c ∧ c ≤ 57) ∨ (57 < c ∧ c < 65) ∨ (65 ≤ c ∧ c ≤ 70) ∨ (70 < c ∧ c < 97) ∨ (97 ≤ c ∧ c ≤ 102) ∨ 102 < c by omega) with a | ⟨a, b⟩ | ⟨a, b⟩ | ⟨a, b⟩ | ⟨a, b⟩ | ⟨a, b⟩ | a
  · rw [show hexD c = -1 by unfold hexD; rw [if_neg (by omega), if_neg (by omega), if_neg (by omega)]]
    go_enter Tryd.func101, Tryd.ntmps101
    go_wp2
    go_ret
    exact ⟨rfl, rfl⟩
  · have p : (c - 48) % 256 = c - 48 := by omega
    rw [show hexD c = c - 48 by unfold hexD; rw [if_pos (by omega)]]
    go_enter Tryd.func101, Tryd.ntmps101
    go_wp2
    go_ret
    exact ⟨rfl, rfl⟩
  · rw [show hexD c = -1 by unfold hexD; rw [if_neg (by omega), if_neg (by omega), if_neg (by omega)]]
    go_enter Tryd.func101, Tryd.ntmps101
    go_wp2
    go_ret
    exact ⟨rfl, rfl⟩
  · have p : (c - 65) % 256 = c - 65 := by omega
    rw [show hexD c = c - 65 + 10 by unfold hexD; rw [if_neg (by omega), if_neg (by omega), if_pos (by omega)]; omega]
    go_enter Tryd.func101, Tryd.ntmps101
    go_wp2
    go_ret
    exact ⟨rfl, rfl⟩
  · rw [show hexD c = -1 by unfold hexD; rw [if_neg (by omega), if_neg (by omega), if_neg (by omega)]]
    go_enter Tryd.func101, Tryd.ntmps101
    go_wp2
    go_ret
    exact ⟨rfl, rfl⟩
  · have p : (c - 97) % 256 = c - 97 := by omega
    rw [show hexD c = c - 97 + 10 by unfold hexD; rw [if_neg (by omega), if_pos (by omega)]; omega]
    go_enter Tryd.func101, Tryd.ntmps101
    go_wp2
    go_ret
    exact ⟨rfl, rfl⟩
  · rw [show hexD c = -1 by unfold hexD; rw [if_neg (by omega), if_neg (by omega), if_neg (by omega)]]
    go_enter Tryd.func101, Tryd.ntmps101
    go_wp2
    go_ret
    exact ⟨rfl, rfl⟩
theorem hexDigit_any (c : Int) (w : World) (h0 : 0 ≤ c) (h1 : c < 256) :
    Calls Tryd.prog 111 #[.int .u8 c] w fun e w' => e = .returned (.int .i32 (hexD c)) ∧ w = w' := by
  rcases (show c < 48 ∨ (48 ≤ c ∧ c ≤ 57) ∨ (57 < c ∧ c < 65) ∨ (65 ≤ c ∧ c ≤ 70) ∨ (70 < c ∧ c < 97) ∨ (97 ≤ c ∧ c ≤ 102) ∨ 102 < c by omega) with a | ⟨a, b⟩ | ⟨a, b⟩ | ⟨a, b⟩ | ⟨a, b⟩ | ⟨a, b⟩ | a
  · rw [show hexD c = -1 by unfold hexD; rw [if_neg (by omega), if_neg (by omega), if_neg (by omega)]]
    go_enter Tryd.func111, Tryd.ntmps111
    go_wp2
    go_ret
    exact ⟨rfl, rfl⟩
  · rw [show hexD c = c - 48 by unfold hexD; rw [if_pos (by omega)]]
    go_enter Tryd.func111, Tryd.ntmps111
    go_wp2
    go_ret
    exact ⟨rfl, rfl⟩
  · rw [show hexD c = -1 by unfold hexD; rw [if_neg (by omega), if_neg (by omega), if_neg (by omega)]]
    go_enter Tryd.func111, Tryd.ntmps111
    go_wp2
    go_ret
    exact ⟨rfl, rfl⟩
  · rw [show hexD c = c - 55 by unfold hexD; rw [if_neg (by omega), if_neg (by omega), if_pos (by omega)]]
    go_enter Tryd.func111, Tryd.ntmps111
    go_wp2
    go_ret
    exact ⟨rfl, rfl⟩
  · rw [show hexD c = -1 by unfold hexD; rw [if_neg (by omega), if_neg (by omega), if_neg (by omega)]]
    go_enter Tryd.func111, Tryd.ntmps111
    go_wp2
    go_ret
    exact ⟨rfl, rfl⟩
  · rw [show hexD c = c - 87 by unfold hexD; rw [if_neg (by omega), if_pos (by omega)]]
    go_enter Tryd.func111, Tryd.ntmps111
    go_wp2
    go_ret
    exact ⟨rfl, rfl⟩
  · rw [show hexD c = -1 by unfold hexD; rw [if_neg (by omega), if_neg (by omega), if_neg (by omega)]]
    go_enter Tryd.func111, Tryd.ntmps111
    go_wp2
    go_ret
    exact ⟨rfl, rfl⟩
theorem hexN_16 (s : ByteArray) (i n : Nat) (hn : n ≤ 4) : hexN s i n < 65536 := by
  have h := (hexN_bd s i n).2
  have : (16 : Int) ^ n ≤ 16 ^ 4 := by exact_mod_cast Nat.pow_le_pow_right (by decide) hn
  omega

set_option maxHeartbeats 400000 in
/-- text.number: n digits at the head of a text -/
theorem number_any (t : ByteArray) (n : Nat) (w : World) (hn : n ≤ 4) :
    Calls Tryd.prog 90 #[.string t, .int .i64 n] w fun e w' => ((hexW t 0 n < 0 ∧ e = .returned (.tuple #[.int .i32 0, .bool false])) ∨ (0 ≤ hexW t 0 n ∧ e = .returned (.tuple #[.int .i32 (hexW t 0 n), .bool true]))) ∧ w = w' := by
  by_cases hs : t.size < n
  · have hW : hexW t 0 n = -1 := by unfold hexW; rw [if_neg (by omega)]
    rw [hW]
    go_enter Tryd.func90, Tryd.ntmps90
    go_wp2
    go_ret2
    exact ⟨.inl ⟨by decide, rfl⟩, rfl⟩
  · have hW : hexW t 0 n = hexN t 0 n := by unfold hexW; rw [if_pos (by omega)]
    have HW := hide_ hW
    clear hW
    go_enter Tryd.func90, Tryd.ntmps90
    go_wp2
    go_loopw [6, 14] (fun x i wr => ∃ k : Nat, k ≤ n ∧ i = .int .i64 k ∧ x = .int .i32 (hexN t 0 k) ∧ 0 ≤ hexN t 0 k ∧ wr = w) (fun _ i _ => n - (intOf i).toNat)
    case atStart => exact ⟨0, Nat.zero_le _, rfl, rfl, Int.le_refl _, rfl⟩
    case round =>
      obtain ⟨k, hk, rfl, rfl, hx, rfl⟩ := hrel
      by_cases hlt : k < n
      · have hbt := get_bt t
        have hb0 := bt_nonneg t k
        have hb1 := bt_le t k
        have hbe := bt_eq t k (by omega)
        have hbd := hexD_bd (bt t k)
        have h16 := hexN_16 t 0 k (by omega)
        obtain ⟨d, hd⟩ : ∃ d, d = hexD (bt t k) := ⟨_, rfl⟩
        have hcall := fun W => hex_any (bt t k) W (by omega) (by omega)
        simp only [← hd] at hcall hbd
        have HB := hide_ (show hexD (bn t (0 + k)) = d by rw [hd, hbe, Nat.zero_add])
        have HN := hide_ (hexN_bad t 0 k n)
        have HS := hide_ (hexN_step t 0 k)
        obtain ⟨x, hxx⟩ : ∃ x, x = hexN t 0 k := ⟨_, rfl⟩
        have HX := hide_ hxx
        rw [← hxx] at hx h16 ⊢
        have HCALL := hide_ hcall
        clear hcall hd hbe hxx
        by_cases hneg : d < 0
        · go_wp2_with (go_at_call 101; refine (HCALL.out _).mono ?_; rintro e w' ⟨rfl, rfl⟩)
          go_ret2
          have : hexW t 0 n = -1 := by rw [HW.out]; exact HN.out (by rw [HB.out]; exact hneg) hlt
          rw [this]
          exact ⟨.inl ⟨by decide, rfl⟩, rfl⟩
        · have ho := i32_or16 x d hx (by omega) (by omega) (by omega)
          go_wp2_with (go_at_call 101; refine (HCALL.out _).mono ?_; rintro e w' ⟨rfl, rfl⟩)
          go_roundw
          case rel =>
            refine ⟨k + 1, by omega, by go_num, ?_, ?_, by trivial⟩
            · rw [HS.out (by rw [← HX.out]; exact hx) (by rw [HB.out]; omega), HB.out, ← HX.out]
            · rw [HS.out (by rw [← HX.out]; exact hx) (by rw [HB.out]; omega), HB.out, ← HX.out]; omega
          case measure => simp [intOf]; omega
      · obtain rfl : k = n := by omega
        go_wp2
        go_ret2
        rw [HW.out]
        exact ⟨.inr ⟨hx, rfl⟩, rfl⟩
set_option maxHeartbeats 400000 in
/-- the document's: n digits at a place -/
theorem hexes_any (t : ByteArray) (i n : Nat) (w : World) (hn : n ≤ 4) (hi : i ≤ t.size) (hz : t.size ≤ 1152921504606846976) :
    Calls Tryd.prog 109 #[.string t, .int .i64 i, .int .i64 n] w fun e w' => e = .returned (.int .i32 (hexW t i n)) ∧ w = w' := by
  by_cases hs : t.size < i + n
  · have hW : hexW t i n = -1 := by unfold hexW; rw [if_neg (by omega)]
    rw [hW]
    go_enter Tryd.func109, Tryd.ntmps109
    go_wp2
    go_ret
    exact ⟨rfl, rfl⟩
  · have hW : hexW t i n = hexN t i n := by unfold hexW; rw [if_pos (by omega)]
    have HW := hide_ hW
    clear hW
    go_enter Tryd.func109, Tryd.ntmps109
    go_wp2
    go_loopw [7, 8] (fun x j wr => ∃ k : Nat, k ≤ n ∧ j = .int .i64 k ∧ x = .int .i32 (hexN t i k) ∧ 0 ≤ hexN t i k ∧ wr = w) (fun _ j _ => n - (intOf j).toNat)
    case atStart => exact ⟨0, Nat.zero_le _, rfl, rfl, Int.le_refl _, rfl⟩
    case round =>
      obtain ⟨k, hk, rfl, rfl, hx, rfl⟩ := hrel
      by_cases hlt : k < n
      · have hbt := get_bt t
        have hb0 := bt_nonneg t (i + k)
        have hb1 := bt_le t (i + k)
        have hbe := bt_eq t (i + k) (by omega)
        have hbd := hexD_bd (bt t (i + k))
        have h16 := hexN_16 t i k (by omega)
        obtain ⟨d, hd⟩ : ∃ d, d = hexD (bt t (i + k)) := ⟨_, rfl⟩
        have hcall := fun W => hexDigit_any (bt t (i + k)) W (by omega) (by omega)
        simp only [← hd] at hcall hbd
        have HB := hide_ (show hexD (bn t (i + k)) = d by rw [hd, hbe])
        have HN := hide_ (hexN_bad t i k n)
        have HS := hide_ (hexN_step t i k)
        obtain ⟨x, hxx⟩ : ∃ x, x = hexN t i k := ⟨_, rfl⟩
        have HX := hide_ hxx
        rw [← hxx] at hx h16 ⊢
        have HCALL := hide_ hcall
        clear hcall hd hbe hxx
        by_cases hneg : d < 0
        · go_wp2_with (go_at_call 111; refine (HCALL.out _).mono ?_; rintro e w' ⟨rfl, rfl⟩)
          go_ret
          have : hexW t i n = -1 := by rw [HW.out]; exact HN.out (by rw [HB.out]; exact hneg) hlt
          rw [this]
          exact ⟨rfl, rfl⟩
        · go_wp2_with (go_at_call 111; refine (HCALL.out _).mono ?_; rintro e w' ⟨rfl, rfl⟩)
          go_roundw
          case rel =>
            refine ⟨k + 1, by omega, by go_num, ?_, ?_, by trivial⟩
            · rw [HS.out (by rw [← HX.out]; exact hx) (by rw [HB.out]; omega), HB.out, ← HX.out]
            · rw [HS.out (by rw [← HX.out]; exact hx) (by rw [HB.out]; omega), HB.out, ← HX.out]; omega
          case measure => simp [intOf]; omega
      · obtain rfl : k = n := by omega
        go_wp2
        go_ret
        rw [HW.out]
        exact ⟨rfl, rfl⟩
end Go.Proofs.YtmbofpeedjlfhaaDoor
