/-
  The walk of mem's each of a segment whose log is off, once for each function that it is called with (written by gen_still.py).
-/
import Derived.Test.YtgppbdcnpailaaaMem
namespace Go.Proofs.Ytgppbdcnpailaaa
open Go.RowKit
set_option maxRecDepth 100000 in
set_option maxHeartbeats 1000000 in
theorem stays_load (g d N c n p1 p2 : Nat) (wrt : Bool) (a : Int) (Pk : Nat → World → Prop) (W : World) (h0 : Pk 0 W) (hN : IsPow N) (hn : n ≤ 4294967296)
    (hc : ∀ k W1, Pk k W1 → W1.cell? ⟨g, 0, none⟩ = some (.slice (some ⟨d, 0, none⟩) N c) ∧ W1.cell? ⟨g, 1, none⟩ = some (.bool false))
    (hdo : ∀ k, k < n → ∀ W1, Pk k W1 → Calls Try.prog 112 #[.int .i64 k, .int .u32 (plc N a k), .pointer (some ⟨p1, 0, none⟩), .pointer (some ⟨p2, 0, none⟩)] W1 fun e W' => e = .returned (.tuple #[]) ∧ Pk (k + 1) W') :
    Calls Try.prog 110 #[.pointer (some ⟨g, 0, none⟩), .int .u32 a, .int .i64 n, .bool wrt, .func (.func 112) #[] #[.pointer (some ⟨p1, 0, none⟩), .pointer (some ⟨p2, 0, none⟩)]] W fun e W' => e = .returned (.tuple #[]) ∧ Pk n W' := by
  have HDO := hide_ hdo
  have HN := hide_ hN
  have HC := hide_ hc
  have HP0 := hide_ h0
  clear hdo hN hc h0
  go_enter Try.func110, Try.ntmps110
  go_wp2
  go_loopw [13] (fun i wr => ∃ k : Nat, k ≤ n ∧ i = .int .i64 k ∧ Hid (Pk k wr)) (fun i _ => n - (intOf i).toNat)
  case atStart => exact ⟨0, Nat.zero_le _, rfl, HP0⟩
  case round =>
    clear HP0
    obtain ⟨k, hk, rfl, hO⟩ := hrel
    by_cases hlt : k < n
    · obtain ⟨c0, c1⟩ := HC.out k wr hO.out
      have hP := hide_ (place_any g d N c ((a + k) % 4294967296) wr c0 HN.out (by omega) (by omega))
      have hdo := HDO.out k hlt wr hO.out
      obtain ⟨p, hp⟩ : ∃ p, p = plc N a k := ⟨_, rfl⟩
      rw [show (a + (k : Int)) % 4294967296 % (N : Int) = plc N a k from rfl, ← hp] at hP
      rw [← hp] at hdo
      have HD := hide_ hdo
      clear hdo hp
      go_wp2_with (first
        | (go_at_call 114; refine (hP.out).mono ?_; rintro e w' ⟨rfl, rfl⟩)
        | (go_at_call 112; refine (HD.out).mono ?_; rintro e w2 ⟨rfl, hO2⟩))
      have HO2 := hide_ hO2
      clear hO2
      go_roundw
      case rel => exact ⟨k + 1, by omega, by go_num, HO2⟩
      case measure => simp [intOf]; omega
    · obtain rfl : k = n := by omega
      go_wp2
      go_end0
      exact ⟨rfl, hO.out⟩
set_option maxRecDepth 100000 in
set_option maxHeartbeats 1000000 in
theorem stays_store (g d N c n p1 p2 : Nat) (wrt : Bool) (a : Int) (Pk : Nat → World → Prop) (W : World) (h0 : Pk 0 W) (hN : IsPow N) (hn : n ≤ 4294967296)
    (hc : ∀ k W1, Pk k W1 → W1.cell? ⟨g, 0, none⟩ = some (.slice (some ⟨d, 0, none⟩) N c) ∧ W1.cell? ⟨g, 1, none⟩ = some (.bool false))
    (hdo : ∀ k, k < n → ∀ W1, Pk k W1 → Calls Try.prog 111 #[.int .i64 k, .int .u32 (plc N a k), .pointer (some ⟨p1, 0, none⟩), .pointer (some ⟨p2, 0, none⟩)] W1 fun e W' => e = .returned (.tuple #[]) ∧ Pk (k + 1) W') :
    Calls Try.prog 110 #[.pointer (some ⟨g, 0, none⟩), .int .u32 a, .int .i64 n, .bool wrt, .func (.func 111) #[] #[.pointer (some ⟨p1, 0, none⟩), .pointer (some ⟨p2, 0, none⟩)]] W fun e W' => e = .returned (.tuple #[]) ∧ Pk n W' := by
  have HDO := hide_ hdo
  have HN := hide_ hN
  have HC := hide_ hc
  have HP0 := hide_ h0
  clear hdo hN hc h0
  go_enter Try.func110, Try.ntmps110
  go_wp2
  go_loopw [13] (fun i wr => ∃ k : Nat, k ≤ n ∧ i = .int .i64 k ∧ Hid (Pk k wr)) (fun i _ => n - (intOf i).toNat)
  case atStart => exact ⟨0, Nat.zero_le _, rfl, HP0⟩
  case round =>
    clear HP0
    obtain ⟨k, hk, rfl, hO⟩ := hrel
    by_cases hlt : k < n
    · obtain ⟨c0, c1⟩ := HC.out k wr hO.out
      have hP := hide_ (place_any g d N c ((a + k) % 4294967296) wr c0 HN.out (by omega) (by omega))
      have hdo := HDO.out k hlt wr hO.out
      obtain ⟨p, hp⟩ : ∃ p, p = plc N a k := ⟨_, rfl⟩
      rw [show (a + (k : Int)) % 4294967296 % (N : Int) = plc N a k from rfl, ← hp] at hP
      rw [← hp] at hdo
      have HD := hide_ hdo
      clear hdo hp
      go_wp2_with (first
        | (go_at_call 114; refine (hP.out).mono ?_; rintro e w' ⟨rfl, rfl⟩)
        | (go_at_call 111; refine (HD.out).mono ?_; rintro e w2 ⟨rfl, hO2⟩))
      have HO2 := hide_ hO2
      clear hO2
      go_roundw
      case rel => exact ⟨k + 1, by omega, by go_num, HO2⟩
      case measure => simp [intOf]; omega
    · obtain rfl : k = n := by omega
      go_wp2
      go_end0
      exact ⟨rfl, hO.out⟩
set_option maxRecDepth 100000 in
set_option maxHeartbeats 1000000 in
theorem stays_write (g d N c n p1 p2 : Nat) (wrt : Bool) (a : Int) (Pk : Nat → World → Prop) (W : World) (h0 : Pk 0 W) (hN : IsPow N) (hn : n ≤ 4294967296)
    (hc : ∀ k W1, Pk k W1 → W1.cell? ⟨g, 0, none⟩ = some (.slice (some ⟨d, 0, none⟩) N c) ∧ W1.cell? ⟨g, 1, none⟩ = some (.bool false))
    (hdo : ∀ k, k < n → ∀ W1, Pk k W1 → Calls Try.prog 115 #[.int .i64 k, .int .u32 (plc N a k), .pointer (some ⟨p1, 0, none⟩), .pointer (some ⟨p2, 0, none⟩)] W1 fun e W' => e = .returned (.tuple #[]) ∧ Pk (k + 1) W') :
    Calls Try.prog 110 #[.pointer (some ⟨g, 0, none⟩), .int .u32 a, .int .i64 n, .bool wrt, .func (.func 115) #[] #[.pointer (some ⟨p1, 0, none⟩), .pointer (some ⟨p2, 0, none⟩)]] W fun e W' => e = .returned (.tuple #[]) ∧ Pk n W' := by
  have HDO := hide_ hdo
  have HN := hide_ hN
  have HC := hide_ hc
  have HP0 := hide_ h0
  clear hdo hN hc h0
  go_enter Try.func110, Try.ntmps110
  go_wp2
  go_loopw [13] (fun i wr => ∃ k : Nat, k ≤ n ∧ i = .int .i64 k ∧ Hid (Pk k wr)) (fun i _ => n - (intOf i).toNat)
  case atStart => exact ⟨0, Nat.zero_le _, rfl, HP0⟩
  case round =>
    clear HP0
    obtain ⟨k, hk, rfl, hO⟩ := hrel
    by_cases hlt : k < n
    · obtain ⟨c0, c1⟩ := HC.out k wr hO.out
      have hP := hide_ (place_any g d N c ((a + k) % 4294967296) wr c0 HN.out (by omega) (by omega))
      have hdo := HDO.out k hlt wr hO.out
      obtain ⟨p, hp⟩ : ∃ p, p = plc N a k := ⟨_, rfl⟩
      rw [show (a + (k : Int)) % 4294967296 % (N : Int) = plc N a k from rfl, ← hp] at hP
      rw [← hp] at hdo
      have HD := hide_ hdo
      clear hdo hp
      go_wp2_with (first
        | (go_at_call 114; refine (hP.out).mono ?_; rintro e w' ⟨rfl, rfl⟩)
        | (go_at_call 115; refine (HD.out).mono ?_; rintro e w2 ⟨rfl, hO2⟩))
      have HO2 := hide_ hO2
      clear hO2
      go_roundw
      case rel => exact ⟨k + 1, by omega, by go_num, HO2⟩
      case measure => simp [intOf]; omega
    · obtain rfl : k = n := by omega
      go_wp2
      go_end0
      exact ⟨rfl, hO.out⟩
end Go.Proofs.Ytgppbdcnpailaaa
