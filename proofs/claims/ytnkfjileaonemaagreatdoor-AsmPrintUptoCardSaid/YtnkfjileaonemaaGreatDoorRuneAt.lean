/-
  The walk of playpenref01.runeAt: the rune whose code begins at a place.
-/
import Derived.Test.YtnkfjileaonemaaGreatDoorProg
import Derived.Test.YtnkfjileaonemaaGreatDoorKit
import Derived.WalkSpells
import Derived.WalkLawsBesides
namespace Go.Proofs.YtnkfjileaonemaaGreatDoor
open Go.RowKit Go.PlainAid
set_option linter.unusedVariables false

def RaIs (s : ByteArray) (i : Nat) (r n : Int) (w : World) : Prop :=
  Calls Tryz.prog 94 #[.string s, .int .i64 i] w fun e w' => e = .returned (.tuple #[.int .i32 r, .int .i64 n]) ∧ w = w'

set_option maxRecDepth 100000 in
set_option maxHeartbeats 1000000 in
theorem ra_ascii (s : ByteArray) (i : Nat) (w : World) (hz : s.size ≤ 9223372036854775800) (hi : i < s.size) (h1 : bt s i < 128) : RaIs s i (bt s i) 1 w := by
  have hb := get_bt s
  have l0 := bt_nonneg s i
  have u0 := bt_le s i
  have l1 := bt_nonneg s (i + 1)
  have u1 := bt_le s (i + 1)
  have l2 := bt_nonneg s (i + 2)
  have u2 := bt_le s (i + 2)
  have l3 := bt_nonneg s (i + 3)
  have u3 := bt_le s (i + 3)
  unfold RaIs
  go_enter Tryz.func94, Tryz.ntmps94
  go_wp2
  go_ret2
  exact ⟨rfl, rfl⟩

set_option maxRecDepth 100000 in
set_option maxHeartbeats 1000000 in
theorem ra_cont (s : ByteArray) (i : Nat) (w : World) (hz : s.size ≤ 9223372036854775800) (hi : i < s.size) (h1 : 128 ≤ bt s i) (h2 : bt s i < 192) : RaIs s i 0 0 w := by
  have hb := get_bt s
  have l0 := bt_nonneg s i
  have u0 := bt_le s i
  have l1 := bt_nonneg s (i + 1)
  have u1 := bt_le s (i + 1)
  have l2 := bt_nonneg s (i + 2)
  have u2 := bt_le s (i + 2)
  have l3 := bt_nonneg s (i + 3)
  have u3 := bt_le s (i + 3)
  unfold RaIs
  go_enter Tryz.func94, Tryz.ntmps94
  go_wp2
  go_ret2
  exact ⟨rfl, rfl⟩

set_option maxRecDepth 100000 in
set_option maxHeartbeats 1000000 in
theorem ra_high (s : ByteArray) (i : Nat) (w : World) (hz : s.size ≤ 9223372036854775800) (hi : i < s.size) (h1 : 248 ≤ bt s i) : RaIs s i 0 0 w := by
  have hb := get_bt s
  have l0 := bt_nonneg s i
  have u0 := bt_le s i
  have l1 := bt_nonneg s (i + 1)
  have u1 := bt_le s (i + 1)
  have l2 := bt_nonneg s (i + 2)
  have u2 := bt_le s (i + 2)
  have l3 := bt_nonneg s (i + 3)
  have u3 := bt_le s (i + 3)
  unfold RaIs
  go_enter Tryz.func94, Tryz.ntmps94
  go_wp2
  go_ret2
  exact ⟨rfl, rfl⟩

set_option maxRecDepth 100000 in
set_option maxHeartbeats 1000000 in
theorem ra2_short (s : ByteArray) (i : Nat) (w : World) (hz : s.size ≤ 9223372036854775800) (hi : i < s.size) (h1 : 192 ≤ bt s i) (h2 : bt s i < 224) (h3 : s.size < i + 2) : RaIs s i 0 0 w := by
  have hb := get_bt s
  have l0 := bt_nonneg s i
  have u0 := bt_le s i
  have l1 := bt_nonneg s (i + 1)
  have u1 := bt_le s (i + 1)
  have l2 := bt_nonneg s (i + 2)
  have u2 := bt_le s (i + 2)
  have l3 := bt_nonneg s (i + 3)
  have u3 := bt_le s (i + 3)
  unfold RaIs
  go_enter Tryz.func94, Tryz.ntmps94
  go_wp2
  go_ret2
  exact ⟨rfl, rfl⟩

set_option maxRecDepth 100000 in
set_option maxHeartbeats 1000000 in
theorem ra2_lo1 (s : ByteArray) (i : Nat) (w : World) (hz : s.size ≤ 9223372036854775800) (hi : i < s.size) (h1 : 192 ≤ bt s i) (h2 : bt s i < 224) (h3 : i + 2 ≤ s.size) (b1 : bt s (i + 1) < 128) : RaIs s i 0 0 w := by
  have hb := get_bt s
  have l0 := bt_nonneg s i
  have u0 := bt_le s i
  have l1 := bt_nonneg s (i + 1)
  have u1 := bt_le s (i + 1)
  have l2 := bt_nonneg s (i + 2)
  have u2 := bt_le s (i + 2)
  have l3 := bt_nonneg s (i + 3)
  have u3 := bt_le s (i + 3)
  unfold RaIs
  go_enter Tryz.func94, Tryz.ntmps94
  go_wp2
  refine wp_loop_rounds 1 ?_
  rw [rounds_succ]
  go_wp2
  go_ret2
  exact ⟨rfl, rfl⟩

set_option maxRecDepth 100000 in
set_option maxHeartbeats 1000000 in
theorem ra2_hi1 (s : ByteArray) (i : Nat) (w : World) (hz : s.size ≤ 9223372036854775800) (hi : i < s.size) (h1 : 192 ≤ bt s i) (h2 : bt s i < 224) (h3 : i + 2 ≤ s.size) (b1 : 191 < bt s (i + 1)) : RaIs s i 0 0 w := by
  have hb := get_bt s
  have l0 := bt_nonneg s i
  have u0 := bt_le s i
  have l1 := bt_nonneg s (i + 1)
  have u1 := bt_le s (i + 1)
  have l2 := bt_nonneg s (i + 2)
  have u2 := bt_le s (i + 2)
  have l3 := bt_nonneg s (i + 3)
  have u3 := bt_le s (i + 3)
  unfold RaIs
  go_enter Tryz.func94, Tryz.ntmps94
  go_wp2
  refine wp_loop_rounds 1 ?_
  rw [rounds_succ]
  go_wp2
  go_ret2
  exact ⟨rfl, rfl⟩

set_option maxRecDepth 100000 in
set_option maxHeartbeats 1000000 in
theorem ra2_least (s : ByteArray) (i : Nat) (w : World) (hz : s.size ≤ 9223372036854775800) (hi : i < s.size) (h1 : 192 ≤ bt s i) (h2 : bt s i < 224) (h3 : i + 2 ≤ s.size) (c1 : 128 ≤ bt s (i + 1)) (d1 : bt s (i + 1) ≤ 191) (e1 : ((bt s i - 192) * 64 + bt s (i + 1) - 128) < 128) : RaIs s i 0 0 w := by
  have hb := get_bt s
  have l0 := bt_nonneg s i
  have u0 := bt_le s i
  have l1 := bt_nonneg s (i + 1)
  have u1 := bt_le s (i + 1)
  have l2 := bt_nonneg s (i + 2)
  have u2 := bt_le s (i + 2)
  have l3 := bt_nonneg s (i + 3)
  have u3 := bt_le s (i + 3)
  unfold RaIs
  go_enter Tryz.func94, Tryz.ntmps94
  go_wp2
  refine wp_loop_rounds 2 ?_
  rw [rounds_succ]
  go_wp2
  rw [rounds_succ]
  go_wp2
  go_ret2
  exact ⟨rfl, rfl⟩

set_option maxRecDepth 100000 in
set_option maxHeartbeats 1000000 in
theorem ra2_ok (s : ByteArray) (i : Nat) (w : World) (hz : s.size ≤ 9223372036854775800) (hi : i < s.size) (h1 : 192 ≤ bt s i) (h2 : bt s i < 224) (h3 : i + 2 ≤ s.size) (c1 : 128 ≤ bt s (i + 1)) (d1 : bt s (i + 1) ≤ 191) (e1 : 128 ≤ ((bt s i - 192) * 64 + bt s (i + 1) - 128)) : RaIs s i ((bt s i - 192) * 64 + bt s (i + 1) - 128) 2 w := by
  have hb := get_bt s
  have l0 := bt_nonneg s i
  have u0 := bt_le s i
  have l1 := bt_nonneg s (i + 1)
  have u1 := bt_le s (i + 1)
  have l2 := bt_nonneg s (i + 2)
  have u2 := bt_le s (i + 2)
  have l3 := bt_nonneg s (i + 3)
  have u3 := bt_le s (i + 3)
  unfold RaIs
  go_enter Tryz.func94, Tryz.ntmps94
  go_wp2
  refine wp_loop_rounds 2 ?_
  rw [rounds_succ]
  go_wp2
  rw [rounds_succ]
  go_wp2
  go_ret2
  exact ⟨rfl, rfl⟩

set_option maxRecDepth 100000 in
set_option maxHeartbeats 1000000 in
theorem ra3_short (s : ByteArray) (i : Nat) (w : World) (hz : s.size ≤ 9223372036854775800) (hi : i < s.size) (h1 : 224 ≤ bt s i) (h2 : bt s i < 240) (h3 : s.size < i + 3) : RaIs s i 0 0 w := by
  have hb := get_bt s
  have l0 := bt_nonneg s i
  have u0 := bt_le s i
  have l1 := bt_nonneg s (i + 1)
  have u1 := bt_le s (i + 1)
  have l2 := bt_nonneg s (i + 2)
  have u2 := bt_le s (i + 2)
  have l3 := bt_nonneg s (i + 3)
  have u3 := bt_le s (i + 3)
  unfold RaIs
  go_enter Tryz.func94, Tryz.ntmps94
  go_wp2
  go_ret2
  exact ⟨rfl, rfl⟩

set_option maxRecDepth 100000 in
set_option maxHeartbeats 1000000 in
theorem ra3_lo1 (s : ByteArray) (i : Nat) (w : World) (hz : s.size ≤ 9223372036854775800) (hi : i < s.size) (h1 : 224 ≤ bt s i) (h2 : bt s i < 240) (h3 : i + 3 ≤ s.size) (b1 : bt s (i + 1) < 128) : RaIs s i 0 0 w := by
  have hb := get_bt s
  have l0 := bt_nonneg s i
  have u0 := bt_le s i
  have l1 := bt_nonneg s (i + 1)
  have u1 := bt_le s (i + 1)
  have l2 := bt_nonneg s (i + 2)
  have u2 := bt_le s (i + 2)
  have l3 := bt_nonneg s (i + 3)
  have u3 := bt_le s (i + 3)
  unfold RaIs
  go_enter Tryz.func94, Tryz.ntmps94
  go_wp2
  refine wp_loop_rounds 1 ?_
  rw [rounds_succ]
  go_wp2
  go_ret2
  exact ⟨rfl, rfl⟩

set_option maxRecDepth 100000 in
set_option maxHeartbeats 1000000 in
theorem ra3_hi1 (s : ByteArray) (i : Nat) (w : World) (hz : s.size ≤ 9223372036854775800) (hi : i < s.size) (h1 : 224 ≤ bt s i) (h2 : bt s i < 240) (h3 : i + 3 ≤ s.size) (b1 : 191 < bt s (i + 1)) : RaIs s i 0 0 w := by
  have hb := get_bt s
  have l0 := bt_nonneg s i
  have u0 := bt_le s i
  have l1 := bt_nonneg s (i + 1)
  have u1 := bt_le s (i + 1)
  have l2 := bt_nonneg s (i + 2)
  have u2 := bt_le s (i + 2)
  have l3 := bt_nonneg s (i + 3)
  have u3 := bt_le s (i + 3)
  unfold RaIs
  go_enter Tryz.func94, Tryz.ntmps94
  go_wp2
  refine wp_loop_rounds 1 ?_
  rw [rounds_succ]
  go_wp2
  go_ret2
  exact ⟨rfl, rfl⟩

set_option maxRecDepth 100000 in
set_option maxHeartbeats 1000000 in
theorem ra3_lo2 (s : ByteArray) (i : Nat) (w : World) (hz : s.size ≤ 9223372036854775800) (hi : i < s.size) (h1 : 224 ≤ bt s i) (h2 : bt s i < 240) (h3 : i + 3 ≤ s.size) (c1 : 128 ≤ bt s (i + 1)) (d1 : bt s (i + 1) ≤ 191) (b2 : bt s (i + 2) < 128) : RaIs s i 0 0 w := by
  have hb := get_bt s
  have l0 := bt_nonneg s i
  have u0 := bt_le s i
  have l1 := bt_nonneg s (i + 1)
  have u1 := bt_le s (i + 1)
  have l2 := bt_nonneg s (i + 2)
  have u2 := bt_le s (i + 2)
  have l3 := bt_nonneg s (i + 3)
  have u3 := bt_le s (i + 3)
  unfold RaIs
  go_enter Tryz.func94, Tryz.ntmps94
  go_wp2
  refine wp_loop_rounds 2 ?_
  rw [rounds_succ]
  go_wp2
  rw [rounds_succ]
  go_wp2
  go_ret2
  exact ⟨rfl, rfl⟩

set_option maxRecDepth 100000 in
set_option maxHeartbeats 1000000 in
theorem ra3_hi2 (s : ByteArray) (i : Nat) (w : World) (hz : s.size ≤ 9223372036854775800) (hi : i < s.size) (h1 : 224 ≤ bt s i) (h2 : bt s i < 240) (h3 : i + 3 ≤ s.size) (c1 : 128 ≤ bt s (i + 1)) (d1 : bt s (i + 1) ≤ 191) (b2 : 191 < bt s (i + 2)) : RaIs s i 0 0 w := by
  have hb := get_bt s
  have l0 := bt_nonneg s i
  have u0 := bt_le s i
  have l1 := bt_nonneg s (i + 1)
  have u1 := bt_le s (i + 1)
  have l2 := bt_nonneg s (i + 2)
  have u2 := bt_le s (i + 2)
  have l3 := bt_nonneg s (i + 3)
  have u3 := bt_le s (i + 3)
  unfold RaIs
  go_enter Tryz.func94, Tryz.ntmps94
  go_wp2
  refine wp_loop_rounds 2 ?_
  rw [rounds_succ]
  go_wp2
  rw [rounds_succ]
  go_wp2
  go_ret2
  exact ⟨rfl, rfl⟩

set_option maxRecDepth 100000 in
set_option maxHeartbeats 1000000 in
theorem ra3_least (s : ByteArray) (i : Nat) (w : World) (hz : s.size ≤ 9223372036854775800) (hi : i < s.size) (h1 : 224 ≤ bt s i) (h2 : bt s i < 240) (h3 : i + 3 ≤ s.size) (c1 : 128 ≤ bt s (i + 1)) (d1 : bt s (i + 1) ≤ 191) (c2 : 128 ≤ bt s (i + 2)) (d2 : bt s (i + 2) ≤ 191) (e1 : (((bt s i - 224) * 64 + bt s (i + 1) - 128) * 64 + bt s (i + 2) - 128) < 2048) : RaIs s i 0 0 w := by
  have hb := get_bt s
  have l0 := bt_nonneg s i
  have u0 := bt_le s i
  have l1 := bt_nonneg s (i + 1)
  have u1 := bt_le s (i + 1)
  have l2 := bt_nonneg s (i + 2)
  have u2 := bt_le s (i + 2)
  have l3 := bt_nonneg s (i + 3)
  have u3 := bt_le s (i + 3)
  unfold RaIs
  go_enter Tryz.func94, Tryz.ntmps94
  go_wp2
  refine wp_loop_rounds 3 ?_
  rw [rounds_succ]
  go_wp2
  rw [rounds_succ]
  go_wp2
  rw [rounds_succ]
  go_wp2
  go_ret2
  exact ⟨rfl, rfl⟩

set_option maxRecDepth 100000 in
set_option maxHeartbeats 1000000 in
theorem ra3_sur (s : ByteArray) (i : Nat) (w : World) (hz : s.size ≤ 9223372036854775800) (hi : i < s.size) (h1 : 224 ≤ bt s i) (h2 : bt s i < 240) (h3 : i + 3 ≤ s.size) (c1 : 128 ≤ bt s (i + 1)) (d1 : bt s (i + 1) ≤ 191) (c2 : 128 ≤ bt s (i + 2)) (d2 : bt s (i + 2) ≤ 191) (e1 : 55296 ≤ (((bt s i - 224) * 64 + bt s (i + 1) - 128) * 64 + bt s (i + 2) - 128)) (e2 : (((bt s i - 224) * 64 + bt s (i + 1) - 128) * 64 + bt s (i + 2) - 128) ≤ 57343) : RaIs s i 0 0 w := by
  have hb := get_bt s
  have l0 := bt_nonneg s i
  have u0 := bt_le s i
  have l1 := bt_nonneg s (i + 1)
  have u1 := bt_le s (i + 1)
  have l2 := bt_nonneg s (i + 2)
  have u2 := bt_le s (i + 2)
  have l3 := bt_nonneg s (i + 3)
  have u3 := bt_le s (i + 3)
  unfold RaIs
  go_enter Tryz.func94, Tryz.ntmps94
  go_wp2
  refine wp_loop_rounds 3 ?_
  rw [rounds_succ]
  go_wp2
  rw [rounds_succ]
  go_wp2
  rw [rounds_succ]
  go_wp2
  go_ret2
  exact ⟨rfl, rfl⟩

set_option maxRecDepth 100000 in
set_option maxHeartbeats 1000000 in
theorem ra3_ok1 (s : ByteArray) (i : Nat) (w : World) (hz : s.size ≤ 9223372036854775800) (hi : i < s.size) (h1 : 224 ≤ bt s i) (h2 : bt s i < 240) (h3 : i + 3 ≤ s.size) (c1 : 128 ≤ bt s (i + 1)) (d1 : bt s (i + 1) ≤ 191) (c2 : 128 ≤ bt s (i + 2)) (d2 : bt s (i + 2) ≤ 191) (e1 : 2048 ≤ (((bt s i - 224) * 64 + bt s (i + 1) - 128) * 64 + bt s (i + 2) - 128)) (e2 : (((bt s i - 224) * 64 + bt s (i + 1) - 128) * 64 + bt s (i + 2) - 128) < 55296) : RaIs s i (((bt s i - 224) * 64 + bt s (i + 1) - 128) * 64 + bt s (i + 2) - 128) 3 w := by
  have hb := get_bt s
  have l0 := bt_nonneg s i
  have u0 := bt_le s i
  have l1 := bt_nonneg s (i + 1)
  have u1 := bt_le s (i + 1)
  have l2 := bt_nonneg s (i + 2)
  have u2 := bt_le s (i + 2)
  have l3 := bt_nonneg s (i + 3)
  have u3 := bt_le s (i + 3)
  unfold RaIs
  go_enter Tryz.func94, Tryz.ntmps94
  go_wp2
  refine wp_loop_rounds 3 ?_
  rw [rounds_succ]
  go_wp2
  rw [rounds_succ]
  go_wp2
  rw [rounds_succ]
  go_wp2
  go_ret2
  exact ⟨rfl, rfl⟩

set_option maxRecDepth 100000 in
set_option maxHeartbeats 1000000 in
theorem ra3_ok2 (s : ByteArray) (i : Nat) (w : World) (hz : s.size ≤ 9223372036854775800) (hi : i < s.size) (h1 : 224 ≤ bt s i) (h2 : bt s i < 240) (h3 : i + 3 ≤ s.size) (c1 : 128 ≤ bt s (i + 1)) (d1 : bt s (i + 1) ≤ 191) (c2 : 128 ≤ bt s (i + 2)) (d2 : bt s (i + 2) ≤ 191) (e1 : 57343 < (((bt s i - 224) * 64 + bt s (i + 1) - 128) * 64 + bt s (i + 2) - 128)) : RaIs s i (((bt s i - 224) * 64 + bt s (i + 1) - 128) * 64 + bt s (i + 2) - 128) 3 w := by
  have hb := get_bt s
  have l0 := bt_nonneg s i
  have u0 := bt_le s i
  have l1 := bt_nonneg s (i + 1)
  have u1 := bt_le s (i + 1)
  have l2 := bt_nonneg s (i + 2)
  have u2 := bt_le s (i + 2)
  have l3 := bt_nonneg s (i + 3)
  have u3 := bt_le s (i + 3)
  unfold RaIs
  go_enter Tryz.func94, Tryz.ntmps94
  go_wp2
  refine wp_loop_rounds 3 ?_
  rw [rounds_succ]
  go_wp2
  rw [rounds_succ]
  go_wp2
  rw [rounds_succ]
  go_wp2
  go_ret2
  exact ⟨rfl, rfl⟩

set_option maxRecDepth 100000 in
set_option maxHeartbeats 1000000 in
theorem ra4_short (s : ByteArray) (i : Nat) (w : World) (hz : s.size ≤ 9223372036854775800) (hi : i < s.size) (h1 : 240 ≤ bt s i) (h2 : bt s i < 248) (h3 : s.size < i + 4) : RaIs s i 0 0 w := by
  have hb := get_bt s
  have l0 := bt_nonneg s i
  have u0 := bt_le s i
  have l1 := bt_nonneg s (i + 1)
  have u1 := bt_le s (i + 1)
  have l2 := bt_nonneg s (i + 2)
  have u2 := bt_le s (i + 2)
  have l3 := bt_nonneg s (i + 3)
  have u3 := bt_le s (i + 3)
  unfold RaIs
  go_enter Tryz.func94, Tryz.ntmps94
  go_wp2
  go_ret2
  exact ⟨rfl, rfl⟩

set_option maxRecDepth 100000 in
set_option maxHeartbeats 1000000 in
theorem ra4_lo1 (s : ByteArray) (i : Nat) (w : World) (hz : s.size ≤ 9223372036854775800) (hi : i < s.size) (h1 : 240 ≤ bt s i) (h2 : bt s i < 248) (h3 : i + 4 ≤ s.size) (b1 : bt s (i + 1) < 128) : RaIs s i 0 0 w := by
  have hb := get_bt s
  have l0 := bt_nonneg s i
  have u0 := bt_le s i
  have l1 := bt_nonneg s (i + 1)
  have u1 := bt_le s (i + 1)
  have l2 := bt_nonneg s (i + 2)
  have u2 := bt_le s (i + 2)
  have l3 := bt_nonneg s (i + 3)
  have u3 := bt_le s (i + 3)
  unfold RaIs
  go_enter Tryz.func94, Tryz.ntmps94
  go_wp2
  refine wp_loop_rounds 1 ?_
  rw [rounds_succ]
  go_wp2
  go_ret2
  exact ⟨rfl, rfl⟩

set_option maxRecDepth 100000 in
set_option maxHeartbeats 1000000 in
theorem ra4_hi1 (s : ByteArray) (i : Nat) (w : World) (hz : s.size ≤ 9223372036854775800) (hi : i < s.size) (h1 : 240 ≤ bt s i) (h2 : bt s i < 248) (h3 : i + 4 ≤ s.size) (b1 : 191 < bt s (i + 1)) : RaIs s i 0 0 w := by
  have hb := get_bt s
  have l0 := bt_nonneg s i
  have u0 := bt_le s i
  have l1 := bt_nonneg s (i + 1)
  have u1 := bt_le s (i + 1)
  have l2 := bt_nonneg s (i + 2)
  have u2 := bt_le s (i + 2)
  have l3 := bt_nonneg s (i + 3)
  have u3 := bt_le s (i + 3)
  unfold RaIs
  go_enter Tryz.func94, Tryz.ntmps94
  go_wp2
  refine wp_loop_rounds 1 ?_
  rw [rounds_succ]
  go_wp2
  go_ret2
  exact ⟨rfl, rfl⟩

set_option maxRecDepth 100000 in
set_option maxHeartbeats 1000000 in
theorem ra4_lo2 (s : ByteArray) (i : Nat) (w : World) (hz : s.size ≤ 9223372036854775800) (hi : i < s.size) (h1 : 240 ≤ bt s i) (h2 : bt s i < 248) (h3 : i + 4 ≤ s.size) (c1 : 128 ≤ bt s (i + 1)) (d1 : bt s (i + 1) ≤ 191) (b2 : bt s (i + 2) < 128) : RaIs s i 0 0 w := by
  have hb := get_bt s
  have l0 := bt_nonneg s i
  have u0 := bt_le s i
  have l1 := bt_nonneg s (i + 1)
  have u1 := bt_le s (i + 1)
  have l2 := bt_nonneg s (i + 2)
  have u2 := bt_le s (i + 2)
  have l3 := bt_nonneg s (i + 3)
  have u3 := bt_le s (i + 3)
  unfold RaIs
  go_enter Tryz.func94, Tryz.ntmps94
  go_wp2
  refine wp_loop_rounds 2 ?_
  rw [rounds_succ]
  go_wp2
  rw [rounds_succ]
  go_wp2
  go_ret2
  exact ⟨rfl, rfl⟩

set_option maxRecDepth 100000 in
set_option maxHeartbeats 1000000 in
theorem ra4_hi2 (s : ByteArray) (i : Nat) (w : World) (hz : s.size ≤ 9223372036854775800) (hi : i < s.size) (h1 : 240 ≤ bt s i) (h2 : bt s i < 248) (h3 : i + 4 ≤ s.size) (c1 : 128 ≤ bt s (i + 1)) (d1 : bt s (i + 1) ≤ 191) (b2 : 191 < bt s (i + 2)) : RaIs s i 0 0 w := by
  have hb := get_bt s
  have l0 := bt_nonneg s i
  have u0 := bt_le s i
  have l1 := bt_nonneg s (i + 1)
  have u1 := bt_le s (i + 1)
  have l2 := bt_nonneg s (i + 2)
  have u2 := bt_le s (i + 2)
  have l3 := bt_nonneg s (i + 3)
  have u3 := bt_le s (i + 3)
  unfold RaIs
  go_enter Tryz.func94, Tryz.ntmps94
  go_wp2
  refine wp_loop_rounds 2 ?_
  rw [rounds_succ]
  go_wp2
  rw [rounds_succ]
  go_wp2
  go_ret2
  exact ⟨rfl, rfl⟩

set_option maxRecDepth 100000 in
set_option maxHeartbeats 1000000 in
theorem ra4_lo3 (s : ByteArray) (i : Nat) (w : World) (hz : s.size ≤ 9223372036854775800) (hi : i < s.size) (h1 : 240 ≤ bt s i) (h2 : bt s i < 248) (h3 : i + 4 ≤ s.size) (c1 : 128 ≤ bt s (i + 1)) (d1 : bt s (i + 1) ≤ 191) (c2 : 128 ≤ bt s (i + 2)) (d2 : bt s (i + 2) ≤ 191) (b3 : bt s (i + 3) < 128) : RaIs s i 0 0 w := by
  have hb := get_bt s
  have l0 := bt_nonneg s i
  have u0 := bt_le s i
  have l1 := bt_nonneg s (i + 1)
  have u1 := bt_le s (i + 1)
  have l2 := bt_nonneg s (i + 2)
  have u2 := bt_le s (i + 2)
  have l3 := bt_nonneg s (i + 3)
  have u3 := bt_le s (i + 3)
  unfold RaIs
  go_enter Tryz.func94, Tryz.ntmps94
  go_wp2
  refine wp_loop_rounds 3 ?_
  rw [rounds_succ]
  go_wp2
  rw [rounds_succ]
  go_wp2
  rw [rounds_succ]
  go_wp2
  go_ret2
  exact ⟨rfl, rfl⟩

set_option maxRecDepth 100000 in
set_option maxHeartbeats 1000000 in
theorem ra4_hi3 (s : ByteArray) (i : Nat) (w : World) (hz : s.size ≤ 9223372036854775800) (hi : i < s.size) (h1 : 240 ≤ bt s i) (h2 : bt s i < 248) (h3 : i + 4 ≤ s.size) (c1 : 128 ≤ bt s (i + 1)) (d1 : bt s (i + 1) ≤ 191) (c2 : 128 ≤ bt s (i + 2)) (d2 : bt s (i + 2) ≤ 191) (b3 : 191 < bt s (i + 3)) : RaIs s i 0 0 w := by
  have hb := get_bt s
  have l0 := bt_nonneg s i
  have u0 := bt_le s i
  have l1 := bt_nonneg s (i + 1)
  have u1 := bt_le s (i + 1)
  have l2 := bt_nonneg s (i + 2)
  have u2 := bt_le s (i + 2)
  have l3 := bt_nonneg s (i + 3)
  have u3 := bt_le s (i + 3)
  unfold RaIs
  go_enter Tryz.func94, Tryz.ntmps94
  go_wp2
  refine wp_loop_rounds 3 ?_
  rw [rounds_succ]
  go_wp2
  rw [rounds_succ]
  go_wp2
  rw [rounds_succ]
  go_wp2
  go_ret2
  exact ⟨rfl, rfl⟩

set_option maxRecDepth 100000 in
set_option maxHeartbeats 1000000 in
theorem ra4_least (s : ByteArray) (i : Nat) (w : World) (hz : s.size ≤ 9223372036854775800) (hi : i < s.size) (h1 : 240 ≤ bt s i) (h2 : bt s i < 248) (h3 : i + 4 ≤ s.size) (c1 : 128 ≤ bt s (i + 1)) (d1 : bt s (i + 1) ≤ 191) (c2 : 128 ≤ bt s (i + 2)) (d2 : bt s (i + 2) ≤ 191) (c3 : 128 ≤ bt s (i + 3)) (d3 : bt s (i + 3) ≤ 191) (e1 : ((((bt s i - 240) * 64 + bt s (i + 1) - 128) * 64 + bt s (i + 2) - 128) * 64 + bt s (i + 3) - 128) < 65536) : RaIs s i 0 0 w := by
  have hb := get_bt s
  have l0 := bt_nonneg s i
  have u0 := bt_le s i
  have l1 := bt_nonneg s (i + 1)
  have u1 := bt_le s (i + 1)
  have l2 := bt_nonneg s (i + 2)
  have u2 := bt_le s (i + 2)
  have l3 := bt_nonneg s (i + 3)
  have u3 := bt_le s (i + 3)
  unfold RaIs
  go_enter Tryz.func94, Tryz.ntmps94
  go_wp2
  refine wp_loop_rounds 4 ?_
  rw [rounds_succ]
  go_wp2
  rw [rounds_succ]
  go_wp2
  rw [rounds_succ]
  go_wp2
  rw [rounds_succ]
  go_wp2
  go_ret2
  exact ⟨rfl, rfl⟩

set_option maxRecDepth 100000 in
set_option maxHeartbeats 1000000 in
theorem ra4_most (s : ByteArray) (i : Nat) (w : World) (hz : s.size ≤ 9223372036854775800) (hi : i < s.size) (h1 : 240 ≤ bt s i) (h2 : bt s i < 248) (h3 : i + 4 ≤ s.size) (c1 : 128 ≤ bt s (i + 1)) (d1 : bt s (i + 1) ≤ 191) (c2 : 128 ≤ bt s (i + 2)) (d2 : bt s (i + 2) ≤ 191) (c3 : 128 ≤ bt s (i + 3)) (d3 : bt s (i + 3) ≤ 191) (e1 : 1114111 < ((((bt s i - 240) * 64 + bt s (i + 1) - 128) * 64 + bt s (i + 2) - 128) * 64 + bt s (i + 3) - 128)) : RaIs s i 0 0 w := by
  have hb := get_bt s
  have l0 := bt_nonneg s i
  have u0 := bt_le s i
  have l1 := bt_nonneg s (i + 1)
  have u1 := bt_le s (i + 1)
  have l2 := bt_nonneg s (i + 2)
  have u2 := bt_le s (i + 2)
  have l3 := bt_nonneg s (i + 3)
  have u3 := bt_le s (i + 3)
  unfold RaIs
  go_enter Tryz.func94, Tryz.ntmps94
  go_wp2
  refine wp_loop_rounds 4 ?_
  rw [rounds_succ]
  go_wp2
  rw [rounds_succ]
  go_wp2
  rw [rounds_succ]
  go_wp2
  rw [rounds_succ]
  go_wp2
  go_ret2
  exact ⟨rfl, rfl⟩

set_option maxRecDepth 100000 in
set_option maxHeartbeats 1000000 in
theorem ra4_ok (s : ByteArray) (i : Nat) (w : World) (hz : s.size ≤ 9223372036854775800) (hi : i < s.size) (h1 : 240 ≤ bt s i) (h2 : bt s i < 248) (h3 : i + 4 ≤ s.size) (c1 : 128 ≤ bt s (i + 1)) (d1 : bt s (i + 1) ≤ 191) (c2 : 128 ≤ bt s (i + 2)) (d2 : bt s (i + 2) ≤ 191) (c3 : 128 ≤ bt s (i + 3)) (d3 : bt s (i + 3) ≤ 191) (e1 : 65536 ≤ ((((bt s i - 240) * 64 + bt s (i + 1) - 128) * 64 + bt s (i + 2) - 128) * 64 + bt s (i + 3) - 128)) (e2 : ((((bt s i - 240) * 64 + bt s (i + 1) - 128) * 64 + bt s (i + 2) - 128) * 64 + bt s (i + 3) - 128) ≤ 1114111) : RaIs s i ((((bt s i - 240) * 64 + bt s (i + 1) - 128) * 64 + bt s (i + 2) - 128) * 64 + bt s (i + 3) - 128) 4 w := by
  have hb := get_bt s
  have l0 := bt_nonneg s i
  have u0 := bt_le s i
  have l1 := bt_nonneg s (i + 1)
  have u1 := bt_le s (i + 1)
  have l2 := bt_nonneg s (i + 2)
  have u2 := bt_le s (i + 2)
  have l3 := bt_nonneg s (i + 3)
  have u3 := bt_le s (i + 3)
  unfold RaIs
  go_enter Tryz.func94, Tryz.ntmps94
  go_wp2
  refine wp_loop_rounds 4 ?_
  rw [rounds_succ]
  go_wp2
  rw [rounds_succ]
  go_wp2
  rw [rounds_succ]
  go_wp2
  rw [rounds_succ]
  go_wp2
  go_ret2
  exact ⟨rfl, rfl⟩

end Go.Proofs.YtnkfjileaonemaaGreatDoor
