/-
  The walk of 'coded'.
-/
import Derived.Test.YtohpnalklbjkoaaProg
import Derived.Test.YtohpnalklbjkoaaCode
namespace Go.Proofs.Ytohpnalklbjkoaa
open Go.RowKit Go.PlainAid

/-! ### the walk of 'coded' -/
theorem i32_and63 (x : Int) (h0 : 0 ≤ x) (h1 : x < 2147483648) : bits .and .i32 x 63 = x % 64 := bits_mask .i32 31 (by decide) wraps_i32 6 (by decide) x h0 h1
theorem i32_or192 (y : Int) (h0 : 0 ≤ y) (h1 : y < 32) : bits .or .i32 192 y = 192 + y := bits_join .i32 31 (by decide) wraps_i32 5 192 y (by decide) (by decide) (by decide) h0 h1 (by omega)
theorem i32_or128 (y : Int) (h0 : 0 ≤ y) (h1 : y < 64) : bits .or .i32 128 y = 128 + y := bits_join .i32 31 (by decide) wraps_i32 6 128 y (by decide) (by decide) (by decide) h0 h1 (by omega)
theorem i32_or224 (y : Int) (h0 : 0 ≤ y) (h1 : y < 16) : bits .or .i32 224 y = 224 + y := bits_join .i32 31 (by decide) wraps_i32 4 224 y (by decide) (by decide) (by decide) h0 h1 (by omega)
theorem i32_or240 (y : Int) (h0 : 0 ≤ y) (h1 : y < 8) : bits .or .i32 240 y = 240 + y := bits_join .i32 31 (by decide) wraps_i32 3 240 y (by decide) (by decide) (by decide) h0 h1 (by omega)

abbrev n8s (l : List Nat) : List Value := l.map fun (x : Nat) => Value.int .u8 (x : Int)
theorem coded3 (x : Int) (w : World) (d0 : 0 ≤ x) (d1 : ¬ x < 128) (d2 : ¬ x < 2048) (d3 : x < 65536) :
    Calls Try.prog 17 #[.int .i32 x] w fun e w' => e = .returned (.slice (some ⟨w.heap.size, 0, none⟩) 3 3) ∧ w.alloc (.cells #[.int .u8 (224 + x / 4096), .int .u8 (128 + x / 64 % 64), .int .u8 (128 + x % 64)] 5) = w' := by
  have o1 := i32_or224 (x / 4096) (by omega) (by omega)
  have o2 := i32_and63 x (by omega) (by omega)
  have o3 := i32_or128 (x % 64) (by omega) (by omega)
  have o4 := i32_and63 (x / 64) (by omega) (by omega)
  have o5 := i32_or128 (x / 64 % 64) (by omega) (by omega)
  have p1 : (224 + x / 4096) % 256 = 224 + x / 4096 := by omega
  have p2 : (128 + x / 64 % 64) % 256 = 128 + x / 64 % 64 := by omega
  have p3 : (128 + x % 64) % 256 = 128 + x % 64 := by omega
  go_enter Try.func17, Try.ntmps17
  go_wp2
  go_ret
  exact ⟨rfl, rfl⟩
theorem coded4 (x : Int) (w : World) (d0 : 0 ≤ x) (d1 : ¬ x < 128) (d2 : ¬ x < 2048) (d3 : ¬ x < 65536) (d4 : x ≤ 1114111) :
    Calls Try.prog 17 #[.int .i32 x] w fun e w' => e = .returned (.slice (some ⟨w.heap.size, 0, none⟩) 4 4) ∧ w.alloc (.cells #[.int .u8 (240 + x / 262144), .int .u8 (128 + x / 4096 % 64), .int .u8 (128 + x / 64 % 64), .int .u8 (128 + x % 64)] 5) = w' := by
  have o1 := i32_or240 (x / 262144) (by omega) (by omega)
  have o2 := i32_and63 x (by omega) (by omega)
  have o3 := i32_or128 (x % 64) (by omega) (by omega)
  have o4 := i32_and63 (x / 64) (by omega) (by omega)
  have o5 := i32_or128 (x / 64 % 64) (by omega) (by omega)
  have o6 := i32_and63 (x / 4096) (by omega) (by omega)
  have o7 := i32_or128 (x / 4096 % 64) (by omega) (by omega)
  have p1 : (240 + x / 262144) % 256 = 240 + x / 262144 := by omega
  have p2 : (128 + x / 64 % 64) % 256 = 128 + x / 64 % 64 := by omega
  have p3 : (128 + x % 64) % 256 = 128 + x % 64 := by omega
  have p4 : (128 + x / 4096 % 64) % 256 = 128 + x / 4096 % 64 := by omega
  go_enter Try.func17, Try.ntmps17
  go_wp2
  go_ret
  exact ⟨rfl, rfl⟩
set_option maxRecDepth 100000 in
set_option maxHeartbeats 1000000 in
theorem coded_any (r : Nat) (w : World) (hr : r ≤ 1114111) :
    Calls Try.prog 17 #[.int .i32 r] w fun e w' => e = .returned (.slice (some ⟨w.heap.size, 0, none⟩) (codeL r).length (codeL r).length) ∧ w.alloc (.cells (n8s (codeL r)).toArray 5) = w' := by
  by_cases c1 : r < 128
  · have e1 : codeL r = [r] := by unfold codeL; rw [if_pos c1]
    rw [e1]
    go_enter Try.func17, Try.ntmps17
    go_wp2
    go_ret
    exact ⟨rfl, rfl⟩
  by_cases c2 : r < 2048
  · have e1 : codeL r = [192 + r / 64, 128 + r % 64] := by unfold codeL; rw [if_neg c1, if_pos c2]
    rw [e1]
    have o1 := i32_or192 ((r : Int) / 64) (by omega) (by omega)
    have o2 := i32_and63 (r : Int) (by omega) (by omega)
    have o3 := i32_or128 ((r : Int) % 64) (by omega) (by omega)
    go_enter Try.func17, Try.ntmps17
    go_wp2
    go_ret
    exact ⟨rfl, rfl⟩
  by_cases c3 : r < 65536
  · have e1 : codeL r = [224 + r / 4096, 128 + r / 64 % 64, 128 + r % 64] := by unfold codeL; rw [if_neg c1, if_neg c2, if_pos c3]
    rw [e1]
    exact coded3 (r : Int) w (by omega) (by omega) (by omega) (by omega)
  · have e1 : codeL r = [240 + r / 262144, 128 + r / 4096 % 64, 128 + r / 64 % 64, 128 + r % 64] := by unfold codeL; rw [if_neg c1, if_neg c2, if_neg c3]
    rw [e1]
    exact coded4 (r : Int) w (by omega) (by omega) (by omega) (by omega) (by omega)
end Go.Proofs.Ytohpnalklbjkoaa
