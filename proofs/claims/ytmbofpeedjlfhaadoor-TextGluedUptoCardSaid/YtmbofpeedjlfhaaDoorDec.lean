/-
  The decoding of a rune, class by class.
-/
import Derived.Test.YtmbofpeedjlfhaaDoorCuts
namespace Go.Proofs.YtmbofpeedjlfhaaDoor
set_option maxRecDepth 100000
open Go.RowKit Go.PlainAid

section
variable (n b0 b1 b2 b3 : Nat)
theorem dz1 (h : (128 ≤ b0 ∧ b0 < 192) ∨ 248 ≤ b0) (h0 : b0 < 256) : Lib.decodeN n b0 b1 b2 b3 = (65533, 1) := by
  unfold Lib.decodeN
  repeat' split
  all_goals first | rfl | (exfalso; omega)
theorem dz2 (h0 : b1 < 256) (h : 192 ≤ b0 ∧ b0 < 224) (hb : ¬ (1 < n ∧ 128 ≤ b1 ∧ b1 ≤ 191 ∧ 128 ≤ (b0 - 192) * 64 + (b1 - 128))) : Lib.decodeN n b0 b1 b2 b3 = (65533, 1) := by
  unfold Lib.decodeN
  repeat' split
  all_goals first | rfl | (exfalso; omega)
theorem dv2 (h : 192 ≤ b0 ∧ b0 < 224) (hb : 1 < n ∧ 128 ≤ b1 ∧ b1 ≤ 191 ∧ 128 ≤ (b0 - 192) * 64 + (b1 - 128)) : Lib.decodeN n b0 b1 b2 b3 = ((b0 - 192) * 64 + (b1 - 128), 2) := by
  unfold Lib.decodeN
  repeat' split
  all_goals first | (exfalso; omega) | (exact Prod.ext (by show _ = _; omega) rfl)
theorem dz3 (h0 : b1 < 256) (h0' : b2 < 256) (h : 224 ≤ b0 ∧ b0 < 240) (hb : ¬ (2 < n ∧ (128 ≤ b1 ∧ b1 ≤ 191) ∧ (128 ≤ b2 ∧ b2 ≤ 191) ∧ 2048 ≤ ((b0 - 224) * 64 + (b1 - 128)) * 64 + (b2 - 128) ∧ ¬ (55296 ≤ ((b0 - 224) * 64 + (b1 - 128)) * 64 + (b2 - 128) ∧ ((b0 - 224) * 64 + (b1 - 128)) * 64 + (b2 - 128) ≤ 57343))) : Lib.decodeN n b0 b1 b2 b3 = (65533, 1) := by
  unfold Lib.decodeN
  repeat' split
  all_goals first | rfl | (exfalso; omega)
theorem dv3 (h : 224 ≤ b0 ∧ b0 < 240) (hb : 2 < n ∧ (128 ≤ b1 ∧ b1 ≤ 191) ∧ (128 ≤ b2 ∧ b2 ≤ 191) ∧ 2048 ≤ ((b0 - 224) * 64 + (b1 - 128)) * 64 + (b2 - 128) ∧ ¬ (55296 ≤ ((b0 - 224) * 64 + (b1 - 128)) * 64 + (b2 - 128) ∧ ((b0 - 224) * 64 + (b1 - 128)) * 64 + (b2 - 128) ≤ 57343)) : Lib.decodeN n b0 b1 b2 b3 = (((b0 - 224) * 64 + (b1 - 128)) * 64 + (b2 - 128), 3) := by
  unfold Lib.decodeN
  repeat' split
  all_goals first | (exfalso; omega) | (exact Prod.ext (by show _ = _; omega) rfl)
theorem dz4 (h0 : b1 < 256) (h0' : b2 < 256) (h0'' : b3 < 256) (h : 240 ≤ b0 ∧ b0 < 248) (hb : ¬ (3 < n ∧ (128 ≤ b1 ∧ b1 ≤ 191) ∧ (128 ≤ b2 ∧ b2 ≤ 191) ∧ (128 ≤ b3 ∧ b3 ≤ 191) ∧ 65536 ≤ (((b0 - 240) * 64 + (b1 - 128)) * 64 + (b2 - 128)) * 64 + (b3 - 128) ∧ (((b0 - 240) * 64 + (b1 - 128)) * 64 + (b2 - 128)) * 64 + (b3 - 128) ≤ 1114111)) : Lib.decodeN n b0 b1 b2 b3 = (65533, 1) := by
  unfold Lib.decodeN
  repeat' split
  all_goals first | rfl | (exfalso; omega)
theorem dv4 (h : 240 ≤ b0 ∧ b0 < 248) (hb : 3 < n ∧ (128 ≤ b1 ∧ b1 ≤ 191) ∧ (128 ≤ b2 ∧ b2 ≤ 191) ∧ (128 ≤ b3 ∧ b3 ≤ 191) ∧ 65536 ≤ (((b0 - 240) * 64 + (b1 - 128)) * 64 + (b2 - 128)) * 64 + (b3 - 128) ∧ (((b0 - 240) * 64 + (b1 - 128)) * 64 + (b2 - 128)) * 64 + (b3 - 128) ≤ 1114111) : Lib.decodeN n b0 b1 b2 b3 = ((((b0 - 240) * 64 + (b1 - 128)) * 64 + (b2 - 128)) * 64 + (b3 - 128), 4) := by
  unfold Lib.decodeN
  repeat' split
  all_goals first | (exfalso; omega) | (exact Prod.ext (by show _ = _; omega) rfl)
end

end Go.Proofs.YtmbofpeedjlfhaaDoor
