/-
  playpenref01.runeAt at every place: what the model's own decoding says, 0 and 0 at a lost byte.
-/
import Derived.Test.YtmbofpeedjlfhaaDoorRuneAt
import Derived.Test.YtmbofpeedjlfhaaDoorDec
namespace Go.Proofs.YtmbofpeedjlfhaaDoor
set_option maxRecDepth 100000
open Go.RowKit Go.PlainAid

theorem bt_bn (s : ByteArray) (k : Nat) : bt s k = (bn s k : Int) := by
  by_cases h : k < s.size
  · exact bt_eq s k h
  · rw [bt_end s (by omega)]
    have : s.get! k = 0 := by
      cases s with
      | mk d =>
        show d[k]! = 0
        have hk : ¬ k < d.size := h
        rw [getElem!_neg d k hk]
        rfl
    unfold bn
    rw [this]
    rfl

def raR (s : ByteArray) (i : Nat) : Int := if lost s i then 0 else ((Utf8.decode s i).1 : Int)
def raN (s : ByteArray) (i : Nat) : Int := if lost s i then 0 else ((Utf8.decode s i).2 : Int)

theorem ra_zero {s : ByteArray} {i : Nat} {w : World} (h : Lib.decodeN (s.size - i) (bn s i) (bn s (i + 1)) (bn s (i + 2)) (bn s (i + 3)) = (65533, 1)) (hr : RaIs s i 0 0 w) : RaIs s i (raR s i) (raN s i) w := by
  have hd : Utf8.decode s i = (65533, 1) := (Lib.decode_at s i).trans h
  have hl : lost s i := by unfold lost; rw [hd]; exact ⟨rfl, rfl⟩
  unfold raR raN
  rw [if_pos hl, if_pos hl]
  exact hr
theorem ra_val {s : ByteArray} {i c m : Nat} {w : World} (h : Lib.decodeN (s.size - i) (bn s i) (bn s (i + 1)) (bn s (i + 2)) (bn s (i + 3)) = (c, m)) (hm : ¬ (c = 65533 ∧ m = 1)) {r n : Int} (hr : RaIs s i r n w) (er : r = c) (en : n = m) : RaIs s i (raR s i) (raN s i) w := by
  have hd : Utf8.decode s i = (c, m) := (Lib.decode_at s i).trans h
  have hl : ¬ lost s i := by unfold lost; rw [hd]; exact hm
  unfold raR raN
  rw [if_neg hl, if_neg hl, hd, ← er, ← en]
  exact hr

theorem runeAt_any (s : ByteArray) (i : Nat) (w : World) (hz : s.size ≤ 9223372036854775800) (hi : i < s.size) : RaIs s i (raR s i) (raN s i) w := by
  have e0 := bt_bn s i
  have e1 := bt_bn s (i + 1)
  have e2 := bt_bn s (i + 2)
  have e3 := bt_bn s (i + 3)
  have g0 := bn_lt s i
  have g1 := bn_lt s (i + 1)
  have g2 := bn_lt s (i + 2)
  have g3 := bn_lt s (i + 3)
  by_cases c1 : bn s i < 128
  · exact ra_val (c := bn s i) (m := 1) (by unfold Lib.decodeN; rw [if_pos c1]) (by omega) (ra_ascii s i w hz hi (by omega)) (by omega) rfl
  by_cases c2 : bn s i < 192
  · exact ra_zero (dz1 _ _ _ _ _ (by omega) g0) (ra_cont s i w hz hi (by omega) (by omega))
  by_cases c3 : bn s i < 224
  · by_cases hs : s.size < i + 2
    · exact ra_zero (dz2 _ _ _ _ _ g1 (by omega) (by omega)) (ra2_short s i w hz hi (by omega) (by omega) (by omega))
    by_cases a1 : bn s (i + 1) < 128
    · exact ra_zero (dz2 _ _ _ _ _ g1 (by omega) (by omega)) (ra2_lo1 s i w hz hi (by omega) (by omega) (by omega) (by omega))
    by_cases a2 : 191 < bn s (i + 1)
    · exact ra_zero (dz2 _ _ _ _ _ g1 (by omega) (by omega)) (ra2_hi1 s i w hz hi (by omega) (by omega) (by omega) (by omega))
    by_cases a3 : (bt s i - 192) * 64 + bt s (i + 1) - 128 < 128
    · exact ra_zero (dz2 _ _ _ _ _ g1 (by omega) (by omega)) (ra2_least s i w hz hi (by omega) (by omega) (by omega) (by omega) (by omega) (by omega))
    · exact ra_val (dv2 _ _ _ _ _ (by omega) (by omega)) (by omega) (ra2_ok s i w hz hi (by omega) (by omega) (by omega) (by omega) (by omega) (by omega)) (by omega) rfl
  by_cases c4 : bn s i < 240
  · by_cases hs : s.size < i + 3
    · exact ra_zero (dz3 _ _ _ _ _ g1 g2 (by omega) (by omega)) (ra3_short s i w hz hi (by omega) (by omega) (by omega))
    by_cases a1 : bn s (i + 1) < 128
    · exact ra_zero (dz3 _ _ _ _ _ g1 g2 (by omega) (by omega)) (ra3_lo1 s i w hz hi (by omega) (by omega) (by omega) (by omega))
    by_cases a2 : 191 < bn s (i + 1)
    · exact ra_zero (dz3 _ _ _ _ _ g1 g2 (by omega) (by omega)) (ra3_hi1 s i w hz hi (by omega) (by omega) (by omega) (by omega))
    by_cases a3 : bn s (i + 2) < 128
    · exact ra_zero (dz3 _ _ _ _ _ g1 g2 (by omega) (by omega)) (ra3_lo2 s i w hz hi (by omega) (by omega) (by omega) (by omega) (by omega) (by omega))
    by_cases a4 : 191 < bn s (i + 2)
    · exact ra_zero (dz3 _ _ _ _ _ g1 g2 (by omega) (by omega)) (ra3_hi2 s i w hz hi (by omega) (by omega) (by omega) (by omega) (by omega) (by omega))
    by_cases a5 : ((bt s i - 224) * 64 + bt s (i + 1) - 128) * 64 + bt s (i + 2) - 128 < 2048
    · exact ra_zero (dz3 _ _ _ _ _ g1 g2 (by omega) (by omega)) (ra3_least s i w hz hi (by omega) (by omega) (by omega) (by omega) (by omega) (by omega) (by omega) (by omega))
    by_cases a6 : ((bt s i - 224) * 64 + bt s (i + 1) - 128) * 64 + bt s (i + 2) - 128 < 55296
    · exact ra_val (dv3 _ _ _ _ _ (by omega) (by omega)) (by omega) (ra3_ok1 s i w hz hi (by omega) (by omega) (by omega) (by omega) (by omega) (by omega) (by omega) (by omega) (by omega)) (by omega) rfl
    by_cases a7 : ((bt s i - 224) * 64 + bt s (i + 1) - 128) * 64 + bt s (i + 2) - 128 ≤ 57343
    · exact ra_zero (dz3 _ _ _ _ _ g1 g2 (by omega) (by omega)) (ra3_sur s i w hz hi (by omega) (by omega) (by omega) (by omega) (by omega) (by omega) (by omega) (by omega) (by omega))
    · exact ra_val (dv3 _ _ _ _ _ (by omega) (by omega)) (by omega) (ra3_ok2 s i w hz hi (by omega) (by omega) (by omega) (by omega) (by omega) (by omega) (by omega) (by omega)) (by omega) rfl
  by_cases c5 : bn s i < 248
  · by_cases hs : s.size < i + 4
    · exact ra_zero (dz4 _ _ _ _ _ g1 g2 g3 (by omega) (by omega)) (ra4_short s i w hz hi (by omega) (by omega) (by omega))
    by_cases a1 : bn s (i + 1) < 128
    · exact ra_zero (dz4 _ _ _ _ _ g1 g2 g3 (by omega) (by omega)) (ra4_lo1 s i w hz hi (by omega) (by omega) (by omega) (by omega))
    by_cases a2 : 191 < bn s (i + 1)
    · exact ra_zero (dz4 _ _ _ _ _ g1 g2 g3 (by omega) (by omega)) (ra4_hi1 s i w hz hi (by omega) (by omega) (by omega) (by omega))
    by_cases a3 : bn s (i + 2) < 128
    · exact ra_zero (dz4 _ _ _ _ _ g1 g2 g3 (by omega) (by omega)) (ra4_lo2 s i w hz hi (by omega) (by omega) (by omega) (by omega) (by omega) (by omega))
    by_cases a4 : 191 < bn s (i + 2)
    · exact ra_zero (dz4 _ _ _ _ _ g1 g2 g3 (by omega) (by omega)) (ra4_hi2 s i w hz hi (by omega) (by omega) (by omega) (by omega) (by omega) (by omega))
    by_cases a5 : bn s (i + 3) < 128
    · exact ra_zero (dz4 _ _ _ _ _ g1 g2 g3 (by omega) (by omega)) (ra4_lo3 s i w hz hi (by omega) (by omega) (by omega) (by omega) (by omega) (by omega) (by omega) (by omega))
    by_cases a6 : 191 < bn s (i + 3)
    · exact ra_zero (dz4 _ _ _ _ _ g1 g2 g3 (by omega) (by omega)) (ra4_hi3 s i w hz hi (by omega) (by omega) (by omega) (by omega) (by omega) (by omega) (by omega) (by omega))
    by_cases a7 : (((bt s i - 240) * 64 + bt s (i + 1) - 128) * 64 + bt s (i + 2) - 128) * 64 + bt s (i + 3) - 128 < 65536
    · exact ra_zero (dz4 _ _ _ _ _ g1 g2 g3 (by omega) (by omega)) (ra4_least s i w hz hi (by omega) (by omega) (by omega) (by omega) (by omega) (by omega) (by omega) (by omega) (by omega) (by omega))
    by_cases a8 : 1114111 < (((bt s i - 240) * 64 + bt s (i + 1) - 128) * 64 + bt s (i + 2) - 128) * 64 + bt s (i + 3) - 128
    · exact ra_zero (dz4 _ _ _ _ _ g1 g2 g3 (by omega) (by omega)) (ra4_most s i w hz hi (by omega) (by omega) (by omega) (by omega) (by omega) (by omega) (by omega) (by omega) (by omega) (by omega))
    · exact ra_val (dv4 _ _ _ _ _ (by omega) (by omega)) (by omega) (ra4_ok s i w hz hi (by omega) (by omega) (by omega) (by omega) (by omega) (by omega) (by omega) (by omega) (by omega) (by omega) (by omega)) (by omega) rfl
  · exact ra_zero (dz1 _ _ _ _ _ (by omega) g0) (ra_high s i w hz hi (by omega))
end Go.Proofs.YtmbofpeedjlfhaaDoor
