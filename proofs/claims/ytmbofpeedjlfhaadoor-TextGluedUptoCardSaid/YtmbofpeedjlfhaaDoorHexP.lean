/-
  Hexadecimal digits, plain law: no program in sight.
-/
import Derived.Test.YtmbofpeedjlfhaaDoorCuts
namespace Go.Proofs.YtmbofpeedjlfhaaDoor
set_option maxRecDepth 100000
open Go.RowKit Go.PlainAid

/-- a hexadecimal digit's number; -1: it is none -/
def hexD (c : Int) : Int := if 48 ≤ c ∧ c ≤ 57 then c - 48 else if 97 ≤ c ∧ c ≤ 102 then c - 87 else if 65 ≤ c ∧ c ≤ 70 then c - 55 else -1
theorem hexD_bd (c : Int) : -1 ≤ hexD c ∧ hexD c ≤ 15 := by unfold hexD; split <;> (try split) <;> (try split) <;> omega
/-- the number of n digits from place i on; -1: one is none -/
def hexN (s : ByteArray) (i : Nat) : Nat → Int
  | 0 => 0
  | n + 1 => if hexN s i n < 0 ∨ hexD (bn s (i + n)) < 0 then -1 else hexN s i n * 16 + hexD (bn s (i + n))
theorem hexN_bd (s : ByteArray) (i n : Nat) : -1 ≤ hexN s i n ∧ hexN s i n < 16 ^ n := by
  induction n with
  | zero => simp [hexN]
  | succ n ih =>
    have h := hexD_bd (bn s (i + n))
    have hp : (0 : Int) < 16 ^ n := Int.pow_pos (by decide)
    rw [hexN]
    split
    · rw [Int.pow_succ]; omega
    · rw [Int.pow_succ]; omega
theorem hexN_neg (s : ByteArray) (i n m : Nat) (h : hexN s i n < 0) (hm : n ≤ m) : hexN s i m = -1 := by
  induction m with
  | zero =>
    obtain rfl : n = 0 := by omega
    simp [hexN] at h
  | succ m ih =>
    rcases Nat.lt_or_ge m n with c | c
    · obtain rfl : n = m + 1 := by omega
      have := (hexN_bd s i (m + 1)).1
      omega
    · rw [hexN, if_pos (.inl (by rw [ih c]; omega))]
theorem hexN_step (s : ByteArray) (i n : Nat) (h : 0 ≤ hexN s i n) (hd : 0 ≤ hexD (bn s (i + n))) : hexN s i (n + 1) = hexN s i n * 16 + hexD (bn s (i + n)) := by
  rw [hexN, if_neg (by omega)]
theorem hexN_bad (s : ByteArray) (i n m : Nat) (hd : hexD (bn s (i + n)) < 0) (hm : n < m) : hexN s i m = -1 :=
  hexN_neg s i (n + 1) m (by rw [hexN, if_pos (.inr hd)]; decide) hm
/-- n digits at place i, or -1 -/
def hexW (s : ByteArray) (i n : Nat) : Int := if i + n ≤ s.size then hexN s i n else -1
theorem bn_extract (s : ByteArray) (a k : Nat) (h : a + k < s.size) : bn (s.extract a s.size) k = bn s (a + k) := by
  have h1 : k < (s.extract a s.size).size := by rw [ByteArray.size_extract]; omega
  rw [← bn_eq _ _ h1, ← bn_eq _ _ h, ByteArray.getElem_extract]
theorem size_ext (s : ByteArray) (a : Nat) : (s.extract a s.size).size = s.size - a := by rw [ByteArray.size_extract]; omega
theorem hexN_ext (s : ByteArray) (a i n : Nat) (h : a + i + n ≤ s.size) : hexN (s.extract a s.size) i n = hexN s (a + i) n := by
  induction n with
  | zero => rfl
  | succ n ih => rw [hexN, hexN, ih (by omega), bn_extract s a (i + n) (by omega), Nat.add_assoc]
theorem hexW_ext (s : ByteArray) (a i n : Nat) (h : a ≤ s.size) : hexW (s.extract a s.size) i n = hexW s (a + i) n := by
  unfold hexW
  rw [size_ext]
  by_cases c : a + i + n ≤ s.size
  · rw [if_pos (by omega), if_pos c, hexN_ext s a i n c]
  · rw [if_neg (by omega), if_neg c]
theorem hexW_bd (s : ByteArray) (i n : Nat) : -1 ≤ hexW s i n ∧ hexW s i n < 16 ^ n := by
  unfold hexW
  split
  · exact hexN_bd s i n
  · have hp : (0 : Int) < 16 ^ n := Int.pow_pos (by decide)
    omega
end Go.Proofs.YtmbofpeedjlfhaaDoor
