/-
  What a literal says at a place, plain law: no program in sight.
-/
import Derived.Test.YtmbofpeedjlfhaaDoorHexP
namespace Go.Proofs.YtmbofpeedjlfhaaDoor
set_option maxRecDepth 100000
open Go.RowKit Go.PlainAid

theorem get!_ge (s : ByteArray) (k : Nat) (h : s.size ≤ k) : s.get! k = 0 := by
  unfold ByteArray.get!
  have : s.data[k]? = none := Array.getElem?_eq_none (by simpa using h)
  simp only [getElem!_def, this]
  rfl
theorem get!_ext (s : ByteArray) (a k : Nat) (h : a ≤ s.size) : (s.extract a s.size).get! k = s.get! (a + k) := by
  rcases Nat.lt_or_ge (a + k) s.size with c | c
  · rw [get!_eq _ k (by rw [size_ext]; omega), get!_eq s (a + k) c, ByteArray.getElem_extract]
  · rw [get!_ge _ k (by rw [size_ext]; omega), get!_ge s _ c]
theorem decode_ext (s : ByteArray) (a k : Nat) (h : a ≤ s.size) : Utf8.decode (s.extract a s.size) k = Utf8.decode s (a + k) := by
  rw [Lib.decode_at, Lib.decode_at, get!_ext s a _ h, get!_ext s a _ h, get!_ext s a _ h, get!_ext s a _ h, size_ext, Nat.sub_sub]
  rfl
theorem bn_ext (s : ByteArray) (a k : Nat) (h : a ≤ s.size) : bn (s.extract a s.size) k = bn s (a + k) := by unfold bn; rw [get!_ext s a k h]
theorem cutN_ext (s : ByteArray) (a k : Nat) (h : a ≤ s.size) : cutN (s.extract a s.size) k = cutN s (a + k) := by unfold cutN; rw [decode_ext s a k h]
theorem lost_ext (s : ByteArray) (a k : Nat) (h : a ≤ s.size) : lost (s.extract a s.size) k ↔ lost s (a + k) := by unfold lost; rw [decode_ext s a k h]
theorem cutR_ext (s : ByteArray) (a k : Nat) (h : a ≤ s.size) : cutR (s.extract a s.size) k = cutR s (a + k) := by
  unfold cutR
  rw [decode_ext s a k h, bn_ext s a k h]
  by_cases c : lost s (a + k)
  · rw [if_pos c, if_pos ((lost_ext s a k h).2 c)]
  · rw [if_neg c, if_neg (fun x => c ((lost_ext s a k h).1 x))]

/-- what the backslash at a place stands for: its number, whether it is one byte, how many bytes say it -/
def escN (s : ByteArray) (i : Nat) : Option (Int × Bool × Nat) :=
  if s.size ≤ i + 1 then none
  else if bn s (i + 1) = 110 then some (10, true, 2)
  else if bn s (i + 1) = 116 then some (9, true, 2)
  else if bn s (i + 1) = 114 then some (13, true, 2)
  else if bn s (i + 1) = 48 then some (0, true, 2)
  else if bn s (i + 1) = 92 ∨ bn s (i + 1) = 34 ∨ bn s (i + 1) = 39 then some (bn s (i + 1), true, 2)
  else if bn s (i + 1) = 120 then (if hexW s (i + 2) 2 < 0 then none else some (hexW s (i + 2) 2, true, 4))
  else if bn s (i + 1) = 117 then (if hexW s (i + 2) 4 < 0 ∨ (55296 ≤ hexW s (i + 2) 4 ∧ hexW s (i + 2) 4 ≤ 57343) then none else some (hexW s (i + 2) 4, false, 6))
  else none
theorem escN_ext (s : ByteArray) (a : Nat) (h : a ≤ s.size) : escN (s.extract a s.size) 0 = escN s a := by
  unfold escN
  have e0 : ((s.extract a s.size).size ≤ 0 + 1) = (s.size ≤ a + 1) := by rw [size_ext]; exact propext ⟨fun h => by omega, fun h => by omega⟩
  simp only [e0, bn_ext s a _ h, hexW_ext s a _ _ h, Nat.zero_add]
/-- what a literal says at a place: number, whether it is one byte, how many bytes say it, the error -/
def sayN (s : ByteArray) (i : Nat) : Int × Bool × Nat × Int :=
  if bn s i = 92 then (match escN s i with | none => (0, false, 0, 12) | some (c, b, k) => (c, b, k, 0))
  else if bn s i < 32 ∨ bn s i = 127 then (0, false, 0, 10)
  else if lost s i then (0, false, 0, 13)
  else (((Utf8.decode s i).1 : Int), false, cutN s i, 0)
end Go.Proofs.YtmbofpeedjlfhaaDoor
