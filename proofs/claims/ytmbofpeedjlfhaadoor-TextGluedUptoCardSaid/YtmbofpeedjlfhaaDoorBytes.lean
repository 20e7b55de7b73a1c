/-
  The walks of playpenkit's functions on lists of bytes: markBytes, LentBytes, KeptBytes, SameBytes, OverBytes.
-/
import Derived.Test.YtmbofpeedjlfhaaDoorProg
import Derived.Test.YtmbofpeedjlfhaaDoorKit
namespace Go.Proofs.YtmbofpeedjlfhaaDoor
set_option maxRecDepth 100000
open Go.RowKit

theorem Tryd.info_u8 : (Tryd.prog.info? 5).map (fun i => (i.zero, i.size, i.bytes)) = some (some (.int .u8 0), 1, 1) := by kernel_rfl

abbrev u8s (xs : List Int) : List Value := xs.map (Value.int .u8)

theorem u8s_app (xs ys : List Int) : u8s (xs ++ ys) = u8s xs ++ u8s ys := List.map_append

/-! ### SameBytes -/
theorem beq_get (xs ys : List Int) (k : Nat) (hk : k < xs.length) (hk' : k < ys.length) (h : xs.take k = ys.take k) :
    (xs.take (k + 1) = ys.take (k + 1) ↔ xs[k]?.getD 0 = ys[k]?.getD 0) := by
  have e1 : xs.take (k + 1) = xs.take k ++ [xs[k]?.getD 0] := by rw [List.take_add_one, List.getElem?_eq_getElem hk]; rfl
  have e2 : ys.take (k + 1) = ys.take k ++ [ys[k]?.getD 0] := by rw [List.take_add_one, List.getElem?_eq_getElem hk']; rfl
  rw [e1, e2, h]
  simp

/-! ### markBytes -/
/-! ### LentBytes -/
/-! ### KeptBytes -/
theorem kept_at (xs ys ms : List Int) (j : Nat) (hx : ys.length + j < xs.length) (m : Int) (h : xs.take (ys.length + j) = ys ++ ms) :
    (xs.take (ys.length + j + 1) = ys ++ (ms ++ [m]) ↔ xs[ys.length + j]?.getD 0 = m) := by
  rw [take_snoc xs 0 _ hx, h, List.append_assoc]
  simp

/-! ### OverBytes -/
end Go.Proofs.YtmbofpeedjlfhaaDoor
