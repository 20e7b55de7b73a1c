/-
  What Object answers, made or not.
-/
import Derived.Test.YtikbegmodacopaaGreatDoorObK
import Derived.Test.YtikbegmodacopaaGreatDoorC27
namespace Go.Proofs.YtikbegmodacopaaGreatDoor
open Go.RowKit Go.PlainAid Go.BigFrame
set_option linter.unusedSimpArgs false
set_option linter.unusedVariables false
set_option maxRecDepth 100000
/-- the object, or none -/
def yO (x : ImgV) : ObjV := if objE x = 0 then objO x else y0O
theorem own_none (w : World) (B : Nat) : Owns w B (ownO y0O s0O) :=
  ((((((Owns.nil_.nilrow 66 2).nilrow 5 1).nilrow 9 1).nilrow 78 4).nilrow 81 4).nilrow 83 2)
theorem objIs_y {x : ImgV} {w w' : World} {e : Ending} (h : ObjIs x w e w') : ∃ s, e = .returned (.tuple #[.agg (objV (yO x) s), .int .i64 (objE x)]) ∧ Owns w' w.heap.size (ownO (yO x) s) ∧ Below w.heap.size w w' := by
  unfold ObjIs at h
  unfold yO
  by_cases h0 : objE x = 0
  · rw [if_pos h0] at h ⊢
    obtain ⟨s, rfl, h1, h2⟩ := h
    exact ⟨s, by rw [h0], h1, h2⟩
  · rw [if_neg h0] at h ⊢
    obtain ⟨rfl, h1⟩ := h
    exact ⟨s0O, rfl, own_none _ _, h1⟩
theorem y0_ok : ObjOk y0O := ⟨by simp [y0O], by simp [y0O], by simp [y0O], by simp [y0O], by simp [y0O], by simp [y0O], by simp [y0O], by simp [y0O], by simp [y0O]⟩
theorem y_ok {x : ImgV} (hx : ImgOk x) : ObjOk (yO x) := by
  unfold yO
  by_cases h0 : objE x = 0
  · rw [if_pos h0]; exact objOk_of hx h0
  · rw [if_neg h0]; exact y0_ok
theorem y_fit {x : ImgV} (hx : ImgOk x) : YFit (yO x) := by
  unfold yO
  by_cases h0 : objE x = 0
  · rw [if_pos h0]
    obtain ⟨h1, h2, h3⟩ := oe_parts h0
    obtain ⟨⟨l1, l2, l3⟩, l4, _⟩ := ic_bound hx h1
    have z1 := hx.zero.1
    have z2 := hx.stack.1
    have h5 := fixF_len x x.code.length
    unfold roomOf at l4
    exact ⟨by simpa [objO] using l1, by simp only [objO]; omega, by simpa [objO] using h3, by simp only [objO]; omega, by simpa [objO] using l2, by simpa [objO] using l3⟩
  · rw [if_neg h0]
    exact ⟨by simp [y0O], by simp [y0O], by simp [y0O], by simp [y0O], by simp [y0O], by simp [y0O]⟩
end Go.Proofs.YtikbegmodacopaaGreatDoor
