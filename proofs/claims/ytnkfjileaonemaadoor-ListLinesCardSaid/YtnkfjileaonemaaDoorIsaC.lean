/-
  isa.Check.
-/
import Derived.Test.YtnkfjileaonemaaDoorIsa
namespace Go.Proofs.YtnkfjileaonemaaDoor
open Go.RowKit
set_option linter.unusedSimpArgs false
set_option linter.unusedVariables false
/-- what Check answers -/
def opChk (op arg : Int) : Int := if opOk op then (if ((opR op).most : Int) < arg then 71 else 0) else 70
set_option maxHeartbeats 1000000 in
theorem Check_any (op arg : Int) (w : World) : Calls Tryd.prog 6 #[.agg #[.int .u8 op, .int .u32 arg]] w fun e w' => e = .returned (.int .i64 (opChk op arg)) ∧ Below w.heap.size w w' := by
  obtain ⟨r, hr⟩ : ∃ r, r = opR op := ⟨_, rfl⟩
  obtain ⟨b, hb⟩ : ∃ b, b = opOk op := ⟨_, rfl⟩
  have HI := hide_ (fun w => Info_any op w)
  unfold opV at HI
  unfold opChk
  rw [← hr, ← hb] at HI ⊢
  clear hr hb
  unfold opCells at HI
  cases b
  · go_enter Tryd.func6, Tryd.ntmps6
    go_wp2_with fail
    refine (HI.out _).mono ?_
    rintro e w1 ⟨rfl, hb⟩
    have HB := hide_ (show Below w.heap.size w w1 from ((Below.refl _ _).alloc (Nat.le_refl _) _).trans (hb.mono (by simp)))
    clear hb
    go_wp2
    go_ret
    exact ⟨rfl, (HB.out).alloc HB.out.size _⟩
  · by_cases hm : ((r.most : Int) < arg)
    all_goals
      go_enter Tryd.func6, Tryd.ntmps6
      go_wp2_with fail
      refine (HI.out _).mono ?_
      rintro e w1 ⟨rfl, hb⟩
      have hc := (hb.cell (p := ⟨w.heap.size, 1, none⟩) (by simp)).trans (show (w.alloc (.cells #[.int .u8 op, .int .u32 arg] 28)).cell? ⟨w.heap.size, 1, none⟩ = some (.int .u32 arg) from by simp)
      have hz : w.heap.size < w1.heap.size := by have := hb.size; simp at this; omega
      have HB := hide_ (show Below w.heap.size w w1 from ((Below.refl _ _).alloc (Nat.le_refl _) _).trans (hb.mono (by simp)))
      clear hb
      go_wp2
      go_ret
      exact ⟨by simp [hm], (HB.out).alloc HB.out.size _⟩
end Go.Proofs.YtnkfjileaonemaaDoor
