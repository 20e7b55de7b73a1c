/-
  The walk of the statement ListLines.
-/
import Derived.Test.YtnkfjileaonemaaDoorLine
namespace Go.Proofs.YtnkfjileaonemaaDoor
open Go.RowKit
set_option linter.unusedSimpArgs false
set_option linter.unusedVariables false
set_option maxHeartbeats 1000000 in
theorem ListLines_walk (op arg : Int) (w : World) (h0 : (Lit.int .u8 op).wf = true) (h1 : (Lit.int .u32 arg).wf = true) (hT : TabOk w) :
    Calls Tryd.prog 3 #[.int .u8 op, .int .u32 arg] w fun e w' => e = .returned (.bool true) ∧ Below w.heap.size w w' := by
  have q : 0 ≤ op ∧ op ≤ 255 := by simp [Lit.wf, IntKind.min, IntKind.max, IntKind.bits, IntKind.signed] at h0; omega
  have a : 0 ≤ arg ∧ arg < 4294967296 := by simp [Lit.wf, IntKind.min, IntKind.max, IntKind.bits, IntKind.signed] at h1; omega
  obtain ⟨q0, q1⟩ := q
  obtain ⟨a0, a1⟩ := a
  have L := hide_ (Line_any op arg q0 q1 a0 a1 w hT)
  have R := hide_ (fun w => rLine_any op arg q0 q1 a0 a1 w)
  obtain ⟨s, hs⟩ : ∃ s, s = lineS op arg := ⟨_, rfl⟩
  obtain ⟨k, hk⟩ : ∃ k, k = opChk op arg := ⟨_, rfl⟩
  rw [← hs, ← hk] at L R
  clear hs hk h0 h1 hT
  go_enter Tryd.func3, Tryd.ntmps3
  go_wp2_with fail
  refine L.out.mono ?_
  rintro e w1 ⟨rfl, hb⟩
  have HB := hide_ hb
  clear hb
  go_wp2_with fail
  refine (R.out _).mono ?_
  rintro e w2 ⟨rfl, hb2⟩
  have HB2 := hide_ (HB.out.trans (hb2.mono HB.out.size))
  clear hb2
  go_wp2
  go_ret
  exact ⟨rfl, HB2.out⟩
end Go.Proofs.YtnkfjileaonemaaDoor
