/-
  ListNames: the examples of the chapter: plain values.
-/
import Derived.Test.YtikbegmodacopaaGreatDoorB27
namespace Go.Proofs.YtikbegmodacopaaGreatDoor
open Go.RowKit Go.PlainAid Go.BigFrame Go.Shelf
set_option linter.unusedSimpArgs false
set_option linter.unusedVariables false
set_option maxRecDepth 100000
def smpJ (j : List Int) : ImgV := { smpI with jumps := j }
def smpN : ImgV := { smpI with names := [⟨⟨#[109, 97, 105, 110]⟩, 8⟩] }
theorem smpJ_ok (j : List Int) (h : ∀ x ∈ j, 0 ≤ x ∧ x < 4294967296) (hl : j.length ≤ 2) : ImgOk (smpJ j) := by
  obtain ⟨h1, h2, h3, h4, h5, h6, h7, h8, h9, h10⟩ := smp_ok
  exact ⟨h1, h, h3, h4, h5, h6, h7, by show j.length ≤ _; omega, h9, h10⟩
theorem nms_1 : objE (smpJ [5, 5]) = 120 := by decide +kernel
theorem nms_2 : objE (smpJ [8]) = 120 := by decide +kernel
theorem nms_3 : objE smpN = 120 := by decide +kernel
theorem nms_b : begB (smpJ [7]) = true := by decide +kernel
theorem nms_p : plc (smpJ [7]) = [0, 1, 5, 7] := (plc_eq (smpJ_ok [7] (by decide) (by decide)) nms_b).trans (by decide +kernel)
theorem nms_4 : objE (smpJ [7]) = 0 := by unfold objE; rw [nms_p, if_neg (by decide +kernel), if_neg (by decide +kernel), if_neg (by decide)]
theorem nms_t : (objO (smpJ [7])).targets = [⟨#[97, 116, 55]⟩] := by
  show [natS 7] = _
  decide +kernel
theorem nms_x : txtE smpN = 120 := by rw [txtE, if_neg (by rw [nms_3]; decide), nms_3]
theorem nms_l1 : lineS 10 0 = ⟨#[112, 111, 112]⟩ := by decide +kernel
theorem nms_l2 : opChk 10 0 = 0 := by decide +kernel
theorem nms_l3 : opChk 12 15 = 71 := by decide +kernel
def exB : List Int := [3, 8, 0, 10, 255, 1]
theorem nms_bytes : isBytes exB := by unfold isBytes exB; decide
theorem nms_st : steps exB = [⟨0, 3, 8⟩, ⟨3, 10, 0⟩] := by kernel_rfl
theorem nms_dl : dumpL exB = [rowS 0 [3, 8, 0] (lineS 3 8), rowS 3 [10] (lineS 10 0), rowS 4 [255, 1] e0C] := by
  unfold dumpL
  rw [nms_st]
  kernel_rfl
theorem x6_small {n : Nat} (h : n < 16) : xdS 6 n = zerT 5 ++ hxT n := by unfold xdS; rw [xdN_small h, hxT_size]
theorem x2_small {n : Nat} (h : n < 16) : xdS 2 n = zerT 1 ++ hxT n := by unfold xdS; rw [xdN_small h, hxT_size]
theorem x2_255 : xdS 2 255 = hxT 15 ++ hxT 15 := by
  have e : xdN 255 = hxT 15 ++ hxT 15 := by rw [xdN_big (by decide), xdN_small (by decide)]
  unfold xdS
  rw [e]
  decide +kernel
theorem nms_r1 : rowS 0 [3, 8, 0] (lineS 3 8) = ⟨#[48, 48, 48, 48, 48, 48, 32, 32, 48, 51, 32, 48, 56, 32, 48, 48, 32, 32, 32, 32, 32, 32, 32, 32, 101, 110, 116, 101, 114, 32, 56, 10]⟩ := by
  have e : rowH 0 [3, 8, 0] = ⟨#[48, 48, 48, 48, 48, 48, 32, 32, 48, 51, 32, 48, 56, 32, 48, 48]⟩ := by
    show xdS 6 0 ++ _ ++ catL [⟨#[32]⟩ ++ xdS 2 3, ⟨#[32]⟩ ++ xdS 2 8, ⟨#[32]⟩ ++ xdS 2 0] = _
    rw [x6_small (by decide), x2_small (by decide), x2_small (by decide), x2_small (by decide)]
    decide +kernel
  unfold rowS
  rw [e]
  decide +kernel
theorem nms_r2 : rowS 3 [10] (lineS 10 0) = ⟨#[48, 48, 48, 48, 48, 51, 32, 32, 48, 97, 32, 32, 32, 32, 32, 32, 32, 32, 32, 32, 32, 32, 32, 32, 112, 111, 112, 10]⟩ := by
  have e : rowH 3 [10] = ⟨#[48, 48, 48, 48, 48, 51, 32, 32, 48, 97]⟩ := by
    show xdS 6 3 ++ _ ++ catL [⟨#[32]⟩ ++ xdS 2 10] = _
    rw [x6_small (by decide), x2_small (by decide)]
    decide +kernel
  unfold rowS
  rw [e]
  decide +kernel
theorem nms_r3 : rowS 4 [255, 1] e0C = ⟨#[48, 48, 48, 48, 48, 52, 32, 32, 102, 102, 32, 48, 49, 10]⟩ := by
  have e : rowH 4 [255, 1] = ⟨#[48, 48, 48, 48, 48, 52, 32, 32, 102, 102, 32, 48, 49]⟩ := by
    show xdS 6 4 ++ _ ++ catL [⟨#[32]⟩ ++ xdS 2 255, ⟨#[32]⟩ ++ xdS 2 1] = _
    rw [x6_small (by decide), x2_255, x2_small (by decide)]
    decide +kernel
  unfold rowS
  rw [e]
  decide +kernel
theorem nms_d : dumpS exB = ⟨([48, 48, 48, 48, 48, 48, 32, 32, 48, 51, 32, 48, 56, 32, 48, 48, 32, 32, 32, 32, 32, 32, 32, 32, 101, 110, 116, 101, 114, 32, 56, 10, 48, 48, 48, 48, 48].append [51, 32, 32, 48, 97, 32, 32, 32, 32, 32, 32, 32, 32, 32, 32, 32, 32, 32, 32, 112, 111, 112, 10, 48, 48, 48, 48, 48, 52, 32, 32, 102, 102, 32, 48, 49, 10]).toArray⟩ := by
  rw [(dumpS_small (b := exB) (by decide)).1, nms_dl, nms_r1, nms_r2, nms_r3]
  decide +kernel
theorem nms_e : dumpE exB = 0 := by decide
end Go.Proofs.YtikbegmodacopaaGreatDoor
