/-
  The walks of bytes.Equal, Same, Clone, Copy.
-/
import Derived.Laws.BytesArg
import Derived.Test.YtgppbdcnpailaaaRw
namespace Go.Proofs.Ytgppbdcnpailaaa
open Go.RowKit

theorem strOfNums_inj {xs ys : List Int} (hx : bytesOk xs) (hy : bytesOk ys) : strOfNums xs = strOfNums ys ↔ xs = ys := by
  constructor
  · intro h
    have h1 : xs.map (fun n => UInt8.ofNat n.toNat) = ys.map (fun n => UInt8.ofNat n.toNat) := by rw [← strOfNums_data, ← strOfNums_data, h]
    have hl : xs.length = ys.length := by simpa using congrArg List.length h1
    apply List.ext_getElem hl
    intro i h1' h2'
    have h2 := congrArg (fun l => l[i]?) h1
    simp only [List.getElem?_map, List.getElem?_eq_getElem h1', List.getElem?_eq_getElem h2', Option.map_some, Option.some.injEq] at h2
    obtain ⟨a0, a1⟩ := hx _ (List.getElem_mem h1')
    obtain ⟨b0, b1⟩ := hy _ (List.getElem_mem h2')
    have h3 := congrArg UInt8.toNat h2
    rw [UInt8.toNat_ofNat', UInt8.toNat_ofNat', Nat.mod_eq_of_lt (by omega), Nat.mod_eq_of_lt (by omega)] at h3
    omega
  · rintro rfl
    rfl
theorem bytesEqual_any {W : World} {d N c d' N' c' : Nat} {xs ys : List Int} (hx : xs.length = N) (hy : ys.length = N') (h1 : ∀ i, i < N → W.cell? ⟨d, 0 + i, none⟩ = some (.int .u8 (xs.getD i 0))) (h2 : ∀ i, i < N' → W.cell? ⟨d', 0 + i, none⟩ = some (.int .u8 (ys.getD i 0))) (hxo : bytesOk xs) (hyo : bytesOk ys) :
    Calls Try.prog 82 #[.slice (some ⟨d, 0, none⟩) N c, .slice (some ⟨d', 0, none⟩) N' c'] W fun e W' => e = .returned (.bool (decide (xs = ys))) ∧ W' = W := by
  have q1 := run_convert_bytes_arg (P := Try.prog) W 46 5 Try.underlying46 Try.underlying5 d 0 N c xs hx h1 9 Try.underlying9
  have q2 := run_convert_bytes_arg (P := Try.prog) W 46 5 Try.underlying46 Try.underlying5 d' 0 N' c' ys hy h2 9 Try.underlying9
  have hE := hide_ (strOfNums_inj hxo hyo)
  obtain ⟨s, hs⟩ : ∃ s, s = strOfNums xs := ⟨_, rfl⟩
  obtain ⟨t, ht⟩ : ∃ t, t = strOfNums ys := ⟨_, rfl⟩
  rw [← hs] at q1 hE
  rw [← ht] at q2 hE
  clear hs ht h1 h2 hx hy
  go_enter Try.func82, Try.ntmps82
  go_wp2
  go_ret
  have hE' := hE.out
  refine ⟨?_, rfl⟩
  by_cases h : xs = ys
  · simp [h, hE'.2 h]
  · have h9 : ¬ s.toList = t.toList := fun e => h (hE'.1 (by
      rw [ByteArray.toList_eq, ByteArray.toList_eq] at e
      exact ByteArray.ext (Array.ext' e)))
    simp [h, h9]
section
variable {W : World} {B g d N c g' d' N' c' : Nat} {xs ys : List Int} {ex ex' : List Ro}
theorem Seg.cells (h : Seg W B g d N c xs ex) : W.cell? ⟨g, 0, none⟩ = some (.slice (some ⟨d, 0, none⟩) N c) ∧ ∀ i, i < N → W.cell? ⟨d, 0 + i, none⟩ = some (.int .u8 (xs.getD i 0)) := by
  obtain ⟨⟨tv, hO⟩, _, _, h4, _⟩ := h
  refine ⟨hO.cell (i := 0) rfl rfl, fun i hi => ?_⟩
  rw [Nat.zero_add]
  refine hO.cell (i := 1) rfl ?_
  rw [u8s_get (by omega), List.getD_eq_getElem?_getD]
set_option maxRecDepth 100000 in
set_option maxHeartbeats 1000000 in
/-- two segments, whichever -/
theorem Same_off (h : Seg W B g d N c xs ex) (h' : Seg W B g' d' N' c' ys ex') :
    Calls Try.prog 49 #[.pointer (some ⟨g, 0, none⟩), .pointer (some ⟨g', 0, none⟩)] W fun e W' => e = .returned (.bool (decide (xs = ys))) ∧ ∃ nq, W' = W.drewN nq := by
  obtain ⟨c0, c1⟩ := h.cells
  obtain ⟨c2, c3⟩ := h'.cells
  have n0 := h.seg.pow.bd.1
  have n2 := h'.seg.pow.bd.1
  have hq := hide_ (fun q : Nat => bytesEqual_any (W := W.drewN q) (c := c) (c' := c') h.len h'.len c1 c3 h.ok h'.ok)
  clear c1 c3 h h'
  go_enter Try.func49, Try.ntmps49
  go_wp2
  go_quiet (first
    | (go_at_call 76; exact Calls.quiet_of_same (made_any _ _ _ _ _ (by first | exact c0 | exact c2) (by first | exact n0 | exact n2)))
    | (go_at_call 82; exact Calls.quiet_of_same (hq.out _)))
  go_wp2
  go_ret
  exact ⟨rfl, _, rfl⟩
end
end Go.Proofs.Ytgppbdcnpailaaa
