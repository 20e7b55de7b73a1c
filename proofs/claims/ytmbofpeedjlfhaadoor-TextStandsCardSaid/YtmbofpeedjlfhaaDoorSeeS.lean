/-
  A list of texts that came in: what its reading says of its cells; the statement TextStands over it.
-/
import Derived.Test.YtmbofpeedjlfhaaDoorSee
import Derived.Test.YtmbofpeedjlfhaaDoorTokL
namespace Go.Proofs.YtmbofpeedjlfhaaDoor
set_option maxRecDepth 100000
open Go.RowKit

section
variable {H : Type} {enc : TypeId × Value → H} {P : Program} {w : World} {held : Bool}
theorem seen_strs {t e : TypeId} {cs : List Value} (ht : P.underlying t = some (.slice e)) (he : P.underlying e = some .string) (hc : P.cellsOf e = 1) (h : Seen enc P w held t cs) :
    ∃ (A : Option Addr) (n c : Nat) (xs : List ByteArray), cs = [.slice A n c] ∧ n ≤ c ∧ c ≤ maxLen ∧ c * P.bytesOf e ≤ reachBytes ∧ Reads w w.heap.size 1 A n (xs.map Value.string) ∧ ∀ x ∈ xs, x.size ≤ reachBytes := by
  obtain ⟨A, n, c, rfl, h1, h2, h3, h4⟩ := seen_slice ht (by omega) h
  rcases Nat.eq_zero_or_pos n with rfl | hn
  · exact ⟨A, 0, c, [], rfl, h1, h2, h3, ⟨by simp, fun h => absurd h (by omega)⟩, by simp⟩
  · obtain ⟨ad, rfl, hb, hi⟩ := h4 hn
    have hv : ∀ i, i < n → ∃ a : ByteArray, w.cell? (ad.add i) = some (.string a) ∧ a.size ≤ reachBytes := by
      intro i hlt
      obtain ⟨vs, hl, hcell, hs⟩ := hi i hlt
      obtain ⟨a, rfl, hw⟩ := seen_string he hs
      have := hcell 0 (by omega)
      rw [hc, Nat.mul_one, add_of_add, Nat.add_zero] at this
      exact ⟨a, this, hw⟩
    obtain ⟨f, hf⟩ := skolem_lt hv
    refine ⟨some ad, n, c, (List.range n).map f, rfl, h1, h2, h3, ⟨by simp, fun _ => ⟨ad, rfl, hb, fun j u hu => ?_⟩⟩, fun x hx => ?_⟩
    · have hj : j < n := by
        have := (List.getElem?_eq_some_iff.1 hu).1
        simpa using this
      have hu' : u = .string (f j) := by simpa [hj] using hu.symm
      rw [(hf j hj).1, hu']
    · obtain ⟨j, hj, rfl⟩ := List.mem_map.1 hx
      exact (hf j (List.mem_range.1 hj)).2
end
/-- what an argument of type []string is -/
theorem strs_arg {H : Type} {enc : TypeId × Value → H} {base : Nat} {v : Value} {w : World} (hv : Value.okWide Tryd.prog w .any base 22 v) (h : Seen enc Tryd.prog w true 22 v.cells.toList) :
    ∃ (A : Option Addr) (n c : Nat) (xs : List ByteArray), v = .slice A n c ∧ n ≤ c ∧ c * 16 ≤ 140737488351232 ∧ Reads w w.heap.size 1 A n (xs.map Value.string) ∧ ∀ x ∈ xs, x.size ≤ 140737488351232 := by
  obtain ⟨a, len, cap, rfl⟩ := WideShapes.okWide_slice Tryd.underlying22 hv
  obtain ⟨A, n, c, xs, hcs, h1, h2, h3, h4, h5⟩ := seen_strs Tryd.underlying22 Tryd.underlying9 (by kernel_rfl) h
  simp [Value.cells] at hcs
  obtain ⟨rfl, rfl, rfl⟩ := hcs
  rw [show Tryd.prog.bytesOf 9 = 16 by kernel_rfl] at h3
  exact ⟨_, _, _, xs, rfl, h1, h3, h4, h5⟩
theorem TextStands_raw {H : Type} {enc : TypeId × Value → H} {base : Nat} (s : ByteArray) (v : Value) (w : World) (hz : s.size ≤ 140737488351232) (hv : Value.okWide Tryd.prog w .any base 22 v) (h : Seen enc Tryd.prog w true 22 v.cells.toList) :
    Calls Tryd.prog 4 #[.string s, v] w fun e w' => e = .returned (.bool true) ∧ Below w.heap.size w w' := by
  obtain ⟨A, n, c, xs, rfl, h1, h2, h3, h4⟩ := strs_arg hv h
  clear hv h
  exact TextStands_walk s A n c xs w hz (by omega) h1 h3
end Go.Proofs.YtmbofpeedjlfhaaDoor
