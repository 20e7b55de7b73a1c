/-
  A row behind slices.SortFunc: a row that the call owns, sorted where it lies.
-/
import Derived.Shelf.SlSortCmp.WholeK
import Derived.Test.YtgppbdcnpailaaaGSome
namespace Go.Proofs.Ytgppbdcnpailaaa
open Go.RowKit Go.Sort Go.Shelf Go.Lib
set_option linter.unusedVariables false

section
variable {α : Type} [Inhabited α] {enc : α → List Value} {k : Nat}
theorem flatK_get (d : Array α) {t : Nat} (h : t < d.size * k) : (flatK enc k d)[t]? = some (enc d[t / k]!)[t % k]! := by
  have h1 := get_flatK enc k d t h
  rw [getElem!_pos _ t (by rw [size_flatK]; exact h)] at h1
  rw [Array.getElem?_eq_getElem (by rw [size_flatK]; exact h), h1]
theorem holds_of_own {w : World} {B g n c : Nat} {e : TypeId} {d : Array α} (h : w.ownsRow B e k (.slice (some ⟨g, 0, none⟩) n c) n (flatK enc k d).toList) : HoldsK enc k w g 0 d := by
  intro j hj
  rw [size_flatK] at hj
  have hg := flatK_get (enc := enc) d hj
  have h1 := h.cells (g := g) rfl j _ (by rw [Array.getElem?_toList]; exact hg)
  have e1 : (⟨g, 0, none⟩ : Addr).add j = ⟨g, j, none⟩ := by unfold Addr.add; split <;> simp_all
  rw [e1] at h1
  rw [get_flatK _ _ _ _ hj, Nat.zero_add]
  refine ⟨h1, ?_⟩
  rcases h.2 with ⟨h2, _⟩ | ⟨g', cap, cur, hv, _, hgg, _⟩
  · cases h2
  · injection hv with hv _ _
    injection hv with hv
    injection hv with hv
    subst hv
    simp [World.frozen?, hgg]
theorem ownsRow_sorted {w : World} {B g n c : Nat} {e : TypeId} {d d' : Array α} (h : w.ownsRow B e k (.slice (some ⟨g, 0, none⟩) n c) n (flatK enc k d).toList) (hn : n = d.size) (hs : d'.size = d.size) (m : Nat) (os : Array Obj) :
    (sortWorldK enc k w g 0 m d' os).ownsRow B e k (.slice (some ⟨g, 0, none⟩) n c) n (flatK enc k d').toList := by
  refine ⟨by simp [hn, hs], ?_⟩
  rcases h.2 with ⟨h2, _⟩ | ⟨g', cap, cur, hv, hB, hg, hnc, hcm, hcs, htk⟩
  · cases h2
  · injection hv with hv _ hv3
    injection hv with hv
    injection hv with hv
    subst hv hv3
    refine .inr ⟨g, c, putCells id 0 (flatK enc k d') cur, rfl, hB, ?_, hnc, hcm, by simp [putCells, hcs], ?_⟩
    · have hlt : g < w.heap.size := (Array.getElem?_eq_some_iff.1 hg).1
      unfold sortWorldK
      rw [heap_grow_old _ _ (by rw [size_putRowK]; exact hlt)]
      simp only [putRowK, putRow, mapBlock, Sort.ahead, Array.getElem?_modify, if_true, hg, Option.map_some, onCells]
    · have hl : n * k ≤ cur.size := by rw [hcs]; exact Nat.mul_le_mul_right k hnc
      apply List.ext_getElem?
      intro j
      rw [List.getElem?_take]
      by_cases hj : j < n * k
      · rw [if_pos hj, Array.getElem?_toList, Array.getElem?_toList]
        have hj' : j < d'.size * k := by rw [hs, ← hn]; exact hj
        rw [flatK_get d' hj']
        have hjc : j < cur.size := by omega
        simp only [putCells, Array.getElem?_mapIdx, Array.getElem?_eq_getElem hjc, Option.map_some, size_flatK, Nat.zero_le, Nat.zero_add, true_and, Nat.sub_zero, id]
        rw [if_pos hj', get_flatK _ _ _ _ hj']
      · rw [if_neg hj, List.getElem?_eq_none (by simp [hs, ← hn]; omega)]
theorem grown_sorted (w : World) (g m : Nat) (d' : Array α) (os : Array Obj) (hg : g < w.heap.size) : w.grownBy (sortWorldK enc k w g 0 m d' os) (some g) := by
  refine ⟨rfl, rfl, rfl, by unfold sortWorldK; rw [size_grow, size_putRowK]; exact Nat.le_add_right _ _, fun j hj hne => ?_⟩
  unfold sortWorldK
  rw [heap_grow_old _ _ (by rw [size_putRowK]; exact hj)]
  simp only [putRowK, putRow, mapBlock, Sort.ahead, Array.getElem?_modify]
  rw [if_neg (fun e => hne (by rw [e]))]
end

/-! ### grants, sorted by number: as a word of 32 bits and a number -/
abbrev GU := UInt32 × Int
def ofU (t : GU) : Int × Int := ((t.1.toNat : Int), t.2)
def toU (t : Int × Int) : GU := (UInt32.ofNat t.1.toNat, t.2)
def encU (t : GU) : List Value := [.int .u32 (ofU t).1, .int .i64 (ofU t).2]
theorem ofU_toU {t : Int × Int} (h0 : 0 ≤ t.1) (h1 : t.1 < 4294967296) : ofU (toU t) = t := by
  obtain ⟨x, a⟩ := t
  simp only at h0 h1
  obtain ⟨n, rfl⟩ := Int.eq_ofNat_of_zero_le h0
  have hn : n < 4294967296 := by omega
  simp only [ofU, toU, Int.toNat_natCast, UInt32.toNat_ofNat', Prod.mk.injEq, and_true]
  omega
theorem ofU_bd (t : GU) : 0 ≤ (ofU t).1 ∧ (ofU t).1 < 4294967296 := by
  have h := t.1.toNat_lt
  show 0 ≤ (t.1.toNat : Int) ∧ (t.1.toNat : Int) < 4294967296
  omega
theorem flatU (d : Array GU) : (flatK encU 2 d).toList = gCells (d.toList.map ofU) := by
  apply List.ext_getElem?
  intro j
  rw [Array.getElem?_toList]
  by_cases hj : j < d.size * 2
  · rw [flatK_get (enc := encU) (k := 2) d hj]
    have hj2 : j / 2 < d.size := by omega
    have ht : (d.toList.map ofU)[j / 2]? = some (ofU d[j / 2]!) := by
      rw [List.getElem?_map, Array.getElem?_toList, getElem!_pos d _ hj2, Array.getElem?_eq_getElem hj2]
      rfl
    obtain ⟨g0, g1⟩ := gCells_get _ ht
    rcases Nat.mod_two_eq_zero_or_one j with h2 | h2
    · rw [show j / 2 * 2 = j by omega] at g0
      rw [h2, g0]
      rfl
    · rw [show j / 2 * 2 + 1 = j by omega] at g1
      rw [h2, g1]
      rfl
  · rw [Array.getElem?_eq_none (by simp; omega), List.getElem?_eq_none (by rw [gCells_len]; simp; omega)]
def cfU (a b : GU) : Int := (ofU a).1 - (ofU b).1
theorem ltU (a b : GU) : ltOf cfU a b = decide ((ofU a).1 < (ofU b).1) := by
  unfold ltOf cfU
  by_cases h : (ofU a).1 < (ofU b).1
  · rw [decide_eq_true h]; simp; omega
  · rw [decide_eq_false h]; simp; omega
theorem swoU : SWO (ltOf cfU) where
  irrefl x := by rw [ltU]; simp
  trans x y z h1 h2 := by rw [ltU] at *; simp at *; omega
  ntrans x y z h1 h2 := by rw [ltU] at *; simp at *; omega
end Go.Proofs.Ytgppbdcnpailaaa
