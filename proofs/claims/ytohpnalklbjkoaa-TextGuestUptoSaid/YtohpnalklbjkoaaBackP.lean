/-
  The plain law of TextBack: what the literal of bytes stands for is these bytes.
-/
import Derived.Test.YtohpnalklbjkoaaBytesP
namespace Go.Proofs.Ytohpnalklbjkoaa
open Go.RowKit Go.PlainAid

/-- these numbers stand at a place of a text -/
def HasAt (S : ByteArray) (i : Nat) (l : List Int) : Prop := i + l.length ≤ S.size ∧ ∀ j, j < l.length → (bn S (i + j) : Int) = l[j]?.getD 0
theorem HasAt.left {S : ByteArray} {i : Nat} {l m : List Int} (h : HasAt S i (l ++ m)) : HasAt S i l := by
  obtain ⟨h1, h2⟩ := h
  rw [List.length_append] at h1 h2
  refine ⟨by omega, fun j hj => ?_⟩
  rw [h2 j (by omega), List.getElem?_append_left hj]
theorem HasAt.right {S : ByteArray} {i : Nat} {l m : List Int} (h : HasAt S i (l ++ m)) : HasAt S (i + l.length) m := by
  obtain ⟨h1, h2⟩ := h
  rw [List.length_append] at h1 h2
  refine ⟨by omega, fun j hj => ?_⟩
  have := h2 (l.length + j) (by omega)
  rw [List.getElem?_append_right (by omega), Nat.add_sub_cancel_left, ← Nat.add_assoc] at this
  exact this
theorem strOf_has (l : List Int) (h : ∀ x ∈ l, isByte x) : HasAt (strOfNums l) 0 l := by
  refine ⟨by rw [strOfNums_size]; omega, fun j hj => ?_⟩
  have hk : j < (strOfNums l).size := by rw [strOfNums_size]; exact hj
  rw [Nat.zero_add, ← bn_eq _ _ hk]
  obtain ⟨h0, h1⟩ := h (l[j]) (List.getElem_mem hj)
  rw [List.getElem?_eq_getElem hj, Option.getD_some]
  show ((((strOfNums l).data[j]'hk).toNat : Nat) : Int) = l[j]
  simp only [strOfNums, List.getElem_toArray, List.getElem_map]
  rw [UInt8.toNat_ofNat', Nat.mod_eq_of_lt (by omega)]
  omega
theorem hexD_nib (d : Int) (h0 : 0 ≤ d) (h1 : d < 16) : hexD (nibN d) = d := by
  unfold nibN hexD
  by_cases h : d < 10
  · rw [if_pos h, if_pos (by omega)]; omega
  · rw [if_neg h, if_neg (by omega), if_pos (by omega)]; omega
theorem hexW_two (S : ByteArray) (i : Nat) (x : Int) (h0 : 0 ≤ x) (h1 : x ≤ 255) (hs : i + 2 ≤ S.size) (a : (bn S i : Int) = nibN (x / 16)) (b : (bn S (i + 1) : Int) = nibN (x % 16)) : hexW S i 2 = x := by
  have d1 := hexD_nib (x / 16) (by omega) (by omega)
  have d2 := hexD_nib (x % 16) (by omega) (by omega)
  unfold hexW
  rw [if_pos hs]
  have e1 : hexN S i 1 = x / 16 := by
    rw [hexN, hexN, Nat.add_zero, a, d1, if_neg (by omega)]
    omega
  rw [hexN, e1, b, d2, if_neg (by omega)]
  omega
theorem say_escd (S : ByteArray) (i : Nat) (c : Int) (k : Nat) (h : bn S i = 92) (he : escN S i = some (c, true, k)) :
    bn S i ≠ 34 ∧ (sayN S i).2.2.2 = 0 ∧ (sayN S i).2.2.1 = k ∧ sayZ S i = [c] := by
  have e0 : sayN S i = (c, true, k, 0) := by unfold sayN; rw [if_pos h, he]
  refine ⟨by omega, by rw [e0], by rw [e0], by unfold sayZ; rw [e0]; rfl⟩
theorem show_say (S : ByteArray) (i : Nat) (x : Int) (hx : isByte x) (h : HasAt S i (showB x)) :
    bn S i ≠ 34 ∧ (sayN S i).2.2.2 = 0 ∧ (sayN S i).2.2.1 = (showB x).length ∧ sayZ S i = [x] := by
  obtain ⟨hs, hb⟩ := h
  rcases show_ways x hx with hw | hw | hw
  · have two : ∀ c : Int, showB x = [92, c] → i + 1 < S.size ∧ bn S i = 92 ∧ (bn S (i + 1) : Int) = c := by
      intro c hc
      rw [hc] at hs hb
      have b0 := hb 0 (by simp)
      have b1 := hb 1 (by simp)
      simp at b0 b1 hs
      exact ⟨by omega, by omega, b1⟩
    rcases hw with rfl | rfl | rfl | rfl | rfl | rfl
    · obtain ⟨g0, g1, g2⟩ := two 110 rfl
      exact say_escd S i 10 2 g1 (by unfold escN; rw [if_neg (by omega), if_pos (by omega)])
    · obtain ⟨g0, g1, g2⟩ := two 116 rfl
      exact say_escd S i 9 2 g1 (by unfold escN; rw [if_neg (by omega), if_neg (by omega), if_pos (by omega)])
    · obtain ⟨g0, g1, g2⟩ := two 114 rfl
      exact say_escd S i 13 2 g1 (by unfold escN; rw [if_neg (by omega), if_neg (by omega), if_neg (by omega), if_pos (by omega)])
    · obtain ⟨g0, g1, g2⟩ := two 48 rfl
      exact say_escd S i 0 2 g1 (by unfold escN; rw [if_neg (by omega), if_neg (by omega), if_neg (by omega), if_neg (by omega), if_pos (by omega)])
    · obtain ⟨g0, g1, g2⟩ := two 34 rfl
      exact say_escd S i 34 2 g1 (by unfold escN; rw [if_neg (by omega), if_neg (by omega), if_neg (by omega), if_neg (by omega), if_neg (by omega), if_pos (by omega), g2])
    · obtain ⟨g0, g1, g2⟩ := two 92 rfl
      exact say_escd S i 92 2 g1 (by unfold escN; rw [if_neg (by omega), if_neg (by omega), if_neg (by omega), if_neg (by omega), if_neg (by omega), if_pos (by omega), g2])
  · have e := showB_self x hw
    rw [e] at hs hb
    have b0 := hb 0 (by simp)
    simp at b0 hs
    have hlt : i < S.size := by omega
    have hd := decode_ascii S i hlt (by rw [bn_eq S i hlt]; omega)
    rw [bn_eq S i hlt] at hd
    have hl : ¬ lost S i := by unfold lost; rw [hd]; simp; omega
    have e0 : sayN S i = ((bn S i : Int), false, 1, 0) := by
      unfold sayN
      rw [if_neg (by omega), if_neg (by omega), if_neg hl]
      unfold cutN
      rw [hd]
    refine ⟨by omega, by rw [e0], by rw [e0, e]; rfl, ?_⟩
    unfold sayZ
    rw [e0]
    simp only [Bool.false_eq_true, if_false]
    rw [Lib.encodeRuneZ_one (by omega) (by omega), b0]
  · have e := showB_hex x hw
    rw [e] at hs hb
    have b0 := hb 0 (by simp)
    have b1 := hb 1 (by simp)
    have b2 := hb 2 (by simp)
    have b3 := hb 3 (by simp)
    simp at b0 b1 b2 b3 hs
    have hw2 := hexW_two S (i + 2) x hx.1 hx.2 (by omega) b2 b3
    have := say_escd S i x 4 (by omega) (by
      unfold escN
      rw [if_neg (by omega), if_neg (by omega), if_neg (by omega), if_neg (by omega), if_neg (by omega), if_neg (by omega), if_pos (by omega), hw2, if_neg (by have := hx.1; omega)])
    rw [e]
    exact this
theorem back_at (S : ByteArray) : ∀ (xs : List Int) (f i : Nat), (∀ x ∈ xs, isByte x) → HasAt S i (xs.flatMap showB ++ [34]) → i + (xs.flatMap showB ++ [34]).length = S.size → S.size ≤ i + f → bytesAt S f i = (some xs, 0, 0) := by
  intro xs
  induction xs with
  | nil =>
    intro f i _ h he hf
    obtain ⟨h1, h2⟩ := h
    have b0 := h2 0 (by simp)
    simp at b0 h1 he
    obtain ⟨g, rfl⟩ : ∃ g, f = g + 1 := ⟨f - 1, by omega⟩
    rw [bytesAt, if_neg (by omega), if_pos (by omega), if_neg (by omega)]
  | cons x xs ih =>
    intro f i hx h he hf
    rw [List.flatMap_cons, List.append_assoc] at h he
    obtain ⟨g1, g2, g3, g4⟩ := show_say S i x (hx x (by simp)) h.left
    have hr := h.right
    have hpos : 0 < (showB x).length := by
      unfold showB
      repeat' split
      all_goals simp
    have hl := h.left.1
    rw [List.length_append] at he
    obtain ⟨g, rfl⟩ : ∃ g, f = g + 1 := ⟨f - 1, by omega⟩
    have hs := bytesAt_step S g i (by omega) g1 g2 []
    rw [addTo_nil] at hs
    rw [hs, g3, g4, ih g (i + (showB x).length) (fun y hy => hx y (by simp [hy])) hr (by omega) (by omega)]
    rfl
theorem bytes_show (xs : List Int) (h : ∀ x ∈ xs, isByte x) : bytesN (strOfNums (showL xs)) = (some xs, 0, 0) := by
  have hh := strOf_has (showL xs) (showL_byte xs h)
  have hsz := strOfNums_size (showL xs)
  have hl : showL xs = [34] ++ (xs.flatMap showB ++ [34]) := by simp [showL, showM]
  have h1 : HasAt (strOfNums (showL xs)) 0 ([34] ++ (xs.flatMap showB ++ [34])) := by rw [← hl]; exact hh
  have b0 := h1.left.2 0 (by simp)
  simp at b0
  have hlen : (showL xs).length = 1 + (xs.flatMap showB ++ [34]).length := by rw [hl, List.length_append]; rfl
  unfold bytesN
  rw [if_neg (by omega), if_neg (by omega)]
  exact back_at _ xs _ 1 h h1.right (by omega) (by omega)
theorem nib_print (x : Int) (h0 : 0 ≤ x) (h1 : x < 16) : 32 ≤ nibN x ∧ nibN x ≤ 126 := by unfold nibN; split <;> omega
theorem show_print (xs : List Int) (h : ∀ x ∈ xs, isByte x) : ∀ y ∈ showL xs, 32 ≤ y ∧ y ≤ 126 := by
  intro y hy
  simp only [showL, showM, List.mem_append, List.mem_cons, List.mem_flatMap, List.not_mem_nil, or_false] at hy
  rcases hy with (rfl | ⟨c, hc, hy⟩) | rfl
  · omega
  · have hcb := h c hc
    have n1 := nib_print (c / 16) (by have := hcb.1; omega) (by have := hcb.2; omega)
    have n2 := nib_print (c % 16) (by omega) (by omega)
    unfold showB at hy
    repeat' split at hy
    all_goals
      simp only [List.mem_cons, List.not_mem_nil, or_false] at hy
    all_goals first
      | (rcases hy with rfl | rfl | rfl | rfl <;> first | exact n1 | exact n2 | omega)
      | (rcases hy with rfl | rfl <;> omega)
      | (subst hy; omega)
  · omega
theorem showM_ge (xs : List Int) : xs.length + 1 ≤ (showM xs).length := by
  unfold showM
  rw [List.length_cons]
  induction xs with
  | nil => simp
  | cons c l ih =>
    have : 1 ≤ (showB c).length := by
      unfold showB
      repeat' split
      all_goals simp
    rw [List.flatMap_cons]
    simp only [List.length_append, List.length_cons] at ih ⊢
    omega
end Go.Proofs.Ytohpnalklbjkoaa
