/-
  An instruction's line: list.joined, list.Line, the document's Line.
-/
import Derived.Test.YtnkfjileaonemaaDoorSgn
import Derived.Test.YtnkfjileaonemaaDoorIsaT
namespace Go.Proofs.YtnkfjileaonemaaDoor
open Go.RowKit Go.PlainAid Go.BigFrame
set_option linter.unusedSimpArgs false
set_option linter.unusedVariables false
theorem join3 (a b c : List UInt8) : Lib.join [a, b, c] [] = a ++ b ++ c := by
  rw [Lib.join_cons]
  simp [Lib.joinTail]
theorem joined3 (bk : Nat) (a b c : ByteArray) (W : World) (h : W.heap[bk]? = some (.cells #[.string a, .string b, .string c] 9 (0, 0))) (hs : a.size + b.size + c.size ≤ 140737488355328) :
    Calls Tryd.prog 8 #[.slice (some ⟨bk, 0, none⟩) 3 3] W fun e w' => e = .returned (.string (a ++ b ++ c)) ∧ Below W.heap.size W w' := by
  have hlt : bk < W.heap.size := by
    rcases Nat.lt_or_ge bk W.heap.size with h1 | h1
    · exact h1
    · rw [Array.getElem?_eq_none h1] at h; cases h
  have hc : ∀ (j : Nat) x, [a, b, c][j]? = some x → W.cell? ⟨bk, 0 + j, none⟩ = some (.string x) := fun j x hj => by
    rw [Nat.zero_add, cell_of_row W bk j _ _ _ h]
    match j, hj with
    | 0, hj => simp at hj; subst hj; rfl
    | 1, hj => simp at hj; subst hj; rfl
    | 2, hj => simp at hj; subst hj; rfl
    | j + 3, hj => simp at hj
  have hJ := Tryd.strings_Join bk 0 3 [a, b, c] ⟨#[]⟩ W hc hlt (by simp) (Nat.le_refl _) (by
    simp only [List.map_cons, List.map_nil]
    rw [join3]
    simp
    omega)
  have e1 : (Lib.join ([a, b, c].map (·.data.toList)) (⟨#[]⟩ : ByteArray).data.toList) = a.data.toList ++ b.data.toList ++ c.data.toList := join3 _ _ _
  rw [e1, show (⟨(a.data.toList ++ b.data.toList ++ c.data.toList).toArray⟩ : ByteArray) = a ++ b ++ c from by apply ByteArray.ext; simp] at hJ
  have HJ := hide_ hJ
  clear hJ e1 hc hs h
  go_enter Tryd.func8, Tryd.ntmps8
  go_wp2_with fail
  refine HJ.out.mono ?_
  rintro e w1 ⟨rfl, hb⟩
  have HB := hide_ hb
  clear hb
  go_wp2
  go_ret
  exact ⟨rfl, HB.out⟩
/-- an instruction's line -/
def lineS (op arg : Int) : ByteArray := if opChk op arg ≠ 0 then ⟨#[]⟩ else if (opR op).width = 0 then ⟨(opR op).w.toArray⟩ else ⟨(opR op).w.toArray⟩ ++ ⟨#[32]⟩ ++ sgnT arg
theorem words_short : ∀ r ∈ opRows, r.w.length ≤ 8 := by decide
theorem opR_short (op : Int) : (opR op).w.length ≤ 8 := by
  unfold opR
  split
  · unfold opRow
    rw [List.getD_eq_getElem?_getD]
    cases h : opRows[op.toNat]? with
    | none => simp
    | some r => exact words_short r (List.mem_of_getElem? h)
  · simp
theorem sgnT_size {x : Int} (h0 : 0 ≤ x) (h1 : x < 4294967296) : (sgnT x).size ≤ 4294967298 := by
  have hd : ∀ n : Nat, (Lib.decDigits n).length ≤ n + 1 := fun n => by
    have h1 := d0_len n
    by_cases h : n = 0
    · subst h; rw [Lib.decDigits_one (by omega)]; simp
    · unfold d0 dcm at h1
      rw [if_neg h, List.length_map] at h1
      omega
  by_cases h : 2147483648 ≤ x
  · rw [sgnT_neg h h1]
    have := hd (4294967296 - x).toNat
    simp [ByteArray.size]
    omega
  · rw [sgnT_pos h0 h]
    have := hd x.toNat
    simp [ByteArray.size]
    omega
set_option maxHeartbeats 2000000 in
theorem Line_any (op arg : Int) (q0 : 0 ≤ op) (q1 : op ≤ 255) (a0 : 0 ≤ arg) (a1 : arg < 4294967296) (w : World) (hT : TabOk w) :
    Calls Tryd.prog 4 #[.agg #[.int .u8 op, .int .u32 arg]] w fun e w' => e = .returned (.tuple #[.string (lineS op arg), .int .i64 (opChk op arg)]) ∧ Below w.heap.size w w' := by
  have HC := hide_ (fun w => Check_any op arg w)
  have HI := hide_ (fun w => Info_any op w)
  have hsh := opR_short op
  unfold lineS
  obtain ⟨k, hk⟩ : ∃ k, k = opChk op arg := ⟨_, rfl⟩
  obtain ⟨r, hr⟩ : ∃ r, r = opR op := ⟨_, rfl⟩
  have hV : opV op = (opCells r).toArray := by rw [hr]; rfl
  rw [hV] at HI
  rw [← hk] at HC ⊢
  rw [← hr] at hsh ⊢
  have HT := hide_ hT
  clear hr hV hT
  unfold opCells at HI
  by_cases hk0 : k = 0
  · have hok : opOk op = true := by
      rw [hk] at hk0
      unfold opChk at hk0
      cases h : opOk op with
      | true => rfl
      | false => rw [h] at hk0; simp at hk0
    rw [hok] at HI
    clear hok hk
    subst hk0
    rw [if_neg (by simp)]
    by_cases hw : r.width = 0
    · rw [if_pos hw]
      have hwi : ((r.width : Int) == 0) = true := by rw [hw]; rfl
      clear hw
      go_enter Tryd.func4, Tryd.ntmps4
      go_wp2_with fail
      refine (HC.out _).mono ?_
      rintro e w1 ⟨rfl, hb⟩
      have hc := (hb.cell (p := ⟨w.heap.size, 0, none⟩) (by simp)).trans (show (w.alloc (.cells #[.int .u8 op, .int .u32 arg] 28)).cell? ⟨w.heap.size, 0, none⟩ = some (.int .u8 op) from by simp)
      have hz : w.heap.size < w1.heap.size := by have := hb.size; simp at this; omega
      have HB := hide_ (show Below w.heap.size w w1 from ((Below.refl _ _).alloc (Nat.le_refl _) _).trans (hb.mono (by simp)))
      clear hb
      go_wp2_with fail
      refine (HI.out _).mono ?_
      rintro e w2 ⟨rfl, hb2⟩
      have HB2 := hide_ (HB.out.trans (hb2.mono HB.out.size))
      clear hb2
      go_wp2
      go_ret2
      exact ⟨rfl, (HB2.out).alloc HB2.out.size _⟩
    · rw [if_neg hw]
      have hwi : ((r.width : Int) == 0) = false := by simpa using hw
      clear hw
      go_enter Tryd.func4, Tryd.ntmps4
      go_wp2_with fail
      refine (HC.out _).mono ?_
      rintro e w1 ⟨rfl, hb⟩
      have hc := (hb.cell (p := ⟨w.heap.size, 0, none⟩) (by simp)).trans (show (w.alloc (.cells #[.int .u8 op, .int .u32 arg] 28)).cell? ⟨w.heap.size, 0, none⟩ = some (.int .u8 op) from by simp)
      have hc1 := (hb.cell (p := ⟨w.heap.size, 1, none⟩) (by simp)).trans (show (w.alloc (.cells #[.int .u8 op, .int .u32 arg] 28)).cell? ⟨w.heap.size, 1, none⟩ = some (.int .u32 arg) from by simp)
      have hz : w.heap.size < w1.heap.size := by have := hb.size; simp at this; omega
      have HB := hide_ (show Below w.heap.size w w1 from ((Below.refl _ _).alloc (Nat.le_refl _) _).trans (hb.mono (by simp)))
      clear hb
      go_wp2_with fail
      refine (HI.out _).mono ?_
      rintro e w2 ⟨rfl, hb2⟩
      have HB2 := hide_ (HB.out.trans (hb2.mono HB.out.size))
      have hc2 := (hb2.cell (p := ⟨w.heap.size, 1, none⟩) hz).trans hc1
      have hz2 : w.heap.size < w2.heap.size := Nat.lt_of_lt_of_le hz hb2.size
      clear hb2 hc hc1
      go_wp2
      have c0 : (w2.alloc (.cells #[.string ⟨r.w.toArray⟩, .int .i64 r.width, .int .u32 r.most, .int .i64 r.takes, .int .i64 r.gives, .int .u8 r.kind] 33)).cell? ⟨w2.heap.size, 0, none⟩ = some (.string ⟨r.w.toArray⟩) := by simp
      have c1 : (w2.alloc (.cells #[.string ⟨r.w.toArray⟩, .int .i64 r.width, .int .u32 r.most, .int .i64 r.takes, .int .i64 r.gives, .int .u8 r.kind] 33)).cell? ⟨w.heap.size, 1, none⟩ = some (.int .u32 arg) := (World.cell?_alloc_lt w2 _ ⟨w.heap.size, 1, none⟩ hz2).trans hc2
      have hB0 := (HB2.out).alloc HB2.out.size (.cells #[.string ⟨r.w.toArray⟩, .int .i64 r.width, .int .u32 r.most, .int .i64 r.takes, .int .i64 r.gives, .int .u8 r.kind] 33)
      have hs0 : w2.heap.size < (w2.alloc (.cells #[.string ⟨r.w.toArray⟩, .int .i64 r.width, .int .u32 r.most, .int .i64 r.takes, .int .i64 r.gives, .int .u8 r.kind] 33)).heap.size := by simp
      generalize w2.alloc (.cells #[.string ⟨r.w.toArray⟩, .int .i64 r.width, .int .u32 r.most, .int .i64 r.takes, .int .i64 r.gives, .int .u8 r.kind] 33) = W0 at c0 c1 hB0 hs0 ⊢
      have hs1 : w.heap.size < W0.heap.size := Nat.lt_trans hz2 hs0
      generalize w2.heap.size = g5 at c0 hs0 ⊢
      have HT0 := hide_ (HT.out.below hB0)
      have HSZ := hide_ (show (⟨r.w.toArray⟩ : ByteArray).size + (⟨#[32]⟩ : ByteArray).size + (sgnT arg).size ≤ 140737488355328 by
        have := sgnT_size a0 a1
        have e1 : (⟨r.w.toArray⟩ : ByteArray).size = r.w.length := by simp [ByteArray.size]
        have e2 : (⟨#[32]⟩ : ByteArray).size = 1 := rfl
        omega)
      have SS : Hid (∀ W W', Below W0.heap.size W0 W → Below W.heap.size W W' → W'.cell? ⟨g5, 0, none⟩ = some (.string ⟨r.w.toArray⟩) ∧ W'.cell? ⟨w.heap.size, 1, none⟩ = some (.int .u32 arg) ∧ Below W0.heap.size W0 W') := hide_ fun W W' h1 h2 => by
        have h3 := h1.trans (h2.mono h1.size)
        exact ⟨(h3.cell hs0).trans c0, (h3.cell hs1).trans c1, h3⟩
      have HST := hide_ (show W0.drew.cell? ⟨g5, 0, none⟩ = some (.string ⟨r.w.toArray⟩) ∧ W0.drew.cell? ⟨w.heap.size, 1, none⟩ = some (.int .u32 arg) ∧ Below W0.heap.size W0 W0.drew from ⟨c0, c1, (Below.refl W0.heap.size W0).drew⟩)
      have SG := hide_ (fun W (h : Below W0.heap.size W0 W) => Signed_any arg a0 a1 W (HT0.out.below h))
      have HB0 := hide_ hB0
      clear hB0 hc2 hz hz2 HT
      go_region_held3 (fun W' => W'.cell? ⟨g5, 0, none⟩ = some (.string ⟨r.w.toArray⟩) ∧ W'.cell? ⟨w.heap.size, 1, none⟩ = some (.int .u32 arg) ∧ Below W0.heap.size W0 W')
        (first | exact HST.out | (go_split_ands; exact SS.out _ _ (by assumption) hb9) | (go_split_ands; exact SS.out _ _ (by assumption) ((Below.refl _ _).alloc (Nat.le_refl _) _)))
        ((first
          | (go_at_call 9; go_split_ands; refine (SG.out _ (by assumption)).mono ?_; rintro e w9 ⟨rfl, hb9⟩)
          | (go_at_call 8; go_split_ands; refine (joined3 _ _ _ _ _ (heap_alloc_new _ _) HSZ.out).mono ?_; rintro e w9 ⟨rfl, hb9⟩)))
      go_wp2
      go_ret2
      go_split_ands
      have hfin : Below W0.heap.size W0 w9 := by assumption
      exact ⟨rfl, HB0.out.trans (hfin.mono HB0.out.size)⟩
  · rw [if_pos hk0]
    have hkb : (k != 0) = true := by simpa using hk0
    clear hk hk0
    go_enter Tryd.func4, Tryd.ntmps4
    go_wp2_with fail
    refine (HC.out _).mono ?_
    rintro e w1 ⟨rfl, hb⟩
    have HB := hide_ (show Below w.heap.size w w1 from ((Below.refl _ _).alloc (Nat.le_refl _) _).trans (hb.mono (by simp)))
    clear hb
    go_wp2
    go_ret2
    exact ⟨rfl, HB.out⟩
set_option maxHeartbeats 2000000 in
theorem rLine_any (op arg : Int) (q0 : 0 ≤ op) (q1 : op ≤ 255) (a0 : 0 ≤ arg) (a1 : arg < 4294967296) (w : World) :
    Calls Tryd.prog 5 #[.agg #[.int .u8 op, .int .u32 arg]] w fun e w' => e = .returned (.tuple #[.string (lineS op arg), .int .i64 (opChk op arg)]) ∧ Below w.heap.size w w' := by
  have HC := hide_ (fun w => rCheck_any op arg q0 q1 w)
  have HI := hide_ (fun w => rInfo_any op q0 q1 w)
  have hsh := opR_short op
  unfold lineS
  obtain ⟨k, hk⟩ : ∃ k, k = opChk op arg := ⟨_, rfl⟩
  obtain ⟨r, hr⟩ : ∃ r, r = opR op := ⟨_, rfl⟩
  have hV : opV op = (opCells r).toArray := by rw [hr]; rfl
  rw [hV] at HI
  rw [← hk] at HC ⊢
  rw [← hr] at hsh ⊢
  clear hr hV
  unfold opCells at HI
  by_cases hk0 : k = 0
  · have hok : opOk op = true := by
      rw [hk] at hk0
      unfold opChk at hk0
      cases h : opOk op with
      | true => rfl
      | false => rw [h] at hk0; simp at hk0
    rw [hok] at HI
    clear hok hk
    subst hk0
    rw [if_neg (by simp)]
    by_cases hw : r.width = 0
    · rw [if_pos hw]
      have hwi : ((r.width : Int) == 0) = true := by rw [hw]; rfl
      clear hw
      go_enter Tryd.func5, Tryd.ntmps5
      go_wp2_with fail
      refine (HC.out _).mono ?_
      rintro e w1 ⟨rfl, hb⟩
      have hc := (hb.cell (p := ⟨w.heap.size, 0, none⟩) (by simp)).trans (show (w.alloc (.cells #[.int .u8 op, .int .u32 arg] 28)).cell? ⟨w.heap.size, 0, none⟩ = some (.int .u8 op) from by simp)
      have hz : w.heap.size < w1.heap.size := by have := hb.size; simp at this; omega
      have HB := hide_ (show Below w.heap.size w w1 from ((Below.refl _ _).alloc (Nat.le_refl _) _).trans (hb.mono (by simp)))
      clear hb
      go_wp2_with fail
      refine (HI.out _).mono ?_
      rintro e w2 ⟨rfl, hb2⟩
      have HB2 := hide_ (HB.out.trans (hb2.mono HB.out.size))
      clear hb2
      go_wp2
      go_ret2
      exact ⟨rfl, (HB2.out).alloc HB2.out.size _⟩
    · rw [if_neg hw]
      have hwi : ((r.width : Int) == 0) = false := by simpa using hw
      clear hw
      go_enter Tryd.func5, Tryd.ntmps5
      go_wp2_with fail
      refine (HC.out _).mono ?_
      rintro e w1 ⟨rfl, hb⟩
      have hc := (hb.cell (p := ⟨w.heap.size, 0, none⟩) (by simp)).trans (show (w.alloc (.cells #[.int .u8 op, .int .u32 arg] 28)).cell? ⟨w.heap.size, 0, none⟩ = some (.int .u8 op) from by simp)
      have hc1 := (hb.cell (p := ⟨w.heap.size, 1, none⟩) (by simp)).trans (show (w.alloc (.cells #[.int .u8 op, .int .u32 arg] 28)).cell? ⟨w.heap.size, 1, none⟩ = some (.int .u32 arg) from by simp)
      have hz : w.heap.size < w1.heap.size := by have := hb.size; simp at this; omega
      have HB := hide_ (show Below w.heap.size w w1 from ((Below.refl _ _).alloc (Nat.le_refl _) _).trans (hb.mono (by simp)))
      clear hb
      go_wp2_with fail
      refine (HI.out _).mono ?_
      rintro e w2 ⟨rfl, hb2⟩
      have HB2 := hide_ (HB.out.trans (hb2.mono HB.out.size))
      have hc2 := (hb2.cell (p := ⟨w.heap.size, 1, none⟩) hz).trans hc1
      have hz2 : w.heap.size < w2.heap.size := Nat.lt_of_lt_of_le hz hb2.size
      clear hb2 hc hc1
      go_wp2
      have c0 : (w2.alloc (.cells #[.string ⟨r.w.toArray⟩, .int .i64 r.width, .int .u32 r.most, .int .i64 r.takes, .int .i64 r.gives, .int .u8 r.kind] 33)).cell? ⟨w2.heap.size, 0, none⟩ = some (.string ⟨r.w.toArray⟩) := by simp
      have c1 : (w2.alloc (.cells #[.string ⟨r.w.toArray⟩, .int .i64 r.width, .int .u32 r.most, .int .i64 r.takes, .int .i64 r.gives, .int .u8 r.kind] 33)).cell? ⟨w.heap.size, 1, none⟩ = some (.int .u32 arg) := (World.cell?_alloc_lt w2 _ ⟨w.heap.size, 1, none⟩ hz2).trans hc2
      have hB0 := (HB2.out).alloc HB2.out.size (.cells #[.string ⟨r.w.toArray⟩, .int .i64 r.width, .int .u32 r.most, .int .i64 r.takes, .int .i64 r.gives, .int .u8 r.kind] 33)
      have hs0 : w2.heap.size < (w2.alloc (.cells #[.string ⟨r.w.toArray⟩, .int .i64 r.width, .int .u32 r.most, .int .i64 r.takes, .int .i64 r.gives, .int .u8 r.kind] 33)).heap.size := by simp
      generalize w2.alloc (.cells #[.string ⟨r.w.toArray⟩, .int .i64 r.width, .int .u32 r.most, .int .i64 r.takes, .int .i64 r.gives, .int .u8 r.kind] 33) = W0 at c0 c1 hB0 hs0 ⊢
      have hs1 : w.heap.size < W0.heap.size := Nat.lt_trans hz2 hs0
      generalize w2.heap.size = g5 at c0 hs0 ⊢
      have hl1 : ¬ 9223372036854775807 < r.w.length + 1 := by omega
      have hl2 : ¬ 9223372036854775807 < r.w.length + 1 + (sgnT arg).size := by have := sgnT_size a0 a1; omega
      have SS : Hid (∀ W W', Below W0.heap.size W0 W → Below W.heap.size W W' → W'.cell? ⟨g5, 0, none⟩ = some (.string ⟨r.w.toArray⟩) ∧ W'.cell? ⟨w.heap.size, 1, none⟩ = some (.int .u32 arg) ∧ Below W0.heap.size W0 W') := hide_ fun W W' h1 h2 => by
        have h3 := h1.trans (h2.mono h1.size)
        exact ⟨(h3.cell hs0).trans c0, (h3.cell hs1).trans c1, h3⟩
      have HST := hide_ (show W0.drew.cell? ⟨g5, 0, none⟩ = some (.string ⟨r.w.toArray⟩) ∧ W0.drew.cell? ⟨w.heap.size, 1, none⟩ = some (.int .u32 arg) ∧ Below W0.heap.size W0 W0.drew from ⟨c0, c1, (Below.refl W0.heap.size W0).drew⟩)
      have SG := hide_ (fun W (h : Below W0.heap.size W0 W) => rSigned_any arg a0 a1 W)
      have HB0 := hide_ hB0
      clear hB0 hc2 hz hz2
      go_region_held3 (fun W' => W'.cell? ⟨g5, 0, none⟩ = some (.string ⟨r.w.toArray⟩) ∧ W'.cell? ⟨w.heap.size, 1, none⟩ = some (.int .u32 arg) ∧ Below W0.heap.size W0 W')
        (first | exact HST.out | (go_split_ands; exact SS.out _ _ (by assumption) hb9) | (go_split_ands; exact SS.out _ _ (by assumption) ((Below.refl _ _).alloc (Nat.le_refl _) _)))
        ((go_at_call 12; go_split_ands; refine (SG.out _ (by assumption)).mono ?_; rintro e w9 ⟨rfl, hb9⟩))
      go_wp2
      go_ret2
      go_split_ands
      have hfin : Below W0.heap.size W0 w9 := by assumption
      exact ⟨rfl, HB0.out.trans (hfin.mono HB0.out.size)⟩
  · rw [if_pos hk0]
    have hkb : (k != 0) = true := by simpa using hk0
    clear hk hk0
    go_enter Tryd.func5, Tryd.ntmps5
    go_wp2_with fail
    refine (HC.out _).mono ?_
    rintro e w1 ⟨rfl, hb⟩
    have HB := hide_ (show Below w.heap.size w w1 from ((Below.refl _ _).alloc (Nat.le_refl _) _).trans (hb.mono (by simp)))
    clear hb
    go_wp2
    go_ret2
    exact ⟨rfl, HB.out⟩
end Go.Proofs.YtnkfjileaonemaaDoor
