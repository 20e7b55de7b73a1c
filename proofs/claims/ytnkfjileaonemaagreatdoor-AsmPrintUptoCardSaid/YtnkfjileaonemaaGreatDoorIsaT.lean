/-
  The document's Info and Check.
-/
import Derived.Test.YtnkfjileaonemaaGreatDoorIsaT1
import Derived.Test.YtnkfjileaonemaaGreatDoorIsaT2
import Derived.Test.YtnkfjileaonemaaGreatDoorIsaT3
namespace Go.Proofs.YtnkfjileaonemaaGreatDoor
open Go.RowKit
set_option linter.unusedSimpArgs false
set_option linter.unusedVariables false
theorem rInfo_yes (k : Nat) (h1 : 1 ≤ k) (h2 : k ≤ 59) (w : World) : Calls Tryz.prog 50 #[.int .u8 k] w fun e w' => e = .returned (.tuple #[.agg (opC k), .bool true]) ∧ Below w.heap.size w w' := by
  match k, h1, h2 with
  | 1, _, _ => exact rInfo_1 w
  | 2, _, _ => exact rInfo_2 w
  | 3, _, _ => exact rInfo_3 w
  | 4, _, _ => exact rInfo_4 w
  | 5, _, _ => exact rInfo_5 w
  | 6, _, _ => exact rInfo_6 w
  | 7, _, _ => exact rInfo_7 w
  | 8, _, _ => exact rInfo_8 w
  | 9, _, _ => exact rInfo_9 w
  | 10, _, _ => exact rInfo_10 w
  | 11, _, _ => exact rInfo_11 w
  | 12, _, _ => exact rInfo_12 w
  | 13, _, _ => exact rInfo_13 w
  | 14, _, _ => exact rInfo_14 w
  | 15, _, _ => exact rInfo_15 w
  | 16, _, _ => exact rInfo_16 w
  | 17, _, _ => exact rInfo_17 w
  | 18, _, _ => exact rInfo_18 w
  | 19, _, _ => exact rInfo_19 w
  | 20, _, _ => exact rInfo_20 w
  | 21, _, _ => exact rInfo_21 w
  | 22, _, _ => exact rInfo_22 w
  | 23, _, _ => exact rInfo_23 w
  | 24, _, _ => exact rInfo_24 w
  | 25, _, _ => exact rInfo_25 w
  | 26, _, _ => exact rInfo_26 w
  | 27, _, _ => exact rInfo_27 w
  | 28, _, _ => exact rInfo_28 w
  | 29, _, _ => exact rInfo_29 w
  | 30, _, _ => exact rInfo_30 w
  | 31, _, _ => exact rInfo_31 w
  | 32, _, _ => exact rInfo_32 w
  | 33, _, _ => exact rInfo_33 w
  | 34, _, _ => exact rInfo_34 w
  | 35, _, _ => exact rInfo_35 w
  | 36, _, _ => exact rInfo_36 w
  | 37, _, _ => exact rInfo_37 w
  | 38, _, _ => exact rInfo_38 w
  | 39, _, _ => exact rInfo_39 w
  | 40, _, _ => exact rInfo_40 w
  | 41, _, _ => exact rInfo_41 w
  | 42, _, _ => exact rInfo_42 w
  | 43, _, _ => exact rInfo_43 w
  | 44, _, _ => exact rInfo_44 w
  | 45, _, _ => exact rInfo_45 w
  | 46, _, _ => exact rInfo_46 w
  | 47, _, _ => exact rInfo_47 w
  | 48, _, _ => exact rInfo_48 w
  | 49, _, _ => exact rInfo_49 w
  | 50, _, _ => exact rInfo_50 w
  | 51, _, _ => exact rInfo_51 w
  | 52, _, _ => exact rInfo_52 w
  | 53, _, _ => exact rInfo_53 w
  | 54, _, _ => exact rInfo_54 w
  | 55, _, _ => exact rInfo_55 w
  | 56, _, _ => exact rInfo_56 w
  | 57, _, _ => exact rInfo_57 w
  | 58, _, _ => exact rInfo_58 w
  | 59, _, _ => exact rInfo_59 w
  | k + 60, _, h => omega
set_option maxRecDepth 100000 in
set_option maxHeartbeats 1000000 in
theorem rInfo_no (op : Int) (q0 : 0 ≤ op) (q1 : op ≤ 255) (h : op < 1 ∨ 59 < op) (w : World) : Calls Tryz.prog 50 #[.int .u8 op] w fun e w' => e = .returned (.tuple #[.agg zRow.toArray, .bool false]) ∧ Below w.heap.size w w' := by
  by_cases h1 : op < 1
  · have d1 : decide (op < 1) = true := by simpa using h1
    clear h
    go_enter Tryz.func50, Tryz.ntmps50
    go_wp2
    exact bodyPost_ret (v := .tuple #[.agg zRow.toArray, .bool false]) (by simp [results, Tryz.results50, go_sem, zRow]) rfl ⟨rfl, (Below.refl _ _).alloc (Nat.le_refl _) _⟩
  · have d1 : decide (op < 1) = false := by simpa using h1
    have d2 : decide (59 < op) = true := by simp; omega
    clear h
    go_enter Tryz.func50, Tryz.ntmps50
    go_wp2
    exact bodyPost_ret (v := .tuple #[.agg zRow.toArray, .bool false]) (by simp [results, Tryz.results50, go_sem, zRow]) rfl ⟨rfl, (Below.refl _ _).alloc (Nat.le_refl _) _⟩
theorem rInfo_any (op : Int) (q0 : 0 ≤ op) (q1 : op ≤ 255) (w : World) : Calls Tryz.prog 50 #[.int .u8 op] w fun e w' => e = .returned (.tuple #[.agg (opV op), .bool (opOk op)]) ∧ Below w.heap.size w w' := by
  by_cases h : 1 ≤ op ∧ op ≤ 59
  · obtain ⟨k, hk⟩ : ∃ k : Nat, op = k := ⟨op.toNat, by omega⟩
    subst hk
    have e1 : opV (k : Int) = opC k := by unfold opV opR opC; rw [if_pos h]; rfl
    have e2 : opOk (k : Int) = true := by unfold opOk; rw [decide_eq_true h]
    rw [e1, e2]
    exact rInfo_yes k (by omega) (by omega) w
  · have e1 : opV op = zRow.toArray := by unfold opV opR; rw [if_neg h]; rfl
    have e2 : opOk op = false := by unfold opOk; rw [decide_eq_false h]
    rw [e1, e2]
    exact rInfo_no op q0 q1 (by omega) w
set_option maxHeartbeats 1000000 in
theorem rCheck_any (op arg : Int) (q0 : 0 ≤ op) (q1 : op ≤ 255) (w : World) : Calls Tryz.prog 20 #[.agg #[.int .u8 op, .int .u32 arg]] w fun e w' => e = .returned (.int .i64 (opChk op arg)) ∧ Below w.heap.size w w' := by
  obtain ⟨r, hr⟩ : ∃ r, r = opR op := ⟨_, rfl⟩
  obtain ⟨b, hb⟩ : ∃ b, b = opOk op := ⟨_, rfl⟩
  have HI := hide_ (fun w => rInfo_any op q0 q1 w)
  unfold opV at HI
  unfold opChk
  rw [← hr, ← hb] at HI ⊢
  clear hr hb
  unfold opCells at HI
  cases b
  · go_enter Tryz.func20, Tryz.ntmps20
    go_wp2_with fail
    refine (HI.out _).mono ?_
    rintro e w1 ⟨rfl, hb⟩
    have HB := hide_ (show Below w.heap.size w w1 from ((Below.refl _ _).alloc (Nat.le_refl _) _).trans (hb.mono (by simp)))
    clear hb
    go_wp2
    go_ret
    exact ⟨rfl, (HB.out).alloc HB.out.size _⟩
  · by_cases hm : ((r.most : Int) < arg)
    all_goals
      go_enter Tryz.func20, Tryz.ntmps20
      go_wp2_with fail
      refine (HI.out _).mono ?_
      rintro e w1 ⟨rfl, hb⟩
      have hc := (hb.cell (p := ⟨w.heap.size, 1, none⟩) (by simp)).trans (show (w.alloc (.cells #[.int .u8 op, .int .u32 arg] 52)).cell? ⟨w.heap.size, 1, none⟩ = some (.int .u32 arg) from by simp)
      have hz : w.heap.size < w1.heap.size := by have := hb.size; simp at this; omega
      have HB := hide_ (show Below w.heap.size w w1 from ((Below.refl _ _).alloc (Nat.le_refl _) _).trans (hb.mono (by simp)))
      clear hb
      go_wp2
      go_ret
      exact ⟨by simp [hm], (HB.out).alloc HB.out.size _⟩
end Go.Proofs.YtnkfjileaonemaaGreatDoor
