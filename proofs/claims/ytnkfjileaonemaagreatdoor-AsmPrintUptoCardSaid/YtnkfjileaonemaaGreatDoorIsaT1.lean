/-
  The document's Info at the operations 1 to 20.
-/
import Derived.Test.YtnkfjileaonemaaGreatDoorIsaR
namespace Go.Proofs.YtnkfjileaonemaaGreatDoor
set_option maxRecDepth 100000
open Go.RowKit
set_option linter.unusedSimpArgs false
set_option linter.unusedVariables false
set_option maxHeartbeats 4000000 in
theorem rInfo_1 (w : World) : Calls Tryz.prog 50 #[.int .u8 1] w fun e w' => e = .returned (.tuple #[.agg (opC 1), .bool true]) ∧ Below w.heap.size w w' := by
  have HWD := hide_ (fun w => word_any 1 (by omega) (by omega) w)
  rw [show (opRow 1).w = [110, 111, 112] from rfl] at HWD
  go_enter Tryz.func50, Tryz.ntmps50
  go_wp2_with fail
  refine (HWD.out _).mono ?_
  rintro e w1 ⟨rfl, hb⟩
  have HG2 := info_kept hb
  have HB := hide_ (show Below w.heap.size w w1 from ((Below.refl _ _).alloc (Nat.le_refl _) _).trans (hb.mono (by simp)))
  clear hb
  go_wp2_with (refine wpList_store_row rfl 81 (.tmp 2) (.tmp 114) rfl _ (opC 1) rfl rfl 81 zRow.toArray (HG2.out _) (opC_info 1) rfl (opC_one 1) ?_)
  exact bodyPost_ret (v := .tuple #[.agg (opC 1), .bool true]) (result_cell2 rfl _ _ _ w.heap.size (opC 1) _ rfl rfl (run_loadVar_row _ _ _ _ _ _ _ (setRow_heap _ _ _ _ _ _ (HG2.out _)) Tryz.underlying81 rfl (opC_info 1))) rfl
    ⟨rfl, below_setRow ((HB.out).alloc HB.out.size _) (Nat.le_refl _) _⟩
set_option maxHeartbeats 4000000 in
theorem rInfo_2 (w : World) : Calls Tryz.prog 50 #[.int .u8 2] w fun e w' => e = .returned (.tuple #[.agg (opC 2), .bool true]) ∧ Below w.heap.size w w' := by
  have HWD := hide_ (fun w => word_any 2 (by omega) (by omega) w)
  rw [show (opRow 2).w = [98, 114, 101, 97, 107] from rfl] at HWD
  go_enter Tryz.func50, Tryz.ntmps50
  go_wp2_with fail
  refine (HWD.out _).mono ?_
  rintro e w1 ⟨rfl, hb⟩
  have HG2 := info_kept hb
  have HB := hide_ (show Below w.heap.size w w1 from ((Below.refl _ _).alloc (Nat.le_refl _) _).trans (hb.mono (by simp)))
  clear hb
  go_wp2_with (refine wpList_store_row rfl 81 (.tmp 2) (.tmp 114) rfl _ (opC 2) rfl rfl 81 zRow.toArray (HG2.out _) (opC_info 2) rfl (opC_one 2) ?_)
  exact bodyPost_ret (v := .tuple #[.agg (opC 2), .bool true]) (result_cell2 rfl _ _ _ w.heap.size (opC 2) _ rfl rfl (run_loadVar_row _ _ _ _ _ _ _ (setRow_heap _ _ _ _ _ _ (HG2.out _)) Tryz.underlying81 rfl (opC_info 2))) rfl
    ⟨rfl, below_setRow ((HB.out).alloc HB.out.size _) (Nat.le_refl _) _⟩
set_option maxHeartbeats 4000000 in
theorem rInfo_3 (w : World) : Calls Tryz.prog 50 #[.int .u8 3] w fun e w' => e = .returned (.tuple #[.agg (opC 3), .bool true]) ∧ Below w.heap.size w w' := by
  have HWD := hide_ (fun w => word_any 3 (by omega) (by omega) w)
  rw [show (opRow 3).w = [101, 110, 116, 101, 114] from rfl] at HWD
  go_enter Tryz.func50, Tryz.ntmps50
  go_wp2_with fail
  refine (HWD.out _).mono ?_
  rintro e w1 ⟨rfl, hb⟩
  have HG2 := info_kept hb
  have HB := hide_ (show Below w.heap.size w w1 from ((Below.refl _ _).alloc (Nat.le_refl _) _).trans (hb.mono (by simp)))
  clear hb
  go_wp2_with (refine wpList_store_row rfl 81 (.tmp 2) (.tmp 114) rfl _ (opC 3) rfl rfl 81 zRow.toArray (HG2.out _) (opC_info 3) rfl (opC_one 3) ?_)
  exact bodyPost_ret (v := .tuple #[.agg (opC 3), .bool true]) (result_cell2 rfl _ _ _ w.heap.size (opC 3) _ rfl rfl (run_loadVar_row _ _ _ _ _ _ _ (setRow_heap _ _ _ _ _ _ (HG2.out _)) Tryz.underlying81 rfl (opC_info 3))) rfl
    ⟨rfl, below_setRow ((HB.out).alloc HB.out.size _) (Nat.le_refl _) _⟩
set_option maxHeartbeats 4000000 in
theorem rInfo_4 (w : World) : Calls Tryz.prog 50 #[.int .u8 4] w fun e w' => e = .returned (.tuple #[.agg (opC 4), .bool true]) ∧ Below w.heap.size w w' := by
  have HWD := hide_ (fun w => word_any 4 (by omega) (by omega) w)
  rw [show (opRow 4).w = [108, 101, 97, 118, 101] from rfl] at HWD
  go_enter Tryz.func50, Tryz.ntmps50
  go_wp2_with fail
  refine (HWD.out _).mono ?_
  rintro e w1 ⟨rfl, hb⟩
  have HG2 := info_kept hb
  have HB := hide_ (show Below w.heap.size w w1 from ((Below.refl _ _).alloc (Nat.le_refl _) _).trans (hb.mono (by simp)))
  clear hb
  go_wp2_with (refine wpList_store_row rfl 81 (.tmp 2) (.tmp 114) rfl _ (opC 4) rfl rfl 81 zRow.toArray (HG2.out _) (opC_info 4) rfl (opC_one 4) ?_)
  exact bodyPost_ret (v := .tuple #[.agg (opC 4), .bool true]) (result_cell2 rfl _ _ _ w.heap.size (opC 4) _ rfl rfl (run_loadVar_row _ _ _ _ _ _ _ (setRow_heap _ _ _ _ _ _ (HG2.out _)) Tryz.underlying81 rfl (opC_info 4))) rfl
    ⟨rfl, below_setRow ((HB.out).alloc HB.out.size _) (Nat.le_refl _) _⟩
set_option maxHeartbeats 4000000 in
theorem rInfo_5 (w : World) : Calls Tryz.prog 50 #[.int .u8 5] w fun e w' => e = .returned (.tuple #[.agg (opC 5), .bool true]) ∧ Below w.heap.size w w' := by
  have HWD := hide_ (fun w => word_any 5 (by omega) (by omega) w)
  rw [show (opRow 5).w = [99, 97, 108, 108] from rfl] at HWD
  go_enter Tryz.func50, Tryz.ntmps50
  go_wp2_with fail
  refine (HWD.out _).mono ?_
  rintro e w1 ⟨rfl, hb⟩
  have HG2 := info_kept hb
  have HB := hide_ (show Below w.heap.size w w1 from ((Below.refl _ _).alloc (Nat.le_refl _) _).trans (hb.mono (by simp)))
  clear hb
  go_wp2_with (refine wpList_store_row rfl 81 (.tmp 2) (.tmp 114) rfl _ (opC 5) rfl rfl 81 zRow.toArray (HG2.out _) (opC_info 5) rfl (opC_one 5) ?_)
  exact bodyPost_ret (v := .tuple #[.agg (opC 5), .bool true]) (result_cell2 rfl _ _ _ w.heap.size (opC 5) _ rfl rfl (run_loadVar_row _ _ _ _ _ _ _ (setRow_heap _ _ _ _ _ _ (HG2.out _)) Tryz.underlying81 rfl (opC_info 5))) rfl
    ⟨rfl, below_setRow ((HB.out).alloc HB.out.size _) (Nat.le_refl _) _⟩
set_option maxHeartbeats 4000000 in
theorem rInfo_6 (w : World) : Calls Tryz.prog 50 #[.int .u8 6] w fun e w' => e = .returned (.tuple #[.agg (opC 6), .bool true]) ∧ Below w.heap.size w w' := by
  have HWD := hide_ (fun w => word_any 6 (by omega) (by omega) w)
  rw [show (opRow 6).w = [103, 111, 116, 111] from rfl] at HWD
  go_enter Tryz.func50, Tryz.ntmps50
  go_wp2_with fail
  refine (HWD.out _).mono ?_
  rintro e w1 ⟨rfl, hb⟩
  have HG2 := info_kept hb
  have HB := hide_ (show Below w.heap.size w w1 from ((Below.refl _ _).alloc (Nat.le_refl _) _).trans (hb.mono (by simp)))
  clear hb
  go_wp2_with (refine wpList_store_row rfl 81 (.tmp 2) (.tmp 114) rfl _ (opC 6) rfl rfl 81 zRow.toArray (HG2.out _) (opC_info 6) rfl (opC_one 6) ?_)
  exact bodyPost_ret (v := .tuple #[.agg (opC 6), .bool true]) (result_cell2 rfl _ _ _ w.heap.size (opC 6) _ rfl rfl (run_loadVar_row _ _ _ _ _ _ _ (setRow_heap _ _ _ _ _ _ (HG2.out _)) Tryz.underlying81 rfl (opC_info 6))) rfl
    ⟨rfl, below_setRow ((HB.out).alloc HB.out.size _) (Nat.le_refl _) _⟩
set_option maxHeartbeats 4000000 in
theorem rInfo_7 (w : World) : Calls Tryz.prog 50 #[.int .u8 7] w fun e w' => e = .returned (.tuple #[.agg (opC 7), .bool true]) ∧ Below w.heap.size w w' := by
  have HWD := hide_ (fun w => word_any 7 (by omega) (by omega) w)
  rw [show (opRow 7).w = [106, 117, 109, 112] from rfl] at HWD
  go_enter Tryz.func50, Tryz.ntmps50
  go_wp2_with fail
  refine (HWD.out _).mono ?_
  rintro e w1 ⟨rfl, hb⟩
  have HG2 := info_kept hb
  have HB := hide_ (show Below w.heap.size w w1 from ((Below.refl _ _).alloc (Nat.le_refl _) _).trans (hb.mono (by simp)))
  clear hb
  go_wp2_with (refine wpList_store_row rfl 81 (.tmp 2) (.tmp 114) rfl _ (opC 7) rfl rfl 81 zRow.toArray (HG2.out _) (opC_info 7) rfl (opC_one 7) ?_)
  exact bodyPost_ret (v := .tuple #[.agg (opC 7), .bool true]) (result_cell2 rfl _ _ _ w.heap.size (opC 7) _ rfl rfl (run_loadVar_row _ _ _ _ _ _ _ (setRow_heap _ _ _ _ _ _ (HG2.out _)) Tryz.underlying81 rfl (opC_info 7))) rfl
    ⟨rfl, below_setRow ((HB.out).alloc HB.out.size _) (Nat.le_refl _) _⟩
set_option maxHeartbeats 4000000 in
theorem rInfo_8 (w : World) : Calls Tryz.prog 50 #[.int .u8 8] w fun e w' => e = .returned (.tuple #[.agg (opC 8), .bool true]) ∧ Below w.heap.size w w' := by
  have HWD := hide_ (fun w => word_any 8 (by omega) (by omega) w)
  rw [show (opRow 8).w = [99, 111, 110, 115, 116] from rfl] at HWD
  go_enter Tryz.func50, Tryz.ntmps50
  go_wp2_with fail
  refine (HWD.out _).mono ?_
  rintro e w1 ⟨rfl, hb⟩
  have HG2 := info_kept hb
  have HB := hide_ (show Below w.heap.size w w1 from ((Below.refl _ _).alloc (Nat.le_refl _) _).trans (hb.mono (by simp)))
  clear hb
  go_wp2_with (refine wpList_store_row rfl 81 (.tmp 2) (.tmp 114) rfl _ (opC 8) rfl rfl 81 zRow.toArray (HG2.out _) (opC_info 8) rfl (opC_one 8) ?_)
  exact bodyPost_ret (v := .tuple #[.agg (opC 8), .bool true]) (result_cell2 rfl _ _ _ w.heap.size (opC 8) _ rfl rfl (run_loadVar_row _ _ _ _ _ _ _ (setRow_heap _ _ _ _ _ _ (HG2.out _)) Tryz.underlying81 rfl (opC_info 8))) rfl
    ⟨rfl, below_setRow ((HB.out).alloc HB.out.size _) (Nat.le_refl _) _⟩
set_option maxHeartbeats 4000000 in
theorem rInfo_9 (w : World) : Calls Tryz.prog 50 #[.int .u8 9] w fun e w' => e = .returned (.tuple #[.agg (opC 9), .bool true]) ∧ Below w.heap.size w w' := by
  have HWD := hide_ (fun w => word_any 9 (by omega) (by omega) w)
  rw [show (opRow 9).w = [108, 111, 99, 97, 108] from rfl] at HWD
  go_enter Tryz.func50, Tryz.ntmps50
  go_wp2_with fail
  refine (HWD.out _).mono ?_
  rintro e w1 ⟨rfl, hb⟩
  have HG2 := info_kept hb
  have HB := hide_ (show Below w.heap.size w w1 from ((Below.refl _ _).alloc (Nat.le_refl _) _).trans (hb.mono (by simp)))
  clear hb
  go_wp2_with (refine wpList_store_row rfl 81 (.tmp 2) (.tmp 114) rfl _ (opC 9) rfl rfl 81 zRow.toArray (HG2.out _) (opC_info 9) rfl (opC_one 9) ?_)
  exact bodyPost_ret (v := .tuple #[.agg (opC 9), .bool true]) (result_cell2 rfl _ _ _ w.heap.size (opC 9) _ rfl rfl (run_loadVar_row _ _ _ _ _ _ _ (setRow_heap _ _ _ _ _ _ (HG2.out _)) Tryz.underlying81 rfl (opC_info 9))) rfl
    ⟨rfl, below_setRow ((HB.out).alloc HB.out.size _) (Nat.le_refl _) _⟩
set_option maxHeartbeats 4000000 in
theorem rInfo_10 (w : World) : Calls Tryz.prog 50 #[.int .u8 10] w fun e w' => e = .returned (.tuple #[.agg (opC 10), .bool true]) ∧ Below w.heap.size w w' := by
  have HWD := hide_ (fun w => word_any 10 (by omega) (by omega) w)
  rw [show (opRow 10).w = [112, 111, 112] from rfl] at HWD
  go_enter Tryz.func50, Tryz.ntmps50
  go_wp2_with fail
  refine (HWD.out _).mono ?_
  rintro e w1 ⟨rfl, hb⟩
  have HG2 := info_kept hb
  have HB := hide_ (show Below w.heap.size w w1 from ((Below.refl _ _).alloc (Nat.le_refl _) _).trans (hb.mono (by simp)))
  clear hb
  go_wp2_with (refine wpList_store_row rfl 81 (.tmp 2) (.tmp 114) rfl _ (opC 10) rfl rfl 81 zRow.toArray (HG2.out _) (opC_info 10) rfl (opC_one 10) ?_)
  exact bodyPost_ret (v := .tuple #[.agg (opC 10), .bool true]) (result_cell2 rfl _ _ _ w.heap.size (opC 10) _ rfl rfl (run_loadVar_row _ _ _ _ _ _ _ (setRow_heap _ _ _ _ _ _ (HG2.out _)) Tryz.underlying81 rfl (opC_info 10))) rfl
    ⟨rfl, below_setRow ((HB.out).alloc HB.out.size _) (Nat.le_refl _) _⟩
set_option maxHeartbeats 4000000 in
theorem rInfo_11 (w : World) : Calls Tryz.prog 50 #[.int .u8 11] w fun e w' => e = .returned (.tuple #[.agg (opC 11), .bool true]) ∧ Below w.heap.size w w' := by
  have HWD := hide_ (fun w => word_any 11 (by omega) (by omega) w)
  rw [show (opRow 11).w = [100, 117, 112] from rfl] at HWD
  go_enter Tryz.func50, Tryz.ntmps50
  go_wp2_with fail
  refine (HWD.out _).mono ?_
  rintro e w1 ⟨rfl, hb⟩
  have HG2 := info_kept hb
  have HB := hide_ (show Below w.heap.size w w1 from ((Below.refl _ _).alloc (Nat.le_refl _) _).trans (hb.mono (by simp)))
  clear hb
  go_wp2_with (refine wpList_store_row rfl 81 (.tmp 2) (.tmp 114) rfl _ (opC 11) rfl rfl 81 zRow.toArray (HG2.out _) (opC_info 11) rfl (opC_one 11) ?_)
  exact bodyPost_ret (v := .tuple #[.agg (opC 11), .bool true]) (result_cell2 rfl _ _ _ w.heap.size (opC 11) _ rfl rfl (run_loadVar_row _ _ _ _ _ _ _ (setRow_heap _ _ _ _ _ _ (HG2.out _)) Tryz.underlying81 rfl (opC_info 11))) rfl
    ⟨rfl, below_setRow ((HB.out).alloc HB.out.size _) (Nat.le_refl _) _⟩
set_option maxHeartbeats 4000000 in
theorem rInfo_12 (w : World) : Calls Tryz.prog 50 #[.int .u8 12] w fun e w' => e = .returned (.tuple #[.agg (opC 12), .bool true]) ∧ Below w.heap.size w w' := by
  have HWD := hide_ (fun w => word_any 12 (by omega) (by omega) w)
  rw [show (opRow 12).w = [97, 114, 103] from rfl] at HWD
  go_enter Tryz.func50, Tryz.ntmps50
  go_wp2_with fail
  refine (HWD.out _).mono ?_
  rintro e w1 ⟨rfl, hb⟩
  have HG2 := info_kept hb
  have HB := hide_ (show Below w.heap.size w w1 from ((Below.refl _ _).alloc (Nat.le_refl _) _).trans (hb.mono (by simp)))
  clear hb
  go_wp2_with (refine wpList_store_row rfl 81 (.tmp 2) (.tmp 114) rfl _ (opC 12) rfl rfl 81 zRow.toArray (HG2.out _) (opC_info 12) rfl (opC_one 12) ?_)
  exact bodyPost_ret (v := .tuple #[.agg (opC 12), .bool true]) (result_cell2 rfl _ _ _ w.heap.size (opC 12) _ rfl rfl (run_loadVar_row _ _ _ _ _ _ _ (setRow_heap _ _ _ _ _ _ (HG2.out _)) Tryz.underlying81 rfl (opC_info 12))) rfl
    ⟨rfl, below_setRow ((HB.out).alloc HB.out.size _) (Nat.le_refl _) _⟩
set_option maxHeartbeats 4000000 in
theorem rInfo_13 (w : World) : Calls Tryz.prog 50 #[.int .u8 13] w fun e w' => e = .returned (.tuple #[.agg (opC 13), .bool true]) ∧ Below w.heap.size w w' := by
  have HWD := hide_ (fun w => word_any 13 (by omega) (by omega) w)
  rw [show (opRow 13).w = [101, 113] from rfl] at HWD
  go_enter Tryz.func50, Tryz.ntmps50
  go_wp2_with fail
  refine (HWD.out _).mono ?_
  rintro e w1 ⟨rfl, hb⟩
  have HG2 := info_kept hb
  have HB := hide_ (show Below w.heap.size w w1 from ((Below.refl _ _).alloc (Nat.le_refl _) _).trans (hb.mono (by simp)))
  clear hb
  go_wp2_with (refine wpList_store_row rfl 81 (.tmp 2) (.tmp 114) rfl _ (opC 13) rfl rfl 81 zRow.toArray (HG2.out _) (opC_info 13) rfl (opC_one 13) ?_)
  exact bodyPost_ret (v := .tuple #[.agg (opC 13), .bool true]) (result_cell2 rfl _ _ _ w.heap.size (opC 13) _ rfl rfl (run_loadVar_row _ _ _ _ _ _ _ (setRow_heap _ _ _ _ _ _ (HG2.out _)) Tryz.underlying81 rfl (opC_info 13))) rfl
    ⟨rfl, below_setRow ((HB.out).alloc HB.out.size _) (Nat.le_refl _) _⟩
set_option maxHeartbeats 4000000 in
theorem rInfo_14 (w : World) : Calls Tryz.prog 50 #[.int .u8 14] w fun e w' => e = .returned (.tuple #[.agg (opC 14), .bool true]) ∧ Below w.heap.size w w' := by
  have HWD := hide_ (fun w => word_any 14 (by omega) (by omega) w)
  rw [show (opRow 14).w = [110, 101] from rfl] at HWD
  go_enter Tryz.func50, Tryz.ntmps50
  go_wp2_with fail
  refine (HWD.out _).mono ?_
  rintro e w1 ⟨rfl, hb⟩
  have HG2 := info_kept hb
  have HB := hide_ (show Below w.heap.size w w1 from ((Below.refl _ _).alloc (Nat.le_refl _) _).trans (hb.mono (by simp)))
  clear hb
  go_wp2_with (refine wpList_store_row rfl 81 (.tmp 2) (.tmp 114) rfl _ (opC 14) rfl rfl 81 zRow.toArray (HG2.out _) (opC_info 14) rfl (opC_one 14) ?_)
  exact bodyPost_ret (v := .tuple #[.agg (opC 14), .bool true]) (result_cell2 rfl _ _ _ w.heap.size (opC 14) _ rfl rfl (run_loadVar_row _ _ _ _ _ _ _ (setRow_heap _ _ _ _ _ _ (HG2.out _)) Tryz.underlying81 rfl (opC_info 14))) rfl
    ⟨rfl, below_setRow ((HB.out).alloc HB.out.size _) (Nat.le_refl _) _⟩
set_option maxHeartbeats 4000000 in
theorem rInfo_15 (w : World) : Calls Tryz.prog 50 #[.int .u8 15] w fun e w' => e = .returned (.tuple #[.agg (opC 15), .bool true]) ∧ Below w.heap.size w w' := by
  have HWD := hide_ (fun w => word_any 15 (by omega) (by omega) w)
  rw [show (opRow 15).w = [108, 116, 105] from rfl] at HWD
  go_enter Tryz.func50, Tryz.ntmps50
  go_wp2_with fail
  refine (HWD.out _).mono ?_
  rintro e w1 ⟨rfl, hb⟩
  have HG2 := info_kept hb
  have HB := hide_ (show Below w.heap.size w w1 from ((Below.refl _ _).alloc (Nat.le_refl _) _).trans (hb.mono (by simp)))
  clear hb
  go_wp2_with (refine wpList_store_row rfl 81 (.tmp 2) (.tmp 114) rfl _ (opC 15) rfl rfl 81 zRow.toArray (HG2.out _) (opC_info 15) rfl (opC_one 15) ?_)
  exact bodyPost_ret (v := .tuple #[.agg (opC 15), .bool true]) (result_cell2 rfl _ _ _ w.heap.size (opC 15) _ rfl rfl (run_loadVar_row _ _ _ _ _ _ _ (setRow_heap _ _ _ _ _ _ (HG2.out _)) Tryz.underlying81 rfl (opC_info 15))) rfl
    ⟨rfl, below_setRow ((HB.out).alloc HB.out.size _) (Nat.le_refl _) _⟩
set_option maxHeartbeats 4000000 in
theorem rInfo_16 (w : World) : Calls Tryz.prog 50 #[.int .u8 16] w fun e w' => e = .returned (.tuple #[.agg (opC 16), .bool true]) ∧ Below w.heap.size w w' := by
  have HWD := hide_ (fun w => word_any 16 (by omega) (by omega) w)
  rw [show (opRow 16).w = [108, 101, 105] from rfl] at HWD
  go_enter Tryz.func50, Tryz.ntmps50
  go_wp2_with fail
  refine (HWD.out _).mono ?_
  rintro e w1 ⟨rfl, hb⟩
  have HG2 := info_kept hb
  have HB := hide_ (show Below w.heap.size w w1 from ((Below.refl _ _).alloc (Nat.le_refl _) _).trans (hb.mono (by simp)))
  clear hb
  go_wp2_with (refine wpList_store_row rfl 81 (.tmp 2) (.tmp 114) rfl _ (opC 16) rfl rfl 81 zRow.toArray (HG2.out _) (opC_info 16) rfl (opC_one 16) ?_)
  exact bodyPost_ret (v := .tuple #[.agg (opC 16), .bool true]) (result_cell2 rfl _ _ _ w.heap.size (opC 16) _ rfl rfl (run_loadVar_row _ _ _ _ _ _ _ (setRow_heap _ _ _ _ _ _ (HG2.out _)) Tryz.underlying81 rfl (opC_info 16))) rfl
    ⟨rfl, below_setRow ((HB.out).alloc HB.out.size _) (Nat.le_refl _) _⟩
set_option maxHeartbeats 4000000 in
theorem rInfo_17 (w : World) : Calls Tryz.prog 50 #[.int .u8 17] w fun e w' => e = .returned (.tuple #[.agg (opC 17), .bool true]) ∧ Below w.heap.size w w' := by
  have HWD := hide_ (fun w => word_any 17 (by omega) (by omega) w)
  rw [show (opRow 17).w = [103, 116, 105] from rfl] at HWD
  go_enter Tryz.func50, Tryz.ntmps50
  go_wp2_with fail
  refine (HWD.out _).mono ?_
  rintro e w1 ⟨rfl, hb⟩
  have HG2 := info_kept hb
  have HB := hide_ (show Below w.heap.size w w1 from ((Below.refl _ _).alloc (Nat.le_refl _) _).trans (hb.mono (by simp)))
  clear hb
  go_wp2_with (refine wpList_store_row rfl 81 (.tmp 2) (.tmp 114) rfl _ (opC 17) rfl rfl 81 zRow.toArray (HG2.out _) (opC_info 17) rfl (opC_one 17) ?_)
  exact bodyPost_ret (v := .tuple #[.agg (opC 17), .bool true]) (result_cell2 rfl _ _ _ w.heap.size (opC 17) _ rfl rfl (run_loadVar_row _ _ _ _ _ _ _ (setRow_heap _ _ _ _ _ _ (HG2.out _)) Tryz.underlying81 rfl (opC_info 17))) rfl
    ⟨rfl, below_setRow ((HB.out).alloc HB.out.size _) (Nat.le_refl _) _⟩
set_option maxHeartbeats 4000000 in
theorem rInfo_18 (w : World) : Calls Tryz.prog 50 #[.int .u8 18] w fun e w' => e = .returned (.tuple #[.agg (opC 18), .bool true]) ∧ Below w.heap.size w w' := by
  have HWD := hide_ (fun w => word_any 18 (by omega) (by omega) w)
  rw [show (opRow 18).w = [103, 101, 105] from rfl] at HWD
  go_enter Tryz.func50, Tryz.ntmps50
  go_wp2_with fail
  refine (HWD.out _).mono ?_
  rintro e w1 ⟨rfl, hb⟩
  have HG2 := info_kept hb
  have HB := hide_ (show Below w.heap.size w w1 from ((Below.refl _ _).alloc (Nat.le_refl _) _).trans (hb.mono (by simp)))
  clear hb
  go_wp2_with (refine wpList_store_row rfl 81 (.tmp 2) (.tmp 114) rfl _ (opC 18) rfl rfl 81 zRow.toArray (HG2.out _) (opC_info 18) rfl (opC_one 18) ?_)
  exact bodyPost_ret (v := .tuple #[.agg (opC 18), .bool true]) (result_cell2 rfl _ _ _ w.heap.size (opC 18) _ rfl rfl (run_loadVar_row _ _ _ _ _ _ _ (setRow_heap _ _ _ _ _ _ (HG2.out _)) Tryz.underlying81 rfl (opC_info 18))) rfl
    ⟨rfl, below_setRow ((HB.out).alloc HB.out.size _) (Nat.le_refl _) _⟩
set_option maxHeartbeats 4000000 in
theorem rInfo_19 (w : World) : Calls Tryz.prog 50 #[.int .u8 19] w fun e w' => e = .returned (.tuple #[.agg (opC 19), .bool true]) ∧ Below w.heap.size w w' := by
  have HWD := hide_ (fun w => word_any 19 (by omega) (by omega) w)
  rw [show (opRow 19).w = [108, 116, 117] from rfl] at HWD
  go_enter Tryz.func50, Tryz.ntmps50
  go_wp2_with fail
  refine (HWD.out _).mono ?_
  rintro e w1 ⟨rfl, hb⟩
  have HG2 := info_kept hb
  have HB := hide_ (show Below w.heap.size w w1 from ((Below.refl _ _).alloc (Nat.le_refl _) _).trans (hb.mono (by simp)))
  clear hb
  go_wp2_with (refine wpList_store_row rfl 81 (.tmp 2) (.tmp 114) rfl _ (opC 19) rfl rfl 81 zRow.toArray (HG2.out _) (opC_info 19) rfl (opC_one 19) ?_)
  exact bodyPost_ret (v := .tuple #[.agg (opC 19), .bool true]) (result_cell2 rfl _ _ _ w.heap.size (opC 19) _ rfl rfl (run_loadVar_row _ _ _ _ _ _ _ (setRow_heap _ _ _ _ _ _ (HG2.out _)) Tryz.underlying81 rfl (opC_info 19))) rfl
    ⟨rfl, below_setRow ((HB.out).alloc HB.out.size _) (Nat.le_refl _) _⟩
set_option maxHeartbeats 4000000 in
theorem rInfo_20 (w : World) : Calls Tryz.prog 50 #[.int .u8 20] w fun e w' => e = .returned (.tuple #[.agg (opC 20), .bool true]) ∧ Below w.heap.size w w' := by
  have HWD := hide_ (fun w => word_any 20 (by omega) (by omega) w)
  rw [show (opRow 20).w = [108, 101, 117] from rfl] at HWD
  go_enter Tryz.func50, Tryz.ntmps50
  go_wp2_with fail
  refine (HWD.out _).mono ?_
  rintro e w1 ⟨rfl, hb⟩
  have HG2 := info_kept hb
  have HB := hide_ (show Below w.heap.size w w1 from ((Below.refl _ _).alloc (Nat.le_refl _) _).trans (hb.mono (by simp)))
  clear hb
  go_wp2_with (refine wpList_store_row rfl 81 (.tmp 2) (.tmp 114) rfl _ (opC 20) rfl rfl 81 zRow.toArray (HG2.out _) (opC_info 20) rfl (opC_one 20) ?_)
  exact bodyPost_ret (v := .tuple #[.agg (opC 20), .bool true]) (result_cell2 rfl _ _ _ w.heap.size (opC 20) _ rfl rfl (run_loadVar_row _ _ _ _ _ _ _ (setRow_heap _ _ _ _ _ _ (HG2.out _)) Tryz.underlying81 rfl (opC_info 20))) rfl
    ⟨rfl, below_setRow ((HB.out).alloc HB.out.size _) (Nat.le_refl _) _⟩
end Go.Proofs.YtnkfjileaonemaaGreatDoor
