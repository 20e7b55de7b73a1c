/-
  The document's Info at the operations 41 to 59.
-/
import Derived.Test.YtnkfjileaonemaaGreatDoorIsaR
namespace Go.Proofs.YtnkfjileaonemaaGreatDoor
set_option maxRecDepth 100000
open Go.RowKit
set_option linter.unusedSimpArgs false
set_option linter.unusedVariables false
set_option maxHeartbeats 4000000 in
theorem rInfo_41 (w : World) : Calls Tryz.prog 50 #[.int .u8 41] w fun e w' => e = .returned (.tuple #[.agg (opC 41), .bool true]) ∧ Below w.heap.size w w' := by
  have HWD := hide_ (fun w => word_any 41 (by omega) (by omega) w)
  rw [show (opRow 41).w = [109, 117, 108] from rfl] at HWD
  go_enter Tryz.func50, Tryz.ntmps50
  go_wp2_with fail
  refine (HWD.out _).mono ?_
  rintro e w1 ⟨rfl, hb⟩
  have HG2 := info_kept hb
  have HB := hide_ (show Below w.heap.size w w1 from ((Below.refl _ _).alloc (Nat.le_refl _) _).trans (hb.mono (by simp)))
  clear hb
  go_wp2_with (refine wpList_store_row rfl 81 (.tmp 2) (.tmp 114) rfl _ (opC 41) rfl rfl 81 zRow.toArray (HG2.out _) (opC_info 41) rfl (opC_one 41) ?_)
  exact bodyPost_ret (v := .tuple #[.agg (opC 41), .bool true]) (result_cell2 rfl _ _ _ w.heap.size (opC 41) _ rfl rfl (run_loadVar_row _ _ _ _ _ _ _ (setRow_heap _ _ _ _ _ _ (HG2.out _)) Tryz.underlying81 rfl (opC_info 41))) rfl
    ⟨rfl, below_setRow ((HB.out).alloc HB.out.size _) (Nat.le_refl _) _⟩
set_option maxHeartbeats 4000000 in
theorem rInfo_42 (w : World) : Calls Tryz.prog 50 #[.int .u8 42] w fun e w' => e = .returned (.tuple #[.agg (opC 42), .bool true]) ∧ Below w.heap.size w w' := by
  have HWD := hide_ (fun w => word_any 42 (by omega) (by omega) w)
  rw [show (opRow 42).w = [100, 105, 118, 105] from rfl] at HWD
  go_enter Tryz.func50, Tryz.ntmps50
  go_wp2_with fail
  refine (HWD.out _).mono ?_
  rintro e w1 ⟨rfl, hb⟩
  have HG2 := info_kept hb
  have HB := hide_ (show Below w.heap.size w w1 from ((Below.refl _ _).alloc (Nat.le_refl _) _).trans (hb.mono (by simp)))
  clear hb
  go_wp2_with (refine wpList_store_row rfl 81 (.tmp 2) (.tmp 114) rfl _ (opC 42) rfl rfl 81 zRow.toArray (HG2.out _) (opC_info 42) rfl (opC_one 42) ?_)
  exact bodyPost_ret (v := .tuple #[.agg (opC 42), .bool true]) (result_cell2 rfl _ _ _ w.heap.size (opC 42) _ rfl rfl (run_loadVar_row _ _ _ _ _ _ _ (setRow_heap _ _ _ _ _ _ (HG2.out _)) Tryz.underlying81 rfl (opC_info 42))) rfl
    ⟨rfl, below_setRow ((HB.out).alloc HB.out.size _) (Nat.le_refl _) _⟩
set_option maxHeartbeats 4000000 in
theorem rInfo_43 (w : World) : Calls Tryz.prog 50 #[.int .u8 43] w fun e w' => e = .returned (.tuple #[.agg (opC 43), .bool true]) ∧ Below w.heap.size w w' := by
  have HWD := hide_ (fun w => word_any 43 (by omega) (by omega) w)
  rw [show (opRow 43).w = [100, 105, 118, 117] from rfl] at HWD
  go_enter Tryz.func50, Tryz.ntmps50
  go_wp2_with fail
  refine (HWD.out _).mono ?_
  rintro e w1 ⟨rfl, hb⟩
  have HG2 := info_kept hb
  have HB := hide_ (show Below w.heap.size w w1 from ((Below.refl _ _).alloc (Nat.le_refl _) _).trans (hb.mono (by simp)))
  clear hb
  go_wp2_with (refine wpList_store_row rfl 81 (.tmp 2) (.tmp 114) rfl _ (opC 43) rfl rfl 81 zRow.toArray (HG2.out _) (opC_info 43) rfl (opC_one 43) ?_)
  exact bodyPost_ret (v := .tuple #[.agg (opC 43), .bool true]) (result_cell2 rfl _ _ _ w.heap.size (opC 43) _ rfl rfl (run_loadVar_row _ _ _ _ _ _ _ (setRow_heap _ _ _ _ _ _ (HG2.out _)) Tryz.underlying81 rfl (opC_info 43))) rfl
    ⟨rfl, below_setRow ((HB.out).alloc HB.out.size _) (Nat.le_refl _) _⟩
set_option maxHeartbeats 4000000 in
theorem rInfo_44 (w : World) : Calls Tryz.prog 50 #[.int .u8 44] w fun e w' => e = .returned (.tuple #[.agg (opC 44), .bool true]) ∧ Below w.heap.size w w' := by
  have HWD := hide_ (fun w => word_any 44 (by omega) (by omega) w)
  rw [show (opRow 44).w = [109, 111, 100, 105] from rfl] at HWD
  go_enter Tryz.func50, Tryz.ntmps50
  go_wp2_with fail
  refine (HWD.out _).mono ?_
  rintro e w1 ⟨rfl, hb⟩
  have HG2 := info_kept hb
  have HB := hide_ (show Below w.heap.size w w1 from ((Below.refl _ _).alloc (Nat.le_refl _) _).trans (hb.mono (by simp)))
  clear hb
  go_wp2_with (refine wpList_store_row rfl 81 (.tmp 2) (.tmp 114) rfl _ (opC 44) rfl rfl 81 zRow.toArray (HG2.out _) (opC_info 44) rfl (opC_one 44) ?_)
  exact bodyPost_ret (v := .tuple #[.agg (opC 44), .bool true]) (result_cell2 rfl _ _ _ w.heap.size (opC 44) _ rfl rfl (run_loadVar_row _ _ _ _ _ _ _ (setRow_heap _ _ _ _ _ _ (HG2.out _)) Tryz.underlying81 rfl (opC_info 44))) rfl
    ⟨rfl, below_setRow ((HB.out).alloc HB.out.size _) (Nat.le_refl _) _⟩
set_option maxHeartbeats 4000000 in
theorem rInfo_45 (w : World) : Calls Tryz.prog 50 #[.int .u8 45] w fun e w' => e = .returned (.tuple #[.agg (opC 45), .bool true]) ∧ Below w.heap.size w w' := by
  have HWD := hide_ (fun w => word_any 45 (by omega) (by omega) w)
  rw [show (opRow 45).w = [109, 111, 100, 117] from rfl] at HWD
  go_enter Tryz.func50, Tryz.ntmps50
  go_wp2_with fail
  refine (HWD.out _).mono ?_
  rintro e w1 ⟨rfl, hb⟩
  have HG2 := info_kept hb
  have HB := hide_ (show Below w.heap.size w w1 from ((Below.refl _ _).alloc (Nat.le_refl _) _).trans (hb.mono (by simp)))
  clear hb
  go_wp2_with (refine wpList_store_row rfl 81 (.tmp 2) (.tmp 114) rfl _ (opC 45) rfl rfl 81 zRow.toArray (HG2.out _) (opC_info 45) rfl (opC_one 45) ?_)
  exact bodyPost_ret (v := .tuple #[.agg (opC 45), .bool true]) (result_cell2 rfl _ _ _ w.heap.size (opC 45) _ rfl rfl (run_loadVar_row _ _ _ _ _ _ _ (setRow_heap _ _ _ _ _ _ (HG2.out _)) Tryz.underlying81 rfl (opC_info 45))) rfl
    ⟨rfl, below_setRow ((HB.out).alloc HB.out.size _) (Nat.le_refl _) _⟩
set_option maxHeartbeats 4000000 in
theorem rInfo_46 (w : World) : Calls Tryz.prog 50 #[.int .u8 46] w fun e w' => e = .returned (.tuple #[.agg (opC 46), .bool true]) ∧ Below w.heap.size w w' := by
  have HWD := hide_ (fun w => word_any 46 (by omega) (by omega) w)
  rw [show (opRow 46).w = [97, 110, 100] from rfl] at HWD
  go_enter Tryz.func50, Tryz.ntmps50
  go_wp2_with fail
  refine (HWD.out _).mono ?_
  rintro e w1 ⟨rfl, hb⟩
  have HG2 := info_kept hb
  have HB := hide_ (show Below w.heap.size w w1 from ((Below.refl _ _).alloc (Nat.le_refl _) _).trans (hb.mono (by simp)))
  clear hb
  go_wp2_with (refine wpList_store_row rfl 81 (.tmp 2) (.tmp 114) rfl _ (opC 46) rfl rfl 81 zRow.toArray (HG2.out _) (opC_info 46) rfl (opC_one 46) ?_)
  exact bodyPost_ret (v := .tuple #[.agg (opC 46), .bool true]) (result_cell2 rfl _ _ _ w.heap.size (opC 46) _ rfl rfl (run_loadVar_row _ _ _ _ _ _ _ (setRow_heap _ _ _ _ _ _ (HG2.out _)) Tryz.underlying81 rfl (opC_info 46))) rfl
    ⟨rfl, below_setRow ((HB.out).alloc HB.out.size _) (Nat.le_refl _) _⟩
set_option maxHeartbeats 4000000 in
theorem rInfo_47 (w : World) : Calls Tryz.prog 50 #[.int .u8 47] w fun e w' => e = .returned (.tuple #[.agg (opC 47), .bool true]) ∧ Below w.heap.size w w' := by
  have HWD := hide_ (fun w => word_any 47 (by omega) (by omega) w)
  rw [show (opRow 47).w = [111, 114] from rfl] at HWD
  go_enter Tryz.func50, Tryz.ntmps50
  go_wp2_with fail
  refine (HWD.out _).mono ?_
  rintro e w1 ⟨rfl, hb⟩
  have HG2 := info_kept hb
  have HB := hide_ (show Below w.heap.size w w1 from ((Below.refl _ _).alloc (Nat.le_refl _) _).trans (hb.mono (by simp)))
  clear hb
  go_wp2_with (refine wpList_store_row rfl 81 (.tmp 2) (.tmp 114) rfl _ (opC 47) rfl rfl 81 zRow.toArray (HG2.out _) (opC_info 47) rfl (opC_one 47) ?_)
  exact bodyPost_ret (v := .tuple #[.agg (opC 47), .bool true]) (result_cell2 rfl _ _ _ w.heap.size (opC 47) _ rfl rfl (run_loadVar_row _ _ _ _ _ _ _ (setRow_heap _ _ _ _ _ _ (HG2.out _)) Tryz.underlying81 rfl (opC_info 47))) rfl
    ⟨rfl, below_setRow ((HB.out).alloc HB.out.size _) (Nat.le_refl _) _⟩
set_option maxHeartbeats 4000000 in
theorem rInfo_48 (w : World) : Calls Tryz.prog 50 #[.int .u8 48] w fun e w' => e = .returned (.tuple #[.agg (opC 48), .bool true]) ∧ Below w.heap.size w w' := by
  have HWD := hide_ (fun w => word_any 48 (by omega) (by omega) w)
  rw [show (opRow 48).w = [120, 111, 114] from rfl] at HWD
  go_enter Tryz.func50, Tryz.ntmps50
  go_wp2_with fail
  refine (HWD.out _).mono ?_
  rintro e w1 ⟨rfl, hb⟩
  have HG2 := info_kept hb
  have HB := hide_ (show Below w.heap.size w w1 from ((Below.refl _ _).alloc (Nat.le_refl _) _).trans (hb.mono (by simp)))
  clear hb
  go_wp2_with (refine wpList_store_row rfl 81 (.tmp 2) (.tmp 114) rfl _ (opC 48) rfl rfl 81 zRow.toArray (HG2.out _) (opC_info 48) rfl (opC_one 48) ?_)
  exact bodyPost_ret (v := .tuple #[.agg (opC 48), .bool true]) (result_cell2 rfl _ _ _ w.heap.size (opC 48) _ rfl rfl (run_loadVar_row _ _ _ _ _ _ _ (setRow_heap _ _ _ _ _ _ (HG2.out _)) Tryz.underlying81 rfl (opC_info 48))) rfl
    ⟨rfl, below_setRow ((HB.out).alloc HB.out.size _) (Nat.le_refl _) _⟩
set_option maxHeartbeats 4000000 in
theorem rInfo_49 (w : World) : Calls Tryz.prog 50 #[.int .u8 49] w fun e w' => e = .returned (.tuple #[.agg (opC 49), .bool true]) ∧ Below w.heap.size w w' := by
  have HWD := hide_ (fun w => word_any 49 (by omega) (by omega) w)
  rw [show (opRow 49).w = [110, 111, 116] from rfl] at HWD
  go_enter Tryz.func50, Tryz.ntmps50
  go_wp2_with fail
  refine (HWD.out _).mono ?_
  rintro e w1 ⟨rfl, hb⟩
  have HG2 := info_kept hb
  have HB := hide_ (show Below w.heap.size w w1 from ((Below.refl _ _).alloc (Nat.le_refl _) _).trans (hb.mono (by simp)))
  clear hb
  go_wp2_with (refine wpList_store_row rfl 81 (.tmp 2) (.tmp 114) rfl _ (opC 49) rfl rfl 81 zRow.toArray (HG2.out _) (opC_info 49) rfl (opC_one 49) ?_)
  exact bodyPost_ret (v := .tuple #[.agg (opC 49), .bool true]) (result_cell2 rfl _ _ _ w.heap.size (opC 49) _ rfl rfl (run_loadVar_row _ _ _ _ _ _ _ (setRow_heap _ _ _ _ _ _ (HG2.out _)) Tryz.underlying81 rfl (opC_info 49))) rfl
    ⟨rfl, below_setRow ((HB.out).alloc HB.out.size _) (Nat.le_refl _) _⟩
set_option maxHeartbeats 4000000 in
theorem rInfo_50 (w : World) : Calls Tryz.prog 50 #[.int .u8 50] w fun e w' => e = .returned (.tuple #[.agg (opC 50), .bool true]) ∧ Below w.heap.size w w' := by
  have HWD := hide_ (fun w => word_any 50 (by omega) (by omega) w)
  rw [show (opRow 50).w = [115, 104, 108] from rfl] at HWD
  go_enter Tryz.func50, Tryz.ntmps50
  go_wp2_with fail
  refine (HWD.out _).mono ?_
  rintro e w1 ⟨rfl, hb⟩
  have HG2 := info_kept hb
  have HB := hide_ (show Below w.heap.size w w1 from ((Below.refl _ _).alloc (Nat.le_refl _) _).trans (hb.mono (by simp)))
  clear hb
  go_wp2_with (refine wpList_store_row rfl 81 (.tmp 2) (.tmp 114) rfl _ (opC 50) rfl rfl 81 zRow.toArray (HG2.out _) (opC_info 50) rfl (opC_one 50) ?_)
  exact bodyPost_ret (v := .tuple #[.agg (opC 50), .bool true]) (result_cell2 rfl _ _ _ w.heap.size (opC 50) _ rfl rfl (run_loadVar_row _ _ _ _ _ _ _ (setRow_heap _ _ _ _ _ _ (HG2.out _)) Tryz.underlying81 rfl (opC_info 50))) rfl
    ⟨rfl, below_setRow ((HB.out).alloc HB.out.size _) (Nat.le_refl _) _⟩
set_option maxHeartbeats 4000000 in
theorem rInfo_51 (w : World) : Calls Tryz.prog 50 #[.int .u8 51] w fun e w' => e = .returned (.tuple #[.agg (opC 51), .bool true]) ∧ Below w.heap.size w w' := by
  have HWD := hide_ (fun w => word_any 51 (by omega) (by omega) w)
  rw [show (opRow 51).w = [115, 104, 114, 105] from rfl] at HWD
  go_enter Tryz.func50, Tryz.ntmps50
  go_wp2_with fail
  refine (HWD.out _).mono ?_
  rintro e w1 ⟨rfl, hb⟩
  have HG2 := info_kept hb
  have HB := hide_ (show Below w.heap.size w w1 from ((Below.refl _ _).alloc (Nat.le_refl _) _).trans (hb.mono (by simp)))
  clear hb
  go_wp2_with (refine wpList_store_row rfl 81 (.tmp 2) (.tmp 114) rfl _ (opC 51) rfl rfl 81 zRow.toArray (HG2.out _) (opC_info 51) rfl (opC_one 51) ?_)
  exact bodyPost_ret (v := .tuple #[.agg (opC 51), .bool true]) (result_cell2 rfl _ _ _ w.heap.size (opC 51) _ rfl rfl (run_loadVar_row _ _ _ _ _ _ _ (setRow_heap _ _ _ _ _ _ (HG2.out _)) Tryz.underlying81 rfl (opC_info 51))) rfl
    ⟨rfl, below_setRow ((HB.out).alloc HB.out.size _) (Nat.le_refl _) _⟩
set_option maxHeartbeats 4000000 in
theorem rInfo_52 (w : World) : Calls Tryz.prog 50 #[.int .u8 52] w fun e w' => e = .returned (.tuple #[.agg (opC 52), .bool true]) ∧ Below w.heap.size w w' := by
  have HWD := hide_ (fun w => word_any 52 (by omega) (by omega) w)
  rw [show (opRow 52).w = [115, 104, 114, 117] from rfl] at HWD
  go_enter Tryz.func50, Tryz.ntmps50
  go_wp2_with fail
  refine (HWD.out _).mono ?_
  rintro e w1 ⟨rfl, hb⟩
  have HG2 := info_kept hb
  have HB := hide_ (show Below w.heap.size w w1 from ((Below.refl _ _).alloc (Nat.le_refl _) _).trans (hb.mono (by simp)))
  clear hb
  go_wp2_with (refine wpList_store_row rfl 81 (.tmp 2) (.tmp 114) rfl _ (opC 52) rfl rfl 81 zRow.toArray (HG2.out _) (opC_info 52) rfl (opC_one 52) ?_)
  exact bodyPost_ret (v := .tuple #[.agg (opC 52), .bool true]) (result_cell2 rfl _ _ _ w.heap.size (opC 52) _ rfl rfl (run_loadVar_row _ _ _ _ _ _ _ (setRow_heap _ _ _ _ _ _ (HG2.out _)) Tryz.underlying81 rfl (opC_info 52))) rfl
    ⟨rfl, below_setRow ((HB.out).alloc HB.out.size _) (Nat.le_refl _) _⟩
set_option maxHeartbeats 4000000 in
theorem rInfo_53 (w : World) : Calls Tryz.prog 50 #[.int .u8 53] w fun e w' => e = .returned (.tuple #[.agg (opC 53), .bool true]) ∧ Below w.heap.size w w' := by
  have HWD := hide_ (fun w => word_any 53 (by omega) (by omega) w)
  rw [show (opRow 53).w = [110, 101, 103, 102] from rfl] at HWD
  go_enter Tryz.func50, Tryz.ntmps50
  go_wp2_with fail
  refine (HWD.out _).mono ?_
  rintro e w1 ⟨rfl, hb⟩
  have HG2 := info_kept hb
  have HB := hide_ (show Below w.heap.size w w1 from ((Below.refl _ _).alloc (Nat.le_refl _) _).trans (hb.mono (by simp)))
  clear hb
  go_wp2_with (refine wpList_store_row rfl 81 (.tmp 2) (.tmp 114) rfl _ (opC 53) rfl rfl 81 zRow.toArray (HG2.out _) (opC_info 53) rfl (opC_one 53) ?_)
  exact bodyPost_ret (v := .tuple #[.agg (opC 53), .bool true]) (result_cell2 rfl _ _ _ w.heap.size (opC 53) _ rfl rfl (run_loadVar_row _ _ _ _ _ _ _ (setRow_heap _ _ _ _ _ _ (HG2.out _)) Tryz.underlying81 rfl (opC_info 53))) rfl
    ⟨rfl, below_setRow ((HB.out).alloc HB.out.size _) (Nat.le_refl _) _⟩
set_option maxHeartbeats 4000000 in
theorem rInfo_54 (w : World) : Calls Tryz.prog 50 #[.int .u8 54] w fun e w' => e = .returned (.tuple #[.agg (opC 54), .bool true]) ∧ Below w.heap.size w w' := by
  have HWD := hide_ (fun w => word_any 54 (by omega) (by omega) w)
  rw [show (opRow 54).w = [97, 100, 100, 102] from rfl] at HWD
  go_enter Tryz.func50, Tryz.ntmps50
  go_wp2_with fail
  refine (HWD.out _).mono ?_
  rintro e w1 ⟨rfl, hb⟩
  have HG2 := info_kept hb
  have HB := hide_ (show Below w.heap.size w w1 from ((Below.refl _ _).alloc (Nat.le_refl _) _).trans (hb.mono (by simp)))
  clear hb
  go_wp2_with (refine wpList_store_row rfl 81 (.tmp 2) (.tmp 114) rfl _ (opC 54) rfl rfl 81 zRow.toArray (HG2.out _) (opC_info 54) rfl (opC_one 54) ?_)
  exact bodyPost_ret (v := .tuple #[.agg (opC 54), .bool true]) (result_cell2 rfl _ _ _ w.heap.size (opC 54) _ rfl rfl (run_loadVar_row _ _ _ _ _ _ _ (setRow_heap _ _ _ _ _ _ (HG2.out _)) Tryz.underlying81 rfl (opC_info 54))) rfl
    ⟨rfl, below_setRow ((HB.out).alloc HB.out.size _) (Nat.le_refl _) _⟩
set_option maxHeartbeats 4000000 in
theorem rInfo_55 (w : World) : Calls Tryz.prog 50 #[.int .u8 55] w fun e w' => e = .returned (.tuple #[.agg (opC 55), .bool true]) ∧ Below w.heap.size w w' := by
  have HWD := hide_ (fun w => word_any 55 (by omega) (by omega) w)
  rw [show (opRow 55).w = [115, 117, 98, 102] from rfl] at HWD
  go_enter Tryz.func50, Tryz.ntmps50
  go_wp2_with fail
  refine (HWD.out _).mono ?_
  rintro e w1 ⟨rfl, hb⟩
  have HG2 := info_kept hb
  have HB := hide_ (show Below w.heap.size w w1 from ((Below.refl _ _).alloc (Nat.le_refl _) _).trans (hb.mono (by simp)))
  clear hb
  go_wp2_with (refine wpList_store_row rfl 81 (.tmp 2) (.tmp 114) rfl _ (opC 55) rfl rfl 81 zRow.toArray (HG2.out _) (opC_info 55) rfl (opC_one 55) ?_)
  exact bodyPost_ret (v := .tuple #[.agg (opC 55), .bool true]) (result_cell2 rfl _ _ _ w.heap.size (opC 55) _ rfl rfl (run_loadVar_row _ _ _ _ _ _ _ (setRow_heap _ _ _ _ _ _ (HG2.out _)) Tryz.underlying81 rfl (opC_info 55))) rfl
    ⟨rfl, below_setRow ((HB.out).alloc HB.out.size _) (Nat.le_refl _) _⟩
set_option maxHeartbeats 4000000 in
theorem rInfo_56 (w : World) : Calls Tryz.prog 50 #[.int .u8 56] w fun e w' => e = .returned (.tuple #[.agg (opC 56), .bool true]) ∧ Below w.heap.size w w' := by
  have HWD := hide_ (fun w => word_any 56 (by omega) (by omega) w)
  rw [show (opRow 56).w = [109, 117, 108, 102] from rfl] at HWD
  go_enter Tryz.func50, Tryz.ntmps50
  go_wp2_with fail
  refine (HWD.out _).mono ?_
  rintro e w1 ⟨rfl, hb⟩
  have HG2 := info_kept hb
  have HB := hide_ (show Below w.heap.size w w1 from ((Below.refl _ _).alloc (Nat.le_refl _) _).trans (hb.mono (by simp)))
  clear hb
  go_wp2_with (refine wpList_store_row rfl 81 (.tmp 2) (.tmp 114) rfl _ (opC 56) rfl rfl 81 zRow.toArray (HG2.out _) (opC_info 56) rfl (opC_one 56) ?_)
  exact bodyPost_ret (v := .tuple #[.agg (opC 56), .bool true]) (result_cell2 rfl _ _ _ w.heap.size (opC 56) _ rfl rfl (run_loadVar_row _ _ _ _ _ _ _ (setRow_heap _ _ _ _ _ _ (HG2.out _)) Tryz.underlying81 rfl (opC_info 56))) rfl
    ⟨rfl, below_setRow ((HB.out).alloc HB.out.size _) (Nat.le_refl _) _⟩
set_option maxHeartbeats 4000000 in
theorem rInfo_57 (w : World) : Calls Tryz.prog 50 #[.int .u8 57] w fun e w' => e = .returned (.tuple #[.agg (opC 57), .bool true]) ∧ Below w.heap.size w w' := by
  have HWD := hide_ (fun w => word_any 57 (by omega) (by omega) w)
  rw [show (opRow 57).w = [100, 105, 118, 102] from rfl] at HWD
  go_enter Tryz.func50, Tryz.ntmps50
  go_wp2_with fail
  refine (HWD.out _).mono ?_
  rintro e w1 ⟨rfl, hb⟩
  have HG2 := info_kept hb
  have HB := hide_ (show Below w.heap.size w w1 from ((Below.refl _ _).alloc (Nat.le_refl _) _).trans (hb.mono (by simp)))
  clear hb
  go_wp2_with (refine wpList_store_row rfl 81 (.tmp 2) (.tmp 114) rfl _ (opC 57) rfl rfl 81 zRow.toArray (HG2.out _) (opC_info 57) rfl (opC_one 57) ?_)
  exact bodyPost_ret (v := .tuple #[.agg (opC 57), .bool true]) (result_cell2 rfl _ _ _ w.heap.size (opC 57) _ rfl rfl (run_loadVar_row _ _ _ _ _ _ _ (setRow_heap _ _ _ _ _ _ (HG2.out _)) Tryz.underlying81 rfl (opC_info 57))) rfl
    ⟨rfl, below_setRow ((HB.out).alloc HB.out.size _) (Nat.le_refl _) _⟩
set_option maxHeartbeats 4000000 in
theorem rInfo_58 (w : World) : Calls Tryz.prog 50 #[.int .u8 58] w fun e w' => e = .returned (.tuple #[.agg (opC 58), .bool true]) ∧ Below w.heap.size w w' := by
  have HWD := hide_ (fun w => word_any 58 (by omega) (by omega) w)
  rw [show (opRow 58).w = [99, 118, 105, 102] from rfl] at HWD
  go_enter Tryz.func50, Tryz.ntmps50
  go_wp2_with fail
  refine (HWD.out _).mono ?_
  rintro e w1 ⟨rfl, hb⟩
  have HG2 := info_kept hb
  have HB := hide_ (show Below w.heap.size w w1 from ((Below.refl _ _).alloc (Nat.le_refl _) _).trans (hb.mono (by simp)))
  clear hb
  go_wp2_with (refine wpList_store_row rfl 81 (.tmp 2) (.tmp 114) rfl _ (opC 58) rfl rfl 81 zRow.toArray (HG2.out _) (opC_info 58) rfl (opC_one 58) ?_)
  exact bodyPost_ret (v := .tuple #[.agg (opC 58), .bool true]) (result_cell2 rfl _ _ _ w.heap.size (opC 58) _ rfl rfl (run_loadVar_row _ _ _ _ _ _ _ (setRow_heap _ _ _ _ _ _ (HG2.out _)) Tryz.underlying81 rfl (opC_info 58))) rfl
    ⟨rfl, below_setRow ((HB.out).alloc HB.out.size _) (Nat.le_refl _) _⟩
set_option maxHeartbeats 4000000 in
theorem rInfo_59 (w : World) : Calls Tryz.prog 50 #[.int .u8 59] w fun e w' => e = .returned (.tuple #[.agg (opC 59), .bool true]) ∧ Below w.heap.size w w' := by
  have HWD := hide_ (fun w => word_any 59 (by omega) (by omega) w)
  rw [show (opRow 59).w = [99, 118, 102, 105] from rfl] at HWD
  go_enter Tryz.func50, Tryz.ntmps50
  go_wp2_with fail
  refine (HWD.out _).mono ?_
  rintro e w1 ⟨rfl, hb⟩
  have HG2 := info_kept hb
  have HB := hide_ (show Below w.heap.size w w1 from ((Below.refl _ _).alloc (Nat.le_refl _) _).trans (hb.mono (by simp)))
  clear hb
  go_wp2_with (refine wpList_store_row rfl 81 (.tmp 2) (.tmp 114) rfl _ (opC 59) rfl rfl 81 zRow.toArray (HG2.out _) (opC_info 59) rfl (opC_one 59) ?_)
  exact bodyPost_ret (v := .tuple #[.agg (opC 59), .bool true]) (result_cell2 rfl _ _ _ w.heap.size (opC 59) _ rfl rfl (run_loadVar_row _ _ _ _ _ _ _ (setRow_heap _ _ _ _ _ _ (HG2.out _)) Tryz.underlying81 rfl (opC_info 59))) rfl
    ⟨rfl, below_setRow ((HB.out).alloc HB.out.size _) (Nat.le_refl _) _⟩
end Go.Proofs.YtnkfjileaonemaaGreatDoor
