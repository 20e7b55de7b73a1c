/-
  Joined and packed by program.
-/
import Derived.Test.YtikbegmodacopaaGreatDoorC07
namespace Go.Proofs.YtikbegmodacopaaGreatDoor
set_option maxRecDepth 100000
open Go.RowKit
set_option linter.unusedSimpArgs false
set_option linter.unusedVariables false
set_option maxHeartbeats 4000000 in
theorem rInfo_1 (w:World):Calls Tryz.prog 81 #[.int .u8 1] w fun e w'=>e=.returned (.tuple #[.agg (opC 1),.bool true])∧Below w.heap.size w w':=by
 have HWD:=hide_ (fun w=>word_any 1 (by omega) (by omega) w)
 rw [show (opRow 1).w=[110,111,112] from rfl] at HWD
 go_enter Tryz.func81,Tryz.ntmps81
 go_wp2_with fail
 refine (HWD.out _).mono ?_
 rintro e w1 ⟨rfl,hb⟩
 have HG2:=info_kept hb
 have HB:=hide_ (show Below w.heap.size w w1 from ((Below.refl _ _).alloc (Nat.le_refl _) _).trans (hb.mono (by simp)))
 clear hb
 go_wp2_with (refine wpList_store_row rfl 114 (.tmp 2) (.tmp 114) rfl _ (opC 1) rfl rfl 114 zRow.toArray (HG2.out _) (opC_info 1) rfl (opC_one 1) ?_)
 exact bodyPost_ret (v:=.tuple #[.agg (opC 1),.bool true]) (result_cell2 rfl _ _ _ w.heap.size (opC 1) _ rfl rfl (run_loadVar_row _ _ _ _ _ _ _ (setRow_heap _ _ _ _ _ _ (HG2.out _)) Tryz.underlying114 rfl (opC_info 1))) rfl
  ⟨rfl,below_setRow ((HB.out).alloc HB.out.size _) (Nat.le_refl _) _⟩
set_option maxHeartbeats 4000000 in
theorem rInfo_2 (w:World):Calls Tryz.prog 81 #[.int .u8 2] w fun e w'=>e=.returned (.tuple #[.agg (opC 2),.bool true])∧Below w.heap.size w w':=by
 have HWD:=hide_ (fun w=>word_any 2 (by omega) (by omega) w)
 rw [show (opRow 2).w=[98,114,101,97,107] from rfl] at HWD
 go_enter Tryz.func81,Tryz.ntmps81
 go_wp2_with fail
 refine (HWD.out _).mono ?_
 rintro e w1 ⟨rfl,hb⟩
 have HG2:=info_kept hb
 have HB:=hide_ (show Below w.heap.size w w1 from ((Below.refl _ _).alloc (Nat.le_refl _) _).trans (hb.mono (by simp)))
 clear hb
 go_wp2_with (refine wpList_store_row rfl 114 (.tmp 2) (.tmp 114) rfl _ (opC 2) rfl rfl 114 zRow.toArray (HG2.out _) (opC_info 2) rfl (opC_one 2) ?_)
 exact bodyPost_ret (v:=.tuple #[.agg (opC 2),.bool true]) (result_cell2 rfl _ _ _ w.heap.size (opC 2) _ rfl rfl (run_loadVar_row _ _ _ _ _ _ _ (setRow_heap _ _ _ _ _ _ (HG2.out _)) Tryz.underlying114 rfl (opC_info 2))) rfl
  ⟨rfl,below_setRow ((HB.out).alloc HB.out.size _) (Nat.le_refl _) _⟩
set_option maxHeartbeats 4000000 in
theorem rInfo_3 (w:World):Calls Tryz.prog 81 #[.int .u8 3] w fun e w'=>e=.returned (.tuple #[.agg (opC 3),.bool true])∧Below w.heap.size w w':=by
 have HWD:=hide_ (fun w=>word_any 3 (by omega) (by omega) w)
 rw [show (opRow 3).w=[101,110,116,101,114] from rfl] at HWD
 go_enter Tryz.func81,Tryz.ntmps81
 go_wp2_with fail
 refine (HWD.out _).mono ?_
 rintro e w1 ⟨rfl,hb⟩
 have HG2:=info_kept hb
 have HB:=hide_ (show Below w.heap.size w w1 from ((Below.refl _ _).alloc (Nat.le_refl _) _).trans (hb.mono (by simp)))
 clear hb
 go_wp2_with (refine wpList_store_row rfl 114 (.tmp 2) (.tmp 114) rfl _ (opC 3) rfl rfl 114 zRow.toArray (HG2.out _) (opC_info 3) rfl (opC_one 3) ?_)
 exact bodyPost_ret (v:=.tuple #[.agg (opC 3),.bool true]) (result_cell2 rfl _ _ _ w.heap.size (opC 3) _ rfl rfl (run_loadVar_row _ _ _ _ _ _ _ (setRow_heap _ _ _ _ _ _ (HG2.out _)) Tryz.underlying114 rfl (opC_info 3))) rfl
  ⟨rfl,below_setRow ((HB.out).alloc HB.out.size _) (Nat.le_refl _) _⟩
set_option maxHeartbeats 4000000 in
theorem rInfo_4 (w:World):Calls Tryz.prog 81 #[.int .u8 4] w fun e w'=>e=.returned (.tuple #[.agg (opC 4),.bool true])∧Below w.heap.size w w':=by
 have HWD:=hide_ (fun w=>word_any 4 (by omega) (by omega) w)
 rw [show (opRow 4).w=[108,101,97,118,101] from rfl] at HWD
 go_enter Tryz.func81,Tryz.ntmps81
 go_wp2_with fail
 refine (HWD.out _).mono ?_
 rintro e w1 ⟨rfl,hb⟩
 have HG2:=info_kept hb
 have HB:=hide_ (show Below w.heap.size w w1 from ((Below.refl _ _).alloc (Nat.le_refl _) _).trans (hb.mono (by simp)))
 clear hb
 go_wp2_with (refine wpList_store_row rfl 114 (.tmp 2) (.tmp 114) rfl _ (opC 4) rfl rfl 114 zRow.toArray (HG2.out _) (opC_info 4) rfl (opC_one 4) ?_)
 exact bodyPost_ret (v:=.tuple #[.agg (opC 4),.bool true]) (result_cell2 rfl _ _ _ w.heap.size (opC 4) _ rfl rfl (run_loadVar_row _ _ _ _ _ _ _ (setRow_heap _ _ _ _ _ _ (HG2.out _)) Tryz.underlying114 rfl (opC_info 4))) rfl
  ⟨rfl,below_setRow ((HB.out).alloc HB.out.size _) (Nat.le_refl _) _⟩
set_option maxHeartbeats 4000000 in
theorem rInfo_5 (w:World):Calls Tryz.prog 81 #[.int .u8 5] w fun e w'=>e=.returned (.tuple #[.agg (opC 5),.bool true])∧Below w.heap.size w w':=by
 have HWD:=hide_ (fun w=>word_any 5 (by omega) (by omega) w)
 rw [show (opRow 5).w=[99,97,108,108] from rfl] at HWD
 go_enter Tryz.func81,Tryz.ntmps81
 go_wp2_with fail
 refine (HWD.out _).mono ?_
 rintro e w1 ⟨rfl,hb⟩
 have HG2:=info_kept hb
 have HB:=hide_ (show Below w.heap.size w w1 from ((Below.refl _ _).alloc (Nat.le_refl _) _).trans (hb.mono (by simp)))
 clear hb
 go_wp2_with (refine wpList_store_row rfl 114 (.tmp 2) (.tmp 114) rfl _ (opC 5) rfl rfl 114 zRow.toArray (HG2.out _) (opC_info 5) rfl (opC_one 5) ?_)
 exact bodyPost_ret (v:=.tuple #[.agg (opC 5),.bool true]) (result_cell2 rfl _ _ _ w.heap.size (opC 5) _ rfl rfl (run_loadVar_row _ _ _ _ _ _ _ (setRow_heap _ _ _ _ _ _ (HG2.out _)) Tryz.underlying114 rfl (opC_info 5))) rfl
  ⟨rfl,below_setRow ((HB.out).alloc HB.out.size _) (Nat.le_refl _) _⟩
set_option maxHeartbeats 4000000 in
theorem rInfo_6 (w:World):Calls Tryz.prog 81 #[.int .u8 6] w fun e w'=>e=.returned (.tuple #[.agg (opC 6),.bool true])∧Below w.heap.size w w':=by
 have HWD:=hide_ (fun w=>word_any 6 (by omega) (by omega) w)
 rw [show (opRow 6).w=[103,111,116,111] from rfl] at HWD
 go_enter Tryz.func81,Tryz.ntmps81
 go_wp2_with fail
 refine (HWD.out _).mono ?_
 rintro e w1 ⟨rfl,hb⟩
 have HG2:=info_kept hb
 have HB:=hide_ (show Below w.heap.size w w1 from ((Below.refl _ _).alloc (Nat.le_refl _) _).trans (hb.mono (by simp)))
 clear hb
 go_wp2_with (refine wpList_store_row rfl 114 (.tmp 2) (.tmp 114) rfl _ (opC 6) rfl rfl 114 zRow.toArray (HG2.out _) (opC_info 6) rfl (opC_one 6) ?_)
 exact bodyPost_ret (v:=.tuple #[.agg (opC 6),.bool true]) (result_cell2 rfl _ _ _ w.heap.size (opC 6) _ rfl rfl (run_loadVar_row _ _ _ _ _ _ _ (setRow_heap _ _ _ _ _ _ (HG2.out _)) Tryz.underlying114 rfl (opC_info 6))) rfl
  ⟨rfl,below_setRow ((HB.out).alloc HB.out.size _) (Nat.le_refl _) _⟩
set_option maxHeartbeats 4000000 in
theorem rInfo_7 (w:World):Calls Tryz.prog 81 #[.int .u8 7] w fun e w'=>e=.returned (.tuple #[.agg (opC 7),.bool true])∧Below w.heap.size w w':=by
 have HWD:=hide_ (fun w=>word_any 7 (by omega) (by omega) w)
 rw [show (opRow 7).w=[106,117,109,112] from rfl] at HWD
 go_enter Tryz.func81,Tryz.ntmps81
 go_wp2_with fail
 refine (HWD.out _).mono ?_
 rintro e w1 ⟨rfl,hb⟩
 have HG2:=info_kept hb
 have HB:=hide_ (show Below w.heap.size w w1 from ((Below.refl _ _).alloc (Nat.le_refl _) _).trans (hb.mono (by simp)))
 clear hb
 go_wp2_with (refine wpList_store_row rfl 114 (.tmp 2) (.tmp 114) rfl _ (opC 7) rfl rfl 114 zRow.toArray (HG2.out _) (opC_info 7) rfl (opC_one 7) ?_)
 exact bodyPost_ret (v:=.tuple #[.agg (opC 7),.bool true]) (result_cell2 rfl _ _ _ w.heap.size (opC 7) _ rfl rfl (run_loadVar_row _ _ _ _ _ _ _ (setRow_heap _ _ _ _ _ _ (HG2.out _)) Tryz.underlying114 rfl (opC_info 7))) rfl
  ⟨rfl,below_setRow ((HB.out).alloc HB.out.size _) (Nat.le_refl _) _⟩
set_option maxHeartbeats 4000000 in
theorem rInfo_8 (w:World):Calls Tryz.prog 81 #[.int .u8 8] w fun e w'=>e=.returned (.tuple #[.agg (opC 8),.bool true])∧Below w.heap.size w w':=by
 have HWD:=hide_ (fun w=>word_any 8 (by omega) (by omega) w)
 rw [show (opRow 8).w=[99,111,110,115,116] from rfl] at HWD
 go_enter Tryz.func81,Tryz.ntmps81
 go_wp2_with fail
 refine (HWD.out _).mono ?_
 rintro e w1 ⟨rfl,hb⟩
 have HG2:=info_kept hb
 have HB:=hide_ (show Below w.heap.size w w1 from ((Below.refl _ _).alloc (Nat.le_refl _) _).trans (hb.mono (by simp)))
 clear hb
 go_wp2_with (refine wpList_store_row rfl 114 (.tmp 2) (.tmp 114) rfl _ (opC 8) rfl rfl 114 zRow.toArray (HG2.out _) (opC_info 8) rfl (opC_one 8) ?_)
 exact bodyPost_ret (v:=.tuple #[.agg (opC 8),.bool true]) (result_cell2 rfl _ _ _ w.heap.size (opC 8) _ rfl rfl (run_loadVar_row _ _ _ _ _ _ _ (setRow_heap _ _ _ _ _ _ (HG2.out _)) Tryz.underlying114 rfl (opC_info 8))) rfl
  ⟨rfl,below_setRow ((HB.out).alloc HB.out.size _) (Nat.le_refl _) _⟩
set_option maxHeartbeats 4000000 in
theorem rInfo_9 (w:World):Calls Tryz.prog 81 #[.int .u8 9] w fun e w'=>e=.returned (.tuple #[.agg (opC 9),.bool true])∧Below w.heap.size w w':=by
 have HWD:=hide_ (fun w=>word_any 9 (by omega) (by omega) w)
 rw [show (opRow 9).w=[108,111,99,97,108] from rfl] at HWD
 go_enter Tryz.func81,Tryz.ntmps81
 go_wp2_with fail
 refine (HWD.out _).mono ?_
 rintro e w1 ⟨rfl,hb⟩
 have HG2:=info_kept hb
 have HB:=hide_ (show Below w.heap.size w w1 from ((Below.refl _ _).alloc (Nat.le_refl _) _).trans (hb.mono (by simp)))
 clear hb
 go_wp2_with (refine wpList_store_row rfl 114 (.tmp 2) (.tmp 114) rfl _ (opC 9) rfl rfl 114 zRow.toArray (HG2.out _) (opC_info 9) rfl (opC_one 9) ?_)
 exact bodyPost_ret (v:=.tuple #[.agg (opC 9),.bool true]) (result_cell2 rfl _ _ _ w.heap.size (opC 9) _ rfl rfl (run_loadVar_row _ _ _ _ _ _ _ (setRow_heap _ _ _ _ _ _ (HG2.out _)) Tryz.underlying114 rfl (opC_info 9))) rfl
  ⟨rfl,below_setRow ((HB.out).alloc HB.out.size _) (Nat.le_refl _) _⟩
set_option maxHeartbeats 4000000 in
theorem rInfo_10 (w:World):Calls Tryz.prog 81 #[.int .u8 10] w fun e w'=>e=.returned (.tuple #[.agg (opC 10),.bool true])∧Below w.heap.size w w':=by
 have HWD:=hide_ (fun w=>word_any 10 (by omega) (by omega) w)
 rw [show (opRow 10).w=[112,111,112] from rfl] at HWD
 go_enter Tryz.func81,Tryz.ntmps81
 go_wp2_with fail
 refine (HWD.out _).mono ?_
 rintro e w1 ⟨rfl,hb⟩
 have HG2:=info_kept hb
 have HB:=hide_ (show Below w.heap.size w w1 from ((Below.refl _ _).alloc (Nat.le_refl _) _).trans (hb.mono (by simp)))
 clear hb
 go_wp2_with (refine wpList_store_row rfl 114 (.tmp 2) (.tmp 114) rfl _ (opC 10) rfl rfl 114 zRow.toArray (HG2.out _) (opC_info 10) rfl (opC_one 10) ?_)
 exact bodyPost_ret (v:=.tuple #[.agg (opC 10),.bool true]) (result_cell2 rfl _ _ _ w.heap.size (opC 10) _ rfl rfl (run_loadVar_row _ _ _ _ _ _ _ (setRow_heap _ _ _ _ _ _ (HG2.out _)) Tryz.underlying114 rfl (opC_info 10))) rfl
  ⟨rfl,below_setRow ((HB.out).alloc HB.out.size _) (Nat.le_refl _) _⟩
set_option maxHeartbeats 4000000 in
theorem rInfo_11 (w:World):Calls Tryz.prog 81 #[.int .u8 11] w fun e w'=>e=.returned (.tuple #[.agg (opC 11),.bool true])∧Below w.heap.size w w':=by
 have HWD:=hide_ (fun w=>word_any 11 (by omega) (by omega) w)
 rw [show (opRow 11).w=[100,117,112] from rfl] at HWD
 go_enter Tryz.func81,Tryz.ntmps81
 go_wp2_with fail
 refine (HWD.out _).mono ?_
 rintro e w1 ⟨rfl,hb⟩
 have HG2:=info_kept hb
 have HB:=hide_ (show Below w.heap.size w w1 from ((Below.refl _ _).alloc (Nat.le_refl _) _).trans (hb.mono (by simp)))
 clear hb
 go_wp2_with (refine wpList_store_row rfl 114 (.tmp 2) (.tmp 114) rfl _ (opC 11) rfl rfl 114 zRow.toArray (HG2.out _) (opC_info 11) rfl (opC_one 11) ?_)
 exact bodyPost_ret (v:=.tuple #[.agg (opC 11),.bool true]) (result_cell2 rfl _ _ _ w.heap.size (opC 11) _ rfl rfl (run_loadVar_row _ _ _ _ _ _ _ (setRow_heap _ _ _ _ _ _ (HG2.out _)) Tryz.underlying114 rfl (opC_info 11))) rfl
  ⟨rfl,below_setRow ((HB.out).alloc HB.out.size _) (Nat.le_refl _) _⟩
set_option maxHeartbeats 4000000 in
theorem rInfo_12 (w:World):Calls Tryz.prog 81 #[.int .u8 12] w fun e w'=>e=.returned (.tuple #[.agg (opC 12),.bool true])∧Below w.heap.size w w':=by
 have HWD:=hide_ (fun w=>word_any 12 (by omega) (by omega) w)
 rw [show (opRow 12).w=[97,114,103] from rfl] at HWD
 go_enter Tryz.func81,Tryz.ntmps81
 go_wp2_with fail
 refine (HWD.out _).mono ?_
 rintro e w1 ⟨rfl,hb⟩
 have HG2:=info_kept hb
 have HB:=hide_ (show Below w.heap.size w w1 from ((Below.refl _ _).alloc (Nat.le_refl _) _).trans (hb.mono (by simp)))
 clear hb
 go_wp2_with (refine wpList_store_row rfl 114 (.tmp 2) (.tmp 114) rfl _ (opC 12) rfl rfl 114 zRow.toArray (HG2.out _) (opC_info 12) rfl (opC_one 12) ?_)
 exact bodyPost_ret (v:=.tuple #[.agg (opC 12),.bool true]) (result_cell2 rfl _ _ _ w.heap.size (opC 12) _ rfl rfl (run_loadVar_row _ _ _ _ _ _ _ (setRow_heap _ _ _ _ _ _ (HG2.out _)) Tryz.underlying114 rfl (opC_info 12))) rfl
  ⟨rfl,below_setRow ((HB.out).alloc HB.out.size _) (Nat.le_refl _) _⟩
set_option maxHeartbeats 4000000 in
theorem rInfo_13 (w:World):Calls Tryz.prog 81 #[.int .u8 13] w fun e w'=>e=.returned (.tuple #[.agg (opC 13),.bool true])∧Below w.heap.size w w':=by
 have HWD:=hide_ (fun w=>word_any 13 (by omega) (by omega) w)
 rw [show (opRow 13).w=[101,113] from rfl] at HWD
 go_enter Tryz.func81,Tryz.ntmps81
 go_wp2_with fail
 refine (HWD.out _).mono ?_
 rintro e w1 ⟨rfl,hb⟩
 have HG2:=info_kept hb
 have HB:=hide_ (show Below w.heap.size w w1 from ((Below.refl _ _).alloc (Nat.le_refl _) _).trans (hb.mono (by simp)))
 clear hb
 go_wp2_with (refine wpList_store_row rfl 114 (.tmp 2) (.tmp 114) rfl _ (opC 13) rfl rfl 114 zRow.toArray (HG2.out _) (opC_info 13) rfl (opC_one 13) ?_)
 exact bodyPost_ret (v:=.tuple #[.agg (opC 13),.bool true]) (result_cell2 rfl _ _ _ w.heap.size (opC 13) _ rfl rfl (run_loadVar_row _ _ _ _ _ _ _ (setRow_heap _ _ _ _ _ _ (HG2.out _)) Tryz.underlying114 rfl (opC_info 13))) rfl
  ⟨rfl,below_setRow ((HB.out).alloc HB.out.size _) (Nat.le_refl _) _⟩
set_option maxHeartbeats 4000000 in
theorem rInfo_14 (w:World):Calls Tryz.prog 81 #[.int .u8 14] w fun e w'=>e=.returned (.tuple #[.agg (opC 14),.bool true])∧Below w.heap.size w w':=by
 have HWD:=hide_ (fun w=>word_any 14 (by omega) (by omega) w)
 rw [show (opRow 14).w=[110,101] from rfl] at HWD
 go_enter Tryz.func81,Tryz.ntmps81
 go_wp2_with fail
 refine (HWD.out _).mono ?_
 rintro e w1 ⟨rfl,hb⟩
 have HG2:=info_kept hb
 have HB:=hide_ (show Below w.heap.size w w1 from ((Below.refl _ _).alloc (Nat.le_refl _) _).trans (hb.mono (by simp)))
 clear hb
 go_wp2_with (refine wpList_store_row rfl 114 (.tmp 2) (.tmp 114) rfl _ (opC 14) rfl rfl 114 zRow.toArray (HG2.out _) (opC_info 14) rfl (opC_one 14) ?_)
 exact bodyPost_ret (v:=.tuple #[.agg (opC 14),.bool true]) (result_cell2 rfl _ _ _ w.heap.size (opC 14) _ rfl rfl (run_loadVar_row _ _ _ _ _ _ _ (setRow_heap _ _ _ _ _ _ (HG2.out _)) Tryz.underlying114 rfl (opC_info 14))) rfl
  ⟨rfl,below_setRow ((HB.out).alloc HB.out.size _) (Nat.le_refl _) _⟩
set_option maxHeartbeats 4000000 in
theorem rInfo_15 (w:World):Calls Tryz.prog 81 #[.int .u8 15] w fun e w'=>e=.returned (.tuple #[.agg (opC 15),.bool true])∧Below w.heap.size w w':=by
 have HWD:=hide_ (fun w=>word_any 15 (by omega) (by omega) w)
 rw [show (opRow 15).w=[108,116,105] from rfl] at HWD
 go_enter Tryz.func81,Tryz.ntmps81
 go_wp2_with fail
 refine (HWD.out _).mono ?_
 rintro e w1 ⟨rfl,hb⟩
 have HG2:=info_kept hb
 have HB:=hide_ (show Below w.heap.size w w1 from ((Below.refl _ _).alloc (Nat.le_refl _) _).trans (hb.mono (by simp)))
 clear hb
 go_wp2_with (refine wpList_store_row rfl 114 (.tmp 2) (.tmp 114) rfl _ (opC 15) rfl rfl 114 zRow.toArray (HG2.out _) (opC_info 15) rfl (opC_one 15) ?_)
 exact bodyPost_ret (v:=.tuple #[.agg (opC 15),.bool true]) (result_cell2 rfl _ _ _ w.heap.size (opC 15) _ rfl rfl (run_loadVar_row _ _ _ _ _ _ _ (setRow_heap _ _ _ _ _ _ (HG2.out _)) Tryz.underlying114 rfl (opC_info 15))) rfl
  ⟨rfl,below_setRow ((HB.out).alloc HB.out.size _) (Nat.le_refl _) _⟩
set_option maxHeartbeats 4000000 in
theorem rInfo_16 (w:World):Calls Tryz.prog 81 #[.int .u8 16] w fun e w'=>e=.returned (.tuple #[.agg (opC 16),.bool true])∧Below w.heap.size w w':=by
 have HWD:=hide_ (fun w=>word_any 16 (by omega) (by omega) w)
 rw [show (opRow 16).w=[108,101,105] from rfl] at HWD
 go_enter Tryz.func81,Tryz.ntmps81
 go_wp2_with fail
 refine (HWD.out _).mono ?_
 rintro e w1 ⟨rfl,hb⟩
 have HG2:=info_kept hb
 have HB:=hide_ (show Below w.heap.size w w1 from ((Below.refl _ _).alloc (Nat.le_refl _) _).trans (hb.mono (by simp)))
 clear hb
 go_wp2_with (refine wpList_store_row rfl 114 (.tmp 2) (.tmp 114) rfl _ (opC 16) rfl rfl 114 zRow.toArray (HG2.out _) (opC_info 16) rfl (opC_one 16) ?_)
 exact bodyPost_ret (v:=.tuple #[.agg (opC 16),.bool true]) (result_cell2 rfl _ _ _ w.heap.size (opC 16) _ rfl rfl (run_loadVar_row _ _ _ _ _ _ _ (setRow_heap _ _ _ _ _ _ (HG2.out _)) Tryz.underlying114 rfl (opC_info 16))) rfl
  ⟨rfl,below_setRow ((HB.out).alloc HB.out.size _) (Nat.le_refl _) _⟩
set_option maxHeartbeats 4000000 in
theorem rInfo_17 (w:World):Calls Tryz.prog 81 #[.int .u8 17] w fun e w'=>e=.returned (.tuple #[.agg (opC 17),.bool true])∧Below w.heap.size w w':=by
 have HWD:=hide_ (fun w=>word_any 17 (by omega) (by omega) w)
 rw [show (opRow 17).w=[103,116,105] from rfl] at HWD
 go_enter Tryz.func81,Tryz.ntmps81
 go_wp2_with fail
 refine (HWD.out _).mono ?_
 rintro e w1 ⟨rfl,hb⟩
 have HG2:=info_kept hb
 have HB:=hide_ (show Below w.heap.size w w1 from ((Below.refl _ _).alloc (Nat.le_refl _) _).trans (hb.mono (by simp)))
 clear hb
 go_wp2_with (refine wpList_store_row rfl 114 (.tmp 2) (.tmp 114) rfl _ (opC 17) rfl rfl 114 zRow.toArray (HG2.out _) (opC_info 17) rfl (opC_one 17) ?_)
 exact bodyPost_ret (v:=.tuple #[.agg (opC 17),.bool true]) (result_cell2 rfl _ _ _ w.heap.size (opC 17) _ rfl rfl (run_loadVar_row _ _ _ _ _ _ _ (setRow_heap _ _ _ _ _ _ (HG2.out _)) Tryz.underlying114 rfl (opC_info 17))) rfl
  ⟨rfl,below_setRow ((HB.out).alloc HB.out.size _) (Nat.le_refl _) _⟩
set_option maxHeartbeats 4000000 in
theorem rInfo_18 (w:World):Calls Tryz.prog 81 #[.int .u8 18] w fun e w'=>e=.returned (.tuple #[.agg (opC 18),.bool true])∧Below w.heap.size w w':=by
 have HWD:=hide_ (fun w=>word_any 18 (by omega) (by omega) w)
 rw [show (opRow 18).w=[103,101,105] from rfl] at HWD
 go_enter Tryz.func81,Tryz.ntmps81
 go_wp2_with fail
 refine (HWD.out _).mono ?_
 rintro e w1 ⟨rfl,hb⟩
 have HG2:=info_kept hb
 have HB:=hide_ (show Below w.heap.size w w1 from ((Below.refl _ _).alloc (Nat.le_refl _) _).trans (hb.mono (by simp)))
 clear hb
 go_wp2_with (refine wpList_store_row rfl 114 (.tmp 2) (.tmp 114) rfl _ (opC 18) rfl rfl 114 zRow.toArray (HG2.out _) (opC_info 18) rfl (opC_one 18) ?_)
 exact bodyPost_ret (v:=.tuple #[.agg (opC 18),.bool true]) (result_cell2 rfl _ _ _ w.heap.size (opC 18) _ rfl rfl (run_loadVar_row _ _ _ _ _ _ _ (setRow_heap _ _ _ _ _ _ (HG2.out _)) Tryz.underlying114 rfl (opC_info 18))) rfl
  ⟨rfl,below_setRow ((HB.out).alloc HB.out.size _) (Nat.le_refl _) _⟩
set_option maxHeartbeats 4000000 in
theorem rInfo_19 (w:World):Calls Tryz.prog 81 #[.int .u8 19] w fun e w'=>e=.returned (.tuple #[.agg (opC 19),.bool true])∧Below w.heap.size w w':=by
 have HWD:=hide_ (fun w=>word_any 19 (by omega) (by omega) w)
 rw [show (opRow 19).w=[108,116,117] from rfl] at HWD
 go_enter Tryz.func81,Tryz.ntmps81
 go_wp2_with fail
 refine (HWD.out _).mono ?_
 rintro e w1 ⟨rfl,hb⟩
 have HG2:=info_kept hb
 have HB:=hide_ (show Below w.heap.size w w1 from ((Below.refl _ _).alloc (Nat.le_refl _) _).trans (hb.mono (by simp)))
 clear hb
 go_wp2_with (refine wpList_store_row rfl 114 (.tmp 2) (.tmp 114) rfl _ (opC 19) rfl rfl 114 zRow.toArray (HG2.out _) (opC_info 19) rfl (opC_one 19) ?_)
 exact bodyPost_ret (v:=.tuple #[.agg (opC 19),.bool true]) (result_cell2 rfl _ _ _ w.heap.size (opC 19) _ rfl rfl (run_loadVar_row _ _ _ _ _ _ _ (setRow_heap _ _ _ _ _ _ (HG2.out _)) Tryz.underlying114 rfl (opC_info 19))) rfl
  ⟨rfl,below_setRow ((HB.out).alloc HB.out.size _) (Nat.le_refl _) _⟩
set_option maxHeartbeats 4000000 in
theorem rInfo_20 (w:World):Calls Tryz.prog 81 #[.int .u8 20] w fun e w'=>e=.returned (.tuple #[.agg (opC 20),.bool true])∧Below w.heap.size w w':=by
 have HWD:=hide_ (fun w=>word_any 20 (by omega) (by omega) w)
 rw [show (opRow 20).w=[108,101,117] from rfl] at HWD
 go_enter Tryz.func81,Tryz.ntmps81
 go_wp2_with fail
 refine (HWD.out _).mono ?_
 rintro e w1 ⟨rfl,hb⟩
 have HG2:=info_kept hb
 have HB:=hide_ (show Below w.heap.size w w1 from ((Below.refl _ _).alloc (Nat.le_refl _) _).trans (hb.mono (by simp)))
 clear hb
 go_wp2_with (refine wpList_store_row rfl 114 (.tmp 2) (.tmp 114) rfl _ (opC 20) rfl rfl 114 zRow.toArray (HG2.out _) (opC_info 20) rfl (opC_one 20) ?_)
 exact bodyPost_ret (v:=.tuple #[.agg (opC 20),.bool true]) (result_cell2 rfl _ _ _ w.heap.size (opC 20) _ rfl rfl (run_loadVar_row _ _ _ _ _ _ _ (setRow_heap _ _ _ _ _ _ (HG2.out _)) Tryz.underlying114 rfl (opC_info 20))) rfl
  ⟨rfl,below_setRow ((HB.out).alloc HB.out.size _) (Nat.le_refl _) _⟩
end Go.Proofs.YtikbegmodacopaaGreatDoor
namespace Go.Proofs.YtikbegmodacopaaGreatDoor
set_option maxRecDepth 100000
open Go.RowKit
set_option linter.unusedSimpArgs false
set_option linter.unusedVariables false
set_option maxHeartbeats 4000000 in
theorem rInfo_21 (w:World):Calls Tryz.prog 81 #[.int .u8 21] w fun e w'=>e=.returned (.tuple #[.agg (opC 21),.bool true])∧Below w.heap.size w w':=by
 have HWD:=hide_ (fun w=>word_any 21 (by omega) (by omega) w)
 rw [show (opRow 21).w=[103,116,117] from rfl] at HWD
 go_enter Tryz.func81,Tryz.ntmps81
 go_wp2_with fail
 refine (HWD.out _).mono ?_
 rintro e w1 ⟨rfl,hb⟩
 have HG2:=info_kept hb
 have HB:=hide_ (show Below w.heap.size w w1 from ((Below.refl _ _).alloc (Nat.le_refl _) _).trans (hb.mono (by simp)))
 clear hb
 go_wp2_with (refine wpList_store_row rfl 114 (.tmp 2) (.tmp 114) rfl _ (opC 21) rfl rfl 114 zRow.toArray (HG2.out _) (opC_info 21) rfl (opC_one 21) ?_)
 exact bodyPost_ret (v:=.tuple #[.agg (opC 21),.bool true]) (result_cell2 rfl _ _ _ w.heap.size (opC 21) _ rfl rfl (run_loadVar_row _ _ _ _ _ _ _ (setRow_heap _ _ _ _ _ _ (HG2.out _)) Tryz.underlying114 rfl (opC_info 21))) rfl
  ⟨rfl,below_setRow ((HB.out).alloc HB.out.size _) (Nat.le_refl _) _⟩
set_option maxHeartbeats 4000000 in
theorem rInfo_22 (w:World):Calls Tryz.prog 81 #[.int .u8 22] w fun e w'=>e=.returned (.tuple #[.agg (opC 22),.bool true])∧Below w.heap.size w w':=by
 have HWD:=hide_ (fun w=>word_any 22 (by omega) (by omega) w)
 rw [show (opRow 22).w=[103,101,117] from rfl] at HWD
 go_enter Tryz.func81,Tryz.ntmps81
 go_wp2_with fail
 refine (HWD.out _).mono ?_
 rintro e w1 ⟨rfl,hb⟩
 have HG2:=info_kept hb
 have HB:=hide_ (show Below w.heap.size w w1 from ((Below.refl _ _).alloc (Nat.le_refl _) _).trans (hb.mono (by simp)))
 clear hb
 go_wp2_with (refine wpList_store_row rfl 114 (.tmp 2) (.tmp 114) rfl _ (opC 22) rfl rfl 114 zRow.toArray (HG2.out _) (opC_info 22) rfl (opC_one 22) ?_)
 exact bodyPost_ret (v:=.tuple #[.agg (opC 22),.bool true]) (result_cell2 rfl _ _ _ w.heap.size (opC 22) _ rfl rfl (run_loadVar_row _ _ _ _ _ _ _ (setRow_heap _ _ _ _ _ _ (HG2.out _)) Tryz.underlying114 rfl (opC_info 22))) rfl
  ⟨rfl,below_setRow ((HB.out).alloc HB.out.size _) (Nat.le_refl _) _⟩
set_option maxHeartbeats 4000000 in
theorem rInfo_23 (w:World):Calls Tryz.prog 81 #[.int .u8 23] w fun e w'=>e=.returned (.tuple #[.agg (opC 23),.bool true])∧Below w.heap.size w w':=by
 have HWD:=hide_ (fun w=>word_any 23 (by omega) (by omega) w)
 rw [show (opRow 23).w=[101,113,102] from rfl] at HWD
 go_enter Tryz.func81,Tryz.ntmps81
 go_wp2_with fail
 refine (HWD.out _).mono ?_
 rintro e w1 ⟨rfl,hb⟩
 have HG2:=info_kept hb
 have HB:=hide_ (show Below w.heap.size w w1 from ((Below.refl _ _).alloc (Nat.le_refl _) _).trans (hb.mono (by simp)))
 clear hb
 go_wp2_with (refine wpList_store_row rfl 114 (.tmp 2) (.tmp 114) rfl _ (opC 23) rfl rfl 114 zRow.toArray (HG2.out _) (opC_info 23) rfl (opC_one 23) ?_)
 exact bodyPost_ret (v:=.tuple #[.agg (opC 23),.bool true]) (result_cell2 rfl _ _ _ w.heap.size (opC 23) _ rfl rfl (run_loadVar_row _ _ _ _ _ _ _ (setRow_heap _ _ _ _ _ _ (HG2.out _)) Tryz.underlying114 rfl (opC_info 23))) rfl
  ⟨rfl,below_setRow ((HB.out).alloc HB.out.size _) (Nat.le_refl _) _⟩
set_option maxHeartbeats 4000000 in
theorem rInfo_24 (w:World):Calls Tryz.prog 81 #[.int .u8 24] w fun e w'=>e=.returned (.tuple #[.agg (opC 24),.bool true])∧Below w.heap.size w w':=by
 have HWD:=hide_ (fun w=>word_any 24 (by omega) (by omega) w)
 rw [show (opRow 24).w=[110,101,102] from rfl] at HWD
 go_enter Tryz.func81,Tryz.ntmps81
 go_wp2_with fail
 refine (HWD.out _).mono ?_
 rintro e w1 ⟨rfl,hb⟩
 have HG2:=info_kept hb
 have HB:=hide_ (show Below w.heap.size w w1 from ((Below.refl _ _).alloc (Nat.le_refl _) _).trans (hb.mono (by simp)))
 clear hb
 go_wp2_with (refine wpList_store_row rfl 114 (.tmp 2) (.tmp 114) rfl _ (opC 24) rfl rfl 114 zRow.toArray (HG2.out _) (opC_info 24) rfl (opC_one 24) ?_)
 exact bodyPost_ret (v:=.tuple #[.agg (opC 24),.bool true]) (result_cell2 rfl _ _ _ w.heap.size (opC 24) _ rfl rfl (run_loadVar_row _ _ _ _ _ _ _ (setRow_heap _ _ _ _ _ _ (HG2.out _)) Tryz.underlying114 rfl (opC_info 24))) rfl
  ⟨rfl,below_setRow ((HB.out).alloc HB.out.size _) (Nat.le_refl _) _⟩
set_option maxHeartbeats 4000000 in
theorem rInfo_25 (w:World):Calls Tryz.prog 81 #[.int .u8 25] w fun e w'=>e=.returned (.tuple #[.agg (opC 25),.bool true])∧Below w.heap.size w w':=by
 have HWD:=hide_ (fun w=>word_any 25 (by omega) (by omega) w)
 rw [show (opRow 25).w=[108,116,102] from rfl] at HWD
 go_enter Tryz.func81,Tryz.ntmps81
 go_wp2_with fail
 refine (HWD.out _).mono ?_
 rintro e w1 ⟨rfl,hb⟩
 have HG2:=info_kept hb
 have HB:=hide_ (show Below w.heap.size w w1 from ((Below.refl _ _).alloc (Nat.le_refl _) _).trans (hb.mono (by simp)))
 clear hb
 go_wp2_with (refine wpList_store_row rfl 114 (.tmp 2) (.tmp 114) rfl _ (opC 25) rfl rfl 114 zRow.toArray (HG2.out _) (opC_info 25) rfl (opC_one 25) ?_)
 exact bodyPost_ret (v:=.tuple #[.agg (opC 25),.bool true]) (result_cell2 rfl _ _ _ w.heap.size (opC 25) _ rfl rfl (run_loadVar_row _ _ _ _ _ _ _ (setRow_heap _ _ _ _ _ _ (HG2.out _)) Tryz.underlying114 rfl (opC_info 25))) rfl
  ⟨rfl,below_setRow ((HB.out).alloc HB.out.size _) (Nat.le_refl _) _⟩
set_option maxHeartbeats 4000000 in
theorem rInfo_26 (w:World):Calls Tryz.prog 81 #[.int .u8 26] w fun e w'=>e=.returned (.tuple #[.agg (opC 26),.bool true])∧Below w.heap.size w w':=by
 have HWD:=hide_ (fun w=>word_any 26 (by omega) (by omega) w)
 rw [show (opRow 26).w=[108,101,102] from rfl] at HWD
 go_enter Tryz.func81,Tryz.ntmps81
 go_wp2_with fail
 refine (HWD.out _).mono ?_
 rintro e w1 ⟨rfl,hb⟩
 have HG2:=info_kept hb
 have HB:=hide_ (show Below w.heap.size w w1 from ((Below.refl _ _).alloc (Nat.le_refl _) _).trans (hb.mono (by simp)))
 clear hb
 go_wp2_with (refine wpList_store_row rfl 114 (.tmp 2) (.tmp 114) rfl _ (opC 26) rfl rfl 114 zRow.toArray (HG2.out _) (opC_info 26) rfl (opC_one 26) ?_)
 exact bodyPost_ret (v:=.tuple #[.agg (opC 26),.bool true]) (result_cell2 rfl _ _ _ w.heap.size (opC 26) _ rfl rfl (run_loadVar_row _ _ _ _ _ _ _ (setRow_heap _ _ _ _ _ _ (HG2.out _)) Tryz.underlying114 rfl (opC_info 26))) rfl
  ⟨rfl,below_setRow ((HB.out).alloc HB.out.size _) (Nat.le_refl _) _⟩
set_option maxHeartbeats 4000000 in
theorem rInfo_27 (w:World):Calls Tryz.prog 81 #[.int .u8 27] w fun e w'=>e=.returned (.tuple #[.agg (opC 27),.bool true])∧Below w.heap.size w w':=by
 have HWD:=hide_ (fun w=>word_any 27 (by omega) (by omega) w)
 rw [show (opRow 27).w=[103,116,102] from rfl] at HWD
 go_enter Tryz.func81,Tryz.ntmps81
 go_wp2_with fail
 refine (HWD.out _).mono ?_
 rintro e w1 ⟨rfl,hb⟩
 have HG2:=info_kept hb
 have HB:=hide_ (show Below w.heap.size w w1 from ((Below.refl _ _).alloc (Nat.le_refl _) _).trans (hb.mono (by simp)))
 clear hb
 go_wp2_with (refine wpList_store_row rfl 114 (.tmp 2) (.tmp 114) rfl _ (opC 27) rfl rfl 114 zRow.toArray (HG2.out _) (opC_info 27) rfl (opC_one 27) ?_)
 exact bodyPost_ret (v:=.tuple #[.agg (opC 27),.bool true]) (result_cell2 rfl _ _ _ w.heap.size (opC 27) _ rfl rfl (run_loadVar_row _ _ _ _ _ _ _ (setRow_heap _ _ _ _ _ _ (HG2.out _)) Tryz.underlying114 rfl (opC_info 27))) rfl
  ⟨rfl,below_setRow ((HB.out).alloc HB.out.size _) (Nat.le_refl _) _⟩
set_option maxHeartbeats 4000000 in
theorem rInfo_28 (w:World):Calls Tryz.prog 81 #[.int .u8 28] w fun e w'=>e=.returned (.tuple #[.agg (opC 28),.bool true])∧Below w.heap.size w w':=by
 have HWD:=hide_ (fun w=>word_any 28 (by omega) (by omega) w)
 rw [show (opRow 28).w=[103,101,102] from rfl] at HWD
 go_enter Tryz.func81,Tryz.ntmps81
 go_wp2_with fail
 refine (HWD.out _).mono ?_
 rintro e w1 ⟨rfl,hb⟩
 have HG2:=info_kept hb
 have HB:=hide_ (show Below w.heap.size w w1 from ((Below.refl _ _).alloc (Nat.le_refl _) _).trans (hb.mono (by simp)))
 clear hb
 go_wp2_with (refine wpList_store_row rfl 114 (.tmp 2) (.tmp 114) rfl _ (opC 28) rfl rfl 114 zRow.toArray (HG2.out _) (opC_info 28) rfl (opC_one 28) ?_)
 exact bodyPost_ret (v:=.tuple #[.agg (opC 28),.bool true]) (result_cell2 rfl _ _ _ w.heap.size (opC 28) _ rfl rfl (run_loadVar_row _ _ _ _ _ _ _ (setRow_heap _ _ _ _ _ _ (HG2.out _)) Tryz.underlying114 rfl (opC_info 28))) rfl
  ⟨rfl,below_setRow ((HB.out).alloc HB.out.size _) (Nat.le_refl _) _⟩
set_option maxHeartbeats 4000000 in
theorem rInfo_29 (w:World):Calls Tryz.prog 81 #[.int .u8 29] w fun e w'=>e=.returned (.tuple #[.agg (opC 29),.bool true])∧Below w.heap.size w w':=by
 have HWD:=hide_ (fun w=>word_any 29 (by omega) (by omega) w)
 rw [show (opRow 29).w=[108,111,97,100,49] from rfl] at HWD
 go_enter Tryz.func81,Tryz.ntmps81
 go_wp2_with fail
 refine (HWD.out _).mono ?_
 rintro e w1 ⟨rfl,hb⟩
 have HG2:=info_kept hb
 have HB:=hide_ (show Below w.heap.size w w1 from ((Below.refl _ _).alloc (Nat.le_refl _) _).trans (hb.mono (by simp)))
 clear hb
 go_wp2_with (refine wpList_store_row rfl 114 (.tmp 2) (.tmp 114) rfl _ (opC 29) rfl rfl 114 zRow.toArray (HG2.out _) (opC_info 29) rfl (opC_one 29) ?_)
 exact bodyPost_ret (v:=.tuple #[.agg (opC 29),.bool true]) (result_cell2 rfl _ _ _ w.heap.size (opC 29) _ rfl rfl (run_loadVar_row _ _ _ _ _ _ _ (setRow_heap _ _ _ _ _ _ (HG2.out _)) Tryz.underlying114 rfl (opC_info 29))) rfl
  ⟨rfl,below_setRow ((HB.out).alloc HB.out.size _) (Nat.le_refl _) _⟩
set_option maxHeartbeats 4000000 in
theorem rInfo_30 (w:World):Calls Tryz.prog 81 #[.int .u8 30] w fun e w'=>e=.returned (.tuple #[.agg (opC 30),.bool true])∧Below w.heap.size w w':=by
 have HWD:=hide_ (fun w=>word_any 30 (by omega) (by omega) w)
 rw [show (opRow 30).w=[108,111,97,100,50] from rfl] at HWD
 go_enter Tryz.func81,Tryz.ntmps81
 go_wp2_with fail
 refine (HWD.out _).mono ?_
 rintro e w1 ⟨rfl,hb⟩
 have HG2:=info_kept hb
 have HB:=hide_ (show Below w.heap.size w w1 from ((Below.refl _ _).alloc (Nat.le_refl _) _).trans (hb.mono (by simp)))
 clear hb
 go_wp2_with (refine wpList_store_row rfl 114 (.tmp 2) (.tmp 114) rfl _ (opC 30) rfl rfl 114 zRow.toArray (HG2.out _) (opC_info 30) rfl (opC_one 30) ?_)
 exact bodyPost_ret (v:=.tuple #[.agg (opC 30),.bool true]) (result_cell2 rfl _ _ _ w.heap.size (opC 30) _ rfl rfl (run_loadVar_row _ _ _ _ _ _ _ (setRow_heap _ _ _ _ _ _ (HG2.out _)) Tryz.underlying114 rfl (opC_info 30))) rfl
  ⟨rfl,below_setRow ((HB.out).alloc HB.out.size _) (Nat.le_refl _) _⟩
set_option maxHeartbeats 4000000 in
theorem rInfo_31 (w:World):Calls Tryz.prog 81 #[.int .u8 31] w fun e w'=>e=.returned (.tuple #[.agg (opC 31),.bool true])∧Below w.heap.size w w':=by
 have HWD:=hide_ (fun w=>word_any 31 (by omega) (by omega) w)
 rw [show (opRow 31).w=[108,111,97,100,52] from rfl] at HWD
 go_enter Tryz.func81,Tryz.ntmps81
 go_wp2_with fail
 refine (HWD.out _).mono ?_
 rintro e w1 ⟨rfl,hb⟩
 have HG2:=info_kept hb
 have HB:=hide_ (show Below w.heap.size w w1 from ((Below.refl _ _).alloc (Nat.le_refl _) _).trans (hb.mono (by simp)))
 clear hb
 go_wp2_with (refine wpList_store_row rfl 114 (.tmp 2) (.tmp 114) rfl _ (opC 31) rfl rfl 114 zRow.toArray (HG2.out _) (opC_info 31) rfl (opC_one 31) ?_)
 exact bodyPost_ret (v:=.tuple #[.agg (opC 31),.bool true]) (result_cell2 rfl _ _ _ w.heap.size (opC 31) _ rfl rfl (run_loadVar_row _ _ _ _ _ _ _ (setRow_heap _ _ _ _ _ _ (HG2.out _)) Tryz.underlying114 rfl (opC_info 31))) rfl
  ⟨rfl,below_setRow ((HB.out).alloc HB.out.size _) (Nat.le_refl _) _⟩
set_option maxHeartbeats 4000000 in
theorem rInfo_32 (w:World):Calls Tryz.prog 81 #[.int .u8 32] w fun e w'=>e=.returned (.tuple #[.agg (opC 32),.bool true])∧Below w.heap.size w w':=by
 have HWD:=hide_ (fun w=>word_any 32 (by omega) (by omega) w)
 rw [show (opRow 32).w=[115,116,111,114,101,49] from rfl] at HWD
 go_enter Tryz.func81,Tryz.ntmps81
 go_wp2_with fail
 refine (HWD.out _).mono ?_
 rintro e w1 ⟨rfl,hb⟩
 have HG2:=info_kept hb
 have HB:=hide_ (show Below w.heap.size w w1 from ((Below.refl _ _).alloc (Nat.le_refl _) _).trans (hb.mono (by simp)))
 clear hb
 go_wp2_with (refine wpList_store_row rfl 114 (.tmp 2) (.tmp 114) rfl _ (opC 32) rfl rfl 114 zRow.toArray (HG2.out _) (opC_info 32) rfl (opC_one 32) ?_)
 exact bodyPost_ret (v:=.tuple #[.agg (opC 32),.bool true]) (result_cell2 rfl _ _ _ w.heap.size (opC 32) _ rfl rfl (run_loadVar_row _ _ _ _ _ _ _ (setRow_heap _ _ _ _ _ _ (HG2.out _)) Tryz.underlying114 rfl (opC_info 32))) rfl
  ⟨rfl,below_setRow ((HB.out).alloc HB.out.size _) (Nat.le_refl _) _⟩
set_option maxHeartbeats 4000000 in
theorem rInfo_33 (w:World):Calls Tryz.prog 81 #[.int .u8 33] w fun e w'=>e=.returned (.tuple #[.agg (opC 33),.bool true])∧Below w.heap.size w w':=by
 have HWD:=hide_ (fun w=>word_any 33 (by omega) (by omega) w)
 rw [show (opRow 33).w=[115,116,111,114,101,50] from rfl] at HWD
 go_enter Tryz.func81,Tryz.ntmps81
 go_wp2_with fail
 refine (HWD.out _).mono ?_
 rintro e w1 ⟨rfl,hb⟩
 have HG2:=info_kept hb
 have HB:=hide_ (show Below w.heap.size w w1 from ((Below.refl _ _).alloc (Nat.le_refl _) _).trans (hb.mono (by simp)))
 clear hb
 go_wp2_with (refine wpList_store_row rfl 114 (.tmp 2) (.tmp 114) rfl _ (opC 33) rfl rfl 114 zRow.toArray (HG2.out _) (opC_info 33) rfl (opC_one 33) ?_)
 exact bodyPost_ret (v:=.tuple #[.agg (opC 33),.bool true]) (result_cell2 rfl _ _ _ w.heap.size (opC 33) _ rfl rfl (run_loadVar_row _ _ _ _ _ _ _ (setRow_heap _ _ _ _ _ _ (HG2.out _)) Tryz.underlying114 rfl (opC_info 33))) rfl
  ⟨rfl,below_setRow ((HB.out).alloc HB.out.size _) (Nat.le_refl _) _⟩
set_option maxHeartbeats 4000000 in
theorem rInfo_34 (w:World):Calls Tryz.prog 81 #[.int .u8 34] w fun e w'=>e=.returned (.tuple #[.agg (opC 34),.bool true])∧Below w.heap.size w w':=by
 have HWD:=hide_ (fun w=>word_any 34 (by omega) (by omega) w)
 rw [show (opRow 34).w=[115,116,111,114,101,52] from rfl] at HWD
 go_enter Tryz.func81,Tryz.ntmps81
 go_wp2_with fail
 refine (HWD.out _).mono ?_
 rintro e w1 ⟨rfl,hb⟩
 have HG2:=info_kept hb
 have HB:=hide_ (show Below w.heap.size w w1 from ((Below.refl _ _).alloc (Nat.le_refl _) _).trans (hb.mono (by simp)))
 clear hb
 go_wp2_with (refine wpList_store_row rfl 114 (.tmp 2) (.tmp 114) rfl _ (opC 34) rfl rfl 114 zRow.toArray (HG2.out _) (opC_info 34) rfl (opC_one 34) ?_)
 exact bodyPost_ret (v:=.tuple #[.agg (opC 34),.bool true]) (result_cell2 rfl _ _ _ w.heap.size (opC 34) _ rfl rfl (run_loadVar_row _ _ _ _ _ _ _ (setRow_heap _ _ _ _ _ _ (HG2.out _)) Tryz.underlying114 rfl (opC_info 34))) rfl
  ⟨rfl,below_setRow ((HB.out).alloc HB.out.size _) (Nat.le_refl _) _⟩
set_option maxHeartbeats 4000000 in
theorem rInfo_35 (w:World):Calls Tryz.prog 81 #[.int .u8 35] w fun e w'=>e=.returned (.tuple #[.agg (opC 35),.bool true])∧Below w.heap.size w w':=by
 have HWD:=hide_ (fun w=>word_any 35 (by omega) (by omega) w)
 rw [show (opRow 35).w=[99,111,112,121] from rfl] at HWD
 go_enter Tryz.func81,Tryz.ntmps81
 go_wp2_with fail
 refine (HWD.out _).mono ?_
 rintro e w1 ⟨rfl,hb⟩
 have HG2:=info_kept hb
 have HB:=hide_ (show Below w.heap.size w w1 from ((Below.refl _ _).alloc (Nat.le_refl _) _).trans (hb.mono (by simp)))
 clear hb
 go_wp2_with (refine wpList_store_row rfl 114 (.tmp 2) (.tmp 114) rfl _ (opC 35) rfl rfl 114 zRow.toArray (HG2.out _) (opC_info 35) rfl (opC_one 35) ?_)
 exact bodyPost_ret (v:=.tuple #[.agg (opC 35),.bool true]) (result_cell2 rfl _ _ _ w.heap.size (opC 35) _ rfl rfl (run_loadVar_row _ _ _ _ _ _ _ (setRow_heap _ _ _ _ _ _ (HG2.out _)) Tryz.underlying114 rfl (opC_info 35))) rfl
  ⟨rfl,below_setRow ((HB.out).alloc HB.out.size _) (Nat.le_refl _) _⟩
set_option maxHeartbeats 4000000 in
theorem rInfo_36 (w:World):Calls Tryz.prog 81 #[.int .u8 36] w fun e w'=>e=.returned (.tuple #[.agg (opC 36),.bool true])∧Below w.heap.size w w':=by
 have HWD:=hide_ (fun w=>word_any 36 (by omega) (by omega) w)
 rw [show (opRow 36).w=[115,101,120,56] from rfl] at HWD
 go_enter Tryz.func81,Tryz.ntmps81
 go_wp2_with fail
 refine (HWD.out _).mono ?_
 rintro e w1 ⟨rfl,hb⟩
 have HG2:=info_kept hb
 have HB:=hide_ (show Below w.heap.size w w1 from ((Below.refl _ _).alloc (Nat.le_refl _) _).trans (hb.mono (by simp)))
 clear hb
 go_wp2_with (refine wpList_store_row rfl 114 (.tmp 2) (.tmp 114) rfl _ (opC 36) rfl rfl 114 zRow.toArray (HG2.out _) (opC_info 36) rfl (opC_one 36) ?_)
 exact bodyPost_ret (v:=.tuple #[.agg (opC 36),.bool true]) (result_cell2 rfl _ _ _ w.heap.size (opC 36) _ rfl rfl (run_loadVar_row _ _ _ _ _ _ _ (setRow_heap _ _ _ _ _ _ (HG2.out _)) Tryz.underlying114 rfl (opC_info 36))) rfl
  ⟨rfl,below_setRow ((HB.out).alloc HB.out.size _) (Nat.le_refl _) _⟩
set_option maxHeartbeats 4000000 in
theorem rInfo_37 (w:World):Calls Tryz.prog 81 #[.int .u8 37] w fun e w'=>e=.returned (.tuple #[.agg (opC 37),.bool true])∧Below w.heap.size w w':=by
 have HWD:=hide_ (fun w=>word_any 37 (by omega) (by omega) w)
 rw [show (opRow 37).w=[115,101,120,49,54] from rfl] at HWD
 go_enter Tryz.func81,Tryz.ntmps81
 go_wp2_with fail
 refine (HWD.out _).mono ?_
 rintro e w1 ⟨rfl,hb⟩
 have HG2:=info_kept hb
 have HB:=hide_ (show Below w.heap.size w w1 from ((Below.refl _ _).alloc (Nat.le_refl _) _).trans (hb.mono (by simp)))
 clear hb
 go_wp2_with (refine wpList_store_row rfl 114 (.tmp 2) (.tmp 114) rfl _ (opC 37) rfl rfl 114 zRow.toArray (HG2.out _) (opC_info 37) rfl (opC_one 37) ?_)
 exact bodyPost_ret (v:=.tuple #[.agg (opC 37),.bool true]) (result_cell2 rfl _ _ _ w.heap.size (opC 37) _ rfl rfl (run_loadVar_row _ _ _ _ _ _ _ (setRow_heap _ _ _ _ _ _ (HG2.out _)) Tryz.underlying114 rfl (opC_info 37))) rfl
  ⟨rfl,below_setRow ((HB.out).alloc HB.out.size _) (Nat.le_refl _) _⟩
set_option maxHeartbeats 4000000 in
theorem rInfo_38 (w:World):Calls Tryz.prog 81 #[.int .u8 38] w fun e w'=>e=.returned (.tuple #[.agg (opC 38),.bool true])∧Below w.heap.size w w':=by
 have HWD:=hide_ (fun w=>word_any 38 (by omega) (by omega) w)
 rw [show (opRow 38).w=[110,101,103] from rfl] at HWD
 go_enter Tryz.func81,Tryz.ntmps81
 go_wp2_with fail
 refine (HWD.out _).mono ?_
 rintro e w1 ⟨rfl,hb⟩
 have HG2:=info_kept hb
 have HB:=hide_ (show Below w.heap.size w w1 from ((Below.refl _ _).alloc (Nat.le_refl _) _).trans (hb.mono (by simp)))
 clear hb
 go_wp2_with (refine wpList_store_row rfl 114 (.tmp 2) (.tmp 114) rfl _ (opC 38) rfl rfl 114 zRow.toArray (HG2.out _) (opC_info 38) rfl (opC_one 38) ?_)
 exact bodyPost_ret (v:=.tuple #[.agg (opC 38),.bool true]) (result_cell2 rfl _ _ _ w.heap.size (opC 38) _ rfl rfl (run_loadVar_row _ _ _ _ _ _ _ (setRow_heap _ _ _ _ _ _ (HG2.out _)) Tryz.underlying114 rfl (opC_info 38))) rfl
  ⟨rfl,below_setRow ((HB.out).alloc HB.out.size _) (Nat.le_refl _) _⟩
set_option maxHeartbeats 4000000 in
theorem rInfo_39 (w:World):Calls Tryz.prog 81 #[.int .u8 39] w fun e w'=>e=.returned (.tuple #[.agg (opC 39),.bool true])∧Below w.heap.size w w':=by
 have HWD:=hide_ (fun w=>word_any 39 (by omega) (by omega) w)
 rw [show (opRow 39).w=[97,100,100] from rfl] at HWD
 go_enter Tryz.func81,Tryz.ntmps81
 go_wp2_with fail
 refine (HWD.out _).mono ?_
 rintro e w1 ⟨rfl,hb⟩
 have HG2:=info_kept hb
 have HB:=hide_ (show Below w.heap.size w w1 from ((Below.refl _ _).alloc (Nat.le_refl _) _).trans (hb.mono (by simp)))
 clear hb
 go_wp2_with (refine wpList_store_row rfl 114 (.tmp 2) (.tmp 114) rfl _ (opC 39) rfl rfl 114 zRow.toArray (HG2.out _) (opC_info 39) rfl (opC_one 39) ?_)
 exact bodyPost_ret (v:=.tuple #[.agg (opC 39),.bool true]) (result_cell2 rfl _ _ _ w.heap.size (opC 39) _ rfl rfl (run_loadVar_row _ _ _ _ _ _ _ (setRow_heap _ _ _ _ _ _ (HG2.out _)) Tryz.underlying114 rfl (opC_info 39))) rfl
  ⟨rfl,below_setRow ((HB.out).alloc HB.out.size _) (Nat.le_refl _) _⟩
set_option maxHeartbeats 4000000 in
theorem rInfo_40 (w:World):Calls Tryz.prog 81 #[.int .u8 40] w fun e w'=>e=.returned (.tuple #[.agg (opC 40),.bool true])∧Below w.heap.size w w':=by
 have HWD:=hide_ (fun w=>word_any 40 (by omega) (by omega) w)
 rw [show (opRow 40).w=[115,117,98] from rfl] at HWD
 go_enter Tryz.func81,Tryz.ntmps81
 go_wp2_with fail
 refine (HWD.out _).mono ?_
 rintro e w1 ⟨rfl,hb⟩
 have HG2:=info_kept hb
 have HB:=hide_ (show Below w.heap.size w w1 from ((Below.refl _ _).alloc (Nat.le_refl _) _).trans (hb.mono (by simp)))
 clear hb
 go_wp2_with (refine wpList_store_row rfl 114 (.tmp 2) (.tmp 114) rfl _ (opC 40) rfl rfl 114 zRow.toArray (HG2.out _) (opC_info 40) rfl (opC_one 40) ?_)
 exact bodyPost_ret (v:=.tuple #[.agg (opC 40),.bool true]) (result_cell2 rfl _ _ _ w.heap.size (opC 40) _ rfl rfl (run_loadVar_row _ _ _ _ _ _ _ (setRow_heap _ _ _ _ _ _ (HG2.out _)) Tryz.underlying114 rfl (opC_info 40))) rfl
  ⟨rfl,below_setRow ((HB.out).alloc HB.out.size _) (Nat.le_refl _) _⟩
end Go.Proofs.YtikbegmodacopaaGreatDoor
