/-
  Joined and packed by program.
-/
import Derived.Test.YtikbegmodacopaaGreatDoorC07
import Derived.Test.YtikbegmodacopaaGreatDoorC08
import Derived.WalkLawsBesides
namespace Go.Proofs.YtikbegmodacopaaGreatDoor
set_option maxRecDepth 100000
open Go.RowKit
set_option linter.unusedSimpArgs false
set_option linter.unusedVariables false
set_option maxHeartbeats 4000000 in
theorem rInfo_41 (w:World):Calls Tryz.prog 81 #[.int .u8 41] w fun e w'=>e=.returned (.tuple #[.agg (opC 41),.bool true])∧Below w.heap.size w w':=by
 have HWD:=hide_ (fun w=>word_any 41 (by omega) (by omega) w)
 rw [show (opRow 41).w=[109,117,108] from rfl] at HWD
 go_enter Tryz.func81,Tryz.ntmps81
 go_wp2_with fail
 refine (HWD.out _).mono ?_
 rintro e w1 ⟨rfl,hb⟩
 have HG2:=info_kept hb
 have HB:=hide_ (show Below w.heap.size w w1 from ((Below.refl _ _).alloc (Nat.le_refl _) _).trans (hb.mono (by simp)))
 clear hb
 go_wp2_with (refine wpList_store_row rfl 114 (.tmp 2) (.tmp 114) rfl _ (opC 41) rfl rfl 114 zRow.toArray (HG2.out _) (opC_info 41) rfl (opC_one 41) ?_)
 exact bodyPost_ret (v:=.tuple #[.agg (opC 41),.bool true]) (result_cell2 rfl _ _ _ w.heap.size (opC 41) _ rfl rfl (run_loadVar_row _ _ _ _ _ _ _ (setRow_heap _ _ _ _ _ _ (HG2.out _)) Tryz.underlying114 rfl (opC_info 41))) rfl
  ⟨rfl,below_setRow ((HB.out).alloc HB.out.size _) (Nat.le_refl _) _⟩
set_option maxHeartbeats 4000000 in
theorem rInfo_42 (w:World):Calls Tryz.prog 81 #[.int .u8 42] w fun e w'=>e=.returned (.tuple #[.agg (opC 42),.bool true])∧Below w.heap.size w w':=by
 have HWD:=hide_ (fun w=>word_any 42 (by omega) (by omega) w)
 rw [show (opRow 42).w=[100,105,118,105] from rfl] at HWD
 go_enter Tryz.func81,Tryz.ntmps81
 go_wp2_with fail
 refine (HWD.out _).mono ?_
 rintro e w1 ⟨rfl,hb⟩
 have HG2:=info_kept hb
 have HB:=hide_ (show Below w.heap.size w w1 from ((Below.refl _ _).alloc (Nat.le_refl _) _).trans (hb.mono (by simp)))
 clear hb
 go_wp2_with (refine wpList_store_row rfl 114 (.tmp 2) (.tmp 114) rfl _ (opC 42) rfl rfl 114 zRow.toArray (HG2.out _) (opC_info 42) rfl (opC_one 42) ?_)
 exact bodyPost_ret (v:=.tuple #[.agg (opC 42),.bool true]) (result_cell2 rfl _ _ _ w.heap.size (opC 42) _ rfl rfl (run_loadVar_row _ _ _ _ _ _ _ (setRow_heap _ _ _ _ _ _ (HG2.out _)) Tryz.underlying114 rfl (opC_info 42))) rfl
  ⟨rfl,below_setRow ((HB.out).alloc HB.out.size _) (Nat.le_refl _) _⟩
set_option maxHeartbeats 4000000 in
theorem rInfo_43 (w:World):Calls Tryz.prog 81 #[.int .u8 43] w fun e w'=>e=.returned (.tuple #[.agg (opC 43),.bool true])∧Below w.heap.size w w':=by
 have HWD:=hide_ (fun w=>word_any 43 (by omega) (by omega) w)
 rw [show (opRow 43).w=[100,105,118,117] from rfl] at HWD
 go_enter Tryz.func81,Tryz.ntmps81
 go_wp2_with fail
 refine (HWD.out _).mono ?_
 rintro e w1 ⟨rfl,hb⟩
 have HG2:=info_kept hb
 have HB:=hide_ (show Below w.heap.size w w1 from ((Below.refl _ _).alloc (Nat.le_refl _) _).trans (hb.mono (by simp)))
 clear hb
 go_wp2_with (refine wpList_store_row rfl 114 (.tmp 2) (.tmp 114) rfl _ (opC 43) rfl rfl 114 zRow.toArray (HG2.out _) (opC_info 43) rfl (opC_one 43) ?_)
 exact bodyPost_ret (v:=.tuple #[.agg (opC 43),.bool true]) (result_cell2 rfl _ _ _ w.heap.size (opC 43) _ rfl rfl (run_loadVar_row _ _ _ _ _ _ _ (setRow_heap _ _ _ _ _ _ (HG2.out _)) Tryz.underlying114 rfl (opC_info 43))) rfl
  ⟨rfl,below_setRow ((HB.out).alloc HB.out.size _) (Nat.le_refl _) _⟩
set_option maxHeartbeats 4000000 in
theorem rInfo_44 (w:World):Calls Tryz.prog 81 #[.int .u8 44] w fun e w'=>e=.returned (.tuple #[.agg (opC 44),.bool true])∧Below w.heap.size w w':=by
 have HWD:=hide_ (fun w=>word_any 44 (by omega) (by omega) w)
 rw [show (opRow 44).w=[109,111,100,105] from rfl] at HWD
 go_enter Tryz.func81,Tryz.ntmps81
 go_wp2_with fail
 refine (HWD.out _).mono ?_
 rintro e w1 ⟨rfl,hb⟩
 have HG2:=info_kept hb
 have HB:=hide_ (show Below w.heap.size w w1 from ((Below.refl _ _).alloc (Nat.le_refl _) _).trans (hb.mono (by simp)))
 clear hb
 go_wp2_with (refine wpList_store_row rfl 114 (.tmp 2) (.tmp 114) rfl _ (opC 44) rfl rfl 114 zRow.toArray (HG2.out _) (opC_info 44) rfl (opC_one 44) ?_)
 exact bodyPost_ret (v:=.tuple #[.agg (opC 44),.bool true]) (result_cell2 rfl _ _ _ w.heap.size (opC 44) _ rfl rfl (run_loadVar_row _ _ _ _ _ _ _ (setRow_heap _ _ _ _ _ _ (HG2.out _)) Tryz.underlying114 rfl (opC_info 44))) rfl
  ⟨rfl,below_setRow ((HB.out).alloc HB.out.size _) (Nat.le_refl _) _⟩
set_option maxHeartbeats 4000000 in
theorem rInfo_45 (w:World):Calls Tryz.prog 81 #[.int .u8 45] w fun e w'=>e=.returned (.tuple #[.agg (opC 45),.bool true])∧Below w.heap.size w w':=by
 have HWD:=hide_ (fun w=>word_any 45 (by omega) (by omega) w)
 rw [show (opRow 45).w=[109,111,100,117] from rfl] at HWD
 go_enter Tryz.func81,Tryz.ntmps81
 go_wp2_with fail
 refine (HWD.out _).mono ?_
 rintro e w1 ⟨rfl,hb⟩
 have HG2:=info_kept hb
 have HB:=hide_ (show Below w.heap.size w w1 from ((Below.refl _ _).alloc (Nat.le_refl _) _).trans (hb.mono (by simp)))
 clear hb
 go_wp2_with (refine wpList_store_row rfl 114 (.tmp 2) (.tmp 114) rfl _ (opC 45) rfl rfl 114 zRow.toArray (HG2.out _) (opC_info 45) rfl (opC_one 45) ?_)
 exact bodyPost_ret (v:=.tuple #[.agg (opC 45),.bool true]) (result_cell2 rfl _ _ _ w.heap.size (opC 45) _ rfl rfl (run_loadVar_row _ _ _ _ _ _ _ (setRow_heap _ _ _ _ _ _ (HG2.out _)) Tryz.underlying114 rfl (opC_info 45))) rfl
  ⟨rfl,below_setRow ((HB.out).alloc HB.out.size _) (Nat.le_refl _) _⟩
set_option maxHeartbeats 4000000 in
theorem rInfo_46 (w:World):Calls Tryz.prog 81 #[.int .u8 46] w fun e w'=>e=.returned (.tuple #[.agg (opC 46),.bool true])∧Below w.heap.size w w':=by
 have HWD:=hide_ (fun w=>word_any 46 (by omega) (by omega) w)
 rw [show (opRow 46).w=[97,110,100] from rfl] at HWD
 go_enter Tryz.func81,Tryz.ntmps81
 go_wp2_with fail
 refine (HWD.out _).mono ?_
 rintro e w1 ⟨rfl,hb⟩
 have HG2:=info_kept hb
 have HB:=hide_ (show Below w.heap.size w w1 from ((Below.refl _ _).alloc (Nat.le_refl _) _).trans (hb.mono (by simp)))
 clear hb
 go_wp2_with (refine wpList_store_row rfl 114 (.tmp 2) (.tmp 114) rfl _ (opC 46) rfl rfl 114 zRow.toArray (HG2.out _) (opC_info 46) rfl (opC_one 46) ?_)
 exact bodyPost_ret (v:=.tuple #[.agg (opC 46),.bool true]) (result_cell2 rfl _ _ _ w.heap.size (opC 46) _ rfl rfl (run_loadVar_row _ _ _ _ _ _ _ (setRow_heap _ _ _ _ _ _ (HG2.out _)) Tryz.underlying114 rfl (opC_info 46))) rfl
  ⟨rfl,below_setRow ((HB.out).alloc HB.out.size _) (Nat.le_refl _) _⟩
set_option maxHeartbeats 4000000 in
theorem rInfo_47 (w:World):Calls Tryz.prog 81 #[.int .u8 47] w fun e w'=>e=.returned (.tuple #[.agg (opC 47),.bool true])∧Below w.heap.size w w':=by
 have HWD:=hide_ (fun w=>word_any 47 (by omega) (by omega) w)
 rw [show (opRow 47).w=[111,114] from rfl] at HWD
 go_enter Tryz.func81,Tryz.ntmps81
 go_wp2_with fail
 refine (HWD.out _).mono ?_
 rintro e w1 ⟨rfl,hb⟩
 have HG2:=info_kept hb
 have HB:=hide_ (show Below w.heap.size w w1 from ((Below.refl _ _).alloc (Nat.le_refl _) _).trans (hb.mono (by simp)))
 clear hb
 go_wp2_with (refine wpList_store_row rfl 114 (.tmp 2) (.tmp 114) rfl _ (opC 47) rfl rfl 114 zRow.toArray (HG2.out _) (opC_info 47) rfl (opC_one 47) ?_)
 exact bodyPost_ret (v:=.tuple #[.agg (opC 47),.bool true]) (result_cell2 rfl _ _ _ w.heap.size (opC 47) _ rfl rfl (run_loadVar_row _ _ _ _ _ _ _ (setRow_heap _ _ _ _ _ _ (HG2.out _)) Tryz.underlying114 rfl (opC_info 47))) rfl
  ⟨rfl,below_setRow ((HB.out).alloc HB.out.size _) (Nat.le_refl _) _⟩
set_option maxHeartbeats 4000000 in
theorem rInfo_48 (w:World):Calls Tryz.prog 81 #[.int .u8 48] w fun e w'=>e=.returned (.tuple #[.agg (opC 48),.bool true])∧Below w.heap.size w w':=by
 have HWD:=hide_ (fun w=>word_any 48 (by omega) (by omega) w)
 rw [show (opRow 48).w=[120,111,114] from rfl] at HWD
 go_enter Tryz.func81,Tryz.ntmps81
 go_wp2_with fail
 refine (HWD.out _).mono ?_
 rintro e w1 ⟨rfl,hb⟩
 have HG2:=info_kept hb
 have HB:=hide_ (show Below w.heap.size w w1 from ((Below.refl _ _).alloc (Nat.le_refl _) _).trans (hb.mono (by simp)))
 clear hb
 go_wp2_with (refine wpList_store_row rfl 114 (.tmp 2) (.tmp 114) rfl _ (opC 48) rfl rfl 114 zRow.toArray (HG2.out _) (opC_info 48) rfl (opC_one 48) ?_)
 exact bodyPost_ret (v:=.tuple #[.agg (opC 48),.bool true]) (result_cell2 rfl _ _ _ w.heap.size (opC 48) _ rfl rfl (run_loadVar_row _ _ _ _ _ _ _ (setRow_heap _ _ _ _ _ _ (HG2.out _)) Tryz.underlying114 rfl (opC_info 48))) rfl
  ⟨rfl,below_setRow ((HB.out).alloc HB.out.size _) (Nat.le_refl _) _⟩
set_option maxHeartbeats 4000000 in
theorem rInfo_49 (w:World):Calls Tryz.prog 81 #[.int .u8 49] w fun e w'=>e=.returned (.tuple #[.agg (opC 49),.bool true])∧Below w.heap.size w w':=by
 have HWD:=hide_ (fun w=>word_any 49 (by omega) (by omega) w)
 rw [show (opRow 49).w=[110,111,116] from rfl] at HWD
 go_enter Tryz.func81,Tryz.ntmps81
 go_wp2_with fail
 refine (HWD.out _).mono ?_
 rintro e w1 ⟨rfl,hb⟩
 have HG2:=info_kept hb
 have HB:=hide_ (show Below w.heap.size w w1 from ((Below.refl _ _).alloc (Nat.le_refl _) _).trans (hb.mono (by simp)))
 clear hb
 go_wp2_with (refine wpList_store_row rfl 114 (.tmp 2) (.tmp 114) rfl _ (opC 49) rfl rfl 114 zRow.toArray (HG2.out _) (opC_info 49) rfl (opC_one 49) ?_)
 exact bodyPost_ret (v:=.tuple #[.agg (opC 49),.bool true]) (result_cell2 rfl _ _ _ w.heap.size (opC 49) _ rfl rfl (run_loadVar_row _ _ _ _ _ _ _ (setRow_heap _ _ _ _ _ _ (HG2.out _)) Tryz.underlying114 rfl (opC_info 49))) rfl
  ⟨rfl,below_setRow ((HB.out).alloc HB.out.size _) (Nat.le_refl _) _⟩
set_option maxHeartbeats 4000000 in
theorem rInfo_50 (w:World):Calls Tryz.prog 81 #[.int .u8 50] w fun e w'=>e=.returned (.tuple #[.agg (opC 50),.bool true])∧Below w.heap.size w w':=by
 have HWD:=hide_ (fun w=>word_any 50 (by omega) (by omega) w)
 rw [show (opRow 50).w=[115,104,108] from rfl] at HWD
 go_enter Tryz.func81,Tryz.ntmps81
 go_wp2_with fail
 refine (HWD.out _).mono ?_
 rintro e w1 ⟨rfl,hb⟩
 have HG2:=info_kept hb
 have HB:=hide_ (show Below w.heap.size w w1 from ((Below.refl _ _).alloc (Nat.le_refl _) _).trans (hb.mono (by simp)))
 clear hb
 go_wp2_with (refine wpList_store_row rfl 114 (.tmp 2) (.tmp 114) rfl _ (opC 50) rfl rfl 114 zRow.toArray (HG2.out _) (opC_info 50) rfl (opC_one 50) ?_)
 exact bodyPost_ret (v:=.tuple #[.agg (opC 50),.bool true]) (result_cell2 rfl _ _ _ w.heap.size (opC 50) _ rfl rfl (run_loadVar_row _ _ _ _ _ _ _ (setRow_heap _ _ _ _ _ _ (HG2.out _)) Tryz.underlying114 rfl (opC_info 50))) rfl
  ⟨rfl,below_setRow ((HB.out).alloc HB.out.size _) (Nat.le_refl _) _⟩
set_option maxHeartbeats 4000000 in
theorem rInfo_51 (w:World):Calls Tryz.prog 81 #[.int .u8 51] w fun e w'=>e=.returned (.tuple #[.agg (opC 51),.bool true])∧Below w.heap.size w w':=by
 have HWD:=hide_ (fun w=>word_any 51 (by omega) (by omega) w)
 rw [show (opRow 51).w=[115,104,114,105] from rfl] at HWD
 go_enter Tryz.func81,Tryz.ntmps81
 go_wp2_with fail
 refine (HWD.out _).mono ?_
 rintro e w1 ⟨rfl,hb⟩
 have HG2:=info_kept hb
 have HB:=hide_ (show Below w.heap.size w w1 from ((Below.refl _ _).alloc (Nat.le_refl _) _).trans (hb.mono (by simp)))
 clear hb
 go_wp2_with (refine wpList_store_row rfl 114 (.tmp 2) (.tmp 114) rfl _ (opC 51) rfl rfl 114 zRow.toArray (HG2.out _) (opC_info 51) rfl (opC_one 51) ?_)
 exact bodyPost_ret (v:=.tuple #[.agg (opC 51),.bool true]) (result_cell2 rfl _ _ _ w.heap.size (opC 51) _ rfl rfl (run_loadVar_row _ _ _ _ _ _ _ (setRow_heap _ _ _ _ _ _ (HG2.out _)) Tryz.underlying114 rfl (opC_info 51))) rfl
  ⟨rfl,below_setRow ((HB.out).alloc HB.out.size _) (Nat.le_refl _) _⟩
set_option maxHeartbeats 4000000 in
theorem rInfo_52 (w:World):Calls Tryz.prog 81 #[.int .u8 52] w fun e w'=>e=.returned (.tuple #[.agg (opC 52),.bool true])∧Below w.heap.size w w':=by
 have HWD:=hide_ (fun w=>word_any 52 (by omega) (by omega) w)
 rw [show (opRow 52).w=[115,104,114,117] from rfl] at HWD
 go_enter Tryz.func81,Tryz.ntmps81
 go_wp2_with fail
 refine (HWD.out _).mono ?_
 rintro e w1 ⟨rfl,hb⟩
 have HG2:=info_kept hb
 have HB:=hide_ (show Below w.heap.size w w1 from ((Below.refl _ _).alloc (Nat.le_refl _) _).trans (hb.mono (by simp)))
 clear hb
 go_wp2_with (refine wpList_store_row rfl 114 (.tmp 2) (.tmp 114) rfl _ (opC 52) rfl rfl 114 zRow.toArray (HG2.out _) (opC_info 52) rfl (opC_one 52) ?_)
 exact bodyPost_ret (v:=.tuple #[.agg (opC 52),.bool true]) (result_cell2 rfl _ _ _ w.heap.size (opC 52) _ rfl rfl (run_loadVar_row _ _ _ _ _ _ _ (setRow_heap _ _ _ _ _ _ (HG2.out _)) Tryz.underlying114 rfl (opC_info 52))) rfl
  ⟨rfl,below_setRow ((HB.out).alloc HB.out.size _) (Nat.le_refl _) _⟩
set_option maxHeartbeats 4000000 in
theorem rInfo_53 (w:World):Calls Tryz.prog 81 #[.int .u8 53] w fun e w'=>e=.returned (.tuple #[.agg (opC 53),.bool true])∧Below w.heap.size w w':=by
 have HWD:=hide_ (fun w=>word_any 53 (by omega) (by omega) w)
 rw [show (opRow 53).w=[110,101,103,102] from rfl] at HWD
 go_enter Tryz.func81,Tryz.ntmps81
 go_wp2_with fail
 refine (HWD.out _).mono ?_
 rintro e w1 ⟨rfl,hb⟩
 have HG2:=info_kept hb
 have HB:=hide_ (show Below w.heap.size w w1 from ((Below.refl _ _).alloc (Nat.le_refl _) _).trans (hb.mono (by simp)))
 clear hb
 go_wp2_with (refine wpList_store_row rfl 114 (.tmp 2) (.tmp 114) rfl _ (opC 53) rfl rfl 114 zRow.toArray (HG2.out _) (opC_info 53) rfl (opC_one 53) ?_)
 exact bodyPost_ret (v:=.tuple #[.agg (opC 53),.bool true]) (result_cell2 rfl _ _ _ w.heap.size (opC 53) _ rfl rfl (run_loadVar_row _ _ _ _ _ _ _ (setRow_heap _ _ _ _ _ _ (HG2.out _)) Tryz.underlying114 rfl (opC_info 53))) rfl
  ⟨rfl,below_setRow ((HB.out).alloc HB.out.size _) (Nat.le_refl _) _⟩
set_option maxHeartbeats 4000000 in
theorem rInfo_54 (w:World):Calls Tryz.prog 81 #[.int .u8 54] w fun e w'=>e=.returned (.tuple #[.agg (opC 54),.bool true])∧Below w.heap.size w w':=by
 have HWD:=hide_ (fun w=>word_any 54 (by omega) (by omega) w)
 rw [show (opRow 54).w=[97,100,100,102] from rfl] at HWD
 go_enter Tryz.func81,Tryz.ntmps81
 go_wp2_with fail
 refine (HWD.out _).mono ?_
 rintro e w1 ⟨rfl,hb⟩
 have HG2:=info_kept hb
 have HB:=hide_ (show Below w.heap.size w w1 from ((Below.refl _ _).alloc (Nat.le_refl _) _).trans (hb.mono (by simp)))
 clear hb
 go_wp2_with (refine wpList_store_row rfl 114 (.tmp 2) (.tmp 114) rfl _ (opC 54) rfl rfl 114 zRow.toArray (HG2.out _) (opC_info 54) rfl (opC_one 54) ?_)
 exact bodyPost_ret (v:=.tuple #[.agg (opC 54),.bool true]) (result_cell2 rfl _ _ _ w.heap.size (opC 54) _ rfl rfl (run_loadVar_row _ _ _ _ _ _ _ (setRow_heap _ _ _ _ _ _ (HG2.out _)) Tryz.underlying114 rfl (opC_info 54))) rfl
  ⟨rfl,below_setRow ((HB.out).alloc HB.out.size _) (Nat.le_refl _) _⟩
set_option maxHeartbeats 4000000 in
theorem rInfo_55 (w:World):Calls Tryz.prog 81 #[.int .u8 55] w fun e w'=>e=.returned (.tuple #[.agg (opC 55),.bool true])∧Below w.heap.size w w':=by
 have HWD:=hide_ (fun w=>word_any 55 (by omega) (by omega) w)
 rw [show (opRow 55).w=[115,117,98,102] from rfl] at HWD
 go_enter Tryz.func81,Tryz.ntmps81
 go_wp2_with fail
 refine (HWD.out _).mono ?_
 rintro e w1 ⟨rfl,hb⟩
 have HG2:=info_kept hb
 have HB:=hide_ (show Below w.heap.size w w1 from ((Below.refl _ _).alloc (Nat.le_refl _) _).trans (hb.mono (by simp)))
 clear hb
 go_wp2_with (refine wpList_store_row rfl 114 (.tmp 2) (.tmp 114) rfl _ (opC 55) rfl rfl 114 zRow.toArray (HG2.out _) (opC_info 55) rfl (opC_one 55) ?_)
 exact bodyPost_ret (v:=.tuple #[.agg (opC 55),.bool true]) (result_cell2 rfl _ _ _ w.heap.size (opC 55) _ rfl rfl (run_loadVar_row _ _ _ _ _ _ _ (setRow_heap _ _ _ _ _ _ (HG2.out _)) Tryz.underlying114 rfl (opC_info 55))) rfl
  ⟨rfl,below_setRow ((HB.out).alloc HB.out.size _) (Nat.le_refl _) _⟩
set_option maxHeartbeats 4000000 in
theorem rInfo_56 (w:World):Calls Tryz.prog 81 #[.int .u8 56] w fun e w'=>e=.returned (.tuple #[.agg (opC 56),.bool true])∧Below w.heap.size w w':=by
 have HWD:=hide_ (fun w=>word_any 56 (by omega) (by omega) w)
 rw [show (opRow 56).w=[109,117,108,102] from rfl] at HWD
 go_enter Tryz.func81,Tryz.ntmps81
 go_wp2_with fail
 refine (HWD.out _).mono ?_
 rintro e w1 ⟨rfl,hb⟩
 have HG2:=info_kept hb
 have HB:=hide_ (show Below w.heap.size w w1 from ((Below.refl _ _).alloc (Nat.le_refl _) _).trans (hb.mono (by simp)))
 clear hb
 go_wp2_with (refine wpList_store_row rfl 114 (.tmp 2) (.tmp 114) rfl _ (opC 56) rfl rfl 114 zRow.toArray (HG2.out _) (opC_info 56) rfl (opC_one 56) ?_)
 exact bodyPost_ret (v:=.tuple #[.agg (opC 56),.bool true]) (result_cell2 rfl _ _ _ w.heap.size (opC 56) _ rfl rfl (run_loadVar_row _ _ _ _ _ _ _ (setRow_heap _ _ _ _ _ _ (HG2.out _)) Tryz.underlying114 rfl (opC_info 56))) rfl
  ⟨rfl,below_setRow ((HB.out).alloc HB.out.size _) (Nat.le_refl _) _⟩
set_option maxHeartbeats 4000000 in
theorem rInfo_57 (w:World):Calls Tryz.prog 81 #[.int .u8 57] w fun e w'=>e=.returned (.tuple #[.agg (opC 57),.bool true])∧Below w.heap.size w w':=by
 have HWD:=hide_ (fun w=>word_any 57 (by omega) (by omega) w)
 rw [show (opRow 57).w=[100,105,118,102] from rfl] at HWD
 go_enter Tryz.func81,Tryz.ntmps81
 go_wp2_with fail
 refine (HWD.out _).mono ?_
 rintro e w1 ⟨rfl,hb⟩
 have HG2:=info_kept hb
 have HB:=hide_ (show Below w.heap.size w w1 from ((Below.refl _ _).alloc (Nat.le_refl _) _).trans (hb.mono (by simp)))
 clear hb
 go_wp2_with (refine wpList_store_row rfl 114 (.tmp 2) (.tmp 114) rfl _ (opC 57) rfl rfl 114 zRow.toArray (HG2.out _) (opC_info 57) rfl (opC_one 57) ?_)
 exact bodyPost_ret (v:=.tuple #[.agg (opC 57),.bool true]) (result_cell2 rfl _ _ _ w.heap.size (opC 57) _ rfl rfl (run_loadVar_row _ _ _ _ _ _ _ (setRow_heap _ _ _ _ _ _ (HG2.out _)) Tryz.underlying114 rfl (opC_info 57))) rfl
  ⟨rfl,below_setRow ((HB.out).alloc HB.out.size _) (Nat.le_refl _) _⟩
set_option maxHeartbeats 4000000 in
theorem rInfo_58 (w:World):Calls Tryz.prog 81 #[.int .u8 58] w fun e w'=>e=.returned (.tuple #[.agg (opC 58),.bool true])∧Below w.heap.size w w':=by
 have HWD:=hide_ (fun w=>word_any 58 (by omega) (by omega) w)
 rw [show (opRow 58).w=[99,118,105,102] from rfl] at HWD
 go_enter Tryz.func81,Tryz.ntmps81
 go_wp2_with fail
 refine (HWD.out _).mono ?_
 rintro e w1 ⟨rfl,hb⟩
 have HG2:=info_kept hb
 have HB:=hide_ (show Below w.heap.size w w1 from ((Below.refl _ _).alloc (Nat.le_refl _) _).trans (hb.mono (by simp)))
 clear hb
 go_wp2_with (refine wpList_store_row rfl 114 (.tmp 2) (.tmp 114) rfl _ (opC 58) rfl rfl 114 zRow.toArray (HG2.out _) (opC_info 58) rfl (opC_one 58) ?_)
 exact bodyPost_ret (v:=.tuple #[.agg (opC 58),.bool true]) (result_cell2 rfl _ _ _ w.heap.size (opC 58) _ rfl rfl (run_loadVar_row _ _ _ _ _ _ _ (setRow_heap _ _ _ _ _ _ (HG2.out _)) Tryz.underlying114 rfl (opC_info 58))) rfl
  ⟨rfl,below_setRow ((HB.out).alloc HB.out.size _) (Nat.le_refl _) _⟩
set_option maxHeartbeats 4000000 in
theorem rInfo_59 (w:World):Calls Tryz.prog 81 #[.int .u8 59] w fun e w'=>e=.returned (.tuple #[.agg (opC 59),.bool true])∧Below w.heap.size w w':=by
 have HWD:=hide_ (fun w=>word_any 59 (by omega) (by omega) w)
 rw [show (opRow 59).w=[99,118,102,105] from rfl] at HWD
 go_enter Tryz.func81,Tryz.ntmps81
 go_wp2_with fail
 refine (HWD.out _).mono ?_
 rintro e w1 ⟨rfl,hb⟩
 have HG2:=info_kept hb
 have HB:=hide_ (show Below w.heap.size w w1 from ((Below.refl _ _).alloc (Nat.le_refl _) _).trans (hb.mono (by simp)))
 clear hb
 go_wp2_with (refine wpList_store_row rfl 114 (.tmp 2) (.tmp 114) rfl _ (opC 59) rfl rfl 114 zRow.toArray (HG2.out _) (opC_info 59) rfl (opC_one 59) ?_)
 exact bodyPost_ret (v:=.tuple #[.agg (opC 59),.bool true]) (result_cell2 rfl _ _ _ w.heap.size (opC 59) _ rfl rfl (run_loadVar_row _ _ _ _ _ _ _ (setRow_heap _ _ _ _ _ _ (HG2.out _)) Tryz.underlying114 rfl (opC_info 59))) rfl
  ⟨rfl,below_setRow ((HB.out).alloc HB.out.size _) (Nat.le_refl _) _⟩
end Go.Proofs.YtikbegmodacopaaGreatDoor
namespace Go.Proofs.YtikbegmodacopaaGreatDoor
open Go.RowKit
set_option linter.unusedSimpArgs false
set_option linter.unusedVariables false
theorem rInfo_yes (k:Nat) (h1:1≤k) (h2:k≤59) (w:World):Calls Tryz.prog 81 #[.int .u8 k] w fun e w'=>e=.returned (.tuple #[.agg (opC k),.bool true])∧Below w.heap.size w w':=by
 match k,h1,h2 with
 | 1,_,_=>exact rInfo_1 w
 | 2,_,_=>exact rInfo_2 w
 | 3,_,_=>exact rInfo_3 w
 | 4,_,_=>exact rInfo_4 w
 | 5,_,_=>exact rInfo_5 w
 | 6,_,_=>exact rInfo_6 w
 | 7,_,_=>exact rInfo_7 w
 | 8,_,_=>exact rInfo_8 w
 | 9,_,_=>exact rInfo_9 w
 | 10,_,_=>exact rInfo_10 w
 | 11,_,_=>exact rInfo_11 w
 | 12,_,_=>exact rInfo_12 w
 | 13,_,_=>exact rInfo_13 w
 | 14,_,_=>exact rInfo_14 w
 | 15,_,_=>exact rInfo_15 w
 | 16,_,_=>exact rInfo_16 w
 | 17,_,_=>exact rInfo_17 w
 | 18,_,_=>exact rInfo_18 w
 | 19,_,_=>exact rInfo_19 w
 | 20,_,_=>exact rInfo_20 w
 | 21,_,_=>exact rInfo_21 w
 | 22,_,_=>exact rInfo_22 w
 | 23,_,_=>exact rInfo_23 w
 | 24,_,_=>exact rInfo_24 w
 | 25,_,_=>exact rInfo_25 w
 | 26,_,_=>exact rInfo_26 w
 | 27,_,_=>exact rInfo_27 w
 | 28,_,_=>exact rInfo_28 w
 | 29,_,_=>exact rInfo_29 w
 | 30,_,_=>exact rInfo_30 w
 | 31,_,_=>exact rInfo_31 w
 | 32,_,_=>exact rInfo_32 w
 | 33,_,_=>exact rInfo_33 w
 | 34,_,_=>exact rInfo_34 w
 | 35,_,_=>exact rInfo_35 w
 | 36,_,_=>exact rInfo_36 w
 | 37,_,_=>exact rInfo_37 w
 | 38,_,_=>exact rInfo_38 w
 | 39,_,_=>exact rInfo_39 w
 | 40,_,_=>exact rInfo_40 w
 | 41,_,_=>exact rInfo_41 w
 | 42,_,_=>exact rInfo_42 w
 | 43,_,_=>exact rInfo_43 w
 | 44,_,_=>exact rInfo_44 w
 | 45,_,_=>exact rInfo_45 w
 | 46,_,_=>exact rInfo_46 w
 | 47,_,_=>exact rInfo_47 w
 | 48,_,_=>exact rInfo_48 w
 | 49,_,_=>exact rInfo_49 w
 | 50,_,_=>exact rInfo_50 w
 | 51,_,_=>exact rInfo_51 w
 | 52,_,_=>exact rInfo_52 w
 | 53,_,_=>exact rInfo_53 w
 | 54,_,_=>exact rInfo_54 w
 | 55,_,_=>exact rInfo_55 w
 | 56,_,_=>exact rInfo_56 w
 | 57,_,_=>exact rInfo_57 w
 | 58,_,_=>exact rInfo_58 w
 | 59,_,_=>exact rInfo_59 w
 | k+60,_,h=>omega
set_option maxRecDepth 100000 in
set_option maxHeartbeats 1000000 in
theorem rInfo_no (op:Int) (q0:0≤op) (q1:op≤255) (h:op<1∨59<op) (w:World):Calls Tryz.prog 81 #[.int .u8 op] w fun e w'=>e=.returned (.tuple #[.agg zRow.toArray,.bool false])∧Below w.heap.size w w':=by
 by_cases h1:op<1
 ·have d1:decide (op<1)=true:=by simpa using h1
  clear h
  go_enter Tryz.func81,Tryz.ntmps81
  go_wp2
  exact bodyPost_ret (v:=.tuple #[.agg zRow.toArray,.bool false]) (by simp [results,Tryz.results81,go_sem,zRow]) rfl ⟨rfl,(Below.refl _ _).alloc (Nat.le_refl _) _⟩
 ·have d1:decide (op<1)=false:=by simpa using h1
  have d2:decide (59<op)=true:=by simp;omega
  clear h
  go_enter Tryz.func81,Tryz.ntmps81
  go_wp2
  exact bodyPost_ret (v:=.tuple #[.agg zRow.toArray,.bool false]) (by simp [results,Tryz.results81,go_sem,zRow]) rfl ⟨rfl,(Below.refl _ _).alloc (Nat.le_refl _) _⟩
theorem rInfo_any (op:Int) (q0:0≤op) (q1:op≤255) (w:World):Calls Tryz.prog 81 #[.int .u8 op] w fun e w'=>e=.returned (.tuple #[.agg (opV op),.bool (opOk op)])∧Below w.heap.size w w':=by
 by_cases h:1≤op∧op≤59
 ·obtain ⟨k,hk⟩:∃ k:Nat,op=k:=⟨op.toNat,by omega⟩
  subst hk
  have e1:opV (k:Int)=opC k:=by unfold opV opR opC;rw [if_pos h];rfl
  have e2:opOk (k:Int)=true:=by unfold opOk;rw [decide_eq_true h]
  rw [e1,e2]
  exact rInfo_yes k (by omega) (by omega) w
 ·have e1:opV op=zRow.toArray:=by unfold opV opR;rw [if_neg h];rfl
  have e2:opOk op=false:=by unfold opOk;rw [decide_eq_false h]
  rw [e1,e2]
  exact rInfo_no op q0 q1 (by omega) w
set_option maxHeartbeats 1000000 in
theorem rCheck_any (op arg:Int) (q0:0≤op) (q1:op≤255) (w:World):Calls Tryz.prog 76 #[.agg #[.int .u8 op,.int .u32 arg]] w fun e w'=>e=.returned (.int .i64 (opChk op arg))∧Below w.heap.size w w':=by
 obtain ⟨r,hr⟩:∃ r,r=opR op:=⟨_,rfl⟩
 obtain ⟨b,hb⟩:∃ b,b=opOk op:=⟨_,rfl⟩
 have HI:=hide_ (fun w=>rInfo_any op q0 q1 w)
 unfold opV at HI
 unfold opChk
 rw [← hr,← hb] at HI ⊢
 clear hr hb
 unfold opCells at HI
 cases b
 ·go_enter Tryz.func76,Tryz.ntmps76
  go_wp2_with fail
  refine (HI.out _).mono ?_
  rintro e w1 ⟨rfl,hb⟩
  have HB:=hide_ (show Below w.heap.size w w1 from ((Below.refl _ _).alloc (Nat.le_refl _) _).trans (hb.mono (by simp)))
  clear hb
  go_wp2
  go_ret
  exact ⟨rfl,(HB.out).alloc HB.out.size _⟩
 ·by_cases hm:((r.most:Int)<arg)
  all_goals
   go_enter Tryz.func76,Tryz.ntmps76
   go_wp2_with fail
   refine (HI.out _).mono ?_
   rintro e w1 ⟨rfl,hb⟩
   have hc:=(hb.cell (p:=⟨w.heap.size,1,none⟩) (by simp)).trans (show (w.alloc (.cells #[.int .u8 op,.int .u32 arg] 66)).cell? ⟨w.heap.size,1,none⟩=some (.int .u32 arg) from by simp)
   have hz:w.heap.size<w1.heap.size:=by have:=hb.size;simp at this;omega
   have HB:=hide_ (show Below w.heap.size w w1 from ((Below.refl _ _).alloc (Nat.le_refl _) _).trans (hb.mono (by simp)))
   clear hb
   go_wp2
   go_ret
   exact ⟨by simp [hm],(HB.out).alloc HB.out.size _⟩
end Go.Proofs.YtikbegmodacopaaGreatDoor
namespace Go.Proofs.YtikbegmodacopaaGreatDoor
open Go.RowKit Go.PlainAid Go.BigFrame
set_option linter.unusedSimpArgs false
set_option linter.unusedVariables false
set_option maxRecDepth 100000
structure ExpV where
 name:ByteArray
 at_:Int
deriving DecidableEq
structure ImgV where
 code:List (Int × Int)
 jumps:List Int
 data:List Int
 zero:Int
 stack:Int
 names:List ExpV
def xE (t:ExpV):List Value:=[.string t.name,.int .u32 t.at_]
theorem xE_len (t:ExpV):(xE t).length=2:=rfl
def u32s (l:List Int):List Value:=l.map (Value.int .u32)
structure ImgS where
 c:SL
 j:SL
 d:SL
 n:SL
def imgV (x:ImgV) (s:ImgS):Array Value:=#[.slice s.c.A x.code.length s.c.c,.slice s.j.A x.jumps.length s.j.c,.slice s.d.A x.data.length s.d.c,.int .u32 x.zero,.int .u32 x.stack,.slice s.n.A x.names.length s.n.c]
structure ImgR (W:World) (B:Nat) (x:ImgV) (s:ImgS):Prop where
 rc:Reads W B 2 s.c.A x.code.length (x.code.flatMap cE)
 rj:Reads W B 1 s.j.A x.jumps.length (u32s x.jumps)
 rd:Reads W B 1 s.d.A x.data.length (u8s x.data)
 rn:Reads W B 2 s.n.A x.names.length (x.names.flatMap xE)
 caps:x.code.length≤s.c.c∧x.jumps.length≤s.j.c∧x.data.length≤s.d.c∧x.names.length≤s.n.c
structure ImgOk (x:ImgV):Prop where
 code:∀ t ∈ x.code,(0≤t.1∧t.1≤255)∧0≤t.2∧t.2<4294967296
 jumps:∀ j ∈ x.jumps,0≤j∧j<4294967296
 data:∀ b ∈ x.data,0≤b∧b≤255
 zero:0≤x.zero∧x.zero<4294967296
 stack:0≤x.stack∧x.stack<4294967296
 names:∀ t ∈ x.names,t.name.size≤140737488351232∧0≤t.at_∧t.at_<4294967296
 lens:x.code.length≤140737488351232∧x.jumps.length≤140737488351232∧x.data.length≤140737488351232∧x.names.length≤140737488351232
section
variable {W W':World} {B B' g:Nat} {x:ImgV} {s:ImgS}
theorem ImgR.below (h:ImgR W B x s) (hb:Below B W W'):ImgR W' B x s:=⟨h.rc.below hb,h.rj.below hb,h.rd.below hb,h.rn.below hb,h.caps⟩
theorem ImgR.more (h:ImgR W B x s) (hB:B≤B'):ImgR W B' x s:=⟨h.rc.more hB,h.rj.more hB,h.rd.more hB,h.rn.more hB,h.caps⟩
theorem img_cells (h:Blk W g 28 (imgV x s)) :
  W.cell? ⟨g,0,none⟩=some (.slice s.c.A x.code.length s.c.c)∧W.cell? ⟨g,1,none⟩=some (.slice s.j.A x.jumps.length s.j.c)∧W.cell? ⟨g,2,none⟩=some (.slice s.d.A x.data.length s.d.c) ∧
  W.cell? ⟨g,3,none⟩=some (.int .u32 x.zero)∧W.cell? ⟨g,4,none⟩=some (.int .u32 x.stack)∧W.cell? ⟨g,5,none⟩=some (.slice s.n.A x.names.length s.n.c):=⟨h.cell 0,h.cell 1,h.cell 2,h.cell 3,h.cell 4,h.cell 5⟩
end
def codChk:List (Int × Int)→Int
 | []=>0
 | t :: l=>if opChk t.1 t.2=0 then codChk l else opChk t.1 t.2
def stkB (n:Int):Bool:=(n % 4 == 0) && decide (64≤n) && decide (n≤32768)
def bGt (a b:ByteArray):Bool:=!Op.bytesLess a.toList b.toList && !a.toList == b.toList
def nmOk (l:List ExpV) (i:Nat):Bool:=match l[i]? with
 | none=>true
 | some t=>decide (1≤t.name.size) && decide (t.name.size≤32) && (decide (i=0) || match l[i - 1]? with
  | none=>true
  | some p=>bGt t.name p.name)
def nmsB (l:List ExpV):Bool:=(List.range l.length).all (nmOk l)
theorem nmsB_all {l:List ExpV} (h:∀ j,j<l.length→nmOk l j=true):nmsB l=true:=List.all_eq_true.2 fun j hj=>h j (List.mem_range.1 hj)
theorem nmsB_no {l:List ExpV} {k:Nat} (hk:k<l.length) (h:nmOk l k=false):nmsB l=false:=by
 rw [Bool.eq_false_iff]
 intro h2
 have:=List.all_eq_true.1 h2 k (List.mem_range.2 hk)
 rw [h] at this
 cases this
def roomOf (x:ImgV):Int:=x.data.length+x.zero+x.stack
def imgChk (x:ImgV):Int :=
 if 16384<x.code.length then 73 else if codChk x.code≠0 then codChk x.code else if 16384<x.jumps.length then 86
 else if stkB x.stack=false∨65536<roomOf x then 85 else if 64<x.names.length∨nmsB x.names=false then 87 else 0
theorem codChk_at {l:List (Int × Int)} {k:Nat} {t:Int × Int} (h:l[k]?=some t):codChk (l.drop k)=if opChk t.1 t.2=0 then codChk (l.drop (k+1)) else opChk t.1 t.2:=by
 obtain ⟨hk,rfl⟩:=List.getElem?_eq_some_iff.1 h
 rw [List.drop_eq_getElem_cons hk]
 rfl
section
variable {x:ImgV}
theorem ic_73 (h:16384<x.code.length):imgChk x=73:=if_pos h
theorem ic_code (h:¬ 16384<x.code.length) (h1:codChk x.code≠0):imgChk x=codChk x.code:=by unfold imgChk;rw [if_neg h,if_pos h1]
theorem ic_86 (h:¬ 16384<x.code.length) (h1:codChk x.code=0) (h2:16384<x.jumps.length):imgChk x=86:=by unfold imgChk;rw [if_neg h,if_neg (by simpa using h1),if_pos h2]
theorem ic_85 (h:¬ 16384<x.code.length) (h1:codChk x.code=0) (h2:¬ 16384<x.jumps.length) (h3:stkB x.stack=false∨65536<roomOf x):imgChk x=85:=by unfold imgChk;rw [if_neg h,if_neg (by simpa using h1),if_neg h2,if_pos h3]
theorem ic_87 (h:¬ 16384<x.code.length) (h1:codChk x.code=0) (h2:¬ 16384<x.jumps.length) (h3:stkB x.stack=true) (h4:¬ 65536<roomOf x) (h5:64<x.names.length∨nmsB x.names=false):imgChk x=87:=by
 unfold imgChk;rw [if_neg h,if_neg (by simpa using h1),if_neg h2,if_neg (by rw [h3];simpa using h4),if_pos h5]
theorem ic_0 (h:¬ 16384<x.code.length) (h1:codChk x.code=0) (h2:¬ 16384<x.jumps.length) (h3:stkB x.stack=true) (h4:¬ 65536<roomOf x) (h5:¬ 64<x.names.length) (h6:nmsB x.names=true):imgChk x=0:=by
 unfold imgChk;rw [if_neg h,if_neg (by simpa using h1),if_neg h2,if_neg (by rw [h3];simpa using h4),if_neg (by rw [h6];simpa using h5)]
end
theorem stackMay_any (n:Int) (w:World) (h0:0≤n) (h1:n<4294967296):Calls Tryz.prog 68 #[.int .u32 n] w fun e w'=>e=.returned (.bool (stkB n))∧w'=w:=by
 go_enter Tryz.func68,Tryz.ntmps68
 go_wp2
 all_goals
  go_ret
  exact ⟨by first | (simp_all [stkB];done) | (simp_all [stkB];omega),rfl⟩
theorem stacks_any (n:Int) (w:World) (h0:0≤n) (h1:n<4294967296):Calls Tryz.prog 77 #[.int .u32 n] w fun e w'=>e=.returned (.bool (stkB n))∧w'=w:=by
 go_enter Tryz.func77,Tryz.ntmps77
 go_wp2
 all_goals
  go_ret
  exact ⟨by first | (simp_all [stkB];done) | (simp_all [stkB];omega),rfl⟩
theorem room_any (d:Nat) (z k:Int) (w:World) (hd:d≤140737488351232) (h0:0≤z) (h1:z<4294967296) (h2:0≤k) (h3:k<4294967296):Calls Tryz.prog 69 #[.int .i64 d,.int .u32 z,.int .u32 k] w fun e w'=>e=.returned (.int .u64 (d+z+k))∧w'=w:=by
 go_enter Tryz.func69,Tryz.ntmps69
 go_wp2
 go_ret
 exact ⟨rfl,rfl⟩
theorem nmOk_0 {l:List ExpV} {t:ExpV} (h:l[0]?=some t):nmOk l 0=(decide (1≤t.name.size) && decide (t.name.size≤32)):=by
 unfold nmOk;rw [h];simp
theorem nmOk_s {l:List ExpV} {k:Nat} {t p:ExpV} (h:l[k+1]?=some t) (hp:l[k]?=some p):nmOk l (k+1)=(decide (1≤t.name.size) && decide (t.name.size≤32) && bGt t.name p.name):=by
 unfold nmOk;rw [h];simp [hp]
set_option maxHeartbeats 1000000 in
theorem nameMay_any (l:List ExpV) (A:Option Addr) (c k:Nat) (w:World) (hr:Reads w w.heap.size 2 A l.length (l.flatMap xE)) (hk:k<l.length) (hl:l.length≤140737488351232) (hs:∀ t ∈ l,t.name.size≤140737488351232) :
  Calls Tryz.prog 70 #[.slice A l.length c,.int .i64 k] w fun e w'=>e=.returned (.bool (nmOk l k))∧w'=w:=by
 obtain ⟨t,ht⟩:∃ t,l[k]?=some t:=⟨_,List.getElem?_eq_getElem hk⟩
 have hsz:=hs t (List.mem_of_getElem? ht)
 obtain ⟨_,ad,rfl,_,p0,_⟩:=el_cells xE_len hr (by omega) ht
 have q0:=p0 _ rfl
 obtain ⟨n,hn⟩:∃ n,n=l.length:=⟨_,rfl⟩
 rw [← hn] at hk hl ⊢
 cases k with
 | zero =>
  have HO:=hide_ (nmOk_0 ht)
  obtain ⟨nm,at_⟩:=t
  dsimp only at q0 hsz HO
  clear p0 ht hr hn hs
  rw [Nat.zero_mul] at q0
  have q1:w.cell? ad=some (.string nm):=by simpa [Addr.add] using q0
  show Calls _ _ #[_,.int .i64 0] _ _
  go_enter Tryz.func70,Tryz.ntmps70
  go_wp2
  all_goals
   go_ret
   exact ⟨by rw [HO.out];first | rfl | (simp_all;done) | (simp_all;omega) | (simp_all;intros;omega),rfl⟩
 | succ m =>
  obtain ⟨p,hp⟩:∃ p,l[m]?=some p:=⟨_,List.getElem?_eq_getElem (by omega)⟩
  obtain ⟨_,ad',e,_,p0',_⟩:=el_cells xE_len hr (by omega) hp
  injection e with e
  subst e
  have q1:=p0' _ rfl
  have HO:=hide_ (nmOk_s ht hp)
  obtain ⟨nm,at_⟩:=t
  obtain ⟨pm,pa⟩:=p
  dsimp only at q0 q1 hsz HO
  clear p0 p0' ht hr hn hs hp
  have z0:((m:Int)+1 == 0)=false:=by simp;omega
  go_enter Tryz.func70,Tryz.ntmps70
  go_wp2
  all_goals
   go_ret
   exact ⟨by rw [HO.out];unfold bGt;first | rfl | (simp_all;done) | (simp_all;omega) | (simp_all;intros;omega),rfl⟩
set_option maxHeartbeats 4000000 in
theorem iCheck_any (x:ImgV) (s:ImgS) (w:World) (hx:ImgOk x) (hr:ImgR w w.heap.size x s):Calls Tryz.prog 36 #[.agg (imgV x s)] w fun e w'=>e=.returned (.int .i64 (imgChk x))∧Below w.heap.size w w':=by
 obtain ⟨l1,l2,l3,l4⟩:=hx.lens
 obtain ⟨z0,z1⟩:=hx.zero
 obtain ⟨k0,k1⟩:=hx.stack
 have HC:=hide_ hr.rc
 have HNR:=hide_ hr.rn
 have HNS:=hide_ (fun t ht=>(hx.names t ht).1)
 have HISA:=hide_ (fun op arg W=>Check_any op arg W)
 obtain ⟨W1,hW1⟩:∃ W,W=w.alloc (.cells (imgV x s) 28):=⟨_,rfl⟩
 have HB1:=hide_ (show Below w.heap.size w W1 by rw [hW1];exact (Below.refl _ _).alloc (Nat.le_refl _) _)
 have HK1:=hide_ (show Blk W1 w.heap.size 28 (imgV x s) by rw [hW1];exact Blk.new w _ _)
 have hlt0:w.heap.size<W1.heap.size:=by rw [hW1];simp
 have HAT:=hide_ (fun W (hb:Below W1.heap.size W1 W)=>img_cells (HK1.out.below hb hlt0))
 have FIN:=hide_ (fun W (hb:Below W1.heap.size W1 W)=>show Below w.heap.size w W from HB1.out.trans (hb.mono (by omega)))
 have HRC:=hide_ (fun W (hb:Below W1.heap.size W1 W)=>HC.out.below (FIN.out W hb))
 have HRN:=hide_ (fun W (hb:Below W1.heap.size W1 W)=>(HNR.out.below (FIN.out W hb)).more (by have:=hb.size;omega:w.heap.size≤W.heap.size))
 clear HC HNR hr hx HK1 HB1
 unfold imgV at hW1 ⊢
 obtain ⟨⟨cA,cc⟩,⟨jA,jc⟩,⟨dA,dc⟩,⟨nA,nc⟩⟩:=s
 dsimp only at hW1 HAT HRC HRN ⊢
 go_enter Tryz.func36,Tryz.ntmps36
 go_upto_region 1 with (fail)
 rw [← hW1]
 clear hW1
 have HBW:=hide_ (Below.refl W1.heap.size W1)
 obtain ⟨f0,f1,f2,f3,f4,f5⟩:=HAT.out W1 HBW.out
 by_cases n1:16384<x.code.length
 ·have g1:decide (16384<(x.code.length:Int))=true:=decide_eq_true (by omega)
  have g1':(16384:Int)<(x.code.length:Int):=by omega
  have E:=hide_ (ic_73 n1)
  go_wp2
  go_ret
  exact ⟨by rw [E.out];rfl,FIN.out _ HBW.out⟩
 ·have g1:¬ (16384:Int)<(x.code.length:Int):=by omega
  have N1:=hide_ n1
  clear n1
  go_wp2_with fail
  clear f0 f1 f2 f3 f4 f5
  go_loopw [14] (fun i wr=>∃ k:Nat,k≤x.code.length∧i=.int .i64 k∧Hid (Below W1.heap.size W1 wr)∧Hid (codChk x.code=codChk (x.code.drop k))) (fun i _=>x.code.length - (intOf i).toNat)
  case atStart=>exact ⟨0,Nat.zero_le _,rfl,HBW,hide_ rfl⟩
  case round =>
   clear HBW
   obtain ⟨k,hk,rfl,HB,HK⟩:=hrel
   by_cases hlt:k<x.code.length
   ·obtain ⟨t,ht⟩:∃ t,x.code[k]?=some t:=⟨_,List.getElem?_eq_getElem hlt⟩
    have STEP:=hide_ (HK.out.trans (codChk_at ht))
    obtain ⟨_,ad,rfl,hbk,p0,p1⟩:=el_cells cE_len (HRC.out _ HB.out) (by omega) ht
    have q0:=p0 _ rfl
    have q1:=p1 1 _ (by omega) rfl
    obtain ⟨op,arg⟩:=t
    dsimp only at q0 q1 STEP
    have HCK:=hide_ (fun W=>HISA.out op arg W)
    obtain ⟨v,hv⟩:∃ v,v=opChk op arg:=⟨_,rfl⟩
    rw [← hv] at HCK STEP
    clear hv p0 p1 ht
    go_wp2_with fail
    refine (HCK.out _).mono ?_
    rintro e w2 ⟨rfl,hb2⟩
    have HB2:=hide_ (show Below W1.heap.size W1 w2 from (HB.out.alloc HB.out.size _).trans (hb2.mono (by have:=HB.out.size;simp;omega)))
    clear hb2 q0 q1
    by_cases hv:v=0
    ·subst hv
     have STEP2:=hide_ (STEP.out.trans (if_pos rfl))
     go_wp2
     go_roundw
     case rel=>exact ⟨k+1,by omega,by go_num,HB2,STEP2⟩
     case measure=>simp [intOf] <;> omega
    ·have hv2:(v != 0)=true:=by simpa using hv
     have E:=hide_ (show imgChk x=v by
      have e:codChk x.code=v:=STEP.out.trans (if_neg hv)
      rw [ic_code N1.out (by rw [e];exact hv),e])
     go_wp2
     go_ret
     exact ⟨by rw [E.out];rfl,FIN.out _ HB2.out⟩
   ·have hend:k=x.code.length:=by omega
    have H0:=hide_ (show codChk x.code=0 by rw [HK.out,hend,List.drop_length];rfl)
    clear hend
    obtain ⟨f0,f1,f2,f3,f4,f5⟩:=HAT.out wr HB.out
    by_cases n2:16384<x.jumps.length
    ·have g2:(16384:Int)<(x.jumps.length:Int):=by omega
     have E:=hide_ (ic_86 N1.out H0.out n2)
     go_wp2
     go_ret
     exact ⟨by rw [E.out];rfl,FIN.out _ HB.out⟩
    ·have g2:¬ (16384:Int)<(x.jumps.length:Int):=by omega
     have N2:=hide_ n2
     clear n2
     have HSM:=hide_ (fun W=>stackMay_any x.stack W k0 k1)
     have HRM:=hide_ (fun W=>room_any x.data.length x.zero x.stack W l3 z0 z1 k0 k1)
     obtain ⟨b,hb⟩:∃ b,b=stkB x.stack:=⟨_,rfl⟩
     obtain ⟨m,hm⟩:∃ m,m=roomOf x:=⟨_,rfl⟩
     rw [← hb] at HSM
     rw [show (x.data.length:Int)+x.zero+x.stack=roomOf x from rfl,← hm] at HRM
     have HBM:=hide_ (And.intro hb hm)
     clear hb hm
     by_cases hb:b=true
     ·subst hb
      by_cases n3:65536<m
      ·have E:=hide_ (ic_85 N1.out H0.out N2.out (.inr (by rw [← HBM.out.2];exact n3)))
       go_wp2_with (first
        | (go_at_call 68;refine (HSM.out _).mono ?_;rintro e w3 ⟨rfl,rfl⟩)
        | (go_at_call 69;refine (HRM.out _).mono ?_;rintro e w3 ⟨rfl,rfl⟩))
       go_ret
       exact ⟨by rw [E.out];rfl,FIN.out _ HB.out⟩
      ·have N3:=hide_ (And.intro HBM.out.1.symm (show ¬ 65536<roomOf x by rw [← HBM.out.2];exact n3))
       by_cases n4:64<x.names.length
       ·have g4:(64:Int)<(x.names.length:Int):=by omega
        have E:=hide_ (ic_87 N1.out H0.out N2.out N3.out.1 (by have:=N3.out.2;omega) (.inl n4))
        go_wp2_with (first
         | (go_at_call 68;refine (HSM.out _).mono ?_;rintro e w3 ⟨rfl,rfl⟩)
         | (go_at_call 69;refine (HRM.out _).mono ?_;rintro e w3 ⟨rfl,rfl⟩))
        go_ret
        exact ⟨by rw [E.out];rfl,FIN.out _ HB.out⟩
       ·have g4:¬ (64:Int)<(x.names.length:Int):=by omega
        have N4:=hide_ n4
        clear n4
        go_wp2_with (first
         | (go_at_call 68;refine (HSM.out _).mono ?_;rintro e w3 ⟨rfl,rfl⟩)
         | (go_at_call 69;refine (HRM.out _).mono ?_;rintro e w3 ⟨rfl,rfl⟩))
        go_loopw [50] (fun i W=>∃ j:Nat,j≤x.names.length∧i=.int .i64 j∧Hid (Below W1.heap.size W1 W)∧Hid (∀ t,t<j→nmOk x.names t=true)) (fun i _=>x.names.length - (intOf i).toNat)
        case atStart=>exact ⟨0,Nat.zero_le _,rfl,HB,hide_ (fun t ht=>absurd ht (by omega))⟩
        case round =>
         clear HB f0 f1 f2 f3 f4 f5
         obtain ⟨j,hj,rfl,HB,HALL⟩:=hrel
         obtain ⟨f0,f1,f2,f3,f4,f5⟩:=HAT.out wr HB.out
         by_cases hlt:j<x.names.length
         ·have HNM:=hide_ (nameMay_any x.names nA nc j wr (HRN.out _ HB.out) hlt l4 HNS.out)
          obtain ⟨q,hq⟩:∃ q,q=nmOk x.names j:=⟨_,rfl⟩
          rw [← hq] at HNM
          have HQ:=hide_ hq
          clear hq
          cases q with
          | true =>
           go_wp2_with (go_at_call 70;refine HNM.out.mono ?_;rintro e w3 ⟨rfl,rfl⟩)
           go_roundw
           case rel =>
            refine ⟨j+1,by omega,by go_num,HB,hide_ fun t ht=>?_⟩
            by_cases e:t=j
            ·rw [e];exact HQ.out.symm
            ·exact HALL.out t (by omega)
           case measure=>simp [intOf] <;> omega
          | false =>
           have E:=hide_ (ic_87 N1.out H0.out N2.out N3.out.1 (by have:=N3.out.2;omega) (.inr (nmsB_no hlt HQ.out.symm)))
           go_wp2_with (go_at_call 70;refine HNM.out.mono ?_;rintro e w3 ⟨rfl,rfl⟩)
           go_ret
           exact ⟨by rw [E.out];rfl,FIN.out _ HB.out⟩
         ·have hend:j=x.names.length:=by omega
          have E:=hide_ (ic_0 N1.out H0.out N2.out N3.out.1 (by have:=N3.out.2;omega) N4.out (nmsB_all fun t ht=>HALL.out t (by omega)))
          clear hend
          go_wp2
          go_ret
          exact ⟨by rw [E.out];rfl,FIN.out _ HB.out⟩
     ·have hb0:b=false:=by simpa using hb
      subst hb0
      have E:=hide_ (ic_85 N1.out H0.out N2.out (.inl HBM.out.1.symm))
      go_wp2_with (first
       | (go_at_call 68;refine (HSM.out _).mono ?_;rintro e w3 ⟨rfl,rfl⟩))
      go_ret
      exact ⟨by rw [E.out];rfl,FIN.out _ HB.out⟩
end Go.Proofs.YtikbegmodacopaaGreatDoor
