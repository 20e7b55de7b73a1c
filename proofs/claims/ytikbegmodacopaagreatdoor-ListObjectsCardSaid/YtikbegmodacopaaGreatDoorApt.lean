/-
  playpenlaw12.apart: labels, fixes and entries of two objects lie apart. (Printed by gen_apt.py.)
-/
import Derived.Test.YtikbegmodacopaaGreatDoorAptP
namespace Go.Proofs.YtikbegmodacopaaGreatDoor
open Go.RowKit Go.PlainAid Go.BigFrame
set_option linter.unusedSimpArgs false
set_option linter.unusedVariables false
set_option maxRecDepth 100000
set_option maxHeartbeats 32000000 in
theorem apart_any (y : ObjV) (s s' : ObjS) (B : Nat) (w : World) (hf : YFit y) (hO : Owns w B [rowLb s.l y.labels.length y.labels, rowLb s'.l y.labels.length y.labels, rowFx s.f y.fixes.length y.fixes, rowFx s'.f y.fixes.length y.fixes, rowEn s.e y.entries.length y.entries, rowEn s'.e y.entries.length y.entries]) (hB : B ≤ w.heap.size) :
    Calls Tryz.prog 22 #[.agg (objV y s), .agg (objV y s')] w fun e w' => e = .returned (.bool true) ∧ Below B w w' := by
  obtain ⟨i1, hi1, hz11, hz12, hz13⟩ := info_parts apl_info
  obtain ⟨i2, hi2, hz21, hz22, hz23⟩ := info_parts apf_info
  obtain ⟨i3, hi3, hz31, hz32, hz33⟩ := info_parts ape_info
  have HL1 := hide_ hf.l
  have HL2 := hide_ hf.f
  have HL3 := hide_ hf.e
  have SO0 := hide_ (some_row (hO.at_ (i := 0) rfl))
  have SO1 := hide_ (some_row (hO.at_ (i := 1) rfl))
  have SO2 := hide_ (some_row (hO.at_ (i := 2) rfl))
  have SO3 := hide_ (some_row (hO.at_ (i := 3) rfl))
  have SO4 := hide_ (some_row (hO.at_ (i := 4) rfl))
  have SO5 := hide_ (some_row (hO.at_ (i := 5) rfl))
  obtain ⟨W1, hW1⟩ : ∃ W, W = (w.alloc (.cells (objV y s) 36)).alloc (.cells (objV y s') 36) := ⟨_, rfl⟩
  have HO := hide_ (show Owns W1 B (apT y s s' w.heap.size (rowLb s.l y.labels.length y.labels) (rowLb s'.l y.labels.length y.labels) (rowFx s.f y.fixes.length y.fixes) (rowFx s'.f y.fixes.length y.fixes) (rowEn s.e y.entries.length y.entries) (rowEn s'.e y.entries.length y.entries) []) by rw [hW1]; exact apT_start hO hB)
  have HB := hide_ (show Below B w W1 by rw [hW1]; exact ((Below.refl _ _).alloc hB _).alloc (by simp; omega) _)
  have HBW := hide_ (show B ≤ W1.heap.size by rw [hW1]; simp; omega)
  obtain ⟨b, hb⟩ : ∃ b, b = w.heap.size := ⟨_, rfl⟩
  rw [← hb] at HO
  clear hf hO
  unfold objV at hW1 ⊢
  obtain ⟨sC, sD, ⟨lA, lc⟩, ⟨fA, fc⟩, sT, ⟨eA, ec⟩⟩ := s
  obtain ⟨tC, tD, ⟨lB, ld⟩, ⟨fB, fd⟩, tT, ⟨eB, ed⟩⟩ := s'
  dsimp only at hW1 SO0 SO1 SO2 SO3 SO4 SO5 HO ⊢
  go_enter Tryz.func22, Tryz.ntmps22
  go_upto_region 1 with (fail)
  rw [← hW1, ← hb]
  clear hW1 hb hB
  have HS0 := hide_ (show Owns W1 B (apT y ⟨sC, sD, ⟨lA, lc⟩, ⟨fA, fc⟩, sT, ⟨eA, ec⟩⟩ ⟨tC, tD, ⟨lB, ld⟩, ⟨fB, fd⟩, tT, ⟨eB, ed⟩⟩ b (rowLb ⟨lA, lc⟩ y.labels.length (ovl (aL ⟨#[97]⟩) 0 ++ y.labels.drop 0)) (rowLb ⟨lB, ld⟩ y.labels.length (ovl (aL ⟨#[98]⟩) 0 ++ y.labels.drop 0)) (rowFx ⟨fA, fc⟩ y.fixes.length (y.fixes)) (rowFx ⟨fB, fd⟩ y.fixes.length (y.fixes)) (rowEn ⟨eA, ec⟩ y.entries.length (y.entries)) (rowEn ⟨eB, ed⟩ y.entries.length (y.entries)) []) by
    have h9 := HO.out
    exact h9)
  clear HO
  obtain ⟨⟨f4, f5, f7, g4, g5, g7⟩, hlt0, hlt1⟩ := apT_box HS0.out
  go_wp2_with fail
  clear f4 f5 f7 g4 g5 g7 hlt0 hlt1
  go_loopw [5] (fun i wr => ∃ j : Nat, j ≤ y.labels.length ∧ i = .int .i64 j ∧ Hid (Owns wr B (apT y ⟨sC, sD, ⟨lA, lc⟩, ⟨fA, fc⟩, sT, ⟨eA, ec⟩⟩ ⟨tC, tD, ⟨lB, ld⟩, ⟨fB, fd⟩, tT, ⟨eB, ed⟩⟩ b (rowLb ⟨lA, lc⟩ y.labels.length (ovl (aL ⟨#[97]⟩) j ++ y.labels.drop j)) (rowLb ⟨lB, ld⟩ y.labels.length (ovl (aL ⟨#[98]⟩) j ++ y.labels.drop j)) (rowFx ⟨fA, fc⟩ y.fixes.length (y.fixes)) (rowFx ⟨fB, fd⟩ y.fixes.length (y.fixes)) (rowEn ⟨eA, ec⟩ y.entries.length (y.entries)) (rowEn ⟨eB, ed⟩ y.entries.length (y.entries)) [])) ∧ Hid (Below B w wr) ∧ Hid (B ≤ wr.heap.size)) (fun i _ => y.labels.length - (intOf i).toNat)
  case atStart => exact ⟨0, Nat.zero_le _, rfl, HS0, HB, HBW⟩
  case round =>
    clear HS0 HB HBW
    obtain ⟨j, hj, rfl, HO, HB, HBW⟩ := hrel
    obtain ⟨⟨f4, f5, f7, g4, g5, g7⟩, hlt0, hlt1⟩ := apT_box HO.out
    by_cases hlt : j < y.labels.length
    · obtain ⟨g, hg⟩ := SO0.out (by show 0 < y.labels.length; omega)
      obtain ⟨g', hg'⟩ := SO1.out (by show 0 < y.labels.length; omega)
      subst hg
      subst hg'
      have wr1 : IntKind.u32.wrap (j : Int) = (j : Int) := IntWalk.u32_in _ (by have := HL1.out; omega)
      have HLT := hide_ hlt
      obtain ⟨X, hX⟩ : ∃ X, X = ovl (aL ⟨#[97]⟩) j ++ y.labels.drop j := ⟨_, rfl⟩
      have hXl : j < X.length := by rw [hX]; exact ovl_lt _ _ HLT.out
      have hOj := HO.out
      rw [← hX] at hOj
      obtain ⟨y0, hy0⟩ : ∃ y, y = X[j].name := ⟨_, rfl⟩
      have x0 : wr.cell? ⟨g, j * 4, none⟩ = some (.string y0) := by rw [hy0]; exact see lE_len hOj (i := 0) rfl hXl 0 _ rfl
      have v0 : wr.frozen? ⟨g, j * 4, none⟩ = false := hOj.frozen (i := 0) rfl _
      obtain ⟨y1, hy1⟩ : ∃ y, y = X[j].sec := ⟨_, rfl⟩
      have x1 : wr.cell? ⟨g, j * 4 + 1, none⟩ = some (.int .u8 y1) := by rw [hy1]; exact see lE_len hOj (i := 0) rfl hXl 1 _ rfl
      have v1 : wr.frozen? ⟨g, j * 4 + 1, none⟩ = false := hOj.frozen (i := 0) rfl _
      obtain ⟨y2, hy2⟩ : ∃ y, y = X[j].at_ := ⟨_, rfl⟩
      have x2 : wr.cell? ⟨g, j * 4 + 2, none⟩ = some (.int .u32 y2) := by rw [hy2]; exact see lE_len hOj (i := 0) rfl hXl 2 _ rfl
      have v2 : wr.frozen? ⟨g, j * 4 + 2, none⟩ = false := hOj.frozen (i := 0) rfl _
      obtain ⟨y3, hy3⟩ : ∃ y, y = X[j].opn := ⟨_, rfl⟩
      have x3 : wr.cell? ⟨g, j * 4 + 3, none⟩ = some (.bool y3) := by rw [hy3]; exact see lE_len hOj (i := 0) rfl hXl 3 _ rfl
      have v3 : wr.frozen? ⟨g, j * 4 + 3, none⟩ = false := hOj.frozen (i := 0) rfl _
      have hgb := hOj.base (i := 0) (g := g) rfl
      have hg2 := hgb.2
      obtain ⟨w2, hw2⟩ : ∃ W, W = ((((wr.setCell ⟨g, j * 4, none⟩ (.string ⟨#[97]⟩)).setCell ⟨g, j * 4 + 1, none⟩ (.int .u8 0)).setCell ⟨g, j * 4 + 2, none⟩ (.int .u32 (j : Int))).setCell ⟨g, j * 4 + 3, none⟩ (.bool false)) := ⟨_, rfl⟩
      have HO2 := hide_ (show Owns w2 B (apT y ⟨sC, sD, ⟨some ⟨g, 0, none⟩, lc⟩, ⟨fA, fc⟩, sT, ⟨eA, ec⟩⟩ ⟨tC, tD, ⟨some ⟨g', 0, none⟩, ld⟩, ⟨fB, fd⟩, tT, ⟨eB, ed⟩⟩ b (rowLb ⟨some ⟨g, 0, none⟩, lc⟩ y.labels.length (ovl (aL ⟨#[97]⟩) (j + 1) ++ y.labels.drop (j + 1))) (rowLb ⟨some ⟨g', 0, none⟩, ld⟩ y.labels.length (ovl (aL ⟨#[98]⟩) j ++ y.labels.drop j)) (rowFx ⟨fA, fc⟩ y.fixes.length (y.fixes)) (rowFx ⟨fB, fd⟩ y.fixes.length (y.fixes)) (rowEn ⟨eA, ec⟩ y.entries.length (y.entries)) (rowEn ⟨eB, ed⟩ y.entries.length (y.entries)) []) by
        have h9 := put4 lE_len hOj (i := 0) rfl hXl (m := aL ⟨#[97]⟩ j) rfl
        rw [hX, ovl_set _ _ HLT.out] at h9
        rw [hw2]
        exact h9)
      have HB2 := hide_ (show Below B w w2 by rw [hw2]; exact ((((HB.out.setCell (p := ⟨g, j * 4, none⟩) hgb.1 _).setCell (p := ⟨g, j * 4 + 1, none⟩) hgb.1 _).setCell (p := ⟨g, j * 4 + 2, none⟩) hgb.1 _).setCell (p := ⟨g, j * 4 + 3, none⟩) hgb.1 _))
      have HBW2 := hide_ (show B ≤ w2.heap.size by rw [hw2]; simpa using HBW.out)
      clear hOj hX hXl hgb hy0 hy1 hy2 hy3
      clear HO HB HBW
      go_upto_region 5 with (fail)
      rw [← hw2]
      clear hw2 hg2 f4 f5 f7 g4 g5 g7 hlt0 hlt1 X x0 v0 x1 v1 x2 v2 x3 v3
      clear y0 y1 y2 y3
      obtain ⟨⟨f4, f5, f7, g4, g5, g7⟩, hlt0, hlt1⟩ := apT_box HO2.out
      obtain ⟨X, hX⟩ : ∃ X, X = ovl (aL ⟨#[98]⟩) j ++ y.labels.drop j := ⟨_, rfl⟩
      have hXl : j < X.length := by rw [hX]; exact ovl_lt _ _ HLT.out
      have hOj := HO2.out
      rw [← hX] at hOj
      obtain ⟨y0, hy0⟩ : ∃ y, y = X[j].name := ⟨_, rfl⟩
      have x0 : w2.cell? ⟨g', j * 4, none⟩ = some (.string y0) := by rw [hy0]; exact see lE_len hOj (i := 1) rfl hXl 0 _ rfl
      have v0 : w2.frozen? ⟨g', j * 4, none⟩ = false := hOj.frozen (i := 1) rfl _
      obtain ⟨y1, hy1⟩ : ∃ y, y = X[j].sec := ⟨_, rfl⟩
      have x1 : w2.cell? ⟨g', j * 4 + 1, none⟩ = some (.int .u8 y1) := by rw [hy1]; exact see lE_len hOj (i := 1) rfl hXl 1 _ rfl
      have v1 : w2.frozen? ⟨g', j * 4 + 1, none⟩ = false := hOj.frozen (i := 1) rfl _
      obtain ⟨y2, hy2⟩ : ∃ y, y = X[j].at_ := ⟨_, rfl⟩
      have x2 : w2.cell? ⟨g', j * 4 + 2, none⟩ = some (.int .u32 y2) := by rw [hy2]; exact see lE_len hOj (i := 1) rfl hXl 2 _ rfl
      have v2 : w2.frozen? ⟨g', j * 4 + 2, none⟩ = false := hOj.frozen (i := 1) rfl _
      obtain ⟨y3, hy3⟩ : ∃ y, y = X[j].opn := ⟨_, rfl⟩
      have x3 : w2.cell? ⟨g', j * 4 + 3, none⟩ = some (.bool y3) := by rw [hy3]; exact see lE_len hOj (i := 1) rfl hXl 3 _ rfl
      have v3 : w2.frozen? ⟨g', j * 4 + 3, none⟩ = false := hOj.frozen (i := 1) rfl _
      have hgb := hOj.base (i := 1) (g := g') rfl
      have hg2 := hgb.2
      obtain ⟨w3, hw3⟩ : ∃ W, W = ((((w2.setCell ⟨g', j * 4, none⟩ (.string ⟨#[98]⟩)).setCell ⟨g', j * 4 + 1, none⟩ (.int .u8 0)).setCell ⟨g', j * 4 + 2, none⟩ (.int .u32 (j : Int))).setCell ⟨g', j * 4 + 3, none⟩ (.bool false)) := ⟨_, rfl⟩
      have HO3 := hide_ (show Owns w3 B (apT y ⟨sC, sD, ⟨some ⟨g, 0, none⟩, lc⟩, ⟨fA, fc⟩, sT, ⟨eA, ec⟩⟩ ⟨tC, tD, ⟨some ⟨g', 0, none⟩, ld⟩, ⟨fB, fd⟩, tT, ⟨eB, ed⟩⟩ b (rowLb ⟨some ⟨g, 0, none⟩, lc⟩ y.labels.length (ovl (aL ⟨#[97]⟩) (j + 1) ++ y.labels.drop (j + 1))) (rowLb ⟨some ⟨g', 0, none⟩, ld⟩ y.labels.length (ovl (aL ⟨#[98]⟩) (j + 1) ++ y.labels.drop (j + 1))) (rowFx ⟨fA, fc⟩ y.fixes.length (y.fixes)) (rowFx ⟨fB, fd⟩ y.fixes.length (y.fixes)) (rowEn ⟨eA, ec⟩ y.entries.length (y.entries)) (rowEn ⟨eB, ed⟩ y.entries.length (y.entries)) []) by
        have h9 := put4 lE_len hOj (i := 1) rfl hXl (m := aL ⟨#[98]⟩ j) rfl
        rw [hX, ovl_set _ _ HLT.out] at h9
        rw [hw3]
        exact h9)
      have HB3 := hide_ (show Below B w w3 by rw [hw3]; exact ((((HB2.out.setCell (p := ⟨g', j * 4, none⟩) hgb.1 _).setCell (p := ⟨g', j * 4 + 1, none⟩) hgb.1 _).setCell (p := ⟨g', j * 4 + 2, none⟩) hgb.1 _).setCell (p := ⟨g', j * 4 + 3, none⟩) hgb.1 _))
      have HBW3 := hide_ (show B ≤ w3.heap.size by rw [hw3]; simpa using HBW2.out)
      clear hOj hX hXl hgb hy0 hy1 hy2 hy3
      clear HO2 HB2 HBW2
      have hbd := HL1.out
      go_wp2
      go_roundw
      case rel => rw [← hw3]; exact ⟨j + 1, by omega, by go_num, HO3, HB3, HBW3⟩
      case measure => simp [intOf]; omega
    · have hjn : j = y.labels.length := by omega
      subst hjn
      have HO1 := hide_ (show Owns wr B (apT y ⟨sC, sD, ⟨lA, lc⟩, ⟨fA, fc⟩, sT, ⟨eA, ec⟩⟩ ⟨tC, tD, ⟨lB, ld⟩, ⟨fB, fd⟩, tT, ⟨eB, ed⟩⟩ b (rowLb ⟨lA, lc⟩ y.labels.length (ovl (aL ⟨#[97]⟩) y.labels.length)) (rowLb ⟨lB, ld⟩ y.labels.length (ovl (aL ⟨#[98]⟩) y.labels.length)) (rowFx ⟨fA, fc⟩ y.fixes.length (y.fixes)) (rowFx ⟨fB, fd⟩ y.fixes.length (y.fixes)) (rowEn ⟨eA, ec⟩ y.entries.length (y.entries)) (rowEn ⟨eB, ed⟩ y.entries.length (y.entries)) []) by
        have h9 := HO.out
        rw [List.drop_length, List.append_nil, List.append_nil] at h9
        exact h9)
      clear HO f4 f5 f7 g4 g5 g7 hlt0 hlt1
      have HO := HO1
      clear HO1
      have HS1 := hide_ (show Owns wr B (apT y ⟨sC, sD, ⟨lA, lc⟩, ⟨fA, fc⟩, sT, ⟨eA, ec⟩⟩ ⟨tC, tD, ⟨lB, ld⟩, ⟨fB, fd⟩, tT, ⟨eB, ed⟩⟩ b (rowLb ⟨lA, lc⟩ y.labels.length (ovl (aL ⟨#[97]⟩) y.labels.length)) (rowLb ⟨lB, ld⟩ y.labels.length (ovl (aL ⟨#[98]⟩) y.labels.length)) (rowFx ⟨fA, fc⟩ y.fixes.length (ovl (aF ⟨#[97]⟩) 0 ++ y.fixes.drop 0)) (rowFx ⟨fB, fd⟩ y.fixes.length (ovl (aF ⟨#[98]⟩) 0 ++ y.fixes.drop 0)) (rowEn ⟨eA, ec⟩ y.entries.length (y.entries)) (rowEn ⟨eB, ed⟩ y.entries.length (y.entries)) []) by
        have h9 := HO.out
        exact h9)
      clear HO
      obtain ⟨wv1, rfl⟩ : ∃ wo : World, wo = wr := ⟨_, rfl⟩
      obtain ⟨⟨f4, f5, f7, g4, g5, g7⟩, hlt0, hlt1⟩ := apT_box HS1.out
      go_wp2_with fail
      clear f4 f5 f7 g4 g5 g7 hlt0 hlt1
      go_loopw [6] (fun i wr => ∃ j : Nat, j ≤ y.fixes.length ∧ i = .int .i64 j ∧ Hid (Owns wr B (apT y ⟨sC, sD, ⟨lA, lc⟩, ⟨fA, fc⟩, sT, ⟨eA, ec⟩⟩ ⟨tC, tD, ⟨lB, ld⟩, ⟨fB, fd⟩, tT, ⟨eB, ed⟩⟩ b (rowLb ⟨lA, lc⟩ y.labels.length (ovl (aL ⟨#[97]⟩) y.labels.length)) (rowLb ⟨lB, ld⟩ y.labels.length (ovl (aL ⟨#[98]⟩) y.labels.length)) (rowFx ⟨fA, fc⟩ y.fixes.length (ovl (aF ⟨#[97]⟩) j ++ y.fixes.drop j)) (rowFx ⟨fB, fd⟩ y.fixes.length (ovl (aF ⟨#[98]⟩) j ++ y.fixes.drop j)) (rowEn ⟨eA, ec⟩ y.entries.length (y.entries)) (rowEn ⟨eB, ed⟩ y.entries.length (y.entries)) [])) ∧ Hid (Below B w wr) ∧ Hid (B ≤ wr.heap.size)) (fun i _ => y.fixes.length - (intOf i).toNat)
      case atStart => exact ⟨0, Nat.zero_le _, rfl, HS1, HB, HBW⟩
      case round =>
        clear HS1 HB HBW
        obtain ⟨j, hj, rfl, HO, HB, HBW⟩ := hrel
        obtain ⟨⟨f4, f5, f7, g4, g5, g7⟩, hlt0, hlt1⟩ := apT_box HO.out
        by_cases hlt : j < y.fixes.length
        · obtain ⟨g, hg⟩ := SO2.out (by show 0 < y.fixes.length; omega)
          obtain ⟨g', hg'⟩ := SO3.out (by show 0 < y.fixes.length; omega)
          subst hg
          subst hg'
          have wr1 : IntKind.u32.wrap (j : Int) = (j : Int) := IntWalk.u32_in _ (by have := HL2.out; omega)
          have HLT := hide_ hlt
          obtain ⟨X, hX⟩ : ∃ X, X = ovl (aF ⟨#[97]⟩) j ++ y.fixes.drop j := ⟨_, rfl⟩
          have hXl : j < X.length := by rw [hX]; exact ovl_lt _ _ HLT.out
          have hOj := HO.out
          rw [← hX] at hOj
          obtain ⟨y0, hy0⟩ : ∃ y, y = X[j].sec := ⟨_, rfl⟩
          have x0 : wr.cell? ⟨g, j * 4, none⟩ = some (.int .u8 y0) := by rw [hy0]; exact see fE_len hOj (i := 2) rfl hXl 0 _ rfl
          have v0 : wr.frozen? ⟨g, j * 4, none⟩ = false := hOj.frozen (i := 2) rfl _
          obtain ⟨y1, hy1⟩ : ∃ y, y = X[j].at_ := ⟨_, rfl⟩
          have x1 : wr.cell? ⟨g, j * 4 + 1, none⟩ = some (.int .u32 y1) := by rw [hy1]; exact see fE_len hOj (i := 2) rfl hXl 1 _ rfl
          have v1 : wr.frozen? ⟨g, j * 4 + 1, none⟩ = false := hOj.frozen (i := 2) rfl _
          obtain ⟨y2, hy2⟩ : ∃ y, y = X[j].name := ⟨_, rfl⟩
          have x2 : wr.cell? ⟨g, j * 4 + 2, none⟩ = some (.string y2) := by rw [hy2]; exact see fE_len hOj (i := 2) rfl hXl 2 _ rfl
          have v2 : wr.frozen? ⟨g, j * 4 + 2, none⟩ = false := hOj.frozen (i := 2) rfl _
          obtain ⟨y3, hy3⟩ : ∃ y, y = X[j].add := ⟨_, rfl⟩
          have x3 : wr.cell? ⟨g, j * 4 + 3, none⟩ = some (.int .u32 y3) := by rw [hy3]; exact see fE_len hOj (i := 2) rfl hXl 3 _ rfl
          have v3 : wr.frozen? ⟨g, j * 4 + 3, none⟩ = false := hOj.frozen (i := 2) rfl _
          have hgb := hOj.base (i := 2) (g := g) rfl
          have hg2 := hgb.2
          obtain ⟨w2, hw2⟩ : ∃ W, W = ((((wr.setCell ⟨g, j * 4, none⟩ (.int .u8 0)).setCell ⟨g, j * 4 + 1, none⟩ (.int .u32 (j : Int))).setCell ⟨g, j * 4 + 2, none⟩ (.string ⟨#[97]⟩)).setCell ⟨g, j * 4 + 3, none⟩ (.int .u32 0)) := ⟨_, rfl⟩
          have HO2 := hide_ (show Owns w2 B (apT y ⟨sC, sD, ⟨lA, lc⟩, ⟨some ⟨g, 0, none⟩, fc⟩, sT, ⟨eA, ec⟩⟩ ⟨tC, tD, ⟨lB, ld⟩, ⟨some ⟨g', 0, none⟩, fd⟩, tT, ⟨eB, ed⟩⟩ b (rowLb ⟨lA, lc⟩ y.labels.length (ovl (aL ⟨#[97]⟩) y.labels.length)) (rowLb ⟨lB, ld⟩ y.labels.length (ovl (aL ⟨#[98]⟩) y.labels.length)) (rowFx ⟨some ⟨g, 0, none⟩, fc⟩ y.fixes.length (ovl (aF ⟨#[97]⟩) (j + 1) ++ y.fixes.drop (j + 1))) (rowFx ⟨some ⟨g', 0, none⟩, fd⟩ y.fixes.length (ovl (aF ⟨#[98]⟩) j ++ y.fixes.drop j)) (rowEn ⟨eA, ec⟩ y.entries.length (y.entries)) (rowEn ⟨eB, ed⟩ y.entries.length (y.entries)) []) by
            have h9 := put4 fE_len hOj (i := 2) rfl hXl (m := aF ⟨#[97]⟩ j) rfl
            rw [hX, ovl_set _ _ HLT.out] at h9
            rw [hw2]
            exact h9)
          have HB2 := hide_ (show Below B w w2 by rw [hw2]; exact ((((HB.out.setCell (p := ⟨g, j * 4, none⟩) hgb.1 _).setCell (p := ⟨g, j * 4 + 1, none⟩) hgb.1 _).setCell (p := ⟨g, j * 4 + 2, none⟩) hgb.1 _).setCell (p := ⟨g, j * 4 + 3, none⟩) hgb.1 _))
          have HBW2 := hide_ (show B ≤ w2.heap.size by rw [hw2]; simpa using HBW.out)
          clear hOj hX hXl hgb hy0 hy1 hy2 hy3
          clear HO HB HBW
          go_upto_region 10 with (fail)
          rw [← hw2]
          clear hw2 hg2 f4 f5 f7 g4 g5 g7 hlt0 hlt1 X x0 v0 x1 v1 x2 v2 x3 v3
          clear y0 y1 y2 y3
          obtain ⟨⟨f4, f5, f7, g4, g5, g7⟩, hlt0, hlt1⟩ := apT_box HO2.out
          obtain ⟨X, hX⟩ : ∃ X, X = ovl (aF ⟨#[98]⟩) j ++ y.fixes.drop j := ⟨_, rfl⟩
          have hXl : j < X.length := by rw [hX]; exact ovl_lt _ _ HLT.out
          have hOj := HO2.out
          rw [← hX] at hOj
          obtain ⟨y0, hy0⟩ : ∃ y, y = X[j].sec := ⟨_, rfl⟩
          have x0 : w2.cell? ⟨g', j * 4, none⟩ = some (.int .u8 y0) := by rw [hy0]; exact see fE_len hOj (i := 3) rfl hXl 0 _ rfl
          have v0 : w2.frozen? ⟨g', j * 4, none⟩ = false := hOj.frozen (i := 3) rfl _
          obtain ⟨y1, hy1⟩ : ∃ y, y = X[j].at_ := ⟨_, rfl⟩
          have x1 : w2.cell? ⟨g', j * 4 + 1, none⟩ = some (.int .u32 y1) := by rw [hy1]; exact see fE_len hOj (i := 3) rfl hXl 1 _ rfl
          have v1 : w2.frozen? ⟨g', j * 4 + 1, none⟩ = false := hOj.frozen (i := 3) rfl _
          obtain ⟨y2, hy2⟩ : ∃ y, y = X[j].name := ⟨_, rfl⟩
          have x2 : w2.cell? ⟨g', j * 4 + 2, none⟩ = some (.string y2) := by rw [hy2]; exact see fE_len hOj (i := 3) rfl hXl 2 _ rfl
          have v2 : w2.frozen? ⟨g', j * 4 + 2, none⟩ = false := hOj.frozen (i := 3) rfl _
          obtain ⟨y3, hy3⟩ : ∃ y, y = X[j].add := ⟨_, rfl⟩
          have x3 : w2.cell? ⟨g', j * 4 + 3, none⟩ = some (.int .u32 y3) := by rw [hy3]; exact see fE_len hOj (i := 3) rfl hXl 3 _ rfl
          have v3 : w2.frozen? ⟨g', j * 4 + 3, none⟩ = false := hOj.frozen (i := 3) rfl _
          have hgb := hOj.base (i := 3) (g := g') rfl
          have hg2 := hgb.2
          obtain ⟨w3, hw3⟩ : ∃ W, W = ((((w2.setCell ⟨g', j * 4, none⟩ (.int .u8 0)).setCell ⟨g', j * 4 + 1, none⟩ (.int .u32 (j : Int))).setCell ⟨g', j * 4 + 2, none⟩ (.string ⟨#[98]⟩)).setCell ⟨g', j * 4 + 3, none⟩ (.int .u32 0)) := ⟨_, rfl⟩
          have HO3 := hide_ (show Owns w3 B (apT y ⟨sC, sD, ⟨lA, lc⟩, ⟨some ⟨g, 0, none⟩, fc⟩, sT, ⟨eA, ec⟩⟩ ⟨tC, tD, ⟨lB, ld⟩, ⟨some ⟨g', 0, none⟩, fd⟩, tT, ⟨eB, ed⟩⟩ b (rowLb ⟨lA, lc⟩ y.labels.length (ovl (aL ⟨#[97]⟩) y.labels.length)) (rowLb ⟨lB, ld⟩ y.labels.length (ovl (aL ⟨#[98]⟩) y.labels.length)) (rowFx ⟨some ⟨g, 0, none⟩, fc⟩ y.fixes.length (ovl (aF ⟨#[97]⟩) (j + 1) ++ y.fixes.drop (j + 1))) (rowFx ⟨some ⟨g', 0, none⟩, fd⟩ y.fixes.length (ovl (aF ⟨#[98]⟩) (j + 1) ++ y.fixes.drop (j + 1))) (rowEn ⟨eA, ec⟩ y.entries.length (y.entries)) (rowEn ⟨eB, ed⟩ y.entries.length (y.entries)) []) by
            have h9 := put4 fE_len hOj (i := 3) rfl hXl (m := aF ⟨#[98]⟩ j) rfl
            rw [hX, ovl_set _ _ HLT.out] at h9
            rw [hw3]
            exact h9)
          have HB3 := hide_ (show Below B w w3 by rw [hw3]; exact ((((HB2.out.setCell (p := ⟨g', j * 4, none⟩) hgb.1 _).setCell (p := ⟨g', j * 4 + 1, none⟩) hgb.1 _).setCell (p := ⟨g', j * 4 + 2, none⟩) hgb.1 _).setCell (p := ⟨g', j * 4 + 3, none⟩) hgb.1 _))
          have HBW3 := hide_ (show B ≤ w3.heap.size by rw [hw3]; simpa using HBW2.out)
          clear hOj hX hXl hgb hy0 hy1 hy2 hy3
          clear HO2 HB2 HBW2
          have hbd := HL2.out
          go_wp2
          go_roundw
          case rel => rw [← hw3]; exact ⟨j + 1, by omega, by go_num, HO3, HB3, HBW3⟩
          case measure => simp [intOf]; omega
        · have hjn : j = y.fixes.length := by omega
          subst hjn
          have HO1 := hide_ (show Owns wr B (apT y ⟨sC, sD, ⟨lA, lc⟩, ⟨fA, fc⟩, sT, ⟨eA, ec⟩⟩ ⟨tC, tD, ⟨lB, ld⟩, ⟨fB, fd⟩, tT, ⟨eB, ed⟩⟩ b (rowLb ⟨lA, lc⟩ y.labels.length (ovl (aL ⟨#[97]⟩) y.labels.length)) (rowLb ⟨lB, ld⟩ y.labels.length (ovl (aL ⟨#[98]⟩) y.labels.length)) (rowFx ⟨fA, fc⟩ y.fixes.length (ovl (aF ⟨#[97]⟩) y.fixes.length)) (rowFx ⟨fB, fd⟩ y.fixes.length (ovl (aF ⟨#[98]⟩) y.fixes.length)) (rowEn ⟨eA, ec⟩ y.entries.length (y.entries)) (rowEn ⟨eB, ed⟩ y.entries.length (y.entries)) []) by
            have h9 := HO.out
            rw [List.drop_length, List.append_nil, List.append_nil] at h9
            exact h9)
          clear HO f4 f5 f7 g4 g5 g7 hlt0 hlt1
          have HO := HO1
          clear HO1
          have HS2 := hide_ (show Owns wr B (apT y ⟨sC, sD, ⟨lA, lc⟩, ⟨fA, fc⟩, sT, ⟨eA, ec⟩⟩ ⟨tC, tD, ⟨lB, ld⟩, ⟨fB, fd⟩, tT, ⟨eB, ed⟩⟩ b (rowLb ⟨lA, lc⟩ y.labels.length (ovl (aL ⟨#[97]⟩) y.labels.length)) (rowLb ⟨lB, ld⟩ y.labels.length (ovl (aL ⟨#[98]⟩) y.labels.length)) (rowFx ⟨fA, fc⟩ y.fixes.length (ovl (aF ⟨#[97]⟩) y.fixes.length)) (rowFx ⟨fB, fd⟩ y.fixes.length (ovl (aF ⟨#[98]⟩) y.fixes.length)) (rowEn ⟨eA, ec⟩ y.entries.length (ovl (aE ⟨#[97]⟩) 0 ++ y.entries.drop 0)) (rowEn ⟨eB, ed⟩ y.entries.length (ovl (aE ⟨#[98]⟩) 0 ++ y.entries.drop 0)) []) by
            have h9 := HO.out
            exact h9)
          clear HO
          obtain ⟨wv2, rfl⟩ : ∃ wo : World, wo = wr := ⟨_, rfl⟩
          obtain ⟨⟨f4, f5, f7, g4, g5, g7⟩, hlt0, hlt1⟩ := apT_box HS2.out
          go_wp2_with fail
          clear f4 f5 f7 g4 g5 g7 hlt0 hlt1
          go_loopw [7] (fun i wr => ∃ j : Nat, j ≤ y.entries.length ∧ i = .int .i64 j ∧ Hid (Owns wr B (apT y ⟨sC, sD, ⟨lA, lc⟩, ⟨fA, fc⟩, sT, ⟨eA, ec⟩⟩ ⟨tC, tD, ⟨lB, ld⟩, ⟨fB, fd⟩, tT, ⟨eB, ed⟩⟩ b (rowLb ⟨lA, lc⟩ y.labels.length (ovl (aL ⟨#[97]⟩) y.labels.length)) (rowLb ⟨lB, ld⟩ y.labels.length (ovl (aL ⟨#[98]⟩) y.labels.length)) (rowFx ⟨fA, fc⟩ y.fixes.length (ovl (aF ⟨#[97]⟩) y.fixes.length)) (rowFx ⟨fB, fd⟩ y.fixes.length (ovl (aF ⟨#[98]⟩) y.fixes.length)) (rowEn ⟨eA, ec⟩ y.entries.length (ovl (aE ⟨#[97]⟩) j ++ y.entries.drop j)) (rowEn ⟨eB, ed⟩ y.entries.length (ovl (aE ⟨#[98]⟩) j ++ y.entries.drop j)) [])) ∧ Hid (Below B w wr) ∧ Hid (B ≤ wr.heap.size)) (fun i _ => y.entries.length - (intOf i).toNat)
          case atStart => exact ⟨0, Nat.zero_le _, rfl, HS2, HB, HBW⟩
          case round =>
            clear HS2 HB HBW
            obtain ⟨j, hj, rfl, HO, HB, HBW⟩ := hrel
            obtain ⟨⟨f4, f5, f7, g4, g5, g7⟩, hlt0, hlt1⟩ := apT_box HO.out
            by_cases hlt : j < y.entries.length
            · obtain ⟨g, hg⟩ := SO4.out (by show 0 < y.entries.length; omega)
              obtain ⟨g', hg'⟩ := SO5.out (by show 0 < y.entries.length; omega)
              subst hg
              subst hg'
              have wr1 : IntKind.u32.wrap (j : Int) = (j : Int) := IntWalk.u32_in _ (by have := HL3.out; omega)
              have HLT := hide_ hlt
              obtain ⟨X, hX⟩ : ∃ X, X = ovl (aE ⟨#[97]⟩) j ++ y.entries.drop j := ⟨_, rfl⟩
              have hXl : j < X.length := by rw [hX]; exact ovl_lt _ _ HLT.out
              have hOj := HO.out
              rw [← hX] at hOj
              obtain ⟨y0, hy0⟩ : ∃ y, y = X[j].name := ⟨_, rfl⟩
              have x0 : wr.cell? ⟨g, j * 2, none⟩ = some (.string y0) := by rw [hy0]; exact see eE_len hOj (i := 4) rfl hXl 0 _ rfl
              have v0 : wr.frozen? ⟨g, j * 2, none⟩ = false := hOj.frozen (i := 4) rfl _
              obtain ⟨y1, hy1⟩ : ∃ y, y = X[j].lab := ⟨_, rfl⟩
              have x1 : wr.cell? ⟨g, j * 2 + 1, none⟩ = some (.string y1) := by rw [hy1]; exact see eE_len hOj (i := 4) rfl hXl 1 _ rfl
              have v1 : wr.frozen? ⟨g, j * 2 + 1, none⟩ = false := hOj.frozen (i := 4) rfl _
              have hgb := hOj.base (i := 4) (g := g) rfl
              have hg2 := hgb.2
              obtain ⟨w2, hw2⟩ : ∃ W, W = ((wr.setCell ⟨g, j * 2, none⟩ (.string ⟨#[97]⟩)).setCell ⟨g, j * 2 + 1, none⟩ (.string ⟨#[]⟩)) := ⟨_, rfl⟩
              have HO2 := hide_ (show Owns w2 B (apT y ⟨sC, sD, ⟨lA, lc⟩, ⟨fA, fc⟩, sT, ⟨some ⟨g, 0, none⟩, ec⟩⟩ ⟨tC, tD, ⟨lB, ld⟩, ⟨fB, fd⟩, tT, ⟨some ⟨g', 0, none⟩, ed⟩⟩ b (rowLb ⟨lA, lc⟩ y.labels.length (ovl (aL ⟨#[97]⟩) y.labels.length)) (rowLb ⟨lB, ld⟩ y.labels.length (ovl (aL ⟨#[98]⟩) y.labels.length)) (rowFx ⟨fA, fc⟩ y.fixes.length (ovl (aF ⟨#[97]⟩) y.fixes.length)) (rowFx ⟨fB, fd⟩ y.fixes.length (ovl (aF ⟨#[98]⟩) y.fixes.length)) (rowEn ⟨some ⟨g, 0, none⟩, ec⟩ y.entries.length (ovl (aE ⟨#[97]⟩) (j + 1) ++ y.entries.drop (j + 1))) (rowEn ⟨some ⟨g', 0, none⟩, ed⟩ y.entries.length (ovl (aE ⟨#[98]⟩) j ++ y.entries.drop j)) []) by
                have h9 := put2 eE_len hOj (i := 4) rfl hXl (m := aE ⟨#[97]⟩ j) rfl
                rw [hX, ovl_set _ _ HLT.out] at h9
                rw [hw2]
                exact h9)
              have HB2 := hide_ (show Below B w w2 by rw [hw2]; exact ((HB.out.setCell (p := ⟨g, j * 2, none⟩) hgb.1 _).setCell (p := ⟨g, j * 2 + 1, none⟩) hgb.1 _))
              have HBW2 := hide_ (show B ≤ w2.heap.size by rw [hw2]; simpa using HBW.out)
              clear hOj hX hXl hgb hy0 hy1
              clear HO HB HBW
              go_upto_region 15 with (fail)
              rw [← hw2]
              clear hw2 hg2 f4 f5 f7 g4 g5 g7 hlt0 hlt1 X x0 v0 x1 v1
              clear y0 y1
              obtain ⟨⟨f4, f5, f7, g4, g5, g7⟩, hlt0, hlt1⟩ := apT_box HO2.out
              obtain ⟨X, hX⟩ : ∃ X, X = ovl (aE ⟨#[98]⟩) j ++ y.entries.drop j := ⟨_, rfl⟩
              have hXl : j < X.length := by rw [hX]; exact ovl_lt _ _ HLT.out
              have hOj := HO2.out
              rw [← hX] at hOj
              obtain ⟨y0, hy0⟩ : ∃ y, y = X[j].name := ⟨_, rfl⟩
              have x0 : w2.cell? ⟨g', j * 2, none⟩ = some (.string y0) := by rw [hy0]; exact see eE_len hOj (i := 5) rfl hXl 0 _ rfl
              have v0 : w2.frozen? ⟨g', j * 2, none⟩ = false := hOj.frozen (i := 5) rfl _
              obtain ⟨y1, hy1⟩ : ∃ y, y = X[j].lab := ⟨_, rfl⟩
              have x1 : w2.cell? ⟨g', j * 2 + 1, none⟩ = some (.string y1) := by rw [hy1]; exact see eE_len hOj (i := 5) rfl hXl 1 _ rfl
              have v1 : w2.frozen? ⟨g', j * 2 + 1, none⟩ = false := hOj.frozen (i := 5) rfl _
              have hgb := hOj.base (i := 5) (g := g') rfl
              have hg2 := hgb.2
              obtain ⟨w3, hw3⟩ : ∃ W, W = ((w2.setCell ⟨g', j * 2, none⟩ (.string ⟨#[98]⟩)).setCell ⟨g', j * 2 + 1, none⟩ (.string ⟨#[]⟩)) := ⟨_, rfl⟩
              have HO3 := hide_ (show Owns w3 B (apT y ⟨sC, sD, ⟨lA, lc⟩, ⟨fA, fc⟩, sT, ⟨some ⟨g, 0, none⟩, ec⟩⟩ ⟨tC, tD, ⟨lB, ld⟩, ⟨fB, fd⟩, tT, ⟨some ⟨g', 0, none⟩, ed⟩⟩ b (rowLb ⟨lA, lc⟩ y.labels.length (ovl (aL ⟨#[97]⟩) y.labels.length)) (rowLb ⟨lB, ld⟩ y.labels.length (ovl (aL ⟨#[98]⟩) y.labels.length)) (rowFx ⟨fA, fc⟩ y.fixes.length (ovl (aF ⟨#[97]⟩) y.fixes.length)) (rowFx ⟨fB, fd⟩ y.fixes.length (ovl (aF ⟨#[98]⟩) y.fixes.length)) (rowEn ⟨some ⟨g, 0, none⟩, ec⟩ y.entries.length (ovl (aE ⟨#[97]⟩) (j + 1) ++ y.entries.drop (j + 1))) (rowEn ⟨some ⟨g', 0, none⟩, ed⟩ y.entries.length (ovl (aE ⟨#[98]⟩) (j + 1) ++ y.entries.drop (j + 1))) []) by
                have h9 := put2 eE_len hOj (i := 5) rfl hXl (m := aE ⟨#[98]⟩ j) rfl
                rw [hX, ovl_set _ _ HLT.out] at h9
                rw [hw3]
                exact h9)
              have HB3 := hide_ (show Below B w w3 by rw [hw3]; exact ((HB2.out.setCell (p := ⟨g', j * 2, none⟩) hgb.1 _).setCell (p := ⟨g', j * 2 + 1, none⟩) hgb.1 _))
              have HBW3 := hide_ (show B ≤ w3.heap.size by rw [hw3]; simpa using HBW2.out)
              clear hOj hX hXl hgb hy0 hy1
              clear HO2 HB2 HBW2
              have hbd := HL3.out
              go_wp2
              go_roundw
              case rel => rw [← hw3]; exact ⟨j + 1, by omega, by go_num, HO3, HB3, HBW3⟩
              case measure => simp [intOf]; omega
            · have hjn : j = y.entries.length := by omega
              subst hjn
              have HO1 := hide_ (show Owns wr B (apT y ⟨sC, sD, ⟨lA, lc⟩, ⟨fA, fc⟩, sT, ⟨eA, ec⟩⟩ ⟨tC, tD, ⟨lB, ld⟩, ⟨fB, fd⟩, tT, ⟨eB, ed⟩⟩ b (rowLb ⟨lA, lc⟩ y.labels.length (ovl (aL ⟨#[97]⟩) y.labels.length)) (rowLb ⟨lB, ld⟩ y.labels.length (ovl (aL ⟨#[98]⟩) y.labels.length)) (rowFx ⟨fA, fc⟩ y.fixes.length (ovl (aF ⟨#[97]⟩) y.fixes.length)) (rowFx ⟨fB, fd⟩ y.fixes.length (ovl (aF ⟨#[98]⟩) y.fixes.length)) (rowEn ⟨eA, ec⟩ y.entries.length (ovl (aE ⟨#[97]⟩) y.entries.length)) (rowEn ⟨eB, ed⟩ y.entries.length (ovl (aE ⟨#[98]⟩) y.entries.length)) []) by
                have h9 := HO.out
                rw [List.drop_length, List.append_nil, List.append_nil] at h9
                exact h9)
              clear HO f4 f5 f7 g4 g5 g7 hlt0 hlt1
              have HO := HO1
              clear HO1
              obtain ⟨wv3, rfl⟩ : ∃ wo : World, wo = wr := ⟨_, rfl⟩
              obtain ⟨OL, hOL⟩ : ∃ l, l = [(rowLb ⟨lA, lc⟩ y.labels.length (ovl (aL ⟨#[97]⟩) y.labels.length)), (rowLb ⟨lB, ld⟩ y.labels.length (ovl (aL ⟨#[98]⟩) y.labels.length)), (rowFx ⟨fA, fc⟩ y.fixes.length (ovl (aF ⟨#[97]⟩) y.fixes.length)), (rowFx ⟨fB, fd⟩ y.fixes.length (ovl (aF ⟨#[98]⟩) y.fixes.length)), (rowEn ⟨eA, ec⟩ y.entries.length (ovl (aE ⟨#[97]⟩) y.entries.length)), (rowEn ⟨eB, ed⟩ y.entries.length (ovl (aE ⟨#[98]⟩) y.entries.length))] := ⟨_, rfl⟩
              have HK := hide_ (show ∀ o ∈ OL, Kin (apT y ⟨sC, sD, ⟨lA, lc⟩, ⟨fA, fc⟩, sT, ⟨eA, ec⟩⟩ ⟨tC, tD, ⟨lB, ld⟩, ⟨fB, fd⟩, tT, ⟨eB, ed⟩⟩ b (rowLb ⟨lA, lc⟩ y.labels.length (ovl (aL ⟨#[97]⟩) y.labels.length)) (rowLb ⟨lB, ld⟩ y.labels.length (ovl (aL ⟨#[98]⟩) y.labels.length)) (rowFx ⟨fA, fc⟩ y.fixes.length (ovl (aF ⟨#[97]⟩) y.fixes.length)) (rowFx ⟨fB, fd⟩ y.fixes.length (ovl (aF ⟨#[98]⟩) y.fixes.length)) (rowEn ⟨eA, ec⟩ y.entries.length (ovl (aE ⟨#[97]⟩) y.entries.length)) (rowEn ⟨eB, ed⟩ y.entries.length (ovl (aE ⟨#[98]⟩) y.entries.length)) []) o from fun o ho => by
                rw [hOL] at ho
                exact Kin.self (List.mem_append_left _ ho))
              have HOL := hide_ hOL
              clear hOL
              obtain ⟨⟨f4, f5, f7, g4, g5, g7⟩, hlt0, hlt1⟩ := apT_box HO.out
              go_wp2_with (at_builtin; refine wpList_append_splitK _ rfl (.tmp 80) (.tmp 82) 31 rfl B _ 0 78 4 (.slice lA y.labels.length lc) y.labels.length ((ovl (aL ⟨#[97]⟩) y.labels.length).flatMap lE) rfl (HO.out.alloc _) (by have := HBW.out; simp; omega) i1 _ 32 (by decide) Tryz.underlying31 hi1 hz11 hz12 hz13 rfl rfl _ _ 1 1 [.string ⟨#[99]⟩, .int .u8 0, .int .u32 0, .bool false] rfl (reads_new wv3 78 4 1 [.string ⟨#[99]⟩, .int .u8 0, .int .u32 0, .bool false] rfl) (by simp [Value.oneCell']) (by omega) (by have := HL1.out; simp only [maxLen]; omega) (by have := HL1.out; omega) ?_)
              intro v0 w10 hsp hb7 hsz7
              obtain ⟨ex0, hO7, hK7⟩ := kin_step (k := 0) (olds := OL) rfl hsp (List.prefix_append _ _) HK.out
              have hO8 : Owns w10 B (apT y ⟨sC, sD, ⟨lA, lc⟩, ⟨fA, fc⟩, sT, ⟨eA, ec⟩⟩ ⟨tC, tD, ⟨lB, ld⟩, ⟨fB, fd⟩, tT, ⟨eB, ed⟩⟩ b ⟨78, 4, v0, y.labels.length + 1, (ovl (aL ⟨#[97]⟩) y.labels.length).flatMap lE ++ ([Value.string (ByteArray.mk #[99]), Value.int IntKind.u8 (0), Value.int IntKind.u32 (0), Value.bool false] : List Value)⟩ (rowLb ⟨lB, ld⟩ y.labels.length (ovl (aL ⟨#[98]⟩) y.labels.length)) (rowFx ⟨fA, fc⟩ y.fixes.length (ovl (aF ⟨#[97]⟩) y.fixes.length)) (rowFx ⟨fB, fd⟩ y.fixes.length (ovl (aF ⟨#[98]⟩) y.fixes.length)) (rowEn ⟨eA, ec⟩ y.entries.length (ovl (aE ⟨#[97]⟩) y.entries.length)) (rowEn ⟨eB, ed⟩ y.entries.length (ovl (aE ⟨#[98]⟩) y.entries.length)) ([] ++ ex0)) := hO7
              have hK8 : ∀ o ∈ OL, Kin (apT y ⟨sC, sD, ⟨lA, lc⟩, ⟨fA, fc⟩, sT, ⟨eA, ec⟩⟩ ⟨tC, tD, ⟨lB, ld⟩, ⟨fB, fd⟩, tT, ⟨eB, ed⟩⟩ b ⟨78, 4, v0, y.labels.length + 1, (ovl (aL ⟨#[97]⟩) y.labels.length).flatMap lE ++ ([Value.string (ByteArray.mk #[99]), Value.int IntKind.u8 (0), Value.int IntKind.u32 (0), Value.bool false] : List Value)⟩ (rowLb ⟨lB, ld⟩ y.labels.length (ovl (aL ⟨#[98]⟩) y.labels.length)) (rowFx ⟨fA, fc⟩ y.fixes.length (ovl (aF ⟨#[97]⟩) y.fixes.length)) (rowFx ⟨fB, fd⟩ y.fixes.length (ovl (aF ⟨#[98]⟩) y.fixes.length)) (rowEn ⟨eA, ec⟩ y.entries.length (ovl (aE ⟨#[97]⟩) y.entries.length)) (rowEn ⟨eB, ed⟩ y.entries.length (ovl (aE ⟨#[98]⟩) y.entries.length)) ([] ++ ex0)) o := hK7
              generalize [] ++ ex0 = z0 at hO8 hK8
              obtain ⟨p0, k0, hv0⟩ := ownsRow_some (hO8.at_ (i := 0) rfl) (show 0 < y.labels.length + 1 by omega)
              have hv : v0 = .slice (some ⟨p0, 0, none⟩) (y.labels.length + 1) k0 := hv0
              subst hv
              have HO9 := hide_ hO8
              have HK9 := hide_ (show ∀ o ∈ OL, Kin (apT y ⟨sC, sD, ⟨lA, lc⟩, ⟨fA, fc⟩, sT, ⟨eA, ec⟩⟩ ⟨tC, tD, ⟨lB, ld⟩, ⟨fB, fd⟩, tT, ⟨eB, ed⟩⟩ b ⟨78, 4, .slice (some ⟨p0, 0, none⟩) (y.labels.length + 1) k0, y.labels.length + 1, (ovl (aL ⟨#[97]⟩) y.labels.length).flatMap lE ++ [.string ⟨#[99]⟩, .int .u8 0, .int .u32 0, .bool false]⟩ (rowLb ⟨lB, ld⟩ y.labels.length (ovl (aL ⟨#[98]⟩) y.labels.length)) (rowFx ⟨fA, fc⟩ y.fixes.length (ovl (aF ⟨#[97]⟩) y.fixes.length)) (rowFx ⟨fB, fd⟩ y.fixes.length (ovl (aF ⟨#[98]⟩) y.fixes.length)) (rowEn ⟨eA, ec⟩ y.entries.length (ovl (aE ⟨#[97]⟩) y.entries.length)) (rowEn ⟨eB, ed⟩ y.entries.length (ovl (aE ⟨#[98]⟩) y.entries.length)) z0) o from hK8)
              have HB9 := hide_ (show Below B w w10 from (HB.out.alloc HBW.out _).trans hb7)
              have HBW9 := hide_ (show B ≤ w10.heap.size from Nat.le_trans (by have := HBW.out; first | omega | (rw [World.size_alloc]; omega)) hsz7)
              clear HO HK HB HBW hsp hb7 hsz7 hO7 hK7 hO8 hK8 hv0 f4 f5 f7 g4 g5 g7 hlt0 hlt1
              have HO := HO9
              have HK := HK9
              have HB := HB9
              have HBW := HBW9
              clear HO9 HK9 HB9 HBW9
              obtain ⟨⟨f4, f5, f7, g4, g5, g7⟩, hlt0, hlt1⟩ := apT_box HO.out
              go_wp2_with (at_builtin; refine wpList_append_splitK _ rfl (.tmp 85) (.tmp 87) 31 rfl B _ 1 78 4 (.slice lB y.labels.length ld) y.labels.length ((ovl (aL ⟨#[98]⟩) y.labels.length).flatMap lE) rfl (HO.out.alloc _) (by have := HBW.out; simp; omega) i1 _ 32 (by decide) Tryz.underlying31 hi1 hz11 hz12 hz13 rfl rfl _ _ 1 1 [.string ⟨#[100]⟩, .int .u8 0, .int .u32 0, .bool false] rfl (reads_new w10 78 4 1 [.string ⟨#[100]⟩, .int .u8 0, .int .u32 0, .bool false] rfl) (by simp [Value.oneCell']) (by omega) (by have := HL1.out; simp only [maxLen]; omega) (by have := HL1.out; omega) ?_)
              intro v1 w11 hsp hb7 hsz7
              obtain ⟨ex1, hO7, hK7⟩ := kin_step (k := 1) (olds := OL) rfl hsp (List.prefix_append _ _) HK.out
              have hO8 : Owns w11 B (apT y ⟨sC, sD, ⟨lA, lc⟩, ⟨fA, fc⟩, sT, ⟨eA, ec⟩⟩ ⟨tC, tD, ⟨lB, ld⟩, ⟨fB, fd⟩, tT, ⟨eB, ed⟩⟩ b ⟨78, 4, .slice (some ⟨p0, 0, none⟩) (y.labels.length + 1) k0, y.labels.length + 1, (ovl (aL ⟨#[97]⟩) y.labels.length).flatMap lE ++ [.string ⟨#[99]⟩, .int .u8 0, .int .u32 0, .bool false]⟩ ⟨78, 4, v1, y.labels.length + 1, (ovl (aL ⟨#[98]⟩) y.labels.length).flatMap lE ++ ([Value.string (ByteArray.mk #[100]), Value.int IntKind.u8 (0), Value.int IntKind.u32 (0), Value.bool false] : List Value)⟩ (rowFx ⟨fA, fc⟩ y.fixes.length (ovl (aF ⟨#[97]⟩) y.fixes.length)) (rowFx ⟨fB, fd⟩ y.fixes.length (ovl (aF ⟨#[98]⟩) y.fixes.length)) (rowEn ⟨eA, ec⟩ y.entries.length (ovl (aE ⟨#[97]⟩) y.entries.length)) (rowEn ⟨eB, ed⟩ y.entries.length (ovl (aE ⟨#[98]⟩) y.entries.length)) (z0 ++ ex1)) := hO7
              have hK8 : ∀ o ∈ OL, Kin (apT y ⟨sC, sD, ⟨lA, lc⟩, ⟨fA, fc⟩, sT, ⟨eA, ec⟩⟩ ⟨tC, tD, ⟨lB, ld⟩, ⟨fB, fd⟩, tT, ⟨eB, ed⟩⟩ b ⟨78, 4, .slice (some ⟨p0, 0, none⟩) (y.labels.length + 1) k0, y.labels.length + 1, (ovl (aL ⟨#[97]⟩) y.labels.length).flatMap lE ++ [.string ⟨#[99]⟩, .int .u8 0, .int .u32 0, .bool false]⟩ ⟨78, 4, v1, y.labels.length + 1, (ovl (aL ⟨#[98]⟩) y.labels.length).flatMap lE ++ ([Value.string (ByteArray.mk #[100]), Value.int IntKind.u8 (0), Value.int IntKind.u32 (0), Value.bool false] : List Value)⟩ (rowFx ⟨fA, fc⟩ y.fixes.length (ovl (aF ⟨#[97]⟩) y.fixes.length)) (rowFx ⟨fB, fd⟩ y.fixes.length (ovl (aF ⟨#[98]⟩) y.fixes.length)) (rowEn ⟨eA, ec⟩ y.entries.length (ovl (aE ⟨#[97]⟩) y.entries.length)) (rowEn ⟨eB, ed⟩ y.entries.length (ovl (aE ⟨#[98]⟩) y.entries.length)) (z0 ++ ex1)) o := hK7
              generalize z0 ++ ex1 = z1 at hO8 hK8
              obtain ⟨p1, k1, hv1⟩ := ownsRow_some (hO8.at_ (i := 1) rfl) (show 0 < y.labels.length + 1 by omega)
              have hv : v1 = .slice (some ⟨p1, 0, none⟩) (y.labels.length + 1) k1 := hv1
              subst hv
              have HO9 := hide_ hO8
              have HK9 := hide_ (show ∀ o ∈ OL, Kin (apT y ⟨sC, sD, ⟨lA, lc⟩, ⟨fA, fc⟩, sT, ⟨eA, ec⟩⟩ ⟨tC, tD, ⟨lB, ld⟩, ⟨fB, fd⟩, tT, ⟨eB, ed⟩⟩ b ⟨78, 4, .slice (some ⟨p0, 0, none⟩) (y.labels.length + 1) k0, y.labels.length + 1, (ovl (aL ⟨#[97]⟩) y.labels.length).flatMap lE ++ [.string ⟨#[99]⟩, .int .u8 0, .int .u32 0, .bool false]⟩ ⟨78, 4, .slice (some ⟨p1, 0, none⟩) (y.labels.length + 1) k1, y.labels.length + 1, (ovl (aL ⟨#[98]⟩) y.labels.length).flatMap lE ++ [.string ⟨#[100]⟩, .int .u8 0, .int .u32 0, .bool false]⟩ (rowFx ⟨fA, fc⟩ y.fixes.length (ovl (aF ⟨#[97]⟩) y.fixes.length)) (rowFx ⟨fB, fd⟩ y.fixes.length (ovl (aF ⟨#[98]⟩) y.fixes.length)) (rowEn ⟨eA, ec⟩ y.entries.length (ovl (aE ⟨#[97]⟩) y.entries.length)) (rowEn ⟨eB, ed⟩ y.entries.length (ovl (aE ⟨#[98]⟩) y.entries.length)) z1) o from hK8)
              have HB9 := hide_ (show Below B w w11 from (HB.out.alloc HBW.out _).trans hb7)
              have HBW9 := hide_ (show B ≤ w11.heap.size from Nat.le_trans (by have := HBW.out; first | omega | (rw [World.size_alloc]; omega)) hsz7)
              clear HO HK HB HBW hsp hb7 hsz7 hO7 hK7 hO8 hK8 hv1 f4 f5 f7 g4 g5 g7 hlt0 hlt1
              have HO := HO9
              have HK := HK9
              have HB := HB9
              have HBW := HBW9
              clear HO9 HK9 HB9 HBW9
              obtain ⟨⟨f4, f5, f7, g4, g5, g7⟩, hlt0, hlt1⟩ := apT_box HO.out
              go_wp2_with (at_builtin; refine wpList_append_splitK _ rfl (.tmp 90) (.tmp 92) 32 rfl B _ 2 81 4 (.slice fA y.fixes.length fc) y.fixes.length ((ovl (aF ⟨#[97]⟩) y.fixes.length).flatMap fE) rfl (HO.out.alloc _) (by have := HBW.out; simp; omega) i2 _ 32 (by decide) Tryz.underlying32 hi2 hz21 hz22 hz23 rfl rfl _ _ 1 1 [.int .u8 0, .int .u32 0, .string ⟨#[99]⟩, .int .u32 0] rfl (reads_new w11 81 4 1 [.int .u8 0, .int .u32 0, .string ⟨#[99]⟩, .int .u32 0] rfl) (by simp [Value.oneCell']) (by omega) (by have := HL2.out; simp only [maxLen]; omega) (by have := HL2.out; omega) ?_)
              intro v2 w12 hsp hb7 hsz7
              obtain ⟨ex2, hO7, hK7⟩ := kin_step (k := 2) (olds := OL) rfl hsp (List.prefix_append _ _) HK.out
              have hO8 : Owns w12 B (apT y ⟨sC, sD, ⟨lA, lc⟩, ⟨fA, fc⟩, sT, ⟨eA, ec⟩⟩ ⟨tC, tD, ⟨lB, ld⟩, ⟨fB, fd⟩, tT, ⟨eB, ed⟩⟩ b ⟨78, 4, .slice (some ⟨p0, 0, none⟩) (y.labels.length + 1) k0, y.labels.length + 1, (ovl (aL ⟨#[97]⟩) y.labels.length).flatMap lE ++ [.string ⟨#[99]⟩, .int .u8 0, .int .u32 0, .bool false]⟩ ⟨78, 4, .slice (some ⟨p1, 0, none⟩) (y.labels.length + 1) k1, y.labels.length + 1, (ovl (aL ⟨#[98]⟩) y.labels.length).flatMap lE ++ [.string ⟨#[100]⟩, .int .u8 0, .int .u32 0, .bool false]⟩ ⟨81, 4, v2, y.fixes.length + 1, (ovl (aF ⟨#[97]⟩) y.fixes.length).flatMap fE ++ ([Value.int IntKind.u8 (0), Value.int IntKind.u32 (0), Value.string (ByteArray.mk #[99]), Value.int IntKind.u32 (0)] : List Value)⟩ (rowFx ⟨fB, fd⟩ y.fixes.length (ovl (aF ⟨#[98]⟩) y.fixes.length)) (rowEn ⟨eA, ec⟩ y.entries.length (ovl (aE ⟨#[97]⟩) y.entries.length)) (rowEn ⟨eB, ed⟩ y.entries.length (ovl (aE ⟨#[98]⟩) y.entries.length)) (z1 ++ ex2)) := hO7
              have hK8 : ∀ o ∈ OL, Kin (apT y ⟨sC, sD, ⟨lA, lc⟩, ⟨fA, fc⟩, sT, ⟨eA, ec⟩⟩ ⟨tC, tD, ⟨lB, ld⟩, ⟨fB, fd⟩, tT, ⟨eB, ed⟩⟩ b ⟨78, 4, .slice (some ⟨p0, 0, none⟩) (y.labels.length + 1) k0, y.labels.length + 1, (ovl (aL ⟨#[97]⟩) y.labels.length).flatMap lE ++ [.string ⟨#[99]⟩, .int .u8 0, .int .u32 0, .bool false]⟩ ⟨78, 4, .slice (some ⟨p1, 0, none⟩) (y.labels.length + 1) k1, y.labels.length + 1, (ovl (aL ⟨#[98]⟩) y.labels.length).flatMap lE ++ [.string ⟨#[100]⟩, .int .u8 0, .int .u32 0, .bool false]⟩ ⟨81, 4, v2, y.fixes.length + 1, (ovl (aF ⟨#[97]⟩) y.fixes.length).flatMap fE ++ ([Value.int IntKind.u8 (0), Value.int IntKind.u32 (0), Value.string (ByteArray.mk #[99]), Value.int IntKind.u32 (0)] : List Value)⟩ (rowFx ⟨fB, fd⟩ y.fixes.length (ovl (aF ⟨#[98]⟩) y.fixes.length)) (rowEn ⟨eA, ec⟩ y.entries.length (ovl (aE ⟨#[97]⟩) y.entries.length)) (rowEn ⟨eB, ed⟩ y.entries.length (ovl (aE ⟨#[98]⟩) y.entries.length)) (z1 ++ ex2)) o := hK7
              generalize z1 ++ ex2 = z2 at hO8 hK8
              obtain ⟨p2, k2, hv2⟩ := ownsRow_some (hO8.at_ (i := 2) rfl) (show 0 < y.fixes.length + 1 by omega)
              have hv : v2 = .slice (some ⟨p2, 0, none⟩) (y.fixes.length + 1) k2 := hv2
              subst hv
              have HO9 := hide_ hO8
              have HK9 := hide_ (show ∀ o ∈ OL, Kin (apT y ⟨sC, sD, ⟨lA, lc⟩, ⟨fA, fc⟩, sT, ⟨eA, ec⟩⟩ ⟨tC, tD, ⟨lB, ld⟩, ⟨fB, fd⟩, tT, ⟨eB, ed⟩⟩ b ⟨78, 4, .slice (some ⟨p0, 0, none⟩) (y.labels.length + 1) k0, y.labels.length + 1, (ovl (aL ⟨#[97]⟩) y.labels.length).flatMap lE ++ [.string ⟨#[99]⟩, .int .u8 0, .int .u32 0, .bool false]⟩ ⟨78, 4, .slice (some ⟨p1, 0, none⟩) (y.labels.length + 1) k1, y.labels.length + 1, (ovl (aL ⟨#[98]⟩) y.labels.length).flatMap lE ++ [.string ⟨#[100]⟩, .int .u8 0, .int .u32 0, .bool false]⟩ ⟨81, 4, .slice (some ⟨p2, 0, none⟩) (y.fixes.length + 1) k2, y.fixes.length + 1, (ovl (aF ⟨#[97]⟩) y.fixes.length).flatMap fE ++ [.int .u8 0, .int .u32 0, .string ⟨#[99]⟩, .int .u32 0]⟩ (rowFx ⟨fB, fd⟩ y.fixes.length (ovl (aF ⟨#[98]⟩) y.fixes.length)) (rowEn ⟨eA, ec⟩ y.entries.length (ovl (aE ⟨#[97]⟩) y.entries.length)) (rowEn ⟨eB, ed⟩ y.entries.length (ovl (aE ⟨#[98]⟩) y.entries.length)) z2) o from hK8)
              have HB9 := hide_ (show Below B w w12 from (HB.out.alloc HBW.out _).trans hb7)
              have HBW9 := hide_ (show B ≤ w12.heap.size from Nat.le_trans (by have := HBW.out; first | omega | (rw [World.size_alloc]; omega)) hsz7)
              clear HO HK HB HBW hsp hb7 hsz7 hO7 hK7 hO8 hK8 hv2 f4 f5 f7 g4 g5 g7 hlt0 hlt1
              have HO := HO9
              have HK := HK9
              have HB := HB9
              have HBW := HBW9
              clear HO9 HK9 HB9 HBW9
              obtain ⟨⟨f4, f5, f7, g4, g5, g7⟩, hlt0, hlt1⟩ := apT_box HO.out
              go_wp2_with (at_builtin; refine wpList_append_splitK _ rfl (.tmp 95) (.tmp 97) 32 rfl B _ 3 81 4 (.slice fB y.fixes.length fd) y.fixes.length ((ovl (aF ⟨#[98]⟩) y.fixes.length).flatMap fE) rfl (HO.out.alloc _) (by have := HBW.out; simp; omega) i2 _ 32 (by decide) Tryz.underlying32 hi2 hz21 hz22 hz23 rfl rfl _ _ 1 1 [.int .u8 0, .int .u32 0, .string ⟨#[100]⟩, .int .u32 0] rfl (reads_new w12 81 4 1 [.int .u8 0, .int .u32 0, .string ⟨#[100]⟩, .int .u32 0] rfl) (by simp [Value.oneCell']) (by omega) (by have := HL2.out; simp only [maxLen]; omega) (by have := HL2.out; omega) ?_)
              intro v3 w13 hsp hb7 hsz7
              obtain ⟨ex3, hO7, hK7⟩ := kin_step (k := 3) (olds := OL) rfl hsp (List.prefix_append _ _) HK.out
              have hO8 : Owns w13 B (apT y ⟨sC, sD, ⟨lA, lc⟩, ⟨fA, fc⟩, sT, ⟨eA, ec⟩⟩ ⟨tC, tD, ⟨lB, ld⟩, ⟨fB, fd⟩, tT, ⟨eB, ed⟩⟩ b ⟨78, 4, .slice (some ⟨p0, 0, none⟩) (y.labels.length + 1) k0, y.labels.length + 1, (ovl (aL ⟨#[97]⟩) y.labels.length).flatMap lE ++ [.string ⟨#[99]⟩, .int .u8 0, .int .u32 0, .bool false]⟩ ⟨78, 4, .slice (some ⟨p1, 0, none⟩) (y.labels.length + 1) k1, y.labels.length + 1, (ovl (aL ⟨#[98]⟩) y.labels.length).flatMap lE ++ [.string ⟨#[100]⟩, .int .u8 0, .int .u32 0, .bool false]⟩ ⟨81, 4, .slice (some ⟨p2, 0, none⟩) (y.fixes.length + 1) k2, y.fixes.length + 1, (ovl (aF ⟨#[97]⟩) y.fixes.length).flatMap fE ++ [.int .u8 0, .int .u32 0, .string ⟨#[99]⟩, .int .u32 0]⟩ ⟨81, 4, v3, y.fixes.length + 1, (ovl (aF ⟨#[98]⟩) y.fixes.length).flatMap fE ++ ([Value.int IntKind.u8 (0), Value.int IntKind.u32 (0), Value.string (ByteArray.mk #[100]), Value.int IntKind.u32 (0)] : List Value)⟩ (rowEn ⟨eA, ec⟩ y.entries.length (ovl (aE ⟨#[97]⟩) y.entries.length)) (rowEn ⟨eB, ed⟩ y.entries.length (ovl (aE ⟨#[98]⟩) y.entries.length)) (z2 ++ ex3)) := hO7
              have hK8 : ∀ o ∈ OL, Kin (apT y ⟨sC, sD, ⟨lA, lc⟩, ⟨fA, fc⟩, sT, ⟨eA, ec⟩⟩ ⟨tC, tD, ⟨lB, ld⟩, ⟨fB, fd⟩, tT, ⟨eB, ed⟩⟩ b ⟨78, 4, .slice (some ⟨p0, 0, none⟩) (y.labels.length + 1) k0, y.labels.length + 1, (ovl (aL ⟨#[97]⟩) y.labels.length).flatMap lE ++ [.string ⟨#[99]⟩, .int .u8 0, .int .u32 0, .bool false]⟩ ⟨78, 4, .slice (some ⟨p1, 0, none⟩) (y.labels.length + 1) k1, y.labels.length + 1, (ovl (aL ⟨#[98]⟩) y.labels.length).flatMap lE ++ [.string ⟨#[100]⟩, .int .u8 0, .int .u32 0, .bool false]⟩ ⟨81, 4, .slice (some ⟨p2, 0, none⟩) (y.fixes.length + 1) k2, y.fixes.length + 1, (ovl (aF ⟨#[97]⟩) y.fixes.length).flatMap fE ++ [.int .u8 0, .int .u32 0, .string ⟨#[99]⟩, .int .u32 0]⟩ ⟨81, 4, v3, y.fixes.length + 1, (ovl (aF ⟨#[98]⟩) y.fixes.length).flatMap fE ++ ([Value.int IntKind.u8 (0), Value.int IntKind.u32 (0), Value.string (ByteArray.mk #[100]), Value.int IntKind.u32 (0)] : List Value)⟩ (rowEn ⟨eA, ec⟩ y.entries.length (ovl (aE ⟨#[97]⟩) y.entries.length)) (rowEn ⟨eB, ed⟩ y.entries.length (ovl (aE ⟨#[98]⟩) y.entries.length)) (z2 ++ ex3)) o := hK7
              generalize z2 ++ ex3 = z3 at hO8 hK8
              obtain ⟨p3, k3, hv3⟩ := ownsRow_some (hO8.at_ (i := 3) rfl) (show 0 < y.fixes.length + 1 by omega)
              have hv : v3 = .slice (some ⟨p3, 0, none⟩) (y.fixes.length + 1) k3 := hv3
              subst hv
              have HO9 := hide_ hO8
              have HK9 := hide_ (show ∀ o ∈ OL, Kin (apT y ⟨sC, sD, ⟨lA, lc⟩, ⟨fA, fc⟩, sT, ⟨eA, ec⟩⟩ ⟨tC, tD, ⟨lB, ld⟩, ⟨fB, fd⟩, tT, ⟨eB, ed⟩⟩ b ⟨78, 4, .slice (some ⟨p0, 0, none⟩) (y.labels.length + 1) k0, y.labels.length + 1, (ovl (aL ⟨#[97]⟩) y.labels.length).flatMap lE ++ [.string ⟨#[99]⟩, .int .u8 0, .int .u32 0, .bool false]⟩ ⟨78, 4, .slice (some ⟨p1, 0, none⟩) (y.labels.length + 1) k1, y.labels.length + 1, (ovl (aL ⟨#[98]⟩) y.labels.length).flatMap lE ++ [.string ⟨#[100]⟩, .int .u8 0, .int .u32 0, .bool false]⟩ ⟨81, 4, .slice (some ⟨p2, 0, none⟩) (y.fixes.length + 1) k2, y.fixes.length + 1, (ovl (aF ⟨#[97]⟩) y.fixes.length).flatMap fE ++ [.int .u8 0, .int .u32 0, .string ⟨#[99]⟩, .int .u32 0]⟩ ⟨81, 4, .slice (some ⟨p3, 0, none⟩) (y.fixes.length + 1) k3, y.fixes.length + 1, (ovl (aF ⟨#[98]⟩) y.fixes.length).flatMap fE ++ [.int .u8 0, .int .u32 0, .string ⟨#[100]⟩, .int .u32 0]⟩ (rowEn ⟨eA, ec⟩ y.entries.length (ovl (aE ⟨#[97]⟩) y.entries.length)) (rowEn ⟨eB, ed⟩ y.entries.length (ovl (aE ⟨#[98]⟩) y.entries.length)) z3) o from hK8)
              have HB9 := hide_ (show Below B w w13 from (HB.out.alloc HBW.out _).trans hb7)
              have HBW9 := hide_ (show B ≤ w13.heap.size from Nat.le_trans (by have := HBW.out; first | omega | (rw [World.size_alloc]; omega)) hsz7)
              clear HO HK HB HBW hsp hb7 hsz7 hO7 hK7 hO8 hK8 hv3 f4 f5 f7 g4 g5 g7 hlt0 hlt1
              have HO := HO9
              have HK := HK9
              have HB := HB9
              have HBW := HBW9
              clear HO9 HK9 HB9 HBW9
              obtain ⟨⟨f4, f5, f7, g4, g5, g7⟩, hlt0, hlt1⟩ := apT_box HO.out
              go_wp2_with (at_builtin; refine wpList_append_splitK _ rfl (.tmp 100) (.tmp 102) 34 rfl B _ 4 83 2 (.slice eA y.entries.length ec) y.entries.length ((ovl (aE ⟨#[97]⟩) y.entries.length).flatMap eE) rfl (HO.out.alloc _) (by have := HBW.out; simp; omega) i3 _ 32 (by decide) Tryz.underlying34 hi3 hz31 hz32 hz33 rfl rfl _ _ 1 1 [.string ⟨#[99]⟩, .string ⟨#[]⟩] rfl (reads_new w13 83 2 1 [.string ⟨#[99]⟩, .string ⟨#[]⟩] rfl) (by simp [Value.oneCell']) (by omega) (by have := HL3.out; simp only [maxLen]; omega) (by have := HL3.out; omega) ?_)
              intro v4 w14 hsp hb7 hsz7
              obtain ⟨ex4, hO7, hK7⟩ := kin_step (k := 4) (olds := OL) rfl hsp (List.prefix_append _ _) HK.out
              have hO8 : Owns w14 B (apT y ⟨sC, sD, ⟨lA, lc⟩, ⟨fA, fc⟩, sT, ⟨eA, ec⟩⟩ ⟨tC, tD, ⟨lB, ld⟩, ⟨fB, fd⟩, tT, ⟨eB, ed⟩⟩ b ⟨78, 4, .slice (some ⟨p0, 0, none⟩) (y.labels.length + 1) k0, y.labels.length + 1, (ovl (aL ⟨#[97]⟩) y.labels.length).flatMap lE ++ [.string ⟨#[99]⟩, .int .u8 0, .int .u32 0, .bool false]⟩ ⟨78, 4, .slice (some ⟨p1, 0, none⟩) (y.labels.length + 1) k1, y.labels.length + 1, (ovl (aL ⟨#[98]⟩) y.labels.length).flatMap lE ++ [.string ⟨#[100]⟩, .int .u8 0, .int .u32 0, .bool false]⟩ ⟨81, 4, .slice (some ⟨p2, 0, none⟩) (y.fixes.length + 1) k2, y.fixes.length + 1, (ovl (aF ⟨#[97]⟩) y.fixes.length).flatMap fE ++ [.int .u8 0, .int .u32 0, .string ⟨#[99]⟩, .int .u32 0]⟩ ⟨81, 4, .slice (some ⟨p3, 0, none⟩) (y.fixes.length + 1) k3, y.fixes.length + 1, (ovl (aF ⟨#[98]⟩) y.fixes.length).flatMap fE ++ [.int .u8 0, .int .u32 0, .string ⟨#[100]⟩, .int .u32 0]⟩ ⟨83, 2, v4, y.entries.length + 1, (ovl (aE ⟨#[97]⟩) y.entries.length).flatMap eE ++ ([Value.string (ByteArray.mk #[99]), Value.string (ByteArray.mk #[])] : List Value)⟩ (rowEn ⟨eB, ed⟩ y.entries.length (ovl (aE ⟨#[98]⟩) y.entries.length)) (z3 ++ ex4)) := hO7
              have hK8 : ∀ o ∈ OL, Kin (apT y ⟨sC, sD, ⟨lA, lc⟩, ⟨fA, fc⟩, sT, ⟨eA, ec⟩⟩ ⟨tC, tD, ⟨lB, ld⟩, ⟨fB, fd⟩, tT, ⟨eB, ed⟩⟩ b ⟨78, 4, .slice (some ⟨p0, 0, none⟩) (y.labels.length + 1) k0, y.labels.length + 1, (ovl (aL ⟨#[97]⟩) y.labels.length).flatMap lE ++ [.string ⟨#[99]⟩, .int .u8 0, .int .u32 0, .bool false]⟩ ⟨78, 4, .slice (some ⟨p1, 0, none⟩) (y.labels.length + 1) k1, y.labels.length + 1, (ovl (aL ⟨#[98]⟩) y.labels.length).flatMap lE ++ [.string ⟨#[100]⟩, .int .u8 0, .int .u32 0, .bool false]⟩ ⟨81, 4, .slice (some ⟨p2, 0, none⟩) (y.fixes.length + 1) k2, y.fixes.length + 1, (ovl (aF ⟨#[97]⟩) y.fixes.length).flatMap fE ++ [.int .u8 0, .int .u32 0, .string ⟨#[99]⟩, .int .u32 0]⟩ ⟨81, 4, .slice (some ⟨p3, 0, none⟩) (y.fixes.length + 1) k3, y.fixes.length + 1, (ovl (aF ⟨#[98]⟩) y.fixes.length).flatMap fE ++ [.int .u8 0, .int .u32 0, .string ⟨#[100]⟩, .int .u32 0]⟩ ⟨83, 2, v4, y.entries.length + 1, (ovl (aE ⟨#[97]⟩) y.entries.length).flatMap eE ++ ([Value.string (ByteArray.mk #[99]), Value.string (ByteArray.mk #[])] : List Value)⟩ (rowEn ⟨eB, ed⟩ y.entries.length (ovl (aE ⟨#[98]⟩) y.entries.length)) (z3 ++ ex4)) o := hK7
              generalize z3 ++ ex4 = z4 at hO8 hK8
              obtain ⟨p4, k4, hv4⟩ := ownsRow_some (hO8.at_ (i := 4) rfl) (show 0 < y.entries.length + 1 by omega)
              have hv : v4 = .slice (some ⟨p4, 0, none⟩) (y.entries.length + 1) k4 := hv4
              subst hv
              have HO9 := hide_ hO8
              have HK9 := hide_ (show ∀ o ∈ OL, Kin (apT y ⟨sC, sD, ⟨lA, lc⟩, ⟨fA, fc⟩, sT, ⟨eA, ec⟩⟩ ⟨tC, tD, ⟨lB, ld⟩, ⟨fB, fd⟩, tT, ⟨eB, ed⟩⟩ b ⟨78, 4, .slice (some ⟨p0, 0, none⟩) (y.labels.length + 1) k0, y.labels.length + 1, (ovl (aL ⟨#[97]⟩) y.labels.length).flatMap lE ++ [.string ⟨#[99]⟩, .int .u8 0, .int .u32 0, .bool false]⟩ ⟨78, 4, .slice (some ⟨p1, 0, none⟩) (y.labels.length + 1) k1, y.labels.length + 1, (ovl (aL ⟨#[98]⟩) y.labels.length).flatMap lE ++ [.string ⟨#[100]⟩, .int .u8 0, .int .u32 0, .bool false]⟩ ⟨81, 4, .slice (some ⟨p2, 0, none⟩) (y.fixes.length + 1) k2, y.fixes.length + 1, (ovl (aF ⟨#[97]⟩) y.fixes.length).flatMap fE ++ [.int .u8 0, .int .u32 0, .string ⟨#[99]⟩, .int .u32 0]⟩ ⟨81, 4, .slice (some ⟨p3, 0, none⟩) (y.fixes.length + 1) k3, y.fixes.length + 1, (ovl (aF ⟨#[98]⟩) y.fixes.length).flatMap fE ++ [.int .u8 0, .int .u32 0, .string ⟨#[100]⟩, .int .u32 0]⟩ ⟨83, 2, .slice (some ⟨p4, 0, none⟩) (y.entries.length + 1) k4, y.entries.length + 1, (ovl (aE ⟨#[97]⟩) y.entries.length).flatMap eE ++ [.string ⟨#[99]⟩, .string ⟨#[]⟩]⟩ (rowEn ⟨eB, ed⟩ y.entries.length (ovl (aE ⟨#[98]⟩) y.entries.length)) z4) o from hK8)
              have HB9 := hide_ (show Below B w w14 from (HB.out.alloc HBW.out _).trans hb7)
              have HBW9 := hide_ (show B ≤ w14.heap.size from Nat.le_trans (by have := HBW.out; first | omega | (rw [World.size_alloc]; omega)) hsz7)
              clear HO HK HB HBW hsp hb7 hsz7 hO7 hK7 hO8 hK8 hv4 f4 f5 f7 g4 g5 g7 hlt0 hlt1
              have HO := HO9
              have HK := HK9
              have HB := HB9
              have HBW := HBW9
              clear HO9 HK9 HB9 HBW9
              obtain ⟨⟨f4, f5, f7, g4, g5, g7⟩, hlt0, hlt1⟩ := apT_box HO.out
              go_wp2_with (at_builtin; refine wpList_append_splitK _ rfl (.tmp 105) (.tmp 107) 34 rfl B _ 5 83 2 (.slice eB y.entries.length ed) y.entries.length ((ovl (aE ⟨#[98]⟩) y.entries.length).flatMap eE) rfl (HO.out.alloc _) (by have := HBW.out; simp; omega) i3 _ 32 (by decide) Tryz.underlying34 hi3 hz31 hz32 hz33 rfl rfl _ _ 1 1 [.string ⟨#[100]⟩, .string ⟨#[]⟩] rfl (reads_new w14 83 2 1 [.string ⟨#[100]⟩, .string ⟨#[]⟩] rfl) (by simp [Value.oneCell']) (by omega) (by have := HL3.out; simp only [maxLen]; omega) (by have := HL3.out; omega) ?_)
              intro v5 w15 hsp hb7 hsz7
              obtain ⟨ex5, hO7, hK7⟩ := kin_step (k := 5) (olds := OL) rfl hsp (List.prefix_append _ _) HK.out
              have hO8 : Owns w15 B (apT y ⟨sC, sD, ⟨lA, lc⟩, ⟨fA, fc⟩, sT, ⟨eA, ec⟩⟩ ⟨tC, tD, ⟨lB, ld⟩, ⟨fB, fd⟩, tT, ⟨eB, ed⟩⟩ b ⟨78, 4, .slice (some ⟨p0, 0, none⟩) (y.labels.length + 1) k0, y.labels.length + 1, (ovl (aL ⟨#[97]⟩) y.labels.length).flatMap lE ++ [.string ⟨#[99]⟩, .int .u8 0, .int .u32 0, .bool false]⟩ ⟨78, 4, .slice (some ⟨p1, 0, none⟩) (y.labels.length + 1) k1, y.labels.length + 1, (ovl (aL ⟨#[98]⟩) y.labels.length).flatMap lE ++ [.string ⟨#[100]⟩, .int .u8 0, .int .u32 0, .bool false]⟩ ⟨81, 4, .slice (some ⟨p2, 0, none⟩) (y.fixes.length + 1) k2, y.fixes.length + 1, (ovl (aF ⟨#[97]⟩) y.fixes.length).flatMap fE ++ [.int .u8 0, .int .u32 0, .string ⟨#[99]⟩, .int .u32 0]⟩ ⟨81, 4, .slice (some ⟨p3, 0, none⟩) (y.fixes.length + 1) k3, y.fixes.length + 1, (ovl (aF ⟨#[98]⟩) y.fixes.length).flatMap fE ++ [.int .u8 0, .int .u32 0, .string ⟨#[100]⟩, .int .u32 0]⟩ ⟨83, 2, .slice (some ⟨p4, 0, none⟩) (y.entries.length + 1) k4, y.entries.length + 1, (ovl (aE ⟨#[97]⟩) y.entries.length).flatMap eE ++ [.string ⟨#[99]⟩, .string ⟨#[]⟩]⟩ ⟨83, 2, v5, y.entries.length + 1, (ovl (aE ⟨#[98]⟩) y.entries.length).flatMap eE ++ ([Value.string (ByteArray.mk #[100]), Value.string (ByteArray.mk #[])] : List Value)⟩ (z4 ++ ex5)) := hO7
              have hK8 : ∀ o ∈ OL, Kin (apT y ⟨sC, sD, ⟨lA, lc⟩, ⟨fA, fc⟩, sT, ⟨eA, ec⟩⟩ ⟨tC, tD, ⟨lB, ld⟩, ⟨fB, fd⟩, tT, ⟨eB, ed⟩⟩ b ⟨78, 4, .slice (some ⟨p0, 0, none⟩) (y.labels.length + 1) k0, y.labels.length + 1, (ovl (aL ⟨#[97]⟩) y.labels.length).flatMap lE ++ [.string ⟨#[99]⟩, .int .u8 0, .int .u32 0, .bool false]⟩ ⟨78, 4, .slice (some ⟨p1, 0, none⟩) (y.labels.length + 1) k1, y.labels.length + 1, (ovl (aL ⟨#[98]⟩) y.labels.length).flatMap lE ++ [.string ⟨#[100]⟩, .int .u8 0, .int .u32 0, .bool false]⟩ ⟨81, 4, .slice (some ⟨p2, 0, none⟩) (y.fixes.length + 1) k2, y.fixes.length + 1, (ovl (aF ⟨#[97]⟩) y.fixes.length).flatMap fE ++ [.int .u8 0, .int .u32 0, .string ⟨#[99]⟩, .int .u32 0]⟩ ⟨81, 4, .slice (some ⟨p3, 0, none⟩) (y.fixes.length + 1) k3, y.fixes.length + 1, (ovl (aF ⟨#[98]⟩) y.fixes.length).flatMap fE ++ [.int .u8 0, .int .u32 0, .string ⟨#[100]⟩, .int .u32 0]⟩ ⟨83, 2, .slice (some ⟨p4, 0, none⟩) (y.entries.length + 1) k4, y.entries.length + 1, (ovl (aE ⟨#[97]⟩) y.entries.length).flatMap eE ++ [.string ⟨#[99]⟩, .string ⟨#[]⟩]⟩ ⟨83, 2, v5, y.entries.length + 1, (ovl (aE ⟨#[98]⟩) y.entries.length).flatMap eE ++ ([Value.string (ByteArray.mk #[100]), Value.string (ByteArray.mk #[])] : List Value)⟩ (z4 ++ ex5)) o := hK7
              generalize z4 ++ ex5 = z5 at hO8 hK8
              obtain ⟨p5, k5, hv5⟩ := ownsRow_some (hO8.at_ (i := 5) rfl) (show 0 < y.entries.length + 1 by omega)
              have hv : v5 = .slice (some ⟨p5, 0, none⟩) (y.entries.length + 1) k5 := hv5
              subst hv
              have HO9 := hide_ hO8
              have HK9 := hide_ (show ∀ o ∈ OL, Kin (apT y ⟨sC, sD, ⟨lA, lc⟩, ⟨fA, fc⟩, sT, ⟨eA, ec⟩⟩ ⟨tC, tD, ⟨lB, ld⟩, ⟨fB, fd⟩, tT, ⟨eB, ed⟩⟩ b ⟨78, 4, .slice (some ⟨p0, 0, none⟩) (y.labels.length + 1) k0, y.labels.length + 1, (ovl (aL ⟨#[97]⟩) y.labels.length).flatMap lE ++ [.string ⟨#[99]⟩, .int .u8 0, .int .u32 0, .bool false]⟩ ⟨78, 4, .slice (some ⟨p1, 0, none⟩) (y.labels.length + 1) k1, y.labels.length + 1, (ovl (aL ⟨#[98]⟩) y.labels.length).flatMap lE ++ [.string ⟨#[100]⟩, .int .u8 0, .int .u32 0, .bool false]⟩ ⟨81, 4, .slice (some ⟨p2, 0, none⟩) (y.fixes.length + 1) k2, y.fixes.length + 1, (ovl (aF ⟨#[97]⟩) y.fixes.length).flatMap fE ++ [.int .u8 0, .int .u32 0, .string ⟨#[99]⟩, .int .u32 0]⟩ ⟨81, 4, .slice (some ⟨p3, 0, none⟩) (y.fixes.length + 1) k3, y.fixes.length + 1, (ovl (aF ⟨#[98]⟩) y.fixes.length).flatMap fE ++ [.int .u8 0, .int .u32 0, .string ⟨#[100]⟩, .int .u32 0]⟩ ⟨83, 2, .slice (some ⟨p4, 0, none⟩) (y.entries.length + 1) k4, y.entries.length + 1, (ovl (aE ⟨#[97]⟩) y.entries.length).flatMap eE ++ [.string ⟨#[99]⟩, .string ⟨#[]⟩]⟩ ⟨83, 2, .slice (some ⟨p5, 0, none⟩) (y.entries.length + 1) k5, y.entries.length + 1, (ovl (aE ⟨#[98]⟩) y.entries.length).flatMap eE ++ [.string ⟨#[100]⟩, .string ⟨#[]⟩]⟩ z5) o from hK8)
              have HB9 := hide_ (show Below B w w15 from (HB.out.alloc HBW.out _).trans hb7)
              have HBW9 := hide_ (show B ≤ w15.heap.size from Nat.le_trans (by have := HBW.out; first | omega | (rw [World.size_alloc]; omega)) hsz7)
              clear HO HK HB HBW hsp hb7 hsz7 hO7 hK7 hO8 hK8 hv5 f4 f5 f7 g4 g5 g7 hlt0 hlt1
              have HO := HO9
              have HK := HK9
              have HB := HB9
              have HBW := HBW9
              clear HO9 HK9 HB9 HBW9
              obtain ⟨⟨f4, f5, f7, g4, g5, g7⟩, hlt0, hlt1⟩ := apT_box HO.out
              have c0 : w15.cell? ⟨p0, y.labels.length * 4, none⟩ = some (.string ⟨#[99]⟩) := HO.out.cell (i := 0) rfl (last_cell (p := 0) lE_len _ _ rfl)
              have b0 : p0 < w15.heap.size := (HO.out.base (i := 0) rfl).2
              have c1 : w15.cell? ⟨p1, y.labels.length * 4, none⟩ = some (.string ⟨#[100]⟩) := HO.out.cell (i := 1) rfl (last_cell (p := 0) lE_len _ _ rfl)
              have b1 : p1 < w15.heap.size := (HO.out.base (i := 1) rfl).2
              have c2 : w15.cell? ⟨p2, y.fixes.length * 4 + 2, none⟩ = some (.string ⟨#[99]⟩) := HO.out.cell (i := 2) rfl (last_cell (p := 2) fE_len _ _ rfl)
              have b2 : p2 < w15.heap.size := (HO.out.base (i := 2) rfl).2
              have c3 : w15.cell? ⟨p3, y.fixes.length * 4 + 2, none⟩ = some (.string ⟨#[100]⟩) := HO.out.cell (i := 3) rfl (last_cell (p := 2) fE_len _ _ rfl)
              have b3 : p3 < w15.heap.size := (HO.out.base (i := 3) rfl).2
              have c4 : w15.cell? ⟨p4, y.entries.length * 2, none⟩ = some (.string ⟨#[99]⟩) := HO.out.cell (i := 4) rfl (last_cell (p := 0) eE_len _ _ rfl)
              have b4 : p4 < w15.heap.size := (HO.out.base (i := 4) rfl).2
              have c5 : w15.cell? ⟨p5, y.entries.length * 2, none⟩ = some (.string ⟨#[100]⟩) := HO.out.cell (i := 5) rfl (last_cell (p := 0) eE_len _ _ rfl)
              have b5 : p5 < w15.heap.size := (HO.out.base (i := 5) rfl).2
              have nL : (y.labels.length : Int) < (y.labels.length : Int) + 1 := by omega
              have nF : (y.fixes.length : Int) < (y.fixes.length : Int) + 1 := by omega
              have nE : (y.entries.length : Int) < (y.entries.length : Int) + 1 := by omega
              go_wp2_with fail
              clear c0 b0 c1 b1 c2 b2 c3 b3 c4 b4 c5 b5
              clear nL nF nE
              have HF := hide_ (And.intro f4 (And.intro f5 (And.intro f7 (And.intro g4 (And.intro g5 (And.intro g7 (And.intro hlt0 hlt1)))))))
              clear f4 f5 f7 g4 g5 g7 hlt0 hlt1
              go_loopw [17] (fun i wr => ∃ j : Nat, j ≤ y.labels.length ∧ i = .int .i64 j ∧ w15 = wr) (fun i _ => y.labels.length - (intOf i).toNat)
              case atStart => exact ⟨0, Nat.zero_le _, rfl, rfl⟩
              case round =>
                obtain ⟨j, hj, rfl, rfl⟩ := hrel
                obtain ⟨f4, f5, f7, g4, g5, g7, hlt0, hlt1⟩ := HF.out
                by_cases hlt : j < y.labels.length
                · obtain ⟨g, hg⟩ := SO0.out (by show 0 < y.labels.length; omega)
                  obtain ⟨g', hg'⟩ := SO1.out (by show 0 < y.labels.length; omega)
                  subst hg
                  subst hg'
                  have wr1 : IntKind.u32.wrap (j : Int) = (j : Int) := IntWalk.u32_in _ (by have := HL1.out; omega)
                  have K0 := HK.out _ (by rw [HOL.out]; exact List.mem_iff_getElem?.2 ⟨0, rfl⟩)
                  have K1 := HK.out _ (by rw [HOL.out]; exact List.mem_iff_getElem?.2 ⟨1, rfl⟩)
                  have x0 : w15.cell? ⟨g, j * 4, none⟩ = some (.string ⟨#[97]⟩) := K0.cell HO.out (ovl_get (p := 0) lE_len _ hlt rfl)
                  have x1 : w15.cell? ⟨g, j * 4 + 1, none⟩ = some (.int .u8 0) := K0.cell HO.out (ovl_get (p := 1) lE_len _ hlt rfl)
                  have x2 : w15.cell? ⟨g, j * 4 + 2, none⟩ = some (.int .u32 (j : Int)) := K0.cell HO.out (ovl_get (p := 2) lE_len _ hlt rfl)
                  have x3 : w15.cell? ⟨g, j * 4 + 3, none⟩ = some (.bool false) := K0.cell HO.out (ovl_get (p := 3) lE_len _ hlt rfl)
                  have z0 : w15.cell? ⟨g', j * 4, none⟩ = some (.string ⟨#[98]⟩) := K1.cell HO.out (ovl_get (p := 0) lE_len _ hlt rfl)
                  have bg : g < w15.heap.size := K0.lt (j := 0) HO.out
                  have bg' : g' < w15.heap.size := K1.lt (j := 0) HO.out
                  have hq := fun w => lab_eq w ⟨#[97]⟩ 0 (j : Int) false
                  clear K0 K1
                  have hbd := HL1.out
                  go_wp2
                  go_roundw
                  case rel => exact ⟨j + 1, by omega, by go_num, by first | trivial | rfl⟩
                  case measure => simp [intOf]; omega
                · have hjn : j = y.labels.length := by omega
                  subst hjn
                  go_wp2_with fail
                  clear f4 f5 f7 g4 g5 g7 hlt0 hlt1
                  go_loopw [18] (fun i wr => ∃ j : Nat, j ≤ y.fixes.length ∧ i = .int .i64 j ∧ w15 = wr) (fun i _ => y.fixes.length - (intOf i).toNat)
                  case atStart => exact ⟨0, Nat.zero_le _, rfl, rfl⟩
                  case round =>
                    obtain ⟨j, hj, rfl, rfl⟩ := hrel
                    obtain ⟨f4, f5, f7, g4, g5, g7, hlt0, hlt1⟩ := HF.out
                    by_cases hlt : j < y.fixes.length
                    · obtain ⟨g, hg⟩ := SO2.out (by show 0 < y.fixes.length; omega)
                      obtain ⟨g', hg'⟩ := SO3.out (by show 0 < y.fixes.length; omega)
                      subst hg
                      subst hg'
                      have wr1 : IntKind.u32.wrap (j : Int) = (j : Int) := IntWalk.u32_in _ (by have := HL2.out; omega)
                      have K0 := HK.out _ (by rw [HOL.out]; exact List.mem_iff_getElem?.2 ⟨2, rfl⟩)
                      have K1 := HK.out _ (by rw [HOL.out]; exact List.mem_iff_getElem?.2 ⟨3, rfl⟩)
                      have x0 : w15.cell? ⟨g, j * 4, none⟩ = some (.int .u8 0) := K0.cell HO.out (ovl_get (p := 0) fE_len _ hlt rfl)
                      have x1 : w15.cell? ⟨g, j * 4 + 1, none⟩ = some (.int .u32 (j : Int)) := K0.cell HO.out (ovl_get (p := 1) fE_len _ hlt rfl)
                      have x2 : w15.cell? ⟨g, j * 4 + 2, none⟩ = some (.string ⟨#[97]⟩) := K0.cell HO.out (ovl_get (p := 2) fE_len _ hlt rfl)
                      have x3 : w15.cell? ⟨g, j * 4 + 3, none⟩ = some (.int .u32 0) := K0.cell HO.out (ovl_get (p := 3) fE_len _ hlt rfl)
                      have z0 : w15.cell? ⟨g', j * 4 + 2, none⟩ = some (.string ⟨#[98]⟩) := K1.cell HO.out (ovl_get (p := 2) fE_len _ hlt rfl)
                      have bg : g < w15.heap.size := K0.lt (j := 0) HO.out
                      have bg' : g' < w15.heap.size := K1.lt (j := 0) HO.out
                      have hq := fun w => fix_eq w ⟨#[97]⟩ 0 (j : Int) 0
                      clear K0 K1
                      have hbd := HL2.out
                      go_wp2
                      go_roundw
                      case rel => exact ⟨j + 1, by omega, by go_num, by first | trivial | rfl⟩
                      case measure => simp [intOf]; omega
                    · have hjn : j = y.fixes.length := by omega
                      subst hjn
                      go_wp2_with fail
                      clear f4 f5 f7 g4 g5 g7 hlt0 hlt1
                      go_loopw [19] (fun i wr => ∃ j : Nat, j ≤ y.entries.length ∧ i = .int .i64 j ∧ w15 = wr) (fun i _ => y.entries.length - (intOf i).toNat)
                      case atStart => exact ⟨0, Nat.zero_le _, rfl, rfl⟩
                      case round =>
                        obtain ⟨j, hj, rfl, rfl⟩ := hrel
                        obtain ⟨f4, f5, f7, g4, g5, g7, hlt0, hlt1⟩ := HF.out
                        by_cases hlt : j < y.entries.length
                        · obtain ⟨g, hg⟩ := SO4.out (by show 0 < y.entries.length; omega)
                          obtain ⟨g', hg'⟩ := SO5.out (by show 0 < y.entries.length; omega)
                          subst hg
                          subst hg'
                          have wr1 : IntKind.u32.wrap (j : Int) = (j : Int) := IntWalk.u32_in _ (by have := HL3.out; omega)
                          have K0 := HK.out _ (by rw [HOL.out]; exact List.mem_iff_getElem?.2 ⟨4, rfl⟩)
                          have K1 := HK.out _ (by rw [HOL.out]; exact List.mem_iff_getElem?.2 ⟨5, rfl⟩)
                          have x0 : w15.cell? ⟨g, j * 2, none⟩ = some (.string ⟨#[97]⟩) := K0.cell HO.out (ovl_get (p := 0) eE_len _ hlt rfl)
                          have x1 : w15.cell? ⟨g, j * 2 + 1, none⟩ = some (.string ⟨#[]⟩) := K0.cell HO.out (ovl_get (p := 1) eE_len _ hlt rfl)
                          have z0 : w15.cell? ⟨g', j * 2, none⟩ = some (.string ⟨#[98]⟩) := K1.cell HO.out (ovl_get (p := 0) eE_len _ hlt rfl)
                          have bg : g < w15.heap.size := K0.lt (j := 0) HO.out
                          have bg' : g' < w15.heap.size := K1.lt (j := 0) HO.out
                          clear K0 K1
                          have hbd := HL3.out
                          go_wp2
                          go_roundw
                          case rel => exact ⟨j + 1, by omega, by go_num, by first | trivial | rfl⟩
                          case measure => simp [intOf]; omega
                        · have hjn : j = y.entries.length := by omega
                          subst hjn
                          go_wp2
                          go_ret
                          exact ⟨rfl, HB.out⟩
end Go.Proofs.YtikbegmodacopaaGreatDoor
