/-
  Copied: an image in memory of its own.
-/
import Derived.Test.YtikbegmodacopaaGreatDoorCopP
namespace Go.Proofs.YtikbegmodacopaaGreatDoor
open Go.RowKit Go.PlainAid Go.BigFrame
set_option linter.unusedSimpArgs false
set_option linter.unusedVariables false
set_option maxRecDepth 100000
theorem takeA_at {α : Type} {l : List α} {k : Nat} {t : α} (h : l[k]? = some t) : l.take (k + 1) = l.take k ++ [t] := by
  rw [List.take_add_one, h]; simp
set_option maxHeartbeats 16000000 in
theorem Copied_any (x : ImgV) (s : ImgS) (w : World) (hx : ImgOk x) (hl : x.code.length * 8 ≤ 140737488351232 ∧ x.jumps.length * 4 ≤ 140737488351232 ∧ x.data.length * 1 ≤ 140737488351232 ∧ x.names.length * 24 ≤ 140737488351232) (hr : ImgR w w.heap.size x s) :
    Calls Tryz.prog 24 #[.agg (imgV x s)] w (fun e w' => ∃ s', e = .returned (.agg (imgV x s')) ∧ Owns w' w.heap.size (ownI x s') ∧ Below w.heap.size w w') := by
  have HX := hide_ hx
  have HR := hide_ hr
  have HL := hide_ hl
  obtain ⟨W1, hW1⟩ : ∃ W, W = (w.alloc (.cells (imgV x s) 28)).alloc (.cells z6 28) := ⟨_, rfl⟩
  have HS1 := hide_ (show W1.heap.size = w.heap.size + 2 by rw [hW1]; simp)
  have HB1 := hide_ (show Below w.heap.size w W1 by rw [hW1]; exact ((Below.refl _ _).alloc (Nat.le_refl _) _).alloc (by simp) _)
  have HK0 := hide_ (show Blk W1 w.heap.size 28 (imgV x s) by rw [hW1]; exact (Blk.new w _ _).alloc _)
  have HK1 := hide_ (show Blk W1 (w.heap.size + 1) 28 z6 by
    have h := Blk.new (w.alloc (.cells (imgV x s) 28)) 28 z6
    rw [World.size_alloc] at h
    rw [hW1]; exact h)
  have HAT := hide_ (fun W (hb : Below W1.heap.size W1 W) => img_cells (HK0.out.below hb (by have := HS1.out; omega)))
  have HRES := hide_ (fun W (hb : Below W1.heap.size W1 W) => HK1.out.below hb (by have := HS1.out; omega))
  have FIN := hide_ (fun W (hb : Below W1.heap.size W1 W) => show Below w.heap.size w W from HB1.out.trans (hb.mono (by have := HS1.out; omega)))
  have HRR := hide_ (fun W (hb : Below W1.heap.size W1 W) => show ImgR W W.heap.size x s from (HR.out.below (FIN.out W hb)).more (by have := hb.size; have := HS1.out; omega))
  obtain ⟨l1, l2, l3, l4⟩ := hl
  clear HR hr hx HK0 HK1 HB1
  unfold imgV at hW1 ⊢
  obtain ⟨⟨cA, cc⟩, ⟨jA, jc⟩, ⟨dA, dc⟩, ⟨nA, nc⟩⟩ := s
  dsimp only at hW1 HAT HRR ⊢
  unfold z6 at hW1
  have HBW := hide_ (Below.refl W1.heap.size W1)
  have HOB := hide_ (show Owns (W1.alloc (.cells #[.slice none 0 0, .slice none 0 0, .slice none 0 0, .int .u32 0, .int .u32 0, .slice none 0 0] 28)) W1.heap.size [⟨28, 1, .slice (some ⟨W1.heap.size, 0, none⟩) 6 6, 6, z6.toList⟩] from
    (show Owns W1 W1.heap.size [] from ⟨fun r h => (by cases h), List.Pairwise.nil⟩).box 28 #[.slice none 0 0, .slice none 0 0, .slice none 0 0, .int .u32 0, .int .u32 0, .slice none 0 0] (Nat.le_refl _) (by simp [maxLen]))
  have HBA := hide_ (HBW.out.alloc (Nat.le_refl _) (.cells #[.slice none 0 0, .slice none 0 0, .slice none 0 0, .int .u32 0, .int .u32 0, .slice none 0 0] 28))
  obtain ⟨g, hg⟩ : ∃ g, g = W1.heap.size := ⟨_, rfl⟩
  obtain ⟨w4, hw4⟩ : ∃ W, W = W1.alloc (.cells #[.slice none 0 0, .slice none 0 0, .slice none 0 0, .int .u32 0, .int .u32 0, .slice none 0 0] 28) := ⟨_, rfl⟩
  have hgs := HS1.out
  go_enter Tryz.func24, Tryz.ntmps24
  go_upto_region 2 with (fail)
  rw [← hW1]
  rw [← hw4] at HBA HOB
  rw [← hw4]
  have HO := hide_ (show Owns w4 W1.heap.size (iRows g ⟨x.code.take 0, [], [], 0, 0, []⟩ ⟨⟨none, 0⟩, ⟨none, 0⟩, ⟨none, 0⟩, ⟨none, 0⟩⟩ []) by
    have h := start0I HOB.out HBA.out.size
    rw [hg]
    exact h)
  rw [show w.heap.size + 1 + 1 = g from by omega]
  have HB := HBA
  clear hW1 hw4 hg HBA HOB HBW
  obtain ⟨wr, hwr⟩ : ∃ wr, wr = w4 := ⟨_, rfl⟩
  subst hwr
  obtain ⟨f0, f1, f2, f3, f4, f5⟩ := HAT.out wr HB.out
  have hbz : w.heap.size < wr.heap.size := by have := HB.out.size; have := HS1.out; omega
  clear hgs
  go_wp2_with fail
  go_loopw [4] (fun i wr => ∃ (k : Nat) (sc : SL), k ≤ x.code.length ∧ i = .int .i64 k ∧ Hid (Owns wr W1.heap.size (iRows g ⟨x.code.take k, [], [], 0, 0, []⟩ ⟨sc, ⟨none, 0⟩, ⟨none, 0⟩, ⟨none, 0⟩⟩ [])) ∧ Hid (Below W1.heap.size W1 wr)) (fun i _ => x.code.length - (intOf i).toNat)
  case atStart => exact ⟨0, ⟨none, 0⟩, Nat.zero_le _, rfl, HO, HB⟩
  case round =>
    clear HO HB f0 f1 f2 f3 f4 f5 hbz
    obtain ⟨k, sc, hk, rfl, HO, HB⟩ := hrel
    obtain ⟨f0, f1, f2, f3, f4, f5⟩ := HAT.out wr HB.out
    have hbz : w.heap.size < wr.heap.size := by have := HB.out.size; have := HS1.out; omega
    by_cases hlt : k < x.code.length
    · obtain ⟨p, hp⟩ : ∃ p, x.code[k]? = some p := ⟨_, List.getElem?_eq_getElem hlt⟩
      obtain ⟨⟨b0, _, _, _, _, _⟩, hg0, hg1⟩ := iR_box HO.out
      dsimp only at b0
      have hLL : (x.code.take k).length = k := by rw [List.length_take]; omega
      have HLL := hide_ (show (x.code.take k).length * 8 ≤ 140737488351232 by omega)
      rw [hLL] at b0
      have HL2 := hide_ hLL
      clear hLL
      obtain ⟨_, ad, rfl, hbk, p0, p1⟩ := el_cells cE_len (HRR.out wr HB.out).rc (by omega) hp
      have q0 := p0 _ rfl
      have q1 := p1 1 _ (by omega) rfl
      have NEXT := hide_ (takeA_at hp)
      obtain ⟨op, arg⟩ := p
      dsimp only at q0 q1 NEXT
      clear p0 p1 hp
      go_upto_region 5 with (fail)
      go_region_law (refine ist_cod (by rfl) _ _ (by rfl) HO.out.drew HB.out.drew.size (by rw [HL2.out]; rfl) (op, arg) (by rfl) HLL.out ?_; intro A9 c9 w10 hO10 h10 f10 z10 hb10; dsimp only at hO10 h10 hb10; rw [HL2.out] at hO10 h10 hb10)
      all_goals
        go_wp2
        go_roundw
        case rel => exact ⟨k + 1, ⟨A9, c9⟩, by omega, by go_num, hide_ (by rw [NEXT.out]; exact hO10), hide_ (HB.out.drew.trans hb10)⟩
        case measure => simp [intOf] <;> omega
    · obtain rfl : k = x.code.length := by omega
      have HO2 := hide_ (show Owns wr W1.heap.size (iRows g ⟨x.code, x.jumps.take 0, [], 0, 0, []⟩ ⟨sc, ⟨none, 0⟩, ⟨none, 0⟩, ⟨none, 0⟩⟩ []) by
        have h9 := HO.out
        rw [List.take_length] at h9
        exact h9)
      clear HO
      have HO := HO2
      clear HO2
      go_wp2_with fail
      obtain ⟨wo2, rfl⟩ : ∃ wo : World, wo = wr := ⟨_, rfl⟩
      go_loopw [5] (fun i wr => ∃ (k : Nat) (sj : SL), k ≤ x.jumps.length ∧ i = .int .i64 k ∧ Hid (Owns wr W1.heap.size (iRows g ⟨x.code, x.jumps.take k, [], 0, 0, []⟩ ⟨sc, sj, ⟨none, 0⟩, ⟨none, 0⟩⟩ [])) ∧ Hid (Below W1.heap.size W1 wr)) (fun i _ => x.jumps.length - (intOf i).toNat)
      case atStart => exact ⟨0, ⟨none, 0⟩, Nat.zero_le _, rfl, HO, HB⟩
      case round =>
        clear HO HB f0 f1 f2 f3 f4 f5 hbz
        obtain ⟨k, sj, hk, rfl, HO, HB⟩ := hrel
        obtain ⟨f0, f1, f2, f3, f4, f5⟩ := HAT.out wr HB.out
        have hbz : w.heap.size < wr.heap.size := by have := HB.out.size; have := HS1.out; omega
        by_cases hlt : k < x.jumps.length
        · obtain ⟨p, hp⟩ : ∃ p, x.jumps[k]? = some p := ⟨_, List.getElem?_eq_getElem hlt⟩
          obtain ⟨⟨_, b1, _, _, _, _⟩, hg0, hg1⟩ := iR_box HO.out
          dsimp only at b1
          have hLL : (x.jumps.take k).length = k := by rw [List.length_take]; omega
          have HLL := hide_ (show (x.jumps.take k).length * 4 ≤ 140737488351232 by omega)
          rw [hLL] at b1
          have HL2 := hide_ hLL
          clear hLL
          obtain ⟨ad, rfl, hbk, hcell⟩ := (HRR.out wr HB.out).rj.2 (by omega)
          have q0 := hcell k _ (show (u32s x.jumps)[k]? = some (.int .u32 p) by unfold u32s; rw [List.getElem?_map, hp]; rfl)
          have NEXT := hide_ (takeA_at hp)
          clear hcell hp
          go_upto_region 9 with (fail)
          go_region_law (refine ist_jmp (by rfl) _ _ (by rfl) HO.out.drew HB.out.drew.size (by rw [HL2.out]; rfl) p (by rfl) HLL.out ?_; intro A9 c9 w10 hO10 h10 f10 z10 hb10; dsimp only at hO10 h10 hb10; rw [HL2.out] at hO10 h10 hb10)
          all_goals
            go_wp2
            go_roundw
            case rel => exact ⟨k + 1, ⟨A9, c9⟩, by omega, by go_num, hide_ (by rw [NEXT.out]; exact hO10), hide_ (HB.out.drew.trans hb10)⟩
            case measure => simp [intOf] <;> omega
        · obtain rfl : k = x.jumps.length := by omega
          have HO2 := hide_ (show Owns wr W1.heap.size (iRows g ⟨x.code, x.jumps, x.data.take 0, 0, 0, []⟩ ⟨sc, sj, ⟨none, 0⟩, ⟨none, 0⟩⟩ []) by
            have h9 := HO.out
            rw [List.take_length] at h9
            exact h9)
          clear HO
          have HO := HO2
          clear HO2
          go_wp2_with fail
          obtain ⟨wo3, rfl⟩ : ∃ wo : World, wo = wr := ⟨_, rfl⟩
          go_loopw [6] (fun i wr => ∃ (k : Nat) (sd : SL), k ≤ x.data.length ∧ i = .int .i64 k ∧ Hid (Owns wr W1.heap.size (iRows g ⟨x.code, x.jumps, x.data.take k, 0, 0, []⟩ ⟨sc, sj, sd, ⟨none, 0⟩⟩ [])) ∧ Hid (Below W1.heap.size W1 wr)) (fun i _ => x.data.length - (intOf i).toNat)
          case atStart => exact ⟨0, ⟨none, 0⟩, Nat.zero_le _, rfl, HO, HB⟩
          case round =>
            clear HO HB f0 f1 f2 f3 f4 f5 hbz
            obtain ⟨k, sd, hk, rfl, HO, HB⟩ := hrel
            obtain ⟨f0, f1, f2, f3, f4, f5⟩ := HAT.out wr HB.out
            have hbz : w.heap.size < wr.heap.size := by have := HB.out.size; have := HS1.out; omega
            by_cases hlt : k < x.data.length
            · obtain ⟨p, hp⟩ : ∃ p, x.data[k]? = some p := ⟨_, List.getElem?_eq_getElem hlt⟩
              obtain ⟨⟨_, _, b2, _, _, _⟩, hg0, hg1⟩ := iR_box HO.out
              dsimp only at b2
              have hLL : (x.data.take k).length = k := by rw [List.length_take]; omega
              have HLL := hide_ (show (x.data.take k).length * 1 ≤ 140737488351232 by omega)
              rw [hLL] at b2
              have HL2 := hide_ hLL
              clear hLL
              obtain ⟨ad, rfl, hbk, hcell⟩ := (HRR.out wr HB.out).rd.2 (by omega)
              have q0 := hcell k _ (show (u8s x.data)[k]? = some (.int .u8 p) by unfold u8s; rw [List.getElem?_map, hp]; rfl)
              have NEXT := hide_ (takeA_at hp)
              clear hcell hp
              go_upto_region 13 with (fail)
              go_region_law (refine ist_dat (by rfl) _ _ (by rfl) HO.out.drew HB.out.drew.size (by rw [HL2.out]; rfl) p (by rfl) HLL.out ?_; intro A9 c9 w10 hO10 h10 f10 z10 hb10; dsimp only at hO10 h10 hb10; rw [HL2.out] at hO10 h10 hb10)
              all_goals
                go_wp2
                go_roundw
                case rel => exact ⟨k + 1, ⟨A9, c9⟩, by omega, by go_num, hide_ (by rw [NEXT.out]; exact hO10), hide_ (HB.out.drew.trans hb10)⟩
                case measure => simp [intOf] <;> omega
            · obtain rfl : k = x.data.length := by omega
              have HO2 := hide_ (show Owns wr W1.heap.size (iRows g ⟨x.code, x.jumps, x.data, 0, 0, x.names.take 0⟩ ⟨sc, sj, sd, ⟨none, 0⟩⟩ []) by
                have h9 := HO.out
                rw [List.take_length] at h9
                exact h9)
              clear HO
              have HO := HO2
              clear HO2
              go_wp2_with fail
              obtain ⟨wo4, rfl⟩ : ∃ wo : World, wo = wr := ⟨_, rfl⟩
              go_loopw [7] (fun i wr => ∃ (k : Nat) (sn : SL), k ≤ x.names.length ∧ i = .int .i64 k ∧ Hid (Owns wr W1.heap.size (iRows g ⟨x.code, x.jumps, x.data, 0, 0, x.names.take k⟩ ⟨sc, sj, sd, sn⟩ [])) ∧ Hid (Below W1.heap.size W1 wr)) (fun i _ => x.names.length - (intOf i).toNat)
              case atStart => exact ⟨0, ⟨none, 0⟩, Nat.zero_le _, rfl, HO, HB⟩
              case round =>
                clear HO HB f0 f1 f2 f3 f4 f5 hbz
                obtain ⟨k, sn, hk, rfl, HO, HB⟩ := hrel
                obtain ⟨f0, f1, f2, f3, f4, f5⟩ := HAT.out wr HB.out
                have hbz : w.heap.size < wr.heap.size := by have := HB.out.size; have := HS1.out; omega
                by_cases hlt : k < x.names.length
                · obtain ⟨p, hp⟩ : ∃ p, x.names[k]? = some p := ⟨_, List.getElem?_eq_getElem hlt⟩
                  obtain ⟨⟨_, _, _, _, _, b5⟩, hg0, hg1⟩ := iR_box HO.out
                  dsimp only at b5
                  have hLL : (x.names.take k).length = k := by rw [List.length_take]; omega
                  have HLL := hide_ (show (x.names.take k).length * 24 ≤ 140737488351232 by omega)
                  rw [hLL] at b5
                  have HL2 := hide_ hLL
                  clear hLL
                  obtain ⟨_, ad, rfl, hbk, p0, p1⟩ := el_cells xE_len (HRR.out wr HB.out).rn (by omega) hp
                  have q0 := p0 _ rfl
                  have q1 := p1 1 _ (by omega) rfl
                  have NEXT := hide_ (takeA_at hp)
                  obtain ⟨nm, pa⟩ := p
                  dsimp only at q0 q1 NEXT
                  clear p0 p1 hp
                  go_upto_region 17 with (fail)
                  go_region_law (refine ist_nam (by rfl) _ _ (by rfl) HO.out.drew HB.out.drew.size (by rw [HL2.out]; rfl) ⟨nm, pa⟩ (by rfl) HLL.out ?_; intro A9 c9 w10 hO10 h10 f10 z10 hb10; dsimp only at hO10 h10 hb10; rw [HL2.out] at hO10 h10 hb10)
                  all_goals
                    go_wp2
                    go_roundw
                    case rel => exact ⟨k + 1, ⟨A9, c9⟩, by omega, by go_num, hide_ (by rw [NEXT.out]; exact hO10), hide_ (HB.out.drew.trans hb10)⟩
                    case measure => simp [intOf] <;> omega
                · obtain rfl : k = x.names.length := by omega
                  have HO2 := hide_ (show Owns wr W1.heap.size (iRows g ⟨x.code, x.jumps, x.data, 0, 0, x.names⟩ ⟨sc, sj, sd, sn⟩ []) by
                    have h9 := HO.out
                    rw [List.take_length] at h9
                    exact h9)
                  clear HO
                  obtain ⟨⟨_, _, _, b3, _, _⟩, hg0, hg1⟩ := iR_box HO2.out
                  dsimp only at b3
                  have b8 : wr.frozen? ⟨g, 3, none⟩ = false := HO2.out.frozen (i := 0) rfl 3
                  obtain ⟨w4, hw4⟩ : ∃ W, W = wr.setCell ⟨g, 3, none⟩ (.int .u32 x.zero) := ⟨_, rfl⟩
                  have HO4 := hide_ (show Owns w4 W1.heap.size (iRows g ⟨x.code, x.jumps, x.data, x.zero, 0, x.names⟩ ⟨sc, sj, sd, sn⟩ []) by rw [hw4]; exact iR_zero HO2.out x.zero)
                  have HB4 := hide_ (show Below W1.heap.size W1 w4 by rw [hw4]; exact HB.out.setCell (p := ⟨g, 3, none⟩) hg0 _)
                  go_upto_region 19 with (fail)
                  rw [← hw4]
                  clear hw4 b3 b8 hg0 hg1 HO2 HB f0 f1 f2 f3 f4 f5 hbz
                  obtain ⟨f0, f1, f2, f3, f4, f5⟩ := HAT.out w4 HB4.out
                  have hbz : w.heap.size < w4.heap.size := by have := HB4.out.size; have := HS1.out; omega
                  obtain ⟨⟨_, _, _, _, b4, _⟩, hg0, hg1⟩ := iR_box HO4.out
                  dsimp only at b4
                  have b8 : w4.frozen? ⟨g, 4, none⟩ = false := HO4.out.frozen (i := 0) rfl 4
                  obtain ⟨w5, hw5⟩ : ∃ W, W = w4.setCell ⟨g, 4, none⟩ (.int .u32 x.stack) := ⟨_, rfl⟩
                  have HO5 := hide_ (show Owns w5 W1.heap.size (iRows g x ⟨sc, sj, sd, sn⟩ []) by rw [hw5]; exact iR_stack HO4.out x.stack)
                  have HB5 := hide_ (show Below W1.heap.size W1 w5 by rw [hw5]; exact HB4.out.setCell (p := ⟨g, 4, none⟩) hg0 _)
                  go_upto_region 20 with (fail)
                  rw [← hw5]
                  clear hw5 b4 b8 hg0 hg1 HO4 HB4 f0 f1 f2 f3 f4 f5 hbz
                  obtain ⟨⟨b0, b1, b2, b3, b4, b5⟩, hg0, hg1⟩ := iR_box HO5.out
                  have RS := hide_ (HRES.out w5 HB5.out)
                  have FF := hide_ (show ∃ s', (Ending.returned (.agg (imgV x ⟨sc, sj, sd, sn⟩))) = .returned (.agg (imgV x s')) ∧ Owns (w5.setRow (w.heap.size + 1) (imgV x ⟨sc, sj, sd, sn⟩)) w.heap.size (ownI x s') ∧ Below w.heap.size w (w5.setRow (w.heap.size + 1) (imgV x ⟨sc, sj, sd, sn⟩)) from copied_yes HO5.out (by have := HS1.out; omega) (by have := HS1.out; omega) (FIN.out w5 HB5.out) rfl)
                  have OS := hide_ (show (Tryz.prog.info? 28).map (·.size) = some (imgV x ⟨sc, sj, sd, sn⟩).size from z6_sz)
                  have OO := hide_ (show (imgV x ⟨sc, sj, sd, sn⟩).all (·.oneCell') = true by simp [imgV, Value.oneCell'])
                  dsimp only at b0 b1 b2 b3 b4 b5
                  clear HO5
                  go_wp2_with (first | (refine wpList_store_row rfl 28 (.tmp 2) (.tmp 82) rfl _ (imgV x ⟨sc, sj, sd, sn⟩) rfl rfl 28 z6 RS.out OS.out rfl OO.out ?_))
                  exact bodyPost_ret (v := .agg (imgV x ⟨sc, sj, sd, sn⟩)) (results_cell_row rfl _ _ (w.heap.size + 1) _ _ _ _ rfl (setRow_heap _ _ _ _ _ _ RS.out) Tryz.underlying28 rfl OS.out) rfl FF.out
end Go.Proofs.YtikbegmodacopaaGreatDoor
