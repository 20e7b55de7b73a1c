/-
  The document's zeroText.
-/
import Derived.Test.YtnkfjileaonemaaGreatDoorPrO
namespace Go.Proofs.YtnkfjileaonemaaGreatDoor
open Go.RowKit Go.PlainAid Go.BigFrame
set_option linter.unusedSimpArgs false
set_option linter.unusedVariables false
set_option maxRecDepth 100000

theorem zeroR_skip {z : Int} {l : LabV} {L : List LabV} {a : Int} (h : ¬ l.sec = 3) : zeroR z (l :: L) a = zeroR z L a := by rw [zeroR, if_neg h]
theorem zeroR_at {z : Int} {l : LabV} {L : List LabV} {a : Int} (h : l.sec = 3) (h2 : ¬ a < l.at_) : zeroR z (l :: L) a = labLn l ++ zeroR z L a := by rw [zeroR, if_pos h, if_neg h2]
theorem zeroR_on {z : Int} {l : LabV} {L : List LabV} {a : Int} (h : l.sec = 3) (h2 : a < l.at_) : zeroR z (l :: L) a = spaceT (l.at_ - a) ++ (labLn l ++ zeroR z L l.at_) := by rw [zeroR, if_pos h, if_pos h2]
set_option maxHeartbeats 16000000 in
theorem zeroText_any (x : ObjV) (s : ObjS) (B : Nat) (w : World) (hx : ObjOk x) (hr : ObjR w B x s) (hBw : B ≤ w.heap.size) (hz : (zeroT x).size ≤ 140737488351232) :
    Calls Tryz.prog 30 #[.agg (objV x s)] w fun e w' => e = .returned (.string (zeroT x)) ∧ Below w.heap.size w w' := by
  have HHA := hide_ (fun W (hw : Below w.heap.size w W) => has_any x s B 3 W hx (hr.below (hw.mono hBw)) (Nat.le_trans hBw hw.size))
  have HZZ := hide_ hx.zero
  obtain ⟨⟨cA, cc⟩, ⟨dA, dc⟩, ⟨lA, lc⟩, ⟨fA, fc⟩, ⟨tA, tc⟩, ⟨eA, ec⟩⟩ := s
  have HRC := hide_ hr.rc
  have HRD := hide_ hr.rd
  have HRL := hide_ hr.rl
  have HRF := hide_ hr.rf
  have HRT := hide_ hr.rt
  have HRE := hide_ hr.re
  obtain ⟨l1, l2, l3, l4, l5, l6⟩ := hx.lens
  have HX := hide_ hx
  dsimp only [objV] at HRC HRD HRL HRF HRT HRE ⊢
  obtain ⟨n, hn⟩ : ∃ n, n = x.code.length := ⟨_, rfl⟩
  obtain ⟨nd, hnd⟩ : ∃ n, n = x.data.length := ⟨_, rfl⟩
  obtain ⟨nl, hnl⟩ : ∃ n, n = x.labels.length := ⟨_, rfl⟩
  obtain ⟨nf, hnf⟩ : ∃ n, n = x.fixes.length := ⟨_, rfl⟩
  obtain ⟨nt, hnt⟩ : ∃ n, n = x.targets.length := ⟨_, rfl⟩
  obtain ⟨ne, hne⟩ : ∃ n, n = x.entries.length := ⟨_, rfl⟩
  obtain ⟨z, hzr⟩ : ∃ z, z = x.zero := ⟨_, rfl⟩
  obtain ⟨sk, hsk⟩ : ∃ z, z = x.stack := ⟨_, rfl⟩
  rw [← hn, ← hnd, ← hnl, ← hnf, ← hnt, ← hne, ← hzr, ← hsk]
  rw [← hn] at HRC l1
  rw [← hnd] at HRD l2
  rw [← hnl] at HRL l3
  rw [← hnf] at HRF l4
  rw [← hnt] at HRT l5
  rw [← hne] at HRE l6
  have HN := hide_ hn.symm
  have HND := hide_ hnd.symm
  have HNL := hide_ hnl.symm
  have HNF := hide_ hnf.symm
  have HNT := hide_ hnt.symm
  have HNE := hide_ hne.symm
  have HZ := hide_ hzr.symm
  have HSK := hide_ hsk.symm
  dsimp only [objV] at HHA
  rw [← hn, ← hnd, ← hnl, ← hnf, ← hnt, ← hne, ← hzr, ← hsk] at HHA
  rw [← hzr] at HZZ
  clear hr hx hn hnd hnl hnf hnt hne hzr hsk
  obtain ⟨z0, z1⟩ := HZZ.out
  obtain ⟨T, hT⟩ : ∃ T, T = zeroT x := ⟨_, rfl⟩
  rw [← hT] at hz ⊢
  have HT := hide_ hT.symm
  have HBW := hide_ hBw
  have HSZ := hide_ hz
  clear hT hz hBw
  obtain ⟨W1, hW1⟩ : ∃ W, W = w.alloc (.cells #[.slice cA n cc, .slice dA nd dc, .int .u32 z, .int .u32 sk, .slice lA nl lc, .slice fA nf fc, .slice tA nt tc, .slice eA ne ec] 30) := ⟨_, rfl⟩
  have f0 : W1.cell? ⟨w.heap.size, 0, none⟩ = some (.slice cA n cc) := by rw [hW1]; go_simp
  have f1 : W1.cell? ⟨w.heap.size, 1, none⟩ = some (.slice dA nd dc) := by rw [hW1]; go_simp
  have f2 : W1.cell? ⟨w.heap.size, 2, none⟩ = some (.int .u32 z) := by rw [hW1]; go_simp
  have f3 : W1.cell? ⟨w.heap.size, 3, none⟩ = some (.int .u32 sk) := by rw [hW1]; go_simp
  have f4 : W1.cell? ⟨w.heap.size, 4, none⟩ = some (.slice lA nl lc) := by rw [hW1]; go_simp
  have f5 : W1.cell? ⟨w.heap.size, 5, none⟩ = some (.slice fA nf fc) := by rw [hW1]; go_simp
  have f6 : W1.cell? ⟨w.heap.size, 6, none⟩ = some (.slice tA nt tc) := by rw [hW1]; go_simp
  have f7 : W1.cell? ⟨w.heap.size, 7, none⟩ = some (.slice eA ne ec) := by rw [hW1]; go_simp
  have HB1 := hide_ (show Below w.heap.size w W1 by rw [hW1]; exact (Below.refl _ _).alloc (Nat.le_refl _) _)
  have hlt0 : w.heap.size < W1.heap.size := by rw [hW1]; simp
  obtain ⟨hs, hhs⟩ : ∃ b, b = hasL x.labels 3 := ⟨_, rfl⟩
  rw [← hhs] at HHA
  have HHS := hide_ hhs.symm
  clear hhs
  go_enter Tryz.func30, Tryz.ntmps30
  go_upto_region 1 with (fail)
  rw [← hW1]
  clear hW1
  have F0 := hide_ f0
  have F1 := hide_ f1
  have F2 := hide_ f2
  have F3 := hide_ f3
  have F4 := hide_ f4
  have F5 := hide_ f5
  have F6 := hide_ f6
  have F7 := hide_ f7
  clear f0 f1 f2 f3 f4 f5 f6 f7
  go_cut [14] from 7 to 14 (fun b wx => b = .bool (decide (z = 0) && !hs) ∧ Below W1.heap.size W1 wx)
  case first =>
    have f0 := F0.out
    have f1 := F1.out
    have f2 := F2.out
    have f3 := F3.out
    have f4 := F4.out
    have f5 := F5.out
    have f6 := F6.out
    have f7 := F7.out
    by_cases hn0 : z = 0
    · have e0 : (z == 0) = true := by rw [hn0]; rfl
      have HN0 := hide_ hn0
      clear hn0
      go_wp2_with fail
      refine (HHA.out _ HB1.out).mono ?_
      rintro e w2 ⟨rfl, hb2⟩
      have HB2 := hide_ hb2
      clear hb2
      go_wp2
      go_meet
      exact ⟨by rw [decide_eq_true HN0.out]; cases hs <;> rfl, HB2.out⟩
    · have e0 : (z == 0) = false := by simpa using hn0
      have HN0 := hide_ hn0
      clear hn0
      go_wp2
      go_meet
      exact ⟨by rw [decide_eq_false HN0.out]; rfl, Below.refl _ _⟩
  case rest =>
    obtain ⟨rfl, hbc⟩ := hcut
    have HBC := hide_ hbc
    clear hbc
    have hltc := Nat.lt_of_lt_of_le hlt0 HBC.out.size
    have F0 := hide_ ((HBC.out.cell (p := ⟨w.heap.size, 0, none⟩) hlt0).trans F0.out)
    have F1 := hide_ ((HBC.out.cell (p := ⟨w.heap.size, 1, none⟩) hlt0).trans F1.out)
    have F2 := hide_ ((HBC.out.cell (p := ⟨w.heap.size, 2, none⟩) hlt0).trans F2.out)
    have F3 := hide_ ((HBC.out.cell (p := ⟨w.heap.size, 3, none⟩) hlt0).trans F3.out)
    have F4 := hide_ ((HBC.out.cell (p := ⟨w.heap.size, 4, none⟩) hlt0).trans F4.out)
    have F5 := hide_ ((HBC.out.cell (p := ⟨w.heap.size, 5, none⟩) hlt0).trans F5.out)
    have F6 := hide_ ((HBC.out.cell (p := ⟨w.heap.size, 6, none⟩) hlt0).trans F6.out)
    have F7 := hide_ ((HBC.out.cell (p := ⟨w.heap.size, 7, none⟩) hlt0).trans F7.out)
    have HB1 := hide_ (HB1.out.trans (HBC.out.mono HB1.out.size))
    have hlt0 := hltc
    obtain ⟨W1, hq1⟩ : ∃ W, W = wc := ⟨_, rfl⟩
    rw [← hq1] at F0 F1 F2 F3 F4 F5 F6 F7 HB1 hlt0 ⊢
    clear hq1 hltc HBC
    obtain ⟨cd, hcd⟩ : ∃ c, c = (decide (z = 0) && !hs) := ⟨_, rfl⟩
    rw [← hcd]
    have HCD := hide_ hcd
    clear hcd
    cases cd
    · have HT2 := hide_ (show ⟨#[122, 101, 114, 111, 10]⟩ ++ zeroR z x.labels 0 = T by
        rw [← HT.out, zeroT, if_neg, HZ.out]
        rintro ⟨h1, h2⟩
        have h3 := HCD.out
        rw [← HHS.out, h2, ← HZ.out, h1] at h3
        simp at h3)
      go_wp2
      go_loopw [3, 4, 5] (fun s a i wr => ∃ (k : Nat) (S : ByteArray) (p : Int), k ≤ nl ∧ s = .string S ∧ a = .int .u32 p ∧ i = .int .i64 k ∧ 0 ≤ p ∧ p < 4294967296 ∧ Hid (S ++ zeroR z (x.labels.drop k) p = T) ∧ Below W1.heap.size W1 wr) (fun _ _ i _ => nl - (intOf i).toNat)
      case atStart => exact ⟨0, _, 0, by omega, rfl, rfl, rfl, by omega, by omega, HT2, Below.refl _ _⟩
      case round =>
        clear HT2
        obtain ⟨k, S, p, hk, rfl, rfl, rfl, hp0, hp1, HS, hbr⟩ := hrel
        have HBR := hide_ hbr
        have HLO := hide_ (HB1.out.trans (hbr.mono HB1.out.size))
        have f2 := (hbr.cell (p := ⟨w.heap.size, 2, none⟩) hlt0).trans F2.out
        have f4 := (hbr.cell (p := ⟨w.heap.size, 4, none⟩) hlt0).trans F4.out
        have hltx := Nat.lt_of_lt_of_le hlt0 hbr.size
        clear hbr
        by_cases hlt : k < nl
        · obtain ⟨⟨nm, lsec, lpl, lop⟩, ht⟩ : ∃ t, x.labels[k]? = some t := ⟨_, List.getElem?_eq_getElem (by have := HNL.out; omega)⟩
          have HDR := hide_ (drop_at ht)
          obtain ⟨hnz, _, lp0, lp1⟩ := HX.out.labels _ (List.mem_of_getElem? ht)
          simp only at hnz lp0 lp1
          obtain ⟨_, ad, rfl, hbk, p0, p1⟩ := el_cells lE_len (HRL.out.below (HLO.out.mono HBW.out)) (by omega) ht
          have x0 := p0 _ rfl
          have x1 := p1 1 _ (by omega) rfl
          have x2 := p1 2 _ (by omega) rfl
          have x3 := p1 3 _ (by omega) rfl
          simp only at x0 x1 x2 x3
          have hbs : (ad.add (k * 4)).block < wr.heap.size := by have := HBW.out; have := HLO.out.size; omega
          have HBA := hide_ (HBR.out.alloc HBR.out.size (.cells #[.string nm, .int .u8 lsec, .int .u32 lpl, .bool lop] 45))
          clear p0 p1 ht hbk
          by_cases h1 : lsec = 3
          · subst h1
            by_cases h2 : p < lpl
            · have hS := HS.out
              rw [HDR.out, zeroR_on rfl h2, spaceT, labLn] at hS
              dsimp only at hS
              obtain ⟨m, hm⟩ : ∃ m : Nat, lpl - p = (m : Int) := ⟨(lpl - p).toNat, by omega⟩
              rw [hm, Int.toNat_natCast] at hS
              have hw1 : IntKind.u32.wrap (lpl - p) = (m : Int) := by rw [IntWalk.u32_in _ (by omega), hm]
              obtain ⟨D, hD⟩ : ∃ D, D = decT m := ⟨_, rfl⟩
              have HU := hide_ (fun W => unsigned_any m (by omega) W)
              rw [← hD] at HU hS
              have HSS := hide_ hS
              have hss := congrArg ByteArray.size hS
              simp only [ba_size] at hss
              have hk7 : (⟨#[9, 115, 112, 97, 99, 101, 32]⟩ : ByteArray).size = 7 := rfl
              have hk1 : (⟨#[10]⟩ : ByteArray).size = 1 := rfl
              have hk2 : (⟨#[58, 10]⟩ : ByteArray).size = 2 := rfl
              have hTz := HSZ.out
              have m1 : ¬ 9223372036854775807 < S.size + 7 := by omega
              have m2 : ¬ 9223372036854775807 < S.size + 7 + D.size := by omega
              have m3 : ¬ 9223372036854775807 < S.size + 7 + D.size + 1 := by omega
              have m4 : ¬ 9223372036854775807 < S.size + 7 + D.size + 1 + nm.size := by omega
              have m5 : ¬ 9223372036854775807 < S.size + 7 + D.size + 1 + nm.size + 2 := by omega
              have HBAR := hide_ (HLO.out.alloc HLO.out.size (.cells #[.string nm, .int .u8 3, .int .u32 lpl, .bool lop] 45))
              obtain ⟨W5, hW5⟩ : ∃ W, W = wr.alloc (.cells #[.string nm, .int .u8 3, .int .u32 lpl, .bool lop] 45) := ⟨_, rfl⟩
              have g0 : W5.cell? ⟨wr.heap.size, 0, none⟩ = some (.string nm) := by rw [hW5]; go_simp
              have g2 : W5.cell? ⟨wr.heap.size, 2, none⟩ = some (.int .u32 lpl) := by rw [hW5]; go_simp
              have hlt5 : wr.heap.size < W5.heap.size := by rw [hW5]; simp
              clear hS hss hk7 hk1 hk2 hTz hD
              go_upto_region 11 with (fail)
              rw [← hW5] at HBA ⊢
              clear hW5 f2 f4 x0 x1 x2 x3 hbs hltx
              go_wp2_with fail
              refine (HU.out _).mono ?_
              rintro e w6 ⟨rfl, hb6⟩
              have g0 := (hb6.cell (p := ⟨wr.heap.size, 0, none⟩) hlt5).trans g0
              have g2 := (hb6.cell (p := ⟨wr.heap.size, 2, none⟩) hlt5).trans g2
              have hlt5 := Nat.lt_of_lt_of_le hlt5 hb6.size
              have HB6 := hide_ (HBA.out.trans (hb6.mono HBA.out.size))
              clear hb6
              have HSE := hide_ (show (S ++ ⟨#[9, 115, 112, 97, 99, 101, 32]⟩ ++ D ++ ⟨#[10]⟩ ++ nm ++ ⟨#[58, 10]⟩) ++ zeroR z (x.labels.drop (k + 1)) lpl = T by
                rw [← HSS.out]
                simp only [ba_assoc])
              go_wp2
              go_roundw
              case rel => exact ⟨k + 1, _, lpl, by omega, rfl, rfl, by go_num, by omega, by omega, HSE, HB6.out⟩
              case measure => simp [intOf]; omega
            · have hS := HS.out
              rw [HDR.out, zeroR_at rfl h2, labLn] at hS
              dsimp only at hS
              have HSE := hide_ (show (S ++ nm ++ ⟨#[58, 10]⟩) ++ zeroR z (x.labels.drop (k + 1)) p = T by
                rw [← hS]
                simp only [ba_assoc])
              have hss := congrArg ByteArray.size hS
              simp only [ba_size] at hss
              have hk2 : (⟨#[58, 10]⟩ : ByteArray).size = 2 := rfl
              have hTz := HSZ.out
              have m4 : ¬ 9223372036854775807 < S.size + nm.size := by omega
              have m5 : ¬ 9223372036854775807 < S.size + nm.size + 2 := by omega
              clear hS hss hk2 hTz
              go_wp2
              go_roundw
              case rel => exact ⟨k + 1, _, p, by omega, rfl, rfl, by go_num, by omega, by omega, HSE, HBA.out⟩
              case measure => simp [intOf]; omega
          · have e1 : (lsec == 3) = false := by simpa using h1
            have hS := HS.out
            rw [HDR.out, zeroR_skip h1] at hS
            have HS2 := hide_ hS
            clear hS h1
            go_wp2
            go_roundw
            case rel => exact ⟨k + 1, S, p, by omega, rfl, rfl, by go_num, by omega, by omega, HS2, HBA.out⟩
            case measure => simp [intOf]; omega
        · have hS := HS.out
          rw [List.drop_of_length_le (by have := HNL.out; omega), zeroR] at hS
          by_cases h2 : p < z
          · rw [if_pos h2, spaceT] at hS
            obtain ⟨m, hm⟩ : ∃ m : Nat, z - p = (m : Int) := ⟨(z - p).toNat, by omega⟩
            rw [hm, Int.toNat_natCast] at hS
            have hw1 : IntKind.u32.wrap (z - p) = (m : Int) := by rw [IntWalk.u32_in _ (by omega), hm]
            obtain ⟨D, hD⟩ : ∃ D, D = decT m := ⟨_, rfl⟩
            have HU := hide_ (fun W => unsigned_any m (by omega) W)
            rw [← hD] at HU hS
            have HSE := hide_ (show S ++ ⟨#[9, 115, 112, 97, 99, 101, 32]⟩ ++ D ++ ⟨#[10]⟩ = T by
              rw [← hS]
              simp only [ba_assoc])
            have hss := congrArg ByteArray.size hS
            simp only [ba_size] at hss
            have hk7 : (⟨#[9, 115, 112, 97, 99, 101, 32]⟩ : ByteArray).size = 7 := rfl
            have hk1 : (⟨#[10]⟩ : ByteArray).size = 1 := rfl
            have hTz := HSZ.out
            have m1 : ¬ 9223372036854775807 < S.size + 7 := by omega
            have m2 : ¬ 9223372036854775807 < S.size + 7 + D.size := by omega
            have m3 : ¬ 9223372036854775807 < S.size + 7 + D.size + 1 := by omega
            clear hS hss hk7 hk1 hTz hD
            go_wp2_with fail
            refine (HU.out _).mono ?_
            rintro e w6 ⟨rfl, hb6⟩
            have HB6 := hide_ (HLO.out.trans (hb6.mono HLO.out.size))
            clear hb6 f2 f4
            go_wp2
            go_ret
            exact ⟨by rw [← HSE.out]; rfl, HB6.out⟩
          · rw [if_neg h2, ba_nil] at hS
            have HSE := hide_ hS
            clear hS
            go_wp2
            go_ret
            exact ⟨by rw [← HSE.out]; rfl, HLO.out⟩
    · have HT2 := hide_ (show e0B = T by
        rw [← HT.out, zeroT, if_pos]
        have h3 := HCD.out
        rw [← HHS.out, ← HZ.out] at h3
        cases h4 : hasL x.labels 3
        · rw [h4] at h3
          exact ⟨by simpa using h3.symm, rfl⟩
        · rw [h4] at h3
          simp at h3)
      go_wp2
      go_ret
      exact ⟨by rw [← HT2.out]; rfl, HB1.out⟩
end Go.Proofs.YtnkfjileaonemaaGreatDoor
