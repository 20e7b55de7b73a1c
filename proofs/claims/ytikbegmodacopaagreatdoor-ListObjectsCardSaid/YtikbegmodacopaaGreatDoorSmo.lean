/-
  playpenlaw12.sameObject: two objects that hold the same are the same. (Printed by gen_smo.py.)
-/
import Derived.Test.YtikbegmodacopaaGreatDoorObK
namespace Go.Proofs.YtikbegmodacopaaGreatDoor
open Go.RowKit Go.PlainAid Go.BigFrame
set_option linter.unusedSimpArgs false
set_option linter.unusedVariables false
set_option maxRecDepth 100000
set_option maxHeartbeats 8000000 in
theorem sameObj_any (x : ObjV) (s s' : ObjS) (B : Nat) (w : World) (hx : ObjOk x) (ha : ObjR w B x s) (hb : ObjR w B x s') (hB : B ≤ w.heap.size) : Calls Tryz.prog 17 #[.agg (objV x s), .agg (objV x s')] w fun e w' => e = .returned (.bool true) ∧ Below w.heap.size w w' := by
  obtain ⟨⟨aC, a0⟩, ⟨aD, a1⟩, ⟨aL, a2⟩, ⟨aF, a3⟩, ⟨aT, a4⟩, ⟨aE, a5⟩⟩ := s
  obtain ⟨⟨bC, b0⟩, ⟨bD, b1⟩, ⟨bL, b2⟩, ⟨bF, b3⟩, ⟨bT, b4⟩, ⟨bE, b5⟩⟩ := s'
  obtain ⟨l1, l2, l3, l4, l5, l6⟩ := hx.lens
  have HC := hide_ (And.intro ha.rc hb.rc)
  have HDD := hide_ (And.intro ha.rd hb.rd)
  have HLA := hide_ ha.rl
  have HLB := hide_ hb.rl
  have HFA := hide_ ha.rf
  have HFB := hide_ hb.rf
  have HTA := hide_ ha.rt
  have HTB := hide_ hb.rt
  have HEA := hide_ ha.re
  have HEB := hide_ hb.re
  dsimp only [objV] at HC HDD HLA HLB HFA HFB HTA HTB HEA HEB ⊢
  obtain ⟨n, hn⟩ : ∃ n, n = x.code.length := ⟨_, rfl⟩
  obtain ⟨nd, hnd⟩ : ∃ n, n = x.data.length := ⟨_, rfl⟩
  obtain ⟨nl, hnl⟩ : ∃ n, n = x.labels.length := ⟨_, rfl⟩
  obtain ⟨nf, hnf⟩ : ∃ n, n = x.fixes.length := ⟨_, rfl⟩
  obtain ⟨nt, hnt⟩ : ∃ n, n = x.targets.length := ⟨_, rfl⟩
  obtain ⟨ne, hne⟩ : ∃ n, n = x.entries.length := ⟨_, rfl⟩
  obtain ⟨z, hz⟩ : ∃ z, z = x.zero := ⟨_, rfl⟩
  obtain ⟨sk, hsk⟩ : ∃ z, z = x.stack := ⟨_, rfl⟩
  rw [← hn, ← hnd, ← hnl, ← hnf, ← hnt, ← hne, ← hz, ← hsk]
  rw [← hn] at HC l1
  rw [← hnd] at HDD l2
  rw [← hnl] at HLA HLB l3
  rw [← hnf] at HFA HFB l4
  rw [← hnt] at HTA HTB l5
  rw [← hne] at HEA HEB l6
  have HSC := hide_ (fun W (hw : Below w.heap.size w W) => SameCode_any aC bC n a0 b0 B x.code W l1 hn.symm (HC.out.1.below (hw.mono hB)) (HC.out.2.below (hw.mono hB)) (Nat.le_trans hB hw.size))
  have HSD := hide_ (fun W (hw : Below w.heap.size w W) => SameBytes_any aD bD nd a1 nd b1 x.data x.data B W (HDD.out.1.below (hw.mono hB)) (HDD.out.2.below (hw.mono hB)) (by unfold maxLen; omega) (by unfold maxLen; omega) |>.mono (fun e w' h => show e = .returned (.bool true) ∧ ∃ nq, w' = W.drewN nq by simpa using h))
  have HNL := hide_ hnl.symm
  have HNF := hide_ hnf.symm
  have HNT := hide_ hnt.symm
  have HNE := hide_ hne.symm
  have HBB := hide_ hB
  clear ha hb hx hn hnd hnl hnf hnt hne hz hsk HC HDD hB
  obtain ⟨W1, hW1⟩ : ∃ W, W = ((w.alloc (.cells #[.slice aC n a0, .slice aD nd a1, .int .u32 z, .int .u32 sk, .slice aL nl a2, .slice aF nf a3, .slice aT nt a4, .slice aE ne a5] 36)).alloc (.cells #[.slice bC n b0, .slice bD nd b1, .int .u32 z, .int .u32 sk, .slice bL nl b2, .slice bF nf b3, .slice bT nt b4, .slice bE ne b5] 36)) := ⟨_, rfl⟩
  have HB1 := hide_ (show Below w.heap.size w W1 by rw [hW1]; exact (((Below.refl _ _).alloc (Nat.le_refl _) _).alloc (by simp) _))
  have hlt0 : w.heap.size < W1.heap.size := by rw [hW1]; simp; omega
  have hlt1 : w.heap.size + 1 < W1.heap.size := by rw [hW1]; simp
  have HF := hide_ (fun W (hd : Below W1.heap.size W1 W) => show (W.cell? ⟨w.heap.size, 0, none⟩ = some (.slice aC n a0) ∧ W.cell? ⟨w.heap.size, 1, none⟩ = some (.slice aD nd a1) ∧ W.cell? ⟨w.heap.size, 2, none⟩ = some (.int .u32 z) ∧ W.cell? ⟨w.heap.size, 3, none⟩ = some (.int .u32 sk) ∧ W.cell? ⟨w.heap.size, 4, none⟩ = some (.slice aL nl a2) ∧ W.cell? ⟨w.heap.size, 5, none⟩ = some (.slice aF nf a3) ∧ W.cell? ⟨w.heap.size, 6, none⟩ = some (.slice aT nt a4) ∧ W.cell? ⟨w.heap.size, 7, none⟩ = some (.slice aE ne a5) ∧ W.cell? ⟨w.heap.size + 1, 0, none⟩ = some (.slice bC n b0) ∧ W.cell? ⟨w.heap.size + 1, 1, none⟩ = some (.slice bD nd b1) ∧ W.cell? ⟨w.heap.size + 1, 2, none⟩ = some (.int .u32 z) ∧ W.cell? ⟨w.heap.size + 1, 3, none⟩ = some (.int .u32 sk) ∧ W.cell? ⟨w.heap.size + 1, 4, none⟩ = some (.slice bL nl b2) ∧ W.cell? ⟨w.heap.size + 1, 5, none⟩ = some (.slice bF nf b3) ∧ W.cell? ⟨w.heap.size + 1, 6, none⟩ = some (.slice bT nt b4) ∧ W.cell? ⟨w.heap.size + 1, 7, none⟩ = some (.slice bE ne b5)) ∧ w.heap.size < W.heap.size ∧ w.heap.size + 1 < W.heap.size from by
    refine ⟨⟨(hd.cell (p := ⟨w.heap.size, 0, none⟩) hlt0).trans (by rw [hW1]; go_simp), (hd.cell (p := ⟨w.heap.size, 1, none⟩) hlt0).trans (by rw [hW1]; go_simp), (hd.cell (p := ⟨w.heap.size, 2, none⟩) hlt0).trans (by rw [hW1]; go_simp), (hd.cell (p := ⟨w.heap.size, 3, none⟩) hlt0).trans (by rw [hW1]; go_simp), (hd.cell (p := ⟨w.heap.size, 4, none⟩) hlt0).trans (by rw [hW1]; go_simp), (hd.cell (p := ⟨w.heap.size, 5, none⟩) hlt0).trans (by rw [hW1]; go_simp), (hd.cell (p := ⟨w.heap.size, 6, none⟩) hlt0).trans (by rw [hW1]; go_simp), (hd.cell (p := ⟨w.heap.size, 7, none⟩) hlt0).trans (by rw [hW1]; go_simp), (hd.cell (p := ⟨w.heap.size + 1, 0, none⟩) hlt1).trans (by rw [hW1]; go_simp), (hd.cell (p := ⟨w.heap.size + 1, 1, none⟩) hlt1).trans (by rw [hW1]; go_simp), (hd.cell (p := ⟨w.heap.size + 1, 2, none⟩) hlt1).trans (by rw [hW1]; go_simp), (hd.cell (p := ⟨w.heap.size + 1, 3, none⟩) hlt1).trans (by rw [hW1]; go_simp), (hd.cell (p := ⟨w.heap.size + 1, 4, none⟩) hlt1).trans (by rw [hW1]; go_simp), (hd.cell (p := ⟨w.heap.size + 1, 5, none⟩) hlt1).trans (by rw [hW1]; go_simp), (hd.cell (p := ⟨w.heap.size + 1, 6, none⟩) hlt1).trans (by rw [hW1]; go_simp), (hd.cell (p := ⟨w.heap.size + 1, 7, none⟩) hlt1).trans (by rw [hW1]; go_simp)⟩, Nat.lt_of_lt_of_le hlt0 hd.size, Nat.lt_of_lt_of_le hlt1 hd.size⟩
  )
  clear hlt0 hlt1
  obtain ⟨⟨f0, f1, f2, f3, f4, f5, f6, f7, g0, g1, g2, g3, g4, g5, g6, g7⟩, hlt0, hlt1⟩ := HF.out W1 (Below.refl _ _)
  have e0 : ((nl : Int) != (nl : Int)) = false := by simp
  have e1 : ((nf : Int) != (nf : Int)) = false := by simp
  have e2 : ((nt : Int) != (nt : Int)) = false := by simp
  have e3 : ((ne : Int) != (ne : Int)) = false := by simp
  go_enter Tryz.func17, Tryz.ntmps17
  go_upto_region 1 with (fail)
  rw [← hW1]
  clear hW1
  go_wp2
  clear f0 f1 f2 f3 f4 f5 f6 f7 g0 g1 g2 g3 g4 g5 g6 g7 hlt0 hlt1 e0 e1 e2 e3
  go_loopw [5] (fun i wr => ∃ k : Nat, k ≤ nl ∧ i = .int .i64 k ∧ Drew W1 wr) (fun i _ => nl - (intOf i).toNat)
  case atStart => exact ⟨0, Nat.zero_le _, rfl, Drew.refl W1⟩
  case round =>
    obtain ⟨k, hk, rfl, hd⟩ := hrel
    have HD := hide_ hd
    obtain ⟨⟨f0, f1, f2, f3, f4, f5, f6, f7, g0, g1, g2, g3, g4, g5, g6, g7⟩, hlt0, hlt1⟩ := HF.out wr (hd.below _)
    by_cases hlt : k < nl
    · clear f0 f1 f2 f3 f5 f6 f7 g0 g1 g2 g3 g5 g6 g7
      obtain ⟨⟨nm, sc, pl, op⟩, ht⟩ : ∃ t, x.labels[k]? = some t := ⟨_, List.getElem?_eq_getElem (by have := HNL.out; omega)⟩
      obtain ⟨_, ad, rfl, hbk, p0, p1⟩ := el_cells lE_len (HLA.out.below (HB1.out.mono HBB.out)) (by omega) ht
      obtain ⟨_, ad', rfl, hbk', r0, r1⟩ := el_cells lE_len (HLB.out.below (HB1.out.mono HBB.out)) (by omega) ht
      have x0 := (hd.cell _).trans (p0 _ rfl)
      have y0 := (hd.cell _).trans (r0 _ rfl)
      have x1 := (hd.cell _).trans (p1 1 _ (by omega) rfl)
      have y1 := (hd.cell _).trans (r1 1 _ (by omega) rfl)
      have x2 := (hd.cell _).trans (p1 2 _ (by omega) rfl)
      have y2 := (hd.cell _).trans (r1 2 _ (by omega) rfl)
      have x3 := (hd.cell _).trans (p1 3 _ (by omega) rfl)
      have y3 := (hd.cell _).trans (r1 3 _ (by omega) rfl)
      simp only at x0 y0 x1 y1 x2 y2 x3 y3
      have hb1 : (ad.add (k * 4)).block < wr.heap.size := by rw [hd.size]; have := HBB.out; have := HB1.out.size; omega
      have hb2 : (ad'.add (k * 4)).block < wr.heap.size := by rw [hd.size]; have := HBB.out; have := HB1.out.size; omega
      have hq := fun w => lab_eq w nm sc pl op
      clear p0 p1 r0 r1 hd hbk hbk' ht
      go_wp2
      go_big_quiet (fail)
      go_wp2
      go_roundw
      case rel => exact ⟨k + 1, by omega, by go_num, HD.out.more _⟩
      case measure => simp [intOf]; omega
    · obtain rfl : nl = k := by omega
      clear hd
      go_wp2
      clear f0 f1 f2 f3 f4 f5 f6 f7 g0 g1 g2 g3 g4 g5 g6 g7 hlt0 hlt1
      go_loopw [6] (fun i wr => ∃ k : Nat, k ≤ nf ∧ i = .int .i64 k ∧ Drew W1 wr) (fun i _ => nf - (intOf i).toNat)
      case atStart => exact ⟨0, Nat.zero_le _, rfl, HD.out⟩
      case round =>
        clear HD
        obtain ⟨k, hk, rfl, hd⟩ := hrel
        have HD := hide_ hd
        obtain ⟨⟨f0, f1, f2, f3, f4, f5, f6, f7, g0, g1, g2, g3, g4, g5, g6, g7⟩, hlt0, hlt1⟩ := HF.out wr (hd.below _)
        by_cases hlt : k < nf
        · clear f0 f1 f2 f3 f4 f6 f7 g0 g1 g2 g3 g4 g6 g7
          obtain ⟨⟨sc, pl, nm, av⟩, ht⟩ : ∃ t, x.fixes[k]? = some t := ⟨_, List.getElem?_eq_getElem (by have := HNF.out; omega)⟩
          obtain ⟨_, ad, rfl, hbk, p0, p1⟩ := el_cells fE_len (HFA.out.below (HB1.out.mono HBB.out)) (by omega) ht
          obtain ⟨_, ad', rfl, hbk', r0, r1⟩ := el_cells fE_len (HFB.out.below (HB1.out.mono HBB.out)) (by omega) ht
          have x0 := (hd.cell _).trans (p0 _ rfl)
          have y0 := (hd.cell _).trans (r0 _ rfl)
          have x1 := (hd.cell _).trans (p1 1 _ (by omega) rfl)
          have y1 := (hd.cell _).trans (r1 1 _ (by omega) rfl)
          have x2 := (hd.cell _).trans (p1 2 _ (by omega) rfl)
          have y2 := (hd.cell _).trans (r1 2 _ (by omega) rfl)
          have x3 := (hd.cell _).trans (p1 3 _ (by omega) rfl)
          have y3 := (hd.cell _).trans (r1 3 _ (by omega) rfl)
          simp only at x0 y0 x1 y1 x2 y2 x3 y3
          have hb1 : (ad.add (k * 4)).block < wr.heap.size := by rw [hd.size]; have := HBB.out; have := HB1.out.size; omega
          have hb2 : (ad'.add (k * 4)).block < wr.heap.size := by rw [hd.size]; have := HBB.out; have := HB1.out.size; omega
          have hq := fun w => fix_eq w nm sc pl av
          clear p0 p1 r0 r1 hd hbk hbk' ht
          go_wp2
          go_big_quiet (fail)
          go_wp2
          go_roundw
          case rel => exact ⟨k + 1, by omega, by go_num, HD.out.more _⟩
          case measure => simp [intOf]; omega
        · obtain rfl : nf = k := by omega
          clear hd
          go_wp2
          clear f0 f1 f2 f3 f4 f5 f6 f7 g0 g1 g2 g3 g4 g5 g6 g7 hlt0 hlt1
          go_loopw [7] (fun i wr => ∃ k : Nat, k ≤ nt ∧ i = .int .i64 k ∧ Drew W1 wr) (fun i _ => nt - (intOf i).toNat)
          case atStart => exact ⟨0, Nat.zero_le _, rfl, HD.out⟩
          case round =>
            clear HD
            obtain ⟨k, hk, rfl, hd⟩ := hrel
            have HD := hide_ hd
            obtain ⟨⟨f0, f1, f2, f3, f4, f5, f6, f7, g0, g1, g2, g3, g4, g5, g6, g7⟩, hlt0, hlt1⟩ := HF.out wr (hd.below _)
            by_cases hlt : k < nt
            · clear f0 f1 f2 f3 f4 f5 f7 g0 g1 g2 g3 g4 g5 g7
              obtain ⟨g, hg⟩ : ∃ g, x.targets[k]? = some g := ⟨_, List.getElem?_eq_getElem (by have := HNT.out; omega)⟩
              obtain ⟨b, o, rfl, hbk, hcl⟩ := reads_strs (HTA.out.below (HB1.out.mono HBB.out)) (by omega)
              obtain ⟨b', o', rfl, hbk', hcl'⟩ := reads_strs (HTB.out.below (HB1.out.mono HBB.out)) (by omega)
              have hc1 : wr.cell? ⟨b, o + k, none⟩ = some (.string g) := (hd.cell _).trans (hcl k g hg)
              have hc2 : wr.cell? ⟨b', o' + k, none⟩ = some (.string g) := (hd.cell _).trans (hcl' k g hg)
              have hb1 : b < wr.heap.size := by rw [hd.size]; have := HBB.out; have := HB1.out.size; omega
              have hb2 : b' < wr.heap.size := by rw [hd.size]; have := HBB.out; have := HB1.out.size; omega
              clear hcl hcl' hg hd hbk hbk'
              go_wp2
              go_big_quiet (fail)
              go_wp2
              go_roundw
              case rel => exact ⟨k + 1, by omega, by go_num, HD.out.more _⟩
              case measure => simp [intOf]; omega
            · obtain rfl : nt = k := by omega
              clear hd
              go_wp2
              clear f0 f1 f2 f3 f4 f5 f6 f7 g0 g1 g2 g3 g4 g5 g6 g7 hlt0 hlt1
              go_loopw [8] (fun i wr => ∃ k : Nat, k ≤ ne ∧ i = .int .i64 k ∧ Drew W1 wr) (fun i _ => ne - (intOf i).toNat)
              case atStart => exact ⟨0, Nat.zero_le _, rfl, HD.out⟩
              case round =>
                clear HD
                obtain ⟨k, hk, rfl, hd⟩ := hrel
                have HD := hide_ hd
                obtain ⟨⟨f0, f1, f2, f3, f4, f5, f6, f7, g0, g1, g2, g3, g4, g5, g6, g7⟩, hlt0, hlt1⟩ := HF.out wr (hd.below _)
                by_cases hlt : k < ne
                · clear f0 f1 f2 f3 f4 f5 f6 g0 g1 g2 g3 g4 g5 g6
                  obtain ⟨⟨nm, lb⟩, ht⟩ : ∃ t, x.entries[k]? = some t := ⟨_, List.getElem?_eq_getElem (by have := HNE.out; omega)⟩
                  obtain ⟨_, ad, rfl, hbk, p0, p1⟩ := el_cells eE_len (HEA.out.below (HB1.out.mono HBB.out)) (by omega) ht
                  obtain ⟨_, ad', rfl, hbk', r0, r1⟩ := el_cells eE_len (HEB.out.below (HB1.out.mono HBB.out)) (by omega) ht
                  have x0 := (hd.cell _).trans (p0 _ rfl)
                  have y0 := (hd.cell _).trans (r0 _ rfl)
                  have x1 := (hd.cell _).trans (p1 1 _ (by omega) rfl)
                  have y1 := (hd.cell _).trans (r1 1 _ (by omega) rfl)
                  simp only at x0 y0 x1 y1
                  have hb1 : (ad.add (k * 2)).block < wr.heap.size := by rw [hd.size]; have := HBB.out; have := HB1.out.size; omega
                  have hb2 : (ad'.add (k * 2)).block < wr.heap.size := by rw [hd.size]; have := HBB.out; have := HB1.out.size; omega
                  have hq := fun w => ent_eq w nm lb
                  clear p0 p1 r0 r1 hd hbk hbk' ht
                  go_wp2
                  go_big_quiet (fail)
                  go_wp2
                  go_roundw
                  case rel => exact ⟨k + 1, by omega, by go_num, HD.out.more _⟩
                  case measure => simp [intOf]; omega
                · obtain rfl : ne = k := by omega
                  have HB2 := hide_ (HB1.out.trans (hd.below _))
                  have HB3 := hide_ (show Below W1.heap.size W1 wr from hd.below _)
                  clear hd
                  go_wp2_with fail
                  refine (HSC.out _ HB2.out).mono ?_
                  rintro e W2 ⟨rfl, hb2⟩
                  have HB4 := hide_ (HB3.out.trans (hb2.mono HB3.out.size))
                  have HB5 := hide_ (HB2.out.trans (hb2.mono HB2.out.size))
                  clear f0 f1 f2 f3 f4 f5 f6 f7 g0 g1 g2 g3 g4 g5 g6 g7 hlt0 hlt1 hb2 HB2 HB3
                  obtain ⟨⟨f0, f1, f2, f3, f4, f5, f6, f7, g0, g1, g2, g3, g4, g5, g6, g7⟩, hlt0, hlt1⟩ := HF.out W2 HB4.out
                  go_wp2_with fail
                  refine (HSD.out _ HB5.out).mono ?_
                  rintro e W3 ⟨rfl, nq, hw3⟩
                  have hb3 : Below W2.heap.size W2 W3 := by rw [hw3]; exact below_draws2 (Below.refl _ _) _
                  clear hw3
                  have HB6 := hide_ (HB4.out.trans (hb3.mono HB4.out.size))
                  have HB7 := hide_ (HB5.out.trans (hb3.mono HB5.out.size))
                  clear f0 f1 f2 f3 f4 f5 f6 f7 g0 g1 g2 g3 g4 g5 g6 g7 hlt0 hlt1 hb3 HB4 HB5
                  obtain ⟨⟨f0, f1, f2, f3, f4, f5, f6, f7, g0, g1, g2, g3, g4, g5, g6, g7⟩, hlt0, hlt1⟩ := HF.out W3 HB6.out
                  have d1 : (z == z) = true := by simp
                  have d2 : (sk == sk) = true := by simp
                  go_wp2
                  go_ret
                  exact ⟨rfl, HB7.out⟩
end Go.Proofs.YtikbegmodacopaaGreatDoor
