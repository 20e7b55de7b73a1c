/-
  asm.Print.
-/
import Derived.Test.YtnkfjileaonemaaGreatDoorPrYE
namespace Go.Proofs.YtnkfjileaonemaaGreatDoor
open Go.RowKit Go.PlainAid Go.BigFrame
set_option linter.unusedSimpArgs false
set_option linter.unusedVariables false
set_option maxRecDepth 100000

set_option maxHeartbeats 16000000 in
theorem pPrint_any (x : ObjV) (s : ObjS) (w : World) (hx : ObjOk x) (hr : ObjR w w.heap.size x s) (hf : okB x = true → PrtFit x) (hT : TabOk w) :
    Calls Tryz.prog 10 #[.agg (objV x s)] w fun e w' => e = .returned (.tuple #[.string (prtS x), .int .i64 (prtE x)]) ∧ Below w.heap.size w w' := by
  have HRK := hide_ (fun W (hw : Below w.heap.size w W) => acheck_any x s W hx ((hr.below hw).more hw.size))
  by_cases hok : okB x = true
  · have hF := hf hok
    have HTB := hide_ (show ∀ W, Below w.heap.size w W → TabOk W from fun W hW => hT.below hW)
    have HCV := hide_ (show chkV x = 0 from chkV_yes hok)
    have HRES := hide_ (show prtS x = (if 524288 < (bodyT x).size then e0B else bodyT x) ∧ prtE x = (if 524288 < (bodyT x).size then 105 else 0) from ⟨by rw [prtS, if_pos hok], by rw [prtE, if_pos hok]⟩)
    have hpp := hF.parts
    have HPP := hide_ hpp
    have HOK := hide_ hok
    have HXX := hide_ hx
    have HRR := hide_ hr
    have HCO := hide_ (fun g W (hw : Below w.heap.size w W) (hS : PrS w.heap.size g (poOf x s) x.labels x.fixes e0B W) => pcode_any x s w.heap.size g e0B W hx hok (hr.below hw) hS (fun W2 h2 => hT.below (hw.trans h2)) (by have := show e0B.size = 0 from rfl; omega))
    have HDA := hide_ (fun g RL RF W (hw : Below w.heap.size w W) (hS : PrS w.heap.size g (poOf x s) RL RF (e0B ++ codeT x) W) hL hF' => pdata_any x s w.heap.size g RL RF _ W hx hok (hr.below hw) hS hL hF' (fun W2 h2 => hT.below (hw.trans h2)) (by rw [ba_size]; have := show e0B.size = 0 from rfl; omega))
    have HZE := hide_ (fun g RL RF W (hw : Below w.heap.size w W) (hS : PrS w.heap.size g (poOf x s) RL RF (e0B ++ codeT x ++ dataT x) W) hL hF' => pzero_any x s w.heap.size g RL RF _ W hx hok hS hL hF' (fun W2 h2 => hT.below (hw.trans h2)) (by rw [ba_size, ba_size]; have := show e0B.size = 0 from rfl; omega))
    have HRE' := hide_ (fun g RL RF W (hw : Below w.heap.size w W) (hS : PrS w.heap.size g (poOf x s) RL RF (e0B ++ codeT x ++ dataT x ++ zeroT x) W) => prest_any x s w.heap.size g RL RF _ W hx hok (hr.below hw) hS (fun W2 h2 => hT.below (hw.trans h2)) (by rw [ba_size, ba_size, ba_size]; have := show e0B.size = 0 from rfl; omega))
    have HNEW := hide_ (fun W (hw : Below w.heap.size w W) => show PrS w.heap.size W.heap.size (poOf x s) x.labels x.fixes e0B (W.alloc (.cells #[.pointer none, .slice none 0 0, .slice s.c.A x.code.length s.c.c, .slice s.d.A x.data.length s.d.c, .int .u32 x.zero, .int .u32 x.stack, .slice s.l.A x.labels.length s.l.c, .slice s.f.A x.fixes.length s.f.c, .slice s.t.A x.targets.length s.t.c, .slice s.e.A x.entries.length s.e.c] 66)) from
      ⟨.pointer none, s.l.A, s.l.c, s.f.A, s.f.c, .inl rfl, ⟨hw.size, .slice none 0 0, heap_alloc_new _ _, World.ownsRowF_of (World.ownsRow_nil _ _ _ _), by simp [Value.ownBlock]⟩, (hr.rl.below hw).alloc hw.size _, hr.caps.2.2.1, (hr.rf.below hw).alloc hw.size _, hr.caps.2.2.2.1⟩)
    have HBD := hide_ (show e0B ++ codeT x ++ dataT x ++ zeroT x ++ restT x = bodyT x by rw [nil_ba, bodyT]; simp only [ba_assoc])
    have HBN := hide_ (show (bodyT x).size ≠ 0 by
      have h1 : (codeT x).size = 5 + (codeR x x.code.length 0).size := by rw [codeT, ba_size]; rfl
      rw [bodyT, ba_size]
      omega)
    rw [HCV.out] at HRK
    unfold SecPost at HCO HDA
    unfold ZeroPost at HZE HRE'
    obtain ⟨po, hpo⟩ : ∃ p, p = poOf x s := ⟨_, rfl⟩
    rw [← hpo] at HCO HDA HZE HRE' HNEW
    clear hpo
    clear hF hpp hf hok hT
    obtain ⟨⟨cA, cc⟩, ⟨dA, dc⟩, ⟨lA, lc⟩, ⟨fA, fc⟩, ⟨tA, tc⟩, ⟨eA, ec⟩⟩ := s
    have HRC := hide_ hr.rc
    have HRD := hide_ hr.rd
    have HRL := hide_ hr.rl
    have HRF := hide_ hr.rf
    have HRT := hide_ hr.rt
    have HRE := hide_ hr.re
    obtain ⟨l1, l2, l3, l4, l5, l6⟩ := hx.lens
    dsimp only [objV] at HRC HRD HRL HRF HRT HRE ⊢
    obtain ⟨n, hn⟩ : ∃ n, n = x.code.length := ⟨_, rfl⟩
    obtain ⟨nd, hnd⟩ : ∃ n, n = x.data.length := ⟨_, rfl⟩
    obtain ⟨nl, hnl⟩ : ∃ n, n = x.labels.length := ⟨_, rfl⟩
    obtain ⟨nf, hnf⟩ : ∃ n, n = x.fixes.length := ⟨_, rfl⟩
    obtain ⟨nt, hnt⟩ : ∃ n, n = x.targets.length := ⟨_, rfl⟩
    obtain ⟨ne, hne⟩ : ∃ n, n = x.entries.length := ⟨_, rfl⟩
    obtain ⟨z, hzr⟩ : ∃ z, z = x.zero := ⟨_, rfl⟩
    obtain ⟨sk, hsk⟩ : ∃ z, z = x.stack := ⟨_, rfl⟩
    rw [← hn, ← hnd, ← hnl, ← hnf, ← hnt, ← hne, ← hzr, ← hsk]
    rw [← hn] at HRC l1
    rw [← hnd] at HRD l2
    rw [← hnl] at HRL l3
    rw [← hnf] at HRF l4
    rw [← hnt] at HRT l5
    rw [← hne] at HRE l6
    have HN := hide_ hn.symm
    have HND := hide_ hnd.symm
    have HNL := hide_ hnl.symm
    have HNF := hide_ hnf.symm
    have HNT := hide_ hnt.symm
    have HNE := hide_ hne.symm
    have HZ := hide_ hzr.symm
    have HSK := hide_ hsk.symm
    dsimp only [objV] at HRK HRE' HNEW
    rw [← hn, ← hnd, ← hnl, ← hnf, ← hnt, ← hne, ← hzr, ← hsk] at HRK HRE' HNEW
    clear hr hx hn hnd hnl hnf hnt hne hzr hsk
    have HW1 := hide_ (show Below w.heap.size w (w.alloc (.cells #[.slice cA n cc, .slice dA nd dc, .int .u32 z, .int .u32 sk, .slice lA nl lc, .slice fA nf fc, .slice tA nt tc, .slice eA ne ec] 30)) from (Below.refl _ _).alloc (Nat.le_refl _) _)
    have HX1 := hide_ (heap_alloc_new w (.cells #[.slice cA n cc, .slice dA nd dc, .int .u32 z, .int .u32 sk, .slice lA nl lc, .slice fA nf fc, .slice tA nt tc, .slice eA ne ec] 30))
    obtain ⟨w1, hw1⟩ : ∃ W, W = w.alloc (.cells #[.slice cA n cc, .slice dA nd dc, .int .u32 z, .int .u32 sk, .slice lA nl lc, .slice fA nf fc, .slice tA nt tc, .slice eA ne ec] 30) := ⟨_, rfl⟩
    go_enter Tryz.func10, Tryz.ntmps10
    go_upto_region 1 with (fail)
    rw [← hw1] at HW1 HX1 ⊢
    clear hw1
    have f0 : w1.cell? ⟨w.heap.size, 0, none⟩ = some (.slice cA n cc) := cell_of_row w1 _ 0 _ _ _ HX1.out
    have f1 : w1.cell? ⟨w.heap.size, 1, none⟩ = some (.slice dA nd dc) := cell_of_row w1 _ 1 _ _ _ HX1.out
    have f2 : w1.cell? ⟨w.heap.size, 2, none⟩ = some (.int .u32 z) := cell_of_row w1 _ 2 _ _ _ HX1.out
    have f3 : w1.cell? ⟨w.heap.size, 3, none⟩ = some (.int .u32 sk) := cell_of_row w1 _ 3 _ _ _ HX1.out
    have f4 : w1.cell? ⟨w.heap.size, 4, none⟩ = some (.slice lA nl lc) := cell_of_row w1 _ 4 _ _ _ HX1.out
    have f5 : w1.cell? ⟨w.heap.size, 5, none⟩ = some (.slice fA nf fc) := cell_of_row w1 _ 5 _ _ _ HX1.out
    have f6 : w1.cell? ⟨w.heap.size, 6, none⟩ = some (.slice tA nt tc) := cell_of_row w1 _ 6 _ _ _ HX1.out
    have f7 : w1.cell? ⟨w.heap.size, 7, none⟩ = some (.slice eA ne ec) := cell_of_row w1 _ 7 _ _ _ HX1.out
    have hl1 := blk_lt HX1.out
    go_wp2_with fail
    refine (HRK.out _ HW1.out).mono ?_
    rintro e w2 ⟨rfl, hb2⟩
    have HX2 := hide_ (blk_below HX1.out hb2)
    have HW2 := hide_ (HW1.out.trans (hb2.mono HW1.out.size))
    have f0 := (hb2.cell (p := ⟨w.heap.size, 0, none⟩) hl1).trans f0
    have f1 := (hb2.cell (p := ⟨w.heap.size, 1, none⟩) hl1).trans f1
    have f2 := (hb2.cell (p := ⟨w.heap.size, 2, none⟩) hl1).trans f2
    have f3 := (hb2.cell (p := ⟨w.heap.size, 3, none⟩) hl1).trans f3
    have f4 := (hb2.cell (p := ⟨w.heap.size, 4, none⟩) hl1).trans f4
    have f5 := (hb2.cell (p := ⟨w.heap.size, 5, none⟩) hl1).trans f5
    have f6 := (hb2.cell (p := ⟨w.heap.size, 6, none⟩) hl1).trans f6
    have f7 := (hb2.cell (p := ⟨w.heap.size, 7, none⟩) hl1).trans f7
    have hl2 := Nat.lt_of_lt_of_le hl1 hb2.size
    clear hb2 hl1
    have HS3 := hide_ (HNEW.out w2 HW2.out)
    have HX3 := hide_ (blk_below HX2.out ((Below.refl w2.heap.size w2).alloc (Nat.le_refl _) (.cells #[.pointer none, .slice none 0 0, .slice cA n cc, .slice dA nd dc, .int .u32 z, .int .u32 sk, .slice lA nl lc, .slice fA nf fc, .slice tA nt tc, .slice eA ne ec] 66)))
    have HW3 := hide_ (HW2.out.alloc HW2.out.size (.cells #[.pointer none, .slice none 0 0, .slice cA n cc, .slice dA nd dc, .int .u32 z, .int .u32 sk, .slice lA nl lc, .slice fA nf fc, .slice tA nt tc, .slice eA ne ec] 66))
    obtain ⟨w3, hw3⟩ : ∃ W, W = w2.alloc (.cells #[.pointer none, .slice none 0 0, .slice cA n cc, .slice dA nd dc, .int .u32 z, .int .u32 sk, .slice lA nl lc, .slice fA nf fc, .slice tA nt tc, .slice eA ne ec] 66) := ⟨_, rfl⟩
    go_upto_region 5 with (fail)
    rw [← hw3] at HS3 HX3 HW3 ⊢
    clear hw3 f0 f1 f2 f3 f4 f5 f6 f7 hl2
    go_wp2_with fail
    refine (HCO.out _ _ HW3.out HS3.out).mono ?_
    rintro e w4 ⟨rfl, RL4, RF4, hS4, hL4, hF4, hM4⟩
    have HS4 := hide_ hS4
    have HW4 := hide_ (HW3.out.trans hM4.bel)
    have HX4 := hide_ (hM4.blk HX3.out (HS3.out.ne_blk HX3.out (by decide)) (by decide))
    have HL4 := hide_ (And.intro hL4 hF4)
    clear hS4 hM4 hL4 hF4
    go_wp2_with fail
    refine (HDA.out _ _ _ _ HW4.out HS4.out HL4.out.1 HL4.out.2).mono ?_
    rintro e w5 ⟨rfl, RL5, RF5, hS5, hL5, hF5, hM5⟩
    have HS5 := hide_ hS5
    have HW5 := hide_ (HW4.out.trans hM5.bel)
    have HX5 := hide_ (hM5.blk HX4.out (HS4.out.ne_blk HX4.out (by decide)) (by decide))
    have HL5 := hide_ (And.intro hL5 hF5)
    clear hS5 hM5 hL5 hF5
    go_wp2_with fail
    refine (HZE.out _ _ _ _ HW5.out HS5.out HL5.out.1 HL5.out.2).mono ?_
    rintro e w6 ⟨rfl, RL6, RF6, hS6, hM6⟩
    have HS6 := hide_ hS6
    have HW6 := hide_ (HW5.out.trans hM6.bel)
    have HX6 := hide_ (hM6.blk HX5.out (HS5.out.ne_blk HX5.out (by decide)) (by decide))
    clear hS6 hM6
    have f0 : w6.cell? ⟨w.heap.size, 0, none⟩ = some (.slice cA n cc) := cell_of_row w6 _ 0 _ _ _ HX6.out
    have f1 : w6.cell? ⟨w.heap.size, 1, none⟩ = some (.slice dA nd dc) := cell_of_row w6 _ 1 _ _ _ HX6.out
    have f2 : w6.cell? ⟨w.heap.size, 2, none⟩ = some (.int .u32 z) := cell_of_row w6 _ 2 _ _ _ HX6.out
    have f3 : w6.cell? ⟨w.heap.size, 3, none⟩ = some (.int .u32 sk) := cell_of_row w6 _ 3 _ _ _ HX6.out
    have f4 : w6.cell? ⟨w.heap.size, 4, none⟩ = some (.slice lA nl lc) := cell_of_row w6 _ 4 _ _ _ HX6.out
    have f5 : w6.cell? ⟨w.heap.size, 5, none⟩ = some (.slice fA nf fc) := cell_of_row w6 _ 5 _ _ _ HX6.out
    have f6 : w6.cell? ⟨w.heap.size, 6, none⟩ = some (.slice tA nt tc) := cell_of_row w6 _ 6 _ _ _ HX6.out
    have f7 : w6.cell? ⟨w.heap.size, 7, none⟩ = some (.slice eA ne ec) := cell_of_row w6 _ 7 _ _ _ HX6.out
    have hl6 := blk_lt HX6.out
    go_wp2_with fail
    refine (HRE'.out _ _ _ _ HW6.out HS6.out).mono ?_
    rintro e w7 ⟨rfl, RL7, RF7, hS7, hM7⟩
    have HW7 := hide_ (HW6.out.trans hM7.bel)
    obtain ⟨p, aL, cL, aF, cF, hp, hA, hR1, hc1, hR2, hc2⟩ := hS7
    rw [HBD.out] at hA
    have HA := hide_ hA
    obtain ⟨TT, hTT⟩ : ∃ t, t = bodyT x := ⟨_, rfl⟩
    rw [← hTT] at HA HBN HRES
    clear hM7 hp hA hR1 hc1 hR2 hc2 hTT f0 f1 f2 f3 f4 f5 f6 f7 hl6
    go_wp2_with fail
    refine (pr_len _ _ _ _ _ _ _ _ HA.out).mono ?_
    rintro e w8 ⟨rfl, rfl⟩
    have hres := HRES.out
    by_cases hbig : 524288 < TT.size
    · rw [if_pos hbig, if_pos hbig] at hres
      have HR2 := hide_ hres
      have hbi : (524288 : Int) < (TT.size : Int) := by omega
      clear hres hbig
      go_wp2
      go_ret2
      exact ⟨by rw [HR2.out.1, HR2.out.2]; rfl, HW7.out⟩
    · rw [if_neg hbig, if_neg hbig] at hres
      have HR2 := hide_ hres
      have hbi : ¬ (524288 : Int) < (TT.size : Int) := by omega
      clear hres hbig
      go_wp2_with fail
      refine (pr_text _ _ _ _ _ _ _ _ HA.out HBN.out).mono ?_
      rintro e w9 ⟨rfl, hb9⟩
      have HW9 := hide_ (HW7.out.trans hb9)
      clear hb9
      go_wp2
      go_ret2
      exact ⟨by rw [HR2.out.1, HR2.out.2]; rfl, HW9.out⟩
  · have HCV := hide_ (show chkV x = 104 from chkV_no (by simpa using hok))
    have HRES := hide_ (show prtS x = e0B ∧ prtE x = 104 from ⟨by rw [prtS, if_neg hok], by rw [prtE, if_neg hok]⟩)
    rw [HCV.out] at HRK
    clear hf hok hT
    obtain ⟨⟨cA, cc⟩, ⟨dA, dc⟩, ⟨lA, lc⟩, ⟨fA, fc⟩, ⟨tA, tc⟩, ⟨eA, ec⟩⟩ := s
    have HRC := hide_ hr.rc
    have HRD := hide_ hr.rd
    have HRL := hide_ hr.rl
    have HRF := hide_ hr.rf
    have HRT := hide_ hr.rt
    have HRE := hide_ hr.re
    obtain ⟨l1, l2, l3, l4, l5, l6⟩ := hx.lens
    have HX := hide_ hx
    dsimp only [objV] at HRC HRD HRL HRF HRT HRE ⊢
    obtain ⟨n, hn⟩ : ∃ n, n = x.code.length := ⟨_, rfl⟩
    obtain ⟨nd, hnd⟩ : ∃ n, n = x.data.length := ⟨_, rfl⟩
    obtain ⟨nl, hnl⟩ : ∃ n, n = x.labels.length := ⟨_, rfl⟩
    obtain ⟨nf, hnf⟩ : ∃ n, n = x.fixes.length := ⟨_, rfl⟩
    obtain ⟨nt, hnt⟩ : ∃ n, n = x.targets.length := ⟨_, rfl⟩
    obtain ⟨ne, hne⟩ : ∃ n, n = x.entries.length := ⟨_, rfl⟩
    obtain ⟨z, hzr⟩ : ∃ z, z = x.zero := ⟨_, rfl⟩
    obtain ⟨sk, hsk⟩ : ∃ z, z = x.stack := ⟨_, rfl⟩
    rw [← hn, ← hnd, ← hnl, ← hnf, ← hnt, ← hne, ← hzr, ← hsk]
    rw [← hn] at HRC l1
    rw [← hnd] at HRD l2
    rw [← hnl] at HRL l3
    rw [← hnf] at HRF l4
    rw [← hnt] at HRT l5
    rw [← hne] at HRE l6
    have HN := hide_ hn.symm
    have HND := hide_ hnd.symm
    have HNL := hide_ hnl.symm
    have HNF := hide_ hnf.symm
    have HNT := hide_ hnt.symm
    have HNE := hide_ hne.symm
    have HZ := hide_ hzr.symm
    have HSK := hide_ hsk.symm
    dsimp only [objV] at HRK
    rw [← hn, ← hnd, ← hnl, ← hnf, ← hnt, ← hne, ← hzr, ← hsk] at HRK
    clear hr hx hn hnd hnl hnf hnt hne hzr hsk
    obtain ⟨W1, hW1⟩ : ∃ W, W = w.alloc (.cells #[.slice cA n cc, .slice dA nd dc, .int .u32 z, .int .u32 sk, .slice lA nl lc, .slice fA nf fc, .slice tA nt tc, .slice eA ne ec] 30) := ⟨_, rfl⟩
    have f0 : W1.cell? ⟨w.heap.size, 0, none⟩ = some (.slice cA n cc) := by rw [hW1]; go_simp
    have f1 : W1.cell? ⟨w.heap.size, 1, none⟩ = some (.slice dA nd dc) := by rw [hW1]; go_simp
    have f2 : W1.cell? ⟨w.heap.size, 2, none⟩ = some (.int .u32 z) := by rw [hW1]; go_simp
    have f3 : W1.cell? ⟨w.heap.size, 3, none⟩ = some (.int .u32 sk) := by rw [hW1]; go_simp
    have f4 : W1.cell? ⟨w.heap.size, 4, none⟩ = some (.slice lA nl lc) := by rw [hW1]; go_simp
    have f5 : W1.cell? ⟨w.heap.size, 5, none⟩ = some (.slice fA nf fc) := by rw [hW1]; go_simp
    have f6 : W1.cell? ⟨w.heap.size, 6, none⟩ = some (.slice tA nt tc) := by rw [hW1]; go_simp
    have f7 : W1.cell? ⟨w.heap.size, 7, none⟩ = some (.slice eA ne ec) := by rw [hW1]; go_simp
    have HB1 := hide_ (show Below w.heap.size w W1 by rw [hW1]; exact (Below.refl _ _).alloc (Nat.le_refl _) _)
    have hlt0 : w.heap.size < W1.heap.size := by rw [hW1]; simp
    go_enter Tryz.func10, Tryz.ntmps10
    go_upto_region 1 with (fail)
    rw [← hW1]
    clear hW1
    go_wp2_with fail
    refine (HRK.out _ HB1.out).mono ?_
    rintro e w2 ⟨rfl, hb2⟩
    have HB2 := hide_ (HB1.out.trans (hb2.mono HB1.out.size))
    clear hb2 f0 f1 f2 f3 f4 f5 f6 f7
    go_wp2
    go_ret2
    exact ⟨by rw [HRES.out.1, HRES.out.2]; rfl, HB2.out⟩
end Go.Proofs.YtnkfjileaonemaaGreatDoor
