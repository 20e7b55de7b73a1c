/-
  The document's has, marked, fixAt.
-/
import Derived.Test.YtnkfjileaonemaaGreatDoorPrR
import Derived.Lib.QuietBelow
namespace Go.Proofs.YtnkfjileaonemaaGreatDoor
open Go.RowKit Go.PlainAid Go.BigFrame
set_option linter.unusedSimpArgs false
set_option linter.unusedVariables false
set_option maxRecDepth 100000

theorem hasL_cons (l : LabV) (R : List LabV) (sec : Int) : hasL (l :: R) sec = (decide (l.sec = sec) || hasL R sec) := rfl
set_option maxHeartbeats 4000000 in
theorem has_any (x : ObjV) (s : ObjS) (B : Nat) (sec : Int) (w : World) (hx : ObjOk x) (hr : ObjR w B x s) (hBw : B ≤ w.heap.size) :
    Calls Tryz.prog 60 #[.agg (objV x s), .int .u8 sec] w fun e w' => e = .returned (.bool (hasL x.labels sec)) ∧ Below w.heap.size w w' := by
  obtain ⟨⟨cA, cc⟩, ⟨dA, dc⟩, ⟨lA, lc⟩, ⟨fA, fc⟩, ⟨tA, tc⟩, ⟨eA, ec⟩⟩ := s
  have HRC := hide_ hr.rc
  have HRD := hide_ hr.rd
  have HRL := hide_ hr.rl
  have HRF := hide_ hr.rf
  have HRT := hide_ hr.rt
  have HRE := hide_ hr.re
  obtain ⟨l1, l2, l3, l4, l5, l6⟩ := hx.lens
  have HX := hide_ hx
  dsimp only [objV] at HRC HRD HRL HRF HRT HRE ⊢
  obtain ⟨n, hn⟩ : ∃ n, n = x.code.length := ⟨_, rfl⟩
  obtain ⟨nd, hnd⟩ : ∃ n, n = x.data.length := ⟨_, rfl⟩
  obtain ⟨nl, hnl⟩ : ∃ n, n = x.labels.length := ⟨_, rfl⟩
  obtain ⟨nf, hnf⟩ : ∃ n, n = x.fixes.length := ⟨_, rfl⟩
  obtain ⟨nt, hnt⟩ : ∃ n, n = x.targets.length := ⟨_, rfl⟩
  obtain ⟨ne, hne⟩ : ∃ n, n = x.entries.length := ⟨_, rfl⟩
  obtain ⟨z, hzr⟩ : ∃ z, z = x.zero := ⟨_, rfl⟩
  obtain ⟨sk, hsk⟩ : ∃ z, z = x.stack := ⟨_, rfl⟩
  rw [← hn, ← hnd, ← hnl, ← hnf, ← hnt, ← hne, ← hzr, ← hsk]
  rw [← hn] at HRC l1
  rw [← hnd] at HRD l2
  rw [← hnl] at HRL l3
  rw [← hnf] at HRF l4
  rw [← hnt] at HRT l5
  rw [← hne] at HRE l6
  have HN := hide_ hn.symm
  have HND := hide_ hnd.symm
  have HNL := hide_ hnl.symm
  have HNF := hide_ hnf.symm
  have HNT := hide_ hnt.symm
  have HNE := hide_ hne.symm
  have HZ := hide_ hzr.symm
  have HSK := hide_ hsk.symm
  clear hr hx hn hnd hnl hnf hnt hne hzr hsk
  obtain ⟨T, hT⟩ : ∃ T, T = hasL x.labels sec := ⟨_, rfl⟩
  rw [← hT]
  have HT := hide_ hT.symm
  have HBW := hide_ hBw
  clear hT hBw
  obtain ⟨W1, hW1⟩ : ∃ W, W = w.alloc (.cells #[.slice cA n cc, .slice dA nd dc, .int .u32 z, .int .u32 sk, .slice lA nl lc, .slice fA nf fc, .slice tA nt tc, .slice eA ne ec] 30) := ⟨_, rfl⟩
  have f4 : W1.cell? ⟨w.heap.size, 4, none⟩ = some (.slice lA nl lc) := by rw [hW1]; go_simp
  have HB1 := hide_ (show Below w.heap.size w W1 by rw [hW1]; exact (Below.refl _ _).alloc (Nat.le_refl _) _)
  have hlt0 : w.heap.size < W1.heap.size := by rw [hW1]; simp
  go_enter Tryz.func60, Tryz.ntmps60
  go_upto_region 1 with (fail)
  rw [← hW1]
  clear hW1
  go_wp2
  go_loopw [5] (fun i wr => ∃ (k : Nat), k ≤ nl ∧ i = .int .i64 k ∧ Hid (hasL (x.labels.drop k) sec = T) ∧ Drew W1 wr) (fun i _ => nl - (intOf i).toNat)
  case atStart => exact ⟨0, Nat.zero_le _, rfl, hide_ (by rw [List.drop_zero, HT.out]), Drew.refl W1⟩
  case round =>
    obtain ⟨k, hk, rfl, HS, hd⟩ := hrel
    have HD := hide_ hd
    have f4 := (hd.cell _).trans f4
    have hlt0 : w.heap.size < wr.heap.size := by rw [hd.size]; exact hlt0
    have HBR := hide_ (HB1.out.trans (hd.below _))
    clear hd
    by_cases hlt : k < nl
    · obtain ⟨⟨nm, lsec, lpl, lop⟩, ht⟩ : ∃ t, x.labels[k]? = some t := ⟨_, List.getElem?_eq_getElem (by have := HNL.out; omega)⟩
      have HDR := hide_ (drop_at ht)
      obtain ⟨_, ad, rfl, hbk, p0, p1⟩ := el_cells lE_len (HRL.out.below (HBR.out.mono HBW.out)) (by omega) ht
      have x1 := p1 1 _ (by omega) rfl
      simp only at x1
      have hbs : (ad.add (k * 4)).block < wr.heap.size := by have := HBW.out; have := HBR.out.size; omega
      clear p0 p1 ht hbk
      by_cases h1 : lsec = sec
      · subst h1
        have hS := HS.out
        rw [HDR.out, hasL_cons, decide_eq_true rfl, Bool.true_or] at hS
        have HS2 := hide_ hS
        clear hS
        go_wp2
        go_ret
        exact ⟨by rw [← HS2.out]; rfl, HBR.out⟩
      · have e1 : (lsec == sec) = false := by simpa using h1
        have hS := HS.out
        rw [HDR.out, hasL_cons, decide_eq_false h1, Bool.false_or] at hS
        have HS2 := hide_ hS
        clear hS h1
        go_wp2
        go_roundw
        case rel => exact ⟨k + 1, by omega, by go_num, HS2, HD.out⟩
        case measure => simp [intOf]; omega
    · obtain rfl : k = nl := by omega
      have HF := hide_ (show false = T by
        have h := HS.out
        rw [List.drop_of_length_le (by have := HNL.out; omega)] at h
        exact h)
      go_wp2
      go_ret
      exact ⟨by rw [← HF.out]; rfl, HBR.out⟩
theorem str_empty (T : ByteArray) : (T.toList == ([] : List UInt8)) = decide (T = e0B) := by
  have h := str_beq T e0B
  rw [show e0B.toList = [] from by unfold e0B ByteArray.toList; rw [ByteArray.toList.loop]; simp [ByteArray.size]] at h
  exact h
set_option maxHeartbeats 2000000 in
theorem marked_any (x : ObjV) (s : ObjS) (B : Nat) (sec pl : Int) (w : World) (hx : ObjOk x) (hr : ObjR w B x s) (hBw : B ≤ w.heap.size) (hz : (atL x.labels sec pl).size ≤ 140737488351232) :
    Calls Tryz.prog 61 #[.agg (objV x s), .int .u8 sec, .int .u32 pl] w fun e w' => e = .returned (.bool (decide (atL x.labels sec pl ≠ e0B))) ∧ Below w.heap.size w w' := by
  have HLA := hide_ (fun W (hw : Below w.heap.size w W) => labelsAt_any x s B sec pl W hx (hr.below (hw.mono hBw)) (Nat.le_trans hBw hw.size) hz)
  obtain ⟨⟨cA, cc⟩, ⟨dA, dc⟩, ⟨lA, lc⟩, ⟨fA, fc⟩, ⟨tA, tc⟩, ⟨eA, ec⟩⟩ := s
  have HRC := hide_ hr.rc
  have HRD := hide_ hr.rd
  have HRL := hide_ hr.rl
  have HRF := hide_ hr.rf
  have HRT := hide_ hr.rt
  have HRE := hide_ hr.re
  obtain ⟨l1, l2, l3, l4, l5, l6⟩ := hx.lens
  have HX := hide_ hx
  dsimp only [objV] at HRC HRD HRL HRF HRT HRE ⊢
  obtain ⟨n, hn⟩ : ∃ n, n = x.code.length := ⟨_, rfl⟩
  obtain ⟨nd, hnd⟩ : ∃ n, n = x.data.length := ⟨_, rfl⟩
  obtain ⟨nl, hnl⟩ : ∃ n, n = x.labels.length := ⟨_, rfl⟩
  obtain ⟨nf, hnf⟩ : ∃ n, n = x.fixes.length := ⟨_, rfl⟩
  obtain ⟨nt, hnt⟩ : ∃ n, n = x.targets.length := ⟨_, rfl⟩
  obtain ⟨ne, hne⟩ : ∃ n, n = x.entries.length := ⟨_, rfl⟩
  obtain ⟨z, hzr⟩ : ∃ z, z = x.zero := ⟨_, rfl⟩
  obtain ⟨sk, hsk⟩ : ∃ z, z = x.stack := ⟨_, rfl⟩
  rw [← hn, ← hnd, ← hnl, ← hnf, ← hnt, ← hne, ← hzr, ← hsk]
  rw [← hn] at HRC l1
  rw [← hnd] at HRD l2
  rw [← hnl] at HRL l3
  rw [← hnf] at HRF l4
  rw [← hnt] at HRT l5
  rw [← hne] at HRE l6
  have HN := hide_ hn.symm
  have HND := hide_ hnd.symm
  have HNL := hide_ hnl.symm
  have HNF := hide_ hnf.symm
  have HNT := hide_ hnt.symm
  have HNE := hide_ hne.symm
  have HZ := hide_ hzr.symm
  have HSK := hide_ hsk.symm
  dsimp only [objV] at HLA
  rw [← hn, ← hnd, ← hnl, ← hnf, ← hnt, ← hne, ← hzr, ← hsk] at HLA
  clear hr hx hn hnd hnl hnf hnt hne hzr hsk
  obtain ⟨T, hT⟩ : ∃ T, T = atL x.labels sec pl := ⟨_, rfl⟩
  rw [← hT] at HLA ⊢
  clear hT hBw hz
  obtain ⟨W1, hW1⟩ : ∃ W, W = w.alloc (.cells #[.slice cA n cc, .slice dA nd dc, .int .u32 z, .int .u32 sk, .slice lA nl lc, .slice fA nf fc, .slice tA nt tc, .slice eA ne ec] 30) := ⟨_, rfl⟩
  have f0 : W1.cell? ⟨w.heap.size, 0, none⟩ = some (.slice cA n cc) := by rw [hW1]; go_simp
  have f1 : W1.cell? ⟨w.heap.size, 1, none⟩ = some (.slice dA nd dc) := by rw [hW1]; go_simp
  have f2 : W1.cell? ⟨w.heap.size, 2, none⟩ = some (.int .u32 z) := by rw [hW1]; go_simp
  have f3 : W1.cell? ⟨w.heap.size, 3, none⟩ = some (.int .u32 sk) := by rw [hW1]; go_simp
  have f4 : W1.cell? ⟨w.heap.size, 4, none⟩ = some (.slice lA nl lc) := by rw [hW1]; go_simp
  have f5 : W1.cell? ⟨w.heap.size, 5, none⟩ = some (.slice fA nf fc) := by rw [hW1]; go_simp
  have f6 : W1.cell? ⟨w.heap.size, 6, none⟩ = some (.slice tA nt tc) := by rw [hW1]; go_simp
  have f7 : W1.cell? ⟨w.heap.size, 7, none⟩ = some (.slice eA ne ec) := by rw [hW1]; go_simp
  have HB1 := hide_ (show Below w.heap.size w W1 by rw [hW1]; exact (Below.refl _ _).alloc (Nat.le_refl _) _)
  have hlt0 : w.heap.size < W1.heap.size := by rw [hW1]; simp
  go_enter Tryz.func61, Tryz.ntmps61
  go_upto_region 1 with (fail)
  rw [← hW1]
  clear hW1
  go_wp2_with fail
  refine (HLA.out _ HB1.out).mono ?_
  rintro e W2 ⟨rfl, hb2⟩
  have HB2 := hide_ (HB1.out.trans (hb2.mono HB1.out.size))
  clear hb2 f0 f1 f2 f3 f4 f5 f6 f7
  by_cases hT0 : T = e0B
  · have hq : (T.toList == ([] : List UInt8)) = true := by rw [str_empty, decide_eq_true hT0]
    have hres : decide (T ≠ e0B) = false := by simpa using hT0
    have HRES := hide_ hres
    clear hT0 hres
    go_wp2
    go_ret
    exact ⟨by rw [HRES.out]; rfl, HB2.out⟩
  · have hq : (T.toList == ([] : List UInt8)) = false := by rw [str_empty, decide_eq_false hT0]
    have hres : decide (T ≠ e0B) = true := by simpa using hT0
    have HRES := hide_ hres
    clear hT0 hres
    go_wp2
    go_ret
    exact ⟨by rw [HRES.out]; rfl, HB2.out⟩
theorem fixT_cons (f : FixV) (R : List FixV) (sec at_ : Int) : fixT (f :: R) sec at_ = if fixAtB sec at_ f = true then fixTx f else fixT R sec at_ := by
  unfold fixT
  rw [List.find?_cons]
  cases h : fixAtB sec at_ f <;> simp
set_option maxHeartbeats 8000000 in
theorem fixAt_any (x : ObjV) (s : ObjS) (B : Nat) (sec pl : Int) (w : World) (hx : ObjOk x) (hr : ObjR w B x s) (hBw : B ≤ w.heap.size) (hz : (fixT x.fixes sec pl).size ≤ 140737488351232) :
    Calls Tryz.prog 58 #[.agg (objV x s), .int .u8 sec, .int .u32 pl] w fun e w' => e = .returned (.string (fixT x.fixes sec pl)) ∧ Below w.heap.size w w' := by
  obtain ⟨⟨cA, cc⟩, ⟨dA, dc⟩, ⟨lA, lc⟩, ⟨fA, fc⟩, ⟨tA, tc⟩, ⟨eA, ec⟩⟩ := s
  have HRC := hide_ hr.rc
  have HRD := hide_ hr.rd
  have HRL := hide_ hr.rl
  have HRF := hide_ hr.rf
  have HRT := hide_ hr.rt
  have HRE := hide_ hr.re
  obtain ⟨l1, l2, l3, l4, l5, l6⟩ := hx.lens
  have HX := hide_ hx
  dsimp only [objV] at HRC HRD HRL HRF HRT HRE ⊢
  obtain ⟨n, hn⟩ : ∃ n, n = x.code.length := ⟨_, rfl⟩
  obtain ⟨nd, hnd⟩ : ∃ n, n = x.data.length := ⟨_, rfl⟩
  obtain ⟨nl, hnl⟩ : ∃ n, n = x.labels.length := ⟨_, rfl⟩
  obtain ⟨nf, hnf⟩ : ∃ n, n = x.fixes.length := ⟨_, rfl⟩
  obtain ⟨nt, hnt⟩ : ∃ n, n = x.targets.length := ⟨_, rfl⟩
  obtain ⟨ne, hne⟩ : ∃ n, n = x.entries.length := ⟨_, rfl⟩
  obtain ⟨z, hzr⟩ : ∃ z, z = x.zero := ⟨_, rfl⟩
  obtain ⟨sk, hsk⟩ : ∃ z, z = x.stack := ⟨_, rfl⟩
  rw [← hn, ← hnd, ← hnl, ← hnf, ← hnt, ← hne, ← hzr, ← hsk]
  rw [← hn] at HRC l1
  rw [← hnd] at HRD l2
  rw [← hnl] at HRL l3
  rw [← hnf] at HRF l4
  rw [← hnt] at HRT l5
  rw [← hne] at HRE l6
  have HN := hide_ hn.symm
  have HND := hide_ hnd.symm
  have HNL := hide_ hnl.symm
  have HNF := hide_ hnf.symm
  have HNT := hide_ hnt.symm
  have HNE := hide_ hne.symm
  have HZ := hide_ hzr.symm
  have HSK := hide_ hsk.symm
  clear hr hx hn hnd hnl hnf hnt hne hzr hsk
  obtain ⟨T, hT⟩ : ∃ T, T = fixT x.fixes sec pl := ⟨_, rfl⟩
  rw [← hT] at hz ⊢
  have HT := hide_ hT.symm
  have HBW := hide_ hBw
  have HSZ := hide_ hz
  clear hT hz hBw
  obtain ⟨W1, hW1⟩ : ∃ W, W = w.alloc (.cells #[.slice cA n cc, .slice dA nd dc, .int .u32 z, .int .u32 sk, .slice lA nl lc, .slice fA nf fc, .slice tA nt tc, .slice eA ne ec] 30) := ⟨_, rfl⟩
  have f5 : W1.cell? ⟨w.heap.size, 5, none⟩ = some (.slice fA nf fc) := by rw [hW1]; go_simp
  have HB1 := hide_ (show Below w.heap.size w W1 by rw [hW1]; exact (Below.refl _ _).alloc (Nat.le_refl _) _)
  have hlt0 : w.heap.size < W1.heap.size := by rw [hW1]; simp
  go_enter Tryz.func58, Tryz.ntmps58
  go_upto_region 1 with (fail)
  rw [← hW1]
  clear hW1
  go_wp2
  go_loopw [7] (fun i wr => ∃ (k : Nat), k ≤ nf ∧ i = .int .i64 k ∧ Hid (fixT (x.fixes.drop k) sec pl = T) ∧ Below W1.heap.size W1 wr) (fun i _ => nf - (intOf i).toNat)
  case atStart => exact ⟨0, Nat.zero_le _, rfl, hide_ (by rw [List.drop_zero, HT.out]), Below.refl _ _⟩
  case round =>
    obtain ⟨k, hk, rfl, HS, hb⟩ := hrel
    have HB := hide_ hb
    have f5 := (hb.cell (p := ⟨w.heap.size, 5, none⟩) hlt0).trans f5
    have hlt0 : w.heap.size < wr.heap.size := Nat.lt_of_lt_of_le hlt0 hb.size
    have HBR := hide_ (HB1.out.trans (hb.mono HB1.out.size))
    clear hb
    by_cases hlt : k < nf
    · obtain ⟨⟨fsec, fpl, nm, fadd⟩, ht⟩ : ∃ t, x.fixes[k]? = some t := ⟨_, List.getElem?_eq_getElem (by have := HNF.out; omega)⟩
      have HDR := hide_ (drop_at ht)
      have ho := HX.out.fixes _ (List.mem_of_getElem? ht)
      obtain ⟨hnz, _, _, ha0, ha1⟩ := ho
      simp only at hnz ha0 ha1
      obtain ⟨_, ad, rfl, hbk, p0, p1⟩ := el_cells fE_len (HRF.out.below (HBR.out.mono HBW.out)) (by omega) ht
      have x0 := p0 _ rfl
      have x1 := p1 1 _ (by omega) rfl
      have x2 := p1 2 _ (by omega) rfl
      have x3 := p1 3 _ (by omega) rfl
      simp only at x0 x1 x2 x3
      have hbs : (ad.add (k * 4)).block < wr.heap.size := by have := HBW.out; have := HBR.out.size; omega
      have HBA := hide_ (HB.out.alloc HB.out.size (.cells #[.int .u8 fsec, .int .u32 fpl, .string nm, .int .u32 fadd] 47))
      have HBAR := hide_ (HBR.out.alloc HBR.out.size (.cells #[.int .u8 fsec, .int .u32 fpl, .string nm, .int .u32 fadd] 47))
      clear p0 p1 ht hbk
      by_cases h1 : fsec = sec
      · subst h1
        by_cases h2 : fpl = pl
        · subst h2
          have hS := HS.out
          rw [HDR.out, fixT_cons, if_pos (by simp [fixAtB]), fixTx] at hS
          by_cases h3 : fadd = 0
          · subst h3
            rw [if_pos rfl] at hS
            have HS2 := hide_ hS
            clear hS
            go_wp2
            go_ret
            exact ⟨by rw [← HS2.out]; rfl, HBAR.out⟩
          · have e3 : (fadd == 0) = false := by simpa using h3
            dsimp only at hS
            rw [if_neg h3] at hS
            have HS2 := hide_ hS
            have hs1 : (⟨#[43]⟩ : ByteArray).size = 1 := rfl
            have hz1 := decT_size fadd.toNat (by omega)
            obtain ⟨D, hD⟩ : ∃ D, D = decT fadd.toNat := ⟨_, rfl⟩
            obtain ⟨m, hm⟩ : ∃ m : Nat, fadd = (m : Int) := ⟨fadd.toNat, by omega⟩
            have HU := hide_ (fun W => unsigned_any m (by omega) W)
            rw [hm, Int.toNat_natCast] at hD
            rw [show fadd.toNat = m by omega] at HS2 hz1
            subst hm
            rw [← hD] at HU HS2 hz1
            have hm1 : ¬ 9223372036854775807 < nm.size + 1 := by omega
            have hm2 : ¬ 9223372036854775807 < nm.size + 1 + D.size := by omega
            clear hS hD h3 hs1 ha0 ha1
            obtain ⟨W5, hW5⟩ : ∃ W, W = wr.alloc (.cells #[.int .u8 fsec, .int .u32 fpl, .string nm, .int .u32 (m : Int)] 47) := ⟨_, rfl⟩
            have g2 : W5.cell? ⟨wr.heap.size, 2, none⟩ = some (.string nm) := by rw [hW5]; go_simp
            have g3 : W5.cell? ⟨wr.heap.size, 3, none⟩ = some (.int .u32 (m : Int)) := by rw [hW5]; go_simp
            have hlt5 : wr.heap.size < W5.heap.size := by rw [hW5]; simp
            go_upto_region 8 with (fail)
            rw [← hW5] at HBAR ⊢
            clear hW5
            have cU : ∀ d os, Calls Tryz.prog 31 #[.int .u32 (m : Int)] (Sort.grow (redrawn W5 d) os) fun e w'' => e = .returned (.string D) ∧ ∃ p : Regrown, w'' = Sort.grow (redrawn W5 p.d) p.os := fun d os => Calls.regrown_of (HU.out _)
            replace g2 := cell_regrown g2
            replace g3 := cell_regrown g3
            refine wp_region_quiet_below (by kernel_rfl) (by kernel_rfl) ?_
            repeat (go_big_quiet_step ((exact cU _ _)))
            refine wpQuiet_nil ?_
            intro w6 hw'
            obtain ⟨⟨dq, osq⟩, hw''⟩ := hw'
            have HB6 := hide_ (show Below w.heap.size w w6 by rw [hw'']; exact HBAR.out.trans ((below_regrown W5 dq osq).mono HBAR.out.size))
            clear hw'' g2 g3 cU
            go_wp2
            go_ret
            exact ⟨by rw [← HS2.out]; rfl, HB6.out⟩
        · have e2 : (fpl == pl) = false := by simpa using h2
          have hS := HS.out
          rw [HDR.out, fixT_cons, if_neg (by simp [fixAtB, h2])] at hS
          have HS2 := hide_ hS
          clear hS h2
          go_wp2
          go_roundw
          case rel => exact ⟨k + 1, by omega, by go_num, HS2, HBA.out⟩
          case measure => simp [intOf]; omega
      · have e1 : (fsec == sec) = false := by simpa using h1
        have hS := HS.out
        rw [HDR.out, fixT_cons, if_neg (by simp [fixAtB, h1])] at hS
        have HS2 := hide_ hS
        clear hS h1
        go_wp2
        go_roundw
        case rel => exact ⟨k + 1, by omega, by go_num, HS2, HBA.out⟩
        case measure => simp [intOf]; omega
    · obtain rfl : k = nf := by omega
      have HF := hide_ (show e0B = T by
        have h := HS.out
        rw [List.drop_of_length_le (by have := HNF.out; omega)] at h
        exact h)
      go_wp2
      go_ret
      exact ⟨by rw [← HF.out]; rfl, HBR.out⟩
end Go.Proofs.YtnkfjileaonemaaGreatDoor
