/-
  The world of GatePlays: one call of the script.
-/
import Derived.Test.YtcfpclhoockcfaaM32
namespace Go.Proofs.Ytcfpclhoockcfaa
open Go.RowKit Go.PlainAid Go.BigFrame Go.Maps
set_option linter.unusedVariables false
set_option linter.unusedSimpArgs false
set_option maxRecDepth 100000
theorem Pick_eq (a : Int) (n : Nat) (hn : 0 < n) (hn2 : n ≤ 140737488351232) (ha : (Lit.int .i64 a).wf = true) :
    ∃ k : Nat, k < n ∧ ∀ w, Calls Try.prog 16 #[.int .i64 a, .int .i64 n] w fun e w' => e = .returned (.int .i64 k) ∧ w' = w := by
  have h1 : Int.tmod a n < n := Int.tmod_lt_of_pos a (by omega)
  have h2 : -(n : Int) < Int.tmod a n := by
    have h := Int.tmod_lt_of_pos (-a) (b := n) (by omega)
    rw [Int.neg_tmod] at h
    omega
  obtain ⟨r, hr⟩ : ∃ r, r = Int.tmod a n := ⟨_, rfl⟩
  rw [← hr] at h1 h2
  have hr' := hr.symm
  have g1 : ¬ ((n : Int) < 1) := by omega
  have n0 : ((n : Int) == 0) = false := by rw [beq_eq_false_iff_ne]; omega
  have n1 : ¬ ((n : Int) = 0) := by omega
  have s1 : IntKind.i64.wrap r = r := IntWalk.i64_in _ (by omega)
  have s2 : IntKind.i64.wrap (r + n) = r + n := IntWalk.i64_in _ (by omega)
  clear hr
  by_cases h0 : r < 0
  · have hk : ∃ k : Nat, (k : Int) = r + n ∧ k < n := ⟨(r + n).toNat, by omega, by omega⟩
    obtain ⟨k, hk1, hk2⟩ := hk
    refine ⟨k, hk2, fun w => ?_⟩
    have HK := hide_ (And.intro hk1 hk2)
    clear hk1 hk2
    go_enter Try.func16, Try.ntmps16
    go_wp2
    go_ret
    exact ⟨by rw [HK.out.1]; rfl, rfl⟩
  · have hk : ∃ k : Nat, (k : Int) = r ∧ k < n := ⟨r.toNat, by omega, by omega⟩
    obtain ⟨k, hk1, hk2⟩ := hk
    refine ⟨k, hk2, fun w => ?_⟩
    have HK := hide_ (And.intro hk1 hk2)
    clear hk1 hk2
    go_enter Try.func16, Try.ntmps16
    go_wp2
    go_ret
    exact ⟨by rw [HK.out.1]; rfl, rfl⟩
section
variable {F : Nat → Prop} {W W' : World} {B q0 k : Nat} {st : GW} {ex : List Ro}
theorem GInv.granted (h : GInv F W B q0 k st ex) {i : Nat} {x : GV} (hx : st.gs[i]? = some x) (a : Int) (ha : (Lit.int .u32 a).wf = true) :
    Calls Try.prog 17 #[.pointer (some ⟨x.q, 0, none⟩), .int .u32 a] W fun e w' => e = .returned (.tuple #[.int .i64 (findN x.l a).1, .bool (findN x.l a).2]) ∧ w' = W := by
  have hg := h.gok x (List.mem_of_getElem? hx)
  obtain ⟨D, hD, hga⟩ := hg.at_
  refine (Granted_any x.q D a W hga ha).mono ?_
  rintro e w' ⟨c, rfl, hc, rfl⟩
  rw [hD.find hg.ok hc]
  exact ⟨rfl, rfl⟩
theorem GInv.within (h : GInv F W B q0 k st ex) {i j : Nat} {x z : GV} (hx : st.gs[i]? = some x) (hz : st.gs[j]? = some z) :
    Calls Try.prog 22 #[.pointer (some ⟨x.q, 0, none⟩), .pointer (some ⟨z.q, 0, none⟩)] W fun e w' => e = .returned (.bool (withinL x.l z.l)) ∧ Below W.heap.size W w' := by
  have hg := h.gok x (List.mem_of_getElem? hx)
  have hg2 := h.gok z (List.mem_of_getElem? hz)
  obtain ⟨D, hD, hga⟩ := hg.at_
  obtain ⟨D2, hD2, hga2⟩ := hg2.at_
  refine (Within_any x.q z.q D D2 W hga hga2).mono ?_
  rintro e w' ⟨b, rfl, hb, hbw⟩
  have h2 := within_iff hD hD2 hg.ok hg2.ok
  have e1 : b = withinL x.l z.l := by
    rw [Bool.eq_iff_iff, hb, h2]
  rw [e1]
  exact ⟨rfl, hbw⟩
set_option maxHeartbeats 4000000 in
theorem asked_any (h : GInv F W B q0 k st ex) (hk : k ≤ 5000000000000) (y : AskV) (hkd : (Lit.int .i64 y.kind).wf = true) (hy : AskOk W B y) :
    Calls Try.prog 6 #[.pointer (some ⟨q0, 0, none⟩), .agg (askC y)] W fun e W' => e = .returned (.bool true) ∧ ∃ F' st', GInv F' W' B q0 (k + 1) st' ex ∧ Below B W W' := by
  obtain ⟨W1, hW1⟩ : ∃ W1, W1 = W.alloc (.cells (askC y) 45) := ⟨_, rfl⟩
  have HW1 := hide_ (show Below W.heap.size W W1 by rw [hW1]; exact (Below.refl _ _).alloc (Nat.le_refl _) _)
  have HK0 := hide_ (show Blk W1 W.heap.size 45 (askC y) by rw [hW1]; exact Blk.new W _ _)
  have HI1 := hide_ (h.below HW1.out)
  have HY1 := hide_ (hy.below (HW1.out.mono h.base))
  have HBX := hide_ (fun (W2 : World) (hb : Below W1.heap.size W1 W2) => show (W2.cell? ⟨W.heap.size, 0, none⟩ = some (.int .i64 y.on) ∧ W2.cell? ⟨W.heap.size, 1, none⟩ = some (.int .i64 y.to_) ∧ W2.cell? ⟨W.heap.size, 2, none⟩ = some (.int .i64 y.kind) ∧ W2.cell? ⟨W.heap.size, 3, none⟩ = some (.int .u32 y.a) ∧ W2.cell? ⟨W.heap.size, 4, none⟩ = some (.int .u32 y.b) ∧ W2.cell? ⟨W.heap.size, 5, none⟩ = some (.slice y.LA y.ln y.lc) ∧ W2.cell? ⟨W.heap.size, 6, none⟩ = some (.int .u32 y.v) ∧ W2.cell? ⟨W.heap.size, 7, none⟩ = some (.slice y.WA y.wn y.wc)) ∧ W.heap.size < W2.heap.size from
    have k1 := HK0.out.below hb HK0.out.lt
    ⟨⟨k1.cell 0, k1.cell 1, k1.cell 2, k1.cell 3, k1.cell 4, k1.cell 5, k1.cell 6, k1.cell 7⟩, k1.lt⟩)
  have HGL := hide_ h.gl
  obtain ⟨gn, hgn⟩ : ∃ n, n = st.gs.length := ⟨_, rfl⟩
  have hpos := h.pos
  have hgl := h.gl
  rw [← hgn] at hpos hgl
  obtain ⟨pk, hpk, hpc⟩ := Pick_eq y.on gn hpos (by omega) hy.on
  obtain ⟨pt, hpt, hptc⟩ := Pick_eq y.to_ gn hpos (by omega) hy.to
  have HPC := hide_ hpc
  have HPT := hide_ hptc
  have HGN := hide_ hgn
  obtain ⟨x, hx⟩ : ∃ x, st.gs[pk]? = some x := ⟨_, List.getElem?_eq_getElem (by omega)⟩
  obtain ⟨z, hz⟩ : ∃ x, st.gs[pt]? = some x := ⟨_, List.getElem?_eq_getElem (by omega)⟩
  have HX := hide_ hx
  have HZ := hide_ hz
  have HKK := hide_ hk
  have HBW := hide_ h.base
  have HPK := hide_ hpk
  have HPTL := hide_ hpt
  have hil : (pk : Int) < (gn : Int) := by omega
  have hjl : (pt : Int) < (gn : Int) := by omega
  have HGA := hide_ (fun W2 (h2 : GInv F W2 B q0 k st ex) => h2.gate hx)
  have HGZ := hide_ (fun W2 (h2 : GInv F W2 B q0 k st ex) => h2.gate hz)
  clear h hpc hptc hx hz hpos hgl hy hk hgn hpk hpt
  unfold askC at hW1 ⊢
  obtain ⟨bg, cg, br, cr, eg, er, ⟨f0, f1, f2, f3⟩, ⟨z0, z1, z2⟩, _⟩ := HGA.out W1 HI1.out
  obtain ⟨⟨x0, x1, x2, x3, x4, x5, x6, x7⟩, z3⟩ := HBX.out W1 (Below.refl _ _)
  rw [← HGN.out] at f0 f1
  clear eg er
  go_enter Try.func6, Try.ntmps6
  go_upto_region 1 with (fail)
  rw [← hW1]
  clear hW1
  go_big_quiet ((go_at_call 16; exact Calls.quiet_of_same (HPC.out _)))
  obtain ⟨W2, hW2⟩ : ∃ W2, W2 = W1.drewN nq := ⟨_, rfl⟩
  have HB2 := hide_ (show Below W1.heap.size W1 W2 by rw [hW2]; exact below_draws2 (Below.refl _ _) nq)
  rw [← hW2]
  clear hW2 f0 f1 f2 f3 z0 z1 z2 x0 x1 x2 x3 x4 x5 x6 x7 z3
  have HI2 := hide_ (HI1.out.below HB2.out)
  have HY2 := hide_ (HY1.out.below (HB2.out.mono HI1.out.base))
  have HBWW := hide_ (show Below B W W2 from (HW1.out.mono HBW.out).trans (HB2.out.mono HI1.out.base))
  obtain ⟨⟨x0, x1, x2, x3, x4, x5, x6, x7⟩, z3⟩ := HBX.out W2 HB2.out
  have HPL := hide_ (show pk < st.gs.length by rw [← HGN.out]; exact HPK.out)
  obtain ⟨kd, hkk⟩ : ∃ n, n = y.kind := ⟨_, rfl⟩
  rw [← hkk] at x2
  have HKD := hide_ hkk
  clear hkk
  by_cases h0 : kd = 0
  · subst h0
    have HC := hide_ (grantsAsked_any HI2.out pk HPL.out HKK.out)
    go_upto_region 4 with (fail)
    go_wp2_with fail
    refine HC.out.mono ?_
    rintro e W3 ⟨rfl, st', hi3, _, hb3⟩
    have HF := hide_ hi3
    have HBF := hide_ (HBWW.out.trans hb3)
    clear hi3 hb3 HC
    go_wp2_with fail
    exact bodyPost_ret (v := .bool true) (by simp [results, Try.results6, go_sem]) rfl ⟨rfl, _, _, HF.out, HBF.out⟩
  have d0 : (kd == 0) = false := by rw [beq_eq_false_iff_ne]; exact h0
  clear h0
  by_cases h1 : kd = 1
  · subst h1
    have HGC := hide_ (fun W3 (h2 : GInv F W3 B q0 k st ex) => h2.granted HX.out y.a (u32_lit HY2.out.a.1 HY2.out.a.2))
    have HRC := hide_ (fun W3 (h2 : GInv F W3 B q0 k st ex) => rGranted_any x.A x.l.length x.c W3.heap.size x.l y.a W3 (h2.gok x (List.mem_of_getElem? HX.out)).rd (Nat.le_refl _) (by have := (h2.gok x (List.mem_of_getElem? HX.out)).ok.few; omega))
    obtain ⟨u, hu⟩ : ∃ u, u = findN x.l y.a := ⟨_, rfl⟩
    rw [← hu] at HGC HRC
    clear hu
    obtain ⟨uc, ub⟩ := u
    dsimp only at HGC HRC
    obtain ⟨bg, cg, br, cr, eg, er, ⟨f0, f1, f2, f3⟩, ⟨z0, z1, z2⟩, _⟩ := HGA.out W2 HI2.out
    rw [← HGN.out] at f0 f1
    clear eg er
    go_upto_region 6 with (fail)
    go_big_quiet ((go_at_call 17; exact Calls.quiet_of_same (HGC.out _ (HI2.out.below (below_draws2 (Below.refl _ _) _)))))
    obtain ⟨W3, hW3⟩ : ∃ W3, W3 = W2.drewN nq := ⟨_, rfl⟩
    have HB3 := hide_ (show Below W2.heap.size W2 W3 by rw [hW3]; exact below_draws2 (Below.refl _ _) nq)
    rw [← hW3]
    clear hW3 f0 f1 f2 f3 z0 z1 z2 x0 x1 x2 x3 x4 x5 x6 x7 z3
    have HI3 := hide_ (HI2.out.below HB3.out)
    obtain ⟨bg, cg, br, cr, eg, er, ⟨f0, f1, f2, f3⟩, ⟨z0, z1, z2⟩, _⟩ := HGA.out W3 HI3.out
    obtain ⟨⟨x0, x1, x2, x3, x4, x5, x6, x7⟩, z3⟩ := HBX.out W3 (HB2.out.trans (HB3.out.mono HB2.out.size))
    rw [← HGN.out] at f0 f1
    clear eg er
    go_upto_region 7 with (fail)
    go_big_quiet ((go_at_call 18; exact Calls.quiet_of_same (HRC.out _ (HI3.out.below (below_draws2 (Below.refl _ _) _)))))
    obtain ⟨W4, hW4⟩ : ∃ W4, W4 = W3.drewN nq := ⟨_, rfl⟩
    have HB4 := hide_ (show Below W3.heap.size W3 W4 by rw [hW4]; exact below_draws2 (Below.refl _ _) nq)
    rw [← hW4]
    clear hW4 f0 f1 f2 f3 z0 z1 z2 x0 x1 x2 x3 x4 x5 x6 x7 z3
    have HF := hide_ ((HI3.out.below HB4.out).step)
    have HBF := hide_ (HBWW.out.trans ((HB3.out.mono HI2.out.base).trans (HB4.out.mono HI3.out.base)))
    have d9 : (uc == uc) = true := by simp
    cases ub
    · go_wp2_with fail
      exact bodyPost_ret (v := .bool true) (by simp [results, Try.results6, go_sem]) rfl ⟨rfl, _, _, HF.out, HBF.out⟩
    · go_wp2_with fail
      exact bodyPost_ret (v := .bool true) (by simp [results, Try.results6, go_sem]) rfl ⟨rfl, _, _, HF.out, HBF.out⟩
  have d1 : (kd == 1) = false := by rw [beq_eq_false_iff_ne]; exact h1
  clear h1
  by_cases h2 : kd = 2
  · subst h2
    have HC := hide_ (wordsAsked_any HI2.out pk HPL.out HKK.out y HY2.out.a.1 HY2.out.a.2 HY2.out.b.1 HY2.out.b.2)
    unfold askC at HC
    rw [← HKD.out] at HC
    go_upto_region 10 with (fail)
    go_wp2_with fail
    refine HC.out.mono ?_
    rintro e W3 ⟨rfl, st', hi3, hb3⟩
    have HF := hide_ hi3
    have HBF := hide_ (HBWW.out.trans hb3)
    clear hi3 hb3 HC
    go_wp2_with fail
    exact bodyPost_ret (v := .bool true) (by simp [results, Try.results6, go_sem]) rfl ⟨rfl, _, _, HF.out, HBF.out⟩
  have d2 : (kd == 2) = false := by rw [beq_eq_false_iff_ne]; exact h2
  clear h2
  by_cases h3 : kd = 3
  · subst h3
    have HC := hide_ (eventAsked_any HI2.out pk HPL.out HKK.out y HY2.out)
    unfold askC at HC
    rw [← HKD.out] at HC
    go_upto_region 12 with (fail)
    go_wp2_with fail
    refine HC.out.mono ?_
    rintro e W3 ⟨rfl, st', hi3, hb3⟩
    have HF := hide_ hi3
    have HBF := hide_ (HBWW.out.trans hb3)
    clear hi3 hb3 HC
    go_wp2_with fail
    exact bodyPost_ret (v := .bool true) (by simp [results, Try.results6, go_sem]) rfl ⟨rfl, _, _, HF.out, HBF.out⟩
  have d3 : (kd == 3) = false := by rw [beq_eq_false_iff_ne]; exact h3
  clear h3
  by_cases h4 : kd = 4
  · subst h4
    have HC := hide_ (applyAsked_any HI2.out pk HPL.out y HY2.out)
    unfold askC at HC
    rw [← HKD.out] at HC
    go_upto_region 14 with (fail)
    go_wp2_with fail
    refine HC.out.mono ?_
    rintro e W3 ⟨rfl, st', hi3, hb3⟩
    have HF := hide_ hi3
    have HBF := hide_ (HBWW.out.trans hb3)
    clear hi3 hb3 HC
    go_wp2_with fail
    exact bodyPost_ret (v := .bool true) (by simp [results, Try.results6, go_sem]) rfl ⟨rfl, _, _, HF.out, HBF.out⟩
  have d4 : (kd == 4) = false := by rw [beq_eq_false_iff_ne]; exact h4
  clear h4
  by_cases h5 : kd = 5
  · subst h5
    have HWC := hide_ (fun W3 (h2 : GInv F W3 B q0 k st ex) => h2.within HX.out HZ.out)
    have HRW := hide_ (fun W3 (h2 : GInv F W3 B q0 k st ex) => rWithin_any x.A z.A x.l.length x.c z.l.length z.c W3.heap.size x.l z.l W3 (h2.gok x (List.mem_of_getElem? HX.out)).rd (h2.gok z (List.mem_of_getElem? HZ.out)).rd (Nat.le_refl _) (by have := (h2.gok x (List.mem_of_getElem? HX.out)).ok.few; omega) (by have := (h2.gok z (List.mem_of_getElem? HZ.out)).ok.few; omega))
    obtain ⟨ub, hu⟩ : ∃ u, u = withinL x.l z.l := ⟨_, rfl⟩
    rw [← hu] at HWC HRW
    clear hu
    obtain ⟨bg, cg, br, cr, eg, er, ⟨f0, f1, f2, f3⟩, ⟨z0, z1, z2⟩, _⟩ := HGA.out W2 HI2.out
    rw [← HGN.out] at f0 f1
    clear eg er
    go_upto_region 16 with (fail)
    go_big_quiet ((go_at_call 16; exact Calls.quiet_of_same (HPT.out _)))
    obtain ⟨W3, hW3⟩ : ∃ W3, W3 = W2.drewN nq := ⟨_, rfl⟩
    have HB3 := hide_ (show Below W2.heap.size W2 W3 by rw [hW3]; exact below_draws2 (Below.refl _ _) nq)
    rw [← hW3]
    clear hW3 f0 f1 f2 f3 z0 z1 z2 x0 x1 x2 x3 x4 x5 x6 x7 z3
    have HI3 := hide_ (HI2.out.below HB3.out)
    obtain ⟨bg, cg, br, cr, eg, er, ⟨f0, f1, f2, f3⟩, ⟨z0, z1, z2⟩, _⟩ := HGA.out W3 HI3.out
    obtain ⟨bg2, cg2, br2, cr2, eg2, er2, ⟨g0, g1, g2, g3⟩, _, _⟩ := HGZ.out W3 HI3.out
    rw [eg] at eg2
    rw [er] at er2
    injection eg2 with e1 _ e2
    injection er2 with e3 _ e4
    injection e1 with e1
    injection e1 with e1
    injection e3 with e3
    injection e3 with e3
    subst e1 e2 e3 e4
    rw [← HGN.out] at f0 f1
    clear eg er g0 g1
    have HKC := hide_ (fun W' (hb : Below W3.heap.size W3 W') => show W'.cell? ⟨q0, 0, none⟩ = some (.slice (some ⟨bg, 0, none⟩) gn cg) ∧ W'.cell? ⟨q0, 1, none⟩ = some (.slice (some ⟨br, 0, none⟩) gn cr) ∧ W'.cell? ⟨bg, pk, none⟩ = some (.pointer (some ⟨x.q, 0, none⟩)) ∧ W'.cell? ⟨bg, pt, none⟩ = some (.pointer (some ⟨z.q, 0, none⟩)) ∧ W'.cell? ⟨br, pk, none⟩ = some (.slice x.A x.l.length x.c) ∧ W'.cell? ⟨br, pt, none⟩ = some (.slice z.A z.l.length z.c) ∧ Below W3.heap.size W3 W' from
      ⟨(hb.cell (p := ⟨q0, 0, none⟩) z0).trans f0, (hb.cell (p := ⟨q0, 1, none⟩) z0).trans f1, (hb.cell (p := ⟨bg, pk, none⟩) z1).trans f2, (hb.cell (p := ⟨bg, pt, none⟩) z1).trans g2, (hb.cell (p := ⟨br, pk, none⟩) z2).trans f3, (hb.cell (p := ⟨br, pt, none⟩) z2).trans g3, hb⟩)
    clear f0 f1 f2 f3 g2 g3 z0 z1 z2
    have HBA := hide_ (Below.refl W3.heap.size W3).drew
    go_upto_region 17 with (fail)
    go_region_held3 (fun W' => W'.cell? ⟨q0, 0, none⟩ = some (.slice (some ⟨bg, 0, none⟩) gn cg) ∧ W'.cell? ⟨q0, 1, none⟩ = some (.slice (some ⟨br, 0, none⟩) gn cr) ∧ W'.cell? ⟨bg, pk, none⟩ = some (.pointer (some ⟨x.q, 0, none⟩)) ∧ W'.cell? ⟨bg, pt, none⟩ = some (.pointer (some ⟨z.q, 0, none⟩)) ∧ W'.cell? ⟨br, pk, none⟩ = some (.slice x.A x.l.length x.c) ∧ W'.cell? ⟨br, pt, none⟩ = some (.slice z.A z.l.length z.c) ∧ Below W3.heap.size W3 W')
      (first | (with_reducible exact HKC.out _ HB8.out) | (with_reducible exact HKC.out _ HBA.out) | exact HKC.out _ HBA.out)
      (first
        | (go_at_call 22; refine (HWC.out _ (HI3.out.below HBA.out)).mono ?_; rintro e w8 ⟨rfl, hb8⟩; have HB8 := hide_ (ev_to hb8 HBA.out); clear hb8)
        | (go_at_call 23; first | (refine (HRW.out _ (HI3.out.below HB8.out)).mono ?_; rintro e w9 ⟨rfl, hw9⟩; subst hw9) | (refine (HRW.out _ (HI3.out.below HBA.out)).mono ?_; rintro e w9 ⟨rfl, hw9⟩; subst hw9)))
    all_goals
      have HF := hide_ ((HI3.out.below HB8.out).step)
      have HBF := hide_ (HBWW.out.trans ((HB3.out.mono HI2.out.base).trans (HB8.out.mono HI3.out.base)))
      have d9 : (ub == ub) = true := by simp
      go_wp2_with fail
      exact bodyPost_ret (v := .bool true) (by simp [results, Try.results6, go_sem]) rfl ⟨rfl, _, _, HF.out, HBF.out⟩
  have d5 : (kd == 5) = false := by rw [beq_eq_false_iff_ne]; exact h5
  clear h5
  have HC := hide_ (lessAsked_any HI2.out pk HPL.out HKK.out y HY2.out)
  unfold askC at HC
  rw [← HKD.out] at HC
  go_upto_region 18 with (fail)
  go_wp2_with fail
  refine HC.out.mono ?_
  rintro e W3 ⟨rfl, F', st', hi3, hb3⟩
  have HF := hide_ hi3
  have HBF := hide_ (HBWW.out.trans hb3)
  clear hi3 hb3 HC
  go_wp2_with fail
  exact bodyPost_ret (v := .bool true) (by simp [results, Try.results6, go_sem]) rfl ⟨rfl, _, _, HF.out, HBF.out⟩
end
end Go.Proofs.Ytcfpclhoockcfaa
/-
  The world of GatePlays: Grants asked once more, when what was told has been written over.
-/
namespace Go.Proofs.Ytcfpclhoockcfaa
open Go.RowKit Go.PlainAid Go.BigFrame
set_option linter.unusedVariables false
set_option linter.unusedSimpArgs false
set_option maxRecDepth 100000
/-- the rows that the last round needs -/
def rowsE (q0 : Nat) (gs : List GV) (gv rv mv dv tv wv : Value) (n : Nat) (ys : List Value) : List Ro :=
  [⟨37, 1, .slice (some ⟨q0, 0, none⟩) 6 6, 6, [gv, rv, mv, dv, tv, wv]⟩,
   ⟨25, 1, gv, gs.length, gs.map fun x => .pointer (some ⟨x.q, 0, none⟩)⟩,
   ⟨22, 1, rv, gs.length, gs.map fun x => .slice x.A x.l.length x.c⟩,
   ⟨22, 1, tv, n, ys⟩]
structure GE (F : Nat → Prop) (W : World) (B q0 k : Nat) (gs : List GV) (gv rv mv dv tv wv : Value) (n : Nat) (ys : List Value) : Prop where
  own : OwnsF F W W B (rowsE q0 gs gv rv mv dv tv wv n ys)
  base : B ≤ W.heap.size
  gok : ∀ x ∈ gs, GateOk F W x
  pos : 0 < gs.length
  tl : n ≤ k
section
variable {F : Nat → Prop} {W W' : World} {B q0 k n : Nat} {gs : List GV} {gv rv mv dv tv wv : Value} {ys : List Value}
theorem GE.below (h : GE F W B q0 k gs gv rv mv dv tv wv n ys) (hb : Below W.heap.size W W') : GE F W' B q0 k gs gv rv mv dv tv wv n ys :=
  ⟨(h.own.below hb).rebase, Nat.le_trans h.base hb.size, fun x hx => (h.gok x hx).keep (fun k hk => hb.block k (h.own.old k hk).1) hb.size, h.pos, h.tl⟩
theorem GE.gate (h : GE F W B q0 k gs gv rv mv dv tv wv n ys) {i : Nat} {x : GV} (hx : gs[i]? = some x) :
    ∃ bg cg br cr, gv = .slice (some ⟨bg, 0, none⟩) gs.length cg ∧ rv = .slice (some ⟨br, 0, none⟩) gs.length cr ∧
      (W.cell? ⟨q0, 0, none⟩ = some (.slice (some ⟨bg, 0, none⟩) gs.length cg) ∧ W.cell? ⟨q0, 1, none⟩ = some (.slice (some ⟨br, 0, none⟩) gs.length cr) ∧ W.cell? ⟨bg, i, none⟩ = some (.pointer (some ⟨x.q, 0, none⟩)) ∧ W.cell? ⟨br, i, none⟩ = some (.slice x.A x.l.length x.c)) ∧
      (q0 < W.heap.size ∧ bg < W.heap.size ∧ br < W.heap.size) ∧ i < gs.length := by
  have hi : i < gs.length := (List.getElem?_eq_some_iff.1 hx).1
  obtain ⟨bg, cg, e1⟩ := ownsRow_some (h.own.at_ (i := 1) rfl) h.pos
  obtain ⟨br, cr, e2⟩ := ownsRow_some (h.own.at_ (i := 2) rfl) h.pos
  have e1' : gv = .slice (some ⟨bg, 0, none⟩) gs.length cg := e1
  have e2' : rv = .slice (some ⟨br, 0, none⟩) gs.length cr := e2
  have r1 : (rowsE q0 gs gv rv mv dv tv wv n ys)[1]? = some ⟨25, 1, .slice (some ⟨bg, 0, none⟩) gs.length cg, gs.length, gs.map fun x => .pointer (some ⟨x.q, 0, none⟩)⟩ := by rw [← e1']; rfl
  have r2 : (rowsE q0 gs gv rv mv dv tv wv n ys)[2]? = some ⟨22, 1, .slice (some ⟨br, 0, none⟩) gs.length cr, gs.length, gs.map fun x => .slice x.A x.l.length x.c⟩ := by rw [← e2']; rfl
  refine ⟨bg, cg, br, cr, e1', e2', ⟨?_, ?_, h.own.cell r1 (by rw [List.getElem?_map, hx]; rfl), h.own.cell r2 (by rw [List.getElem?_map, hx]; rfl)⟩, ⟨(h.own.base (i := 0) rfl).2, (h.own.base r1).2, (h.own.base r2).2⟩, hi⟩
  · rw [← e1']; exact h.own.cell (i := 0) (j := 0) rfl rfl
  · rw [← e2']; exact h.own.cell (i := 0) (j := 1) rfl rfl
set_option maxHeartbeats 4000000 in
theorem grantsEnd_any (h : GE F W B q0 k gs gv rv mv dv tv wv n ys) (i : Nat) (hi : i < gs.length) (hk : k ≤ 5000000000000) :
    Calls Try.prog 7 #[.pointer (some ⟨q0, 0, none⟩), .int .i64 i] W fun e W' => e = .returned (.bool true) ∧ ∃ tv' ys', GE F W' B q0 (k + 1) gs gv rv mv dv tv' wv (n + 1) ys' ∧ Below B W W' := by
  obtain ⟨i0, hi0, hz0, hz1, hz2⟩ := info_parts apk_infoG
  obtain ⟨x, hx⟩ : ∃ x, gs[i]? = some x := ⟨_, List.getElem?_eq_getElem hi⟩
  have hxm := List.mem_of_getElem? hx
  obtain ⟨bg, cg, br, cr, eg, er, ⟨f0, f1, f2, f3⟩, ⟨z0, z1, z2⟩, _⟩ := h.gate hx
  have HH := hide_ h
  have HX := hide_ hx
  have HXM := hide_ hxm
  have HG := hide_ (fun W (h : GE F W B q0 k gs gv rv mv dv tv wv n ys) => h.gate hx)
  have hil : (i : Int) < (gs.length : Int) := by omega
  have HIL := hide_ hil
  obtain ⟨D, hD, hga⟩ := (h.gok x hxm).at_
  have HD := hide_ hD
  have HGR := hide_ (Grants_any x.q D W hga)
  obtain ⟨gn, hgn⟩ : ∃ n, n = gs.length := ⟨_, rfl⟩
  have HGN := hide_ hgn
  rw [← hgn] at f0 f1 hil
  clear h hx hxm hD hga eg er hgn
  go_enter Try.func7, Try.ntmps7
  go_wp2_with fail
  refine HGR.out.mono ?_
  rintro e w1 ⟨Al, l, cl, rfl, hT, ho1, hb1, hl64⟩
  have HT := hide_ hT
  have HI1 := hide_ (HH.out.below hb1)
  have HO1 := hide_ ((HH.out.own.push hb1 (r := toldR ⟨Al, cl, l⟩) ho1 HH.out.base).rebase)
  have HB1 := hide_ hb1
  have HL64 := hide_ hl64
  obtain ⟨At, ct, etv, htc, _⟩ := ownsRow_slice (HI1.out.own.at_ (i := 3) rfl)
  have etv' : tv = .slice At n ct := etv
  have h4 : w1.cell? ⟨q0, 4, none⟩ = some (.slice At n ct) := by rw [← etv']; exact HO1.out.cell (i := 0) (j := 4) rfl rfl
  have HR3 := hide_ (show (rowsE q0 gs gv rv mv dv tv wv n ys ++ [toldR ⟨Al, cl, l⟩])[3]? = some ⟨22, 1, .slice At n ct, n, ys⟩ by rw [← etv']; rfl)
  have HTL := hide_ HI1.out.tl
  have HTV := hide_ etv'
  have z0' : q0 < w1.heap.size := (HO1.out.base (i := 0) rfl).2
  have HBS := hide_ HI1.out.base
  clear hT ho1 hb1 hl64 etv etv' htc f0 f1 f2 f3 z0 z1 z2 HGR
  go_wp2_with (at_builtin; refine wpList_append_ownsF _ rfl (.tmp 18) (.tmp 20) 34 rfl B _ 3 22 1 (.slice At n ct) n ys HR3.out (HO1.out.alloc _) (by have := HBS.out; rw [World.size_alloc]; omega) i0 _ 24 Try.underlying34 hi0 hz0 hz1 hz2 rfl (by omega) rfl _ _ 1 1 [.slice Al l.length cl] rfl (reads_new w1 22 1 1 [.slice Al l.length cl] rfl) (by simp [Value.oneCell']) (by have := HTL.out; simp only [maxLen]; omega) (by have := HTL.out; omega) ?_)
  intro v2 w2 hO2 hb2 hsz2
  have HO2 := hide_ hO2
  have HB2 := hide_ (show Below B w1 w2 from (Below.alloc (Below.refl _ _) HBS.out _).trans hb2)
  have hv2 := HO2.out.at_ (i := 3) rfl
  dsimp only at hv2
  obtain ⟨A5, c5, rfl, _, _⟩ := ownsRow_slice hv2
  have h4 : w2.cell? ⟨q0, 4, none⟩ = some (.slice At n ct) := by
    have h9 := HO2.out.cell (i := 0) (j := 4) (u := tv) rfl rfl
    rw [h9, HTV.out]
  have f4 : w2.frozen? ⟨q0, 4, none⟩ = false := HO2.out.frozen (i := 0) rfl 4
  have z0'' : q0 < w2.heap.size := (HO2.out.base (i := 0) rfl).2
  obtain ⟨w3, hw3⟩ : ∃ W, W = w2.setCell ⟨q0, 4, none⟩ (.slice A5 (n + 1) c5) := ⟨_, rfl⟩
  have HO3 := hide_ (show OwnsF F w1 w3 B (rowsE q0 gs gv rv mv dv (.slice A5 (n + 1) c5) wv (n + 1) (ys ++ [.slice Al l.length cl]) ++ [toldR ⟨Al, cl, l⟩]) by
    rw [hw3]
    exact HO2.out.store (i := 0) rfl (j := 4) (by simp) _)
  have HB3 := hide_ (show Below B w1 w3 by rw [hw3]; exact HB2.out.setCell (p := ⟨q0, 4, none⟩) (HO2.out.base (i := 0) rfl).1 _)
  have HI3 := hide_ (show GE F w3 B q0 (k + 1) gs gv rv mv dv (.slice A5 (n + 1) c5) wv (n + 1) (ys ++ [.slice Al l.length cl]) from
    ⟨(HO3.out.sub (List.sublist_append_left _ _)).rebase, Nat.le_trans HBS.out HB3.out.size, fun y hy => (HI1.out.gok y hy).keep (fun k hk => (HO3.out.old k hk).2) HB3.out.size, HI1.out.pos, by have := HI1.out.tl; omega⟩)
  clear hv2 hO2 hb2 hsz2
  go_upto_region 3 with (fail)
  rw [← hw3]
  clear hw3 h4 f4 z0' z0'' HO2 HB2
  obtain ⟨bg, cg, br, cr, eg, er, ⟨f0, f1, f2, f3⟩, ⟨z0, z1, z2⟩, _⟩ := HI3.out.gate (i := i) (x := x) HX.out
  have hgok := HI3.out.gok x HXM.out
  have HS := hide_ (rSorted_any x.A x.l.length x.c w3.heap.size x.l w3 hgok.rd (Nat.le_refl _) (by have := hgok.ok.few; omega))
  have HLK := hide_ hgok.ok
  have HTR := hide_ (show Reads w3 w3.heap.size 2 Al l.length (gCells l) from by
    have h9 := HO3.out.own.1 (toldR ⟨Al, cl, l⟩) (by unfold rowsE; simp)
    exact Reads.of_own h9)
  try dsimp only at f0 f1
  rw [← HGN.out] at f0 f1
  clear hgok eg er
  go_wp2_with fail
  refine HS.out.mono ?_
  rintro e w4 ⟨v4, l', rfl, hp, hs, ho4, hb4⟩
  obtain ⟨A6, c6, rfl, _, _⟩ := ownsRow_slice ho4
  have HEQ := hide_ (HD.out.told HLK.out HT.out hp hs)
  have HI4 := hide_ (HI3.out.below hb4)
  have HB4 := hide_ (HB3.out.trans (hb4.mono HI3.out.base))
  have HSM := hide_ (SameGrants_any Al A6 l.length cl x.l.length c6 l l' w4.heap.size w4 (GReads.of_reads ((HTR.out.below hb4).more hb4.size)) (GReads.of_reads (Reads.of_own ho4)) (Nat.le_refl _) (by have := HL64.out; omega) (by have := HLK.out.few; omega))
  clear hp hs ho4 hb4 HS f0 f1 f2 f3 z0 z1 z2
  go_wp2_with fail
  refine HSM.out.mono ?_
  rintro e w5 ⟨rfl, nq, rfl⟩
  have HI5 := hide_ (HI4.out.below (below_draws2 (Below.refl _ _) nq))
  have HB5 := hide_ (show Below B W (w4.drewN nq) from (HB1.out.mono HH.out.base).trans (below_draws2 HB4.out nq))
  have hde : decide (l = l') = true := by rw [HEQ.out]; simp
  rw [hde]
  clear hde HSM HEQ
  go_wp2_with fail
  exact bodyPost_ret (v := .bool true) (by simp [results, Try.results7, go_sem]) rfl ⟨rfl, _, _, HI5.out, HB5.out⟩
end
end Go.Proofs.Ytcfpclhoockcfaa
