/-
  The walk of the statement GatePlays.
-/
import Derived.Test.YtcfpclhoockcfaaM34
namespace Go.Proofs.Ytcfpclhoockcfaa
open Go.RowKit Go.PlainAid Go.BigFrame Go.Maps
set_option linter.unusedVariables false
set_option linter.unusedSimpArgs false
set_option maxRecDepth 100000
theorem one_own {w : World} {B : Nat} {e : TypeId} {size n : Nat} {v : Value} {xs : List Value} (h : w.ownsRow B e size v n xs) : Owns w B [⟨e, size, v, n, xs⟩] := ⟨fun r hr => by rw [List.mem_singleton.1 hr]; exact h, List.pairwise_singleton _ _⟩
set_option maxHeartbeats 8000000 in
theorem GatePlays_walk (A1 : Option Addr) (n1 c1 : Nat) (l1 : List (Int × Int)) (A2 : Option Addr) (n2 c2 : Nat) (l2 : List (Int × Int)) (AR : Option Addr) (nr cr : Nat) (zs : List Int) (AS : Option Addr) (ns cs : Nat) (ys : Nat → AskV) (w : World)
    (h1 : Reads w w.heap.size 2 A1 n1 (gCells l1)) (k1 : n1 * 16 ≤ 140737488351232) (f1 : ∀ t ∈ l1, (Lit.int .u32 t.1).wf = true ∧ (Lit.int .i64 t.2).wf = true)
    (h2 : Reads w w.heap.size 2 A2 n2 (gCells l2)) (k2 : n2 * 16 ≤ 140737488351232) (f2 : ∀ t ∈ l2, (Lit.int .u32 t.1).wf = true ∧ (Lit.int .i64 t.2).wf = true)
    (hr : Reads w w.heap.size 1 AR nr (u8s zs)) (hro : bytesOk zs) (hs : Script w w.heap.size AS ns ys) (ha : ∀ j, j < ns → AskOk w w.heap.size (ys j) ∧ (Lit.int .i64 (ys j).kind).wf = true) (hn : ns * 88 ≤ 140737488351232) :
    Calls Try.prog 3 #[.slice A1 n1 c1, .slice A2 n2 c2, .slice AR nr cr, .slice AS ns cs] w fun e w' => e = .returned (.bool true) ∧ Below w.heap.size w w' := by
  obtain ⟨i0, hi0, hz0, hz1, hz2⟩ := info_parts Try.info_u8
  have hl1 : l1.length = n1 := (GReads.of_reads h1).1
  have hl2 : l2.length = n2 := (GReads.of_reads h2).1
  subst hl1 hl2
  have HOP1 := hide_ (opened_any A1 l1.length c1 w.heap.size l1 w h1 (Nat.le_refl _) k1 f1 (fun t ht => (wf_u32 (f1 t ht).1).1))
  have HOP2 := hide_ (fun W (hb : Below w.heap.size w W) => opened_any A2 l2.length c2 w.heap.size l2 W (h2.below hb) hb.size k2 f2 (fun t ht => (wf_u32 (f2 t ht).1).1))
  have HR1 := hide_ (GReads.of_reads h1)
  have HR2 := hide_ (GReads.of_reads h2)
  have HRR := hide_ hr
  have HX := hide_ (show zs.length = nr by simpa using hr.1)
  have HXO := hide_ hro
  have HS := hide_ hs
  have HA := hide_ ha
  have HN := hide_ hn
  have hn2 : ns ≤ 1599289640400 := by omega
  clear h1 k1 f1 h2 k2 f2 hr hro hs ha hn
  go_enter Try.func3, Try.ntmps3
  go_wp2_with fail
  refine HOP1.out.mono ?_
  rintro e w1 ⟨hg1, hb1⟩
  have HB1 := hide_ hb1
  have HO2 := hide_ (HOP2.out w1 hb1)
  clear hb1
  rcases hg1 with ⟨q1, rfl, hg1⟩ | rfl
  · have HG1 := hide_ hg1
    clear hg1
    go_wp2_with fail
    refine HO2.out.mono ?_
    rintro e w2 ⟨hg2, hb2⟩
    have HB2 := hide_ hb2
    have HBW2 := hide_ (HB1.out.trans (hb2.mono HB1.out.size))
    clear hb2
    rcases hg2 with ⟨q2, rfl, hg2⟩ | rfl
    · have HG2 := hide_ hg2
      clear hg2
      go_wp2_with (refine wpList_make_full _ rfl (.const (.int .i64 256)) (.const (.int .i64 256)) 23 rfl w2.heap.size 5 i0 _ 1 Try.underlying23 hi0 hz0 hz1 .i64 .i64 256 256 256 rfl rfl rfl rfl (by rw [hz2]; omega) (by simp only [maxLen]; omega) (Nat.le_refl _) ?_)
      intro w3 hown hgr
      have e1 : (madeCells #[Value.int .u8 0] 256).toList = u8s (dPart zs 0) := by
        rw [toList_madeCells_one, dPart_zero]
        simp
      rw [e1] at hown
      have hb3 : Below w2.heap.size w2 w3 := (Below.refl _ _).grown hgr (Nat.le_refl _) (fun k e => by cases e)
      obtain ⟨o, ho⟩ : ∃ o, o = w2.heap.size := ⟨_, rfl⟩
      have hO3 : Owns w3 w2.heap.size [outR o 256 256 (dPart zs 0)] := by rw [ho]; exact one_own hown
      rw [← ho]
      clear hown hgr e1 ho HOP1 HO2 HOP2
      go_wp2
      go_loopw [13] (fun i wr => ∃ k : Nat, k ≤ 256 ∧ k ≤ nr ∧ i = .int .i64 k ∧ Owns wr w2.heap.size [outR o 256 256 (dPart zs k)] ∧ Below w2.heap.size w2 wr) (fun i _ => 256 - (intOf i).toNat)
      case atStart => exact ⟨0, by omega, by omega, rfl, hO3, hb3⟩
      case round =>
        clear hO3 hb3
        obtain ⟨k, hk, hkn, rfl, hO, hb⟩ := hrel
        by_cases hlt : k < 256 ∧ k < nr
        · obtain ⟨hk1, hk2⟩ := hlt
          obtain ⟨ad, u, rfl, hab, hu, hcu⟩ := (HRR.out.below (HBW2.out.trans (hb.mono HBW2.out.size))).at_ hk2
          rw [u8s_get (by rw [HX.out]; exact hk2)] at hu
          injection hu with hu
          subst hu
          have hsz := Nat.le_trans HBW2.out.size hb.size
          have hbk : (ad.add k).block < wr.heap.size := by rw [block_of_add]; omega
          have cd : wr.cell? ⟨o, k, none⟩ = some (.int .u8 ((dPart zs k)[k]?.getD 0)) := hO.cell (i := 0) rfl (u8s_get (by rw [dPart_len]; exact hk1))
          have fd := hO.frozen (i := 0) rfl k
          have hst := hO.store (i := 0) (e := 5) (size := 1) (n := 256) (g := o) (c := 256) (j := k) (xs := u8s (dPart zs k)) rfl (by simp [dPart_len]; exact hk1) (.int .u8 (zs[k]?.getD 0))
          rw [show (u8s (dPart zs k)).set k (.int .u8 (zs[k]?.getD 0)) = u8s (dPart zs (k + 1)) by rw [← dPart_set zs k hk1]; exact (List.map_set).symm] at hst
          have hb3 := hb.setCell (p := ⟨o, k, none⟩) (hO.base (i := 0) rfl).1 (.int .u8 (zs[k]?.getD 0))
          have hob : o < wr.heap.size := (hO.base (i := 0) rfl).2
          have HST := hide_ hst
          have HB3 := hide_ hb3
          clear hO hb hst hb3 hab
          go_wp2
          go_roundw
          case rel => exact ⟨k + 1, by omega, by omega, by go_num, HST.out, HB3.out⟩
          case measure => simp [intOf]; omega
        · have hseg : IsSeg 256 := ⟨8, by omega, by omega, rfl⟩
          obtain ⟨D, hD⟩ : ∃ D, D = dPart zs k := ⟨_, rfl⟩
          have hDl : D.length = 256 := by rw [hD]; exact dPart_len _ _
          have hDo : bytesOk D := by rw [hD]; exact dPart_ok HXO.out _
          rw [← hD] at hO
          have h3 := hide_ (From_any (some ⟨o, 0, none⟩) 256 hO hb.size (Reads.of_own (hO.at_ (i := 0) rfl)) hseg)
          have HD := hide_ (show D.length = 256 ∧ bytesOk D from ⟨hDl, hDo⟩)
          have HB := hide_ hb
          clear hD hDl hDo hO hb
          have hk3 : k = 256 ∨ (decide ((k : Int) < 256) = true ∧ decide (k < nr) = false) := by
            by_cases h1 : k < 256
            · exact .inr ⟨by simp; omega, by simp; omega⟩
            · exact .inl (by omega)
          rcases hk3 with rfl | ⟨d1, d2⟩
          all_goals
            clear hlt
            go_wp2_with fail
            refine h3.out.mono ?_
            rintro e w4 ⟨g, d, c3, rfl, hO4, hb4⟩
            obtain ⟨D1, hl1, hD1, hga1, _⟩ := HG1.out
            obtain ⟨D2, hl2, hD2, hga2, _⟩ := HG2.out
            have HMD := hide_ (GInv.made (c1 := c1) (c2 := c2) hO4 (HB.out.trans (hb4.mono HB.out.size)) hl1 hD1 (hga1.below HB2.out) ((HR1.out.below HBW2.out).more HBW2.out.size) hl2 hD2 hga2 ((HR2.out.below HBW2.out).more HBW2.out.size) HD.out.1 HD.out.2)
            clear hO4 hb4 hl1 hD1 hga1 hl2 hD2 hga2 h3
            go_upto_region 18 with (fail)
            obtain ⟨q0, hq0⟩ : ∃ q, q = w4.heap.size + 1 + 1 := ⟨_, rfl⟩
            obtain ⟨W5, hW5⟩ : ∃ W, W = (((w4.alloc (.cells #[.pointer (some ⟨q1, 0, none⟩), .pointer (some ⟨q2, 0, none⟩)] 25)).alloc (.cells #[.slice A1 l1.length c1, .slice A2 l2.length c2] 22)).alloc (.cells #[.slice (some ⟨w4.heap.size, 0, none⟩) 2 2, .slice (some ⟨w4.heap.size + 1, 0, none⟩) 2 2, .pointer (some ⟨g, 0, none⟩), .slice (some ⟨o, 0, none⟩) 256 256, .slice none 0 0, .slice none 0 0] 37)) := ⟨_, rfl⟩
            have HI5 := hide_ (show (∃ F st, GInv F W5 w2.heap.size q0 0 st []) ∧ Below w2.heap.size w2 W5 by rw [hW5, hq0]; exact ⟨⟨_, _, HMD.out.1⟩, HMD.out.2⟩)
            rw [← hW5, ← hq0]
            clear hW5 hq0 HMD HB
            go_wp2
            go_loopw [17] (fun i wr => ∃ j : Nat, j ≤ ns ∧ i = .int .i64 j ∧ Hid (∃ F st, GInv F wr w2.heap.size q0 j st []) ∧ Hid (Below w2.heap.size w2 wr)) (fun i _ => ns - (intOf i).toNat)
            case atStart => exact ⟨0, Nat.zero_le _, rfl, hide_ HI5.out.1, hide_ HI5.out.2⟩
            case round =>
              clear HI5
              obtain ⟨j, hj, rfl, HIr, HBr⟩ := hrel
              by_cases hlt2 : j < ns
              · obtain ⟨F, st, hI⟩ := HIr.out
                obtain ⟨ad, rfl, hab, hat⟩ := HS.out (by omega)
                have HBwr := hide_ (HBW2.out.trans (HBr.out.mono HBW2.out.size))
                have haj := (hat j hlt2).below HBwr.out (by rw [block_of_add]; exact hab)
                obtain ⟨y, hy⟩ : ∃ y, y = ys j := ⟨_, rfl⟩
                obtain ⟨hao, hkd⟩ := HA.out j hlt2
                rw [← hy] at haj hao hkd
                have hbk : (ad.add (j * 8)).block < wr.heap.size := by rw [block_of_add]; have := HBwr.out.size; omega
                have HASK := hide_ (asked_any hI (by omega) y hkd ((hao.below HBwr.out).more HBW2.out.size))
                obtain ⟨p0, p1, p2, p3, p4, p5, p6, p7⟩ := haj
                unfold askC at HASK
                clear hI hab hat hy hao hkd
                go_wp2_with fail
                refine HASK.out.mono ?_
                rintro e w6 ⟨rfl, F', st', hI6, hb6⟩
                have HI6 := hide_ (show ∃ F st, GInv F w6 w2.heap.size q0 (j + 1) st [] from ⟨_, _, hI6⟩)
                have HB6 := hide_ (HBr.out.trans hb6)
                clear hI6 hb6 HASK p0 p1 p2 p3 p4 p5 p6 p7 hbk
                go_wp2
                go_roundw
                case rel => exact ⟨j + 1, by omega, by go_num, HI6, HB6⟩
                case measure => simp [intOf]; omega
              · obtain rfl : j = ns := by omega
                obtain ⟨F, st, hI⟩ := HIr.out
                obtain ⟨gn, hgn⟩ : ∃ n, n = st.gs.length := ⟨_, rfl⟩
                have hgl : gn ≤ j + 2 := by rw [hgn]; exact hI.gl
                have HI3 := hide_ (show ∃ st', GInv F wr w2.heap.size q0 (j + 0) st' [] ∧ st'.gs.length = gn from ⟨st, hI, hgn.symm⟩)
                clear hI hgn HIr hlt2
                go_wp2
                go_loopw [18] (fun i wr => ∃ m : Nat, m ≤ gn ∧ i = .int .i64 m ∧ Hid (∃ st', GInv F wr w2.heap.size q0 (j + m) st' [] ∧ st'.gs.length = gn) ∧ Hid (Below w2.heap.size w2 wr)) (fun i _ => gn - (intOf i).toNat)
                case atStart => exact ⟨0, Nat.zero_le _, rfl, HI3, HBr⟩
                case round =>
                  clear HI3 HBr
                  obtain ⟨m, hm, rfl, HIm, HBm⟩ := hrel
                  obtain ⟨st', hI, hlen⟩ := HIm.out
                  obtain ⟨x, hx⟩ : ∃ x, st'.gs[0]? = some x := ⟨_, List.getElem?_eq_getElem hI.pos⟩
                  obtain ⟨bg, cg, br, cr, eg, er, ⟨c0, _, _, _⟩, ⟨z0, _, _⟩, _⟩ := hI.gate hx
                  rw [hlen] at c0
                  by_cases hlt3 : m < gn
                  · have HGA := hide_ (grantsAsked_any hI m (by rw [hlen]; exact hlt3) (by omega))
                    have HLEN := hide_ hlen
                    clear hI hlen hx eg er
                    go_wp2_with fail
                    refine HGA.out.mono ?_
                    rintro e w7 ⟨rfl, st7, hI7, hgs, hb7⟩
                    have HI7 := hide_ (show ∃ st', GInv F w7 w2.heap.size q0 (j + (m + 1)) st' [] ∧ st'.gs.length = gn from ⟨st7, hI7, by rw [hgs]; exact HLEN.out⟩)
                    have HB7 := hide_ (HBm.out.trans hb7)
                    clear hI7 hgs hb7 HGA c0 z0
                    go_wp2
                    go_roundw
                    case rel => exact ⟨m + 1, by omega, by go_num, HI7, HB7⟩
                    case measure => simp [intOf]; omega
                  · obtain rfl : m = gn := by omega
                    obtain ⟨At, ct, Aw, cw, et, ew, hAp⟩ := hI.apart
                    have c4 : wr.cell? ⟨q0, 4, none⟩ = some (.slice At st'.told.length ct) := by rw [← et]; exact hI.own.cell (i := 0) (j := 4) rfl rfl
                    have HAG := hide_ (ApartGrantsF_any F At st'.told.length ct w2.heap.size (vsT st'.told) (fun j => (fsT st'.told j).length) (fsT st'.told) _ wr hAp (fun _ _ => rfl) hI.base (fun i hi => by
                      have h9 := hI.tn _ (List.getElem_mem hi)
                      show (fsT st'.told i).length ≤ 8796093022000
                      rw [fsT_get (List.getElem?_eq_getElem hi)]
                      omega) (by have := hI.tl; omega))
                    have HIk := hide_ hI
                    have HLEN := hide_ hlen
                    have HEW := hide_ ew
                    have HET := hide_ et
                    obtain ⟨tn, htn⟩ : ∃ n, n = st'.told.length := ⟨_, rfl⟩
                    obtain ⟨kn, hkn2⟩ : ∃ n, n = st'.words.length := ⟨_, rfl⟩
                    rw [← htn] at c4 HAG HET
                    rw [← hkn2] at HAG HEW
                    have HTN := hide_ htn
                    have HKN := hide_ hkn2
                    clear hI hlen hx eg er et ew hAp htn hkn2 hlt3
                    go_wp2_with fail
                    refine HAG.out.mono ?_
                    rintro e w8 ⟨rfl, hO8, hb8⟩
                    have HOLD8 := hide_ hO8.old
                    have HO8 := hide_ (show OwnsF F w8 w8 w2.heap.size (rowsF kn (rowB wE 1 39 (vsW st'.words) (fun j => (fsW st'.words j).length) (fsW st'.words)) ++ lsRow 40 Aw kn cw (vsW st'.words) :: (headE q0 st' ++ [lsRow 22 At tn ct (vsT st'.told)])) from hO8.rebase.perm (fun cnt one k1 k2 k3 => by simp only [k1, k2, k3]; omega))
                    have HB8 := hide_ hb8
                    clear hO8 hb8 HAG c4 c0 z0
                    have c5 : w8.cell? ⟨q0, 5, none⟩ = some (.slice Aw kn cw) := by rw [← HEW.out]; exact HO8.out.cell (i := kn + 1) (rowsF_ex _ _ _ 1) (j := 5) rfl
                    have z0 : q0 < w8.heap.size := (HO8.out.base (i := kn + 1) (rowsF_ex _ _ _ 1)).2
                    have HBS8 := hide_ (Nat.le_trans HIk.out.base HB8.out.size)
                    have HAW := hide_ (ApartWordsF_any F Aw kn cw w2.heap.size (vsW st'.words) (fun j => (fsW st'.words j).length) (fsW st'.words) _ w8 HO8.out (fun _ _ => rfl) HBS8.out (fun i hi => by
                      have hi2 : i < st'.words.length := by rw [← HKN.out]; exact hi
                      have h9 := HIk.out.wn _ (List.getElem_mem hi2)
                      show (fsW st'.words i).length ≤ 35184372088000
                      rw [fsW_get (List.getElem?_eq_getElem hi2)]
                      exact h9) (by have := HIk.out.wl; have := HKN.out; omega))
                    go_wp2_with fail
                    refine HAW.out.mono ?_
                    rintro e w9 ⟨rfl, hO9, hb9⟩
                    have HGE := hide_ (show ∃ tv n vs, GE F w9 w2.heap.size q0 (j + m + 0) st'.gs st'.gv st'.rv (.pointer (some ⟨st'.g, 0, none⟩)) (.slice st'.AD 256 st'.cD) tv st'.wv n vs from
                      ⟨st'.tv, tn, (List.range tn).map (vsT st'.told), ⟨by
                        have h9 := hO9.rebase
                        have e9 : (lsRow 22 At tn ct (vsT st'.told)) = ⟨22, 1, st'.tv, tn, (List.range tn).map (vsT st'.told)⟩ := by unfold lsRow; rw [HET.out]
                        rw [e9] at h9
                        exact h9, Nat.le_trans HBS8.out hb9.size, fun x hx => (HIk.out.gok x hx).keep (fun k hk => (hO9.old k hk).2.trans (HOLD8.out k hk).2) (Nat.le_trans HB8.out.size hb9.size), HIk.out.pos, by have := HIk.out.tl; have := HTN.out; omega⟩⟩)
                    have HB9 := hide_ (HBm.out.trans (HB8.out.trans hb9))
                    clear hO9 hb9 HAW c5 z0 HO8 HOLD8
                    obtain ⟨gs, hgs⟩ : ∃ l, l = st'.gs := ⟨_, rfl⟩
                    obtain ⟨gv, hgv⟩ : ∃ l, l = st'.gv := ⟨_, rfl⟩
                    obtain ⟨rv, hrv⟩ : ∃ l, l = st'.rv := ⟨_, rfl⟩
                    obtain ⟨mv, hmv⟩ : ∃ l : Value, l = .pointer (some ⟨st'.g, 0, none⟩) := ⟨_, rfl⟩
                    obtain ⟨dv, hdv⟩ : ∃ l : Value, l = .slice st'.AD 256 st'.cD := ⟨_, rfl⟩
                    obtain ⟨wv, hwv⟩ : ∃ l, l = st'.wv := ⟨_, rfl⟩
                    have hlen := HLEN.out
                    rw [← hgs] at hlen
                    rw [← hgs, ← hgv, ← hrv, ← hmv, ← hdv, ← hwv] at HGE
                    have HLEN2 := hide_ hlen
                    clear hgs hgv hrv hmv hdv hwv hlen HIk HLEN HEW HTN HKN HIm HBm HB8 HBS8 HET
                    go_wp2
                    go_loopw [19] (fun i wr => ∃ q : Nat, q ≤ m ∧ i = .int .i64 q ∧ Hid (∃ tv n vs, GE F wr w2.heap.size q0 (j + m + q) gs gv rv mv dv tv wv n vs) ∧ Hid (Below w2.heap.size w2 wr)) (fun i _ => m - (intOf i).toNat)
                    case atStart => exact ⟨0, Nat.zero_le _, rfl, HGE, HB9⟩
                    case round =>
                      clear HGE HB9
                      obtain ⟨q, hq, rfl, HG, HBq⟩ := hrel
                      obtain ⟨tv, n, vs, hG⟩ := HG.out
                      obtain ⟨x, hx⟩ : ∃ x, gs[0]? = some x := ⟨_, List.getElem?_eq_getElem hG.pos⟩
                      obtain ⟨bg, cg, br, cr, eg, er, ⟨c0, _, _, _⟩, ⟨z0, _, _⟩, _⟩ := hG.gate hx
                      rw [HLEN2.out] at c0
                      by_cases hlt4 : q < m
                      · have HGA := hide_ (grantsEnd_any hG q (by rw [HLEN2.out]; exact hlt4) (by omega))
                        clear hG hx eg er
                        go_wp2_with fail
                        refine HGA.out.mono ?_
                        rintro e w10 ⟨rfl, tv2, vs2, hG2, hb10⟩
                        have HG2 := hide_ (show ∃ tv n vs, GE F w10 w2.heap.size q0 (j + m + (q + 1)) gs gv rv mv dv tv wv n vs from ⟨_, _, _, hG2⟩)
                        have HB10 := hide_ (HBq.out.trans hb10)
                        clear hG2 hb10 HGA c0 z0
                        go_wp2
                        go_roundw
                        case rel => exact ⟨q + 1, by omega, by go_num, HG2, HB10⟩
                        case measure => simp [intOf]; omega
                      · obtain rfl : q = m := by omega
                        have HFIN := hide_ (HBW2.out.trans (HBq.out.mono HBW2.out.size))
                        clear hG hx eg er
                        go_wp2
                        go_ret
                        exact ⟨rfl, HFIN.out⟩
    · go_wp2
      go_ret
      exact ⟨rfl, HBW2.out⟩
  · go_wp2_with fail
    refine HO2.out.mono ?_
    rintro e w2 ⟨hg2, hb2⟩
    have HBW2 := hide_ (HB1.out.trans (hb2.mono HB1.out.size))
    clear hb2
    rcases hg2 with ⟨q2, rfl, _⟩ | rfl
    all_goals
      go_wp2
      go_ret
      exact ⟨rfl, HBW2.out⟩
theorem GatePlays_raw {H : Type} {enc : TypeId × Value → H} {base : Nat} (v1 v2 : Value) (AR : Option Addr) (nr cr : Nat) (zs : List Int) (v4 : Value) (w : World)
    (hv1 : Value.okWide Try.prog w .any base 22 v1) (h1 : Seen enc Try.prog w true 22 v1.cells.toList)
    (hv2 : Value.okWide Try.prog w .any base 22 v2) (h2 : Seen enc Try.prog w true 22 v2.cells.toList)
    (hr : Reads w w.heap.size 1 AR nr (zs.map (Value.int .u8))) (hz : ∀ z ∈ zs, (Lit.int .u8 z).wf = true) (_h3 : nr ≤ cr) (_h4 : cr * 1 ≤ 140737488351232)
    (hv4 : Value.okWide Try.prog w .any base 24 v4) (h4 : Seen enc Try.prog w true 24 v4.cells.toList) :
    Calls Try.prog 3 #[v1, v2, .slice AR nr cr, v4] w fun e w' => e = .returned (.bool true) ∧ Below w.heap.size w w' := by
  obtain ⟨A1, n1, c1, rfl⟩ := Go.WideShapes.okWide_slice Try.underlying22 hv1
  obtain ⟨A2, n2, c2, rfl⟩ := Go.WideShapes.okWide_slice Try.underlying22 hv2
  obtain ⟨A4, n4, c4, rfl⟩ := Go.WideShapes.okWide_slice Try.underlying24 hv4
  obtain ⟨B1, m1, d1, l1, e1, g1, g2, g3, g4⟩ := seen_grants h1
  obtain ⟨B2, m2, d2, l2, e2, k1, k2, k3, k4⟩ := seen_grants h2
  obtain ⟨B4, m4, d4, ys, e4, j1, j2, j3, j4⟩ := seen_script h4
  simp [Value.cells] at e1 e2 e4
  obtain ⟨rfl, rfl, rfl⟩ := e1
  obtain ⟨rfl, rfl, rfl⟩ := e2
  obtain ⟨rfl, rfl, rfl⟩ := e4
  clear hv1 hv2 hv4 h1 h2 h4
  exact GatePlays_walk A1 n1 c1 l1 A2 n2 c2 l2 AR nr cr zs A4 n4 c4 ys w g3 (by omega) g4 k3 (by omega) k4 hr (fun x hx => wf_u8 (hz x hx)) j3 j4 (by omega)
end Go.Proofs.Ytcfpclhoockcfaa
