/-
  The walk of playpenkit.ApartWords, other rows beside the lists, other memory held still. (Printed by gen_agf.py out of XAgB.)
-/
import Derived.Test.YtcfpclhoockcfaaM06
import Derived.Test.YtcfpclhoockcfaaM23
namespace Go.Proofs.Ytcfpclhoockcfaa
open Go.RowKit Go.PlainAid Go.BigFrame
set_option linter.unusedVariables false
set_option linter.unusedSimpArgs false
def wE (x : Int) : List Value := [.int .u32 x]
theorem hGB : ∀ a : Int, (wE a).length = 1 := fun _ => rfl
theorem markG_exB (k i : Int) : ∃ a : Int, ∀ w, Calls Try.prog 28 #[.int .i64 k, .int .i64 i] w fun e w' => e = .returned (.int .u32 a) ∧ Below w.heap.size w w' := by
  apply Exists.intro
  intro w
  go_enter Try.func28, Try.ntmps28
  go_wp2
  exact bodyPost_ret (v := .int .u32 (wrap64 (wrap64 (1000003 * wrap64 (k + 1)) + i) % 4294967296)) (by simp [results, Try.results28, go_sem]) rfl ⟨rfl, Below.refl _ w⟩
noncomputable def mkGB (k i : Int) : Int := Classical.choose (markG_exB k i)
theorem markG_anyB (k i : Int) (w : World) : Calls Try.prog 28 #[.int .i64 k, .int .i64 i] w fun e w' => e = .returned (.int .u32 (mkGB k i)) ∧ Below w.heap.size w w' := Classical.choose_spec (markG_exB k i) w
theorem apk_infoB : (Try.prog.info? 40).map (fun i => (i.zero, i.size, i.bytes)) = some (some (.slice none 0 0), 1, 24) := by kernel_rfl
set_option maxRecDepth 100000 in
set_option maxHeartbeats 4000000 in
theorem ApartWordsF_any (F : Nat → Prop) (AL : Option Addr) (K cL B : Nat) (vs : Nat → Value) (ns : Nat → Nat) (fs : Nat → List Int) (ex0 : List Ro) (w : World) (hO : OwnsF F w w B (rowsF K (rowB wE 1 39 vs ns fs) ++ lsRow 40 AL K cL vs :: ex0)) (hlen : ∀ j, j < K → (fs j).length = ns j) (hB : B ≤ w.heap.size)
    (hn : ∀ j, j < K → ns j ≤ 35184372088000) (hK : K ≤ 5000000000000) :
    Calls Try.prog 9 #[.slice AL K cL] w fun e w' => e = .returned (.bool true) ∧ OwnsF F w w' B ex0 ∧ Below B w w' := by
  obtain ⟨i0, hi0, hz0, hz1, hz2⟩ := info_parts info_u32w
  obtain ⟨i1, hi1, hy0, hy1, hy2⟩ := info_parts apk_infoB
  have HLEN := hide_ hlen
  have HN := hide_ hn
  have HBS := hide_ hB
  clear hlen hn
  go_enter Try.func9, Try.ntmps9
  go_wp2
  go_loopw [3] (fun i wr => ∃ k : Nat, k ≤ K ∧ i = .int .i64 k ∧ OwnsF F w wr B (rowsF K (rowB wE 1 39 vs ns (markF mkGB ns fs k)) ++ lsRow 40 AL K cL vs :: ex0) ∧ Below B w wr) (fun i _ => K - (intOf i).toNat)
  case atStart =>
    refine ⟨0, Nat.zero_le _, rfl, ?_, Below.refl _ _⟩
    have : markF mkGB ns fs 0 = fs := by funext j; simp [markF]
    rw [this]
    exact hO
  case round =>
    obtain ⟨k, hk, rfl, hOk, hb⟩ := hrel
    by_cases hlt : k < K
    · obtain ⟨G, rfl⟩ := ls_someF hOk (show 0 < K by omega)
      have hnk := HN.out k hlt
      obtain ⟨A0, c0, hv0, hc0, hc1⟩ := ownsRow_slice (hOk.at_ (rowsF_get (rowB wE 1 39 vs ns (markF mkGB ns fs k)) (lsRow 40 (some ⟨G, 0, none⟩) K cL vs :: ex0) hlt))
      have hv1 : vs k = .slice A0 (ns k) c0 := hv0
      have hc0' : ns k ≤ c0 := hc0
      have hc1' : c0 ≤ maxLen := hc1
      obtain ⟨n, hnn⟩ : ∃ n, n = ns k := ⟨_, rfl⟩
      rw [← hnn] at hnk hc0' hv1
      have HNN := hide_ hnn
      have HV := hide_ hv1
      clear hv0 hv1 hc0 hc1 hnn hO
      have hls : ∀ (W : World) (f : Nat → List Int), OwnsF F w W B (rowsF K (rowB wE 1 39 vs ns f) ++ lsRow 40 (some ⟨G, 0, none⟩) K cL vs :: ex0) → W.cell? ⟨G, k, none⟩ = some (.slice A0 n c0) ∧ G < W.heap.size := fun W f h => by
        have := h.cell (i := K + 0) (rowsF_ex (rowB wE 1 39 vs ns f) (lsRow 40 (some ⟨G, 0, none⟩) K cL vs) ex0 0) (j := k) (u := vs k) (by simp [lsRow, hlt])
        exact ⟨by rw [this, HV.out], (h.base (i := K + 0) (rowsF_ex (rowB wE 1 39 vs ns f) (lsRow 40 (some ⟨G, 0, none⟩) K cL vs) ex0 0)).2⟩
      have HLS := hide_ hls
      obtain ⟨hcl, hGl⟩ := hls wr _ hOk
      clear hls
      go_wp2
      go_loopw [4] (fun i wr => ∃ j : Nat, j ≤ n ∧ i = .int .i64 j ∧ OwnsF F w wr B (rowsF K (rowB wE 1 39 vs ns (updF (markF mkGB ns fs k) k (marks3 mkGB ((k : Int) + 1) j ++ (fs k).drop j))) ++ lsRow 40 (some ⟨G, 0, none⟩) K cL vs :: ex0) ∧ Below B w wr) (fun i _ => n - (intOf i).toNat)
      case atStart =>
        refine ⟨0, Nat.zero_le _, rfl, ?_, hb⟩
        have e1 : marks3 mkGB ((k : Int) + 1) 0 ++ (fs k).drop 0 = markF mkGB ns fs k k := by simp [marks3, markF]
        rw [e1, upd_self]
        exact hOk
      case round =>
        obtain ⟨j, hj, rfl, hOj, hbj⟩ := hrel
        obtain ⟨hcj, hGj⟩ := HLS.out wr _ hOj
        by_cases hlt2 : j < n
        · have hrow := hOj.at_ (rowsF_get (rowB wE 1 39 vs ns (updF (markF mkGB ns fs k) k (marks3 mkGB ((k : Int) + 1) j ++ (fs k).drop j))) (lsRow 40 (some ⟨G, 0, none⟩) K cL vs :: ex0) hlt)
          obtain ⟨g, c1, hv2⟩ := ownsRow_some hrow (show 0 < ns k by rw [← HNN.out]; omega)
          have hv3 : vs k = .slice (some ⟨g, 0, none⟩) (ns k) c1 := hv2
          rw [HV.out] at hv3
          injection hv3 with e1 e2 e3
          subst e1 e3
          obtain ⟨X, hX⟩ : ∃ X, X = marks3 mkGB ((k : Int) + 1) j ++ (fs k).drop j := ⟨_, rfl⟩
          have hjf : j < (fs k).length := by rw [HLEN.out k hlt, ← HNN.out]; exact hlt2
          have hXl : j < X.length := by rw [hX, List.length_append, marks3_len, List.length_drop]; omega
          rw [← hX] at hOj
          have hrk := apart_row (enc := wE) (S := 1) (E := 39) (ex := lsRow 40 (some ⟨G, 0, none⟩) K cL vs :: ex0) (f := markF mkGB ns fs k) hlt X HV.out HNN.out
          have x0 := hOj.cell hrk (j := j * 1 + 0) (enc_get hGB X j _ (List.getElem?_eq_getElem hXl) 0 _ rfl)
          have f0 := hOj.frozen hrk j
          rw [Nat.mul_one, Nat.add_zero] at x0
          obtain ⟨y0, hy0'⟩ : ∃ y, y = X[j] := ⟨_, rfl⟩
          rw [← hy0'] at x0
          clear hy0'
          have hST : ∀ W : World, OwnsF F w W B (rowsF K (rowB wE 1 39 vs ns (updF (markF mkGB ns fs k) k X)) ++ lsRow 40 (some ⟨G, 0, none⟩) K cL vs :: ex0) → OwnsF F w (W.setCell ⟨g, j, none⟩ (.int .u32 (mkGB ((k : Int) + 1) j))) B (rowsF K (rowB wE 1 39 vs ns (updF (markF mkGB ns fs k) k (marks3 mkGB ((k : Int) + 1) (j + 1) ++ (fs k).drop (j + 1)))) ++ lsRow 40 (some ⟨G, 0, none⟩) K cL vs :: ex0) := fun W hW => by
            have := apart_put1F hGB hlt X HV.out HNN.out hW hXl (mkGB ((k : Int) + 1) j) rfl
            rw [hX, over_set3 _ _ _ hjf] at this
            exact this
          have hgb := hOj.base hrk
          have HST := hide_ hST
          have HOJ := hide_ hOj
          have HBJ := hide_ hbj
          have HSZ := hide_ hbj.size
          have HMK := hide_ (fun W => markG_anyB ((k : Int) + 1) (j : Int) W)
          obtain ⟨mk0, hmk0⟩ : ∃ mk, mk = mkGB ((k : Int) + 1) (j : Int) := ⟨_, rfl⟩
          rw [← hmk0] at HMK HST
          have hw1 : IntKind.i64.wrap ((k : Int) + 1) = (k : Int) + 1 := by rw [IntKind.wrap_i64]; omega
          have hg1 := hgb.1
          have hg2 := hgb.2
          clear hST hX hXl hrow hv2 hOk hOj hcl hrk hb hbj hmk0 hgb hGl e2
          go_upto_region 7 with (fail)
          go_region_with (go_at_call 28; refine (HMK.out _).mono ?_; rintro e w7 ⟨rfl, hb7⟩; have q1 := (hb7.cell (p := ⟨G, k, none⟩) hGj).trans hcj; have q2 := (hb7.cell (p := ⟨g, j, none⟩) hg2).trans x0; have q5 := (hb7.frozen (p := ⟨g, j, none⟩) hg2).trans f0; have HB7 := hide_ hb7; clear hb7)
          all_goals
            clear hcj x0 f0 q1 q2 q5
            go_wp2
            go_roundw
            case rel => exact ⟨j + 1, by omega, by go_num, HST.out _ (HOJ.out.drew.below HB7.out), ((HBJ.out.drew).trans (HB7.out.mono (Nat.le_trans HBS.out HSZ.out))).setCell (p := ⟨g, j, none⟩) hg1 _⟩
            case measure => simp [intOf]; omega
        · obtain rfl : j = n := by omega
          have hfl : (fs k).drop j = [] := List.drop_eq_nil_of_le (by rw [HLEN.out k hlt, ← HNN.out]; omega)
          rw [hfl, List.append_nil] at hOj
          have hms := mark_step (mk := mkGB) ns fs k
          rw [← HNN.out] at hms
          have HMS := hide_ hms
          clear hfl hms hcl hOk
          go_wp2
          go_roundw
          case rel =>
            refine ⟨k + 1, by omega, by go_num, ?_, hbj⟩
            rw [HMS.out]
            exact hOj
          case measure => simp [intOf]; omega
    · obtain rfl : k = K := by omega
      have hP0 : Pat wE 1 39 mkGB k vs ns (rowB wE 1 39 vs ns (markF mkGB ns fs k)) 0 0 := fun j hj => by
        have e3 : (if j < 0 then 64 else if j = 0 then 0 else 0) = 0 := by split <;> (try split) <;> first | rfl | omega
        rw [e3, Nat.add_zero]
        refine ⟨?_, fun _ => rfl⟩
        unfold rowB mkU markF
        rw [if_pos hj]
      have hold : ∀ j, j < k → OldOk 1 39 (rowsF k (rowB wE 1 39 vs ns (markF mkGB ns fs k)) ++ lsRow 40 AL k cL vs :: gsRow 40 (.slice none 0 0) 0 (rowB wE 1 39 vs ns (markF mkGB ns fs k)) :: ex0) (vs j) (mkU wE mkGB j (ns j)) := fun j hj =>
        ⟨rowB wE 1 39 vs ns (markF mkGB ns fs k) j, List.mem_of_getElem? (rowsF_get _ _ hj), rfl, rfl, rfl, by unfold rowB mkU markF; rw [if_pos hj]; exact List.prefix_refl _⟩
      have hvs : ∀ j, j < k → ∃ A c, vs j = .slice A (ns j) c ∧ (0 < ns j → ∃ g, A = some ⟨g, 0, none⟩) := fun j hj => by
        have h1 := hOk.at_ (rowsF_get (rowB wE 1 39 vs ns (markF mkGB ns fs k)) (lsRow 40 AL k cL vs :: ex0) hj)
        obtain ⟨A, c, h2, _, _⟩ := ownsRow_slice h1
        have h3 : vs j = .slice A (ns j) c := h2
        refine ⟨A, c, h3, fun h0 => ?_⟩
        obtain ⟨g, c', h4⟩ := ownsRow_some h1 h0
        have h5 : vs j = .slice (some ⟨g, 0, none⟩) (ns j) c' := h4
        rw [h3] at h5
        injection h5 with h5
        exact ⟨g, h5⟩
      have HVS := hide_ hvs
      clear hvs
      have hO2 : OwnsF F w wr B (rowsF k (rowB wE 1 39 vs ns (markF mkGB ns fs k)) ++ lsRow 40 AL k cL vs :: gsRow 40 (.slice none 0 0) 0 (rowB wE 1 39 vs ns (markF mkGB ns fs k)) :: ex0) := by
        have h1 := hOk.nilrow 40 1
        exact h1.swap (by
          rw [List.append_assoc, List.cons_append]
          refine List.Perm.append_left _ (List.Perm.cons _ ?_)
          exact List.perm_append_singleton _ _)
      have HP0 := hide_ hP0
      have HOLD := hide_ hold
      have HO2 := hide_ hO2
      have HB2 := hide_ hb
      clear hP0 hold hOk hO hO2 hb
      go_wp2
      go_loopw [5, 6] (fun gv i wr => ∃ (m : Nat) (r : Nat → Ro) (ex : List Ro), m ≤ k ∧ i = .int .i64 m ∧ Hid (Pat wE 1 39 mkGB k vs ns r m 0) ∧ Hid (OwnsF F w wr B (rowsF k r ++ lsRow 40 AL k cL vs :: gsRow 40 gv m r :: (ex0 ++ ex))) ∧ Hid (∀ j, j < k → OldOk 1 39 (rowsF k r ++ lsRow 40 AL k cL vs :: gsRow 40 gv m r :: (ex0 ++ ex)) (vs j) (mkU wE mkGB j (ns j))) ∧ Below B w wr) (fun _ i _ => k - (intOf i).toNat)
      case atStart => exact ⟨0, _, [], Nat.zero_le _, rfl, HP0, hide_ (by rw [List.append_nil]; exact HO2.out), hide_ (by rw [List.append_nil]; exact HOLD.out), HB2.out⟩
      case round =>
        clear HO2 HP0 HOLD HB2
        obtain ⟨m, r, ex, hm, rfl, HP, HO, HOL, hb2⟩ := hrel
        have HB2 := hide_ hb2
        by_cases hlt : m < k
        · obtain ⟨G, rfl⟩ := ls_someF HO.out (show 0 < k by omega)
          have hnm := HN.out m hlt
          have hv1 := (HP.out m hlt).2 (.inr ⟨rfl, rfl⟩)
          obtain ⟨A0, c0, hv0, hc0, hc1⟩ := ownsRow_slice (HO.out.at_ (rowsF_get r _ hlt))
          have hrm := HP.out.at_ hlt
          have hv2 : (r m).v = .slice A0 (ns m) c0 := by rw [hv0, hrm]; rfl
          have hv3 : vs m = .slice A0 (ns m) c0 := by rw [← hv1, hv2]
          obtain ⟨n, hnn⟩ : ∃ n, n = ns m := ⟨_, rfl⟩
          rw [← hnn] at hv2 hv3 hnm
          have HNN := hide_ hnn
          have HV2 := hide_ hv2
          have HV3 := hide_ hv3
          have hcl : ∀ (W : World) (r : Nat → Ro) (gv : Value) (q : Nat) (ex : List Ro), OwnsF F w W B (rowsF k r ++ lsRow 40 (some ⟨G, 0, none⟩) k cL vs :: gsRow 40 gv q r :: ex) → W.cell? ⟨G, m, none⟩ = some (.slice A0 n c0) ∧ G < W.heap.size := fun W r gv q ex h => by
            have h9 := rowsF_ex (K := k) r (lsRow 40 (some ⟨G, 0, none⟩) k cL vs) (gsRow 40 gv q r :: ex) 0
            have := h.cell (i := k + 0) h9 (j := m) (u := vs m) (by simp [lsRow, hlt])
            exact ⟨by rw [this, HV3.out], (h.base (i := k + 0) h9).2⟩
          have HCL := hide_ hcl
          obtain ⟨hcl0, hGl⟩ := hcl wr r _ _ _ HO.out
          clear hcl hv0 hv1 hv2 hv3 hrm hnn hc0 hc1 hb2
          obtain ⟨Ag, cg, hgv, hcg0, hcg1⟩ := ownsRow_slice (HO.out.at_ (i := k + 1) (rowsF_ex r (lsRow 40 (some ⟨G, 0, none⟩) k cL vs) (gsRow 40 _ m r :: (ex0 ++ ex)) 1))
          simp only [gsRow] at hgv
          subst hgv
          clear hcg0 hcg1
          go_wp2
          go_loopw [7, 8] (fun g i wr => ∃ (i' : Nat) (r : Nat → Ro) (ex : List Ro), i' ≤ 64 ∧ i = .int .i64 i' ∧ g = (r m).v ∧ Hid (Pat wE 1 39 mkGB k vs ns r m i') ∧ Hid (OwnsF F w wr B (rowsF k r ++ lsRow 40 (some ⟨G, 0, none⟩) k cL vs :: gsRow 40 (.slice Ag m cg) m r :: (ex0 ++ ex))) ∧ Hid (∀ j, j < k → OldOk 1 39 (rowsF k r ++ lsRow 40 (some ⟨G, 0, none⟩) k cL vs :: gsRow 40 (.slice Ag m cg) m r :: (ex0 ++ ex)) (vs j) (mkU wE mkGB j (ns j))) ∧ Below B w wr) (fun _ i _ => 64 - (intOf i).toNat)
          case atStart => exact ⟨0, r, ex, Nat.zero_le _, rfl, HV2.out.symm, HP, HO, HOL, HB2.out⟩
          case round =>
            clear HO HOL HP hcl0 hGl HB2
            obtain ⟨i, r', ex', hi, rfl, rfl, HP, HO, HOL, hb3⟩ := hrel
            have hrm := HP.out.at_ hlt
            have hget := rowsF_get r' (lsRow 40 (some ⟨G, 0, none⟩) k cL vs :: gsRow 40 (.slice Ag m cg) m r' :: (ex0 ++ ex')) hlt
            rw [hrm, ← HNN.out] at hget
            obtain ⟨A5, c5, hv5, _, _⟩ := ownsRow_slice (HO.out.at_ hget)
            have hv6 : (r' m).v = .slice A5 (n + i) c5 := hv5
            rw [hv6] at hget ⊢
            have HV6 := hide_ hv6
            have HGET := hide_ hget
            obtain ⟨hcl0, hGl⟩ := HCL.out wr r' _ _ _ HO.out
            have HB3 := hide_ hb3
            have HSZ := hide_ hb3.size
            clear hrm hv5 hv6 hget hb3
            by_cases hlt3 : i < 64
            · obtain ⟨mk0, hmk0⟩ : ∃ mk, mk = mkGB ((m : Int) + 1) ((n : Int) + (i : Int)) := ⟨_, rfl⟩
              have HMS := hide_ (show mkU wE mkGB m (n + i + 1) = mkU wE mkGB m (n + i) ++ [.int .u32 mk0] by rw [mkU_succ, hmk0]; rw [show ((n : Int) + (i : Int)) = ((n + i : Nat) : Int) by omega]; rfl)
              have HMK := hide_ (fun W => markG_anyB ((m : Int) + 1) ((n : Int) + (i : Int)) W)
              rw [← hmk0] at HMK
              have HL3 := hide_ hlt3
              have HNM := hide_ hnm
              clear hmk0
              go_wp2_with fail
              refine (HMK.out _).mono ?_
              rintro e w6 ⟨rfl, hb6⟩
              have HO6 := hide_ (HO.out.below hb6)
              have HB6 := hide_ (HB3.out.trans (hb6.mono (Nat.le_trans HBS.out HSZ.out)))
              clear hb6 HO
              go_wp2_with (at_builtin; refine wpList_append_splitKF _ rfl (.tmp 51) (.tmp 62) 40 rfl B _ m 39 1 (.slice A5 (n + i) c5) (n + i) (mkU wE mkGB m (n + i)) HGET.out (HO6.out.alloc _) (by have := HB6.out.size; have := HBS.out; rw [World.size_alloc]; omega) i0 _ 4 (by decide) Try.underlying40 hi0 hz0 hz1 hz2 rfl rfl _ _ 1 1 [.int .u32 mk0] rfl (reads_new w6 39 1 1 [.int .u32 mk0] rfl) (by simp [Value.oneCell']) (by omega) (by have := HNM.out; have := HL3.out; simp only [maxLen]; omega) (by have := HNM.out; have := HL3.out; omega) ?_)
              intro v7 w7 hsp hb7 hsz7
              have HB8 := hide_ (show Below B w w7 from (HB6.out.alloc (by have := HB6.out.size; have := HBS.out; omega) _).trans hb7)
              have HSP := hide_ hsp
              clear hsp hb7 HO6
              go_wp2
              go_roundw
              case rel =>
                have hnn := HNN.out
                have hms := HMS.out
                have hgt := HGET.out
                subst hnn
                rcases HSP.out with ⟨hob, hO1⟩ | hO1
                · rw [← hms, rowsF_set _ _ _ hlt] at hO1
                  refine ⟨i + 1, updR r' m ⟨39, 1, v7, ns m + i + 1, mkU wE mkGB m (ns m + i + 1)⟩, ex', by omega, by go_num, by simp [updR], hide_ (HP.out.step v7), hide_ ?_, hide_ (fun j hj => ?_), HB8.out⟩
                  · rw [gsRow_upd]; exact hO1
                  · have := (HOL.out j hj).set hgt ⟨39, 1, v7, ns m + i + 1, mkU wE mkGB m (ns m + i + 1)⟩ (.inr ⟨rfl, rfl, hob, by rw [hms]; exact List.prefix_append _ _⟩)
                    rw [rowsF_set _ _ _ hlt] at this
                    rw [gsRow_upd]; exact this
                · rw [← hms, rowsF_set _ _ _ hlt, List.append_assoc, List.cons_append, List.cons_append, List.append_assoc] at hO1
                  refine ⟨i + 1, updR r' m ⟨39, 1, v7, ns m + i + 1, mkU wE mkGB m (ns m + i + 1)⟩, ex' ++ [⟨39, 1, .slice A5 (ns m + i) c5, ns m + i, mkU wE mkGB m (ns m + i)⟩], by omega, by go_num, by simp [updR], hide_ (HP.out.step v7), hide_ ?_, hide_ (fun j hj => ?_), HB8.out⟩
                  · rw [gsRow_upd]; exact hO1
                  · have := (HOL.out j hj).moved hgt ⟨39, 1, v7, ns m + i + 1, mkU wE mkGB m (ns m + i + 1)⟩
                    rw [rowsF_set _ _ _ hlt, List.append_assoc, List.cons_append, List.cons_append, List.append_assoc] at this
                    rw [gsRow_upd]; exact this
              case measure => simp [intOf]; omega
            · obtain rfl : i = 64 := by omega
              have HGS := hide_ (show (rowsF k r' ++ lsRow 40 (some ⟨G, 0, none⟩) k cL vs :: gsRow 40 (.slice Ag m cg) m r' :: (ex0 ++ ex'))[k + 1]? = some (gsRow 40 (.slice Ag m cg) m r') from rowsF_ex r' (lsRow 40 (some ⟨G, 0, none⟩) k cL vs) (gsRow 40 (.slice Ag m cg) m r' :: (ex0 ++ ex')) 1)
              go_wp2_with (at_builtin; refine wpList_append_ownsF _ rfl (.tmp 64) (.tmp 66) 35 rfl B _ (k + 1) 40 1 (.slice Ag m cg) m ((List.range m).map fun j => (r' j).v) HGS.out (HO.out.alloc _) (by have := HSZ.out; have := HBS.out; rw [World.size_alloc]; omega) i1 _ 24 Try.underlying35 hi1 hy0 hy1 hy2 rfl (by omega) rfl _ _ 1 1 [.slice A5 (n + 64) c5] rfl (reads_new wr 40 1 1 [.slice A5 (n + 64) c5] rfl) (by simp [Value.oneCell']) (by simp only [maxLen]; omega) (by omega) ?_)
              intro v7 w7 hO7 hb7 hsz7
              have HB8 := hide_ (show Below B w w7 from (HB3.out.alloc (by have := HSZ.out; have := HBS.out; omega) _).trans hb7)
              have HO7 := hide_ hO7
              clear hO7 hb7 HO
              go_wp2
              go_roundw
              case rel =>
                have hO8 := HO7.out
                rw [rowsF_set2, ← HV6.out, gsRow_next] at hO8
                refine ⟨m + 1, r', ex', by omega, by go_num, hide_ HP.out.next, hide_ hO8, hide_ (fun j hj => ?_), HB8.out⟩
                have := (HOL.out j hj).set HGS.out (gsRow 40 v7 (m + 1) r') (.inl (show (40 : TypeId) ≠ 39 by decide))
                rw [rowsF_set2] at this
                exact this
              case measure => simp [intOf]; omega
        · obtain rfl : m = k := by omega
          obtain ⟨W0, hW0⟩ : ∃ W0, W0 = wr := ⟨_, rfl⟩
          rw [← hW0]
          rw [← hW0] at HO HB2
          clear hW0 hb2
          go_wp2
          go_loopw [9] (fun i W => ∃ q : Nat, q ≤ m ∧ i = .int .i64 q ∧ Below W0.heap.size W0 W) (fun i _ => m - (intOf i).toNat)
          case atStart => exact ⟨0, Nat.zero_le _, rfl, Below.refl _ _⟩
          case round =>
            obtain ⟨q, hq, rfl, hbq⟩ := hrel
            have HOQ := hide_ (HO.out.below hbq)
            have HBQ := hide_ hbq
            clear hbq
            by_cases hq2 : q < m
            · obtain ⟨G, rfl⟩ := ls_someF HO.out (show 0 < m by omega)
              have hnq := HN.out q hq2
              obtain ⟨A, c, hv, hA⟩ := HVS.out q hq2
              obtain ⟨n, hnn⟩ : ∃ n, n = ns q := ⟨_, rfl⟩
              rw [← hnn] at hnq hv hA
              have HNN := hide_ hnn
              have HV := hide_ hv
              have HA := hide_ hA
              clear hnn hv hA
              obtain ⟨g', cg, g5, c5, rfl, hc1, hc2, s1, s2, s3, _, _⟩ := apart_lastF hGB HOQ.out HP.out hq2 (HOL.out q hq2) HV.out HNN.out HA.out
              have hw1 : IntKind.i64.wrap ((q : Int) + 1) = (q : Int) + 1 := by rw [IntKind.wrap_i64]; omega
              go_wp2
              go_loopw [10] (fun i W => ∃ j : Nat, j ≤ n + 64 ∧ i = .int .i64 j ∧ Below W0.heap.size W0 W) (fun i _ => n + 64 - (intOf i).toNat)
              case atStart => exact ⟨0, Nat.zero_le _, rfl, HBQ.out⟩
              case round =>
                clear hc1 hc2 s1 s2 s3
                obtain ⟨j, hj, rfl, hbj⟩ := hrel
                obtain ⟨g9, cg9, g5', c5', e9, hc1, hc2, s1, s2, s3, hc3, hc4⟩ := apart_lastF hGB (HO.out.below hbj) HP.out hq2 (HOL.out q hq2) HV.out HNN.out HA.out
                injection e9 with e9a _ e9b
                injection e9a with e9a
                injection e9a with e9a
                subst e9a e9b
                have HBJ := hide_ hbj
                have HSJ := hide_ hbj.size
                clear hbj
                by_cases hj2 : j < n + 64
                · have hl4 : (j : Int) < (n : Int) + 64 := by omega
                  have hx0 := hc3 j hj2 0 _ rfl
                  rw [Nat.mul_one, Nat.add_zero] at hx0
                  have HMK := hide_ (fun W => markG_anyB ((q : Int) + 1) (j : Int) W)
                  obtain ⟨mk0, hmk0⟩ : ∃ mk, mk = mkGB ((q : Int) + 1) (j : Int) := ⟨_, rfl⟩
                  rw [← hmk0] at HMK hx0
                  have HCMP := hide_ (show (mk0 != mk0) = false by simp)
                  have HX := hide_ hx0
                  clear hx0 hc3
                  by_cases hj3 : j < n
                  · have hl5 : (j : Int) < (n : Int) := by omega
                    obtain ⟨g, e8, hpu⟩ := hc4 j hj3
                    obtain ⟨hz0', hgl⟩ := hpu 0 _ rfl
                    rw [← hmk0, Nat.mul_one, Nat.add_zero] at hz0'
                    subst e8
                    have HY := hide_ hz0'
                    clear hz0' hpu hc4 hmk0
                    go_wp2_with fail
                    refine (HMK.out _).mono ?_
                    rintro e w6 ⟨rfl, hb6⟩
                    have k1 := (hb6.cell (p := ⟨g', q, none⟩) s1).trans hc1
                    have k2 := (hb6.cell (p := ⟨G, q, none⟩) s2).trans hc2
                    have k3 := (hb6.cell (p := ⟨g5', j, none⟩) s3).trans HX.out
                    have k6 := (hb6.cell (p := ⟨g, j, none⟩) hgl).trans HY.out
                    have l1 : g' < w6.heap.size := Nat.lt_of_lt_of_le s1 hb6.size
                    have l2 : G < w6.heap.size := Nat.lt_of_lt_of_le s2 hb6.size
                    have l3 : g5' < w6.heap.size := Nat.lt_of_lt_of_le s3 hb6.size
                    have l4 : g < w6.heap.size := Nat.lt_of_lt_of_le hgl hb6.size
                    have HB6 := hide_ (HBJ.out.trans (hb6.mono HSJ.out))
                    clear hc1 hc2 s1 s2 s3 hgl hb6
                    have hcmp := HCMP.out
                    go_wp2
                    go_roundw
                    case rel => exact ⟨j + 1, hj2, by go_num, by (first | exact HB6.out | exact HB6.out.alloc HB6.out.size _)⟩
                    case measure => simp [intOf]; omega
                  · have hl5 : ¬ (j : Int) < (n : Int) := by omega
                    clear hc4 hmk0
                    go_wp2_with fail
                    refine (HMK.out _).mono ?_
                    rintro e w6 ⟨rfl, hb6⟩
                    have k1 := (hb6.cell (p := ⟨g', q, none⟩) s1).trans hc1
                    have k2 := (hb6.cell (p := ⟨G, q, none⟩) s2).trans hc2
                    have k3 := (hb6.cell (p := ⟨g5', j, none⟩) s3).trans HX.out
                    have l1 : g' < w6.heap.size := Nat.lt_of_lt_of_le s1 hb6.size
                    have l2 : G < w6.heap.size := Nat.lt_of_lt_of_le s2 hb6.size
                    have l3 : g5' < w6.heap.size := Nat.lt_of_lt_of_le s3 hb6.size
                    have HB6 := hide_ (HBJ.out.trans (hb6.mono HSJ.out))
                    clear hc1 hc2 s1 s2 s3 hb6
                    have hcmp := HCMP.out
                    go_wp2
                    go_roundw
                    case rel => exact ⟨j + 1, hj2, by go_num, by (first | exact HB6.out | exact HB6.out.alloc HB6.out.size _)⟩
                    case measure => simp [intOf]; omega
                · obtain rfl : j = n + 64 := by omega
                  clear hc3 hc4
                  go_wp2
                  go_roundw
                  case rel => exact ⟨q + 1, by omega, by go_num, HBJ.out⟩
                  case measure => simp [intOf]; omega
            · obtain rfl : q = m := by omega
              have HFIN := hide_ (HOQ.out.sub ((List.sublist_append_left ex0 ex).trans ((List.sublist_cons_self _ _).trans ((List.sublist_cons_self _ _).trans (List.sublist_append_right _ _)))))
              have HBF := hide_ (HB2.out.trans (HBQ.out.mono (Nat.le_trans HBS.out HB2.out.size)))
              go_wp2
              go_ret
              exact ⟨rfl, HFIN.out, HBF.out⟩
end Go.Proofs.Ytcfpclhoockcfaa
