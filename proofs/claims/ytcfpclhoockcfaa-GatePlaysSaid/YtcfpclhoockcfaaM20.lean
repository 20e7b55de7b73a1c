/-
  The document's Sorted: the grants, rising by number.
-/
import Derived.Test.YtcfpclhoockcfaaM19
import Derived.Deep.Cut
namespace Go.Proofs.Ytcfpclhoockcfaa
open Go.RowKit Go.PlainAid Go.BigFrame
set_option linter.unusedVariables false
set_option linter.unusedSimpArgs false
set_option maxRecDepth 100000
def Rise (l : List (Int × Int)) : Prop := l.Pairwise fun s t => s.1 ≤ t.1
/-- P, then t, then Q: what stands while t moves down -/
structure Mv (P Q : List (Int × Int)) (t : Int × Int) : Prop where
  up : Rise (P ++ Q)
  gt : ∀ s ∈ Q, t.1 ≤ s.1
theorem mv_start {X : List (Int × Int)} {t : Int × Int} (h : Rise X) : Mv X [] t := ⟨by rw [List.append_nil]; exact h, by simp⟩
theorem mv_down {P Q : List (Int × Int)} {s t : Int × Int} (h : Mv (P ++ [s]) Q t) (hs : t.1 < s.1) : Mv P (s :: Q) t := by
  refine ⟨?_, fun u hu => ?_⟩
  · have := h.up
    rwa [List.append_assoc] at this
  · rcases List.mem_cons.1 hu with rfl | hu
    · omega
    · exact h.gt u hu
theorem mv_stop {P Q : List (Int × Int)} {t : Int × Int} (h : Mv P Q t) (hp : ∀ s, P.getLast? = some s → s.1 ≤ t.1) : Rise (P ++ t :: Q) := by
  obtain ⟨h1, h2⟩ := h
  unfold Rise at h1 ⊢
  rw [List.pairwise_append] at h1 ⊢
  refine ⟨h1.1, List.pairwise_cons.2 ⟨h2, h1.2.1⟩, fun a ha b hb => ?_⟩
  have hat : a.1 ≤ t.1 := by
    rcases List.eq_nil_or_concat P with rfl | ⟨R, s, rfl⟩
    · cases ha
    · rw [List.concat_eq_append] at ha hp h1
      have hs := hp s (by simp)
      rcases List.mem_append.1 ha with ha | ha
      · have := (List.pairwise_append.1 h1.1).2.2 a ha s (by simp)
        omega
      · rw [List.mem_singleton.1 ha]; exact hs
  rcases List.mem_cons.1 hb with rfl | hb
  · exact hat
  · have := h2 b hb
    omega
theorem mv_perm {P Q X : List (Int × Int)} {t : Int × Int} (h : (P ++ Q).Perm X) : (P ++ t :: Q).Perm (X ++ [t]) :=
  (List.perm_middle).trans ((h.cons t).trans (List.perm_append_singleton t X).symm)
theorem swap_down (P Q : List (Int × Int)) (s t : Int × Int) : ((P ++ s :: t :: Q).set (P.length + 1) s).set P.length t = P ++ t :: s :: Q := by
  rw [List.set_append_right _ _ (by omega), List.set_append_right _ _ (by omega)]
  simp
set_option maxHeartbeats 4000000 in
theorem rSorted_any (A : Option Addr) (n c B : Nat) (l : List (Int × Int)) (w : World) (hr : GReads w B A n l) (hB : B ≤ w.heap.size) (hn : n * 16 ≤ 140737488351232) :
    Calls Try.prog 27 #[.slice A n c] w fun e w' => ∃ (v : Value) (l' : List (Int × Int)), e = .returned v ∧ l'.Perm l ∧ Rise l' ∧ w'.ownsRow w.heap.size 68 2 v n (gCells l') ∧ Below w.heap.size w w' := by
  obtain ⟨i0, hi0, hz0, hz1, hz2⟩ := info_parts gr_info
  have HR := hide_ hr
  have HB := hide_ hB
  have HL := hide_ hr.1
  have HO0 := hide_ (Owns.nilrow (Owns.nil_ (w := w) (B := w.heap.size)) 68 2)
  clear hr hB
  go_enter Try.func27, Try.ntmps27
  go_wp2
  go_loopw [3, 4] (fun v i wr => ∃ (k : Nat) (X : List (Int × Int)), k ≤ n ∧ i = .int .i64 k ∧ Hid (X.Perm (l.take k) ∧ Rise X ∧ X.length = k) ∧ Hid (Owns wr w.heap.size [⟨68, 2, v, k, gCells X⟩]) ∧ Hid (Below w.heap.size w wr)) (fun _ i _ => n - (intOf i).toNat)
  case atStart => exact ⟨0, [], Nat.zero_le _, rfl, hide_ ⟨by simp, List.Pairwise.nil, rfl⟩, HO0, hide_ (Below.refl _ _)⟩
  case round =>
    clear HO0
    obtain ⟨k, X, hk, rfl, HX, HO, HW⟩ := hrel
    obtain ⟨A1, c1, hv, _, _⟩ := ownsRow_slice (HO.out.at_ (i := 0) rfl)
    dsimp only at hv
    subst hv
    by_cases hlt : k < n
    · obtain ⟨⟨y, z⟩, ht⟩ : ∃ t, l[k]? = some t := ⟨_, List.getElem?_eq_getElem (by rw [HL.out]; exact hlt)⟩
      obtain ⟨ad, rfl, hbk, hcl⟩ := (HR.out.below (HW.out.mono HB.out)).2 (by omega)
      obtain ⟨c0, c1'⟩ := hcl k y z ht
      have hbs : (ad.add (k * 2)).block < wr.heap.size := by rw [block_of_add]; have := HB.out; have := HW.out.size; omega
      have HT := hide_ (take_one ht)
      clear hcl hbk ht
      go_wp2_with (at_builtin; refine wpList_append_owns _ rfl (.tmp 13) (.tmp 18) 22 rfl w.heap.size _ 0 68 2 (.slice A1 k c1) k (gCells X) rfl (HO.out.alloc _) (by have := HW.out.size; simp; omega) i0 _ 16 Try.underlying22 hi0 hz0 hz1 hz2 rfl (by omega) rfl _ _ 1 1 [.int .u32 y, .int .i64 z] rfl (reads_new wr 68 2 1 [.int .u32 y, .int .i64 z] rfl) (by simp [Value.oneCell']) (by simp only [maxLen]; omega) (by omega) ?_)
      intro v2 w2 hO2 hb2 hsz2
      obtain ⟨g, c2, hv2⟩ := ownsRow_some (hO2.at_ (i := 0) rfl) (show 0 < k + 1 by omega)
      have hv : v2 = .slice (some ⟨g, 0, none⟩) (k + 1) c2 := hv2
      subst hv
      have HO2 := hide_ (show Owns w2 w.heap.size [⟨68, 2, .slice (some ⟨g, 0, none⟩) (k + 1) c2, k + 1, gCells (X ++ [(y, z)])⟩] by rw [gCells_snoc]; exact hO2)
      have HB2 := hide_ ((HW.out.alloc HW.out.size _).trans hb2)
      have HP0 := hide_ (mv_start (t := (y, z)) HX.out.2.1)
      have s1 : IntKind.i64.wrap ((k : Int) + 1 - 1) = (k : Int) := (IntWalk.i64_in _ (by omega)).trans (by omega)
      have s2 : IntKind.i64.wrap (k : Int) = (k : Int) := IntWalk.i64_in _ (by omega)
      clear hO2 hb2 hsz2 hv2 c0 c1' hbs HO HW
      go_wp2
      clear s1 s2
      go_loopw [5] (fun i wr => ∃ (p : Nat) (P Q : List (Int × Int)), p ≤ k ∧ i = .int .i64 p ∧ P.length = p ∧ Hid (Mv P Q (y, z) ∧ (P ++ Q).Perm X) ∧ Hid (Owns wr w.heap.size [⟨68, 2, .slice (some ⟨g, 0, none⟩) (k + 1) c2, k + 1, gCells (P ++ (y, z) :: Q)⟩]) ∧ Hid (Below w.heap.size w wr)) (fun i _ => (intOf i).toNat)
      case atStart => exact ⟨k, X, [], Nat.le_refl _, rfl, HX.out.2.2, hide_ ⟨HP0.out, by simp⟩, HO2, HB2⟩
      case round =>
        clear HO2 HB2 HP0
        obtain ⟨p, P, Q, hp, rfl, hP, HM, HO, HW⟩ := hrel
        have hgb := HO.out.base (i := 0) rfl
        have hg2 := hgb.2
        have FINP := hide_ (fun (hs : ∀ s, P.getLast? = some s → s.1 ≤ y) => show (P ++ (y, z) :: Q).Perm (l.take (k + 1)) ∧ Rise (P ++ (y, z) :: Q) ∧ (P ++ (y, z) :: Q).length = k + 1 from by
          have h1 := mv_perm (t := (y, z)) HM.out.2
          have h2 : (P ++ (y, z) :: Q).Perm (l.take (k + 1)) := by
            rw [HT.out]
            exact h1.trans (HX.out.1.append_right _)
          refine ⟨h2, mv_stop HM.out.1 hs, ?_⟩
          rw [h1.length_eq, List.length_append, HX.out.2.2]
          rfl)
        rcases Nat.eq_zero_or_pos p with h0 | h0
        · have hPn : P = [] := List.eq_nil_of_length_eq_zero (by omega)
          have HF := hide_ (FINP.out (fun s hs => by rw [hPn] at hs; simp at hs))
          subst h0
          have hq0 : ¬ ((0 : Int) < ((0 : Nat) : Int)) := by simp
          clear hgb hPn hP
          go_wp2
          go_big_quiet (fail)
          go_wp2
          go_roundw
          case rel => exact ⟨k + 1, P ++ (y, z) :: Q, by omega, by go_num, HF, hide_ (HO.out.drewN _), hide_ (below_draws2 HW.out _)⟩
          case measure => simp [intOf]; omega
        · obtain ⟨q, rfl⟩ : ∃ q, p = q + 1 := ⟨p - 1, by omega⟩
          obtain ⟨P', ⟨sx, sa⟩, rfl⟩ : ∃ (P' : List (Int × Int)) (t : Int × Int), P = P' ++ [t] := by
            rcases List.eq_nil_or_concat P with rfl | ⟨R, s, rfl⟩
            · simp at hP
            · exact ⟨R, s, List.concat_eq_append⟩
          have hq : P'.length = q := by simpa using hP
          have eL : P' ++ [(sx, sa)] ++ (y, z) :: Q = P' ++ (sx, sa) :: (y, z) :: Q := by simp
          have HOq := hide_ (show Owns wr w.heap.size [⟨68, 2, .slice (some ⟨g, 0, none⟩) (k + 1) c2, k + 1, gCells (P' ++ (sx, sa) :: (y, z) :: Q)⟩] by rw [← eL]; exact HO.out)
          have hg1 : (P' ++ (sx, sa) :: (y, z) :: Q)[q]? = some (sx, sa) := by rw [List.getElem?_append_right (by omega), hq, Nat.sub_self]; rfl
          have hg3 : (P' ++ (sx, sa) :: (y, z) :: Q)[q + 1]? = some (y, z) := by rw [List.getElem?_append_right (by omega), hq, Nat.add_sub_cancel_left]; rfl
          obtain ⟨x0, x1⟩ := gCells_get _ hg1
          obtain ⟨y0, y1⟩ := gCells_get _ hg3
          have x0 := HOq.out.cell (i := 0) rfl x0
          have x1 := HOq.out.cell (i := 0) rfl x1
          have y0 := HOq.out.cell (i := 0) rfl y0
          have y1 := HOq.out.cell (i := 0) rfl y1
          dsimp only at x0 x1 y0 y1
          have s1 : IntKind.i64.wrap ((((q + 1 : Nat) : Int)) - 1) = (q : Int) := (IntWalk.i64_in _ (by omega)).trans (by omega)
          have s2 : IntKind.i64.wrap (q : Int) = (q : Int) := IntWalk.i64_in _ (by omega)
          have s3 : (0 : Int) < ((q + 1 : Nat) : Int) := by omega
          have s4 : (q : Int) < (k : Int) + 1 := by omega
          have s5 : ((q + 1 : Nat) : Int) < (k : Int) + 1 := by omega
          have s6 : IntKind.i64.wrap ((q : Int) + 1 - 1) = (q : Int) := (IntWalk.i64_in _ (by omega)).trans (by omega)
          have s7 : (0 : Int) < (q : Int) + 1 := by omega
          have s8 : (q : Int) + 1 < (k : Int) + 1 := by omega
          have s9 : (0 : Int) ≤ (q : Int) + 1 := by omega
          have s10 : ((q : Int) + 1).toNat = q + 1 := by omega
          have HLEN := hide_ (show (P' ++ (sx, sa) :: (y, z) :: Q).length = k + 1 by
            have h := (mv_perm (t := (y, z)) HM.out.2).length_eq
            simp [HX.out.2.2] at h
            simp
            omega)
          have HM2 := hide_ HM.out
          clear hg1 hg3 hP HO eL
          by_cases he : y < sx
          · have he' : decide (y < sx) = true := by simpa using he
            have HMV := hide_ (show Mv P' ((sx, sa) :: Q) (y, z) ∧ (P' ++ (sx, sa) :: Q).Perm X from ⟨mv_down HM2.out.1 he, by have := HM2.out.2; rwa [List.append_assoc] at this⟩)
            clear he FINP HM2
            go_wp2
            go_big_quiet (fail)
            obtain ⟨w5, hw5⟩ : ∃ W, W = wr.drewN nq := ⟨_, rfl⟩
            have HO5 := hide_ (show Owns w5 w.heap.size [⟨68, 2, .slice (some ⟨g, 0, none⟩) (k + 1) c2, k + 1, gCells (P' ++ (sx, sa) :: (y, z) :: Q)⟩] by rw [hw5]; exact HOq.out.drewN nq)
            have HB5 := hide_ (show Below w.heap.size w w5 by rw [hw5]; exact below_draws2 HW.out nq)
            have x0 : w5.cell? ⟨g, q * 2, none⟩ = some (.int .u32 sx) := by rw [hw5]; exact x0
            have x1 : w5.cell? ⟨g, q * 2 + 1, none⟩ = some (.int .i64 sa) := by rw [hw5]; exact x1
            have y0 : w5.cell? ⟨g, (q + 1) * 2, none⟩ = some (.int .u32 y) := by rw [hw5]; exact y0
            have y1 : w5.cell? ⟨g, (q + 1) * 2 + 1, none⟩ = some (.int .i64 z) := by rw [hw5]; exact y1
            have hg2 : g < w5.heap.size := by rw [hw5]; exact hg2
            rw [← hw5]
            clear hw5 HOq HW
            obtain ⟨w6, hw6⟩ : ∃ W, W = w5.alloc (.cells #[.int .u32 y, .int .i64 z] 68) := ⟨_, rfl⟩
            obtain ⟨bx, hbx⟩ : ∃ b, b = w5.heap.size := ⟨_, rfl⟩
            have HO6 := hide_ (show Owns w6 w.heap.size [⟨68, 2, .slice (some ⟨g, 0, none⟩) (k + 1) c2, k + 1, gCells (P' ++ (sx, sa) :: (y, z) :: Q)⟩, ⟨68, 1, .slice (some ⟨bx, 0, none⟩) 2 2, 2, [.int .u32 y, .int .i64 z]⟩] by
              rw [hw6, hbx]
              exact HO5.out.box 68 #[.int .u32 y, .int .i64 z] HB5.out.size (by simp [maxLen]))
            have HB6 := hide_ (show Below w.heap.size w w6 by rw [hw6]; exact HB5.out.alloc HB5.out.size _)
            go_upto_region 9 with (fail)
            rw [← hw6, ← hbx]
            clear hw6 hbx x0 x1 y0 y1 hg2 HO5 HB5
            have x0 : w6.cell? ⟨g, q * 2, none⟩ = some (.int .u32 sx) := HO6.out.cell (i := 0) rfl (gCells_get _ (show (P' ++ (sx, sa) :: (y, z) :: Q)[q]? = some (sx, sa) by rw [List.getElem?_append_right (by omega), hq, Nat.sub_self]; rfl)).1
            have x1 : w6.cell? ⟨g, q * 2 + 1, none⟩ = some (.int .i64 sa) := HO6.out.cell (i := 0) rfl (gCells_get _ (show (P' ++ (sx, sa) :: (y, z) :: Q)[q]? = some (sx, sa) by rw [List.getElem?_append_right (by omega), hq, Nat.sub_self]; rfl)).2
            have y0 : w6.cell? ⟨g, (q + 1) * 2, none⟩ = some (.int .u32 y) := HO6.out.cell (i := 0) rfl (gCells_get _ (show (P' ++ (sx, sa) :: (y, z) :: Q)[q + 1]? = some (y, z) by rw [List.getElem?_append_right (by omega), hq, Nat.add_sub_cancel_left]; rfl)).1
            have y1 : w6.cell? ⟨g, (q + 1) * 2 + 1, none⟩ = some (.int .i64 z) := HO6.out.cell (i := 0) rfl (gCells_get _ (show (P' ++ (sx, sa) :: (y, z) :: Q)[q + 1]? = some (y, z) by rw [List.getElem?_append_right (by omega), hq, Nat.add_sub_cancel_left]; rfl)).2
            have f0 := HO6.out.frozen (i := 0) rfl ((q + 1) * 2)
            have f1 := HO6.out.frozen (i := 0) rfl ((q + 1) * 2 + 1)
            have hg2 := (HO6.out.base (i := 0) rfl).2
            have hg1 := hide_ (HO6.out.base (i := 0) rfl).1
            obtain ⟨w7, hw7⟩ : ∃ W, W = (w6.setCell ⟨g, (q + 1) * 2, none⟩ (.int .u32 sx)).setCell ⟨g, (q + 1) * 2 + 1, none⟩ (.int .i64 sa) := ⟨_, rfl⟩
            have HO7 := hide_ (show Owns w7 w.heap.size [⟨68, 2, .slice (some ⟨g, 0, none⟩) (k + 1) c2, k + 1, gCells ((P' ++ (sx, sa) :: (y, z) :: Q).set (q + 1) (sx, sa))⟩, ⟨68, 1, .slice (some ⟨bx, 0, none⟩) 2 2, 2, [.int .u32 y, .int .i64 z]⟩] by
              have h1 := HO6.out.store (i := 0) rfl (j := (q + 1) * 2) (by rw [gCells_len, HLEN.out]; omega) (.int .u32 sx)
              have h2 := h1.store (i := 0) rfl (j := (q + 1) * 2 + 1) (by rw [List.length_set, gCells_len, HLEN.out]; omega) (.int .i64 sa)
              rw [hw7, ← gCells_set _ (q + 1) (sx, sa) (by rw [HLEN.out]; omega)]
              exact h2)
            have HB7 := hide_ (show Below w.heap.size w w7 by rw [hw7]; exact (HB6.out.setCell (p := ⟨g, (q + 1) * 2, none⟩) hg1.out _).setCell (p := ⟨g, (q + 1) * 2 + 1, none⟩) hg1.out _)
            go_upto_region 10 with (fail)
            rw [← hw7]
            clear hw7 x0 x1 y0 y1 f0 f1 hg2 hg1 HO6 HB6
            have x0 : w7.cell? ⟨g, q * 2, none⟩ = some (.int .u32 sx) := HO7.out.cell (i := 0) rfl (gCells_get _ (show ((P' ++ (sx, sa) :: (y, z) :: Q).set (q + 1) (sx, sa))[q]? = some (sx, sa) by rw [List.getElem?_set_ne (by omega), List.getElem?_append_right (by omega), hq, Nat.sub_self]; rfl)).1
            have x1 : w7.cell? ⟨g, q * 2 + 1, none⟩ = some (.int .i64 sa) := HO7.out.cell (i := 0) rfl (gCells_get _ (show ((P' ++ (sx, sa) :: (y, z) :: Q).set (q + 1) (sx, sa))[q]? = some (sx, sa) by rw [List.getElem?_set_ne (by omega), List.getElem?_append_right (by omega), hq, Nat.sub_self]; rfl)).2
            have y0 : w7.cell? ⟨bx, 0, none⟩ = some (.int .u32 y) := HO7.out.cell (i := 1) (j := 0) rfl rfl
            have y1 : w7.cell? ⟨bx, 1, none⟩ = some (.int .i64 z) := HO7.out.cell (i := 1) (j := 1) rfl rfl
            have f0 := HO7.out.frozen (i := 0) rfl (q * 2)
            have f1 := HO7.out.frozen (i := 0) rfl (q * 2 + 1)
            have hg2 := (HO7.out.base (i := 0) rfl).2
            have hb2 := (HO7.out.base (i := 1) rfl).2
            have hg1 := hide_ (HO7.out.base (i := 0) rfl).1
            obtain ⟨w8, hw8⟩ : ∃ W, W = (w7.setCell ⟨g, q * 2, none⟩ (.int .u32 y)).setCell ⟨g, q * 2 + 1, none⟩ (.int .i64 z) := ⟨_, rfl⟩
            have HO8 := hide_ (show Owns w8 w.heap.size [⟨68, 2, .slice (some ⟨g, 0, none⟩) (k + 1) c2, k + 1, gCells (P' ++ (y, z) :: (sx, sa) :: Q)⟩] by
              have h1 := HO7.out.store (i := 0) rfl (j := q * 2) (by rw [gCells_len, List.length_set, HLEN.out]; omega) (.int .u32 y)
              have h2 := h1.store (i := 0) rfl (j := q * 2 + 1) (by rw [List.length_set, gCells_len, List.length_set, HLEN.out]; omega) (.int .i64 z)
              have h3 := swap_down P' Q (sx, sa) (y, z)
              rw [hq] at h3
              rw [hw8, ← h3, ← gCells_set _ q (y, z) (by rw [List.length_set, HLEN.out]; omega)]
              exact h2.sub (List.Sublist.cons_cons _ (List.nil_sublist _)))
            have HB8 := hide_ (show Below w.heap.size w w8 by rw [hw8]; exact (HB7.out.setCell (p := ⟨g, q * 2, none⟩) hg1.out _).setCell (p := ⟨g, q * 2 + 1, none⟩) hg1.out _)
            have hpk : q ≤ k := by omega
            go_upto_region 11 with (fail)
            rw [← hw8]
            clear hw8 x0 x1 y0 y1 f0 f1 hg2 hb2 hg1 HO7 HB7
            go_wp2
            go_roundw
            case rel => exact ⟨q, P', (sx, sa) :: Q, hpk, by go_num, hq, HMV, HO8, HB8⟩
            case measure => simp [intOf] <;> omega
          · have he' : decide (y < sx) = false := by simpa using he
            have HF := hide_ (FINP.out (fun s hs => by
              have : s = (sx, sa) := by simpa using hs.symm
              rw [this]
              show sx ≤ y
              omega))
            have HOF := hide_ (show Owns wr w.heap.size [⟨68, 2, .slice (some ⟨g, 0, none⟩) (k + 1) c2, k + 1, gCells (P' ++ [(sx, sa)] ++ (y, z) :: Q)⟩] by
              have h := HOq.out
              rwa [show P' ++ (sx, sa) :: (y, z) :: Q = P' ++ [(sx, sa)] ++ (y, z) :: Q by simp] at h)
            clear he FINP HOq
            go_wp2
            go_big_quiet (fail)
            go_wp2
            go_roundw
            case rel => exact ⟨k + 1, P' ++ [(sx, sa)] ++ (y, z) :: Q, by omega, by go_num, HF, hide_ (HOF.out.drewN _), hide_ (below_draws2 HW.out _)⟩
            case measure => simp [intOf]; omega
    · have hkn : k = n := by omega
      have HE := hide_ (show X.Perm l by have := HX.out.1; rwa [List.take_of_length_le (by rw [HL.out, hkn]; exact Nat.le_refl _)] at this)
      subst hkn
      go_wp2
      go_ret
      exact ⟨_, rfl, X, HE.out, HX.out.2.1, HO.out.at_ (i := 0) rfl, HW.out⟩
end Go.Proofs.Ytcfpclhoockcfaa
/-
  The document's data segment: Load, Words.
-/
namespace Go.Proofs.Ytcfpclhoockcfaa
open Go.RowKit Go.PlainAid Go.BigFrame
set_option linter.unusedVariables false
set_option linter.unusedSimpArgs false
set_option maxRecDepth 100000
theorem pow256 : IsPow 256 := ⟨8, by omega, rfl⟩
theorem plc256 (a : Int) (i : Nat) (h0 : 0 ≤ a) (h1 : a < 4294967296) : Int.tmod (IntKind.u32.wrap (a + (i : Nat))) 256 = plc 256 a i := by
  unfold plc
  rw [IntKind.wrap_u32, Int.tmod_eq_emod_of_nonneg (by omega)]
  rfl
theorem u8_cell {w : World} {B n : Nat} {A : Option Addr} {xs : List Int} (h : Reads w B 1 A n (u8s xs)) {p : Int} (h0 : 0 ≤ p) (h1 : p < n) : ∃ ad, A = some ad ∧ ad.block < B ∧ w.cell? (ad.add p.toNat) = some (.int .u8 (gt xs p)) := by
  obtain ⟨ad, u, e, hb, hx, hc⟩ := h.at_ (show p.toNat < n by omega)
  have hl : xs.length = n := by have := h.1; simpa using this
  have hu := get_map (Value.int .u8) xs 0 p.toNat (by omega) hx
  subst hu
  exact ⟨ad, e, hb, hc⟩
set_option maxHeartbeats 4000000 in
theorem rLoad_any (A : Option Addr) (c B : Nat) (xs : List Int) (a : Int) (w : World) (hr : Reads w B 1 A 256 (u8s xs)) (hx : bytesOk xs) (hB : B ≤ w.heap.size) (h0 : 0 ≤ a) (h1 : a < 4294967296) :
    Calls Try.prog 52 #[.slice A 256 c, .int .u32 a] w fun e w' => e = .returned (.int .u32 (wordAt 256 a xs 4)) ∧ Below w.heap.size w w' := by
  have hwd : wordAt 256 a xs 4 = gt xs (plc 256 a 0) + 256 * gt xs (plc 256 a 1) + 65536 * gt xs (plc 256 a 2) + 16777216 * gt xs (plc 256 a 3) := by simp [wordAt]
  have HWD := hide_ hwd
  have t0 := plc256 a 0 h0 h1
  have t1 := plc256 a 1 h0 h1
  have t2 := plc256 a 2 h0 h1
  have t3 := plc256 a 3 h0 h1
  have b0 := plc_bd pow256 a 0
  have b1 := plc_bd pow256 a 1
  have b2 := plc_bd pow256 a 2
  have b3 := plc_bd pow256 a 3
  obtain ⟨ad, rfl, hbk, c0⟩ := u8_cell hr b0.1 b0.2
  obtain ⟨_, e1, _, c1⟩ := u8_cell hr b1.1 b1.2
  obtain ⟨_, e2, _, c2⟩ := u8_cell hr b2.1 b2.2
  obtain ⟨_, e3, _, c3⟩ := u8_cell hr b3.1 b3.2
  injection e1 with e1
  injection e2 with e2
  injection e3 with e3
  subst e1 e2 e3
  have z0 := gt_bd hx (plc 256 a 0)
  have z1 := gt_bd hx (plc 256 a 1)
  have z2 := gt_bd hx (plc 256 a 2)
  have z3 := gt_bd hx (plc 256 a 3)
  obtain ⟨g0, hg0⟩ : ∃ g, g = gt xs (plc 256 a 0) := ⟨_, rfl⟩
  obtain ⟨g1, hg1⟩ : ∃ g, g = gt xs (plc 256 a 1) := ⟨_, rfl⟩
  obtain ⟨g2, hg2⟩ : ∃ g, g = gt xs (plc 256 a 2) := ⟨_, rfl⟩
  obtain ⟨g3, hg3⟩ : ∃ g, g = gt xs (plc 256 a 3) := ⟨_, rfl⟩
  rw [← hg0] at c0 z0
  rw [← hg1] at c1 z1
  rw [← hg2] at c2 z2
  rw [← hg3] at c3 z3
  rw [← hg0, ← hg1, ← hg2, ← hg3] at HWD
  obtain ⟨p0, hp0⟩ : ∃ p, p = plc 256 a 0 := ⟨_, rfl⟩
  obtain ⟨p1, hp1⟩ : ∃ p, p = (a + 1) % 256 := ⟨_, rfl⟩
  have hp1' : plc 256 a 1 = p1 := (plc_mod pow256 a 1).trans hp1.symm
  obtain ⟨p2, hp2⟩ : ∃ p, p = (a + 2) % 256 := ⟨_, rfl⟩
  have hp2' : plc 256 a 2 = p2 := (plc_mod pow256 a 2).trans hp2.symm
  obtain ⟨p3, hp3⟩ : ∃ p, p = (a + 3) % 256 := ⟨_, rfl⟩
  have hp3' : plc 256 a 3 = p3 := (plc_mod pow256 a 3).trans hp3.symm
  rw [← hp0] at c0 b0 t0
  rw [hp1'] at c1 b1 t1
  rw [hp1] at c1 b1
  rw [hp2'] at c2 b2 t2
  rw [hp2] at c2 b2
  rw [hp3'] at c3 b3 t3
  rw [hp3] at c3 b3
  clear hg0 hg1 hg2 hg3 hp0 hp1 hp2 hp3 hp1' hp2' hp3' hwd hr hx
  have hn : IntKind.u32.wrap (256 : Int) = 256 := by rw [IntKind.wrap_u32]; rfl
  have t0' : Int.tmod a 256 = p0 := by
    have := t0
    rwa [show a + ((0 : Nat) : Int) = a by omega, IntKind.wrap_u32, show a % 4294967296 = a by omega] at this
  have m1 : IntKind.u32.wrap (256 * g1) = 256 * g1 := IntWalk.u32_in _ (by omega)
  have m2 : IntKind.u32.wrap (65536 * g2) = 65536 * g2 := IntWalk.u32_in _ (by omega)
  have m3 : IntKind.u32.wrap (16777216 * g3) = 16777216 * g3 := IntWalk.u32_in _ (by omega)
  have a1 : IntKind.u32.wrap (g0 + 256 * g1) = g0 + 256 * g1 := IntWalk.u32_in _ (by omega)
  have a2 : IntKind.u32.wrap (g0 + 256 * g1 + 65536 * g2) = g0 + 256 * g1 + 65536 * g2 := IntWalk.u32_in _ (by omega)
  have a3 : IntKind.u32.wrap (g0 + 256 * g1 + 65536 * g2 + 16777216 * g3) = g0 + 256 * g1 + 65536 * g2 + 16777216 * g3 := IntWalk.u32_in _ (by omega)
  have k0 : IntKind.u32.wrap g0 = g0 := IntWalk.u32_in _ (by omega)
  have k1 : IntKind.u32.wrap g1 = g1 := IntWalk.u32_in _ (by omega)
  have k2 : IntKind.u32.wrap g2 = g2 := IntWalk.u32_in _ (by omega)
  have k3 : IntKind.u32.wrap g3 = g3 := IntWalk.u32_in _ (by omega)
  obtain ⟨b00, b01⟩ := b0
  obtain ⟨b10, b11⟩ := b1
  obtain ⟨b20, b21⟩ := b2
  obtain ⟨b30, b31⟩ := b3
  have q0 : (ad.add p0.toNat).block < w.heap.size := by rw [block_of_add]; omega
  have q1 : (ad.add ((a + 1) % 256).toNat).block < w.heap.size := by rw [block_of_add]; omega
  have q2 : (ad.add ((a + 2) % 256).toNat).block < w.heap.size := by rw [block_of_add]; omega
  have q3 : (ad.add ((a + 3) % 256).toNat).block < w.heap.size := by rw [block_of_add]; omega
  clear t0 t1 t2 t3 hbk p1 p2 p3
  go_enter Try.func52, Try.ntmps52
  go_wp2
  go_big_quiet (fail)
  go_wp2
  go_ret
  refine ⟨?_, below_draws2 (Below.refl _ _) _⟩
  rw [HWD.out]
  rfl
set_option maxHeartbeats 2000000 in
theorem rWords_any (A : Option Addr) (c B : Nat) (xs : List Int) (sp : Int) (m : Nat) (w : World) (hr : Reads w B 1 A 256 (u8s xs)) (hx : bytesOk xs) (hB : B ≤ w.heap.size) (h0 : 0 ≤ sp) (h1 : sp < 4294967296) (hm : m ≤ 15) :
    Calls Try.prog 31 #[.slice A 256 c, .int .u32 sp, .int .i64 m] w fun e w' => ∃ v, e = .returned v ∧ w'.ownsRow w.heap.size 39 1 v m (u32s (wordsAt 256 xs sp m)) ∧ Below w.heap.size w w' := by
  obtain ⟨i0, hi0, hz0, hz1, hz2⟩ := info_parts info_u32w
  have HLD := hide_ (fun W (hb : Below w.heap.size w W) (a : Int) (h0 : 0 ≤ a) (h1 : a < 4294967296) => rLoad_any A c B xs a W (hr.below (hb.mono hB)) hx (Nat.le_trans hB hb.size) h0 h1)
  have HO0 := hide_ (Owns.nilrow (Owns.nil_ (w := w) (B := w.heap.size)) 39 1)
  clear hr hx hB
  go_enter Try.func31, Try.ntmps31
  go_wp2
  go_loopw [7, 8] (fun v i wr => ∃ k : Nat, k ≤ m ∧ i = .int .i64 k ∧ Hid (Owns wr w.heap.size [⟨39, 1, v, k, u32s (wordsAt 256 xs sp k)⟩]) ∧ Hid (Below w.heap.size w wr)) (fun _ i _ => m - (intOf i).toNat)
  case atStart => exact ⟨0, Nat.zero_le _, rfl, HO0, hide_ (Below.refl _ _)⟩
  case round =>
    clear HO0
    obtain ⟨k, hk, rfl, HO, HW⟩ := hrel
    obtain ⟨A1, c1, hv, _, _⟩ := ownsRow_slice (HO.out.at_ (i := 0) rfl)
    dsimp only at hv
    subst hv
    by_cases hlt : k < m
    · have HC := hide_ (show wordAt 256 ((sp + 4 + 4 * (k : Int)) % 4294967296) xs 4 = wordAt 256 (sp + 4 + 4 * (k : Int)) xs 4 from wordAt_cong xs 4 (by omega))
      have HLA := hide_ (HLD.out wr HW.out ((sp + 4 + 4 * (k : Int)) % 4294967296) (by omega) (by omega))
      obtain ⟨r, hr⟩ : ∃ r, r = wordAt 256 ((sp + 4 + 4 * (k : Int)) % 4294967296) xs 4 := ⟨_, rfl⟩
      rw [← hr] at HC HLA
      have NEXT := hide_ (show u32s (wordsAt 256 xs sp (k + 1)) = u32s (wordsAt 256 xs sp k) ++ [.int .u32 r] by rw [wordsAt_succ, ← HC.out]; simp)
      clear hr HC
      go_wp2_with fail
      refine HLA.out.mono ?_
      rintro e w2 ⟨rfl, hb2⟩
      have HO2 := hide_ (HO.out.below hb2)
      have HW2 := hide_ (HW.out.trans (hb2.mono HW.out.size))
      clear hb2 HLA HO HW
      go_wp2_with (at_builtin; refine wpList_append_owns _ rfl (.tmp 14) (.tmp 23) 40 rfl w.heap.size _ 0 39 1 (.slice A1 k c1) k (u32s (wordsAt 256 xs sp k)) rfl (HO2.out.alloc _) (by have := HW2.out.size; simp; omega) i0 _ 4 Try.underlying40 hi0 hz0 hz1 hz2 rfl (by omega) rfl _ _ 1 1 [.int .u32 r] rfl (reads_new w2 39 1 1 [.int .u32 r] rfl) (by simp [Value.oneCell']) (by simp only [maxLen]; omega) (by omega) ?_)
      intro v3 w3 hO3 hb3 hsz3
      have HO3 := hide_ hO3
      have HB3 := hide_ ((HW2.out.alloc HW2.out.size _).trans hb3)
      clear hO3 hb3 hsz3
      go_wp2
      go_roundw
      case rel => exact ⟨k + 1, by omega, by go_num, hide_ (by rw [NEXT.out]; exact HO3.out), HB3⟩
      case measure => simp [intOf]; omega
    · have hkm : k = m := by omega
      subst hkm
      go_wp2
      go_ret
      exact ⟨_, rfl, HO.out.at_ (i := 0) rfl, HW.out⟩
end Go.Proofs.Ytcfpclhoockcfaa
