/-
  The walk of text.token.
-/
import Derived.Test.YtmbofpeedjlfhaaDoorTokB
import Derived.Test.YtmbofpeedjlfhaaDoorTokC
import Derived.Test.YtmbofpeedjlfhaaDoorTokF
namespace Go.Proofs.YtmbofpeedjlfhaaDoor
open Go.RowKit Go.PlainAid Go.Shelf
attribute [local go_sem] Oper.semAt_some
set_option linter.unusedVariables false

theorem cutR_low (s : ByteArray) (i : Nat) (h : bn s i < 128) : cutR s i = (bn s i : Int) := by
  have hd : Utf8.decode s i = (bn s i, 1) := by
    rw [Lib.decode_at]
    unfold bn at h ⊢
    unfold Lib.decodeN
    rw [if_pos h]
  have hl : ¬ lost s i := by
    unfold lost
    rw [hd]
    simp only
    omega
  unfold cutR
  rw [if_neg hl, hd]
theorem cutR_high (s : ByteArray) (i : Nat) (h : 128 ≤ bn s i) : cutR s i < 0 ∨ 128 ≤ cutR s i := by
  unfold cutR
  split
  · left; omega
  · right
    rw [Lib.decode_at]
    unfold bn at h
    unfold Lib.decodeN
    rw [if_neg (by omega)]
    repeat' split
    all_goals simp
    all_goals omega
theorem cutR_is (s : ByteArray) (i c : Nat) (hc : c < 128) : cutR s i = (c : Int) ↔ bn s i = c := by
  by_cases h : bn s i < 128
  · rw [cutR_low s i h]; omega
  · have := cutR_high s i (by omega)
    omega
theorem digR_cut (s : ByteArray) (i : Nat) : digR (cutR s i) = decide (48 ≤ bn s i ∧ bn s i ≤ 57) := by
  unfold digR
  by_cases h : bn s i < 128
  · rw [cutR_low s i h]
    by_cases h1 : 48 ≤ bn s i ∧ bn s i ≤ 57
    · rw [decide_eq_true h1, decide_eq_true (by omega : (48 : Int) ≤ (bn s i : Int)), decide_eq_true (by omega : (bn s i : Int) ≤ 57)]; rfl
    · rw [decide_eq_false h1]
      by_cases h2 : 48 ≤ bn s i
      · rw [decide_eq_false (by omega : ¬ (bn s i : Int) ≤ 57), Bool.and_false]
      · rw [decide_eq_false (by omega : ¬ (48 : Int) ≤ (bn s i : Int)), Bool.false_and]
  · have h3 := cutR_high s i (by omega)
    rw [decide_eq_false (show ¬ (48 ≤ bn s i ∧ bn s i ≤ 57) by omega)]
    rcases h3 with h3 | h3
    · rw [decide_eq_false (by omega : ¬ (48 : Int) ≤ cutR s i), Bool.false_and]
    · rw [decide_eq_false (by omega : ¬ cutR s i ≤ 57), Bool.and_false]
abbrev TokIs (x : Int × Int × Int) (w : World) (e : Ending) (w' : World) : Prop := e = .returned (.tuple #[.int .u8 x.1, .int .i64 x.2.1, .int .i64 x.2.2]) ∧ Below w.heap.size w w'
set_option maxRecDepth 100000 in
set_option maxHeartbeats 2000000 in
theorem token_any (s : ByteArray) (i : Nat) (A : Option Addr) (n c B : Nat) (sg : List ByteArray) (w : World) (hz : s.size ≤ 140737488351232) (hi : i < s.size) (hn : n ≤ 1048576) (hr : Reads w B 1 A n (sg.map Value.string)) (hB : B ≤ w.heap.size) :
    Calls Tryd.prog 30 #[.string s, .int .i64 i, .slice A n c] w (TokIs (tokN s sg i) w) := by
  have mixed : Tryd.prog.follows .mixedOrders = true := by kernel_rfl
  obtain ⟨X, hX⟩ : ∃ X, X = tokN s sg i := ⟨_, rfl⟩
  have HX := hide_ hX
  rw [← hX]
  clear hX
  have H0 := hide_ (show cutR (s.extract i s.size) 0 = cutR s i by rw [cutR_ext s i 0 (by omega)]; rfl)
  have HT := hide_ (size_ext s i)
  refine (callsIn_wide (n := 30)).1 ?_
  refine callsIn_of_wp_marks Tryd.func30 rfl trivial ?_ rfl
  simp only [Tryd.ntmps30, List.size_toArray, List.length_cons, List.length_nil, Nat.reduceAdd, Nat.reduceSub, Array.replicate_succ, Array.replicate_zero, List.push_toArray, List.append_toArray, List.nil_append, List.cons_append]
  gi_wp2_with fail
  refine ⟨trivial, ?_⟩
  refine (callsIn_wide.2 (cutting_any (s.extract i s.size) _)).mono ?_
  rintro e w2 ⟨rfl, rfl⟩
  gi_wp2_with fail
  obtain ⟨t, ht⟩ : ∃ t, t = s.extract i s.size := ⟨_, rfl⟩
  rw [← ht] at H0 HT ⊢
  clear ht
  have hts : 0 < t.size := by rw [HT.out]; omega
  have b0 := (Boxed.new w 21 (.int .i32 (-1))).alloc (.cells #[.string t] 9)
  have b1 := Boxed.new (w.alloc (.cells #[.int .i32 (-1)] 21)) 9 (.string t)
  simp only [World.size_alloc] at b1
  have hB3 : Below w.heap.size w ((w.alloc (.cells #[.int .i32 (-1)] 21)).alloc (.cells #[.string t] 9)) := ((Below.refl _ w).alloc (Nat.le_refl _) _).alloc (by simp) _
  have hsz : ((w.alloc (.cells #[.int .i32 (-1)] 21)).alloc (.cells #[.string t] 9)).heap.size = w.heap.size + 1 + 1 := by simp
  obtain ⟨w3, hw3⟩ : ∃ w3, (w.alloc (.cells #[.int .i32 (-1)] 21)).alloc (.cells #[.string t] 9) = w3 := ⟨_, rfl⟩
  rw [hw3] at b0 b1 hB3 hsz ⊢
  clear hw3
  have HSZ := hide_ hsz
  have hnb : w.heap.size + 1 < w3.heap.size := by omega
  clear hsz
  refine rangeB (Bn := w.heap.size + 1) (s := t) (P' := 22) (Q' := 11) (by omega) rfl (by omega) b1.cell
    (fun pre W => pre = [] ∧ (Boxed W w.heap.size 21 (.int .i32 (-1)) ∧ Below w.heap.size w3 W))
    (fun cd pre W => ∃ x : Nat × Int, (cd = .exit 0 ∧ pre = [x]) ∧ (Boxed W w.heap.size 21 (.int .i32 x.2) ∧ Below w.heap.size w3 W))
    (OwnFrom.and (ownFrom_pure _ _) (OwnFrom.and (Own.from (boxed_own _ _ _) _) (ownFrom_below (by omega) (by omega))))
    (fun cd => ownFrom_ex fun x => OwnFrom.and (ownFrom_pure _ (fun pre => cd = .exit 0 ∧ pre = [x])) (OwnFrom.and (Own.from (boxed_own _ _ _) _) (ownFrom_below (by omega) (by omega))))
    ⟨rfl, b0, Below.refl _ _⟩ ?assign1 ?body1 ?done1 ?stop1
  case assign1 =>
    intro l x W K hK
    simp only [updA, List.setIfInBounds_toArray, List.set_cons_succ, List.set_cons_zero] at hK ⊢
    gi_wp2
    exact hK
  case done1 =>
    rintro D W hD ⟨hnil, _⟩ hk
    exfalso
    rw [cuts_at, cutsAt_lt t 0 hts] at hnil
    cases hnil
  case body1 =>
    rintro l pre ⟨p, r⟩ W hmem hl hr2 ⟨rfl, bN, hBW⟩ hlen
    simp only [updA, List.setIfInBounds_toArray, List.set_cons_succ, List.set_cons_zero]
    have cN := bN.cell
    have fN := bN.frozen
    have lN := bN.lt
    clear hmem hlen
    gi_wp2
    exact ⟨(KeepsOthers.setCell _ _ _).from _, (p, r), ⟨rfl, rfl⟩, bN.set (.int .i32 r), hBW.setCell (p := ⟨w.heap.size, 0, none⟩) (Nat.le_refl _) _⟩
  case stop1 =>
    rintro D cd pre W hD hS ⟨x, ⟨rfl, rfl⟩, bN, hBW⟩ hk
    have hx : x = (0, cutR t 0) := by
      rw [cuts_at, cutsAt_lt t 0 hts] at hS
      obtain ⟨suf, hsuf⟩ := hS
      simp only [List.cons_append, List.nil_append, List.cons.injEq] at hsuf
      exact hsuf.1
    subst hx
    simp only [H0.out] at bN
    obtain ⟨R, hR⟩ : ∃ R, R = cutR s i := ⟨_, rfl⟩
    rw [← hR] at bN
    have cN := bN.cell
    have lN := bN.lt
    have hDW : D < W.heap.size := (Array.getElem?_eq_some_iff.1 hk).1
    have HK := hide_ hk
    have HBW := hide_ (hB3.trans hBW)
    have hsW := (hB3.trans hBW).size
    have HFIN : Hid (∀ W' , Below W.heap.size W W' → W'.heap[D]? = some (.deferred (some [])) ∧ (Below w.heap.size w (W'.putObj D (.deferred none)))) := hide_ fun W' h => by
      have h1 : W'.heap[D]? = some (.deferred (some [])) := (h.block D hDW).trans hk
      exact ⟨h1, ((hB3.trans hBW).trans (h.mono hsW)).trans (belowK_b (n₀ := w.heap.size) (w := w) (Nat.le_refl _) _ D _ _ (by omega) h1 rfl rfl)⟩
    have HSG := hide_ (fun W' (h : Below W.heap.size W W') => signed_any s i A n c B sg W' (by omega) hi hn ((hr.below (((hB3.trans hBW).mono hB))).below (h.mono (Nat.le_trans hB hsW))) (by have := h.size; omega))
    clear hk hS bN hBW hB3 b0 b1 hr
    by_cases h10 : bn s i = 10
    · have HE := hide_ (show X = (6, (i : Int) + 1, 0) by rw [HX.out]; unfold tokN; rw [if_pos h10])
      have d10 : (R == 10) = true := by have := (cutR_is s i 10 (by omega)).2 h10; rw [hR, this]; rfl
      clear hR h10
      gi_wp2
      obtain ⟨hkE, hBE⟩ := HFIN.out _ (Below.refl _ W)
      refine ⟨by simp, .inl ⟨_, _, rfl, run_takeDeferred hkE, ?_⟩⟩
      exact ⟨.tuple #[.int .u8 X.1, .int .i64 X.2.1, .int .i64 X.2.2], by rw [HE.out]; simp [results, Tryd.results30, go_sem], rfl, hBE⟩
    have d10 : (R == 10) = false := by rw [beq_eq_false_iff_ne, hR]; exact fun h => h10 ((cutR_is s i 10 (by omega)).1 h)
    have HL := hide_ (fun W' => letter_any R W')
    by_cases hnm : letR (cutR s i) = true ∨ cutR s i = 95
    · have HE := hide_ (show X = (1, (nameE s i : Int), 0) by rw [HX.out]; unfold tokN; rw [if_neg h10, if_pos hnm])
      have HROW := hide_ (fun W' => row_any s i W' hz (by omega))
      rw [← hR] at hnm
      cases hlt : letR R with
      | true =>
        rw [hlt] at HL
        clear hR h10 hnm hlt
        gi_wp2_with fail
        refine ⟨trivial, ?_⟩
        refine (callsIn_wide.2 (HL.out _)).mono ?_
        rintro e w4 ⟨rfl, rfl⟩
        gi_wp2_with fail
        refine ⟨trivial, ?_⟩
        refine (callsIn_wide.2 (HROW.out _)).mono ?_
        rintro e w5 ⟨rfl, hb5⟩
        gi_wp2
        obtain ⟨hkE, hBE⟩ := HFIN.out _ hb5
        refine ⟨by simp, .inl ⟨_, _, rfl, run_takeDeferred hkE, ?_⟩⟩
        exact ⟨.tuple #[.int .u8 X.1, .int .i64 X.2.1, .int .i64 X.2.2], by rw [HE.out]; simp [results, Tryd.results30, go_sem], rfl, hBE⟩
      | false =>
        have d95 : (R == 95) = true := by rw [hlt] at hnm; simpa using hnm
        rw [hlt] at HL
        clear hR h10 hnm hlt
        gi_wp2_with fail
        refine ⟨trivial, ?_⟩
        refine (callsIn_wide.2 (HL.out _)).mono ?_
        rintro e w4 ⟨rfl, rfl⟩
        gi_wp2_with fail
        refine ⟨trivial, ?_⟩
        refine (callsIn_wide.2 (HROW.out _)).mono ?_
        rintro e w5 ⟨rfl, hb5⟩
        gi_wp2
        obtain ⟨hkE, hBE⟩ := HFIN.out _ hb5
        refine ⟨by simp, .inl ⟨_, _, rfl, run_takeDeferred hkE, ?_⟩⟩
        exact ⟨.tuple #[.int .u8 X.1, .int .i64 X.2.1, .int .i64 X.2.2], by rw [HE.out]; simp [results, Tryd.results30, go_sem], rfl, hBE⟩
    have hlt : letR R = false := by rw [hR]; simpa using fun h => hnm (.inl h)
    have d95 : (R == 95) = false := by rw [beq_eq_false_iff_ne, hR]; exact fun h => hnm (.inr h)
    rw [hlt] at HL
    clear hlt
    have HD := hide_ (fun W' => digit_any R W')
    by_cases hdg : 48 ≤ bn s i ∧ bn s i ≤ 57
    · have HE := hide_ (show X = (2, (figE s i : Int), 0) by rw [HX.out]; unfold tokN; rw [if_neg h10, if_neg hnm, if_pos hdg])
      have hdr : digR R = true := by rw [hR, digR_cut, decide_eq_true hdg]
      have HFIG := hide_ (fun W' => figured_any s i W' hz hi (by omega))
      rw [hdr] at HD
      clear hR h10 hnm hdg hdr
      gi_wp2_with fail
      refine ⟨trivial, ?_⟩
      refine (callsIn_wide.2 (HL.out _)).mono ?_
      rintro e w4 ⟨rfl, rfl⟩
      gi_wp2_with fail
      refine ⟨trivial, ?_⟩
      refine (callsIn_wide.2 (HD.out _)).mono ?_
      rintro e w4 ⟨rfl, rfl⟩
      gi_wp2_with fail
      refine ⟨trivial, ?_⟩
      refine (callsIn_wide.2 (HFIG.out _)).mono ?_
      rintro e w5 ⟨rfl, rfl⟩
      gi_wp2
      obtain ⟨hkE, hBE⟩ := HFIN.out _ (Below.refl _ _)
      refine ⟨by simp, .inl ⟨_, _, rfl, run_takeDeferred hkE, ?_⟩⟩
      exact ⟨.tuple #[.int .u8 X.1, .int .i64 X.2.1, .int .i64 X.2.2], by rw [HE.out]; simp [results, Tryd.results30, go_sem], rfl, hBE⟩
    have hdr : digR R = false := by rw [hR, digR_cut, decide_eq_false hdg]
    rw [hdr] at HD
    clear hdr
    by_cases hq : bn s i = 34 ∨ bn s i = 39
    · have HLIT := hide_ (fun W' => literal_any s i W' hz hi)
      have HE0 : X = litN s i := by rw [HX.out]; unfold tokN; rw [if_neg h10, if_neg hnm, if_neg hdg, if_pos hq]
      by_cases h34 : bn s i = 34
      · have HE := hide_ (show X = (3, (litN s i).2) by rw [HE0]; unfold litN; simp only [if_pos h34]; split <;> (try split) <;> rfl)
        have d34 : (R == 34) = true := by have := (cutR_is s i 34 (by omega)).2 h34; rw [hR, this]; rfl
        clear hR h10 hnm hdg hq h34 HE0
        gi_wp2_with fail
        refine ⟨trivial, ?_⟩
        refine (callsIn_wide.2 (HL.out _)).mono ?_
        rintro e w4 ⟨rfl, rfl⟩
        gi_wp2_with fail
        refine ⟨trivial, ?_⟩
        refine (callsIn_wide.2 (HD.out _)).mono ?_
        rintro e w4 ⟨rfl, rfl⟩
        gi_wp2_with fail
        refine ⟨trivial, ?_⟩
        refine (callsIn_wide.2 (HLIT.out _)).mono ?_
        rintro e w5 ⟨rfl, hb5⟩
        gi_wp2
        obtain ⟨hkE, hBE⟩ := HFIN.out _ hb5
        refine ⟨by simp, .inl ⟨_, _, rfl, run_takeDeferred hkE, ?_⟩⟩
        exact ⟨.tuple #[.int .u8 X.1, .int .i64 X.2.1, .int .i64 X.2.2], by rw [HE.out]; simp [results, Tryd.results30, go_sem], rfl, hBE⟩
      · have h39 : bn s i = 39 := hq.resolve_left h34
        have HE := hide_ (show X = (4, (litN s i).2) by rw [HE0]; unfold litN; simp only [if_neg h34]; split <;> (try split) <;> rfl)
        have d34 : (R == 34) = false := by rw [beq_eq_false_iff_ne, hR]; exact fun h => h34 ((cutR_is s i 34 (by omega)).1 h)
        have d39 : (R == 39) = true := by have := (cutR_is s i 39 (by omega)).2 h39; rw [hR, this]; rfl
        clear hR h10 hnm hdg hq h34 h39 HE0
        gi_wp2_with fail
        refine ⟨trivial, ?_⟩
        refine (callsIn_wide.2 (HL.out _)).mono ?_
        rintro e w4 ⟨rfl, rfl⟩
        gi_wp2_with fail
        refine ⟨trivial, ?_⟩
        refine (callsIn_wide.2 (HD.out _)).mono ?_
        rintro e w4 ⟨rfl, rfl⟩
        gi_wp2_with fail
        refine ⟨trivial, ?_⟩
        refine (callsIn_wide.2 (HLIT.out _)).mono ?_
        rintro e w5 ⟨rfl, hb5⟩
        gi_wp2
        obtain ⟨hkE, hBE⟩ := HFIN.out _ hb5
        refine ⟨by simp, .inl ⟨_, _, rfl, run_takeDeferred hkE, ?_⟩⟩
        exact ⟨.tuple #[.int .u8 X.1, .int .i64 X.2.1, .int .i64 X.2.2], by rw [HE.out]; simp [results, Tryd.results30, go_sem], rfl, hBE⟩
    have d34 : (R == 34) = false := by rw [beq_eq_false_iff_ne, hR]; exact fun h => hq (.inl ((cutR_is s i 34 (by omega)).1 h))
    have d39 : (R == 39) = false := by rw [beq_eq_false_iff_ne, hR]; exact fun h => hq (.inr ((cutR_is s i 39 (by omega)).1 h))
    have HE0 : X = if 0 < (signN s i sg).size then (5, (i : Int) + (signN s i sg).size, 0) else if cutR s i < 0 then (0, (i : Int), 13) else (0, (i : Int), 10) := by rw [HX.out]; unfold tokN; rw [if_neg h10, if_neg hnm, if_neg hdg, if_neg hq]
    have hfit := signN_fits s i sg
    obtain ⟨g, hg⟩ : ∃ g, g = signN s i sg := ⟨_, rfl⟩
    rw [← hg] at HE0 hfit HSG
    rw [← hR] at HE0
    clear hR h10 hnm hdg hq hg
    by_cases hgs : 0 < g.size
    · rw [if_pos hgs] at HE0
      have HE := hide_ HE0
      have hgb := (hfit hgs).1
      have dgs := not_empty g hgs
      clear HE0 hfit hgs
      gi_wp2_with fail
      refine ⟨trivial, ?_⟩
      refine (callsIn_wide.2 (HL.out _)).mono ?_
      rintro e w4 ⟨rfl, rfl⟩
      gi_wp2_with fail
      refine ⟨trivial, ?_⟩
      refine (callsIn_wide.2 (HD.out _)).mono ?_
      rintro e w4 ⟨rfl, rfl⟩
      gi_wp2_with fail
      refine ⟨trivial, ?_⟩
      refine (callsIn_wide.2 (HSG.out _ (Below.refl _ _))).mono ?_
      rintro e w5 ⟨rfl, rfl⟩
      gi_wp2
      obtain ⟨hkE, hBE⟩ := HFIN.out _ (Below.refl _ _)
      refine ⟨by simp, .inl ⟨_, _, rfl, run_takeDeferred hkE, ?_⟩⟩
      exact ⟨.tuple #[.int .u8 X.1, .int .i64 X.2.1, .int .i64 X.2.2], by rw [HE.out]; simp [results, Tryd.results30, go_sem], rfl, hBE⟩
    have hg0 : g = ⟨#[]⟩ := is_empty g (by omega)
    rw [if_neg hgs] at HE0
    subst hg0
    clear hfit hgs
    by_cases hneg : R < 0
    · rw [if_pos hneg] at HE0
      have HE := hide_ HE0
      have dn : decide (R < 0) = true := by simpa using hneg
      clear HE0 hneg
      gi_wp2_with fail
      refine ⟨trivial, ?_⟩
      refine (callsIn_wide.2 (HL.out _)).mono ?_
      rintro e w4 ⟨rfl, rfl⟩
      gi_wp2_with fail
      refine ⟨trivial, ?_⟩
      refine (callsIn_wide.2 (HD.out _)).mono ?_
      rintro e w4 ⟨rfl, rfl⟩
      gi_wp2_with fail
      refine ⟨trivial, ?_⟩
      refine (callsIn_wide.2 (HSG.out _ (Below.refl _ _))).mono ?_
      rintro e w5 ⟨rfl, rfl⟩
      gi_wp2
      obtain ⟨hkE, hBE⟩ := HFIN.out _ (Below.refl _ _)
      refine ⟨by simp, .inl ⟨_, _, rfl, run_takeDeferred hkE, ?_⟩⟩
      exact ⟨.tuple #[.int .u8 X.1, .int .i64 X.2.1, .int .i64 X.2.2], by rw [HE.out]; simp [results, Tryd.results30, go_sem], rfl, hBE⟩
    · rw [if_neg hneg] at HE0
      have HE := hide_ HE0
      have dn : decide (R < 0) = false := by simpa using hneg
      clear HE0 hneg
      gi_wp2_with fail
      refine ⟨trivial, ?_⟩
      refine (callsIn_wide.2 (HL.out _)).mono ?_
      rintro e w4 ⟨rfl, rfl⟩
      gi_wp2_with fail
      refine ⟨trivial, ?_⟩
      refine (callsIn_wide.2 (HD.out _)).mono ?_
      rintro e w4 ⟨rfl, rfl⟩
      gi_wp2_with fail
      refine ⟨trivial, ?_⟩
      refine (callsIn_wide.2 (HSG.out _ (Below.refl _ _))).mono ?_
      rintro e w5 ⟨rfl, rfl⟩
      gi_wp2
      obtain ⟨hkE, hBE⟩ := HFIN.out _ (Below.refl _ _)
      refine ⟨by simp, .inl ⟨_, _, rfl, run_takeDeferred hkE, ?_⟩⟩
      exact ⟨.tuple #[.int .u8 X.1, .int .i64 X.2.1, .int .i64 X.2.2], by rw [HE.out]; simp [results, Tryd.results30, go_sem], rfl, hBE⟩
end Go.Proofs.YtmbofpeedjlfhaaDoor
