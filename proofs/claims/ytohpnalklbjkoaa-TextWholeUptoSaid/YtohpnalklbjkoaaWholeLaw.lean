/-
  The walk of the statement TextWhole (under way).
-/
import Derived.Test.YtohpnalklbjkoaaIterB
import Derived.Laws.EntriesVeiled
import Derived.Test.YtohpnalklbjkoaaCoded
import Derived.Test.YtohpnalklbjkoaaRoundQuiet
import Derived.Test.YtohpnalklbjkoaaWhole
import Derived.Test.YtohpnalklbjkoaaKitIn
import Derived.Test.YtohpnalklbjkoaaText
namespace Go.Proofs.Ytohpnalklbjkoaa
open Go.RowKit Go.PlainAid Go.Shelf
attribute [local go_sem] Oper.semAt_some

theorem Try.wh_u8 : (Try.prog.info? 5).map (fun i => (i.zero, i.size, i.bytes)) = some (some (.int .u8 0), 1, 1) := by kernel_rfl
theorem Try.wh_int : (Try.prog.info? 3).map (fun i => (i.zero, i.size, i.bytes)) = some (some (.int .i64 0), 1, 8) := by kernel_rfl
theorem Try.wh_i32 : (Try.prog.info? 21).map (fun i => (i.zero, i.size, i.bytes)) = some (some (.int .i32 0), 1, 4) := by kernel_rfl
abbrev toldP (l : List (Nat × Int)) : List Value := l.map fun x => Value.int .i64 x.1
abbrev toldN (l : List (Nat × Int)) : List Value := l.map fun x => Value.int .i32 x.2
def ws (xs : List Int) (k : Nat) : List Nat := (xs.take k).map fixR

set_option maxRecDepth 100000 in
set_option maxHeartbeats 8000000 in
theorem TextWhole_walk (A : Option Addr) (n c : Nat) (xs : List Int) (w : World) (ha : Reads w w.heap.size 1 A n (xs.map (Value.int .i32))) (hn : n ≤ 1048576) :
    Calls Try.prog 5 #[.slice A n c] w fun e w' => e = .returned (.bool true) ∧ Below w.heap.size w w' := by
  obtain ⟨i0, hi0, hz0, hz1, hz2⟩ := info_parts Try.wh_u8
  obtain ⟨i1, hi1, hy0, hy1, hy2⟩ := info_parts Try.wh_int
  obtain ⟨i2, hi2, hx0, hx1, hx2⟩ := info_parts Try.wh_i32
  have la : xs.length = n := by simpa using ha.1
  refine (callsIn_wide (n := 30)).1 ?_
  refine callsIn_of_wp_marks Try.func5 rfl trivial ?_ rfl
  simp only [Try.ntmps5, List.size_toArray, List.length_cons, List.length_nil, Nat.reduceAdd, Nat.reduceSub, Array.replicate_succ, Array.replicate_zero, List.push_toArray, List.append_toArray, List.nil_append, List.cons_append]
  have hfn := func_not_nil
  have mixed : Try.prog.follows .mixedOrders = true := by kernel_rfl
  gi_wp2_with fail
  have b0 := ((Boxed.new w 4 (.bool false)).alloc (.cells #[.slice none 0 0] 23)).alloc (.cells #[.slice none 0 0] 22)
  have b1 := (Boxed.new (w.alloc (.cells #[.bool false] 4)) 23 (.slice none 0 0)).alloc (.cells #[.slice none 0 0] 22)
  have b2 := Boxed.new ((w.alloc (.cells #[.bool false] 4)).alloc (.cells #[.slice none 0 0] 23)) 22 (.slice none 0 0)
  simp only [World.size_alloc] at b1 b2
  obtain ⟨w0, hw0⟩ : ∃ w0, ((w.alloc (.cells #[.bool false] 4)).alloc (.cells #[.slice none 0 0] 23)).alloc (.cells #[.slice none 0 0] 22) = w0 := ⟨_, rfl⟩
  have hsz : w0.heap.size = w.heap.size + 1 + 1 + 1 := by rw [← hw0]; simp
  have hB0 : Below w.heap.size w w0 := by rw [← hw0]; exact ((((Below.refl _ w).alloc (Nat.le_refl _) _).alloc (by simp) _).alloc (by simp; omega) _)
  rw [hw0] at b0 b1 b2 ⊢
  clear hw0
  have hLA := hide_ la
  clear la
  gi_loopw [3, 6] (fun v i wr => ∃ (k : Nat) (A1 : Option Addr) (c1 : Nat) (A2 : Option Addr) (c2 : Nat), k ≤ n ∧ i = .int .i64 k ∧
      Boxed wr (w.heap.size + 1) 23 (.slice A1 k c1) ∧ Boxed wr (w.heap.size + 1 + 1) 22 (.slice A2 k c2) ∧
      Owns wr (w.heap.size + 1 + 1 + 1) [⟨5, 1, v, (bytesOf (ws xs k)).length, n8s (bytesOf (ws xs k))⟩, ⟨21, 1, .slice A1 k c1, k, toldN (told 0 (ws xs k))⟩, ⟨3, 1, .slice A2 k c2, k, toldP (told 0 (ws xs k))⟩] ∧
      Below (w.heap.size + 1) w0 wr) (fun _ i _ => n - (intOf i).toNat)
  case atStart =>
    refine ⟨0, none, 0, none, 0, Nat.zero_le _, rfl, b1, b2, ⟨fun r hr => ?_, ?_⟩, Below.refl _ _⟩
    · simp only [List.mem_cons, List.not_mem_nil, or_false] at hr
      rcases hr with rfl | rfl | rfl <;> exact World.ownsRow_nil _ _ _ _
    · simp [Value.ownBlock]
  case round =>
    obtain ⟨k, A1, c1, A2, c2, hk, rfl, bW, bP, hO, hb⟩ := hrel
    by_cases hlt : k < n
    · obtain ⟨ad, u, rfl, hadb, hx, hc⟩ := ((ha.below hB0).below (hb.mono (by omega))).at_ hlt
      have hu := get_map (Value.int .i32) xs 0 k (by rw [hLA.out]; exact hlt) hx
      subst hu
      obtain ⟨x, hxx⟩ : ∃ x, x = xs[k]?.getD 0 := ⟨_, rfl⟩
      rw [← hxx] at hc
      have HWS := hide_ (show ws xs (k + 1) = ws xs k ++ [fixR x] by rw [ws, take_snoc xs 0 k (by rw [hLA.out]; exact hlt), List.map_append, ← hxx]; rfl)
      clear hx hxx
      obtain ⟨A0, c0, hv0, _, _⟩ := ownsRow_slice (hO.at_ (i := 0) rfl)
      simp only at hv0
      subst hv0
      have hlen : (bytesOf (ws xs k)).length ≤ 4 * k := by
        have h1 := bytesOf_len4 (ws xs k)
        have h2 : (ws xs k).length ≤ k := by simp [ws]; omega
        omega
      have hL := codeL_len (fixR x)
      have hs0 : w.heap.size + 1 + 1 + 1 ≤ wr.heap.size := by have := hb.size; omega
      obtain ⟨v, hv⟩ : ∃ v, v = fixR x := ⟨_, rfl⟩
      obtain ⟨R, hR⟩ : ∃ R : Int, R = (v : Int) := ⟨_, rfl⟩
      have hcall := fun W => coded_any v W (by rw [hv]; exact (fixR_rune x).1)
      simp only [← hR] at hcall
      have hcase : (x < 0 ∧ R = 65533) ∨ (0 ≤ x ∧ 1114111 < x ∧ R = 65533) ∨ ((0 ≤ x ∧ x ≤ 1114111 ∧ 55296 ≤ x ∧ x ≤ 57343) ∧ R = 65533) ∨ (0 ≤ x ∧ x < 55296 ∧ R = x) ∨ (57343 < x ∧ x ≤ 1114111 ∧ R = x) := by
        rw [hR, hv]
        unfold fixR
        split <;> omega
      rw [← hv] at hL HWS
      obtain ⟨N, hN⟩ : ∃ N, N = (bytesOf (ws xs k)).length := ⟨_, rfl⟩
      obtain ⟨L, hLL⟩ : ∃ L, L = (codeL v).length := ⟨_, rfl⟩
      simp only [← hLL] at hcall hL
      rw [← hN] at hlen hO ⊢
      have HCALL := hide_ hcall
      have HRR := hide_ hR
      have HNN := hide_ hN
      have HLL := hide_ hLL
      have cP := bP.cell
      have fP := bP.frozen
      clear hcall hR hv hN hLL
      rcases hcase with ⟨h1, rfl⟩ | ⟨h1, h2, rfl⟩ | ⟨⟨h1, h2, h3, h4⟩, rfl⟩ | ⟨h1, h2, rfl⟩ | ⟨h1, h2, rfl⟩
      all_goals
        gi_wp2_with (first
          | (gi_at_builtin; refine wpListIn_append_owns _ rfl (.tmp 36) (.tmp 39) 22 rfl (w.heap.size + 1 + 1 + 1) _ 2 3 1 _ k _ rfl (hO.alloc _) (by simp; omega) i1 _ 8 Try.underlying22 hi1 hy0 hy1 hy2 rfl (by omega) rfl _ _ 1 1 _ rfl (reads_new wr 3 1 1 [.int .i64 N] rfl) (by simp [Value.oneCell']) (by simp only [maxLen]; omega) (by omega) ?_; intro v1 w1 hO1 hb1 hsz1
             obtain ⟨A3, c3, hv1, _, _⟩ := ownsRow_slice (hO1.at_ (i := 2) rfl)
             simp only at hv1
             subst hv1
             have bW1 : Boxed w1 (w.heap.size + 1) 23 (.slice A1 k c1) := (hb1.block _ (by omega)).trans (bW.alloc _)
             have bP1 : Boxed w1 (w.heap.size + 1 + 1) 22 (.slice A2 k c2) := (hb1.block _ (by omega)).trans (bP.alloc _)
             have cP1 := bP1.cell
             have fP1 := bP1.frozen
             have bW1' := bW1.other (B' := w.heap.size + 1 + 1) (by omega) (.slice A3 (k + 1) c3)
             have cW1 := bW1'.cell
             have fW1 := bW1'.frozen
             have hs1 : w.heap.size + 1 + 1 + 1 ≤ w1.heap.size := by simp at hsz1; omega
             have hbA : Below (w.heap.size + 1) w0 w1 := (hb.alloc (by omega) _).trans (hb1.mono (by omega)))
          | (gi_at_builtin; refine wpListIn_append_owns _ rfl (.tmp 41) (.tmp 43) 23 rfl (w.heap.size + 1 + 1 + 1) _ 1 21 1 _ k _ rfl ((hO1.under (a := ⟨w.heap.size + 1 + 1, 0, none⟩) (by dsimp only; omega) _).alloc _) (by simp; omega) i2 _ 4 Try.underlying23 hi2 hx0 hx1 hx2 rfl (by omega) rfl _ _ 1 1 _ rfl (reads_at (w1.setCell ⟨w.heap.size + 1 + 1, 0, none⟩ (.slice A3 (k + 1) c3)) 21 1 1 [.int .i32 _] rfl w1.heap.size (by simp)) (by simp [Value.oneCell']) (by simp only [maxLen]; omega) (by omega) ?_; intro v2 w2 hO2 hb2 hsz2
             obtain ⟨A4, c4, hv2, _, _⟩ := ownsRow_slice (hO2.at_ (i := 1) rfl)
             simp only at hv2
             subst hv2
             have bW2 : Boxed w2 (w.heap.size + 1) 23 (.slice A1 k c1) := (hb2.block _ (by omega)).trans (bW1'.alloc _)
             have bP2 : Boxed w2 (w.heap.size + 1 + 1) 22 (.slice A3 (k + 1) c3) := (hb2.block _ (by omega)).trans ((bP1.set _).alloc _)
             have cW2 := bW2.cell
             have fW2 := bW2.frozen
             have hs2 : w.heap.size + 1 + 1 + 1 ≤ w2.heap.size := by simp at hsz2; omega
             have hbB : Below (w.heap.size + 1) w0 w2 := ((hbA.setCell (p := ⟨w.heap.size + 1 + 1, 0, none⟩) (by dsimp only; omega) _).alloc (by simp; omega) _).trans (hb2.mono (by omega)))
          | (gi_at_builtin; refine wpListIn_append_owns _ rfl (.tmp 45) (.tmp 47) 31 rfl (w.heap.size + 1 + 1 + 1) _ 0 5 1 _ N _ rfl ((hO2.under (a := ⟨w.heap.size + 1, 0, none⟩) (by dsimp only; omega) _).alloc _) (by simp; omega) i0 _ 1 Try.underlying31 hi0 hz0 hz1 hz2 rfl (by omega) rfl _ _ L L _ rfl (reads_at (w2.setCell ⟨w.heap.size + 1, 0, none⟩ (.slice A4 (k + 1) c4)) 5 1 L (n8s (codeL v)) (by simp [HLL.out]) w2.heap.size (by simp)) (by intro u hu; obtain ⟨y, _, rfl⟩ := List.mem_map.1 hu; rfl) (by simp only [maxLen]; omega) (by omega) ?_; intro v3 w3 hO3 hb3 hsz3)
          | (refine ⟨trivial, ?_⟩; gi_at_call 17; refine (callsIn_wide.2 (HCALL.out _)).mono ?_; rintro e w' ⟨rfl, rfl⟩))
        have bW3 : Boxed w3 (w.heap.size + 1) 23 (.slice A4 (k + 1) c4) := (hb3.block _ (by omega)).trans ((bW2.set _).alloc _)
        have bP3 : Boxed w3 (w.heap.size + 1 + 1) 22 (.slice A3 (k + 1) c3) := (hb3.block _ (by omega)).trans ((bP2.other (by omega) _).alloc _)
        have hbC : Below (w.heap.size + 1) w0 w3 := ((hbB.setCell (p := ⟨w.heap.size + 1, 0, none⟩) (by dsimp only; omega) _).alloc (by simp; omega) _).trans (hb3.mono (by omega))
        go_roundw
        case rel =>
          refine ⟨k + 1, A4, c4, A3, c3, by omega, by go_num, bW3, bP3, ?_, hbC⟩
          rw [HWS.out, bytesOf_snoc, told_snoc]
          simpa [HNN.out, HLL.out, HRR.out] using hO3
        case measure => simp [intOf]; omega
    · obtain rfl : k = n := by omega
      obtain ⟨A0, c0, hv0, _, _⟩ := ownsRow_slice (hO.at_ (i := 0) rfl)
      simp only at hv0
      subst hv0
      have hrS := Reads.of_own (hO.at_ (i := 0) rfl)
      have hrW := Reads.of_own (hO.at_ (i := 1) rfl)
      have hrP := Reads.of_own (hO.at_ (i := 2) rfl)
      have hs0 : w.heap.size + 1 + 1 + 1 ≤ wr.heap.size := by have := hb.size; omega
      have hrs : ∀ r ∈ ws xs k, isRune r := by
        intro r hr
        obtain ⟨y, _, rfl⟩ := List.mem_map.1 hr
        exact fixR_rune y
      have hwl : (ws xs k).length = k := by simp [ws, hLA.out]
      have hct := cuts_told (textOf (bytesOf (ws xs k))) _ (textOf_isText _ (bytesOf_lt _ hrs)) hrs
      have hcv := run_text_of_reads (P := Try.prog) (wr.alloc (.cells #[.int .i64 0] 3)) _ 31 5 Try.underlying31 Try.underlying5 A0 _ c0 _ (hrS.alloc (Nat.le_refl _) _) 9 Try.underlying9
      obtain ⟨t, ht⟩ : ∃ t, t = textOf (bytesOf (ws xs k)) := ⟨_, rfl⟩
      rw [← ht] at hct hcv
      rw [← hct] at hrW hrP
      have hkc : (cuts t).length = k := by rw [hct, told_len, hwl]
      obtain ⟨N, hN⟩ : ∃ N, N = (bytesOf (ws xs k)).length := ⟨_, rfl⟩
      rw [← hN] at hcv ⊢
      have HKC := hide_ hkc
      have hn0 := hide_ (Boxed.new wr 3 (.int .i64 0))
      have hW := hide_ bW
      have hP := hide_ bP
      have hB0' := hide_ (hb.trans (Below.refl _ _))
      have b0' := hide_ (b0)
      clear hkc hct ht hN hrs hwl hrS hO
      gi_wp2_with fail
      refine ⟨trivial, ?_⟩
      refine (callsIn_wide.2 (Runes_any t _)).mono ?_
      rintro e w2 ⟨rfl, rfl⟩
      gi_wp2_with fail
      have b1' := (hn0.out).alloc (.cells #[.string t] 9)
      have b2' := Boxed.new (wr.alloc (.cells #[.int .i64 0] 3)) 9 (.string t)
      simp only [World.size_alloc] at b2'
      have hB3 : Below wr.heap.size wr ((wr.alloc (.cells #[.int .i64 0] 3)).alloc (.cells #[.string t] 9)) := ((Below.refl _ wr).alloc (Nat.le_refl _) _).alloc (by simp) _
      have hsz3 : ((wr.alloc (.cells #[.int .i64 0] 3)).alloc (.cells #[.string t] 9)).heap.size = wr.heap.size + 1 + 1 := by simp
      have bW3 := (bW.alloc (.cells #[.int .i64 0] 3)).alloc (.cells #[.string t] 9)
      have bP3 := (bP.alloc (.cells #[.int .i64 0] 3)).alloc (.cells #[.string t] 9)
      have hrW3 := hrW.below hB3
      have hrP3 := hrP.below hB3
      have hBz : Below (w.heap.size + 1) w0 ((wr.alloc (.cells #[.int .i64 0] 3)).alloc (.cells #[.string t] 9)) := hb.trans (hB3.mono (by omega))
      obtain ⟨w3, hw3⟩ : ∃ w3, (wr.alloc (.cells #[.int .i64 0] 3)).alloc (.cells #[.string t] 9) = w3 := ⟨_, rfl⟩
      rw [hw3] at b1' b2' hsz3 bW3 bP3 hrW3 hrP3 hBz ⊢
      have hcR3 : w3.cell? ⟨w.heap.size, 0, none⟩ = some (.bool false) := (hBz.cell (p := ⟨w.heap.size, 0, none⟩) (by dsimp only; omega)).trans b0.cell
      have hfR3 : w3.frozen? ⟨w.heap.size, 0, none⟩ = false := (hBz.frozen (p := ⟨w.heap.size, 0, none⟩) (by dsimp only; omega)).trans b0.frozen
      clear hw3 hrW hrP hcv
      obtain ⟨nb, hnb⟩ : ∃ nb, nb = wr.heap.size := ⟨_, rfl⟩
      rw [← hnb] at b1' b2' hsz3 hrW3 hrP3 hs0 ⊢
      have HNB := hide_ hnb
      have HSZ := hide_ hsz3
      have hnb3 : nb + 1 < w3.heap.size := by omega
      clear hnb hsz3
      have hk0 : ((k : Nat) : Int) ≤ 1048576 := by omega
      refine rangeB (Bn := nb + 1) (s := t) (P' := 10) (Q' := 11) (by omega) rfl (by omega) b2'.cell
        (fun pre W => pre <+: cuts t ∧ (Boxed W nb 3 (.int .i64 pre.length) ∧ Below nb w3 W))
        (fun c pre _ => c = .ret ∧ ¬ pre <+: cuts t)
        (OwnFrom.and (ownFrom_pure _ _) (OwnFrom.and (Own.from (boxed_own _ _ _) _) (ownFrom_below (by omega) (by omega))))
        (fun c => ownFrom_pure _ _)
        ⟨List.nil_prefix, b1', Below.refl _ _⟩ ?assign1 ?body1 ?done1 ?stop1
      case assign1 =>
        intro l x W K hK
        simp only [updA, List.setIfInBounds_toArray, List.set_cons_succ, List.set_cons_zero] at hK ⊢
        gi_wp2
        exact hK
      case stop1 =>
        rintro D c pre W hD hS ⟨rfl, hx⟩ hk
        exact (hx hS).elim
      case done1 =>
        rintro D W hD ⟨_, bN, hBW⟩ hkD
        rw [HKC.out] at bN
        have cN := bN.cell
        have cW := (hBW.cell (p := ⟨w.heap.size + 1, 0, none⟩) (by dsimp only; omega)).trans bW3.cell
        have cR := (hBW.cell (p := ⟨w.heap.size, 0, none⟩) (by dsimp only; omega)).trans hcR3
        have fR := (hBW.frozen (p := ⟨w.heap.size, 0, none⟩) (by dsimp only; omega)).trans hfR3
        gi_wp2
        have hkA : (W.setCell ⟨w.heap.size, 0, none⟩ (.bool true)).heap[D]? = some (.deferred (some [])) := (Below.heap_setCell W ⟨w.heap.size, 0, none⟩ _ D (by dsimp only; omega)).trans hkD
        refine ⟨by simp, .inl ⟨_, _, rfl, run_takeDeferred hkA, ?_⟩⟩
        have c1' := World.cell?_setCell_same' W ⟨w.heap.size, 0, none⟩ (.bool true) (by rw [cR]; rfl)
        have c2' := cell_kept c1' (grownBy_putObj' _ D (.deferred none)) (fun r e => by cases e; exact ⟨_, hkA, rfl⟩)
        exact ⟨.bool true, by simp [results, Try.results5, go_sem, c2'], rfl, ((hB0.trans ((hBz.mono (by omega)).trans (hBW.mono (by omega)))).setCell (p := ⟨w.heap.size, 0, none⟩) (by dsimp only; omega) _).trans (belowK_b (n₀ := w.heap.size) (w := w) (Nat.le_refl _) _ D _ _ (by omega) hkA rfl rfl)⟩
      case body1 =>
        rintro l pre ⟨p, r⟩ W _ hl hr ⟨hpre, bN, hBW⟩ hlen
        simp only [updA, List.setIfInBounds_toArray, List.set_cons_succ, List.set_cons_zero]
        have cN := bN.cell
        have fN := bN.frozen
        have cW := (hBW.cell (p := ⟨w.heap.size + 1, 0, none⟩) (by dsimp only; omega)).trans bW3.cell
        have cP := (hBW.cell (p := ⟨w.heap.size + 1 + 1, 0, none⟩) (by dsimp only; omega)).trans bP3.cell
        have cR := (hBW.cell (p := ⟨w.heap.size, 0, none⟩) (by dsimp only; omega)).trans hcR3
        have fR := (hBW.frozen (p := ⟨w.heap.size, 0, none⟩) (by dsimp only; omega)).trans hfR3
        have hlk : pre.length < k := by rw [← HKC.out]; exact hlen
        obtain ⟨ad1, u1, rfl, _, hu1, hc1⟩ := (hrP3.below hBW).at_ hlk
        obtain ⟨ad2, u2, rfl, _, hu2, hc2⟩ := (hrW3.below hBW).at_ hlk
        obtain ⟨c, hcc⟩ : ∃ c, (cuts t)[pre.length]? = some c := ⟨_, List.getElem?_eq_getElem hlen⟩
        have e1 : u1 = .int .i64 (c.1 : Nat) := by rw [List.getElem?_map, hcc] at hu1; simpa using hu1.symm
        have e2 : u2 = .int .i32 c.2 := by rw [List.getElem?_map, hcc] at hu2; simpa using hu2.symm
        subst e1 e2
        have HX := hide_ (pre_next (x := (p, r)) hpre hcc)
        clear hu1 hu2 hcc hpre hlen
        by_cases hx : p = c.1
        · subst hx
          by_cases hx2 : r = c.2
          · subst hx2
            gi_wp2
            exact ⟨(KeepsOthers.setCell _ _ _).from _, KpB_set _ _ _ (by omega), HX.out.2 (by trivial), by simpa using bN.set (.int .i64 ((pre.length : Int) + 1)), hBW.setCell (p := ⟨nb, 0, none⟩) (Nat.le_refl _) _⟩
          · have hd : (r != c.2) = true := bne_iff_ne.2 hx2
            have HX2 := hide_ hx2
            clear hx2
            gi_wp2
            exact ⟨(KeepsOthers.setCell _ _ _).from _, rfl, fun hp => HX2.out (congrArg Prod.snd (HX.out.1 hp))⟩
        · have hd : ((p : Int) != (c.1 : Nat)) = true := bne_iff_ne.2 (by omega)
          have HX2 := hide_ hx
          clear hx
          gi_wp2
          exact ⟨(KeepsOthers.setCell _ _ _).from _, rfl, fun hp => HX2.out (congrArg Prod.fst (HX.out.1 hp))⟩
end Go.Proofs.Ytohpnalklbjkoaa
