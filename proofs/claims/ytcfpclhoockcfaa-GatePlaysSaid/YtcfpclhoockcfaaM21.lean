/-
  The document's data segment: Apply.
-/
import Derived.Test.YtcfpclhoockcfaaM20
namespace Go.Proofs.Ytcfpclhoockcfaa
open Go.RowKit Go.PlainAid Go.BigFrame
set_option linter.unusedVariables false
set_option linter.unusedSimpArgs false
set_option maxRecDepth 100000
theorem own_lo {w : World} {B B' n size : Nat} {e : TypeId} {v : Value} {xs : List Value} (h : w.ownsRow B e size v n xs) (hB : B' ≤ B) : w.ownsRow B' e size v n xs := by
  refine ⟨h.1, ?_⟩
  rcases h.2 with h2 | ⟨g, cap, cur, hv, hg0, rest⟩
  · exact .inl h2
  · exact .inr ⟨g, cap, cur, hv, Nat.le_trans hB hg0, rest⟩
theorem u8s_set (xs : List Int) (j : Nat) (y : Int) : (u8s xs).set j (.int .u8 y) = u8s (xs.set j y) := by simp [u8s]
set_option maxHeartbeats 4000000 in
theorem rApply_any (A : Option Addr) (c B : Nat) (xs : List Int) (v : Int) (A2 : Option Addr) (n2 c2 : Nat) (ws : Nat → Wr) (zs : Nat → List Int) (w : World) (hr : Reads w B 1 A 256 (u8s xs)) (hB : B ≤ w.heap.size) (hw : WReads w B A2 n2 ws) (hn2 : n2 ≤ 16)
    (hz : ∀ j, j < n2 → (0 ≤ (ws j).at_ ∧ (ws j).at_ < 4294967296) ∧ (ws j).n ≤ 256 ∧ Reads w B 1 (ws j).A (ws j).n (u8s (zs j))) :
    Calls Try.prog 45 #[.slice A 256 c, .agg #[.int .u32 v, .slice A2 n2 c2]] w fun e w' => ∃ v, e = .returned v ∧ w'.ownsRow w.heap.size 5 1 v 256 (u8s (applyW 256 ws zs xs n2)) ∧ Below w.heap.size w w' := by
  obtain ⟨i0, hi0, hz0, hz1, hz2⟩ := info_parts Try.info_u8
  have HXL := hide_ (show xs.length = 256 by have := hr.1; simpa using this)
  have HONE := hide_ (show ∀ u ∈ u8s xs, u.oneCell' = true from one_u8s xs)
  obtain ⟨W1, hW1⟩ : ∃ W, W = w.alloc (.cells #[.int .u32 v, .slice A2 n2 c2] 43) := ⟨_, rfl⟩
  have HS1 := hide_ (show W1.heap.size = w.heap.size + 1 by rw [hW1]; simp)
  have HB1 := hide_ (show Below w.heap.size w W1 by rw [hW1]; exact (Below.refl _ _).alloc (Nat.le_refl _) _)
  have HK0 := hide_ (show Blk W1 w.heap.size 43 #[.int .u32 v, .slice A2 n2 c2] by rw [hW1]; exact Blk.new w _ _)
  have HAT := hide_ (fun W (hb : Below W1.heap.size W1 W) => show W.cell? ⟨w.heap.size, 1, none⟩ = some (.slice A2 n2 c2) ∧ w.heap.size < W.heap.size from ⟨(HK0.out.below hb (by have := HS1.out; omega)).cell 1, by have := hb.size; have := HS1.out; omega⟩)
  have FIN := hide_ (fun W (hb : Below W1.heap.size W1 W) => show Below w.heap.size w W from HB1.out.trans (hb.mono (by have := HS1.out; omega)))
  have HR := hide_ (fun W (hb : Below W1.heap.size W1 W) => show Reads W B 1 A 256 (u8s xs) from hr.below ((FIN.out W hb).mono hB))
  have HWR := hide_ (fun W (hb : Below W1.heap.size W1 W) => show WReads W B A2 n2 ws from hw.below ((FIN.out W hb).mono hB))
  have HZ := hide_ (fun W (hb : Below W1.heap.size W1 W) j (hj : j < n2) => show (0 ≤ (ws j).at_ ∧ (ws j).at_ < 4294967296) ∧ (ws j).n ≤ 256 ∧ Reads W B 1 (ws j).A (ws j).n (u8s (zs j)) from ⟨(hz j hj).1, (hz j hj).2.1, (hz j hj).2.2.below ((FIN.out W hb).mono hB)⟩)
  have HBB := hide_ (show B ≤ w.heap.size from hB)
  have HO0 := hide_ (Owns.nilrow (Owns.nil_ (w := W1) (B := W1.heap.size)) 5 1)
  clear hr hB hw hz HK0 HB1
  go_enter Try.func45, Try.ntmps45
  go_upto_region 1 with (fail)
  rw [← hW1]
  clear hW1
  go_wp2_with (at_builtin; refine wpList_append_owns _ rfl (.tmp 10) (.tmp 11) 23 rfl W1.heap.size _ 0 5 1 (.slice none 0 0) 0 [] rfl HO0.out (Nat.le_refl _) i0 _ 1 Try.underlying23 hi0 hz0 hz1 hz2 rfl (by omega) rfl B A 256 c (u8s xs) rfl (HR.out _ (Below.refl _ _)) HONE.out (by simp only [maxLen]; omega) (by omega) ?_)
  intro v1 w1 hO1 hb1 hsz1
  obtain ⟨g, cg, hv1⟩ := ownsRow_some (hO1.at_ (i := 0) rfl) (show 0 < 0 + 256 by omega)
  have hv : v1 = .slice (some ⟨g, 0, none⟩) 256 cg := hv1
  subst hv
  have HO1 := hide_ (show Owns w1 W1.heap.size [⟨5, 1, .slice (some ⟨g, 0, none⟩) 256 cg, 256, u8s (applyW 256 ws zs xs 0)⟩] from hO1)
  have HB1 := hide_ hb1
  have w256 : IntKind.u32.wrap (256 : Int) = 256 := by rw [IntKind.wrap_u32]; rfl
  clear hO1 hb1 hsz1 hv1 HO0
  go_wp2
  go_loopw [7] (fun i wr => ∃ k : Nat, k ≤ n2 ∧ i = .int .i64 k ∧ Hid (Owns wr W1.heap.size [⟨5, 1, .slice (some ⟨g, 0, none⟩) 256 cg, 256, u8s (applyW 256 ws zs xs k)⟩]) ∧ Hid (Below W1.heap.size W1 wr)) (fun i _ => n2 - (intOf i).toNat)
  case atStart => exact ⟨0, Nat.zero_le _, rfl, HO1, HB1⟩
  case round =>
    clear HO1 HB1
    obtain ⟨k, hk, rfl, HO, HW⟩ := hrel
    obtain ⟨f1, hbz⟩ := HAT.out wr HW.out
    by_cases hlt : k < n2
    · obtain ⟨ad, rfl, hbk, hcl⟩ := HWR.out wr HW.out (by omega)
      obtain ⟨c0, c1⟩ := hcl k hlt
      obtain ⟨hat, hwn, hzr⟩ := HZ.out wr HW.out k hlt
      obtain ⟨⟨at_, Ab, nb, cb⟩, hwk⟩ : ∃ t, t = ws k := ⟨_, rfl⟩
      rw [← hwk] at c0 c1 hat hwn hzr
      dsimp only at c0 c1 hat hwn hzr
      have HWK := hide_ hwk
      have hbs : (ad.add (k * 2)).block < wr.heap.size := by rw [block_of_add]; have := HBB.out; omega
      have HX0 := hide_ (show (applyW 256 ws zs xs k).length = 256 by rw [applyW_len]; exact HXL.out)
      have NEXT := hide_ (show applyW 256 ws zs xs (k + 1) = puts 256 at_ (zs k) (applyW 256 ws zs xs k) nb by rw [applyW, ← hwk])
      obtain ⟨X, hX⟩ : ∃ X, X = applyW 256 ws zs xs k := ⟨_, rfl⟩
      rw [← hX] at HO NEXT HX0
      have HCC := hide_ (And.intro f1 (And.intro hbz (And.intro c0 (And.intro c1 hbs))))
      have HZR := hide_ hzr
      clear hcl hX hwk hzr f1 hbz c0 c1 hbs hbk
      obtain ⟨wv, rfl⟩ : ∃ wo : World, wo = wr := ⟨_, rfl⟩
      obtain ⟨f1, hbz, c0, c1, hbs⟩ := HCC.out
      go_wp2
      clear f1 hbz c0 c1 hbs
      go_loopw [9] (fun i wr => ∃ j : Nat, j ≤ nb ∧ i = .int .i64 j ∧ Hid (Owns wr W1.heap.size [⟨5, 1, .slice (some ⟨g, 0, none⟩) 256 cg, 256, u8s (puts 256 at_ (zs k) X j)⟩]) ∧ Hid (Below W1.heap.size W1 wr)) (fun i _ => nb - (intOf i).toNat)
      case atStart => exact ⟨0, Nat.zero_le _, rfl, HO, HW⟩
      case round =>
        clear HO HW HCC HZR
        obtain ⟨j, hj, rfl, HO, HW⟩ := hrel
        obtain ⟨f1, hbz⟩ := HAT.out wr HW.out
        obtain ⟨ad', e', hbk, hcl⟩ := HWR.out wr HW.out (by omega)
        injection e' with e'
        subst e'
        by_cases hlt2 : j < nb
        · have h9 := hcl k hlt
          have h8 := (HZ.out wr HW.out k hlt).2.2
          rw [← HWK.out] at h9 h8
          dsimp only at h9 h8
          obtain ⟨c0, c1⟩ := h9
          obtain ⟨ad2, u, rfl, hb2, hx2, c2'⟩ := h8.at_ hlt2
          have hu := get_map (Value.int .u8) (zs k) 0 j (by have := h8.1; rw [List.length_map] at this; omega) hx2
          subst hu
          obtain ⟨yb, hyb⟩ : ∃ y, y = (zs k)[j]?.getD 0 := ⟨_, rfl⟩
          rw [← hyb] at c2'
          have hbs : (ad.add (k * 2)).block < wr.heap.size := by rw [block_of_add]; have := HBB.out; omega
          have hbs2 : (ad2.add j).block < wr.heap.size := by rw [block_of_add]; have := HBB.out; omega
          have hpe : plc 256 at_ j = (at_ + (j : Int)) % 256 := plc_mod pow256 at_ j
          have hpl : ((at_ + (j : Int)) % 256).toNat < 256 := by omega
          obtain ⟨Y, hY⟩ : ∃ Y, Y = puts 256 at_ (zs k) X j := ⟨_, rfl⟩
          have hYl : Y.length = 256 := by rw [hY, puts_len]; exact HX0.out
          have HN := hide_ (show puts 256 at_ (zs k) X (j + 1) = Y.set ((at_ + (j : Int)) % 256).toNat yb by rw [puts, hpe, ← hY, ← hyb])
          rw [← hY] at HO
          have x0 := HO.out.cell (i := 0) (j := ((at_ + (j : Int)) % 256).toNat) (u := .int .u8 (Y[((at_ + (j : Int)) % 256).toNat]'(by omega))) rfl (by unfold u8s; rw [List.getElem?_map, List.getElem?_eq_getElem (by omega)]; rfl)
          obtain ⟨yo, hyo⟩ : ∃ y, y = Y[((at_ + (j : Int)) % 256).toNat]'(by omega) := ⟨_, rfl⟩
          rw [← hyo] at x0
          have f0 := HO.out.frozen (i := 0) rfl ((at_ + (j : Int)) % 256).toNat
          have hgb := HO.out.base (i := 0) rfl
          have hg2 := hgb.2
          have HG1 := hide_ hgb.1
          have wr1 : IntKind.u32.wrap (j : Int) = (j : Int) := IntWalk.u32_in _ (by omega)
          have HST := hide_ (fun W (h : Owns W W1.heap.size [⟨5, 1, .slice (some ⟨g, 0, none⟩) 256 cg, 256, u8s Y⟩]) => show Owns (W.setCell ⟨g, ((at_ + (j : Int)) % 256).toNat, none⟩ (.int .u8 yb)) W1.heap.size [⟨5, 1, .slice (some ⟨g, 0, none⟩) 256 cg, 256, u8s (puts 256 at_ (zs k) X (j + 1))⟩] from by
            rw [HN.out, ← u8s_set]
            exact h.store (i := 0) rfl (by unfold u8s; rw [List.length_map]; omega) _)
          clear hyb hY hyo hx2 hpe hcl hgb hbk hb2 h8
          go_upto_region 11 with (fail)
          go_region
          all_goals
            go_wp2
            go_roundw
            case rel => exact ⟨j + 1, by omega, by go_num, hide_ (HST.out _ HO.out.drew), hide_ (HW.out.drew.setCell (p := ⟨g, ((at_ + (j : Int)) % 256).toNat, none⟩) HG1.out _)⟩
            case measure => simp [intOf]; omega
        · have hjn : j = nb := by omega
          subst hjn
          have h9 := hcl k hlt
          rw [← HWK.out] at h9
          dsimp only at h9
          obtain ⟨c0, c1⟩ := h9
          have hbs : (ad.add (k * 2)).block < wr.heap.size := by rw [block_of_add]; have := HBB.out; omega
          clear hcl hbk
          go_wp2
          go_roundw
          case rel => exact ⟨k + 1, by omega, by go_num, hide_ (by rw [NEXT.out]; exact HO.out), HW⟩
          case measure => simp [intOf]; omega
    · have hkn : k = n2 := by omega
      subst hkn
      go_wp2
      go_ret
      exact ⟨_, rfl, own_lo (HO.out.at_ (i := 0) rfl) (by have := HS1.out; omega), FIN.out _ HW.out⟩
end Go.Proofs.Ytcfpclhoockcfaa
/-
  The kit's lists of words: LentWords, KeptWords.
-/
namespace Go.Proofs.Ytcfpclhoockcfaa
open Go.RowKit Go.PlainAid Go.BigFrame
set_option linter.unusedSimpArgs false
set_option linter.unusedVariables false
theorem u32s_appW (xs ys : List Int) : u32s (xs ++ ys) = u32s xs ++ u32s ys := List.map_append
/-- the marks behind a list of words -/
def marksW (n : Nat) : List Int := (List.range n).map fun i => 1000003 + ((i : Nat) : Int)
theorem marksW_succ (n : Nat) : marksW (n + 1) = marksW n ++ [1000003 + (n : Int)] := by simp [marksW, List.range_succ]
theorem marksW_len (n : Nat) : (marksW n).length = n := by simp [marksW]
set_option maxHeartbeats 1000000 in
theorem markW_any (i : Nat) (hi : i < 64) (w : World) : Calls Try.prog 28 #[.int .i64 0, .int .i64 i] w fun e w' => e = .returned (.int .u32 (1000003 + (i : Int))) ∧ w' = w := by
  go_enter Try.func28, Try.ntmps28
  go_wp2
  go_ret
  exact ⟨rfl, rfl⟩
set_option maxHeartbeats 1000000 in
set_option maxRecDepth 100000 in
theorem LentWords_any (A : Option Addr) (n c : Nat) (xs : List Int) (B : Nat) (w : World) (ha : Reads w B 1 A n (u32s xs)) (hB : B ≤ w.heap.size) (hn : n * 4 ≤ 140737488351232) :
    Calls Try.prog 33 #[.slice A n c] w fun e w' => ∃ v, e = .returned v ∧ w'.ownsRow w.heap.size 39 1 v (n + 64) (u32s (xs ++ marksW 64)) ∧ Below w.heap.size w w' := by
  obtain ⟨i0, hi0, hz0, hz1, hz2⟩ := info_parts info_u32w
  have la : xs.length = n := by simpa [u32s] using ha.1
  go_enter Try.func33, Try.ntmps33
  go_wp2
  go_loopw [3, 4] (fun v i wr => ∃ k : Nat, k ≤ n ∧ i = .int .i64 k ∧ Owns wr w.heap.size [⟨39, 1, v, k, u32s (xs.take k)⟩] ∧ Below w.heap.size w wr) (fun _ i _ => n - (intOf i).toNat)
  case atStart => exact ⟨0, Nat.zero_le _, rfl, ⟨fun r hr => by rw [List.mem_singleton.1 hr]; exact World.ownsRow_nil _ _ _ _, List.pairwise_singleton _ _⟩, Below.refl _ _⟩
  case round =>
    obtain ⟨k, hk, rfl, hO, hb⟩ := hrel
    by_cases hlt : k < n
    · obtain ⟨ad, u, rfl, _, hx, hc⟩ := (ha.below (hb.mono hB)).at_ hlt
      have hu := get_map (Value.int .u32) xs 0 k (by omega) hx
      subst hu
      have HL := hide_ la
      clear hx la
      go_wp2_with (at_builtin; go_must (refine wpList_append_owns _ rfl (.tmp 12) (.tmp 17) 40 rfl w.heap.size _ 0 39 1 _ k _ rfl (hO.alloc _) (by have := hb.size; simp; omega) i0 _ 4 Try.underlying40 hi0 hz0 hz1 hz2 rfl (by omega) rfl _ _ 1 1 _ rfl (reads_new wr 39 1 1 [.int .u32 (xs[k]?.getD 0)] rfl) (by simp [Value.oneCell']) (by simp only [maxLen]; omega) (by omega) ?_); intro v' w1 hO1 hb1 hsz1)
      go_roundw
      case rel => exact ⟨k + 1, by omega, by go_num, by rw [take_snoc xs 0 k (by rw [HL.out]; exact hlt), u32s_appW]; exact hO1, hb.trans ((Below.alloc (Below.refl _ _) hb.size _).trans hb1)⟩
      case measure => simp [intOf]; omega
    · obtain rfl : k = n := by omega
      have hO0 : Owns wr w.heap.size [⟨39, 1, u3, k + 0, u32s (xs ++ marksW 0)⟩] := by simpa [marksW, List.take_of_length_le (Nat.le_of_eq la)] using hO
      have HL := hide_ la
      clear la hO
      obtain ⟨w1, hw1⟩ : ∃ w1, w1 = wr := ⟨_, rfl⟩
      subst hw1
      go_wp2
      go_loopw [3, 5] (fun v i wr => ∃ j : Nat, j ≤ 64 ∧ i = .int .i64 j ∧ Owns wr w.heap.size [⟨39, 1, v, k + j, u32s (xs ++ marksW j)⟩] ∧ Below w.heap.size w wr) (fun _ i _ => 64 - (intOf i).toNat)
      case atStart => exact ⟨0, by omega, rfl, hO0, hb⟩
      case round =>
        clear hb hO0
        obtain ⟨j, hj, rfl, hO, hb⟩ := hrel
        by_cases hlt : j < 64
        · go_wp2_with (first | (go_at_call 28; refine (markW_any j hlt _).mono ?_; rintro e w' ⟨rfl, hw9⟩; have hw9 := hw9.symm; subst hw9) | (at_builtin; go_must (refine wpList_append_owns _ rfl (.tmp 23) (.tmp 26) 40 rfl w.heap.size _ 0 39 1 _ (k + j) _ rfl (hO.alloc _) (by have := hb.size; simp; omega) i0 _ 4 Try.underlying40 hi0 hz0 hz1 hz2 rfl (by omega) rfl _ _ 1 1 _ rfl (reads_new wr 39 1 1 [.int .u32 ((1000003 + (j : Int)))] rfl) (by simp [Value.oneCell']) (by simp only [maxLen]; omega) (by omega) ?_); intro v' w1 hO1 hb1 hsz1))
          go_roundw
          case rel => exact ⟨j + 1, by omega, by go_num, by rw [marksW_succ, ← List.append_assoc, u32s_appW, show u32s [1000003 + (j : Int)] = [Value.int .u32 (1000003 + (j : Int))] from rfl]; simpa [Nat.add_assoc] using hO1, hb.trans ((Below.alloc (Below.refl _ _) hb.size _).trans hb1)⟩
          case measure => simp [intOf]; omega
        · obtain rfl : j = 64 := by omega
          go_wp2
          go_ret
          exact ⟨_, rfl, hO.at_ (i := 0) rfl, hb⟩

set_option maxHeartbeats 1000000 in
set_option maxRecDepth 100000 in
theorem KeptWords_any (A A' : Option Addr) (n c n' c' : Nat) (xs ys : List Int) (B : Nat) (w : World) (ha : Reads w B 1 A n (u32s xs)) (hb : Reads w B 1 A' n' (u32s ys)) (hn : n ≤ maxLen) (hn' : n' + 64 ≤ maxLen) :
    Calls Try.prog 36 #[.slice A n c, .slice A' n' c'] w fun e w' => e = .returned (.bool (decide (xs = ys ++ marksW 64))) ∧ ∃ nq, w' = w.drewN nq := by
  unfold maxLen at hn hn'
  have la : xs.length = n := by simpa [u32s] using ha.1
  have lb : ys.length = n' := by simpa [u32s] using hb.1
  by_cases hne : n = n' + 64
  · subst hne
    have h0 : (((n' : Int) + 64) != ((n' : Int) + 64)) = false := by simp
    go_enter Try.func36, Try.ntmps36
    go_wp2
    go_loopw [5] (fun i wr => ∃ k : Nat, k ≤ n' ∧ i = .int .i64 k ∧ xs.take k = ys.take k ∧ ∃ nq, wr = w.drewN nq) (fun i _ => n' - (intOf i).toNat)
    case atStart => exact ⟨0, Nat.zero_le _, rfl, by simp, 0, rfl⟩
    case round =>
      obtain ⟨k, hk, rfl, heq, nq, rfl⟩ := hrel
      by_cases hlt : k < n'
      · obtain ⟨ad, u, rfl, _, hx, hc⟩ := ha.at_ (show k < n' + 64 by omega)
        obtain ⟨ad', u', rfl, _, hx', hc'⟩ := hb.at_ hlt
        have hu := get_map (Value.int .u32) xs 0 k (by omega) hx
        have hu' := get_map (Value.int .u32) ys 0 k (by omega) hx'
        subst hu hu'
        have H := hide_ (beq_get xs ys k (by omega) (by omega) heq)
        have HL := hide_ (show xs.length = n' + 64 ∧ ys.length = n' from ⟨la, lb⟩)
        clear hx hx' heq ha hb la lb
        go_wp2
        go_quiet (fail)
        go_wp2
        · have hd : (xs[k]?.getD 0 != ys[k]?.getD 0) = true := by assumption
          go_ret
          refine ⟨?_, _, World.drewN_drewN _ _ _⟩
          have : xs ≠ ys ++ marksW 64 := by
            intro he
            apply (bne_iff_ne.1 hd)
            rw [he, List.getElem?_append_left (by rw [HL.out.2]; exact hlt)]
          simp [this]
        · have hd : (xs[k]?.getD 0 != ys[k]?.getD 0) = false := by assumption
          go_roundw
          case rel => exact ⟨k + 1, by omega, by go_num, H.out.2 (by simpa using hd), _, rfl⟩
          case measure => simp [intOf]; omega
      · obtain rfl : k = n' := by omega
        have H0 := hide_ (show xs.take (ys.length + 0) = ys ++ marksW 0 by simpa [marksW, lb] using heq.trans (List.take_of_length_le (by omega)))
        have HL := hide_ (show xs.length = k + 64 ∧ ys.length = k from ⟨la, lb⟩)
        clear heq la lb
        go_wp2
        go_loopw [6] (fun i wr => ∃ j : Nat, j ≤ 64 ∧ i = .int .i64 j ∧ Hid (xs.take (ys.length + j) = ys ++ marksW j) ∧ ∃ nq, wr = w.drewN nq) (fun i _ => 64 - (intOf i).toNat)
        case atStart => exact ⟨0, by omega, rfl, H0, _, rfl⟩
        case round =>
          clear H0
          obtain ⟨j, hj, rfl, heq, nq, hwr⟩ := hrel
          have ha := (show Reads wr B 1 A (k + 64) (u32s xs) from hwr ▸ ha.drewN nq)
          have HW := hide_ hwr
          clear hwr
          by_cases hlt : j < 64
          · obtain ⟨ad, u, rfl, _, hx, hc⟩ := ha.at_ (show k + j < k + 64 by omega)
            have hu := get_map (Value.int .u32) xs 0 (k + j) (by rw [HL.out.1]; omega) hx
            subst hu
            have H := hide_ (kept_at xs ys _ j (by rw [HL.out.1, HL.out.2]; omega) ((1000003 + (j : Int))) heq.out)
            clear hx heq ha hb
            have s1 : IntKind.i64.wrap ((k : Int) + (j : Int)) = (k : Int) + (j : Int) := IntWalk.i64_in _ (by omega)
            have s2 : (0 : Int) ≤ (k : Int) + (j : Int) := by omega
            have s3 : ((k : Int) + (j : Int)).toNat = k + j := by omega
            have s4 : (k : Int) + (j : Int) < (k : Int) + 64 := by omega
            go_wp2
            go_quiet ((go_at_call 28; exact Calls.quiet_of_same (markW_any j hlt _)))
            go_wp2
            · have hd : (xs[k + j]?.getD 0 != (1000003 + (j : Int))) = true := by assumption
              go_ret
              refine ⟨?_, _, by rw [HW.out]; exact World.drewN_drewN _ _ _⟩
              have : xs ≠ ys ++ marksW 64 := by
                intro he
                apply (bne_iff_ne.1 hd)
                rw [he, List.getElem?_append_right (by rw [HL.out.2]; omega), HL.out.2]
                simp [marksW, hlt]
              simp [this]
            · have hd : (xs[k + j]?.getD 0 != (1000003 + (j : Int))) = false := by assumption
              go_roundw
              case rel => exact ⟨j + 1, by omega, by go_num, by rw [marksW_succ]; exact H.out.2 (by rw [HL.out.2]; simpa using hd), _, by rw [HW.out]; exact World.drewN_drewN _ _ _⟩
              case measure => simp [intOf]; omega
          · obtain rfl : j = 64 := by omega
            go_wp2
            go_ret
            refine ⟨?_, _, HW.out⟩
            have := heq.out
            rw [List.take_of_length_le (by rw [HL.out.1, HL.out.2]; omega)] at this
            simp [this]
  · have h0 : ((n : Int) != ((n' : Int) + 64)) = true := by simp; omega
    go_enter Try.func36, Try.ntmps36
    go_wp2
    go_ret
    refine ⟨?_, 0, rfl⟩
    have : xs ≠ ys ++ marksW 64 := by
      rintro rfl
      rw [List.length_append, marksW_len] at la
      omega
    simp [this]
theorem Pick_any (a : Int) (n : Nat) (w : World) (hn : 0 < n) (hn2 : n ≤ 140737488351232) (ha : (Lit.int .i64 a).wf = true) :
    Calls Try.prog 16 #[.int .i64 a, .int .i64 n] w fun e w' => (∃ k : Nat, k < n ∧ e = .returned (.int .i64 k)) ∧ w' = w := by
  have h1 : Int.tmod a n < n := Int.tmod_lt_of_pos a (by omega)
  have h2 : -(n : Int) < Int.tmod a n := by
    have h := Int.tmod_lt_of_pos (-a) (b := n) (by omega)
    rw [Int.neg_tmod] at h
    omega
  obtain ⟨r, hr⟩ : ∃ r, r = Int.tmod a n := ⟨_, rfl⟩
  rw [← hr] at h1 h2
  have hr' := hr.symm
  have g1 : ¬ ((n : Int) < 1) := by omega
  have n0 : ((n : Int) == 0) = false := by rw [beq_eq_false_iff_ne]; omega
  have n1 : ¬ ((n : Int) = 0) := by omega
  have s1 : IntKind.i64.wrap r = r := IntWalk.i64_in _ (by omega)
  have s2 : IntKind.i64.wrap (r + n) = r + n := IntWalk.i64_in _ (by omega)
  clear hr
  by_cases h0 : r < 0
  · have hk : ∃ k : Nat, (k : Int) = r + n ∧ k < n := ⟨(r + n).toNat, by omega, by omega⟩
    obtain ⟨k, hk1, hk2⟩ := hk
    have HK := hide_ (And.intro hk1 hk2)
    clear hk1 hk2
    go_enter Try.func16, Try.ntmps16
    go_wp2
    go_ret
    exact ⟨⟨k, HK.out.2, by rw [HK.out.1]; rfl⟩, rfl⟩
  · have hk : ∃ k : Nat, (k : Int) = r ∧ k < n := ⟨r.toNat, by omega, by omega⟩
    obtain ⟨k, hk1, hk2⟩ := hk
    have HK := hide_ (And.intro hk1 hk2)
    clear hk1 hk2
    go_enter Try.func16, Try.ntmps16
    go_wp2
    go_ret
    exact ⟨⟨k, HK.out.2, by rw [HK.out.1]; rfl⟩, rfl⟩
theorem markWm_any (i : Nat) (w : World) : Calls Try.prog 28 #[.int .i64 (-1), .int .i64 i] w fun e w' => (∃ r : Int, e = .returned (.int .u32 r)) ∧ w' = w := by
  go_enter Try.func28, Try.ntmps28
  go_wp2
  go_ret
  exact ⟨⟨_, rfl⟩, rfl⟩
set_option maxHeartbeats 2000000 in
theorem OverWords_any (g n c B : Nat) (l : List Int) (w : World) (hn : n ≤ 140737488355264) (hl : l.length = n) (hO : Owns w B [⟨39, 1, .slice (some ⟨g, 0, none⟩) n c, n, u32s l⟩]) (hB : B ≤ w.heap.size) :
    Calls Try.prog 38 #[.slice (some ⟨g, 0, none⟩) n c] w fun e w' => e = .returned (.tuple #[]) ∧ Below B w w' ∧ w.grownBy w' (some g) := by
  have HO := hide_ hO
  have HL := hide_ hl
  clear hO hl
  go_enter Try.func38, Try.ntmps38
  go_wp2
  go_loopw [2] (fun i wr => ∃ (j : Nat) (X : List Int), j ≤ n ∧ i = .int .i64 j ∧ X.length = n ∧ Hid (Owns wr B [⟨39, 1, .slice (some ⟨g, 0, none⟩) n c, n, u32s X⟩]) ∧ Hid (Below B w wr) ∧ Hid (w.grownBy wr (some g))) (fun i _ => n - (intOf i).toNat)
  case atStart => exact ⟨0, l, Nat.zero_le _, rfl, HL.out, HO, hide_ (Below.refl _ _), hide_ (grown_of_below (Below.refl _ _))⟩
  case round =>
    clear HO HL
    obtain ⟨j, X, hj, rfl, hX, HO, HB, HGR⟩ := hrel
    by_cases hlt : j < n
    · obtain ⟨x, hx⟩ : ∃ t, X[j]? = some t := ⟨_, List.getElem?_eq_getElem (by omega)⟩
      have x0 := HO.out.cell (i := 0) (j := j) (u := .int .u32 x) rfl (by rw [List.getElem?_map, hx]; rfl)
      have f0 := HO.out.frozen (i := 0) rfl j
      have hgb := HO.out.base (i := 0) rfl
      have hg2 := hgb.2
      have HGB := hide_ hgb.1
      have HX := hide_ hX
      have HMK := hide_ (markWm_any j wr)
      clear hgb hX hx
      go_wp2_with fail
      refine HMK.out.mono ?_
      rintro e w2 ⟨⟨r, rfl⟩, hw⟩
      subst hw
      have HS := hide_ (show Owns (w2.setCell ⟨g, j, none⟩ (.int .u32 r)) B [⟨39, 1, .slice (some ⟨g, 0, none⟩) n c, n, u32s (X.set j r)⟩] from by
        have h := HO.out.store (i := 0) rfl (j := j) (by rw [List.length_map, HX.out]; exact hlt) (.int .u32 r)
        have e : (u32s X).set j (.int .u32 r) = u32s (X.set j r) := by simp
        rw [← e]
        exact h)
      have HB2 := hide_ (HB.out.setCell (p := ⟨g, j, none⟩) HGB.out (.int .u32 r))
      have HGR2 := hide_ (grown_set HGR.out j (.int .u32 r))
      have HYL := hide_ (show (X.set j r).length = n by rw [List.length_set]; exact HX.out)
      clear HO HB HGR
      go_wp2
      go_roundw
      case rel => exact ⟨j + 1, X.set j r, by omega, by go_num, HYL.out, HS, HB2, HGR2⟩
      case measure => simp [intOf]; omega
    · have hjn : j = n := by omega
      subst hjn
      go_wp2
      go_end0
      exact ⟨rfl, HB.out, HGR.out⟩
end Go.Proofs.Ytcfpclhoockcfaa
