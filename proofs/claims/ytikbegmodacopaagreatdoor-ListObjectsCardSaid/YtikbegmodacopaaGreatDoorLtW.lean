/-
  The kit's lists of words: LentWords, KeptWords.
-/
import Derived.Test.YtikbegmodacopaaGreatDoorC15
namespace Go.Proofs.YtikbegmodacopaaGreatDoor
open Go.RowKit Go.PlainAid Go.BigFrame
set_option linter.unusedSimpArgs false
set_option linter.unusedVariables false
theorem u32s_appW (xs ys : List Int) : u32s (xs ++ ys) = u32s xs ++ u32s ys := List.map_append
/-- the marks behind a list of words -/
def marksW (n : Nat) : List Int := (List.range n).map fun i => 1000003 + ((i : Nat) : Int)
theorem marksW_succ (n : Nat) : marksW (n + 1) = marksW n ++ [1000003 + (n : Int)] := by simp [marksW, List.range_succ]
theorem marksW_len (n : Nat) : (marksW n).length = n := by simp [marksW]
set_option maxHeartbeats 1000000 in
theorem markW_any (i : Nat) (hi : i < 64) (w : World) : Calls Tryz.prog 48 #[.int .i64 0, .int .i64 i] w fun e w' => e = .returned (.int .u32 (1000003 + (i : Int))) ∧ w' = w := by
  go_enter Tryz.func48, Tryz.ntmps48
  go_wp2
  go_ret
  exact ⟨rfl, rfl⟩
set_option maxHeartbeats 1000000 in
set_option maxRecDepth 100000 in
theorem LentWords_any (A : Option Addr) (n c : Nat) (xs : List Int) (B : Nat) (w : World) (ha : Reads w B 1 A n (u32s xs)) (hB : B ≤ w.heap.size) (hn : n * 4 ≤ 140737488351232) :
    Calls Tryz.prog 35 #[.slice A n c] w fun e w' => ∃ v, e = .returned v ∧ w'.ownsRow w.heap.size 25 1 v (n + 64) (u32s (xs ++ marksW 64)) ∧ Below w.heap.size w w' := by
  obtain ⟨i0, hi0, hz0, hz1, hz2⟩ := info_parts info_u32q
  have la : xs.length = n := by simpa [u32s] using ha.1
  go_enter Tryz.func35, Tryz.ntmps35
  go_wp2
  go_loopw [3, 4] (fun v i wr => ∃ k : Nat, k ≤ n ∧ i = .int .i64 k ∧ Owns wr w.heap.size [⟨25, 1, v, k, u32s (xs.take k)⟩] ∧ Below w.heap.size w wr) (fun _ i _ => n - (intOf i).toNat)
  case atStart => exact ⟨0, Nat.zero_le _, rfl, ⟨fun r hr => by rw [List.mem_singleton.1 hr]; exact World.ownsRow_nil _ _ _ _, List.pairwise_singleton _ _⟩, Below.refl _ _⟩
  case round =>
    obtain ⟨k, hk, rfl, hO, hb⟩ := hrel
    by_cases hlt : k < n
    · obtain ⟨ad, u, rfl, _, hx, hc⟩ := (ha.below (hb.mono hB)).at_ hlt
      have hu := get_map (Value.int .u32) xs 0 k (by omega) hx
      subst hu
      have HL := hide_ la
      clear hx la
      go_wp2_with (at_builtin; go_must (refine wpList_append_owns _ rfl (.tmp 12) (.tmp 17) 23 rfl w.heap.size _ 0 25 1 _ k _ rfl (hO.alloc _) (by have := hb.size; simp; omega) i0 _ 4 Tryz.underlying23 hi0 hz0 hz1 hz2 rfl (by omega) rfl _ _ 1 1 _ rfl (reads_new wr 25 1 1 [.int .u32 (xs[k]?.getD 0)] rfl) (by simp [Value.oneCell']) (by simp only [maxLen]; omega) (by omega) ?_); intro v' w1 hO1 hb1 hsz1)
      go_roundw
      case rel => exact ⟨k + 1, by omega, by go_num, by rw [take_snoc xs 0 k (by rw [HL.out]; exact hlt), u32s_appW]; exact hO1, hb.trans ((Below.alloc (Below.refl _ _) hb.size _).trans hb1)⟩
      case measure => simp [intOf]; omega
    · obtain rfl : k = n := by omega
      have hO0 : Owns wr w.heap.size [⟨25, 1, u3, k + 0, u32s (xs ++ marksW 0)⟩] := by simpa [marksW, List.take_of_length_le (Nat.le_of_eq la)] using hO
      have HL := hide_ la
      clear la hO
      obtain ⟨w1, hw1⟩ : ∃ w1, w1 = wr := ⟨_, rfl⟩
      subst hw1
      go_wp2
      go_loopw [3, 5] (fun v i wr => ∃ j : Nat, j ≤ 64 ∧ i = .int .i64 j ∧ Owns wr w.heap.size [⟨25, 1, v, k + j, u32s (xs ++ marksW j)⟩] ∧ Below w.heap.size w wr) (fun _ i _ => 64 - (intOf i).toNat)
      case atStart => exact ⟨0, by omega, rfl, hO0, hb⟩
      case round =>
        clear hb hO0
        obtain ⟨j, hj, rfl, hO, hb⟩ := hrel
        by_cases hlt : j < 64
        · go_wp2_with (first | (go_at_call 48; refine (markW_any j hlt _).mono ?_; rintro e w' ⟨rfl, hw9⟩; have hw9 := hw9.symm; subst hw9) | (at_builtin; go_must (refine wpList_append_owns _ rfl (.tmp 23) (.tmp 26) 23 rfl w.heap.size _ 0 25 1 _ (k + j) _ rfl (hO.alloc _) (by have := hb.size; simp; omega) i0 _ 4 Tryz.underlying23 hi0 hz0 hz1 hz2 rfl (by omega) rfl _ _ 1 1 _ rfl (reads_new wr 25 1 1 [.int .u32 ((1000003 + (j : Int)))] rfl) (by simp [Value.oneCell']) (by simp only [maxLen]; omega) (by omega) ?_); intro v' w1 hO1 hb1 hsz1))
          go_roundw
          case rel => exact ⟨j + 1, by omega, by go_num, by rw [marksW_succ, ← List.append_assoc, u32s_appW, show u32s [1000003 + (j : Int)] = [Value.int .u32 (1000003 + (j : Int))] from rfl]; simpa [Nat.add_assoc] using hO1, hb.trans ((Below.alloc (Below.refl _ _) hb.size _).trans hb1)⟩
          case measure => simp [intOf]; omega
        · obtain rfl : j = 64 := by omega
          go_wp2
          go_ret
          exact ⟨_, rfl, hO.at_ (i := 0) rfl, hb⟩

set_option maxHeartbeats 1000000 in
set_option maxRecDepth 100000 in
theorem KeptWords_any (A A' : Option Addr) (n c n' c' : Nat) (xs ys : List Int) (B : Nat) (w : World) (ha : Reads w B 1 A n (u32s xs)) (hb : Reads w B 1 A' n' (u32s ys)) (hn : n ≤ maxLen) (hn' : n' + 64 ≤ maxLen) :
    Calls Tryz.prog 13 #[.slice A n c, .slice A' n' c'] w fun e w' => e = .returned (.bool (decide (xs = ys ++ marksW 64))) ∧ ∃ nq, w' = w.drewN nq := by
  unfold maxLen at hn hn'
  have la : xs.length = n := by simpa [u32s] using ha.1
  have lb : ys.length = n' := by simpa [u32s] using hb.1
  by_cases hne : n = n' + 64
  · subst hne
    have h0 : (((n' : Int) + 64) != ((n' : Int) + 64)) = false := by simp
    go_enter Tryz.func13, Tryz.ntmps13
    go_wp2
    go_loopw [5] (fun i wr => ∃ k : Nat, k ≤ n' ∧ i = .int .i64 k ∧ xs.take k = ys.take k ∧ ∃ nq, wr = w.drewN nq) (fun i _ => n' - (intOf i).toNat)
    case atStart => exact ⟨0, Nat.zero_le _, rfl, by simp, 0, rfl⟩
    case round =>
      obtain ⟨k, hk, rfl, heq, nq, rfl⟩ := hrel
      by_cases hlt : k < n'
      · obtain ⟨ad, u, rfl, _, hx, hc⟩ := ha.at_ (show k < n' + 64 by omega)
        obtain ⟨ad', u', rfl, _, hx', hc'⟩ := hb.at_ hlt
        have hu := get_map (Value.int .u32) xs 0 k (by omega) hx
        have hu' := get_map (Value.int .u32) ys 0 k (by omega) hx'
        subst hu hu'
        have H := hide_ (beq_get xs ys k (by omega) (by omega) heq)
        have HL := hide_ (show xs.length = n' + 64 ∧ ys.length = n' from ⟨la, lb⟩)
        clear hx hx' heq ha hb la lb
        go_wp2
        go_quiet (fail)
        go_wp2
        · have hd : (xs[k]?.getD 0 != ys[k]?.getD 0) = true := by assumption
          go_ret
          refine ⟨?_, _, World.drewN_drewN _ _ _⟩
          have : xs ≠ ys ++ marksW 64 := by
            intro he
            apply (bne_iff_ne.1 hd)
            rw [he, List.getElem?_append_left (by rw [HL.out.2]; exact hlt)]
          simp [this]
        · have hd : (xs[k]?.getD 0 != ys[k]?.getD 0) = false := by assumption
          go_roundw
          case rel => exact ⟨k + 1, by omega, by go_num, H.out.2 (by simpa using hd), _, rfl⟩
          case measure => simp [intOf]; omega
      · obtain rfl : k = n' := by omega
        have H0 := hide_ (show xs.take (ys.length + 0) = ys ++ marksW 0 by simpa [marksW, lb] using heq.trans (List.take_of_length_le (by omega)))
        have HL := hide_ (show xs.length = k + 64 ∧ ys.length = k from ⟨la, lb⟩)
        clear heq la lb
        go_wp2
        go_loopw [6] (fun i wr => ∃ j : Nat, j ≤ 64 ∧ i = .int .i64 j ∧ Hid (xs.take (ys.length + j) = ys ++ marksW j) ∧ ∃ nq, wr = w.drewN nq) (fun i _ => 64 - (intOf i).toNat)
        case atStart => exact ⟨0, by omega, rfl, H0, _, rfl⟩
        case round =>
          clear H0
          obtain ⟨j, hj, rfl, heq, nq, hwr⟩ := hrel
          have ha := (show Reads wr B 1 A (k + 64) (u32s xs) from hwr ▸ ha.drewN nq)
          have HW := hide_ hwr
          clear hwr
          by_cases hlt : j < 64
          · obtain ⟨ad, u, rfl, _, hx, hc⟩ := ha.at_ (show k + j < k + 64 by omega)
            have hu := get_map (Value.int .u32) xs 0 (k + j) (by rw [HL.out.1]; omega) hx
            subst hu
            have H := hide_ (kept_at xs ys _ j (by rw [HL.out.1, HL.out.2]; omega) ((1000003 + (j : Int))) heq.out)
            clear hx heq ha hb
            have s1 : IntKind.i64.wrap ((k : Int) + (j : Int)) = (k : Int) + (j : Int) := IntWalk.i64_in _ (by omega)
            have s2 : (0 : Int) ≤ (k : Int) + (j : Int) := by omega
            have s3 : ((k : Int) + (j : Int)).toNat = k + j := by omega
            have s4 : (k : Int) + (j : Int) < (k : Int) + 64 := by omega
            go_wp2
            go_quiet ((go_at_call 48; exact Calls.quiet_of_same (markW_any j hlt _)))
            go_wp2
            · have hd : (xs[k + j]?.getD 0 != (1000003 + (j : Int))) = true := by assumption
              go_ret
              refine ⟨?_, _, by rw [HW.out]; exact World.drewN_drewN _ _ _⟩
              have : xs ≠ ys ++ marksW 64 := by
                intro he
                apply (bne_iff_ne.1 hd)
                rw [he, List.getElem?_append_right (by rw [HL.out.2]; omega), HL.out.2]
                simp [marksW, hlt]
              simp [this]
            · have hd : (xs[k + j]?.getD 0 != (1000003 + (j : Int))) = false := by assumption
              go_roundw
              case rel => exact ⟨j + 1, by omega, by go_num, by rw [marksW_succ]; exact H.out.2 (by rw [HL.out.2]; simpa using hd), _, by rw [HW.out]; exact World.drewN_drewN _ _ _⟩
              case measure => simp [intOf]; omega
          · obtain rfl : j = 64 := by omega
            go_wp2
            go_ret
            refine ⟨?_, _, HW.out⟩
            have := heq.out
            rw [List.take_of_length_le (by rw [HL.out.1, HL.out.2]; omega)] at this
            simp [this]
  · have h0 : ((n : Int) != ((n' : Int) + 64)) = true := by simp; omega
    go_enter Tryz.func13, Tryz.ntmps13
    go_wp2
    go_ret
    refine ⟨?_, 0, rfl⟩
    have : xs ≠ ys ++ marksW 64 := by
      rintro rfl
      rw [List.length_append, marksW_len] at la
      omega
    simp [this]
end Go.Proofs.YtikbegmodacopaaGreatDoor
