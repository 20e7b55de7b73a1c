/-
  The walks of playpenkit's functions on lists of bytes: markBytes, LentBytes, KeptBytes, SameBytes, OverBytes.
-/
import Derived.Test.YtcfpclhoockcfaaProg
import Derived.Test.YtcfpclhoockcfaaM01
import Derived.Shelf.Strings.BuilderK
import Derived.PlainAid
namespace Go.Proofs.Ytcfpclhoockcfaa
open Go.RowKit

theorem Try.info_u8 : (Try.prog.info? 5).map (fun i => (i.zero, i.size, i.bytes)) = some (some (.int .u8 0), 1, 1) := by kernel_rfl

abbrev u8s (xs : List Int) : List Value := xs.map (Value.int .u8)

theorem u8s_app (xs ys : List Int) : u8s (xs ++ ys) = u8s xs ++ u8s ys := List.map_append

/-! ### SameBytes -/
theorem beq_get (xs ys : List Int) (k : Nat) (hk : k < xs.length) (hk' : k < ys.length) (h : xs.take k = ys.take k) :
    (xs.take (k + 1) = ys.take (k + 1) ↔ xs[k]?.getD 0 = ys[k]?.getD 0) := by
  have e1 : xs.take (k + 1) = xs.take k ++ [xs[k]?.getD 0] := by rw [List.take_add_one, List.getElem?_eq_getElem hk]; rfl
  have e2 : ys.take (k + 1) = ys.take k ++ [ys[k]?.getD 0] := by rw [List.take_add_one, List.getElem?_eq_getElem hk']; rfl
  rw [e1, e2, h]
  simp

set_option maxHeartbeats 400000 in
theorem SameBytes_any (A A' : Option Addr) (n c n' c' : Nat) (xs ys : List Int) (B : Nat) (w : World) (ha : Reads w B 1 A n (u8s xs)) (hb : Reads w B 1 A' n' (u8s ys)) (hn : n ≤ maxLen) (hn' : n' ≤ maxLen) :
    Calls Try.prog 43 #[.slice A n c, .slice A' n' c'] w fun e w' => e = .returned (.bool (decide (xs = ys))) ∧ ∃ nq, w' = w.drewN nq := by
  unfold maxLen at hn hn'
  have la : xs.length = n := by simpa using ha.1
  have lb : ys.length = n' := by simpa using hb.1
  by_cases hne : n = n'
  · subst hne
    have h0 : ((n : Int) != (n : Int)) = false := by simp
    go_enter Try.func43, Try.ntmps43
    go_wp2
    go_loopw [5] (fun i wr => ∃ k : Nat, k ≤ n ∧ i = .int .i64 k ∧ xs.take k = ys.take k ∧ ∃ nq, wr = w.drewN nq) (fun i _ => n - (intOf i).toNat)
    case atStart => exact ⟨0, Nat.zero_le _, rfl, by simp, 0, rfl⟩
    case round =>
      obtain ⟨k, hk, rfl, heq, nq, rfl⟩ := hrel
      by_cases hlt : k < n
      · obtain ⟨ad, u, rfl, _, hx, hc⟩ := ha.at_ hlt
        obtain ⟨ad', u', rfl, _, hx', hc'⟩ := hb.at_ hlt
        have hu : u = .int .u8 (xs[k]?.getD 0) := by
          rw [List.getElem?_map, List.getElem?_eq_getElem (by omega)] at hx
          rw [List.getElem?_eq_getElem (by omega)]
          simpa using hx.symm
        have hu' : u' = .int .u8 (ys[k]?.getD 0) := by
          rw [List.getElem?_map, List.getElem?_eq_getElem (by omega)] at hx'
          rw [List.getElem?_eq_getElem (by omega)]
          simpa using hx'.symm
        subst hu hu'
        have H := hide_ (beq_get xs ys k (by omega) (by omega) heq)
        have HE := hide_ heq
        clear hx hx' heq ha hb
        have HL := hide_ (show xs.length = n ∧ ys.length = n from ⟨la, lb⟩)
        clear la lb
        go_wp2
        go_quiet (fail)
        go_wp2
        · have hd : (xs[k]?.getD 0 != ys[k]?.getD 0) = true := by assumption
          go_ret
          refine ⟨?_, _, World.drewN_drewN _ _ _⟩
          have : xs ≠ ys := by rintro rfl; simp at hd
          simp [this]
        · have hd : (xs[k]?.getD 0 != ys[k]?.getD 0) = false := by assumption
          go_roundw
          case rel => exact ⟨k + 1, by omega, by go_num, H.out.2 (by simpa using hd), _, rfl⟩
          case measure => simp [intOf]; omega
      · obtain rfl : k = n := by omega
        go_wp2
        go_ret
        exact ⟨by rw [List.take_of_length_le (by omega), List.take_of_length_le (by omega)] at heq; simp [heq], nq, rfl⟩
  · have h0 : ((n : Int) != (n' : Int)) = true := by simp; omega
    go_enter Try.func43, Try.ntmps43
    go_wp2
    go_ret
    refine ⟨?_, 0, rfl⟩
    have : xs ≠ ys := by rintro rfl; omega
    simp [this]

/-! ### markBytes -/
theorem mark_ex (k i : Int) : ∃ m : Int, ∀ w, Calls Try.prog 64 #[.int .i64 k, .int .i64 i] w fun e w' => e = .returned (.int .u8 (m % 4294967296 / 16777216)) ∧ w = w' := by
  apply Exists.intro
  intro w
  go_enter Try.func64, Try.ntmps64
  go_wp2
  go_ret
  exact ⟨rfl, rfl⟩
noncomputable def mk8 (k i : Int) : Int := Classical.choose (mark_ex k i) % 4294967296 / 16777216
theorem mk8_bd (k i : Int) : 0 ≤ mk8 k i ∧ mk8 k i ≤ 255 := by unfold mk8; omega
theorem markBytes_any (k i : Int) (w : World) : Calls Try.prog 64 #[.int .i64 k, .int .i64 i] w fun e w' => e = .returned (.int .u8 (mk8 k i)) ∧ w = w' := Classical.choose_spec (mark_ex k i) w
noncomputable def marks8 (k : Int) (from_ n : Nat) : List Int := (List.range n).map fun i => mk8 k (from_ + i : Nat)
theorem marks8_succ (k : Int) (f n : Nat) : marks8 k f (n + 1) = marks8 k f n ++ [mk8 k (f + n : Nat)] := by simp [marks8, List.range_succ]
theorem marks8_succ0 (k : Int) (n : Nat) : marks8 k 0 (n + 1) = marks8 k 0 n ++ [mk8 k n] := by simp [marks8, List.range_succ]
theorem marks8_len (k : Int) (f n : Nat) : (marks8 k f n).length = n := by simp [marks8]

/-! ### LentBytes -/
set_option maxHeartbeats 1000000 in
set_option maxRecDepth 100000 in
theorem LentBytes_any (A : Option Addr) (n c : Nat) (xs : List Int) (B : Nat) (w : World) (ha : Reads w B 1 A n (u8s xs)) (hB : B ≤ w.heap.size) (hn : n ≤ 140737488351232) :
    Calls Try.prog 53 #[.slice A n c] w fun e w' => ∃ v, e = .returned v ∧ w'.ownsRow w.heap.size 5 1 v (n + 64) (u8s (xs ++ marks8 0 0 64)) ∧ Below w.heap.size w w' := by
  obtain ⟨i0, hi0, hz0, hz1, hz2⟩ := info_parts Try.info_u8
  have la : xs.length = n := by simpa using ha.1
  go_enter Try.func53, Try.ntmps53
  go_wp2
  go_loopw [3, 4] (fun v i wr => ∃ k : Nat, k ≤ n ∧ i = .int .i64 k ∧ Owns wr w.heap.size [⟨5, 1, v, k, u8s (xs.take k)⟩] ∧ Below w.heap.size w wr) (fun _ i _ => n - (intOf i).toNat)
  case atStart => exact ⟨0, Nat.zero_le _, rfl, ⟨fun r hr => by rw [List.mem_singleton.1 hr]; exact World.ownsRow_nil _ _ _ _, List.pairwise_singleton _ _⟩, Below.refl _ _⟩
  case round =>
    obtain ⟨k, hk, rfl, hO, hb⟩ := hrel
    by_cases hlt : k < n
    · obtain ⟨ad, u, rfl, _, hx, hc⟩ := (ha.below (hb.mono hB)).at_ hlt
      have hu := get_map (Value.int .u8) xs 0 k (by omega) hx
      subst hu
      have HL := hide_ la
      clear hx la
      go_wp2_with (at_builtin; go_must (refine wpList_append_owns _ rfl (.tmp 12) (.tmp 17) 23 rfl w.heap.size _ 0 5 1 _ k _ rfl (hO.alloc _) (by have := hb.size; simp; omega) i0 _ 1 Try.underlying23 hi0 hz0 hz1 hz2 rfl (by omega) rfl _ _ 1 1 _ rfl (reads_new wr 5 1 1 [.int .u8 (xs[k]?.getD 0)] rfl) (by simp [Value.oneCell']) (by simp only [maxLen]; omega) (by omega) ?_); intro v' w1 hO1 hb1 hsz1)
      go_roundw
      case rel => exact ⟨k + 1, by omega, by go_num, by rw [take_snoc xs 0 k (by rw [HL.out]; exact hlt), u8s_app]; exact hO1, hb.trans ((Below.alloc (Below.refl _ _) hb.size _).trans hb1)⟩
      case measure => simp [intOf]; omega
    · obtain rfl : k = n := by omega
      have hO0 : Owns wr w.heap.size [⟨5, 1, u3, k + 0, u8s (xs ++ marks8 0 0 0)⟩] := by simpa [marks8, List.take_of_length_le (Nat.le_of_eq la)] using hO
      have HL := hide_ la
      clear la hO
      obtain ⟨w1, hw1⟩ : ∃ w1, w1 = wr := ⟨_, rfl⟩
      subst hw1
      go_wp2
      go_loopw [3, 5] (fun v i wr => ∃ j : Nat, j ≤ 64 ∧ i = .int .i64 j ∧ Owns wr w.heap.size [⟨5, 1, v, k + j, u8s (xs ++ marks8 0 0 j)⟩] ∧ Below w.heap.size w wr) (fun _ i _ => 64 - (intOf i).toNat)
      case atStart => exact ⟨0, by omega, rfl, hO0, hb⟩
      case round =>
        clear hb hO0
        obtain ⟨j, hj, rfl, hO, hb⟩ := hrel
        by_cases hlt : j < 64
        · go_wp2_with (first | (go_at_call 64; refine (markBytes_any _ _ _).mono ?_; rintro e w' ⟨rfl, rfl⟩) | (at_builtin; go_must (refine wpList_append_owns _ rfl (.tmp 23) (.tmp 26) 23 rfl w.heap.size _ 0 5 1 _ (k + j) _ rfl (hO.alloc _) (by have := hb.size; simp; omega) i0 _ 1 Try.underlying23 hi0 hz0 hz1 hz2 rfl (by omega) rfl _ _ 1 1 _ rfl (reads_new wr 5 1 1 [.int .u8 (mk8 0 j)] rfl) (by simp [Value.oneCell']) (by simp only [maxLen]; omega) (by omega) ?_); intro v' w1 hO1 hb1 hsz1))
          go_roundw
          case rel => exact ⟨j + 1, by omega, by go_num, by rw [marks8_succ]; simpa [Nat.add_assoc] using hO1, hb.trans ((Below.alloc (Below.refl _ _) hb.size _).trans hb1)⟩
          case measure => simp [intOf]; omega
        · obtain rfl : j = 64 := by omega
          go_wp2
          go_ret
          exact ⟨_, rfl, hO.at_ (i := 0) rfl, hb⟩

theorem markBytes_q (k i : Int) (w : World) : Calls Try.prog 64 #[.int .i64 k, .int .i64 i] w fun e w' => e = .returned (.int .u8 (mk8 k i)) ∧ w' = w := (markBytes_any k i w).mono fun _ _ ⟨h1, h2⟩ => ⟨h1, h2.symm⟩

/-! ### KeptBytes -/
theorem kept_at (xs ys ms : List Int) (j : Nat) (hx : ys.length + j < xs.length) (m : Int) (h : xs.take (ys.length + j) = ys ++ ms) :
    (xs.take (ys.length + j + 1) = ys ++ (ms ++ [m]) ↔ xs[ys.length + j]?.getD 0 = m) := by
  rw [take_snoc xs 0 _ hx, h, List.append_assoc]
  simp

set_option maxHeartbeats 1000000 in
set_option maxRecDepth 100000 in
theorem KeptBytes_any (A A' : Option Addr) (n c n' c' : Nat) (xs ys : List Int) (B : Nat) (w : World) (ha : Reads w B 1 A n (u8s xs)) (hb : Reads w B 1 A' n' (u8s ys)) (hn : n ≤ maxLen) (hn' : n' + 64 ≤ maxLen) :
    Calls Try.prog 56 #[.slice A n c, .slice A' n' c'] w fun e w' => e = .returned (.bool (decide (xs = ys ++ marks8 0 0 64))) ∧ ∃ nq, w' = w.drewN nq := by
  unfold maxLen at hn hn'
  have la : xs.length = n := by simpa using ha.1
  have lb : ys.length = n' := by simpa using hb.1
  by_cases hne : n = n' + 64
  · subst hne
    have h0 : (((n' : Int) + 64) != ((n' : Int) + 64)) = false := by simp
    go_enter Try.func56, Try.ntmps56
    go_wp2
    go_loopw [5] (fun i wr => ∃ k : Nat, k ≤ n' ∧ i = .int .i64 k ∧ xs.take k = ys.take k ∧ ∃ nq, wr = w.drewN nq) (fun i _ => n' - (intOf i).toNat)
    case atStart => exact ⟨0, Nat.zero_le _, rfl, by simp, 0, rfl⟩
    case round =>
      obtain ⟨k, hk, rfl, heq, nq, rfl⟩ := hrel
      by_cases hlt : k < n'
      · obtain ⟨ad, u, rfl, _, hx, hc⟩ := ha.at_ (show k < n' + 64 by omega)
        obtain ⟨ad', u', rfl, _, hx', hc'⟩ := hb.at_ hlt
        have hu := get_map (Value.int .u8) xs 0 k (by omega) hx
        have hu' := get_map (Value.int .u8) ys 0 k (by omega) hx'
        subst hu hu'
        have H := hide_ (beq_get xs ys k (by omega) (by omega) heq)
        have HL := hide_ (show xs.length = n' + 64 ∧ ys.length = n' from ⟨la, lb⟩)
        clear hx hx' heq ha hb la lb
        go_wp2
        go_quiet (fail)
        go_wp2
        · have hd : (xs[k]?.getD 0 != ys[k]?.getD 0) = true := by assumption
          go_ret
          refine ⟨?_, _, World.drewN_drewN _ _ _⟩
          have : xs ≠ ys ++ marks8 0 0 64 := by
            intro he
            apply (bne_iff_ne.1 hd)
            rw [he, List.getElem?_append_left (by rw [HL.out.2]; exact hlt)]
          simp [this]
        · have hd : (xs[k]?.getD 0 != ys[k]?.getD 0) = false := by assumption
          go_roundw
          case rel => exact ⟨k + 1, by omega, by go_num, H.out.2 (by simpa using hd), _, rfl⟩
          case measure => simp [intOf]; omega
      · obtain rfl : k = n' := by omega
        have H0 := hide_ (show xs.take (ys.length + 0) = ys ++ marks8 0 0 0 by simpa [marks8, lb] using heq.trans (List.take_of_length_le (by omega)))
        have HL := hide_ (show xs.length = k + 64 ∧ ys.length = k from ⟨la, lb⟩)
        clear heq la lb
        go_wp2
        go_loopw [6] (fun i wr => ∃ j : Nat, j ≤ 64 ∧ i = .int .i64 j ∧ Hid (xs.take (ys.length + j) = ys ++ marks8 0 0 j) ∧ ∃ nq, wr = w.drewN nq) (fun i _ => 64 - (intOf i).toNat)
        case atStart => exact ⟨0, by omega, rfl, H0, _, rfl⟩
        case round =>
          clear H0
          obtain ⟨j, hj, rfl, heq, nq, hwr⟩ := hrel
          have ha := (show Reads wr B 1 A (k + 64) (u8s xs) from hwr ▸ ha.drewN nq)
          have HW := hide_ hwr
          clear hwr
          by_cases hlt : j < 64
          · obtain ⟨ad, u, rfl, _, hx, hc⟩ := ha.at_ (show k + j < k + 64 by omega)
            have hu := get_map (Value.int .u8) xs 0 (k + j) (by rw [HL.out.1]; omega) hx
            subst hu
            have H := hide_ (kept_at xs ys _ j (by rw [HL.out.1, HL.out.2]; omega) (mk8 0 j) heq.out)
            clear hx heq ha hb
            have s1 : IntKind.i64.wrap ((k : Int) + (j : Int)) = (k : Int) + (j : Int) := IntWalk.i64_in _ (by omega)
            have s2 : (0 : Int) ≤ (k : Int) + (j : Int) := by omega
            have s3 : ((k : Int) + (j : Int)).toNat = k + j := by omega
            have s4 : (k : Int) + (j : Int) < (k : Int) + 64 := by omega
            go_wp2
            go_quiet ((go_at_call 64; exact Calls.quiet_of_same (markBytes_q _ _ _)))
            go_wp2
            · have hd : (xs[k + j]?.getD 0 != mk8 0 j) = true := by assumption
              go_ret
              refine ⟨?_, _, by rw [HW.out]; exact World.drewN_drewN _ _ _⟩
              have : xs ≠ ys ++ marks8 0 0 64 := by
                intro he
                apply (bne_iff_ne.1 hd)
                rw [he, List.getElem?_append_right (by rw [HL.out.2]; omega), HL.out.2]
                simp [marks8, hlt]
              simp [this]
            · have hd : (xs[k + j]?.getD 0 != mk8 0 j) = false := by assumption
              go_roundw
              case rel => exact ⟨j + 1, by omega, by go_num, by rw [marks8_succ0]; exact H.out.2 (by rw [HL.out.2]; simpa using hd), _, by rw [HW.out]; exact World.drewN_drewN _ _ _⟩
              case measure => simp [intOf]; omega
          · obtain rfl : j = 64 := by omega
            go_wp2
            go_ret
            refine ⟨?_, _, HW.out⟩
            have := heq.out
            rw [List.take_of_length_le (by rw [HL.out.1, HL.out.2]; omega)] at this
            simp [this]
  · have h0 : ((n : Int) != ((n' : Int) + 64)) = true := by simp; omega
    go_enter Try.func56, Try.ntmps56
    go_wp2
    go_ret
    refine ⟨?_, 0, rfl⟩
    have : xs ≠ ys ++ marks8 0 0 64 := by
      rintro rfl
      rw [List.length_append, marks8_len] at la
      omega
    simp [this]

/-! ### OverBytes -/
theorem over_set (xs : List Int) (k : Nat) (h : k < xs.length) (m : Int) : (u8s (marks8 (-1) 0 k ++ xs.drop k)).set k (.int .u8 m) = u8s (marks8 (-1) 0 k ++ [m] ++ xs.drop (k + 1)) := by
  rw [List.drop_eq_getElem_cons h, u8s_app, List.set_append_right _ _ (by simp [marks8_len]), u8s_app, u8s_app, List.append_assoc]
  simp only [List.length_map, marks8_len, Nat.sub_self]
  rfl

set_option maxHeartbeats 1000000 in
theorem OverBytes_any (g n c : Nat) (xs : List Int) (B : Nat) (w : World) (ha : w.ownsRow B 5 1 (.slice (some ⟨g, 0, none⟩) n c) n (u8s xs)) (hn : n ≤ maxLen) :
    Calls Try.prog 58 #[.slice (some ⟨g, 0, none⟩) n c] w fun e w' => e = .returned (.tuple #[]) ∧ w'.ownsRow B 5 1 (.slice (some ⟨g, 0, none⟩) n c) n (u8s (marks8 (-1) 0 n)) ∧ w.grownBy w' (some g) ∧ w.heap.size = w'.heap.size := by
  unfold maxLen at hn
  have la : xs.length = n := by simpa using ha.1
  have H0 := hide_ (show marks8 (-1) 0 0 ++ xs.drop 0 = xs by simp [marks8])
  have hO : Owns w B [⟨5, 1, .slice (some ⟨g, 0, none⟩) n c, n, u8s (marks8 (-1) 0 0 ++ xs.drop 0)⟩] := ⟨fun r hr => by rw [List.mem_singleton.1 hr, H0.out]; exact ha, List.pairwise_singleton _ _⟩
  clear H0 ha
  have HL := hide_ la
  clear la
  go_enter Try.func58, Try.ntmps58
  go_wp2
  go_loopw [2] (fun i wr => ∃ k : Nat, k ≤ n ∧ i = .int .i64 k ∧ Owns wr B [⟨5, 1, .slice (some ⟨g, 0, none⟩) n c, n, u8s (marks8 (-1) 0 k ++ xs.drop k)⟩] ∧ w.grownBy wr (some g) ∧ w.heap.size = wr.heap.size) (fun i _ => n - (intOf i).toNat)
  case atStart => exact ⟨0, Nat.zero_le _, rfl, hO, World.grownBy.refl _ _, rfl⟩
  case round =>
    clear hO
    obtain ⟨k, hk, rfl, hO, hg, hz⟩ := hrel
    by_cases hlt : k < n
    · have hHz := hide_ hz
      clear hz
      have hc : wr.cell? ⟨g, k, none⟩ = some (.int .u8 ((xs.drop k)[0]?.getD 0)) := hO.cell (i := 0) rfl (by
        rw [List.getElem?_map, List.getElem?_append_right (by rw [marks8_len]; exact Nat.le_refl _), marks8_len, Nat.sub_self, List.getElem?_drop, List.getElem?_eq_getElem (by rw [HL.out]; simpa using hlt)]; rfl)
      have hf := hO.frozen (i := 0) rfl k
      go_wp2_with (first | (go_at_call 64; refine (markBytes_any _ _ _).mono ?_; rintro e w' ⟨rfl, rfl⟩))
      go_roundw
      case rel => exact ⟨k + 1, by omega, by go_num, by
        have h2 := hO.store (i := 0) rfl (j := k) (by simp [marks8_len, HL.out]; omega) (.int .u8 (mk8 (-1) k))
        rw [over_set _ _ (by rw [HL.out]; exact hlt), ← marks8_succ0] at h2
        exact h2, hg.trans (grownBy_setCell wr g k _), by simp [hHz.out]⟩
      case measure => simp [intOf]; omega
    · obtain rfl : k = n := by omega
      go_wp2
      go_end0
      exact ⟨rfl, by simpa [List.drop_of_length_le (Nat.le_of_eq HL.out)] using hO.at_ (i := 0) rfl, hg, hz⟩
end Go.Proofs.Ytcfpclhoockcfaa
/-
  strings.Builder at this program: copyCheck, WriteByte, WriteString onto a builder that the call has made itself (lines of the kit's proofs over the shelf's builder, turned to this program, whose copyCheck has its panicking arm refused).
-/
namespace Go.Proofs.Ytcfpclhoockcfaa
set_option maxRecDepth 100000
open Go.RowKit Go.PlainAid Go.Shelf

theorem bld_u8 : (Try.prog.info? 5).map (fun i => (i.zero, i.size, i.bytes)) = some (some (.int .u8 0), 1, 1) := by kernel_rfl
end Go.Proofs.Ytcfpclhoockcfaa
/-
  Rows by number; an append that either stays in its row or moves, and then leaves the elder row as it was.
-/
namespace Go.Proofs.Ytcfpclhoockcfaa
set_option maxRecDepth 100000
open Go.RowKit
set_option linter.unusedVariables false

def rowsF (K : Nat) (r : Nat → Ro) : List Ro := (List.range K).map r
def updR (r : Nat → Ro) (k : Nat) (x : Ro) : Nat → Ro := fun j => if j = k then x else r j
theorem rowsF_len (K : Nat) (r : Nat → Ro) : (rowsF K r).length = K := by simp [rowsF]
theorem rowsF_get {K k : Nat} (r : Nat → Ro) (ex : List Ro) (hk : k < K) : (rowsF K r ++ ex)[k]? = some (r k) := by
  rw [List.getElem?_append_left (by rw [rowsF_len]; exact hk)]
  simp [rowsF, hk]
theorem rowsF_ex {K : Nat} (r : Nat → Ro) (x : Ro) (ex : List Ro) (j : Nat) : (rowsF K r ++ x :: ex)[K + j]? = (x :: ex)[j]? := by
  rw [List.getElem?_append_right (by rw [rowsF_len]; omega), rowsF_len, Nat.add_sub_cancel_left]
theorem rowsF_set {K k : Nat} (r : Nat → Ro) (ex : List Ro) (x : Ro) (hk : k < K) : (rowsF K r ++ ex).set k x = rowsF K (updR r k x) ++ ex := by
  rw [List.set_append_left _ _ (by rw [rowsF_len]; exact hk)]
  congr 1
  apply List.ext_getElem?
  intro j
  rw [List.getElem?_set]
  by_cases hj : k = j
  · subst hj
    simp [rowsF, updR, hk]
  · rw [if_neg hj]
    by_cases hjK : j < K
    · simp [rowsF, updR, hjK, Ne.symm hj]
    · simp [rowsF, hjK]
theorem rowsF_congr {K : Nat} {r s : Nat → Ro} (h : ∀ j, j < K → r j = s j) : rowsF K r = rowsF K s := by
  unfold rowsF
  exact List.map_congr_left (fun j hj => h j (List.mem_range.1 hj))

section
variable {P : Program} (w : World)
/-- where the new row lies -/
theorem run_append_split (base : Nat) (t ty e : TypeId) (i : TypeInfo) (z : Value) (bytes : Nat) (ht : P.underlying t = some (.slice e)) (hi : P.info? e = some i) (hz : i.zero = some z)
    (hsize : i.size = 1) (hby : i.bytes = bytes) (hzs : z.cells.size = 1)
    (v : Value) (n : Nat) (xs : List Value) (hown : w.ownsRow base e 1 v n xs)
    (B : Nat) (A : Option Addr) (m c : Nat) (news : List Value) (hr : Reads w B 1 A m news) (h1 : ∀ u ∈ news, u.oneCell' = true) (hm : 0 < m)
    (h63 : n + m ≤ maxLen) (hbytes : (n + m) * bytes ≤ 140737488355328) (hbase : base ≤ w.heap.size) :
    ∃ v' w', (Builtin.append_ #[t, t] ty #[v, .slice A m c]).run P w = .ok v' w' ∧ w'.ownsRow base e 1 v' (n + m) (xs ++ news) ∧ w.grownBy w' v.ownBlock ∧
      ((v'.ownBlock = v.ownBlock ∧ v.ownBlock ≠ none) ∨ (Below w.heap.size w w' ∧ w'.ownsRow w.heap.size e 1 v' (n + m) (xs ++ news))) := by
  obtain ⟨v', w', hrun, h2, h3, h4⟩ := run_append_any (P := P) w base t ty e i z 1 bytes ht hi hz hsize hby hzs (by omega) v n xs hown B A m c news hr h1 h63 hbytes hbase
  refine ⟨v', w', hrun, h2, h3, ?_⟩
  rcases hown.2 with ⟨rfl, hn⟩ | ⟨g, cap, cur, rfl, hg0, hg, hnc, hcm, hcs, htake⟩
  · subst hn
    have hxs : xs = [] := List.eq_nil_of_length_eq_zero (by simpa using hown.1)
    subst hxs
    obtain ⟨v2, w2, hrun2, k2, k3, _⟩ := run_append_any (P := P) w w.heap.size t ty e i z 1 bytes ht hi hz hsize hby hzs (by omega) _ 0 [] (World.ownsRow_nil _ _ _ _) B A m c news hr h1 h63 hbytes (Nat.le_refl _)
    rw [hrun] at hrun2
    injection hrun2 with e1 e2
    subst e1 e2
    exact .inr ⟨(Below.refl _ w).grown k3 (Nat.le_refl _) (fun k e => by cases e), k2⟩
  · obtain ⟨ad, rfl, hadB, hcells⟩ := hr.2 hm
    have hl := hr.1
    by_cases hroom : n + m ≤ cap
    · have hrun2 := run_append_room (P := P) w t ty e i ht hi g n cap cur hg ad m c news (by rw [hsize]; exact hl) hcells h1 hroom (by rw [hsize, hl, hcs]; omega)
      rw [hrun] at hrun2
      injection hrun2 with e1 e2
      subst e1
      exact .inl ⟨rfl, by simp [Value.ownBlock]⟩
    · have hmx : n + m ≤ 9223372036854775807 := by simp only [maxLen] at h63; omega
      have hrun2 := run_append_grow (P := P) w t ty e i z ht hi hz ⟨g, 0, none⟩ n cap xs (by rw [hsize]; exact hown.1) (hown.cells (g := g) rfl) ad m c news (by rw [hsize]; exact hl) hcells (by omega) (by omega) (growslice_fits (by omega) (by rw [hby]; exact hbytes))
      rw [hrun] at hrun2
      injection hrun2 with e1 e2
      subst e1 e2
      refine .inr ⟨(Below.refl _ w).drew.alloc (Nat.le_refl _) _, ?_⟩
      obtain ⟨k1, k2⟩ := h2
      refine ⟨k1, ?_⟩
      rcases k2 with ⟨h5, _⟩ | ⟨g', cap', cur', hv, _, hrest⟩
      · cases h5
      · injection hv with hv1 hv2 hv3
        injection hv1 with hv1
        injection hv1 with hv1
        subst hv1 hv3
        exact .inr ⟨_, _, cur', rfl, Nat.le_refl _, hrest⟩
end
theorem set_perm {α : Type} (l : List α) : ∀ (k : Nat) (x y : α), l[k]? = some y → (l ++ [x]).Perm (l.set k x ++ [y]) := by
  induction l with
  | nil => intro k x y h; simp at h
  | cons a l ih =>
    intro k x y h
    cases k with
    | zero =>
      simp only [List.getElem?_cons_zero, Option.some.injEq] at h
      subst h
      simp only [List.set_cons_zero, List.cons_append]
      exact (List.perm_append_comm (l₁ := a :: l) (l₂ := [x])).trans ((List.Perm.cons x (List.perm_append_comm (l₁ := [a]) (l₂ := l))))
    | succ k =>
      simp only [List.getElem?_cons_succ] at h
      simp only [List.set_cons_succ, List.cons_append]
      exact (ih k x y h).cons a
theorem wpList_append_split {P : Program} (w : World) {ops : Array Oper} {rest : List Oper} {o : Oper} {a : Act} {Q : Exit → Act → World → Prop} (hgd : o.guard = none) (s x : Operand) (t : TypeId)
    (ho : o.op = .call { callee := .builtin .append, args := #[s, x], argTypes := #[t, t] })
    (B : Nat) (rs : List Ro) (k : Nat) (e : TypeId) (v : Value) (n : Nat) (xs : List Value) (hr : rs[k]? = some ⟨e, 1, v, n, xs⟩) (hO : Owns w B rs) (hB : B ≤ w.heap.size)
    (i : TypeInfo) (z : Value) (bytes : Nat) (ht : P.underlying t = some (.slice e)) (hi : P.info? e = some i) (hz : i.zero = some z)
    (hsize : i.size = 1) (hby : i.bytes = bytes) (hzs : z.cells.size = 1)
    (hs : a.eval s = v)
    (B' : Nat) (A : Option Addr) (m c : Nat) (news : List Value) (hx : a.eval x = .slice A m c) (hn : Reads w B' 1 A m news) (h1 : ∀ u ∈ news, u.oneCell' = true) (hm : 0 < m)
    (h63 : n + m ≤ maxLen) (hbytes : (n + m) * bytes ≤ 140737488355328)
    (h : ∀ v' w', ((v'.ownBlock = v.ownBlock ∧ Owns w' B (rs.set k ⟨e, 1, v', n + m, xs ++ news⟩)) ∨ Owns w' B (rs.set k ⟨e, 1, v', n + m, xs ++ news⟩ ++ [⟨e, 1, v, n, xs⟩])) → Below B w w' → w.heap.size ≤ w'.heap.size → wpList P ops Q rest (a.put o.dst v') w') : wpList P ops Q (o :: rest) a w := by
  refine wpList_plain hgd fun K hK => ?_
  obtain ⟨v', w', hrun, hown, hg, hat⟩ := run_append_split (P := P) w B t o.type e i z bytes ht hi hz hsize hby hzs v n xs (hO.at_ hr) B' A m c news hn h1 hm h63 hbytes hB
  unfold Oper.wp execOp
  simp only [ho, resolve, invoke, builtin, Sem.run_bind, Sem.run_pure, Result.andThen_ok, List.map_toArray, List.map_cons, List.map_nil, hs, hx, hrun]
  refine hK _ _ (h v' w' ?_ ((Below.refl _ _).grown hg hB (fun j hj => (hO.lt_ (List.mem_of_getElem? hr) hj).1)) hg.size)
  rcases hat with ⟨h2, _⟩ | ⟨h2, h3⟩
  · exact .inl ⟨h2, hO.turn hr hg hown (.inl h2)⟩
  · exact .inr ((hO.push h2 (r := ⟨e, 1, v', n + m, xs ++ news⟩) h3 hB).swap (set_perm rs k _ _ hr))
end Go.Proofs.Ytcfpclhoockcfaa
