/-
  The walk of playpenref01.Cuts: the document's cutting is 'cuts s'.
-/
import Derived.Test.YtohpnalklbjkoaaRuneAll
import Derived.Test.YtohpnalklbjkoaaKit
namespace Go.Proofs.Ytohpnalklbjkoaa
open Go.RowKit Go.PlainAid

theorem runeAt_lost (s : ByteArray) (i : Nat) (w : World) (hz : s.size ≤ 9223372036854775800) (hi : i < s.size) (hl : lost s i) :
    Calls Try.prog 33 #[.string s, .int .i64 i] w fun e w' => e = .returned (.tuple #[.int .i32 0, .int .i64 0]) ∧ w = w' := by
  have := runeAt_any s i w hz hi
  unfold RaIs raR raN at this
  rwa [if_pos hl, if_pos hl] at this
theorem runeAt_found (s : ByteArray) (i : Nat) (w : World) (hz : s.size ≤ 9223372036854775800) (hi : i < s.size) (hl : ¬ lost s i) :
    Calls Try.prog 33 #[.string s, .int .i64 i] w fun e w' => e = .returned (.tuple #[.int .i32 (cutR s i), .int .i64 (cutN s i : Nat)]) ∧ w = w' := by
  have := runeAt_any s i w hz hi
  unfold RaIs raR raN at this
  rw [if_neg hl, if_neg hl] at this
  unfold cutR cutN
  rwa [if_neg hl]

theorem Try.info_int : (Try.prog.info? 3).map (fun i => (i.zero, i.size, i.bytes)) = some (some (.int .i64 0), 1, 8) := by kernel_rfl
theorem Try.info_i32 : (Try.prog.info? 21).map (fun i => (i.zero, i.size, i.bytes)) = some (some (.int .i32 0), 1, 4) := by kernel_rfl

abbrev plV (l : List (Nat × Int)) : List Value := l.map fun x => Value.int .i64 x.1
abbrev nuV (l : List (Nat × Int)) : List Value := l.map fun x => Value.int .i32 x.2
theorem plV_snoc (l : List (Nat × Int)) (x : Nat × Int) : plV (l ++ [x]) = plV l ++ [.int .i64 x.1] := by simp [plV]
theorem nuV_snoc (l : List (Nat × Int)) (x : Nat × Int) : nuV (l ++ [x]) = nuV l ++ [.int .i32 x.2] := by simp [nuV]
theorem cuts_pre {s : ByteArray} {pre : List (Nat × Int)} {pos : Nat} (h : cuts s = pre ++ cutsAt s pos) : pre.length ≤ s.size := by
  have h1 := cutsAt_len s 0
  rw [← cuts_at, h, List.length_append] at h1
  omega

set_option maxRecDepth 100000 in
set_option maxHeartbeats 1000000 in
theorem Cuts_any (s : ByteArray) (w : World) (hz : s.size ≤ 1048576) :
    Calls Try.prog 14 #[.string s] w fun e w' => ∃ v u, e = .returned (.tuple #[v, u]) ∧
      Owns w' w.heap.size [⟨3, 1, v, (cuts s).length, plV (cuts s)⟩, ⟨21, 1, u, (cuts s).length, nuV (cuts s)⟩] ∧ Below w.heap.size w w' := by
  obtain ⟨i0, hi0, hz0, hz1, hz2⟩ := info_parts Try.info_int
  obtain ⟨i1, hi1, hy0, hy1, hy2⟩ := info_parts Try.info_i32
  go_enter Try.func14, Try.ntmps14
  go_wp2
  go_loopw [4, 5, 6] (fun v u i wr => ∃ (pre : List (Nat × Int)) (pos : Nat), i = .int .i64 pos ∧ pos ≤ s.size ∧ Hid (cuts s = pre ++ cutsAt s pos) ∧
      Owns wr w.heap.size [⟨3, 1, v, pre.length, plV pre⟩, ⟨21, 1, u, pre.length, nuV pre⟩] ∧ Below w.heap.size w wr) (fun _ _ i _ => s.size - (intOf i).toNat)
  case atStart =>
    refine ⟨[], 0, rfl, Nat.zero_le _, hide_ (cuts_at s), ⟨fun r hr => ?_, ?_⟩, Below.refl _ _⟩
    · simp only [List.mem_cons, List.not_mem_nil, or_false] at hr
      rcases hr with rfl | rfl <;> exact World.ownsRow_nil _ _ _ _
    · simp [Value.ownBlock]
  case round =>
    obtain ⟨pre, pos, rfl, hpos, HC, hO, hb⟩ := hrel
    have hpl := cuts_pre HC.out
    by_cases hlt : pos < s.size
    · have hnp := cutN_pos s pos
      have hnf := cutN_fits s pos hlt
      have HS := hide_ (show cuts s = (pre ++ [(pos, cutR s pos)]) ++ cutsAt s (pos + cutN s pos) by rw [HC.out, cutsAt_lt s pos hlt]; simp)
      clear HC
      by_cases hl : lost s pos
      · have hb' := get_bt s
        have hb0 := bt_nonneg s pos
        have hb1 := bt_le s pos
        have HN := hide_ (show cutN s pos = 1 from hl.2)
        have HR := hide_ (show -1 - bt s pos = cutR s pos by unfold cutR; rw [if_pos hl, bt_eq s pos hlt])
        go_wp2_with (first | (go_at_call 33; refine (runeAt_lost s pos _ (by omega) hlt hl).mono ?_; rintro e w' ⟨rfl, rfl⟩) | (at_builtin; refine wpList_append_owns _ rfl (.tmp 19) (.tmp 21) 22 rfl w.heap.size _ 0 3 1 _ pre.length _ rfl (hO.alloc _) (by have := hb.size; simp; omega) i0 _ 8 Try.underlying22 hi0 hz0 hz1 hz2 rfl (by omega) rfl _ _ 1 1 _ rfl (reads_new wr 3 1 1 [.int .i64 pos] rfl) (by simp [Value.oneCell']) (by simp only [maxLen]; omega) (by omega) ?_; intro v' w1 hO1 hb1 hsz1) | (at_builtin; refine wpList_append_owns _ rfl (.tmp 25) (.tmp 31) 23 rfl w.heap.size _ 1 21 1 _ pre.length _ rfl (hO1.alloc _) (by have := hb.size; simp at hsz1 ⊢; omega) i1 _ 4 Try.underlying23 hi1 hy0 hy1 hy2 rfl (by omega) rfl _ _ 1 1 _ rfl (reads_new w1 21 1 1 [.int .i32 (-1 - bt s pos)] rfl) (by simp [Value.oneCell']) (by simp only [maxLen]; omega) (by omega) ?_; intro v2 w2 hO2 hb2 hsz2))
        go_roundw
        case rel => exact ⟨pre ++ [(pos, cutR s pos)], pos + cutN s pos, by rw [HN.out]; go_num, hnf, HS, by rw [List.length_append, plV_snoc, nuV_snoc, ← HR.out]; exact hO2, hb.trans (((Below.refl _ _).alloc hb.size _).trans (hb1.trans (((Below.refl _ _).alloc (by have := hb.size; simp at hsz1; omega) _).trans hb2)))⟩
        case measure => simp [intOf]; omega
      · have hN0 : ((cutN s pos : Int) == 0) = false := by rw [beq_eq_false_iff_ne]; omega
        obtain ⟨N, hN⟩ : ∃ N, N = cutN s pos := ⟨_, rfl⟩
        obtain ⟨R, hR⟩ : ∃ R, R = cutR s pos := ⟨_, rfl⟩
        have hc := runeAt_found s pos
        rw [← hN] at hnp hnf HS hN0 hc
        rw [← hR] at HS hc
        have HC := hide_ (fun w => hc w (by omega) hlt hl)
        clear hN hR hc
        go_wp2_with (first | (go_at_call 33; refine (HC.out _).mono ?_; rintro e w' ⟨rfl, rfl⟩) | (at_builtin; refine wpList_append_owns _ rfl (.tmp 19) (.tmp 21) 22 rfl w.heap.size _ 0 3 1 _ pre.length _ rfl (hO.alloc _) (by have := hb.size; simp; omega) i0 _ 8 Try.underlying22 hi0 hz0 hz1 hz2 rfl (by omega) rfl _ _ 1 1 _ rfl (reads_new wr 3 1 1 [.int .i64 pos] rfl) (by simp [Value.oneCell']) (by simp only [maxLen]; omega) (by omega) ?_; intro v' w1 hO1 hb1 hsz1) | (at_builtin; refine wpList_append_owns _ rfl (.tmp 35) (.tmp 37) 23 rfl w.heap.size _ 1 21 1 _ pre.length _ rfl (hO1.alloc _) (by have := hb.size; simp at hsz1 ⊢; omega) i1 _ 4 Try.underlying23 hi1 hy0 hy1 hy2 rfl (by omega) rfl _ _ 1 1 _ rfl (reads_new w1 21 1 1 [.int .i32 R] rfl) (by simp [Value.oneCell']) (by simp only [maxLen]; omega) (by omega) ?_; intro v2 w2 hO2 hb2 hsz2))
        go_roundw
        case rel => exact ⟨pre ++ [(pos, R)], pos + N, by go_num, hnf, HS, by rw [List.length_append, plV_snoc, nuV_snoc]; exact hO2, hb.trans (((Below.refl _ _).alloc hb.size _).trans (hb1.trans (((Below.refl _ _).alloc (by have := hb.size; simp at hsz1; omega) _).trans hb2)))⟩
        case measure => simp [intOf]; omega
    · obtain rfl : pos = s.size := by omega
      have hcs : cuts s = pre := by rw [HC.out, cutsAt_ge s _ (Nat.le_refl _), List.append_nil]
      subst hcs
      go_wp2
      go_ret2
      exact ⟨_, _, rfl, hO, hb⟩
theorem own_reads {w : World} {B e n : Nat} {v : Value} {xs : List Value} (h : w.ownsRow B e 1 v n xs) : ∃ A c, v = .slice A n c ∧ Reads w w.heap.size 1 A n xs ∧ n ≤ c ∧ c ≤ maxLen := by
  obtain ⟨A, c, rfl, h1, h2⟩ := ownsRow_slice h
  exact ⟨A, c, rfl, Reads.of_own h, h1, h2⟩
/-- .. where the two lists are only read from then on -/
theorem Cuts_reads (s : ByteArray) (w : World) (hz : s.size ≤ 1048576) :
    Calls Try.prog 14 #[.string s] w fun e w' => ∃ A c A' c', e = .returned (.tuple #[.slice A (cuts s).length c, .slice A' (cuts s).length c']) ∧
      Reads w' w'.heap.size 1 A (cuts s).length (plV (cuts s)) ∧ Reads w' w'.heap.size 1 A' (cuts s).length (nuV (cuts s)) ∧ Below w.heap.size w w' :=
  (Cuts_any s w hz).mono fun e w' ⟨v, u, he, hO, hb⟩ => by
    obtain ⟨A, c, rfl, h1, _⟩ := own_reads (show w'.ownsRow w.heap.size 3 1 v (cuts s).length (plV (cuts s)) from hO.at_ (i := 0) rfl)
    obtain ⟨A', c', rfl, h2, _⟩ := own_reads (show w'.ownsRow w.heap.size 21 1 u (cuts s).length (nuV (cuts s)) from hO.at_ (i := 1) rfl)
    exact ⟨A, c, A', c', he, h1, h2, hb⟩
theorem cuts_len (s : ByteArray) : (cuts s).length ≤ s.size := cutsAt_len s 0
end Go.Proofs.Ytohpnalklbjkoaa
