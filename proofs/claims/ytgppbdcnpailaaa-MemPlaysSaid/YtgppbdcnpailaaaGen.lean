/-
  The contracts of a segment's Copy, Read, Write, whether its log is on or off; what New and From refuse.
-/
import Derived.Test.YtgppbdcnpailaaaPlay
namespace Go.Proofs.Ytgppbdcnpailaaa
open Go.RowKit
set_option linter.unusedVariables false

section
variable {W : World} {B g d N c : Nat} {on : Bool} {tv : Value} {ts : List (Int × Bool)} {xs : List Int} {ex : List Ro}
theorem mCopy_any (a f : Int) (n : Nat) (hO : Owns W B (memRows g d N c on tv ts xs ++ ex)) (h2 : B ≤ W.heap.size) (h3 : IsSeg N) (h4 : xs.length = N) (a0 : 0 ≤ a) (a1 : a ≤ 4294967295) (f0 : 0 ≤ f) (f1 : f ≤ 4294967295) (hn : n ≤ 4096) :
    Calls Try.prog 44 #[.pointer (some ⟨g, 0, none⟩), .int .u32 a, .int .u32 f, .int .u32 n] W fun e W' => e = .returned (.int .i64 0) ∧
      (∃ tv', Owns W' B (memRows g d N c on tv' (notes N on true a (notes N on false f ts n) n) (puts N a (readN N f xs n) xs n) ++ ex)) ∧ Below B W W' := by
  have hm := hide_ (made_any g d N c W (hO.cell (i := 0) rfl rfl) h3.pow.bd.1)
  have hr := hide_ (read_any (W := W) f n hO h2 h3.pow h4 f0 f1 hn)
  have hw := hide_ (fun (W1 : World) (o : Nat) (tv1 : Value) (hO1 : Owns W1 B (memRows g d N c on tv1 (notes N on false f ts n) xs ++ (outR o n n (readN N f xs n) :: ex))) (hb1 : Below B W W1) =>
    write_any (W := W1) a (some ⟨o, 0, none⟩) n n (readN N f xs n) hO1 (Nat.le_trans h2 hb1.size) h3.pow h4 a0 a1 (readN_len _ _ _ _) hn (fun W2 _ _ _ ex' hO2 _ => Reads.of_own (hO2.1 (outR o n n (readN N f xs n)) (by simp))))
  have d1 : decide ((4096 : Int) < (n : Int)) = false := by simp; omega
  clear hO h4
  go_enter Try.func44, Try.ntmps44
  go_wp2_with (first
    | (go_at_call 76; refine hm.out.mono ?_; rintro e w' ⟨rfl, rfl⟩)
    | (go_at_call 80; refine hr.out.mono ?_; rintro e w3 ⟨o, tv3, rfl, hO3, hb3⟩)
    | (go_at_call 79; refine (hw.out _ _ _ hO3 hb3).mono ?_; rintro e w4 ⟨rfl, tv4, hO4, hb4⟩))
  go_ret
  exact ⟨rfl, ⟨tv4, hO4.sub ((List.Sublist.refl _).append (.cons _ (.refl _)))⟩, hb3.trans hb4⟩
theorem mCopy_big (a f n : Int) (hO : Owns W B (memRows g d N c on tv ts xs ++ ex)) (h3 : IsSeg N) (hn : 4096 < n) :
    Calls Try.prog 44 #[.pointer (some ⟨g, 0, none⟩), .int .u32 a, .int .u32 f, .int .u32 n] W fun e W' => e = .returned (.int .i64 92) ∧ W' = W := by
  have hm := hide_ (made_any g d N c W (hO.cell (i := 0) rfl rfl) h3.pow.bd.1)
  have d1 : decide ((4096 : Int) < n) = true := by simp; omega
  clear hO
  go_enter Try.func44, Try.ntmps44
  go_wp2_with (go_at_call 76; refine hm.out.mono ?_; rintro e w' ⟨rfl, rfl⟩)
  go_ret
  exact ⟨rfl, rfl⟩
theorem mRead_any (a : Int) (n : Nat) (hO : Owns W B (memRows g d N c on tv ts xs ++ ex)) (h2 : B ≤ W.heap.size) (h3 : IsSeg N) (h4 : xs.length = N) (a0 : 0 ≤ a) (a1 : a ≤ 4294967295) (hn : n ≤ 4096) :
    Calls Try.prog 43 #[.pointer (some ⟨g, 0, none⟩), .int .u32 a, .int .i64 n] W fun e W' => ∃ o tv', e = .returned (.tuple #[.slice (some ⟨o, 0, none⟩) n n, .int .i64 0]) ∧
      Owns W' B (memRows g d N c on tv' (notes N on false a ts n) xs ++ (byteR (some ⟨o, 0, none⟩) n n (readN N a xs n) :: ex)) ∧ Below B W W' := by
  have hm := hide_ (made_any g d N c W (hO.cell (i := 0) rfl rfl) h3.pow.bd.1)
  have hr := hide_ (read_any (W := W) a n hO h2 h3.pow h4 a0 a1 hn)
  have d1 : decide ((4096 : Int) < (n : Int)) = false := by simp; omega
  have d2 : decide ((n : Int) < 0) = false := by simp
  clear hO h4
  go_enter Try.func43, Try.ntmps43
  go_wp2_with (first
    | (go_at_call 76; refine hm.out.mono ?_; rintro e w' ⟨rfl, rfl⟩)
    | (go_at_call 80; refine hr.out.mono ?_; rintro e w3 ⟨o, tv3, rfl, hO3, hb3⟩))
  go_ret2
  exact ⟨o, tv3, rfl, hO3, hb3⟩
theorem mRead_big (a n : Int) (hO : Owns W B (memRows g d N c on tv ts xs ++ ex)) (h3 : IsSeg N) (hn : n < 0 ∨ 4096 < n) :
    Calls Try.prog 43 #[.pointer (some ⟨g, 0, none⟩), .int .u32 a, .int .i64 n] W fun e W' => e = .returned (.tuple #[.slice none 0 0, .int .i64 92]) ∧ W' = W := by
  have hm := hide_ (made_any g d N c W (hO.cell (i := 0) rfl rfl) h3.pow.bd.1)
  clear hO
  by_cases h0 : n < 0
  · have d1 : decide (n < 0) = true := by simp; omega
    clear hn h0
    go_enter Try.func43, Try.ntmps43
    go_wp2_with (go_at_call 76; refine hm.out.mono ?_; rintro e w' ⟨rfl, rfl⟩)
    go_ret2
    exact ⟨rfl, rfl⟩
  · have d1 : decide (n < 0) = false := by simp; omega
    have d2 : decide ((4096 : Int) < n) = true := by simp; omega
    clear hn h0
    go_enter Try.func43, Try.ntmps43
    go_wp2_with (go_at_call 76; refine hm.out.mono ?_; rintro e w' ⟨rfl, rfl⟩)
    go_ret2
    exact ⟨rfl, rfl⟩
theorem mWrite_any (a : Int) (A : Option Addr) (n cb : Nat) (bs : List Int) (hO : Owns W B (memRows g d N c on tv ts xs ++ ex)) (h2 : B ≤ W.heap.size) (h3 : IsSeg N) (h4 : xs.length = N) (a0 : 0 ≤ a) (a1 : a ≤ 4294967295) (hn : n ≤ 4096) (hbl : bs.length = n)
    (hR : ∀ W1, Owns W1 B ex → Reads W1 W1.heap.size 1 A n (u8s bs)) :
    Calls Try.prog 42 #[.pointer (some ⟨g, 0, none⟩), .int .u32 a, .slice A n cb] W fun e W' => e = .returned (.int .i64 0) ∧
      (∃ tv', Owns W' B (memRows g d N c on tv' (notes N on true a ts n) (puts N a bs xs n) ++ ex)) ∧ Below B W W' := by
  have hm := hide_ (made_any g d N c W (hO.cell (i := 0) rfl rfl) h3.pow.bd.1)
  have hw := hide_ (write_any (W := W) a A n cb bs hO h2 h3.pow h4 a0 a1 hbl hn (fun W2 _ _ _ ex' hO2 _ => hR W2 (hO2.sub ((List.sublist_append_right _ _).trans (List.sublist_append_right _ _)))))
  have d1 : decide ((4096 : Int) < (n : Int)) = false := by simp; omega
  clear hO h4 hR
  go_enter Try.func42, Try.ntmps42
  go_wp2_with (first
    | (go_at_call 76; refine hm.out.mono ?_; rintro e w' ⟨rfl, rfl⟩)
    | (go_at_call 79; refine hw.out.mono ?_; rintro e w4 ⟨rfl, tv4, hO4, hb4⟩))
  go_ret
  exact ⟨rfl, ⟨tv4, hO4⟩, hb4⟩
theorem mWrite_big (a : Int) (A : Option Addr) (n cb : Nat) (hO : Owns W B (memRows g d N c on tv ts xs ++ ex)) (h3 : IsSeg N) (hn : 4096 < n) :
    Calls Try.prog 42 #[.pointer (some ⟨g, 0, none⟩), .int .u32 a, .slice A n cb] W fun e W' => e = .returned (.int .i64 92) ∧ W' = W := by
  have hm := hide_ (made_any g d N c W (hO.cell (i := 0) rfl rfl) h3.pow.bd.1)
  have d1 : decide ((4096 : Int) < (n : Int)) = true := by simp; omega
  clear hO
  go_enter Try.func42, Try.ntmps42
  go_wp2_with (go_at_call 76; refine hm.out.mono ?_; rintro e w' ⟨rfl, rfl⟩)
  go_ret
  exact ⟨rfl, rfl⟩
theorem mClone_any (hO : Owns W B (memRows g d N c on tv ts xs ++ ex)) (h2 : B ≤ W.heap.size) (h3 : IsSeg N) :
    Calls Try.prog 48 #[.pointer (some ⟨g, 0, none⟩)] W fun e W' => ∃ g2 d2 c2, e = .returned (.pointer (some ⟨g2, 0, none⟩)) ∧ Owns W' B (memRows g2 d2 N c2 false (.slice none 0 0) [] xs ++ (memRows g d N c on tv ts xs ++ ex)) ∧ Below W.heap.size W W' := by
  have c0 : W.cell? ⟨g, 0, none⟩ = some (.slice (some ⟨d, 0, none⟩) N c) := hO.cell (i := 0) rfl rfl
  have hr : Reads W W.heap.size 1 (some ⟨d, 0, none⟩) N (u8s xs) := Reads.of_own (hO.at_ (i := 1) rfl)
  have hm := hide_ (made_any g d N c W c0 h3.pow.bd.1)
  have hc := hide_ (bytesClone_any (some ⟨d, 0, none⟩) N c xs W hr (by have := h3.bd; omega) (fun h => by cases h))
  have HN := hide_ h3.pow.bd
  have HO := hide_ hO
  clear hO hr
  go_enter Try.func48, Try.ntmps48
  go_wp2_with (first
    | (go_at_call 76; refine hm.out.mono ?_; rintro e w' ⟨rfl, rfl⟩)
    | (go_at_call 74; refine hc.out.mono ?_))
  rintro e W' ⟨v, rfl, hown, hb⟩
  obtain ⟨o, co, rfl⟩ := ownsRow_some hown HN.out.1
  obtain ⟨h1, h6⟩ := seg_rows HO.out h2 hown hb
  have H1 := hide_ h1
  have H6 := hide_ h6
  clear h1 h6 hown hb
  go_wp2
  go_ret
  exact ⟨_, o, co, rfl, H1.out, H6.out⟩
end
/-! ### what New and From refuse -/
theorem mNew_bad (bits : Int) (h : bits < 8 ∨ 16 < bits) (W : World) :
    Calls Try.prog 47 #[.int .i64 bits] W fun e W' => e = .returned (.tuple #[.pointer none, .int .i64 90]) ∧ W' = W := by
  by_cases h8 : bits < 8
  · have d1 : decide (bits < 8) = true := by simp; omega
    clear h
    go_enter Try.func47, Try.ntmps47
    go_wp2
    go_ret2
    exact ⟨rfl, rfl⟩
  · have d1 : decide (bits < 8) = false := by simp; omega
    have d2 : decide (16 < bits) = true := by simp; omega
    clear h
    go_enter Try.func47, Try.ntmps47
    go_wp2
    go_ret2
    exact ⟨rfl, rfl⟩
theorem two_of_and {n : Nat} (h : n &&& (n - 1) = 0) (h0 : 0 < n) : ∃ b, n = 2 ^ b := by
  induction n using Nat.strongRecOn with
  | _ n ih =>
    by_cases h2 : n % 2 = 1
    · refine ⟨0, ?_⟩
      have e : n = 2 * (n / 2) + 1 := by omega
      have h3 : n / 2 = 0 := by
        have h4 : (n &&& (n - 1)) / 2 = 0 := by rw [h]
        have h5 := @Nat.and_div_two n (n - 1)
        rw [h4] at h5
        have h6 : (n - 1) / 2 = n / 2 := by omega
        rw [h6, Nat.and_self] at h5
        exact h5.symm
      omega
    · have h4 : (n / 2) &&& (n / 2 - 1) = 0 := by
        have h5 := @Nat.and_div_two n (n - 1)
        rw [h] at h5
        have h6 : (n - 1) / 2 = n / 2 - 1 := by omega
        rw [h6] at h5
        exact h5.symm
      obtain ⟨b, hb⟩ := ih (n / 2) (by omega) h4 (by omega)
      exact ⟨b + 1, by rw [Nat.pow_succ]; omega⟩
theorem isSeg_of_and {n : Nat} (h0 : 256 ≤ n) (h1 : n ≤ 65536) (h : n &&& (n - 1) = 0) : IsSeg n := by
  obtain ⟨b, hb⟩ := two_of_and h (by omega)
  refine ⟨b, ?_, ?_, hb⟩
  · refine Decidable.byContradiction fun hc => ?_
    have h2 : 2 ^ b ≤ 2 ^ 7 := Nat.pow_le_pow_right (by decide) (by omega)
    omega
  · refine Decidable.byContradiction fun hc => ?_
    have h2 : 2 ^ 17 ≤ 2 ^ b := Nat.pow_le_pow_right (by decide) (by omega)
    omega
end Go.Proofs.Ytgppbdcnpailaaa
