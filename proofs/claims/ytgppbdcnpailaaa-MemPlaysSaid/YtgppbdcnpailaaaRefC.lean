/-
  The walks of the document's segment: From, Bits, All, Clone.
-/
import Derived.Test.YtgppbdcnpailaaaRefB
namespace Go.Proofs.Ytgppbdcnpailaaa
open Go.RowKit
set_option linter.unusedVariables false

section
variable {W : World} {B r b N c : Nat} {on : Bool} {lv : Value} {ts : List (Int × Bool)} {xs : List Int} {ex : List Ro}
set_option maxRecDepth 100000 in
set_option maxHeartbeats 1000000 in
theorem rFrom_any (A : Option Addr) (n c0 : Nat) (zs : List Int) (hO : Owns W B ex) (hB : B ≤ W.heap.size) (hr : Reads W W.heap.size 1 A n (u8s zs)) (hn : n ≤ 140737488351232) :
    Calls Try.prog 118 #[.slice A n c0] W fun e W' => (IsSeg n ∧ ∃ r d c, e = .returned (.tuple #[.pointer (some ⟨r, 0, none⟩), .int .i64 0]) ∧ Owns W' B (refRows r d n c false (.slice none 0 0) [] zs ++ ex) ∧ Below W.heap.size W W') ∨ (¬ IsSeg n ∧ e = .returned (.tuple #[.pointer none, .int .i64 91]) ∧ W' = W) := by
  have HC := hide_ (Copied_any A n c0 zs W hr hn)
  have HO := hide_ hO
  have HB := hide_ hB
  clear hO hB hr
  go_enter Try.func118, Try.ntmps118
  go_wp2
  go_loopw [4] (fun i wr => ∃ k : Nat, k ≤ 9 ∧ i = .int .i64 ((2 ^ (8 + k) : Nat) : Int) ∧ Hid (∀ j, j < k → n ≠ 2 ^ (8 + j)) ∧ wr = W) (fun i _ => 131072 - (intOf i).toNat)
  case atStart => exact ⟨0, Nat.zero_le _, rfl, hide_ fun j hj => absurd hj (Nat.not_lt_zero _), rfl⟩
  case round =>
    obtain ⟨k, hk, rfl, HJ, rfl⟩ := hrel
    by_cases hlt : k < 9
    · obtain ⟨P, hP⟩ : ∃ P : Nat, P = 2 ^ (8 + k) := ⟨_, rfl⟩
      have hPb : P ≤ 65536 := by rw [hP]; exact (Nat.pow_le_pow_right (by omega) (by omega : 8 + k ≤ 16) : 2 ^ (8 + k) ≤ 2 ^ 16)
      have hP0 : 256 ≤ P := by rw [hP]; exact (Nat.pow_le_pow_right (by omega) (by omega : 8 ≤ 8 + k) : 2 ^ 8 ≤ 2 ^ (8 + k))
      have hPs : 2 ^ (8 + (k + 1)) = P * 2 := by rw [hP, ← Nat.add_assoc, Nat.pow_succ]
      have HPS := hide_ hPs
      have HP := hide_ hP
      rw [← hP]
      clear hP hPs
      have d3 : decide ((P : Int) ≤ 65536) = true := by simp; omega
      have s1 : IntKind.i64.wrap ((P : Int) * 2) = (P : Int) * 2 := IntWalk.i64_in _ (by omega)
      by_cases he : n = P
      · have d4 : ((n : Int) == (P : Int)) = true := by simp; omega
        have HE := hide_ he
        clear he
        go_wp2_with fail
        refine HC.out.mono ?_
        rintro e w2 ⟨A', c', rfl, hown, hb⟩
        obtain ⟨d, rfl, h1, h2⟩ := rseg_rows (by rw [HE.out]; omega) HO.out HB.out hown hb
        have H1 := hide_ h1
        have H2 := hide_ h2
        clear h1 h2 hown hb
        go_wp2
        go_ret2
        exact .inl ⟨⟨8 + k, by omega, by omega, by rw [HE.out, HP.out]⟩, _, _, _, rfl, H1.out, H2.out⟩
      · have d4 : ((n : Int) == (P : Int)) = false := by simp; omega
        have HE := hide_ he
        clear he
        go_wp2
        go_roundw
        case rel =>
          refine ⟨k + 1, by omega, by rw [HPS.out]; simp, hide_ fun j hj => ?_, by trivial⟩
          by_cases hjk : j = k
          · rw [hjk, ← HP.out]; exact HE.out
          · exact HJ.out j (by omega)
        case measure => simp [intOf]; omega
    · obtain rfl : k = 9 := by omega
      go_wp2
      go_ret2
      refine .inr ⟨?_, rfl, rfl⟩
      rintro ⟨b, h1, h2, h3⟩
      exact HJ.out (b - 8) (by omega) (by rw [h3]; congr 1; omega)
set_option maxHeartbeats 1000000 in
theorem rBits_any (k : Nat) (hk : k ≤ 31) (hNk : N = 2 ^ k) (hO : Owns W B (refRows r b N c on lv ts xs ++ ex)) :
    Calls Try.prog 127 #[.pointer (some ⟨r, 0, none⟩)] W fun e W' => e = .returned (.int .i64 k) ∧ W' = W := by
  have c0 : W.cell? ⟨r, 0, none⟩ = some (.slice (some ⟨b, 0, none⟩) N c) := hO.cell (i := 0) rfl rfl
  have he := rptr_eq
  have HNK := hide_ hNk
  clear hO hNk
  go_enter Try.func127, Try.ntmps127
  go_wp2
  go_loopw [3, 4] (fun i n wr => ∃ j : Nat, j ≤ k ∧ i = .int .i64 j ∧ n = .int .i64 ((2 ^ (k - j) : Nat) : Int) ∧ wr = W) (fun _ n _ => (intOf n).toNat)
  case atStart => exact ⟨0, Nat.zero_le _, rfl, by rw [HNK.out]; rfl, rfl⟩
  case round =>
    obtain ⟨j, hj, rfl, rfl, rfl⟩ := hrel
    by_cases hlt : j < k
    · obtain ⟨P, hP⟩ : ∃ P : Nat, P = 2 ^ (k - (j + 1)) := ⟨_, rfl⟩
      have hPs : 2 ^ (k - j) = P * 2 := by rw [hP, ← Nat.pow_succ]; congr 1; omega
      have hp0 : 0 < P := by rw [hP]; exact Nat.two_pow_pos _
      have hp1 : P ≤ 2147483648 := by rw [hP]; exact (Nat.pow_le_pow_right (by omega) (by omega : k - (j + 1) ≤ 31) : 2 ^ (k - (j + 1)) ≤ 2 ^ 31)
      rw [hPs]
      have HP := hide_ hP
      clear hP hPs
      have d1 : decide ((1 : Int) < ((P * 2 : Nat) : Int)) = true := by simp; omega
      have s2 : Int.tdiv ((P * 2 : Nat) : Int) 2 = (P : Int) := by rw [Int.tdiv_eq_ediv_of_nonneg (by omega)]; omega
      have s3 : IntKind.i64.wrap (P : Int) = (P : Int) := IntWalk.i64_in _ (by omega)
      go_wp2
      go_roundw
      case rel => exact ⟨j + 1, by omega, by go_num, by rw [← HP.out], by trivial⟩
      case measure => simp [intOf]; omega
    · obtain rfl : j = k := by omega
      rw [Nat.sub_self]
      go_wp2
      go_ret
      exact ⟨rfl, rfl⟩
theorem rBits_nil (W : World) : Calls Try.prog 127 #[.pointer none] W fun e W' => e = .returned (.int .i64 0) ∧ W' = W := by
  have he := rptr_eq
  go_enter Try.func127, Try.ntmps127
  go_wp2
  go_ret
  exact ⟨rfl, rfl⟩
theorem rAll_any (hO : Owns W B (refRows r b N c on lv ts xs ++ ex)) (hN : N ≤ 2147483648) :
    Calls Try.prog 87 #[.pointer (some ⟨r, 0, none⟩)] W fun e W' => ∃ A' c', e = .returned (.slice A' N c') ∧ W'.ownsRow W.heap.size 5 1 (.slice A' N c') N (u8s xs) ∧ Below W.heap.size W W' := by
  have c0 : W.cell? ⟨r, 0, none⟩ = some (.slice (some ⟨b, 0, none⟩) N c) := hO.cell (i := 0) rfl rfl
  have HC := hide_ (Copied_any (some ⟨b, 0, none⟩) N c xs W (Reads.of_own (hO.at_ (i := 1) rfl)) (by omega))
  have he := rptr_eq
  clear hO
  go_enter Try.func87, Try.ntmps87
  go_wp2_with fail
  refine HC.out.mono ?_
  rintro e w2 ⟨A', c', rfl, hown, hb⟩
  have H1 := hide_ hown
  have H2 := hide_ hb
  clear hown hb
  go_wp2
  go_ret
  exact ⟨_, _, rfl, H1.out, H2.out⟩
theorem rAll_nil (W : World) : Calls Try.prog 87 #[.pointer none] W fun e W' => e = .returned (.slice none 0 0) ∧ W' = W := by
  have he := rptr_eq
  go_enter Try.func87, Try.ntmps87
  go_wp2
  go_ret
  exact ⟨rfl, rfl⟩
theorem rClone_any (hO : Owns W B (refRows r b N c on lv ts xs ++ ex)) (hB : B ≤ W.heap.size) (hN0 : 0 < N) (hN : N ≤ 2147483648) :
    Calls Try.prog 120 #[.pointer (some ⟨r, 0, none⟩)] W fun e W' => ∃ r2 d2 c2, e = .returned (.pointer (some ⟨r2, 0, none⟩)) ∧ Owns W' B (refRows r2 d2 N c2 false (.slice none 0 0) [] xs ++ (refRows r b N c on lv ts xs ++ ex)) ∧ Below W.heap.size W W' := by
  have c0 : W.cell? ⟨r, 0, none⟩ = some (.slice (some ⟨b, 0, none⟩) N c) := hO.cell (i := 0) rfl rfl
  have HC := hide_ (Copied_any (some ⟨b, 0, none⟩) N c xs W (Reads.of_own (hO.at_ (i := 1) rfl)) (by omega))
  have he := rptr_eq
  have HO := hide_ hO
  clear hO
  go_enter Try.func120, Try.ntmps120
  go_wp2_with fail
  refine HC.out.mono ?_
  rintro e w2 ⟨A', c', rfl, hown, hb⟩
  obtain ⟨d, rfl, h1, h2⟩ := rseg_rows hN0 HO.out hB hown hb
  have H1 := hide_ h1
  have H2 := hide_ h2
  clear h1 h2 hown hb
  go_wp2
  go_ret
  exact ⟨_, _, _, rfl, H1.out, H2.out⟩
theorem rClone_nil (W : World) : Calls Try.prog 120 #[.pointer none] W fun e W' => e = .returned (.pointer none) ∧ W' = W := by
  have he := rptr_eq
  go_enter Try.func120, Try.ntmps120
  go_wp2
  go_ret
  exact ⟨rfl, rfl⟩
end
end Go.Proofs.Ytgppbdcnpailaaa
