/-
  The walks of the document's segment: New, From, Bits, All, Clone.
-/
import Derived.Test.YtgppbdcnpailaaaRefAll
namespace Go.Proofs.Ytgppbdcnpailaaa
open Go.RowKit
set_option linter.unusedVariables false

theorem rseg_rows {W W1 : World} {B N c : Nat} {A : Option Addr} {xs : List Int} {ex : List Ro} (h0 : 0 < N) (hO : Owns W B ex) (hB : B ≤ W.heap.size) (hown : W1.ownsRow W.heap.size 5 1 (.slice A N c) N (u8s xs)) (hb : Below W.heap.size W W1) :
    ∃ b, A = some ⟨b, 0, none⟩ ∧ Owns (W1.alloc (.cells #[.slice A N c, .bool false, .slice none 0 0] 142)) B (refRows W1.heap.size b N c false (.slice none 0 0) [] xs ++ ex) ∧
      Below W.heap.size W (W1.alloc (.cells #[.slice A N c, .bool false, .slice none 0 0] 142)) := by
  obtain ⟨b, c', hv⟩ := ownsRow_some hown h0
  injection hv with h1 h2 h3
  subst h1 h3
  have h1 : Owns W1 B (ex ++ [⟨5, 1, .slice (some ⟨b, 0, none⟩) N c, N, u8s xs⟩]) := hO.push hb hown hB
  have h2 := h1.box 142 #[.slice (some ⟨b, 0, none⟩) N c, .bool false, .slice none 0 0] (Nat.le_trans hB hb.size) (by simp [maxLen])
  have h3 := h2.nilrow 73 2
  exact ⟨b, rfl, h3.swap (seg_perm _ _ _ _), hb.alloc hb.size _⟩
section
variable {W : World} {B r b N c : Nat} {on : Bool} {lv : Value} {ts : List (Int × Bool)} {xs : List Int} {ex : List Ro}
theorem rNew_bad (bits : Int) (h : bits < 8 ∨ 16 < bits) (W : World) :
    Calls Try.prog 117 #[.int .i64 bits] W fun e W' => e = .returned (.tuple #[.pointer none, .int .i64 90]) ∧ W' = W := by
  by_cases h8 : bits < 8
  · have d1 : decide (bits < 8) = true := by simp; omega
    clear h
    go_enter Try.func117, Try.ntmps117
    go_wp2
    go_ret2
    exact ⟨rfl, rfl⟩
  · have d1 : decide (bits < 8) = false := by simp; omega
    have d2 : decide (16 < bits) = true := by simp; omega
    clear h
    go_enter Try.func117, Try.ntmps117
    go_wp2
    go_ret2
    exact ⟨rfl, rfl⟩
theorem u8s_zeros (k : Nat) : u8s (List.replicate (k + 1) 0) = u8s (List.replicate k 0) ++ [.int .u8 0] := by rw [List.replicate_succ', u8s_snoc]
set_option maxRecDepth 100000 in
set_option maxHeartbeats 1000000 in
theorem rNew_any (b : Nat) (h8 : 8 ≤ b) (h16 : b ≤ 16) (hNb : N = 2 ^ b) (hO : Owns W B ex) (hB : B ≤ W.heap.size) :
    Calls Try.prog 117 #[.int .i64 b] W fun e W' => ∃ r d c, e = .returned (.tuple #[.pointer (some ⟨r, 0, none⟩), .int .i64 0]) ∧ Owns W' B (refRows r d N c false (.slice none 0 0) [] (List.replicate N 0) ++ ex) ∧ Below W.heap.size W W' := by
  obtain ⟨i0, hi0, hz0, hz1, hz2⟩ := info_parts Try.info_u8
  have d1 : decide ((b : Int) < 8) = false := by simp; omega
  have d2 : decide ((16 : Int) < (b : Int)) = false := by simp; omega
  have hseg : IsSeg N := ⟨b, h8, h16, hNb⟩
  obtain ⟨n0, n1⟩ := hseg.bd
  have HNB := hide_ hNb
  have HO := hide_ hO
  have HB := hide_ hB
  clear hO hB hNb hseg
  go_enter Try.func117, Try.ntmps117
  go_wp2
  go_loopw [4, 5] (fun n i wr => ∃ k : Nat, k ≤ b ∧ i = .int .i64 k ∧ n = .int .i64 ((2 ^ k : Nat) : Int) ∧ W = wr) (fun _ i _ => b - (intOf i).toNat)
  case atStart => exact ⟨0, Nat.zero_le _, rfl, rfl, rfl⟩
  case round =>
    obtain ⟨k, hk, rfl, rfl, rfl⟩ := hrel
    by_cases hlt : k < b
    · have d3 : decide (k < b) = true := by simp; omega
      obtain ⟨P, hP⟩ : ∃ P : Nat, P = 2 ^ k := ⟨_, rfl⟩
      have hPb : P ≤ 65536 := by rw [hP]; exact (Nat.pow_le_pow_right (by omega) (by omega : k ≤ 16) : 2 ^ k ≤ 2 ^ 16)
      have hPs : 2 ^ (k + 1) = P * 2 := by rw [hP, Nat.pow_succ]
      have HPS := hide_ hPs
      rw [← hP]
      clear hP hPs
      have s1 : IntKind.i64.wrap ((P : Int) * 2) = (P : Int) * 2 := IntWalk.i64_in _ (by omega)
      go_wp2
      go_roundw
      case rel => exact ⟨k + 1, by omega, by go_num, by rw [HPS.out]; simp, by trivial⟩
      case measure => simp [intOf]; omega
    · obtain rfl : k = b := by omega
      rw [← HNB.out]
      go_wp2
      go_loopw [6, 7] (fun v i w2 => ∃ (k : Nat) (A : Option Addr) (cc : Nat), k ≤ N ∧ i = .int .i64 k ∧ v = .slice A k cc ∧ w2.ownsRow W.heap.size 5 1 (.slice A k cc) k (u8s (List.replicate k 0)) ∧ Below W.heap.size W w2) (fun _ i _ => N - (intOf i).toNat)
      case atStart => exact ⟨0, none, 0, Nat.zero_le _, rfl, rfl, World.ownsRow_nil _ _ _ _, Below.refl _ _⟩
      case round =>
        obtain ⟨j, A, cc, hj, rfl, rfl, hown, hb⟩ := hrel
        by_cases hlt : j < N
        · have d3 : decide (j < N) = true := by simp; omega
          obtain ⟨zk, hzk⟩ : ∃ zk, zk = List.replicate j (0 : Int) := ⟨_, rfl⟩
          have hst : u8s (List.replicate (j + 1) 0) = u8s zk ++ [.int .u8 0] := by rw [u8s_zeros, hzk]
          rw [← hzk] at hown
          have hO0 : Owns wr W.heap.size [⟨5, 1, .slice A j cc, j, u8s zk⟩] := ⟨fun r hr => by rw [List.mem_singleton.1 hr]; exact hown, List.pairwise_singleton _ _⟩
          have HOO := hide_ hO0
          have HST := hide_ hst
          have HBB := hide_ hb
          have hsz := hb.size
          clear hO0 hst hb hown hzk
          go_wp2_with (at_builtin; refine wpList_append_owns _ rfl (.tmp 26) (.tmp 27) 46 rfl W.heap.size _ 0 5 1 (.slice A j cc) j (u8s zk) rfl (HOO.out.alloc _) (by simp; omega) i0 _ 1 Try.underlying46 hi0 hz0 hz1 hz2 rfl (by omega) rfl _ _ 1 1 [.int .u8 0] rfl (reads_new wr 5 1 1 [.int .u8 0] rfl) (by simp [Value.oneCell']) (by simp only [maxLen]; omega) (by omega) ?_)
          intro v1 w2 hO2 hb2 hsz2
          obtain ⟨A2, c2, hv, _, _⟩ := ownsRow_slice (hO2.at_ (i := 0) rfl)
          simp only at hv
          subst hv
          have HO2 := hide_ (hO2.at_ (i := 0) rfl)
          have HB2 := hide_ ((HBB.out.alloc HBB.out.size _).trans hb2)
          clear hO2 hb2
          go_wp2
          go_roundw
          case rel =>
            refine ⟨j + 1, A2, c2, by omega, by go_num, rfl, ?_, HB2.out⟩
            rw [HST.out]
            exact HO2.out
          case measure => simp [intOf]; omega
        · obtain rfl : j = N := by omega
          obtain ⟨d, rfl, h1, h2⟩ := rseg_rows (by omega) HO.out HB.out hown hb
          have H1 := hide_ h1
          have H2 := hide_ h2
          clear h1 h2 hown hb
          go_wp2
          go_ret2
          exact ⟨_, _, _, rfl, H1.out, H2.out⟩
end
end Go.Proofs.Ytgppbdcnpailaaa
