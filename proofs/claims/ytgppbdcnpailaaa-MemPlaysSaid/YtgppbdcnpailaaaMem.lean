/-
  The walks of mem's small functions: made, place, plain; a data segment as rows side by side.
-/
import Derived.Laws.BitsAllLaws
import Derived.Test.YtgppbdcnpailaaaFits
namespace Go.Proofs.Ytgppbdcnpailaaa
open Go.RowKit

theorem and_place (a : Int) (b : Nat) (hb : b ≤ 31) (h0 : 0 ≤ a) (h1 : a ≤ 4294967295) : bits .and .u32 a (((2 ^ b : Nat) : Int) - 1) = a % ((2 ^ b : Nat) : Int) := by
  obtain ⟨n, rfl⟩ := Int.eq_ofNat_of_zero_le h0
  have hp : 0 < 2 ^ b := Nat.two_pow_pos b
  have h2 : 2 ^ b ≤ 2 ^ 31 := Nat.pow_le_pow_right (by decide) hb
  have e : (((2 ^ b : Nat) : Int) - 1) = ((2 ^ b - 1 : Nat) : Int) := by omega
  rw [e, u32_and_nat n (2 ^ b - 1) (by omega) (by omega), Nat.and_two_pow_sub_one_eq_mod]
  omega
def touchCells (ts : List (Int × Bool)) : List Value := ts.flatMap fun t => [.int .u32 t.1, .bool t.2]
theorem touchCells_snoc (ts : List (Int × Bool)) (t : Int × Bool) : touchCells (ts ++ [t]) = touchCells ts ++ [.int .u32 t.1, .bool t.2] := by simp [touchCells]
/-- a data segment: its struct, its bytes, its log -/
def memRows (g d N c : Nat) (logs : Bool) (tv : Value) (ts : List (Int × Bool)) (xs : List Int) : List Ro :=
  [⟨83, 1, .slice (some ⟨g, 0, none⟩) 3 3, 3, [.slice (some ⟨d, 0, none⟩) N c, .bool logs, tv]⟩,
   ⟨5, 1, .slice (some ⟨d, 0, none⟩) N c, N, u8s xs⟩,
   ⟨73, 2, tv, ts.length, touchCells ts⟩]
theorem made_any (g d N c : Nat) (W : World) (h : W.cell? ⟨g, 0, none⟩ = some (.slice (some ⟨d, 0, none⟩) N c)) (hN : 0 < N) : Calls Try.prog 76 #[.pointer (some ⟨g, 0, none⟩)] W fun e w' => e = .returned (.bool true) ∧ w' = W := by
  have d1 : decide ((0 : Int) < (N : Int)) = true := by simp; omega
  go_enter Try.func76, Try.ntmps76
  go_wp2
  go_ret
  exact ⟨by simp, rfl⟩
theorem made_nil (W : World) : Calls Try.prog 76 #[.pointer none] W fun e w' => e = .returned (.bool false) ∧ w' = W := by
  go_enter Try.func76, Try.ntmps76
  go_wp2
  go_ret
  exact ⟨rfl, rfl⟩
def IsPow (N : Nat) : Prop := ∃ b, b ≤ 31 ∧ N = 2 ^ b
theorem IsPow.bd {N : Nat} (h : IsPow N) : 0 < N ∧ N ≤ 2147483648 := by
  obtain ⟨b, hb, rfl⟩ := h
  have : 2 ^ b ≤ 2 ^ 31 := Nat.pow_le_pow_right (by decide) hb
  exact ⟨Nat.two_pow_pos b, this⟩
theorem place_any (g d N c : Nat) (a : Int) (W : World) (h : W.cell? ⟨g, 0, none⟩ = some (.slice (some ⟨d, 0, none⟩) N c)) (hN : IsPow N) (h0 : 0 ≤ a) (h1 : a ≤ 4294967295) :
    Calls Try.prog 114 #[.pointer (some ⟨g, 0, none⟩), .int .u32 a] W fun e w' => e = .returned (.int .u32 (a % (N : Int))) ∧ w' = W := by
  obtain ⟨hp, h2⟩ := hN.bd
  obtain ⟨b, hb, hNb⟩ := hN
  have ha := and_place a b hb h0 h1
  rw [← hNb] at ha
  have s1 : IntKind.i64.wrap ((N : Int) - 1) = (N : Int) - 1 := IntWalk.i64_in _ (by omega)
  have s2 : ((N : Int) - 1) % 4294967296 = (N : Int) - 1 := by omega
  clear hNb
  go_enter Try.func114, Try.ntmps114
  go_wp2
  go_ret
  exact ⟨by simp, rfl⟩
theorem plain_any (g d N c n : Nat) (logs : Bool) (a : Int) (W : World) (h : W.cell? ⟨g, 0, none⟩ = some (.slice (some ⟨d, 0, none⟩) N c)) (hl : W.cell? ⟨g, 1, none⟩ = some (.bool logs)) (hN : IsPow N) (h0 : 0 ≤ a) (h1 : a ≤ 4294967295) (hn : n ≤ 4294967296) :
    Calls Try.prog 113 #[.pointer (some ⟨g, 0, none⟩), .int .u32 a, .int .i64 n] W fun e w' => e = .returned (.bool (!logs && decide (a % (N : Int) + n ≤ (N : Int)))) ∧ ∃ nq, w' = W.drewN nq := by
  obtain ⟨hp, h2⟩ := hN.bd
  have hP := hide_ (fun k : Nat => place_any g d N c a (W.drewN k) h hN h0 h1)
  obtain ⟨p, hpp⟩ : ∃ p, p = a % (N : Int) := ⟨_, rfl⟩
  rw [← hpp] at hP ⊢
  have p0 : 0 ≤ p := by rw [hpp]; exact Int.emod_nonneg _ (by omega)
  have p1 : p < N := by rw [hpp]; exact Int.emod_lt_of_pos _ (by omega)
  have s1 : IntKind.i64.wrap (p + (n : Int)) = p + (n : Int) := IntWalk.i64_in _ (by omega)
  clear hN hpp
  go_enter Try.func113, Try.ntmps113
  cases logs with
  | true =>
    go_wp2
    go_quiet (fail)
    go_wp2
    go_ret
    exact ⟨by simp, _, rfl⟩
  | false =>
    go_wp2
    go_quiet ((go_at_call 114; exact Calls.quiet_of_same (hP.out _)))
    go_wp2
    go_ret
    exact ⟨by simp, _, rfl⟩
theorem touch_info : (Try.prog.info? 73).map (fun i => (i.zero, i.size, i.bytes)) = some (some (.agg #[.int .u32 0, .bool false]), 2, 8) := by kernel_rfl
/-- the place of the k-th byte from an address on -/
def plc (N : Nat) (a : Int) (k : Nat) : Int := (a + k) % 4294967296 % (N : Int)
theorem plc_bd {N : Nat} (hN : IsPow N) (a : Int) (k : Nat) : 0 ≤ plc N a k ∧ plc N a k < N := by
  have := hN.bd
  unfold plc
  exact ⟨Int.emod_nonneg _ (by omega), Int.emod_lt_of_pos _ (by omega)⟩
def noted (logs wrt : Bool) (ts : List (Int × Bool)) (p : Int) : List (Int × Bool) := if logs && decide (ts.length < 65536) then ts ++ [(p, wrt)] else ts
def notes (N : Nat) (logs wrt : Bool) (a : Int) (ts : List (Int × Bool)) : Nat → List (Int × Bool)
  | 0 => ts
  | k + 1 => noted logs wrt (notes N logs wrt a ts k) (plc N a k)
end Go.Proofs.Ytgppbdcnpailaaa
