/-
  The walks of gate.Number and of the statements that need no more: LinkNames, GateNumber, GateTurn.
-/
import Derived.Test.YtgppbdcnpailaaaProg
import Derived.WalkKit
import Derived.WalkSpells
import Derived.WalkLawsBesides
namespace Go.Proofs.Ytgppbdcnpailaaa
open Go.RowKit

theorem not_u32_nat (b : Nat) (hb : b < 2 ^ 32) : (2 ^ 32 - 1) ^^^ b = 2 ^ 32 - 1 - b := by
  apply Nat.eq_of_testBit_eq
  intro i
  rw [Nat.testBit_xor, Nat.testBit_two_pow_sub_one, show 2 ^ 32 - 1 - b = 2 ^ 32 - (b + 1) by omega, Nat.testBit_two_pow_sub_succ hb]
  by_cases hi : i < 32
  · simp [hi]
  · have : b.testBit i = false := Nat.testBit_lt_two_pow (Nat.lt_of_lt_of_le hb (Nat.pow_le_pow_right (by decide) (by omega)))
    simp [hi, this]

theorem not_u32 (a : Int) (h0 : 0 ≤ a) (h1 : a ≤ 4294967295) : bits .xor .u32 IntKind.u32.max a = 4294967295 - a := by
  obtain ⟨n, rfl⟩ := Int.eq_ofNat_of_zero_le h0
  have e : IntKind.u32.max = ((4294967295 : Nat) : Int) := rfl
  rw [e, u32_xor_nat _ _ (by omega) (by omega)]
  have := not_u32_nat n (by omega)
  simp only [Nat.reducePow, Nat.reduceSub] at this
  rw [this]
  omega

theorem u32_bd {a : Int} (w : (Lit.int .u32 a).wf = true) : 0 ≤ a ∧ a ≤ 4294967295 := by
  simpa [Lit.wf, IntKind.min, IntKind.max, IntKind.signed, IntKind.bits] using w

theorem LinkNames_walk (w : World) : Calls Try.prog 3 #[] w fun e w' => e = .returned (.bool true) ∧ Below w.heap.size w w' := by
  go_enter Try.func3, Try.ntmps3
  go_wp2
  go_ret
  exact ⟨rfl, Below.refl _ _⟩

theorem Number_lo (a : Int) (w : World) (h0 : 0 ≤ a) (h1 : a < 2147483648) : Calls Try.prog 20 #[.int .u32 a] w fun e w' => e = .returned (.tuple #[.int .u32 0, .bool false]) ∧ w = w' := by
  have hw : wrap32 a = a := by unfold wrap32; omega
  go_enter Try.func20, Try.ntmps20
  go_wp2
  go_ret2
  exact ⟨rfl, rfl⟩
theorem Number_hi (a : Int) (w : World) (h0 : 2147483648 ≤ a) (h1 : a ≤ 4294967295) : Calls Try.prog 20 #[.int .u32 a] w fun e w' => e = .returned (.tuple #[.int .u32 (4294967295 - a), .bool true]) ∧ w = w' := by
  have hw : wrap32 a = a - 4294967296 := by unfold wrap32; omega
  have hx := not_u32 a (by omega) h1
  go_enter Try.func20, Try.ntmps20
  go_wp2
  go_ret2
  exact ⟨rfl, rfl⟩

theorem GateNumber_walk (a : Int) (w : World) (wf : (Lit.int .u32 a).wf = true) : Calls Try.prog 4 #[.int .u32 a] w fun e w' => e = .returned (.bool true) ∧ Below w.heap.size w w' := by
  obtain ⟨b1, b2⟩ := u32_bd wf
  by_cases h : a < 2147483648
  · go_enter Try.func4, Try.ntmps4
    go_wp2_with (first | (go_at_call 20; refine (Number_lo _ _ b1 h).mono ?_; rintro e w' ⟨rfl, rfl⟩) | go_in)
    go_ret
    exact ⟨rfl, Below.refl _ _⟩
  · have h' : 2147483648 ≤ a := by omega
    go_enter Try.func4, Try.ntmps4
    go_wp2_with (first | (go_at_call 20; refine (Number_hi _ _ h' b2).mono ?_; rintro e w' ⟨rfl, rfl⟩) | go_in)
    go_ret
    exact ⟨rfl, Below.refl _ _⟩

theorem GateTurn_walk (a : Int) (w : World) (wf : (Lit.int .u32 a).wf = true) : Calls Try.prog 5 #[.int .u32 a] w fun e w' => e = .returned (.bool true) ∧ Below w.heap.size w w' := by
  obtain ⟨b1, b2⟩ := u32_bd wf
  by_cases h : a < 2147483648
  · have hw : wrap32 a = a := by unfold wrap32; omega
    go_enter Try.func5, Try.ntmps5
    go_wp2_with fail
    refine (Number_lo _ _ b1 h).mono ?_
    rintro e w' ⟨rfl, rfl⟩
    go_wp2_with fail
    refine (Number_hi _ _ (by omega) (by omega)).mono ?_
    rintro e w' ⟨rfl, rfl⟩
    go_wp2
    go_ret
    exact ⟨rfl, Below.refl _ _⟩
  · have hw : wrap32 a = a - 4294967296 := by unfold wrap32; omega
    have h' : 2147483648 ≤ a := by omega
    go_enter Try.func5, Try.ntmps5
    go_wp2_with fail
    refine (Number_hi _ _ h' b2).mono ?_
    rintro e w' ⟨rfl, rfl⟩
    go_wp2_with fail
    refine (Number_hi _ _ (by omega) (by omega)).mono ?_
    rintro e w' ⟨rfl, rfl⟩
    have ht : (a - 4294967296 == -1 - (4294967295 - a)) = true := by rw [beq_iff_eq]; omega
    have ht' : (4294967295 - (4294967295 - (4294967295 - a)) == 4294967295 - a) = true := by rw [beq_iff_eq]; omega
    have hd : decide (a - 4294967296 < 0) = true := by simp; omega
    go_wp2
    all_goals go_ret
    exact ⟨rfl, Below.refl _ _⟩
end Go.Proofs.Ytgppbdcnpailaaa
