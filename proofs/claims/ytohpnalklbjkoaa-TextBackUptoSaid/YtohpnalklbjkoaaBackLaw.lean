/-
  The walk of the statement TextBack.
-/
import Derived.Test.YtohpnalklbjkoaaBackP
import Derived.Test.YtohpnalklbjkoaaBytesW
import Derived.Test.YtohpnalklbjkoaaShowLaw
namespace Go.Proofs.Ytohpnalklbjkoaa
open Go.RowKit Go.PlainAid

set_option maxRecDepth 100000 in
set_option maxHeartbeats 1000000 in
theorem TextBack_walk (A : Option Addr) (n c : Nat) (xs : List Int) (w : World) (ha : Reads w w.heap.size 1 A n (u8s xs)) (hwf : ∀ x ∈ xs, (Lit.int .u8 x).wf = true) (hnc : n ≤ c) (hc : c ≤ 1048576) :
    Calls Try.prog 13 #[.slice A n c] w fun e w' => e = .returned (.bool true) ∧ Below w.heap.size w w' := by
  have hx := wf_byte hwf
  have la : xs.length = n := by simpa using ha.1
  obtain ⟨S, hS⟩ : ∃ S, S = strOfNums (showL xs) := ⟨_, rfl⟩
  have hsz : S.size = (showL xs).length := by rw [hS, strOfNums_size]
  have hle := showM_len xs
  have hge := showM_ge xs
  have hll : (showL xs).length = (showM xs).length + 1 := by simp [showL]
  have hby := bytes_show xs hx
  rw [← hS] at hby
  have hpr : ∀ k, k < S.size → 32 ≤ bt S k ∧ bt S k ≤ 126 := by
    intro k hk
    have h1 := (strOf_has (showL xs) (showL_byte xs hx)).2 k (by rw [← hsz]; exact hk)
    rw [← hS, Nat.zero_add, ← bt_eq S k hk, List.getElem?_eq_getElem (by rw [← hsz]; exact hk), Option.getD_some] at h1
    rw [h1]
    exact show_print xs hx _ (List.getElem_mem _)
  have h2 : n + 2 ≤ S.size := by omega
  have h3 : S.size ≤ 4194400 := by omega
  have HP := hide_ hpr
  have HBY := hide_ hby
  have HLA := hide_ la
  clear hpr hby la hsz hle hge hll
  go_enter Try.func13, Try.ntmps13
  go_wp2_with (go_at_call 19; refine (tShow_any A n c xs w.heap.size w ha (Nat.le_refl _) (by omega) hx).mono ?_)
  rintro e w1 ⟨rfl, hb1⟩
  rw [← hS]
  clear hS
  go_wp2
  go_loopw [4] (fun i wr => ∃ k : Nat, k ≤ S.size ∧ i = .int .i64 k ∧ wr = w1) (fun i _ => S.size - (intOf i).toNat)
  case atStart => exact ⟨0, Nat.zero_le _, rfl, rfl⟩
  case round =>
    obtain ⟨k, hk, rfl, rfl⟩ := hrel
    by_cases hlt : k < S.size
    · have hbt := get_bt S
      obtain ⟨p1, p2⟩ := HP.out k hlt
      have d1 : decide (bt S k < 32) = false := by simp; omega
      have d2 : decide (126 < bt S k) = false := by simp; omega
      clear p1 p2
      go_wp2
      go_roundw
      case rel => exact ⟨k + 1, by omega, by go_num, by trivial⟩
      case measure => simp [intOf]; omega
    · obtain rfl : k = S.size := by omega
      have hcall := fun W => tbytes_any S W (by omega)
      simp only [HBY.out] at hcall
      have HCALL := hide_ hcall
      clear hcall
      go_wp2_with (go_at_call 26; refine (HCALL.out _).mono ?_)
      rintro e w2 ⟨v, rfl, hown, hb2⟩
      simp only [Option.getD_some] at hown
      obtain ⟨A1, c1, rfl, hc1, hc2⟩ := ownsRow_slice hown
      have hr := Reads.of_own hown
      have hB2 : Below w.heap.size w w2 := hb1.trans (hb2.mono hb1.size)
      have ha2 := (ha.below hB2).more hB2.size
      go_wp2_with (go_at_call 27; refine (SameBytes_any _ _ _ _ n c xs xs w2.heap.size w2 hr ha2 (by rw [HLA.out]; unfold maxLen; omega) (by unfold maxLen; omega)).mono ?_; rintro e w3 ⟨rfl, nq, rfl⟩)
      go_ret
      exact ⟨by simp, ⟨hB2.os, hB2.tape, hB2.output, hB2.size, hB2.block⟩⟩
end Go.Proofs.Ytohpnalklbjkoaa
