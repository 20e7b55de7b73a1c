/-
  A word's number with a sign: figure.Signed, the document's Signed.
-/
import Derived.Test.YtnkfjileaonemaaGreatDoorDcmD
import Derived.Lib.LaidTab
import Derived.Lib.AppendIntMem
namespace Go.Proofs.YtnkfjileaonemaaGreatDoor
open Go.RowKit Go.PlainAid Go.BigFrame Go.Shelf Go.Lib
set_option linter.unusedSimpArgs false
set_option linter.unusedVariables false
/-- the library's table of powers of ten stands -/
def TabOk (w : World) : Prop := Lib.TabIs Tryz.prog w "internal/strconv.uint64pow10" .u64 Lib.pow10Tab
theorem TabOk.below {w w' : World} (h : TabOk w) (hb : Below w.heap.size w w') : TabOk w' := by
  unfold TabOk Lib.TabIs World.var? at h ⊢
  cases hg : Tryz.prog.globalNamed "internal/strconv.uint64pow10" with
  | none => rw [hg] at h; exact absurd h (by simp)
  | some g =>
    rw [hg] at h
    simp only [Option.bind_some] at h ⊢
    have hlt : g < w.heap.size := by
      rcases Nat.lt_or_ge g w.heap.size with h1 | h1
      · exact h1
      · rw [Array.getElem?_eq_none h1] at h
        exact absurd h (by simp)
    rw [hb.block g hlt]
    exact h
/-- the number of a word -/
def sv (x : Int) : Int := if 2147483648 ≤ x then x - 4294967296 else x
def sgnT (x : Int) : ByteArray := ⟨(Lib.itoa (sv x)).toArray⟩
theorem sgnT_neg {x : Int} (h : 2147483648 ≤ x) (h1 : x < 4294967296) : sgnT x = ⟨#[45]⟩ ++ ⟨(Lib.decDigits (4294967296 - x).toNat).toArray⟩ := by
  unfold sgnT sv
  rw [if_pos h, show x - 4294967296 = -(((4294967296 - x).toNat : Nat) : Int) by omega, Lib.itoa_neg _ (by omega)]
  apply ByteArray.ext
  simp
theorem sgnT_pos {x : Int} (h0 : 0 ≤ x) (h : ¬ 2147483648 ≤ x) : sgnT x = ⟨(Lib.decDigits x.toNat).toArray⟩ := by
  unfold sgnT sv
  rw [if_neg h, show Lib.itoa x = Lib.itoa ((x.toNat : Nat) : Int) by rw [Int.toNat_of_nonneg h0], Lib.itoa_nonneg]
theorem i32_sv {x : Int} (h0 : 0 ≤ x) (h1 : x < 4294967296) : IntKind.i32.wrap x = sv x := by
  unfold sv IntKind.wrap
  simp [IntKind.bits, IntKind.signed]
  split <;> omega
set_option maxHeartbeats 1000000 in
theorem Signed_any (x : Int) (h0 : 0 ≤ x) (h1 : x < 4294967296) (w : World) (hT : TabOk w) : Calls Tryz.prog 67 #[.int .u32 x] w fun e w' => e = .returned (.string (sgnT x)) ∧ Below w.heap.size w w' := by
  have hw := i32_sv h0 h1
  have hb : -2147483648 ≤ sv x ∧ sv x ≤ 2147483647 := by unfold sv; split <;> omega
  obtain ⟨b0, b1⟩ := hb
  unfold sgnT
  obtain ⟨y, hy⟩ : ∃ y, y = sv x := ⟨_, rfl⟩
  rw [← hy] at hw b0 b1 ⊢
  have HT := hide_ hT
  clear hT hy
  go_enter Tryz.func67, Tryz.ntmps67
  go_wp2_with fail
  refine (Tryz.strconv_Itoa y (by omega) (by omega) _ HT.out).mono ?_
  rintro e w1 ⟨rfl, k, os, rfl⟩
  have HB := hide_ (below_grow w.heap.size w (Nat.le_refl _) k os)
  go_wp2
  go_ret
  exact ⟨rfl, HB.out⟩
set_option maxHeartbeats 1000000 in
theorem rSigned_any (x : Int) (h0 : 0 ≤ x) (h1 : x < 4294967296) (w : World) : Calls Tryz.prog 59 #[.int .u32 x] w fun e w' => e = .returned (.string (sgnT x)) ∧ Below w.heap.size w w' := by
  by_cases h : 2147483648 ≤ x
  · have d1 : decide (2147483648 ≤ x) = true := decide_eq_true h
    rw [sgnT_neg h h1]
    obtain ⟨n, hn⟩ : ∃ n : Nat, n = (4294967296 - x).toNat := ⟨_, rfl⟩
    have hx : 4294967296 - x = (n : Int) := by omega
    have hn2 : n < 4294967296 := by omega
    have hlen : 1 + (decDigits n).length ≤ 9223372036854775807 := by
      have h1 := d0_len n
      have h2 : n ≠ 0 := by omega
      unfold d0 dcm at h1
      rw [if_neg h2, List.length_map] at h1
      omega
    rw [← hn]
    clear hn
    have HX := hide_ hx
    clear hx
    go_enter Tryz.func59, Tryz.ntmps59
    go_wp2_with fail
    rw [HX.out]
    refine (nat_any n hn2 _).mono ?_
    rintro e w1 ⟨A, rfl, hr, hb⟩
    have HB := hide_ hb
    have HR := hide_ hr
    clear hb hr
    go_wp2_with fail
    refine (decimal_any A 2 n hn2 _ HR.out).mono ?_
    rintro e w2 ⟨rfl, hb2⟩
    have HB2 := hide_ (HB.out.trans (hb2.mono HB.out.size))
    clear hb2
    go_wp2
    go_ret
    exact ⟨rfl, HB2.out⟩
  · have d1 : decide (2147483648 ≤ x) = false := decide_eq_false h
    rw [sgnT_pos h0 h]
    obtain ⟨n, hn⟩ : ∃ n : Nat, n = x.toNat := ⟨_, rfl⟩
    have hx : x = (n : Int) := by omega
    subst hx
    have hn2 : n < 4294967296 := by omega
    rw [← hn]
    clear hn
    go_enter Tryz.func59, Tryz.ntmps59
    go_wp2_with fail
    refine (nat_any n hn2 _).mono ?_
    rintro e w1 ⟨A, rfl, hr, hb⟩
    have HB := hide_ hb
    have HR := hide_ hr
    clear hb hr
    go_wp2_with fail
    refine (decimal_any A 2 n hn2 _ HR.out).mono ?_
    rintro e w2 ⟨rfl, hb2⟩
    have HB2 := hide_ (HB.out.trans (hb2.mono HB.out.size))
    clear hb2
    go_wp2
    go_ret
    exact ⟨rfl, HB2.out⟩
end Go.Proofs.YtnkfjileaonemaaGreatDoor
