/-
  Numbers as text: strconv.FormatUint to the base 10 (lines of the kit's proof of FormatInt, turned to it); the document's unsigned.
-/
import Derived.Test.YtnkfjileaonemaaGreatDoorSgn
import Derived.Test.YtnkfjileaonemaaGreatDoorShN
import Derived.Test.YtnkfjileaonemaaGreatDoorREsc
namespace Go.Proofs.YtnkfjileaonemaaGreatDoor
open Go.RowKit Go.PlainAid Go.Shelf Go.Sort
set_option linter.unusedSimpArgs false
set_option linter.unusedVariables false
set_option maxRecDepth 100000
/-- a number in digits -/
def decT (n : Nat) : ByteArray := ⟨(Lib.decDigits n).toArray⟩
set_option maxHeartbeats 2000000 in
theorem inUint_any (u : Nat) (hu64 : u < 18446744073709551616) (w : World) (hT : TabOk w) :
    Calls Tryz.prog 84 #[.int .u64 u, .int .i64 10] w fun e w' => e = .returned (.string (decT u)) ∧ Below w.heap.size w w' := by
  unfold decT
  by_cases hs : u < 100
  · have hsi : (u : Int) < 100 := by omega
    go_enter Tryz.func84, Tryz.ntmps84
    go_wp2_with fail
    refine (Tryz.internal_strconv_small u hs _).mono ?_
    rintro e w' ⟨rfl, rfl⟩
    go_wp2
    go_ret
    exact ⟨rfl, Below.refl _ _⟩
  · have hu1 : 1 ≤ u := by omega
    have hsi : ¬ (u : Int) < 100 := by omega
    have hnd20 : Lib.nDigits u ≤ 20 := by have := Lib.numDigits_eq u hu1 hu64; split at this <;> omega
    have hal : Tryz.prog.arrayLen 130 = 24 := by kernel_rfl
    have hsl1 : ∀ W, (Instr.sliceAt 130 (.pointer (some ⟨w.heap.size, 0, none⟩)) none (some (.int .i64 (Lib.nDigits u : Int))) none).run Tryz.prog W = .ok (.slice (some ⟨w.heap.size, 0, none⟩) (Lib.nDigits u) 24) W := fun W => by
      rw [run_sliceAt_array_h W 130 ⟨w.heap.size, 0, none⟩ (by kernel_rfl) .i64 (Lib.nDigits u : Int) (by omega) (by rw [hal]; omega)]
      go_simp
    have hH0 := Lib.holds_zero0 w 130 (Lib.nDigits u) (by omega)
    have hfmt := Tryz.internal_strconv_formatBase10 w.heap.size 0 24 u (Array.replicate (Lib.nDigits u) 0) (w.alloc (.cells Lib.zeros24 130)) hH0 (by rw [Array.size_replicate]; exact Lib.lt_pow_nDigits u) hu64 (by rw [Array.size_replicate]; omega)
    rw [Array.size_replicate] at hfmt
    have HH0 := hide_ hH0
    have HT := hide_ hT
    have HF := hide_ hfmt
    clear hH0 hal hT hfmt
    go_enter Tryz.func84, Tryz.ntmps84
    go_wp2_with fail
    refine (Tryz.internal_strconv_numDigits u hu1 hu64 _ (Lib.tabIs_alloc HT.out _)).mono ?_
    rintro e w' ⟨rfl, rfl⟩
    go_wp2_with fail
    refine HF.out.mono ?_
    rintro e w' ⟨rfl, k, v', dk, rfl, hF⟩
    have hcv : (convert 23 9 (.slice (some ⟨w.heap.size, 0, none⟩) (Lib.nDigits u) 24)).run Tryz.prog ((putRow (fun (b : UInt8) => Value.int .u8 (b.toNat : Int)) (w.alloc (.cells Lib.zeros24 130)) w.heap.size 0 dk).drewN k) = .ok (.string ⟨(Lib.decDigits u).toArray⟩) ((putRow (fun (b : UInt8) => Value.int .u8 (b.toNat : Int)) (w.alloc (.cells Lib.zeros24 130)) w.heap.size 0 dk).drewN k) := by
      have h := run_convert_bytes_back (P := Tryz.prog) ((putRow (fun (b : UInt8) => Value.int .u8 (b.toNat : Int)) (w.alloc (.cells Lib.zeros24 130)) w.heap.size 0 dk).drewN k) 23 9 5 ⟨w.heap.size, 0, none⟩ 24 (Lib.decDigits u) Tryz.underlying23 Tryz.underlying5 Tryz.underlying9 (fun j hj => by
        rw [Lib.row_is_numeral hF j hj, Lib.add_plain, World.cell?_drewN]
        exact cell?_putRow (fun (b : UInt8) => Value.int .u8 (b.toNat : Int)) _ w.heap.size 0 _ dk HH0.out (by rw [hF.size, Array.size_replicate]) j (by rw [hF.size]; rw [Lib.decDigits_length] at hj; exact hj))
      rw [Lib.decDigits_length] at h
      exact h
    have HFIN := hide_ (Lib.fin_at w (.cells Lib.zeros24 130) dk k 0)
    clear hF
    go_wp2
    go_ret
    obtain ⟨os, eo⟩ := HFIN.out
    exact ⟨rfl, by rw [eo]; exact Lib.below_grow w.heap.size w (Nat.le_refl _) k os⟩
theorem Uint_any (u : Nat) (hu64 : u < 18446744073709551616) (w : World) (hT : TabOk w) :
    Calls Tryz.prog 72 #[.int .u64 u, .int .i64 10] w fun e w' => e = .returned (.string (decT u)) ∧ Below w.heap.size w w' := by
  have HU := hide_ (inUint_any u hu64 w hT)
  clear hT
  go_enter Tryz.func72, Tryz.ntmps72
  go_wp2_with fail
  refine HU.out.mono ?_
  rintro e w1 ⟨rfl, hb⟩
  have HB := hide_ hb
  clear hb
  go_wp2
  go_ret
  exact ⟨rfl, HB.out⟩
theorem decT_small {n : Nat} (h : n < 10) : decT n = ⟨#[UInt8.ofNat (48 + n)]⟩ := by
  unfold decT
  rw [Lib.decDigits_one h]
theorem decT_big {n : Nat} (h : ¬ n < 10) : decT n = decT (n / 10) ++ ⟨#[UInt8.ofNat (48 + n % 10)]⟩ := by
  unfold decT
  rw [Lib.decDigits, dif_neg h]
  apply ByteArray.ext
  simp
theorem decT_size (n : Nat) (h : n < 18446744073709551616) : (decT n).size ≤ 20 := by
  unfold decT
  rw [show (⟨(Lib.decDigits n).toArray⟩ : ByteArray).size = (Lib.decDigits n).length from by simp [ByteArray.size], Lib.decDigits_length]
  by_cases h0 : n = 0
  · subst h0; rw [Lib.nDigits_small (by omega)]; omega
  · have := Lib.numDigits_eq n (by omega) h; split at this <;> omega
theorem decT_ne (n : Nat) : decT n ≠ ⟨#[]⟩ := by
  intro h
  have h1 := congrArg ByteArray.size h
  unfold decT at h1
  rw [show (⟨(Lib.decDigits n).toArray⟩ : ByteArray).size = (Lib.decDigits n).length from by simp [ByteArray.size], Lib.decDigits_length] at h1
  have h2 : 0 < Lib.nDigits n := by
    by_cases h : n < 10
    · rw [Lib.nDigits_small h]; omega
    · rw [Lib.nDigits_big h]; omega
  have h3 : (⟨#[]⟩ : ByteArray).size = 0 := rfl
  omega
/-- a digit as text -/
def digB (n : Nat) : ByteArray := ⟨#[UInt8.ofNat (48 + n)]⟩
theorem digB_text (n : Nat) : textOf [48 + n] = digB n := by
  rfl
theorem dig_conv (n : Nat) (W : World) : (convert 23 9 (.slice (some ⟨W.heap.size, 0, none⟩) 1 1)).run Tryz.prog (W.alloc (.cells #[.int .u8 (48 + (n : Int))] 5)) = .ok (.string (digB n)) (W.alloc (.cells #[.int .u8 (48 + (n : Int))] 5)) := by
  have h1 := conv_new W [48 + n] 1
  rw [digB_text] at h1
  exact h1
set_option maxHeartbeats 2000000 in
theorem unsigned_any (u : Nat) (hu : u < 4294967296) (w : World) :
    Calls Tryz.prog 31 #[.int .u32 u] w fun e w' => e = .returned (.string (decT u)) ∧ Below w.heap.size w w' := by
  go_enter Tryz.func31, Tryz.ntmps31
  go_wp2
  go_loopw [0, 3] (fun a s wr => ∃ (x : Nat) (S : ByteArray), x ≤ u ∧ a = .int .u32 x ∧ s = .string S ∧ decT x ++ S = decT u ∧ Below w.heap.size w wr) (fun a _ _ => (intOf a).toNat)
  case atStart => exact ⟨u, ⟨#[]⟩, Nat.le_refl _, rfl, rfl, by apply ByteArray.ext; simp, Below.refl _ _⟩
  case round =>
    obtain ⟨x, S, hx, rfl, rfl, hS, hb⟩ := hrel
    have HS := hide_ hS
    have HB := hide_ hb
    have HSZ := hide_ hb.size
    have hS1 : S.size ≤ 20 := by
      have h1 := congrArg ByteArray.size hS
      rw [ByteArray.size_append] at h1
      have := decT_size u (by omega)
      omega
    clear hS hb
    by_cases h : x < 10
    · have hd : digB x ++ S = decT u := by rw [← HS.out, decT_small h]; rfl
      have HD := hide_ hd
      have p1 : IntKind.u32.wrap (48 + (x : Int)) = 48 + (x : Int) := IntWalk.u32_in _ (by omega)
      have p2 : IntKind.u8.wrap (48 + (x : Int)) = 48 + (x : Int) := IntWalk.u8_in _ (by omega)
      have hcv := dig_conv x wr
      have hsz : ¬ (9223372036854775807 : Int) < ((digB x).size : Int) + (S.size : Int) := by
        have : (digB x).size = 1 := rfl
        omega
      obtain ⟨dg, hdg⟩ : ∃ d, d = digB x := ⟨_, rfl⟩
      rw [← hdg] at HD hcv hsz
      clear hd hdg hS1
      go_wp2
      go_ret
      exact ⟨by rw [HD.out]; rfl, HB.out.alloc HSZ.out _⟩
    · obtain ⟨d, hd⟩ : ∃ d, d = x % 10 := ⟨_, rfl⟩
      obtain ⟨q, hq⟩ : ∃ q, q = x / 10 := ⟨_, rfl⟩
      have hd9 : d ≤ 9 := by omega
      have HN := hide_ (show decT q ++ (digB d ++ S) = decT u by
        rw [← HS.out, decT_big h, ← hd, ← hq]
        apply ByteArray.ext
        simp [digB])
      have t1 : (x : Int).tmod 10 = (d : Int) := by rw [Int.tmod_eq_emod_of_nonneg (by omega)]; omega
      have t2 : (x : Int).tdiv 10 = (q : Int) := by rw [Int.tdiv_eq_ediv_of_nonneg (by omega)]; omega
      have t3 : (x : Int) % 10 = (d : Int) := by omega
      have t4 : (x : Int) / 10 = (q : Int) := by omega
      have hqx : q < x := by omega
      have hqu : q ≤ u := by omega
      have p1 : IntKind.u32.wrap (48 + (d : Int)) = 48 + (d : Int) := IntWalk.u32_in _ (by omega)
      have p2 : IntKind.u8.wrap (48 + (d : Int)) = 48 + (d : Int) := IntWalk.u8_in _ (by omega)
      have hcv := dig_conv d wr
      have hsz : ¬ (9223372036854775807 : Int) < ((digB d).size : Int) + (S.size : Int) := by
        have : (digB d).size = 1 := rfl
        omega
      obtain ⟨dg, hdg⟩ : ∃ d', d' = digB d := ⟨_, rfl⟩
      rw [← hdg] at HN hcv hsz
      clear hd hq hdg hS1
      go_wp2
      go_roundw
      case rel => exact ⟨q, dg ++ S, hqu, by go_num, rfl, HN.out, HB.out.alloc HSZ.out _⟩
      case measure => simp [intOf]; omega
end Go.Proofs.YtnkfjileaonemaaGreatDoor
