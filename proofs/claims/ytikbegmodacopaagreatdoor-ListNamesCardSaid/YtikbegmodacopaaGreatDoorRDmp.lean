/-
  The document's rows of bytes: one, Walk, Size, row, Dump.
-/
import Derived.Test.YtikbegmodacopaaGreatDoorB27
namespace Go.Proofs.YtikbegmodacopaaGreatDoor
open Go.RowKit Go.PlainAid Go.Shelf Go.BigFrame
set_option linter.unusedSimpArgs false
set_option linter.unusedVariables false
set_option maxRecDepth 100000
theorem rdig16 (least x : Nat) (lz : Int) (hlz : lz = (least : Int)) (h1 : 1 ≤ least) (h8 : least ≤ 8) (hx : x < 4294967296) (w : World) :
    Calls Tryz.prog 80 #[.int .i64 x, .int .i64 16, .int .i64 lz] w fun e w' => e = .returned (.string (xdS least x)) ∧ Below w.heap.size w w' := by
  have := rdigits_any 16 least x 16 lz (.inr ⟨rfl, rfl⟩) hlz hx h8 w
  rw [dgW_xdS least x h1] at this
  exact this
theorem cutB_snoc {b : List Int} {i m k : Nat} (h : i + m ≤ b.length) (hk : k < m) : (cutB b i m).take (k + 1) = (cutB b i m).take k ++ [bA b (i + k)] := by
  have hl := cutB_len b i m h
  rw [take_snoc _ 0 k (by omega)]
  congr 2
  unfold cutB bA
  rw [List.getElem?_take_of_lt hk, List.getElem?_drop]
/-- where a row stands while it is made -/
structure RowK (b : List Int) (i m k : Nat) (S : ByteArray) : Prop where
  eq : S = xdS 6 i ++ ⟨#[32]⟩ ++ prB ((cutB b i m).take k)
  sz : S.size = 7 + 3 * k
set_option maxHeartbeats 4000000 in
theorem rrow_any (A : Option Addr) (n c i m : Nat) (b : List Int) (what : ByteArray) (w : World) (hr : Reads w w.heap.size 1 A n (u8s b)) (hn : n ≤ 65536) (hb : isBytes b) (hi : i + m ≤ n) (hm : m ≤ 8) (hw : what.size ≤ 30) :
    Calls Tryz.prog 63 #[.slice A n c, .int .i64 i, .int .i64 m, .string what] w fun e w' => e = .returned (.string (rowS i (cutB b i m) what)) ∧ Below w.heap.size w w' := by
  have la : b.length = n := by simpa using hr.1
  have HD6 := hide_ (fun W => rdig16 6 i 6 rfl (by omega) (by omega) (by omega) W)
  have HD2 := hide_ (fun (x : Nat) W (h : x < 256) => rdig16 2 x 2 rfl (by omega) (by omega) (by omega) W)
  have H0 := hide_ (show RowK b i m 0 (xdS 6 i ++ ⟨#[32]⟩) by
    refine ⟨?_, ?_⟩
    · apply ByteArray.ext; simp [prB, catL]
    · rw [ByteArray.size_append, xdS_size 6 i (by omega) (by omega)]
      rfl)
  have HS6 := hide_ (xdS_size 6 i (by omega) (by omega))
  have HNX := hide_ (fun (k : Nat) (S : ByteArray) (x : Nat) (hk : k < m) (hx : bA b (i + k) = (x : Int)) (h : RowK b i m k S) => show RowK b i m (k + 1) (S ++ ⟨#[32]⟩ ++ xdS 2 x) by
    obtain ⟨h1, h2⟩ := h
    have h3 := bA_byte hb (i + k)
    refine ⟨?_, ?_⟩
    · rw [cutB_snoc (by omega) hk, prB_snoc, hx, h1]
      apply ByteArray.ext
      simp
    · rw [ByteArray.size_append, ByteArray.size_append, h2, xdS_size 2 x (by omega) (by omega)]
      show _ + 1 + 2 = _
      omega)
  have HEND := hide_ (fun (S : ByteArray) (h : RowK b i m m S) => show S = rowH i (cutB b i m) ∧ S.size = 7 + 3 * m by
    obtain ⟨h1, h2⟩ := h
    rw [List.take_of_length_le (by rw [cutB_len b i m (by omega)]; exact Nat.le_refl _)] at h1
    exact ⟨h1, h2⟩)
  have HBY := hide_ (fun k => bA_byte hb k)
  have HL := hide_ la
  have HR := hide_ hr
  clear la hr hb
  have h6a : ¬ (9223372036854775807 : Int) < ((xdS 6 i).size : Int) + 1 := by rw [HS6.out]; omega
  have h6b : ¬ 9223372036854775807 < (xdS 6 i).size + 1 := by rw [HS6.out]; omega
  obtain ⟨d6, hd6⟩ : ∃ d, d = xdS 6 i := ⟨_, rfl⟩
  rw [← hd6] at HD6 H0 h6a h6b
  clear hd6 HS6
  go_enter Tryz.func63, Tryz.ntmps63
  go_wp2_with fail
  refine (HD6.out _).mono ?_
  rintro e w1 ⟨rfl, hb1⟩
  have HB1 := hide_ hb1
  clear hb1
  go_wp2
  go_loopw [9, 10] (fun s kx wr => ∃ (k : Nat) (S : ByteArray), k ≤ m ∧ kx = .int .i64 k ∧ s = .string S ∧ Hid (RowK b i m k S) ∧ Hid (Below w.heap.size w wr)) (fun _ kx _ => m - (intOf kx).toNat)
  case atStart => exact ⟨0, _, Nat.zero_le _, rfl, rfl, H0, HB1⟩
  case round =>
    obtain ⟨k, S, hk, rfl, rfl, HK, HB⟩ := hrel
    have hsz := HK.out.sz
    by_cases hlt : k < m
    · obtain ⟨ad, u, rfl, hadb, hu, hc⟩ := (HR.out.below HB.out).at_ (show i + k < n by omega)
      obtain rfl := u8s_at (by rw [HL.out]; omega) hu
      obtain ⟨g0, g1⟩ := HBY.out (i + k)
      obtain ⟨x, hx⟩ : ∃ x : Nat, bA b (i + k) = (x : Int) := ⟨(bA b (i + k)).toNat, by omega⟩
      have NEXT := hide_ (HNX.out k S x hlt hx HK.out)
      have hsz2 := NEXT.out.sz
      have D2 := hide_ (fun W => HD2.out x W (by omega))
      rw [hx] at hc g1
      have s1 : IntKind.i64.wrap ((i : Int) + (k : Int)) = (i : Int) + (k : Int) := IntWalk.i64_in _ (by omega)
      have s2 : (0 : Int) ≤ (i : Int) + (k : Int) := by omega
      have s3 : ((i : Int) + (k : Int)).toNat = i + k := by omega
      have s4 : (i : Int) + (k : Int) < (n : Int) := by omega
      have s5 : IntKind.i64.wrap (x : Int) = (x : Int) := IntWalk.i64_in _ (by omega)
      have a1 : ¬ (9223372036854775807 : Int) < (S.size : Int) + 1 := by omega
      have a2 : ¬ 9223372036854775807 < S.size + 1 := by omega
      rw [ByteArray.size_append, ByteArray.size_append] at hsz2
      have a0 : (⟨#[32]⟩ : ByteArray).size = 1 := rfl
      rw [a0] at hsz2
      have a3 : ¬ (9223372036854775807 : Int) < (S.size : Int) + 1 + ((xdS 2 x).size : Int) := by omega
      have a4 : ¬ 9223372036854775807 < S.size + 1 + (xdS 2 x).size := by omega
      obtain ⟨t2, ht2⟩ : ∃ t, t = xdS 2 x := ⟨_, rfl⟩
      rw [← ht2] at D2 NEXT a3 a4
      clear hx hu ht2 hsz hsz2 hadb HK g0
      go_wp2_with fail
      refine (D2.out _).mono ?_
      rintro e w2 ⟨rfl, hb2⟩
      have HB2 := hide_ (HB.out.trans (hb2.mono HB.out.size))
      clear hb2
      go_wp2
      go_roundw
      case rel => exact ⟨k + 1, _, by omega, by go_num, rfl, NEXT, HB2⟩
      case measure => simp [intOf]; omega
    · obtain rfl : k = m := by omega
      obtain ⟨e1, e2⟩ := HEND.out S HK.out
      have HE := hide_ e1
      clear e1 HK
      by_cases h0 : what.size = 0
      · obtain rfl : what = ⟨#[]⟩ := by
          apply ByteArray.ext
          exact Array.eq_empty_of_size_eq_zero h0
        have a2 : ¬ (9223372036854775807 : Int) < (S.size : Int) + 0 := by omega
        have a3 : ¬ (9223372036854775807 : Int) < (S.size : Int) + 1 := by omega
        have a4 : ¬ 9223372036854775807 < S.size + 1 := by omega
        have FIN := hide_ (show S ++ ⟨#[]⟩ ++ ⟨#[10]⟩ = rowS i (cutB b i k) ⟨#[]⟩ by
          unfold rowS
          rw [← HE.out, if_pos h0]
          rfl)
        go_wp2
        go_ret
        exact ⟨by rw [← FIN.out]; rfl, HB.out⟩
      · have hemp : what.toList.isEmpty = false := by
          rw [ByteArray.toList_eq]
          cases h : what.data.toList with
          | nil => exact absurd (by show what.data.size = 0; rw [← Array.length_toList, h]; rfl) h0
          | cons x t => rfl
        obtain ⟨q, hq⟩ : ∃ q, q = 24 - S.size := ⟨_, rfl⟩
        have FIN := hide_ (show S ++ blT q ++ what ++ ⟨#[10]⟩ = rowS i (cutB b i k) what by
          unfold rowS
          rw [← HE.out, if_neg h0, ← hq]
          apply ByteArray.ext
          simp)
        obtain ⟨RR, hRR⟩ : ∃ R, R = rowS i (cutB b i k) what := ⟨_, rfl⟩
        rw [← hRR] at FIN
        have HRR := hide_ hRR
        have HQ := hide_ hq
        have H00 := hide_ (show S = S ++ blT 0 by apply ByteArray.ext; simp [blT])
        clear hRR hq HE h0
        go_wp2
        go_loopw [9] (fun s wr => ∃ (j : Nat) (U : ByteArray), j ≤ q ∧ s = .string U ∧ Hid (U = S ++ blT j) ∧ Hid (Below w.heap.size w wr)) (fun s _ => 24 - (match s with | .string U => U.size | _ => 0))
        case atStart => exact ⟨0, S, Nat.zero_le _, rfl, H00, HB⟩
        case round =>
          obtain ⟨j, U, hj, rfl, HU, HB⟩ := hrel
          have hU : U.size = S.size + j := by rw [HU.out, ByteArray.size_append, blT_size]
          by_cases hlt : j < q
          · have hq := HQ.out
            have c1 : decide ((U.size : Int) < 24) = true := decide_eq_true (by omega)
            have c2 : decide (U.size < 24) = true := decide_eq_true (by omega)
            have a1 : ¬ (9223372036854775807 : Int) < (U.size : Int) + 1 := by omega
            have a2 : ¬ 9223372036854775807 < U.size + 1 := by omega
            have NX := hide_ (show U ++ ⟨#[32]⟩ = S ++ blT (j + 1) by
              rw [HU.out]
              apply ByteArray.ext
              simp [blT, Array.replicate_succ])
            have NM := hide_ (show 24 - (U ++ ⟨#[32]⟩).size < 24 - U.size by rw [ByteArray.size_append]; show 24 - (_ + 1) < _; omega)
            clear hU hq HU
            go_wp2
            go_roundw
            case rel => exact ⟨j + 1, _, by omega, rfl, NX, HB⟩
            case measure => exact NM.out
          · obtain rfl : j = q := by omega
            have hq := HQ.out
            have c1 : decide ((U.size : Int) < 24) = false := decide_eq_false (by omega)
            have c2 : decide (U.size < 24) = false := decide_eq_false (by omega)
            have a1 : ¬ (9223372036854775807 : Int) < (U.size : Int) + (what.size : Int) := by omega
            have a2 : ¬ 9223372036854775807 < U.size + what.size := by omega
            have a3 : ¬ (9223372036854775807 : Int) < (U.size : Int) + (what.size : Int) + 1 := by omega
            have a4 : ¬ 9223372036854775807 < U.size + what.size + 1 := by omega
            have FIN := hide_ (show U ++ what ++ ⟨#[10]⟩ = rowS i (cutB b i k) what by rw [HU.out, FIN.out, HRR.out])
            clear hU hq HU HQ
            go_wp2
            go_ret
            exact ⟨by rw [← FIN.out]; rfl, HB.out⟩
end Go.Proofs.YtikbegmodacopaaGreatDoor
