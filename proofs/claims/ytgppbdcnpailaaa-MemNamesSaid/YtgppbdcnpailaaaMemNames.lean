/-
  The walk of the statement MemNames.
-/
import Derived.Test.YtgppbdcnpailaaaLog
namespace Go.Proofs.Ytgppbdcnpailaaa
open Go.RowKit

def nm0 : List Int := seedXs [] 256
def nm1 : List Int := puts 256 2 (readN 256 0 nm0 4) nm0 4
theorem nm_words : wordAt 256 2 nm1 4 = 50462976 ∧ wordAt 256 4 nm1 4 = 117834498 := by decide +kernel
theorem nm_notes : notes 256 true true 7 (notes 256 true false 255 [] 2) 1 = [(255, false), (0, false), (7, true)] := by decide +kernel
theorem nm_and : bits .and .i64 300 299 = 296 := by decide +kernel
theorem Read_neg {W : World} {B g d N c : Nat} {logs : Bool} {tv : Value} {ts : List (Int × Bool)} {xs : List Int} {ex : List Ro} (a n : Int) (hn : n < 0) (hO : Owns W B (memRows g d N c logs tv ts xs ++ ex)) (hN : IsPow N) :
    Calls Try.prog 43 #[.pointer (some ⟨g, 0, none⟩), .int .u32 a, .int .i64 n] W fun e W' => e = .returned (.tuple #[.slice none 0 0, .int .i64 92]) ∧ W' = W := by
  have hm := hide_ (made_any g d N c W (hO.cell (i := 0) rfl rfl) hN.bd.1)
  have d2 : decide (n < 0) = true := by simp; omega
  clear hO hn
  go_enter Try.func43, Try.ntmps43
  go_wp2_with (go_at_call 76; refine hm.out.mono ?_; rintro e w' ⟨rfl, rfl⟩)
  go_ret2
  exact ⟨rfl, rfl⟩
theorem From_300 (A : Option Addr) (c : Nat) (W : World) : Calls Try.prog 30 #[.slice A 300 c] W fun e W' => e = .returned (.tuple #[.pointer none, .int .i64 91]) ∧ W' = W := by
  have h := nm_and
  go_enter Try.func30, Try.ntmps30
  go_wp2
  go_ret2
  exact ⟨rfl, rfl⟩
theorem New_17 (W : World) : Calls Try.prog 47 #[.int .i64 17] W fun e W' => e = .returned (.tuple #[.pointer none, .int .i64 90]) ∧ W' = W := by
  go_enter Try.func47, Try.ntmps47
  go_wp2
  go_ret2
  exact ⟨rfl, rfl⟩
set_option maxRecDepth 100000 in
set_option maxHeartbeats 1000000 in
theorem MemNames_walk (w : World) : Calls Try.prog 10 #[] w fun e w' => e = .returned (.bool true) ∧ Below w.heap.size w w' := by
  obtain ⟨i0, hi0, hz0, hz1, hz2⟩ := info_parts Try.info_u8
  obtain ⟨e1, e2⟩ := nm_words
  have HE := hide_ (show wordAt 256 2 nm1 4 = 50462976 ∧ wordAt 256 4 nm1 4 = 117834498 from ⟨e1, e2⟩)
  have hseg : IsSeg 256 := ⟨8, by omega, by omega, rfl⟩
  have ha := hide_ (awake_any w)
  clear e1 e2
  go_enter Try.func10, Try.ntmps10
  go_wp2_with fail
  refine ha.out.mono ?_
  rintro e w1 ⟨rfl, hb1⟩
  have h2 := hide_ (made_seg 0 0 (by decide) none 0 0 0 [] (by omega) (by omega) (W := w1) (B := w.heap.size) (ex := []) (Owns.nil_) hb1.size (show Reads w1 0 1 none 0 (u8s []) from Reads.none_) (Nat.zero_le _) (by omega))
  have HB1 := hide_ hb1
  clear hb1
  go_wp2_with fail
  refine h2.out.mono ?_
  rintro e w2 ⟨g, d, c, rfl, hO2, hb2⟩
  have hS2 : Seg w2 w.heap.size g d 256 c nm0 [] := ⟨⟨_, hO2⟩, Nat.le_trans HB1.out.size hb2.size, hseg, seedXs_len _ _, seedXs_ok (fun x hx => by cases hx) _⟩
  have h3 := hide_ (Copy_off 2 0 4 hS2 (by omega) (by omega) (by omega) (by omega) (by omega))
  have HB2 := hide_ (HB1.out.trans (hb2.mono HB1.out.size))
  clear hO2 hb2 hS2
  go_wp2_with fail
  refine h3.out.mono ?_
  rintro e w3 ⟨rfl, hS3, hb3⟩
  have l4 := Load4_off 2 hS3
  rw [show puts 256 2 (readN 256 0 nm0 4) nm0 4 = nm1 from rfl, HE.out.1] at l4
  have L4 := hide_ l4
  have HB3 := hide_ (HB2.out.trans hb3)
  clear l4 hS3 hb3
  go_wp2_with fail
  refine L4.out.mono ?_
  rintro e w4 ⟨rfl, hS4, hb4⟩
  have l5 := Load4_off 4 hS4
  rw [HE.out.2] at l5
  have L5 := hide_ l5
  have HB4 := hide_ (HB3.out.trans hb4)
  clear l5 hS4 hb4
  go_wp2_with fail
  refine L5.out.mono ?_
  rintro e w5 ⟨rfl, hS5, hb5⟩
  have c6 := hide_ (Copy_big 0 0 4097 hS5 (by omega))
  have HS5 := hide_ hS5
  have HB5 := hide_ (HB4.out.trans hb5)
  clear hS5 hb5
  go_wp2_with fail
  refine c6.out.mono ?_
  rintro e w6 ⟨rfl, rfl⟩
  obtain ⟨⟨tv6, hO6⟩, hbs6, _, hl6, hok6⟩ := HS5.out
  have HL := hide_ (show nm1.length = 256 ∧ bytesOk nm1 from ⟨hl6, hok6⟩)
  have h7 := hide_ (Log_any true hO6 hseg.pow)
  clear hO6 hl6 hok6
  go_wp2_with fail
  refine h7.out.mono ?_
  rintro e w7 ⟨rfl, hO7, hb7⟩
  have h8 := hide_ (Load2_any 255 hO7 (Nat.le_trans hbs6 hb7.size) hseg.pow HL.out.1 HL.out.2)
  have HB7 := hide_ (HB5.out.trans hb7)
  clear hO7 hb7 hbs6
  go_wp2_with fail
  refine h8.out.mono ?_
  rintro e w8 ⟨rfl, tv8, hO8, hb8⟩
  have HB8 := hide_ (HB7.out.trans hb8)
  have h9 := hide_ (Store1_any 7 9 hO8 HB8.out.size hseg.pow HL.out.1 (by omega) (by omega))
  clear hO8 hb8
  go_wp2_with fail
  refine h9.out.mono ?_
  rintro e w9 ⟨rfl, tv9, hO9, hb9⟩
  rw [nm_notes] at hO9
  obtain ⟨us, hus⟩ : ∃ us, us = puts 256 7 (bytes4 9) nm1 1 := ⟨_, rfl⟩
  rw [← hus] at hO9
  have h10 := hide_ (Touched_any hO9 hseg.pow)
  have HB9 := hide_ (HB8.out.trans hb9)
  clear hO9 hb9 hus
  go_wp2_with fail
  refine h10.out.mono ?_
  rintro e w10 ⟨A, rfl, hO10, hb10, hr10, hA10⟩
  obtain ⟨t, rfl, ht⟩ := hA10 (by decide)
  have cl : ∀ j u, (touchCells [(255, false), (0, false), (7, true)])[j]? = some u → w10.cell? ⟨t, j, none⟩ = some u := fun j u hu => by
    obtain ⟨ad, e, _, hc⟩ := hr10.2 (by decide)
    injection e with e
    subst e
    have e1 : (⟨t, 0, none⟩ : Addr).add j = ⟨t, j, none⟩ := by unfold Addr.add; split <;> simp_all
    rw [← e1]
    exact hc j u hu
  have k0 : w10.cell? ⟨t, 0, none⟩ = some (.int .u32 255) := cl 0 _ rfl
  have k1 : w10.cell? ⟨t, 1, none⟩ = some (.bool false) := cl 1 _ rfl
  have k2 : w10.cell? ⟨t, 2, none⟩ = some (.int .u32 0) := cl 2 _ rfl
  have k3 : w10.cell? ⟨t, 3, none⟩ = some (.bool false) := cl 3 _ rfl
  have k4 : w10.cell? ⟨t, 4, none⟩ = some (.int .u32 7) := cl 4 _ rfl
  have k5 : w10.cell? ⟨t, 5, none⟩ = some (.bool true) := cl 5 _ rfl
  have h11 := hide_ (Touched_any hO10 hseg.pow)
  have HB10 := hide_ (HB9.out.trans hb10)
  clear hO10 hb10 hr10 hA10 cl
  go_wp2_with fail
  refine h11.out.mono ?_
  rintro e w11 ⟨A11, rfl, hO11, hb11, _, _⟩
  have h12 := hide_ (Read_neg 0 (-1) (by omega) hO11 hseg.pow)
  have HB11 := hide_ (HB10.out.trans hb11)
  clear hO11 hb11 k0 k1 k2 k3 k4 k5
  go_wp2_with fail
  refine h12.out.mono ?_
  rintro e w12 ⟨rfl, rfl⟩
  go_wp2_with (refine wpList_make_full _ rfl (.const (.int .i64 300)) (.const (.int .i64 300)) 46 rfl w12.heap.size 5 i0 _ 1 Try.underlying46 hi0 hz0 hz1 .i64 .i64 300 300 300 rfl rfl rfl rfl (by rw [hz2]; omega) (by simp only [maxLen]; omega) (Nat.le_refl _) ?_)
  intro w13 hown hg
  have hb13 : Below w12.heap.size w12 w13 := (Below.refl _ _).grown hg (Nat.le_refl _) (fun k e => by cases e)
  have HB13 := hide_ (HB11.out.trans (hb13.mono HB11.out.size))
  clear hown hg hb13
  go_wp2_with fail
  refine (From_300 _ _ _).mono ?_
  rintro e w14 ⟨rfl, rfl⟩
  go_wp2_with fail
  refine (New_17 _).mono ?_
  rintro e w15 ⟨rfl, rfl⟩
  go_wp2_with fail
  go_ret
  exact ⟨rfl, HB13.out⟩
end Go.Proofs.Ytgppbdcnpailaaa
