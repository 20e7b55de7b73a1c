/-
  The walk of the statement TextKnown: the chapter's examples.
-/
import Derived.Test.YtmbofpeedjlfhaaDoorTokW
import Derived.Test.YtmbofpeedjlfhaaDoorWhere
import Derived.Test.YtmbofpeedjlfhaaDoorShowT
import Derived.Test.YtmbofpeedjlfhaaDoorGuest
namespace Go.Proofs.YtmbofpeedjlfhaaDoor
open Go.RowKit Go.PlainAid
set_option linter.unusedVariables false
set_option maxRecDepth 100000

abbrev kT1 : ByteArray := ⟨#[97, 98, 10, 99, 195, 169, 33]⟩
abbrev kT2 : ByteArray := ⟨#[120, 49, 32, 61, 32, 48, 120, 49, 101, 43, 51, 32, 35, 32, 115, 111]⟩
abbrev kT3 : ByteArray := ⟨#[49, 101, 43, 51, 46, 53]⟩
abbrev kT4 : ByteArray := ⟨#[97, 10, 34, 92, 113, 34]⟩
abbrev kT5 : ByteArray := ⟨#[34, 10]⟩
abbrev kT6 : ByteArray := ⟨#[97, 32, 33, 32, 98]⟩
abbrev kT8 : ByteArray := ⟨#[34, 92, 117, 48, 48, 101, 57, 92, 120, 52, 49, 34]⟩
abbrev kT9 : ByteArray := ⟨#[34, 92, 117, 100, 56, 48, 48, 34]⟩
abbrev kTa : ByteArray := ⟨#[39, 195, 169, 39]⟩
abbrev kTb : ByteArray := ⟨#[39, 39]⟩
abbrev kTc : ByteArray := ⟨#[39, 97, 98, 39]⟩
theorem kn1 : (1 + endsN kT1 6 : Nat) = 2 ∧ (colN kT1 (beginN kT1 6) 6 : Nat) = 3 := by decide +kernel
theorem kn2 : toksN kT2 [⟨#[61]⟩, ⟨#[43]⟩] = (some [(1, 0, 2), (5, 3, 4), (2, 5, 9), (5, 9, 10), (2, 10, 11)], 0, 0) := by decide +kernel
theorem kn3 : toksN kT3 [] = (some [(2, 0, 6)], 0, 0) := by decide +kernel
theorem kn4 : toksN kT4 [] = (none, 3, 12) := by decide +kernel
theorem kn5 : toksN kT5 [] = (none, 0, 11) := by decide +kernel
theorem kn6 : toksN kT6 [] = (none, 2, 10) := by decide +kernel
theorem kn7 : strOfNums (showL [97, 34, 0, 49, 255]) = ⟨#[34, 97, 92, 34, 92, 48, 49, 92, 120, 102, 102, 34]⟩ := by rfl
theorem kn8 : bytesN kT8 = (some [195, 169, 65], 0, 0) := by decide +kernel
theorem kn9 : bytesN kT9 = (none, 1, 12) := by decide +kernel
theorem kna : runeN kTa = (233, 0, 0) := by decide +kernel
theorem knb : runeN kTb = (0, 1, 10) := by decide +kernel
theorem knc : runeN kTc = (0, 2, 11) := by decide +kernel
theorem knd : strOfNums (guestL (strOfNums (upTo [104, 105, 7, 255, 0, 65]))) = ⟨#[104, 105, 63, 63]⟩ := by
  have h1 : upTo [104, 105, 7, 255, 0, 65] = [104, 105, 7, 255] := by decide +kernel
  have h2 : guestL (strOfNums [104, 105, 7, 255]) = [104, 105, 63, 63] := by decide +kernel
  rw [h1, h2]
  rfl
theorem kc2 : tkCells kT2 [(1, 0, 2), (5, 3, 4), (2, 5, 9), (5, 9, 10), (2, 10, 11)] = [.int .u8 1, .int .i64 0, .string ⟨#[120, 49]⟩, .int .u8 5, .int .i64 3, .string ⟨#[61]⟩, .int .u8 2, .int .i64 5, .string ⟨#[48, 120, 49, 101]⟩, .int .u8 5, .int .i64 9, .string ⟨#[43]⟩, .int .u8 2, .int .i64 10, .string ⟨#[51]⟩] := by rfl
theorem kc3 : tkCells kT3 [(2, 0, 6)] = [.int .u8 2, .int .i64 0, .string ⟨#[49, 101, 43, 51, 46, 53]⟩] := by rfl
theorem toks_nil (s : ByteArray) (W : World) (hz : s.size ≤ 140737488351232) : Calls Tryd.prog 9 #[.string s, .slice none 0 0] W (ToksIs s (toksN s []) W) :=
  tokens_any s none 0 0 0 [] W hz (by decide) (Nat.le_refl _) Reads.none_ (Nat.zero_le _)
set_option maxHeartbeats 4000000 in
theorem TextKnown_walk (w : World) : Calls Tryd.prog 7 #[] w fun e w' => e = .returned (.bool true) ∧ Below w.heap.size w w' := by
  have H1 := hide_ (show ∀ W : World, Calls Tryd.prog 22 #[.string kT1, .int .i64 6] W fun e w' => e = .returned (.tuple #[.int .i64 2, .int .i64 3, .int .i64 0]) ∧ Below W.heap.size W w' from fun W => by
    have h := Where_yes kT1 6 W (by decide) (by decide)
    rw [kn1.1, kn1.2] at h
    exact h)
  have H2 := hide_ (show ∀ W : World, Calls Tryd.prog 9 #[.string kT2, .slice (some ⟨W.heap.size, 0, none⟩) 2 2] (W.alloc (.cells #[.string ⟨#[61]⟩, .string ⟨#[43]⟩] 9)) fun e w' => ∃ v, e = .returned (.tuple #[v, .int .i64 0, .int .i64 0]) ∧ w'.ownsRow (W.heap.size + 1) 36 3 v 5 (tkCells kT2 [(1, 0, 2), (5, 3, 4), (2, 5, 9), (5, 9, 10), (2, 10, 11)]) ∧ Below W.heap.size W w' from fun W => by
    have h := tokens_any kT2 (some ⟨W.heap.size, 0, none⟩) 2 2 (W.heap.size + 1) [⟨#[61]⟩, ⟨#[43]⟩] (W.alloc (.cells #[.string ⟨#[61]⟩, .string ⟨#[43]⟩] 9)) (by decide) (by decide) (by decide) (reads_new W 9 1 2 [.string ⟨#[61]⟩, .string ⟨#[43]⟩] rfl) (by simp)
    rw [kn2] at h
    refine h.mono ?_
    rintro e w' ⟨v, rfl, h1, h2⟩
    rw [World.size_alloc] at h1
    exact ⟨v, rfl, h1, ((Below.refl _ W).alloc (Nat.le_refl _) _).trans (h2.mono (by simp))⟩)
  have H3 := hide_ (show ∀ W : World, Calls Tryd.prog 9 #[.string kT3, .slice none 0 0] W fun e w' => ∃ v, e = .returned (.tuple #[v, .int .i64 0, .int .i64 0]) ∧ w'.ownsRow W.heap.size 36 3 v 1 (tkCells kT3 [(2, 0, 6)]) ∧ Below W.heap.size W w' from fun W => by
    have h := toks_nil kT3 W (by decide)
    rw [kn3] at h
    exact h)
  have H4 := hide_ (show ∀ W : World, Calls Tryd.prog 9 #[.string kT4, .slice none 0 0] W fun e w' => ∃ v, e = .returned (.tuple #[v, .int .i64 3, .int .i64 12]) ∧ Below W.heap.size W w' from fun W => by
    have h := toks_nil kT4 W (by decide)
    rw [kn4] at h
    refine h.mono ?_
    rintro e w' ⟨v, rfl, h1, h2⟩
    exact ⟨v, rfl, h2⟩)
  have H5 := hide_ (show ∀ W : World, Calls Tryd.prog 9 #[.string kT5, .slice none 0 0] W fun e w' => ∃ v, e = .returned (.tuple #[v, .int .i64 0, .int .i64 11]) ∧ Below W.heap.size W w' from fun W => by
    have h := toks_nil kT5 W (by decide)
    rw [kn5] at h
    refine h.mono ?_
    rintro e w' ⟨v, rfl, h1, h2⟩
    exact ⟨v, rfl, h2⟩)
  have H6 := hide_ (show ∀ W : World, Calls Tryd.prog 9 #[.string kT6, .slice none 0 0] W fun e w' => ∃ v, e = .returned (.tuple #[v, .int .i64 2, .int .i64 10]) ∧ Below W.heap.size W w' from fun W => by
    have h := toks_nil kT6 W (by decide)
    rw [kn6] at h
    refine h.mono ?_
    rintro e w' ⟨v, rfl, h1, h2⟩
    exact ⟨v, rfl, h2⟩)
  have H7 := hide_ (show ∀ W : World, Calls Tryd.prog 23 #[.slice (some ⟨W.heap.size, 0, none⟩) 5 5] (W.alloc (.cells #[.int .u8 97, .int .u8 34, .int .u8 0, .int .u8 49, .int .u8 255] 5)) fun e w' => e = .returned (.string ⟨#[34, 97, 92, 34, 92, 48, 49, 92, 120, 102, 102, 34]⟩) ∧ Below W.heap.size W w' from fun W => by
    have h := tShow_any (some ⟨W.heap.size, 0, none⟩) 5 5 [97, 34, 0, 49, 255] (W.heap.size + 1) (W.alloc (.cells #[.int .u8 97, .int .u8 34, .int .u8 0, .int .u8 49, .int .u8 255] 5)) (reads_new W 5 1 5 (u8s [97, 34, 0, 49, 255]) rfl) (by simp) (by decide) (fun x hx => by simp at hx; unfold isByte; omega)
    rw [kn7] at h
    refine h.mono ?_
    rintro e w' ⟨rfl, h2⟩
    exact ⟨rfl, ((Below.refl _ W).alloc (Nat.le_refl _) _).trans (h2.mono (by simp))⟩)
  have H8 := hide_ (show ∀ W : World, Calls Tryd.prog 24 #[.string kT8] W fun e w' => ∃ v, e = .returned (.tuple #[v, .int .i64 0, .int .i64 0]) ∧ w'.ownsRow W.heap.size 5 1 v 3 (u8s [195, 169, 65]) ∧ Below W.heap.size W w' from fun W => by
    have h := tbytes_any kT8 W (by decide)
    rw [kn8] at h
    exact h)
  have H9 := hide_ (show ∀ W : World, Calls Tryd.prog 24 #[.string kT9] W fun e w' => ∃ v, e = .returned (.tuple #[v, .int .i64 1, .int .i64 12]) ∧ Below W.heap.size W w' from fun W => by
    have h := tbytes_any kT9 W (by decide)
    rw [kn9] at h
    refine h.mono ?_
    rintro e w' ⟨v, rfl, h1, h2⟩
    exact ⟨v, rfl, h2⟩)
  have Ha := hide_ (show ∀ W : World, Calls Tryd.prog 25 #[.string kTa] W fun e w' => e = .returned (.tuple #[.int .i32 233, .int .i64 0, .int .i64 0]) ∧ Below W.heap.size W w' from fun W => by
    have h := trune_any kTa W (by decide)
    rw [kna] at h
    exact h)
  have Hb := hide_ (show ∀ W : World, Calls Tryd.prog 25 #[.string kTb] W fun e w' => e = .returned (.tuple #[.int .i32 0, .int .i64 1, .int .i64 10]) ∧ Below W.heap.size W w' from fun W => by
    have h := trune_any kTb W (by decide)
    rw [knb] at h
    exact h)
  have Hc := hide_ (show ∀ W : World, Calls Tryd.prog 25 #[.string kTc] W fun e w' => e = .returned (.tuple #[.int .i32 0, .int .i64 2, .int .i64 11]) ∧ Below W.heap.size W w' from fun W => by
    have h := trune_any kTc W (by decide)
    rw [knc] at h
    exact h)
  have Hd := hide_ (show ∀ W : World, Calls Tryd.prog 26 #[.slice (some ⟨W.heap.size, 0, none⟩) 6 6] (W.alloc (.cells #[.int .u8 104, .int .u8 105, .int .u8 7, .int .u8 255, .int .u8 0, .int .u8 65] 5)) fun e w' => e = .returned (.string ⟨#[104, 105, 63, 63]⟩) ∧ Below W.heap.size W w' from fun W => by
    have h := tGuest_any (some ⟨W.heap.size, 0, none⟩) 6 6 [104, 105, 7, 255, 0, 65] (W.heap.size + 1) (W.alloc (.cells #[.int .u8 104, .int .u8 105, .int .u8 7, .int .u8 255, .int .u8 0, .int .u8 65] 5)) (reads_new W 5 1 6 (u8s [104, 105, 7, 255, 0, 65]) rfl) (by decide) (fun x hx => by simp at hx; unfold isByte; omega)
    rw [knd] at h
    refine h.mono ?_
    rintro e w' ⟨rfl, h2⟩
    exact ⟨rfl, ((Below.refl _ W).alloc (Nat.le_refl _) _).trans (h2.mono (by simp))⟩)
  have HB0 := hide_ (Below.refl w.heap.size w)
  go_enter Tryd.func7, Tryd.ntmps7

  go_wp2_with fail
  refine (H1.out _).mono ?_
  rintro e w1 ⟨rfl, hb1⟩
  have HB1 := hide_ (HB0.out.trans (hb1.mono HB0.out.size))
  clear HB0 H1 hb1
  go_wp2_with fail
  refine (H2.out _).mono ?_
  rintro e w2 ⟨v, rfl, hown, hb2⟩
  have HB2 := hide_ (HB1.out.trans (hb2.mono HB1.out.size))
  clear HB1 H2
  clear hb2
  obtain ⟨g, c, rfl⟩ := ownsRow_some hown (by decide)
  have hO := one_row (r := ⟨36, 3, .slice (some ⟨g, 0, none⟩) 5 c, 5, tkCells kT2 [(1, 0, 2), (5, 3, 4), (2, 5, 9), (5, 9, 10), (2, 10, 11)]⟩) hown
  have c8 := hO.cell (i := 0) (j := 8) (u := .string ⟨#[48, 120, 49, 101]⟩) rfl (by rw [kc2]; rfl)
  have c13 := hO.cell (i := 0) (j := 13) (u := .int .i64 10) rfl (by rw [kc2]; rfl)
  have hg := (hO.base (i := 0) rfl).2
  clear hO hown
  go_wp2_with fail
  refine (H3.out _).mono ?_
  rintro e w3 ⟨v, rfl, hown, hb3⟩
  have HB3 := hide_ (HB2.out.trans (hb3.mono HB2.out.size))
  clear HB2 H3
  clear hb3 c8 c13 hg
  obtain ⟨g2, c2, rfl⟩ := ownsRow_some hown (by decide)
  have hO := one_row (r := ⟨36, 3, .slice (some ⟨g2, 0, none⟩) 1 c2, 1, tkCells kT3 [(2, 0, 6)]⟩) hown
  have d2 := hO.cell (i := 0) (j := 2) (u := .string kT3) rfl (by rw [kc3]; rfl)
  have hg2 := (hO.base (i := 0) rfl).2
  clear hO hown
  go_wp2_with fail
  refine (H4.out _).mono ?_
  rintro e w4 ⟨v, rfl, hb4⟩
  have HB4 := hide_ (HB3.out.trans (hb4.mono HB3.out.size))
  clear HB3 H4
  clear hb4 d2 hg2
  go_wp2_with fail
  refine (H5.out _).mono ?_
  rintro e w5 ⟨v, rfl, hb5⟩
  have HB5 := hide_ (HB4.out.trans (hb5.mono HB4.out.size))
  clear HB4 H5 hb5
  go_wp2_with fail
  refine (H6.out _).mono ?_
  rintro e w6 ⟨v, rfl, hb6⟩
  have HB6 := hide_ (HB5.out.trans (hb6.mono HB5.out.size))
  clear HB5 H6 hb6
  go_wp2_with fail
  refine (H7.out _).mono ?_
  rintro e w7 ⟨rfl, hb7⟩
  have HB7 := hide_ (HB6.out.trans (hb7.mono HB6.out.size))
  clear HB6 H7 hb7
  go_wp2_with fail
  refine (H8.out _).mono ?_
  rintro e w8 ⟨v, rfl, hown, hb8⟩
  have HB8 := hide_ (HB7.out.trans (hb8.mono HB7.out.size))
  clear HB7 H8
  clear hb8
  obtain ⟨g3, c3, rfl⟩ := ownsRow_some hown (by decide)
  have hcv := run_str_of_reads (P := Tryd.prog) w8 _ 51 5 Tryd.underlying51 Tryd.underlying5 (some ⟨g3, 0, none⟩) 3 c3 [195, 169, 65] (Reads.of_own hown) 9 Tryd.underlying9
  rw [show strOfNums [195, 169, 65] = ⟨#[195, 169, 65]⟩ from rfl] at hcv
  clear hown
  go_wp2_with fail
  refine (H9.out _).mono ?_
  rintro e w9 ⟨v, rfl, hb9⟩
  have HB9 := hide_ (HB8.out.trans (hb9.mono HB8.out.size))
  clear HB8 H9
  clear hb9 hcv
  go_wp2_with fail
  refine (Ha.out _).mono ?_
  rintro e w10 ⟨rfl, hb10⟩
  have HB10 := hide_ (HB9.out.trans (hb10.mono HB9.out.size))
  clear HB9 Ha hb10
  go_wp2_with fail
  refine (Hb.out _).mono ?_
  rintro e w11 ⟨rfl, hb11⟩
  have HB11 := hide_ (HB10.out.trans (hb11.mono HB10.out.size))
  clear HB10 Hb hb11
  go_wp2_with fail
  refine (Hc.out _).mono ?_
  rintro e w12 ⟨rfl, hb12⟩
  have HB12 := hide_ (HB11.out.trans (hb12.mono HB11.out.size))
  clear HB11 Hc hb12
  go_wp2_with fail
  refine (Hd.out _).mono ?_
  rintro e w13 ⟨rfl, hb13⟩
  have HB13 := hide_ (HB12.out.trans (hb13.mono HB12.out.size))
  clear HB12 Hd hb13
  go_wp2
  go_ret
  exact ⟨rfl, HB13.out⟩
end Go.Proofs.YtmbofpeedjlfhaaDoor
