/-
  The walk of text.Show: the literal of bytes.
-/
import Derived.Test.YtnkfjileaonemaaGreatDoorShow
namespace Go.Proofs.YtnkfjileaonemaaGreatDoor
open Go.RowKit Go.PlainAid Go.Shelf

abbrev digs : ByteArray := ⟨#[48, 49, 50, 51, 52, 53, 54, 55, 56, 57, 97, 98, 99, 100, 101, 102]⟩
theorem digs_at (j : Nat) (h : j < 16) : bt digs j = nibN (j : Int) := by
  match j, h with
  | 0, _ => decide
  | 1, _ => decide
  | 2, _ => decide
  | 3, _ => decide
  | 4, _ => decide
  | 5, _ => decide
  | 6, _ => decide
  | 7, _ => decide
  | 8, _ => decide
  | 9, _ => decide
  | 10, _ => decide
  | 11, _ => decide
  | 12, _ => decide
  | 13, _ => decide
  | 14, _ => decide
  | 15, _ => decide
  | n + 16, h => exact absurd h (by omega)
theorem u8_and15 (x : Int) (h0 : 0 ≤ x) (h1 : x < 256) : bits .and .u8 x 15 = x % 16 := bits_mask .u8 8 (by decide) (fun n h0 h1 => by simp only [IntKind.wrap_u8]; omega) 4 (by decide) x h0 h1
theorem isB_k {T e : TypeId} {B b : Nat} {bs : List Value} {w : World} (h : Lib.BuilderAtF T e B b (.pointer (some ⟨b, 0, none⟩)) bs w) : Lib.IsBuilderF T e B b bs w := .inr h

set_option maxRecDepth 100000 in
set_option maxHeartbeats 1000000 in
theorem tShow_any (A : Option Addr) (n c : Nat) (xs : List Int) (B : Nat) (w : World) (ha : Reads w B 1 A n (u8s xs)) (hB : B ≤ w.heap.size) (hn : n ≤ 2097152) (hx : ∀ x ∈ xs, isByte x) :
    Calls Tryz.prog 70 #[.slice A n c] w fun e w' => e = .returned (.string (strOfNums (showL xs))) ∧ Below w.heap.size w w' := by
  have la : xs.length = n := by simpa using ha.1
  have HLA := hide_ la
  clear la
  go_enter Tryz.func70, Tryz.ntmps70
  go_wp2_with (go_at_call 82; refine (bld_byte w.heap.size w.heap.size [] 34 _ (Lib.IsBuilderF.of (Lib.fresh_isBuilder 64 5 w)) (by simp) (by simp)).mono ?_)
  rintro e w1 ⟨rfl, h1, b1, _⟩
  have hI1 := isB_k h1
  have hb1 : Below w.heap.size w w1 := ((Below.refl _ w).alloc (Nat.le_refl _) _).trans b1
  clear h1 b1
  go_wp2
  go_loopw [9] (fun i wr => ∃ k : Nat, k ≤ n ∧ i = .int .i64 k ∧ Lib.IsBuilderF 64 5 w.heap.size w.heap.size (u8s (showM (xs.take k))) wr ∧ Below w.heap.size w wr) (fun i _ => n - (intOf i).toNat)
  case atStart =>
    exact ⟨0, Nat.zero_le _, rfl, hI1, hb1⟩
  case round =>
    obtain ⟨k, hk, rfl, hI, hb⟩ := hrel
    have hsz := hb.size
    have hlen : (showM (xs.take k)).length ≤ 4 * k + 1 := by
      have h1 := showM_len (xs.take k)
      have h2 : (xs.take k).length ≤ k := by simp; omega
      omega
    by_cases hlt : k < n
    · obtain ⟨ad, u, rfl, hadb, hu1, hc⟩ := ((ha.below (hb.mono hB))).at_ hlt
      have hu := get_map (Value.int .u8) xs 0 k (by rw [HLA.out]; exact hlt) hu1
      subst hu
      have hxb : isByte (xs[k]?.getD 0) := by
        have h9 : k < xs.length := by rw [HLA.out]; exact hlt
        rw [List.getElem?_eq_getElem h9]; exact hx _ (List.getElem_mem h9)
      obtain ⟨x, hxx⟩ : ∃ x, x = xs[k]?.getD 0 := ⟨_, rfl⟩
      rw [← hxx] at hc hxb
      have HS := hide_ (show u8s (showM (xs.take (k + 1))) = u8s (showM (xs.take k)) ++ u8s (showB x) by rw [take_snoc xs 0 k (by rw [HLA.out]; exact hlt), ← hxx, showM_snoc, u8s_app])
      clear hxx hu1
      obtain ⟨L, hL⟩ : ∃ L, L = u8s (showM (xs.take k)) := ⟨_, rfl⟩
      have hLl : L.length ≤ 4 * k + 1 := by rw [hL]; simpa using hlen
      rw [← hL] at hI HS
      clear hL hlen
      have h0 := hxb.1
      have h1 := hxb.2
      rcases show_ways x hxb with h | h | h
      · clear hxb h0 h1
        rcases h with rfl | rfl | rfl | rfl | rfl | rfl
        · go_wp2_with (go_at_call 81; refine (bld_string w.heap.size w.heap.size L ⟨#[92, 110]⟩ _ hI (by show L.length + 2 ≤ _; omega) (by omega)).mono ?_)
          rintro e W1 ⟨rfl, h2, b2, _⟩
          go_wp2
          go_roundw
          case rel =>
            refine ⟨k + 1, by omega, by go_num, ?_, hb.trans b2⟩
            rw [HS.out]
            exact isB_k h2
          case measure => simp [intOf]; omega
        · go_wp2_with (go_at_call 81; refine (bld_string w.heap.size w.heap.size L ⟨#[92, 116]⟩ _ hI (by show L.length + 2 ≤ _; omega) (by omega)).mono ?_)
          rintro e W1 ⟨rfl, h2, b2, _⟩
          go_wp2
          go_roundw
          case rel =>
            refine ⟨k + 1, by omega, by go_num, ?_, hb.trans b2⟩
            rw [HS.out]
            exact isB_k h2
          case measure => simp [intOf]; omega
        · go_wp2_with (go_at_call 81; refine (bld_string w.heap.size w.heap.size L ⟨#[92, 114]⟩ _ hI (by show L.length + 2 ≤ _; omega) (by omega)).mono ?_)
          rintro e W1 ⟨rfl, h2, b2, _⟩
          go_wp2
          go_roundw
          case rel =>
            refine ⟨k + 1, by omega, by go_num, ?_, hb.trans b2⟩
            rw [HS.out]
            exact isB_k h2
          case measure => simp [intOf]; omega
        · go_wp2_with (go_at_call 81; refine (bld_string w.heap.size w.heap.size L ⟨#[92, 48]⟩ _ hI (by show L.length + 2 ≤ _; omega) (by omega)).mono ?_)
          rintro e W1 ⟨rfl, h2, b2, _⟩
          go_wp2
          go_roundw
          case rel =>
            refine ⟨k + 1, by omega, by go_num, ?_, hb.trans b2⟩
            rw [HS.out]
            exact isB_k h2
          case measure => simp [intOf]; omega
        · go_wp2_with (go_at_call 82; refine (bld_byte w.heap.size w.heap.size L 92 _ hI (by omega) (by omega)).mono ?_)
          rintro e W1 ⟨rfl, h2, b2, _⟩
          have hz2 := b2.size
          go_wp2_with (go_at_call 82; refine (bld_byte w.heap.size w.heap.size (L ++ [.int .u8 92]) 34 _ (isB_k h2) (by simp; omega) (by omega)).mono ?_)
          rintro e W2 ⟨rfl, h3, b3, _⟩
          go_wp2
          go_roundw
          case rel =>
            refine ⟨k + 1, by omega, by go_num, ?_, hb.trans (b2.trans b3)⟩
            rw [HS.out]
            have := isB_k h3
            rw [List.append_assoc] at this
            exact this
          case measure => simp [intOf]; omega
        · go_wp2_with (go_at_call 82; refine (bld_byte w.heap.size w.heap.size L 92 _ hI (by omega) (by omega)).mono ?_)
          rintro e W1 ⟨rfl, h2, b2, _⟩
          have hz2 := b2.size
          go_wp2_with (go_at_call 82; refine (bld_byte w.heap.size w.heap.size (L ++ [.int .u8 92]) 92 _ (isB_k h2) (by simp; omega) (by omega)).mono ?_)
          rintro e W2 ⟨rfl, h3, b3, _⟩
          go_wp2
          go_roundw
          case rel =>
            refine ⟨k + 1, by omega, by go_num, ?_, hb.trans (b2.trans b3)⟩
            rw [HS.out]
            have := isB_k h3
            rw [List.append_assoc] at this
            exact this
          case measure => simp [intOf]; omega
      · have HB := hide_ (showB_self x h)
        obtain ⟨g0, g1, g2, g3⟩ := h
        have d4 : (x == 10) = false := by rw [beq_eq_false_iff_ne]; omega
        have d5 : (x == 9) = false := by rw [beq_eq_false_iff_ne]; omega
        have d6 : (x == 13) = false := by rw [beq_eq_false_iff_ne]; omega
        have d7 : (x == 0) = false := by rw [beq_eq_false_iff_ne]; omega
        have d2 : (x == 34) = false := by rw [beq_eq_false_iff_ne]; omega
        have d3 : (x == 92) = false := by rw [beq_eq_false_iff_ne]; omega
        have d8 : decide (32 ≤ x) = true := by simpa using g0
        have d9 : decide (x ≤ 126) = true := by simpa using g1
        clear g2 g3
        go_wp2_with (go_at_call 82; refine (bld_byte w.heap.size w.heap.size L x _ hI (by omega) (by omega)).mono ?_)
        rintro e W1 ⟨rfl, h2, b2, _⟩
        go_wp2
        go_roundw
        case rel =>
          refine ⟨k + 1, by omega, by go_num, ?_, hb.trans b2⟩
          rw [HS.out, HB.out]
          exact isB_k h2
        case measure => simp [intOf]; omega
      · have HB := hide_ (showB_hex x h)
        have d4 : (x == 10) = false := by rw [beq_eq_false_iff_ne]; omega
        have d5 : (x == 9) = false := by rw [beq_eq_false_iff_ne]; omega
        have d6 : (x == 13) = false := by rw [beq_eq_false_iff_ne]; omega
        have d7 : (x == 0) = false := by rw [beq_eq_false_iff_ne]; omega
        have d2 : (x == 34) = false := by rw [beq_eq_false_iff_ne]; omega
        have d3 : (x == 92) = false := by rw [beq_eq_false_iff_ne]; omega
        have hbt := get_bt digs
        have e1 := digs_at (x / 16).toNat (by omega)
        have e2 := digs_at (x % 16).toNat (by omega)
        rw [Int.toNat_of_nonneg (by omega)] at e1 e2
        have e3 := u8_and15 x (by omega) (by omega)
        have e4 : 0 ≤ x / 16 := by omega
        have e5 : x / 16 < 16 := by omega
        have e6 : 0 ≤ x % 16 := by omega
        have e7 : x % 16 < 16 := by omega
        have h' : x < 32 ∨ 126 < x := by omega
        clear h
        rcases h' with h | h
        · have d8 : decide (32 ≤ x) = false := by simp; omega
          clear h
          go_wp2_with (go_at_call 81; refine (bld_string w.heap.size w.heap.size L ⟨#[92, 120]⟩ _ hI (by show L.length + 2 ≤ _; omega) (by omega)).mono ?_)
          rintro e W1 ⟨rfl, h2, b2, _⟩
          have hz2 := b2.size
          have l2 : (L ++ Lib.strCells ⟨#[92, 120]⟩).length = L.length + 2 := by rw [List.length_append]; rfl
          go_wp2_with (go_at_call 82; refine (bld_byte w.heap.size w.heap.size (L ++ Lib.strCells ⟨#[92, 120]⟩) (nibN (x / 16)) _ (isB_k h2) (by omega) (by omega)).mono ?_)
          rintro e W2 ⟨rfl, h3, b3, _⟩
          have hz3 := b3.size
          go_wp2_with (go_at_call 82; refine (bld_byte w.heap.size w.heap.size (L ++ Lib.strCells ⟨#[92, 120]⟩ ++ [.int .u8 (nibN (x / 16))]) (nibN (x % 16)) _ (isB_k h3) (by simp only [List.length_append, List.length_cons, List.length_nil] at l2 ⊢; omega) (by omega)).mono ?_)
          rintro e W3 ⟨rfl, h4, b4, _⟩
          go_wp2
          go_roundw
          case rel =>
            refine ⟨k + 1, by omega, by go_num, ?_, hb.trans (b2.trans (b3.trans b4))⟩
            rw [HS.out, HB.out]
            have := isB_k h4
            rw [List.append_assoc, List.append_assoc] at this
            exact this
          case measure => simp [intOf]; omega
        · have d8 : decide (32 ≤ x) = true := by simp; omega
          have d9 : decide (x ≤ 126) = false := by simp; omega
          clear h
          go_wp2_with (go_at_call 81; refine (bld_string w.heap.size w.heap.size L ⟨#[92, 120]⟩ _ hI (by show L.length + 2 ≤ _; omega) (by omega)).mono ?_)
          rintro e W1 ⟨rfl, h2, b2, _⟩
          have hz2 := b2.size
          have l2 : (L ++ Lib.strCells ⟨#[92, 120]⟩).length = L.length + 2 := by rw [List.length_append]; rfl
          go_wp2_with (go_at_call 82; refine (bld_byte w.heap.size w.heap.size (L ++ Lib.strCells ⟨#[92, 120]⟩) (nibN (x / 16)) _ (isB_k h2) (by omega) (by omega)).mono ?_)
          rintro e W2 ⟨rfl, h3, b3, _⟩
          have hz3 := b3.size
          go_wp2_with (go_at_call 82; refine (bld_byte w.heap.size w.heap.size (L ++ Lib.strCells ⟨#[92, 120]⟩ ++ [.int .u8 (nibN (x / 16))]) (nibN (x % 16)) _ (isB_k h3) (by simp only [List.length_append, List.length_cons, List.length_nil] at l2 ⊢; omega) (by omega)).mono ?_)
          rintro e W3 ⟨rfl, h4, b4, _⟩
          go_wp2
          go_roundw
          case rel =>
            refine ⟨k + 1, by omega, by go_num, ?_, hb.trans (b2.trans (b3.trans b4))⟩
            rw [HS.out, HB.out]
            have := isB_k h4
            rw [List.append_assoc, List.append_assoc] at this
            exact this
          case measure => simp [intOf]; omega
    · obtain rfl : k = n := by omega
      have HT := hide_ (show xs.take k = xs by rw [← HLA.out]; exact List.take_length)
      rw [HT.out] at hI hlen
      have hLl : (u8s (showM xs)).length ≤ 4 * k + 1 := by simpa using hlen
      have hcell := b8s_cells (showL xs) (showL_byte xs hx)
      go_wp2_with (go_at_call 82; refine (bld_byte w.heap.size w.heap.size (u8s (showM xs)) 34 _ hI (by omega) (by omega)).mono ?_)
      rintro e W1 ⟨rfl, h2, b2, _⟩
      have hz2 := b2.size
      go_wp2_with (go_at_call 38; refine (Tryz.Builder_String_any_k w.heap.size w.heap.size (b8s (showL xs)) _ (by rw [← hcell]; have := isB_k h2; simpa [showL, u8s] using this) (by omega)).mono ?_)
      rintro e W2 ⟨rfl, _, b3, _⟩
      go_wp2
      go_ret
      exact ⟨rfl, hb.trans (b2.trans b3)⟩
end Go.Proofs.YtnkfjileaonemaaGreatDoor
