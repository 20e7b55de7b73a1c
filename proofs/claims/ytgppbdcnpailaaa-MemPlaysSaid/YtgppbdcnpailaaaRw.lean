/-
  The contracts of Read and Write of a segment whose log is off; what is read where something was laid down: the plain law.
-/
import Derived.Test.YtgppbdcnpailaaaStretch
namespace Go.Proofs.Ytgppbdcnpailaaa
open Go.RowKit

/-! ### places -/
theorem plc_inj {N : Nat} (h : IsPow N) {a : Int} {i j : Nat} (hi : i < N) (hj : j < N) (e : plc N a i = plc N a j) : i = j := by
  have hb := h.bd
  rw [plc_mod h, plc_mod h] at e
  have h1 := Int.emod_emod_of_dvd
  have h2 : ((a + i) - (a + j)) % (N : Int) = 0 := Int.emod_eq_emod_iff_emod_sub_eq_zero.1 e
  obtain ⟨q, hq⟩ := Int.dvd_of_emod_eq_zero h2
  have h3 : (i : Int) - j = N * q := by omega
  rcases Int.lt_trichotomy q 0 with hq0 | hq0 | hq0
  · have : (N : Int) * q ≤ N * (-1) := Int.mul_le_mul_of_nonneg_left (by omega) (by omega)
    omega
  · subst hq0
    omega
  · have : (N : Int) * 1 ≤ N * q := Int.mul_le_mul_of_nonneg_left (by omega) (by omega)
    omega
theorem plc_shift {N : Nat} (h : IsPow N) (a : Int) (m k : Nat) : plc N ((a + m) % 4294967296) k = plc N a (m + k) := by
  rw [plc_mod h, plc_mod h, Int.add_emod, Int.emod_emod_of_dvd _ h.dvd, ← Int.add_emod]
  congr 1
  omega
theorem plc_far {N : Nat} (h : IsPow N) (a f : Int) (k : Nat) : plc N ((a + f * N % 4294967296) % 4294967296) k = plc N a k := by
  rw [plc_mod h, plc_mod h, Int.add_emod, Int.emod_emod_of_dvd _ h.dvd, ← Int.add_emod, show a + f * N % 4294967296 + (k : Int) = (a + k) + f * N % 4294967296 by omega, Int.add_emod, Int.emod_emod_of_dvd _ h.dvd, Int.mul_emod_left, Int.add_zero, Int.emod_emod]
theorem gt_set {l : List Int} {p q : Int} (y : Int) (hp : 0 ≤ p) (hpl : p < l.length) (hq : 0 ≤ q) : gt (l.set p.toNat y) q = if p = q then y else gt l q := by
  unfold gt
  rw [List.getElem?_set]
  by_cases e : p = q
  · subst e
    rw [if_pos rfl, if_pos rfl, if_pos (by omega)]
    rfl
  · rw [if_neg (by omega), if_neg e]
theorem gt_puts {N : Nat} (h : IsPow N) {a : Int} {ys xs : List Int} (hx : xs.length = N) : ∀ n, n ≤ N → ∀ j, j < N → gt (puts N a ys xs n) (plc N a j) = if j < n then ys[j]?.getD 0 else gt xs (plc N a j) := by
  intro n
  induction n with
  | zero => intro _ j _; rw [if_neg (by omega)]; rfl
  | succ n ih =>
    intro hn j hj
    have hb := plc_bd h a n
    rw [puts, gt_set _ hb.1 (by rw [puts_len, hx]; exact hb.2) (plc_bd h a j).1, ih (by omega) j hj]
    by_cases e : plc N a n = plc N a j
    · have := plc_inj h (by omega) hj e
      subst this
      rw [if_pos rfl, if_pos (by omega)]
    · rw [if_neg e]
      have hne : n ≠ j := fun h => e (by rw [h])
      by_cases c : j < n
      · rw [if_pos c, if_pos (by omega)]
      · rw [if_neg c, if_neg (by omega)]
theorem readN_puts {N : Nat} (h : IsPow N) {a : Int} {ys xs : List Int} (hx : xs.length = N) (hn : ys.length ≤ N) : readN N a (puts N a ys xs ys.length) ys.length = ys := by
  apply List.ext_getElem?
  intro j
  unfold readN
  rw [List.getElem?_map]
  by_cases hj : j < ys.length
  · rw [List.getElem?_range hj, Option.map_some, gt_puts h hx _ hn j (by omega), if_pos hj, List.getElem?_eq_getElem hj]
    rfl
  · rw [List.getElem?_eq_none (l := List.range _) (by simpa using hj), List.getElem?_eq_none (by omega)]
    rfl
theorem readN_congr {N : Nat} {a b : Int} {xs : List Int} {n : Nat} (h : ∀ k, plc N a k = plc N b k) : readN N a xs n = readN N b xs n := List.map_congr_left (fun k _ => by rw [h k])
theorem wordAt_congr {N : Nat} {a b : Int} {xs : List Int} {n : Nat} (h : ∀ k, plc N a k = plc N b k) : wordAt N a xs n = wordAt N b xs n := by unfold wordAt; rw [h 0, h 1, h 2, h 3]

/-! ### Read and Write -/
section
variable {W : World} {B g d N c : Nat} {xs : List Int} {ex : List Ro}
theorem Write_off (a : Int) (A : Option Addr) (n cb Bz : Nat) (bs : List Int) (h : Seg W B g d N c xs ex) (h0 : 0 ≤ a) (h1 : a ≤ 4294967295) (hn : n ≤ 4096) (hr : Reads W Bz 1 A n (u8s bs)) (hBz : Bz ≤ B) (hok : bytesOk bs) :
    Calls Try.prog 42 #[.pointer (some ⟨g, 0, none⟩), .int .u32 a, .slice A n cb] W fun e W' => e = .returned (.int .i64 0) ∧ Seg W' B g d N c (puts N a bs xs n) ex ∧ Below B W W' := by
  obtain ⟨⟨tv, hO⟩, h2, h3, h4, h5⟩ := h
  have hbl : bs.length = n := by simpa using hr.1
  have hm := hide_ (made_any g d N c W (hO.cell (i := 0) rfl rfl) h3.pow.bd.1)
  have hw := hide_ (write_any (W := W) a A n cb bs hO h2 h3.pow h4 h0 h1 hbl hn (fun W1 _ _ _ _ _ hb => (hr.below (hb.mono hBz)).more (by have := hb.size; omega)))
  have d1 : decide ((4096 : Int) < (n : Int)) = false := by simp; omega
  have H4 := hide_ h4
  have H5 := hide_ h5
  clear hO hr h4 h5
  go_enter Try.func42, Try.ntmps42
  go_wp2_with (first
    | (go_at_call 76; refine hm.out.mono ?_; rintro e w' ⟨rfl, rfl⟩)
    | (go_at_call 79; refine hw.out.mono ?_; rintro e w4 ⟨rfl, tv4, hO4, hb4⟩))
  go_ret
  rw [notes_off] at hO4
  exact ⟨rfl, ⟨⟨tv4, hO4⟩, Nat.le_trans h2 hb4.size, h3, by rw [puts_len, H4.out], puts_ok hok H5.out _⟩, hb4⟩
theorem Read_off (a : Int) (n : Nat) (h : Seg W B g d N c xs ex) (h0 : 0 ≤ a) (h1 : a ≤ 4294967295) (hn : n ≤ 4096) :
    Calls Try.prog 43 #[.pointer (some ⟨g, 0, none⟩), .int .u32 a, .int .i64 n] W fun e W' => ∃ o, e = .returned (.tuple #[.slice (some ⟨o, 0, none⟩) n n, .int .i64 0]) ∧ Seg W' B g d N c xs (outR o n n (readN N a xs n) :: ex) ∧ Below B W W' := by
  obtain ⟨⟨tv, hO⟩, h2, h3, h4, h5⟩ := h
  have hm := hide_ (made_any g d N c W (hO.cell (i := 0) rfl rfl) h3.pow.bd.1)
  have hw := hide_ (read_any (W := W) a n hO h2 h3.pow h4 h0 h1 hn)
  have d1 : decide ((4096 : Int) < (n : Int)) = false := by simp; omega
  have d2 : decide ((n : Int) < 0) = false := by simp
  have H4 := hide_ h4
  have H5 := hide_ h5
  clear hO h4 h5
  go_enter Try.func43, Try.ntmps43
  go_wp2_with (first
    | (go_at_call 76; refine hm.out.mono ?_; rintro e w' ⟨rfl, rfl⟩)
    | (go_at_call 80; refine hw.out.mono ?_; rintro e w4 ⟨o, tv4, rfl, hO4, hb4⟩))
  go_ret2
  rw [notes_off] at hO4
  exact ⟨o, rfl, ⟨⟨tv4, hO4⟩, Nat.le_trans h2 hb4.size, h3, H4.out, H5.out⟩, hb4⟩
end
end Go.Proofs.Ytgppbdcnpailaaa
