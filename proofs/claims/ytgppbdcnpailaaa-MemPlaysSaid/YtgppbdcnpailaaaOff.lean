/-
  The contracts of a data segment whose log is off; playpenlaw09.awake.
-/
import Derived.Test.YtgppbdcnpailaaaMade
namespace Go.Proofs.Ytgppbdcnpailaaa
open Go.RowKit

theorem notes_off (N : Nat) (wrt : Bool) (a : Int) (ts : List (Int × Bool)) (k : Nat) : notes N false wrt a ts k = ts := by
  induction k with
  | zero => rfl
  | succ k ih => rw [notes, ih]; rfl
theorem below_draws2 {B : Nat} {a w : World} (h : Below B a w) (k : Nat) : Below B a (w.drewN k) := by
  induction k with
  | zero => exact h
  | succ k ih => exact ih.drew
/-- a data segment, its log off -/
structure Seg (W : World) (B g d N c : Nat) (xs : List Int) (ex : List Ro) : Prop where
  own : ∃ tv, Owns W B (memRows g d N c false tv [] xs ++ ex)
  base : B ≤ W.heap.size
  seg : IsSeg N
  len : xs.length = N
  ok : bytesOk xs
theorem bytes4_ok {v : Int} (h0 : 0 ≤ v) (h1 : v < 4294967296) : bytesOk (bytes4 v) := by
  intro x hx
  simp only [bytes4, List.mem_cons, List.not_mem_nil, or_false] at hx
  omega
theorem puts_ok {N : Nat} {a : Int} {ys xs : List Int} (hy : bytesOk ys) (hx : bytesOk xs) (k : Nat) : bytesOk (puts N a ys xs k) := by
  induction k with
  | zero => exact hx
  | succ k ih =>
    intro x h
    rw [puts] at h
    rcases List.mem_or_eq_of_mem_set h with h | h
    · exact ih x h
    · subst h
      cases hq : ys[k]? with
      | none => simp
      | some y => exact hy y (List.mem_of_getElem? hq)
section
variable {W : World} {B g d N c : Nat} {xs : List Int} {ex : List Ro}
theorem Seg.drewN (h : Seg W B g d N c xs ex) (k : Nat) : Seg (W.drewN k) B g d N c xs ex := by
  obtain ⟨⟨tv, h1⟩, h2, h3, h4, h5⟩ := h
  exact ⟨⟨tv, h1.drewN k⟩, h2, h3, h4, h5⟩
theorem Load1_off (a : Int) (h : Seg W B g d N c xs ex) :
    Calls Try.prog 39 #[.pointer (some ⟨g, 0, none⟩), .int .u32 a] W fun e W' => e = .returned (.int .u32 (wordAt N a xs 1)) ∧ Seg W' B g d N c xs ex ∧ Below B W W' := by
  obtain ⟨⟨tv, h1⟩, h2, h3, h4, h5⟩ := h
  refine (Load1_any a h1 h2 h3.pow h4 h5).mono ?_
  rintro e W' ⟨rfl, tv', hO, hb⟩
  rw [notes_off] at hO
  exact ⟨rfl, ⟨⟨tv', hO⟩, Nat.le_trans h2 hb.size, h3, h4, h5⟩, hb⟩
theorem Store1_off (a v : Int) (h : Seg W B g d N c xs ex) (hv0 : 0 ≤ v) (hv1 : v < 4294967296) :
    Calls Try.prog 41 #[.pointer (some ⟨g, 0, none⟩), .int .u32 a, .int .u32 v] W fun e W' => e = .returned (.tuple #[]) ∧ Seg W' B g d N c (puts N a (bytes4 v) xs 1) ex ∧ Below B W W' := by
  obtain ⟨⟨tv, h1⟩, h2, h3, h4, h5⟩ := h
  refine (Store1_any a v h1 h2 h3.pow h4 hv0 hv1).mono ?_
  rintro e W' ⟨rfl, tv', hO, hb⟩
  rw [notes_off] at hO
  exact ⟨rfl, ⟨⟨tv', hO⟩, Nat.le_trans h2 hb.size, h3, by rw [puts_len, h4], puts_ok (bytes4_ok hv0 hv1) h5 _⟩, hb⟩
theorem Load2_off (a : Int) (h : Seg W B g d N c xs ex) :
    Calls Try.prog 38 #[.pointer (some ⟨g, 0, none⟩), .int .u32 a] W fun e W' => e = .returned (.int .u32 (wordAt N a xs 2)) ∧ Seg W' B g d N c xs ex ∧ Below B W W' := by
  obtain ⟨⟨tv, h1⟩, h2, h3, h4, h5⟩ := h
  refine (Load2_any a h1 h2 h3.pow h4 h5).mono ?_
  rintro e W' ⟨rfl, tv', hO, hb⟩
  rw [notes_off] at hO
  exact ⟨rfl, ⟨⟨tv', hO⟩, Nat.le_trans h2 hb.size, h3, h4, h5⟩, hb⟩
theorem Store2_off (a v : Int) (h : Seg W B g d N c xs ex) (hv0 : 0 ≤ v) (hv1 : v < 4294967296) :
    Calls Try.prog 40 #[.pointer (some ⟨g, 0, none⟩), .int .u32 a, .int .u32 v] W fun e W' => e = .returned (.tuple #[]) ∧ Seg W' B g d N c (puts N a (bytes4 v) xs 2) ex ∧ Below B W W' := by
  obtain ⟨⟨tv, h1⟩, h2, h3, h4, h5⟩ := h
  refine (Store2_any a v h1 h2 h3.pow h4 hv0 hv1).mono ?_
  rintro e W' ⟨rfl, tv', hO, hb⟩
  rw [notes_off] at hO
  exact ⟨rfl, ⟨⟨tv', hO⟩, Nat.le_trans h2 hb.size, h3, by rw [puts_len, h4], puts_ok (bytes4_ok hv0 hv1) h5 _⟩, hb⟩
theorem Load4_off (a : Int) (h : Seg W B g d N c xs ex) :
    Calls Try.prog 37 #[.pointer (some ⟨g, 0, none⟩), .int .u32 a] W fun e W' => e = .returned (.int .u32 (wordAt N a xs 4)) ∧ Seg W' B g d N c xs ex ∧ Below B W W' := by
  obtain ⟨⟨tv, h1⟩, h2, h3, h4, h5⟩ := h
  refine (Load4_any a h1 h2 h3.pow h4 h5).mono ?_
  rintro e W' ⟨rfl, tv', hO, hb⟩
  rw [notes_off] at hO
  exact ⟨rfl, ⟨⟨tv', hO⟩, Nat.le_trans h2 hb.size, h3, h4, h5⟩, hb⟩
theorem Store4_off (a v : Int) (h : Seg W B g d N c xs ex) (hv0 : 0 ≤ v) (hv1 : v < 4294967296) :
    Calls Try.prog 36 #[.pointer (some ⟨g, 0, none⟩), .int .u32 a, .int .u32 v] W fun e W' => e = .returned (.tuple #[]) ∧ Seg W' B g d N c (puts N a (bytes4 v) xs 4) ex ∧ Below B W W' := by
  obtain ⟨⟨tv, h1⟩, h2, h3, h4, h5⟩ := h
  refine (Store4_any a v h1 h2 h3.pow h4 hv0 hv1).mono ?_
  rintro e W' ⟨rfl, tv', hO, hb⟩
  rw [notes_off] at hO
  exact ⟨rfl, ⟨⟨tv', hO⟩, Nat.le_trans h2 hb.size, h3, by rw [puts_len, h4], puts_ok (bytes4_ok hv0 hv1) h5 _⟩, hb⟩
theorem Bytes_off (h : Seg W B g d N c xs ex) :
    Calls Try.prog 33 #[.pointer (some ⟨g, 0, none⟩)] W fun e W' => ∃ o co, e = .returned (.slice (some ⟨o, 0, none⟩) N co) ∧ W'.ownsRow W.heap.size 5 1 (.slice (some ⟨o, 0, none⟩) N co) N (u8s xs) ∧ Seg W' B g d N c xs ex ∧ Below W.heap.size W W' := by
  obtain ⟨⟨tv, h1⟩, h2, h3, h4, h5⟩ := h
  refine (Bytes_any h1 h3.pow).mono ?_
  rintro e W' ⟨o, co, rfl, hown, hb⟩
  exact ⟨o, co, rfl, hown, ⟨⟨tv, h1.below hb⟩, Nat.le_trans h2 hb.size, h3, h4, h5⟩, hb⟩
theorem Bits_off (b : Nat) (hb : b ≤ 16) (hNb : N = 2 ^ b) (h : Seg W B g d N c xs ex) :
    Calls Try.prog 75 #[.pointer (some ⟨g, 0, none⟩)] W fun e W' => e = .returned (.int .i64 b) ∧ Seg W' B g d N c xs ex ∧ Below B W W' := by
  have h0 := h
  obtain ⟨⟨tv, h1⟩, h2, h3, h4, h5⟩ := h
  refine (Bits_any b hb hNb h1).mono ?_
  rintro e W' ⟨rfl, nq, rfl⟩
  exact ⟨rfl, h0.drewN nq, below_draws2 (Below.refl _ _) nq⟩
end
def zeros256 : List Int := List.replicate 256 0
def awakeXs : List Int := puts 256 254 (bytes4 287454020) zeros256 4
theorem awake_words : wordAt 256 510 awakeXs 4 = 287454020 ∧ wordAt 256 255 awakeXs 2 = 8755 ∧ wordAt 256 4294967295 awakeXs 1 = 51 ∧ wordAt 256 1 awakeXs 1 = 17 := by decide +kernel
theorem ptr_eq (a : Addr) (w : World) : (binOp .eql 48 (.pointer (some a)) (.pointer none)).run Try.prog w = .ok (.bool false) w := by kernel_rfl
set_option maxRecDepth 100000 in
set_option maxHeartbeats 1000000 in
theorem awake_any (W : World) : Calls Try.prog 35 #[] W fun e W' => e = .returned (.bool true) ∧ Below W.heap.size W W' := by
  obtain ⟨e1, e2, e3, e4⟩ := awake_words
  have hn := hide_ (New_any (W := W) (B := W.heap.size) (ex := []) 8 (by omega) (by omega) (show 256 = 2 ^ 8 from rfl) (Owns.nil_) (Nat.le_refl _))
  go_enter Try.func35, Try.ntmps35
  go_wp2_with (go_at_call 47; refine hn.out.mono ?_; rintro e w1 ⟨g, d, c, rfl, hO1, hb1⟩)
  have hS1 : Seg w1 W.heap.size g d 256 c zeros256 [] := ⟨⟨_, hO1⟩, hb1.size, ⟨8, by omega, by omega, rfl⟩, by simp [zeros256], fun x hx => by rw [List.eq_of_mem_replicate hx]; omega⟩
  have h2 := hide_ (Bits_off 8 (by omega) (show 256 = 2 ^ 8 from rfl) hS1)
  clear hO1 hS1
  refine h2.out.mono ?_
  rintro e w2 ⟨rfl, hS2, hb2⟩
  have h3 := hide_ (Store4_off 254 287454020 hS2 (by omega) (by omega))
  have HB2 := hide_ (hb1.trans hb2)
  clear hS2 hb1 hb2
  go_wp2_with (go_at_call 36; refine h3.out.mono ?_; rintro e w3 ⟨rfl, hS3, hb3⟩)
  have h4 := Load4_off 510 hS3
  rw [show puts 256 254 (bytes4 287454020) zeros256 4 = awakeXs from rfl, e1] at h4
  have H4 := hide_ h4
  have HB3 := hide_ (HB2.out.trans hb3)
  clear h4 hS3 hb3
  refine H4.out.mono ?_
  rintro e w4 ⟨rfl, hS4, hb4⟩
  have h5 := Load2_off 255 hS4
  rw [e2] at h5
  have H5 := hide_ h5
  have HB4 := hide_ (HB3.out.trans hb4)
  clear h5 hS4 hb4
  go_wp2_with (go_at_call 38; refine H5.out.mono ?_; rintro e w5 ⟨rfl, hS5, hb5⟩)
  have h6 := Load1_off 4294967295 hS5
  rw [e3] at h6
  have H6 := hide_ h6
  have HB5 := hide_ (HB4.out.trans hb5)
  clear h6 hS5 hb5
  refine H6.out.mono ?_
  rintro e w6 ⟨rfl, hS6, hb6⟩
  have h7 := Load1_off 1 hS6
  rw [e4] at h7
  have H7 := hide_ h7
  have HB6 := hide_ (HB5.out.trans hb6)
  clear h7 hS6 hb6
  go_wp2_with (go_at_call 39; refine H7.out.mono ?_; rintro e w7 ⟨rfl, hS7, hb7⟩)
  go_ret
  exact ⟨rfl, HB6.out.trans hb7⟩
end Go.Proofs.Ytgppbdcnpailaaa
