/-
  A segment whose log is on: what each call notes, and that nothing else changes.
-/
import Derived.Test.YtgppbdcnpailaaaApply
namespace Go.Proofs.Ytgppbdcnpailaaa
open Go.RowKit

/-! ### the plain law -/
theorem notes_all (N : Nat) (wrt : Bool) (a : Int) (ts : List (Int × Bool)) : ∀ k, ts.length + k ≤ 65536 → notes N true wrt a ts k = ts ++ (List.range k).map fun j => (plc N a j, wrt) := by
  intro k
  induction k with
  | zero => intro _; simp [notes]
  | succ k ih =>
    intro h
    rw [notes, ih (by omega)]
    unfold noted
    rw [if_pos (by simp; omega), List.range_succ, List.map_append, ← List.append_assoc]
    rfl
structure Good (N : Nat) (xs xs' : List Int) (ts : List (Int × Bool)) : Prop where
  places : ∀ t ∈ ts, 0 ≤ t.1 ∧ t.1 < (N : Int)
  same : ∀ q : Nat, q < N → ((q : Int), true) ∉ ts → gt xs' q = gt xs q
  few : ts.length ≤ 65536
theorem Good.refl (N : Nat) (xs : List Int) : Good N xs xs [] := ⟨fun t h => absurd h (by simp), fun _ _ _ => rfl, by simp⟩
theorem puts_same {N : Nat} (h : IsPow N) {a : Int} {ys xs : List Int} (hx : xs.length = N) (q : Nat) : ∀ k, (∀ j, j < k → plc N a j ≠ q) → gt (puts N a ys xs k) q = gt xs q := by
  intro k
  induction k with
  | zero => intro _; rfl
  | succ k ih =>
    intro hq
    have hb := plc_bd h a k
    rw [puts, gt_set _ hb.1 (by rw [puts_len, hx]; exact hb.2) (by omega), if_neg (hq k (by omega))]
    exact ih (fun j hj => hq j (by omega))
theorem good_read {N : Nat} (h : IsPow N) (xs : List Int) (a : Int) (n : Nat) (hn : n ≤ 4096) : Good N xs xs (notes N true false a [] n) := by
  rw [notes_all _ _ _ _ _ (by simp; omega), List.nil_append]
  refine ⟨fun t ht => ?_, fun _ _ _ => rfl, by simp; omega⟩
  obtain ⟨j, _, rfl⟩ := List.mem_map.1 ht
  exact plc_bd h a j
theorem good_copy {N : Nat} (h : IsPow N) {xs : List Int} (hx : xs.length = N) (ys : List Int) (a f : Int) (n k : Nat) (hn : n ≤ 4096) (hk : k ≤ 4096) : Good N xs (puts N a ys xs n) (notes N true true a (notes N true false f [] k) n) := by
  have e : notes N true false f [] k = (List.range k).map fun j => (plc N f j, false) := by rw [notes_all _ _ _ _ _ (by simp; omega), List.nil_append]
  rw [e, notes_all _ _ _ _ _ (by simp; omega)]
  refine ⟨fun t ht => ?_, fun q hq hnot => ?_, by simp; omega⟩
  · rcases List.mem_append.1 ht with ht | ht
    · obtain ⟨j, _, rfl⟩ := List.mem_map.1 ht
      exact plc_bd h f j
    · obtain ⟨j, _, rfl⟩ := List.mem_map.1 ht
      exact plc_bd h a j
  · exact puts_same h hx q n (fun j hj e => hnot (List.mem_append_right _ (List.mem_map.2 ⟨j, List.mem_range.2 hj, by rw [e]⟩)))
theorem good_write {N : Nat} (h : IsPow N) {xs : List Int} (hx : xs.length = N) (ys : List Int) (a : Int) (n : Nat) (hn : n ≤ 4096) : Good N xs (puts N a ys xs n) (notes N true true a [] n) := good_copy h hx ys a 0 n 0 hn (by omega)

/-! ### the contracts -/
structure SegL (W : World) (B g d N c : Nat) (xs : List Int) (ts : List (Int × Bool)) (ex : List Ro) : Prop where
  own : ∃ tv, Owns W B (memRows g d N c true tv ts xs ++ ex)
  base : B ≤ W.heap.size
  seg : IsSeg N
  len : xs.length = N
  ok : bytesOk xs
section
variable {W : World} {B g d N c : Nat} {xs : List Int} {ex : List Ro}
def Tried (W W' : World) (B g d N c : Nat) (xs : List Int) (ex : List Ro) : Prop := ∃ xs' ts', SegL W' B g d N c xs' ts' ex ∧ Good N xs xs' ts' ∧ Below B W W'
theorem Tried.none (h : SegL W B g d N c xs [] ex) : Tried W W B g d N c xs ex := ⟨xs, [], h, Good.refl _ _, Below.refl _ _⟩
theorem SegL.below {W' : World} {ts : List (Int × Bool)} (h : SegL W B g d N c xs ts ex) (hb : Below W.heap.size W W') : SegL W' B g d N c xs ts ex := by
  obtain ⟨⟨tv, h1⟩, h2, h3, h4, h5⟩ := h
  exact ⟨⟨tv, h1.below hb⟩, Nat.le_trans h2 hb.size, h3, h4, h5⟩
theorem Load1_on (a : Int) (h : SegL W B g d N c xs [] ex) : Calls Try.prog 39 #[.pointer (some ⟨g, 0, none⟩), .int .u32 a] W fun e W' => ∃ z, e = .returned (.int .u32 z) ∧ Tried W W' B g d N c xs ex := by
  obtain ⟨⟨tv, h1⟩, h2, h3, h4, h5⟩ := h
  refine (Load1_any a h1 h2 h3.pow h4 h5).mono ?_
  rintro e W' ⟨rfl, tv', hO, hb⟩
  exact ⟨_, rfl, xs, _, ⟨⟨tv', hO⟩, Nat.le_trans h2 hb.size, h3, h4, h5⟩, good_read h3.pow _ _ _ (by omega), hb⟩
theorem Store1_on (a v : Int) (h : SegL W B g d N c xs [] ex) (hv0 : 0 ≤ v) (hv1 : v < 4294967296) : Calls Try.prog 41 #[.pointer (some ⟨g, 0, none⟩), .int .u32 a, .int .u32 v] W fun e W' => e = .returned (.tuple #[]) ∧ Tried W W' B g d N c xs ex := by
  obtain ⟨⟨tv, h1⟩, h2, h3, h4, h5⟩ := h
  refine (Store1_any a v h1 h2 h3.pow h4 hv0 hv1).mono ?_
  rintro e W' ⟨rfl, tv', hO, hb⟩
  exact ⟨rfl, _, _, ⟨⟨tv', hO⟩, Nat.le_trans h2 hb.size, h3, by rw [puts_len, h4], puts_ok (bytes4_ok hv0 hv1) h5 _⟩, good_write h3.pow h4 _ _ _ (by omega), hb⟩
theorem Load2_on (a : Int) (h : SegL W B g d N c xs [] ex) : Calls Try.prog 38 #[.pointer (some ⟨g, 0, none⟩), .int .u32 a] W fun e W' => ∃ z, e = .returned (.int .u32 z) ∧ Tried W W' B g d N c xs ex := by
  obtain ⟨⟨tv, h1⟩, h2, h3, h4, h5⟩ := h
  refine (Load2_any a h1 h2 h3.pow h4 h5).mono ?_
  rintro e W' ⟨rfl, tv', hO, hb⟩
  exact ⟨_, rfl, xs, _, ⟨⟨tv', hO⟩, Nat.le_trans h2 hb.size, h3, h4, h5⟩, good_read h3.pow _ _ _ (by omega), hb⟩
theorem Store2_on (a v : Int) (h : SegL W B g d N c xs [] ex) (hv0 : 0 ≤ v) (hv1 : v < 4294967296) : Calls Try.prog 40 #[.pointer (some ⟨g, 0, none⟩), .int .u32 a, .int .u32 v] W fun e W' => e = .returned (.tuple #[]) ∧ Tried W W' B g d N c xs ex := by
  obtain ⟨⟨tv, h1⟩, h2, h3, h4, h5⟩ := h
  refine (Store2_any a v h1 h2 h3.pow h4 hv0 hv1).mono ?_
  rintro e W' ⟨rfl, tv', hO, hb⟩
  exact ⟨rfl, _, _, ⟨⟨tv', hO⟩, Nat.le_trans h2 hb.size, h3, by rw [puts_len, h4], puts_ok (bytes4_ok hv0 hv1) h5 _⟩, good_write h3.pow h4 _ _ _ (by omega), hb⟩
theorem Load4_on (a : Int) (h : SegL W B g d N c xs [] ex) : Calls Try.prog 37 #[.pointer (some ⟨g, 0, none⟩), .int .u32 a] W fun e W' => ∃ z, e = .returned (.int .u32 z) ∧ Tried W W' B g d N c xs ex := by
  obtain ⟨⟨tv, h1⟩, h2, h3, h4, h5⟩ := h
  refine (Load4_any a h1 h2 h3.pow h4 h5).mono ?_
  rintro e W' ⟨rfl, tv', hO, hb⟩
  exact ⟨_, rfl, xs, _, ⟨⟨tv', hO⟩, Nat.le_trans h2 hb.size, h3, h4, h5⟩, good_read h3.pow _ _ _ (by omega), hb⟩
theorem Store4_on (a v : Int) (h : SegL W B g d N c xs [] ex) (hv0 : 0 ≤ v) (hv1 : v < 4294967296) : Calls Try.prog 36 #[.pointer (some ⟨g, 0, none⟩), .int .u32 a, .int .u32 v] W fun e W' => e = .returned (.tuple #[]) ∧ Tried W W' B g d N c xs ex := by
  obtain ⟨⟨tv, h1⟩, h2, h3, h4, h5⟩ := h
  refine (Store4_any a v h1 h2 h3.pow h4 hv0 hv1).mono ?_
  rintro e W' ⟨rfl, tv', hO, hb⟩
  exact ⟨rfl, _, _, ⟨⟨tv', hO⟩, Nat.le_trans h2 hb.size, h3, by rw [puts_len, h4], puts_ok (bytes4_ok hv0 hv1) h5 _⟩, good_write h3.pow h4 _ _ _ (by omega), hb⟩
theorem Write_on (a : Int) (A : Option Addr) (n cb Bz : Nat) (bs : List Int) (h : SegL W B g d N c xs [] ex) (h0 : 0 ≤ a) (h1 : a ≤ 4294967295) (hr : Reads W Bz 1 A n (u8s bs)) (hBz : Bz ≤ B) (hok : bytesOk bs) :
    Calls Try.prog 42 #[.pointer (some ⟨g, 0, none⟩), .int .u32 a, .slice A n cb] W fun e W' => ∃ z, e = .returned (.int .i64 z) ∧ Tried W W' B g d N c xs ex := by
  have h00 := h
  obtain ⟨⟨tv, hO⟩, h2, h3, h4, h5⟩ := h
  have hbl : bs.length = n := by simpa using hr.1
  have hm := hide_ (made_any g d N c W (hO.cell (i := 0) rfl rfl) h3.pow.bd.1)
  have H00 := hide_ h00
  by_cases hn : n ≤ 4096
  · have hw := hide_ (write_any (W := W) a A n cb bs hO h2 h3.pow h4 h0 h1 hbl hn (fun W1 _ _ _ _ _ hb => (hr.below (hb.mono hBz)).more (by have := hb.size; omega)))
    have d1 : decide ((4096 : Int) < (n : Int)) = false := by simp; omega
    have H4 := hide_ h4
    have H5 := hide_ h5
    clear hO hr h4 h5 h00
    go_enter Try.func42, Try.ntmps42
    go_wp2_with (first
      | (go_at_call 76; refine hm.out.mono ?_; rintro e w' ⟨rfl, rfl⟩)
      | (go_at_call 79; refine hw.out.mono ?_; rintro e w4 ⟨rfl, tv4, hO4, hb4⟩))
    go_ret
    exact ⟨_, rfl, _, _, ⟨⟨tv4, hO4⟩, Nat.le_trans h2 hb4.size, h3, by rw [puts_len, H4.out], puts_ok hok H5.out _⟩, good_write h3.pow H4.out _ _ _ hn, hb4⟩
  · have d1 : decide ((4096 : Int) < (n : Int)) = true := by simp; omega
    clear hO hr h4 h5 h00 hn
    go_enter Try.func42, Try.ntmps42
    go_wp2_with (go_at_call 76; refine hm.out.mono ?_; rintro e w' ⟨rfl, rfl⟩)
    go_ret
    exact ⟨_, rfl, Tried.none H00.out⟩
theorem Read_on (a n : Int) (h : SegL W B g d N c xs [] ex) (h0 : 0 ≤ a) (h1 : a ≤ 4294967295) :
    Calls Try.prog 43 #[.pointer (some ⟨g, 0, none⟩), .int .u32 a, .int .i64 n] W fun e W' => ∃ z, e = .returned z ∧ Tried W W' B g d N c xs ex := by
  have h00 := h
  obtain ⟨⟨tv, hO⟩, h2, h3, h4, h5⟩ := h
  have hm := hide_ (made_any g d N c W (hO.cell (i := 0) rfl rfl) h3.pow.bd.1)
  have H00 := hide_ h00
  by_cases hneg : n < 0
  · have d2 : decide (n < 0) = true := by simp; omega
    clear hO h4 h5 h00 hneg
    go_enter Try.func43, Try.ntmps43
    go_wp2_with (go_at_call 76; refine hm.out.mono ?_; rintro e w' ⟨rfl, rfl⟩)
    go_ret2
    exact ⟨_, rfl, Tried.none H00.out⟩
  · have d2 : decide (n < 0) = false := by simp; omega
    by_cases hbig : 4096 < n
    · have d1 : decide ((4096 : Int) < n) = true := by simp; omega
      clear hO h4 h5 h00 hneg hbig
      go_enter Try.func43, Try.ntmps43
      go_wp2_with (go_at_call 76; refine hm.out.mono ?_; rintro e w' ⟨rfl, rfl⟩)
      go_ret2
      exact ⟨_, rfl, Tried.none H00.out⟩
    · obtain ⟨m, rfl⟩ := Int.eq_ofNat_of_zero_le (show 0 ≤ n by omega)
      have hm4 : m ≤ 4096 := by omega
      have d1 : decide ((4096 : Int) < (m : Int)) = false := by simp; omega
      have hw := hide_ (read_any (W := W) a m hO h2 h3.pow h4 h0 h1 hm4)
      have H4 := hide_ h4
      have H5 := hide_ h5
      clear hO h4 h5 h00 hneg hbig
      go_enter Try.func43, Try.ntmps43
      go_wp2_with (first
        | (go_at_call 76; refine hm.out.mono ?_; rintro e w' ⟨rfl, rfl⟩)
        | (go_at_call 80; refine hw.out.mono ?_; rintro e w4 ⟨o, tv4, rfl, hO4, hb4⟩))
      go_ret2
      exact ⟨_, rfl, xs, _, ⟨⟨tv4, hO4.sub ((List.Sublist.refl _).append (.cons _ (.refl _)))⟩, Nat.le_trans h2 hb4.size, h3, H4.out, H5.out⟩, good_read h3.pow _ _ _ hm4, hb4⟩
theorem Copy_on (a f n : Int) (h : SegL W B g d N c xs [] ex) (a0 : 0 ≤ a) (a1 : a ≤ 4294967295) (f0 : 0 ≤ f) (f1 : f ≤ 4294967295) (n0 : 0 ≤ n) :
    Calls Try.prog 44 #[.pointer (some ⟨g, 0, none⟩), .int .u32 a, .int .u32 f, .int .u32 n] W fun e W' => ∃ z, e = .returned (.int .i64 z) ∧ Tried W W' B g d N c xs ex := by
  have h00 := h
  obtain ⟨⟨tv, hO⟩, h2, h3, h4, h5⟩ := h
  have hm := hide_ (made_any g d N c W (hO.cell (i := 0) rfl rfl) h3.pow.bd.1)
  have H00 := hide_ h00
  by_cases hbig : 4096 < n
  · have d1 : decide ((4096 : Int) < n) = true := by simp; omega
    clear hO h4 h5 h00 hbig
    go_enter Try.func44, Try.ntmps44
    go_wp2_with (go_at_call 76; refine hm.out.mono ?_; rintro e w' ⟨rfl, rfl⟩)
    go_ret
    exact ⟨_, rfl, Tried.none H00.out⟩
  · obtain ⟨m, rfl⟩ := Int.eq_ofNat_of_zero_le n0
    have hn : m ≤ 4096 := by omega
    have hr := hide_ (read_any (W := W) f m hO h2 h3.pow h4 f0 f1 hn)
    have hw := hide_ (fun (W1 : World) (o : Nat) (tv1 : Value) (hO1 : Owns W1 B (memRows g d N c true tv1 (notes N true false f [] m) xs ++ (outR o m m (readN N f xs m) :: ex))) (hb1 : Below B W W1) =>
      write_any (W := W1) a (some ⟨o, 0, none⟩) m m (readN N f xs m) hO1 (Nat.le_trans h2 hb1.size) h3.pow h4 a0 a1 (readN_len _ _ _ _) hn (fun W2 _ _ _ ex' hO2 _ => Reads.of_own (hO2.1 (outR o m m (readN N f xs m)) (by simp))))
    have d1 : decide ((4096 : Int) < (m : Int)) = false := by simp; omega
    have H4 := hide_ h4
    have H5 := hide_ h5
    clear hO h4 h5 h00 hbig
    go_enter Try.func44, Try.ntmps44
    go_wp2_with (first
      | (go_at_call 76; refine hm.out.mono ?_; rintro e w' ⟨rfl, rfl⟩)
      | (go_at_call 80; refine hr.out.mono ?_; rintro e w3 ⟨o, tv3, rfl, hO3, hb3⟩)
      | (go_at_call 79; refine (hw.out _ _ _ hO3 hb3).mono ?_; rintro e w4 ⟨rfl, tv4, hO4, hb4⟩))
    go_ret
    exact ⟨_, rfl, _, _, ⟨⟨tv4, hO4.sub ((List.Sublist.refl _).append (.cons _ (.refl _)))⟩, Nat.le_trans h2 (Nat.le_trans hb3.size hb4.size), h3, by rw [puts_len, H4.out], puts_ok (readN_ok H5.out _) H5.out _⟩, good_copy h3.pow H4.out _ _ _ _ _ hn hn, hb3.trans hb4⟩
end
end Go.Proofs.Ytgppbdcnpailaaa
