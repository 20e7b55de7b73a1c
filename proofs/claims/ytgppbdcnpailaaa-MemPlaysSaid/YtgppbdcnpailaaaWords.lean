/-
  The walk of playpenlaw09's words: a word is read or written, by the segment and by the document's.
-/
import Derived.Test.YtgppbdcnpailaaaRefD
import Derived.Test.YtgppbdcnpailaaaTried
namespace Go.Proofs.Ytgppbdcnpailaaa
open Go.RowKit
set_option linter.unusedVariables false

theorem noted_len {on wrt : Bool} {ts : List (Int × Bool)} {p : Int} (h : ts.length ≤ 65536) : (noted on wrt ts p).length ≤ 65536 := by
  unfold noted
  split
  · next hc =>
    simp only [Bool.and_eq_true, decide_eq_true_eq] at hc
    rw [List.length_append, List.length_singleton]
    omega
  · exact h
theorem notes_len {N : Nat} {on wrt : Bool} {a : Int} {ts : List (Int × Bool)} (h : ts.length ≤ 65536) : ∀ k, (notes N on wrt a ts k).length ≤ 65536
  | 0 => h
  | k + 1 => by rw [notes]; exact noted_len (notes_len h k)
/-- a segment beside the document's, with the same bytes and the same log -/
def Pair (W : World) (B g d c r b rc N : Nat) (on : Bool) (ts : List (Int × Bool)) (xs : List Int) (ex : List Ro) : Prop :=
  ∃ tv lv, Owns W B (memRows g d N c on tv ts xs ++ (refRows r b N rc on lv ts xs ++ ex))
def Stay (W : World) (B g d c r b rc N : Nat) (ex : List Ro) : Prop :=
  ∃ on ts xs, Pair W B g d c r b rc N on ts xs ex ∧ xs.length = N ∧ bytesOk xs ∧ ts.length ≤ 65536
section
variable {W : World} {B g d c r b rc N : Nat} {on : Bool} {ts : List (Int × Bool)} {xs : List Int} {ex : List Ro} {tv lv : Value}
theorem Owns.turned {w : World} {l1 l2 l3 : List Ro} (h : Owns w B (l1 ++ (l2 ++ l3))) : Owns w B (l2 ++ (l1 ++ l3)) := by
  refine h.swap ?_
  rw [← List.append_assoc, ← List.append_assoc]
  exact List.perm_append_comm.append_right l3
theorem bytes4_okk {v : Int} (h0 : 0 ≤ v) (h1 : v < 4294967296) : bytesOk (bytes4 v) := bytes4_ok h0 h1
theorem bst {a b w : World} (h : Below a.heap.size a b) (h2 : Below b.heap.size b w) : Below a.heap.size a w := h.trans (h2.mono h.size)
theorem words_none (qv : Value) (x : StepV) (W : World) (hx : StepOk W W.heap.size x) :
    Calls Try.prog 84 #[qv, .agg (stepCells x).toArray, .pointer none, .pointer none] W fun e W' => e = .returned (.bool true) ∧ Below W.heap.size W W' := by
  obtain ⟨dd, sa, sb, p, v, n, sn, A, l, cc, zs⟩ := x
  have hW1 : Below W.heap.size W (W.alloc (.cells (stepCells ⟨dd, sa, sb, p, v, n, sn, A, l, cc, zs⟩).toArray 79)) := (Below.refl _ _).alloc (Nat.le_refl _) _
  have k0 : Blk (W.alloc (.cells (stepCells ⟨dd, sa, sb, p, v, n, sn, A, l, cc, zs⟩).toArray 79)) W.heap.size 79 (stepCells ⟨dd, sa, sb, p, v, n, sn, A, l, cc, zs⟩).toArray := Blk.new W _ _
  obtain ⟨W1, hw⟩ : ∃ W1, W1 = W.alloc (.cells (stepCells ⟨dd, sa, sb, p, v, n, sn, A, l, cc, zs⟩).toArray 79) := ⟨_, rfl⟩
  rw [← hw] at hW1 k0
  have HB := hide_ hW1
  have HK : Hid (∀ W2, Below W1.heap.size W1 W2 → W2.cell? ⟨W.heap.size, 3, none⟩ = some (.int .u32 p) ∧ W2.cell? ⟨W.heap.size, 4, none⟩ = some (.int .u32 v) ∧ Below W1.heap.size W1 W2) := hide_ fun W2 h =>
    ⟨(h.cell (p := ⟨W.heap.size, 3, none⟩) k0.lt).trans (k0.cell 3), (h.cell (p := ⟨W.heap.size, 4, none⟩) k0.lt).trans (k0.cell 4), h⟩
  have c0 := k0.cell 0
  have c3 := k0.cell 3
  have c4 := k0.cell 4
  have cl := k0.lt
  unfold stepCells at *
  have HW := hide_ hw
  clear k0 hW1 hx hw
  rcases (show dd = 2 ∨ dd = 3 ∨ dd = 4 ∨ dd = 5 ∨ dd = 6 ∨ dd = 7 ∨ (dd ≠ 2 ∧ dd ≠ 3 ∧ dd ≠ 4 ∧ dd ≠ 5 ∧ dd ≠ 6 ∧ dd ≠ 7) by omega) with rfl | rfl | rfl | rfl | rfl | rfl | ⟨h2, h3, h4, h5, h6, h7⟩
  · have H1 := hide_ (fun (W2 : World) => Load1_not p (W := W2) (P := none) (.inl rfl))
    have H2 := hide_ (fun (W2 : World) => rLoad_nil p 1 W2)
    go_enter Try.func84, Try.ntmps84
    go_wp2_with fail
    rw [← HW.out]
    go_wp2_with fail
    go_region_held3 (fun W' => W'.cell? ⟨W.heap.size, 3, none⟩ = some (.int .u32 p) ∧ W'.cell? ⟨W.heap.size, 4, none⟩ = some (.int .u32 v) ∧ Below W1.heap.size W1 W')
      (first | exact HK.out _ (Below.refl _ _).drew | exact HK.out _ HB9.out)
      ((first
        | (go_at_call 39; go_split_ands; refine (H1.out _).mono ?_; rintro e w9 ⟨rfl, hb9⟩; have hbq : Below W1.heap.size W1 w9 := bst (by assumption) hb9; have HB9 := hide_ hbq; clear hb9 hbq)
        | (go_at_call 121; refine (H2.out _).mono ?_; rintro e w8 ⟨rfl, hw8⟩; subst w8)))
    go_wp2
    go_ret
    exact ⟨rfl, HB.out.trans (HB9.out.mono HB.out.size)⟩
  · have H1 := hide_ (fun (W2 : World) => Load2_not p (W := W2) (P := none) (.inl rfl))
    have H2 := hide_ (fun (W2 : World) => rLoad_nil p 2 W2)
    go_enter Try.func84, Try.ntmps84
    go_wp2_with fail
    rw [← HW.out]
    go_wp2_with fail
    go_region_held3 (fun W' => W'.cell? ⟨W.heap.size, 3, none⟩ = some (.int .u32 p) ∧ W'.cell? ⟨W.heap.size, 4, none⟩ = some (.int .u32 v) ∧ Below W1.heap.size W1 W')
      (first | exact HK.out _ (Below.refl _ _).drew | exact HK.out _ HB9.out)
      ((first
        | (go_at_call 38; go_split_ands; refine (H1.out _).mono ?_; rintro e w9 ⟨rfl, hb9⟩; have hbq : Below W1.heap.size W1 w9 := bst (by assumption) hb9; have HB9 := hide_ hbq; clear hb9 hbq)
        | (go_at_call 121; refine (H2.out _).mono ?_; rintro e w8 ⟨rfl, hw8⟩; subst w8)))
    go_wp2
    go_ret
    exact ⟨rfl, HB.out.trans (HB9.out.mono HB.out.size)⟩
  · have H1 := hide_ (fun (W2 : World) => Load4_not p (W := W2) (P := none) (.inl rfl))
    have H2 := hide_ (fun (W2 : World) => rLoad_nil p 4 W2)
    go_enter Try.func84, Try.ntmps84
    go_wp2_with fail
    rw [← HW.out]
    go_wp2_with fail
    go_region_held3 (fun W' => W'.cell? ⟨W.heap.size, 3, none⟩ = some (.int .u32 p) ∧ W'.cell? ⟨W.heap.size, 4, none⟩ = some (.int .u32 v) ∧ Below W1.heap.size W1 W')
      (first | exact HK.out _ (Below.refl _ _).drew | exact HK.out _ HB9.out)
      ((first
        | (go_at_call 37; go_split_ands; refine (H1.out _).mono ?_; rintro e w9 ⟨rfl, hb9⟩; have hbq : Below W1.heap.size W1 w9 := bst (by assumption) hb9; have HB9 := hide_ hbq; clear hb9 hbq)
        | (go_at_call 121; refine (H2.out _).mono ?_; rintro e w8 ⟨rfl, hw8⟩; subst w8)))
    go_wp2
    go_ret
    exact ⟨rfl, HB.out.trans (HB9.out.mono HB.out.size)⟩
  · have H1 := hide_ (fun (W2 : World) => Store1_not p v (W := W2) (P := none) (.inl rfl))
    have H2 := hide_ (fun (W2 : World) => rStore_nil p v 1 W2)
    go_enter Try.func84, Try.ntmps84
    go_wp2_with fail
    rw [← HW.out]
    go_wp2_with fail
    refine (H1.out _).mono ?_
    rintro e w9 ⟨rfl, hb9⟩
    obtain ⟨d3, d4, _⟩ := HK.out _ hb9
    have HB9 := hide_ hb9
    clear hb9
    go_wp2_with fail
    refine (H2.out _).mono ?_
    rintro e w8 ⟨rfl, hw8⟩
    subst w8
    go_wp2
    go_ret
    exact ⟨rfl, HB.out.trans (HB9.out.mono HB.out.size)⟩
  · have H1 := hide_ (fun (W2 : World) => Store2_not p v (W := W2) (P := none) (.inl rfl))
    have H2 := hide_ (fun (W2 : World) => rStore_nil p v 2 W2)
    go_enter Try.func84, Try.ntmps84
    go_wp2_with fail
    rw [← HW.out]
    go_wp2_with fail
    refine (H1.out _).mono ?_
    rintro e w9 ⟨rfl, hb9⟩
    obtain ⟨d3, d4, _⟩ := HK.out _ hb9
    have HB9 := hide_ hb9
    clear hb9
    go_wp2_with fail
    refine (H2.out _).mono ?_
    rintro e w8 ⟨rfl, hw8⟩
    subst w8
    go_wp2
    go_ret
    exact ⟨rfl, HB.out.trans (HB9.out.mono HB.out.size)⟩
  · have H1 := hide_ (fun (W2 : World) => Store4_not p v (W := W2) (P := none) (.inl rfl))
    have H2 := hide_ (fun (W2 : World) => rStore_nil p v 4 W2)
    go_enter Try.func84, Try.ntmps84
    go_wp2_with fail
    rw [← HW.out]
    go_wp2_with fail
    refine (H1.out _).mono ?_
    rintro e w9 ⟨rfl, hb9⟩
    obtain ⟨d3, d4, _⟩ := HK.out _ hb9
    have HB9 := hide_ hb9
    clear hb9
    go_wp2_with fail
    refine (H2.out _).mono ?_
    rintro e w8 ⟨rfl, hw8⟩
    subst w8
    go_wp2
    go_ret
    exact ⟨rfl, HB.out.trans (HB9.out.mono HB.out.size)⟩
  · have e2 : (dd == 2) = false := by simp [h2]
    have e3 : (dd == 3) = false := by simp [h3]
    have e4 : (dd == 4) = false := by simp [h4]
    have e5 : (dd == 5) = false := by simp [h5]
    have e6 : (dd == 6) = false := by simp [h6]
    have e7 : (dd == 7) = false := by simp [h7]
    clear h2 h3 h4 h5 h6 h7
    go_enter Try.func84, Try.ntmps84
    go_wp2_with fail
    rw [← HW.out]
    go_wp2
    go_ret
    exact ⟨rfl, HB.out⟩
set_option maxHeartbeats 1000000 in
theorem words_some (qv : Value) (x : StepV) (hx : StepOk W W.heap.size x) (hO : Owns W B (memRows g d N c on tv ts xs ++ (refRows r b N rc on lv ts xs ++ ex))) (hB : B ≤ W.heap.size) (hN : IsSeg N) (hl : xs.length = N) (hok : bytesOk xs) (ht : ts.length ≤ 65536) :
    Calls Try.prog 84 #[qv, .agg (stepCells x).toArray, .pointer (some ⟨g, 0, none⟩), .pointer (some ⟨r, 0, none⟩)] W fun e W' => e = .returned (.bool true) ∧ Stay W' B g d c r b rc N ex ∧ Below B W W' := by
  obtain ⟨dd, sa, sb, p, v, n, sn, A, l, cc, zs⟩ := x
  obtain ⟨_, _, _, ⟨p0, p1⟩, ⟨v0, v1⟩, _, _, _, _⟩ := hx
  simp only at p0 p1 v0 v1
  have hW1 : Below B W (W.alloc (.cells (stepCells ⟨dd, sa, sb, p, v, n, sn, A, l, cc, zs⟩).toArray 79)) := (Below.refl _ _).alloc hB _
  have hO1 := hO.box 79 (stepCells ⟨dd, sa, sb, p, v, n, sn, A, l, cc, zs⟩).toArray hB (by simp [stepCells, maxLen])
  have k0 : Blk (W.alloc (.cells (stepCells ⟨dd, sa, sb, p, v, n, sn, A, l, cc, zs⟩).toArray 79)) W.heap.size 79 (stepCells ⟨dd, sa, sb, p, v, n, sn, A, l, cc, zs⟩).toArray := Blk.new W _ _
  obtain ⟨W1, hw⟩ : ∃ W1, W1 = W.alloc (.cells (stepCells ⟨dd, sa, sb, p, v, n, sn, A, l, cc, zs⟩).toArray 79) := ⟨_, rfl⟩
  rw [← hw] at hW1 k0 hO1
  obtain ⟨sr, hsr⟩ : ∃ sr : Ro, sr = stepBox W.heap.size ⟨dd, sa, sb, p, v, n, sn, A, l, cc, zs⟩ := ⟨_, rfl⟩
  have hO2 : Owns W1 B (memRows g d N c on tv ts xs ++ (refRows r b N rc on lv ts xs ++ (sr :: ex))) := by
    rw [hsr]
    refine hO1.swap ?_
    rw [← List.append_assoc, ← List.append_assoc, List.append_assoc _ ex]
    exact List.perm_append_comm.append_left _
  have HC : Hid (∀ W2 l1 l2, Owns W2 B (l1 ++ (l2 ++ (sr :: ex))) → W2.cell? ⟨W.heap.size, 3, none⟩ = some (.int .u32 p) ∧ W2.cell? ⟨W.heap.size, 4, none⟩ = some (.int .u32 v)) := hide_ fun W2 l1 l2 h => by
    have h' := h.swap (qs := sr :: (l1 ++ (l2 ++ ex))) (by
      rw [← List.append_assoc, ← List.append_assoc]
      exact List.perm_middle)
    subst hsr
    exact ⟨h'.cell (i := 0) rfl rfl, h'.cell (i := 0) rfl rfl⟩
  have HFIN : Hid (∀ W2 tv' lv' ts' xs', Owns W2 B (refRows r b N rc on lv' ts' xs' ++ (memRows g d N c on tv' ts' xs' ++ (sr :: ex))) → xs'.length = N → bytesOk xs' → ts'.length ≤ 65536 → Stay W2 B g d c r b rc N ex) := hide_ fun W2 tv' lv' ts' xs' h h1 h2 h3 =>
    ⟨on, ts', xs', ⟨tv', lv', h.turned.sub ((List.Sublist.refl _).append ((List.Sublist.refl _).append (.cons _ (.refl _))))⟩, h1, h2, h3⟩
  have c0 := k0.cell 0
  have c3 := k0.cell 3
  have c4 := k0.cell 4
  have cl := k0.lt
  have HB := hide_ hW1
  have HB0 := hide_ hB
  have HB1 := hide_ (Nat.le_trans hB (show W.heap.size ≤ W1.heap.size from by omega))
  have HO := hide_ hO2
  have HN := hide_ hN
  have HL := hide_ hl
  have HOK := hide_ hok
  have HT := hide_ ht
  have HW := hide_ hw
  unfold stepCells at *
  clear k0 hW1 hO1 hO2 hO hB hN hl hok ht hw hsr
  rcases (show dd = 2 ∨ dd = 3 ∨ dd = 4 ∨ dd = 5 ∨ dd = 6 ∨ dd = 7 ∨ (dd ≠ 2 ∧ dd ≠ 3 ∧ dd ≠ 4 ∧ dd ≠ 5 ∧ dd ≠ 6 ∧ dd ≠ 7) by omega) with rfl | rfl | rfl | rfl | rfl | rfl | ⟨h2, h3, h4, h5, h6, h7⟩
  · have H1 := hide_ (fun (W2 : World) (h : Owns W2 B (memRows g d N c on tv ts xs ++ (refRows r b N rc on lv ts xs ++ (sr :: ex)))) (hb : B ≤ W2.heap.size) => Load1_any (W := W2) p h hb HN.out.pow HL.out HOK.out)
    have H2 := hide_ (fun (W2 : World) (tv' : Value) (h : Owns W2 B (memRows g d N c on tv' (notes N on false p ts 1) xs ++ (refRows r b N rc on lv ts xs ++ (sr :: ex)))) (hb : B ≤ W2.heap.size) => rLoad_any (W := W2) p 1 h.turned hb HN.out.pow HL.out HOK.out p0 (by omega) (by omega))
    go_enter Try.func84, Try.ntmps84
    go_wp2_with fail
    rw [← HW.out]
    go_wp2_with fail
    go_region_held3 (fun W' => W'.cell? ⟨W.heap.size, 3, none⟩ = some (.int .u32 p))
      (first | exact (HC.out _ _ _ HO.out).1 | exact (HC.out _ _ _ HO9.out).1 | exact (HC.out _ _ _ HO8.out).1)
      ((first
        | (go_at_call 39; refine (H1.out _ (by exact HO.out) (by exact HB1.out)).mono ?_; rintro e w9 ⟨rfl, tv9, hO9, hb9⟩; have HO9 := hide_ hO9; have HB9 : Hid (Below B W w9) := (by first | exact hide_ (HB.out.trans hb9) | exact hide_ (HB.out.drew.trans hb9)); clear hO9 hb9)
        | (go_at_call 121; refine (H2.out _ tv9 (by exact HO9.out) (by exact Nat.le_trans HB0.out HB9.out.size)).mono ?_; rintro e w8 ⟨rfl, ⟨lv8, hO8⟩, hb8⟩; have HO8 := hide_ hO8; have HB8 : Hid (Below B W w8) := (by first | exact hide_ (HB9.out.trans hb8) | exact hide_ (HB9.out.drew.trans hb8)); clear hO8 hb8)))
    go_wp2
    go_ret
    exact ⟨by simp, HFIN.out _ _ _ _ _ HO8.out HL.out HOK.out (notes_len HT.out _), HB8.out⟩
  · have H1 := hide_ (fun (W2 : World) (h : Owns W2 B (memRows g d N c on tv ts xs ++ (refRows r b N rc on lv ts xs ++ (sr :: ex)))) (hb : B ≤ W2.heap.size) => Load2_any (W := W2) p h hb HN.out.pow HL.out HOK.out)
    have H2 := hide_ (fun (W2 : World) (tv' : Value) (h : Owns W2 B (memRows g d N c on tv' (notes N on false p ts 2) xs ++ (refRows r b N rc on lv ts xs ++ (sr :: ex)))) (hb : B ≤ W2.heap.size) => rLoad_any (W := W2) p 2 h.turned hb HN.out.pow HL.out HOK.out p0 (by omega) (by omega))
    go_enter Try.func84, Try.ntmps84
    go_wp2_with fail
    rw [← HW.out]
    go_wp2_with fail
    go_region_held3 (fun W' => W'.cell? ⟨W.heap.size, 3, none⟩ = some (.int .u32 p))
      (first | exact (HC.out _ _ _ HO.out).1 | exact (HC.out _ _ _ HO9.out).1 | exact (HC.out _ _ _ HO8.out).1)
      ((first
        | (go_at_call 38; refine (H1.out _ (by exact HO.out) (by exact HB1.out)).mono ?_; rintro e w9 ⟨rfl, tv9, hO9, hb9⟩; have HO9 := hide_ hO9; have HB9 : Hid (Below B W w9) := (by first | exact hide_ (HB.out.trans hb9) | exact hide_ (HB.out.drew.trans hb9)); clear hO9 hb9)
        | (go_at_call 121; refine (H2.out _ tv9 (by exact HO9.out) (by exact Nat.le_trans HB0.out HB9.out.size)).mono ?_; rintro e w8 ⟨rfl, ⟨lv8, hO8⟩, hb8⟩; have HO8 := hide_ hO8; have HB8 : Hid (Below B W w8) := (by first | exact hide_ (HB9.out.trans hb8) | exact hide_ (HB9.out.drew.trans hb8)); clear hO8 hb8)))
    go_wp2
    go_ret
    exact ⟨by simp, HFIN.out _ _ _ _ _ HO8.out HL.out HOK.out (notes_len HT.out _), HB8.out⟩
  · have H1 := hide_ (fun (W2 : World) (h : Owns W2 B (memRows g d N c on tv ts xs ++ (refRows r b N rc on lv ts xs ++ (sr :: ex)))) (hb : B ≤ W2.heap.size) => Load4_any (W := W2) p h hb HN.out.pow HL.out HOK.out)
    have H2 := hide_ (fun (W2 : World) (tv' : Value) (h : Owns W2 B (memRows g d N c on tv' (notes N on false p ts 4) xs ++ (refRows r b N rc on lv ts xs ++ (sr :: ex)))) (hb : B ≤ W2.heap.size) => rLoad_any (W := W2) p 4 h.turned hb HN.out.pow HL.out HOK.out p0 (by omega) (by omega))
    go_enter Try.func84, Try.ntmps84
    go_wp2_with fail
    rw [← HW.out]
    go_wp2_with fail
    go_region_held3 (fun W' => W'.cell? ⟨W.heap.size, 3, none⟩ = some (.int .u32 p))
      (first | exact (HC.out _ _ _ HO.out).1 | exact (HC.out _ _ _ HO9.out).1 | exact (HC.out _ _ _ HO8.out).1)
      ((first
        | (go_at_call 37; refine (H1.out _ (by exact HO.out) (by exact HB1.out)).mono ?_; rintro e w9 ⟨rfl, tv9, hO9, hb9⟩; have HO9 := hide_ hO9; have HB9 : Hid (Below B W w9) := (by first | exact hide_ (HB.out.trans hb9) | exact hide_ (HB.out.drew.trans hb9)); clear hO9 hb9)
        | (go_at_call 121; refine (H2.out _ tv9 (by exact HO9.out) (by exact Nat.le_trans HB0.out HB9.out.size)).mono ?_; rintro e w8 ⟨rfl, ⟨lv8, hO8⟩, hb8⟩; have HO8 := hide_ hO8; have HB8 : Hid (Below B W w8) := (by first | exact hide_ (HB9.out.trans hb8) | exact hide_ (HB9.out.drew.trans hb8)); clear hO8 hb8)))
    go_wp2
    go_ret
    exact ⟨by simp, HFIN.out _ _ _ _ _ HO8.out HL.out HOK.out (notes_len HT.out _), HB8.out⟩
  · have H1 := hide_ (fun (W2 : World) (h : Owns W2 B (memRows g d N c on tv ts xs ++ (refRows r b N rc on lv ts xs ++ (sr :: ex)))) (hb : B ≤ W2.heap.size) => Store1_any (W := W2) p v h hb HN.out.pow HL.out v0 v1)
    have H2 := hide_ (fun (W2 : World) (tv' : Value) (h : Owns W2 B (memRows g d N c on tv' (notes N on true p ts 1) (puts N p (bytes4 v) xs 1) ++ (refRows r b N rc on lv ts xs ++ (sr :: ex)))) (hb : B ≤ W2.heap.size) => rStore_any (W := W2) p v 1 h.turned hb HN.out.pow HL.out p0 (by omega) (by omega) v0 v1)
    go_enter Try.func84, Try.ntmps84
    go_wp2_with fail
    rw [← HW.out]
    go_wp2_with fail
    refine (H1.out _ HO.out HB1.out).mono ?_
    rintro e w9 ⟨rfl, tv9, hO9, hb9⟩
    obtain ⟨d3, d4⟩ := HC.out _ _ _ hO9
    have H2' := hide_ (H2.out _ tv9 hO9 (Nat.le_trans HB1.out hb9.size))
    have HB9 := hide_ (HB.out.trans hb9)
    clear hO9 hb9
    go_wp2_with fail
    refine H2'.out.mono ?_
    rintro e w8 ⟨rfl, ⟨lv8, hO8⟩, hb8⟩
    have HO8 := hide_ hO8
    have HB8 := hide_ (HB9.out.trans hb8)
    clear hO8 hb8
    go_wp2
    go_ret
    exact ⟨rfl, HFIN.out _ _ _ _ _ HO8.out (by rw [puts_len, HL.out]) (puts_ok (bytes4_ok v0 v1) HOK.out _) (notes_len HT.out _), HB8.out⟩
  · have H1 := hide_ (fun (W2 : World) (h : Owns W2 B (memRows g d N c on tv ts xs ++ (refRows r b N rc on lv ts xs ++ (sr :: ex)))) (hb : B ≤ W2.heap.size) => Store2_any (W := W2) p v h hb HN.out.pow HL.out v0 v1)
    have H2 := hide_ (fun (W2 : World) (tv' : Value) (h : Owns W2 B (memRows g d N c on tv' (notes N on true p ts 2) (puts N p (bytes4 v) xs 2) ++ (refRows r b N rc on lv ts xs ++ (sr :: ex)))) (hb : B ≤ W2.heap.size) => rStore_any (W := W2) p v 2 h.turned hb HN.out.pow HL.out p0 (by omega) (by omega) v0 v1)
    go_enter Try.func84, Try.ntmps84
    go_wp2_with fail
    rw [← HW.out]
    go_wp2_with fail
    refine (H1.out _ HO.out HB1.out).mono ?_
    rintro e w9 ⟨rfl, tv9, hO9, hb9⟩
    obtain ⟨d3, d4⟩ := HC.out _ _ _ hO9
    have H2' := hide_ (H2.out _ tv9 hO9 (Nat.le_trans HB1.out hb9.size))
    have HB9 := hide_ (HB.out.trans hb9)
    clear hO9 hb9
    go_wp2_with fail
    refine H2'.out.mono ?_
    rintro e w8 ⟨rfl, ⟨lv8, hO8⟩, hb8⟩
    have HO8 := hide_ hO8
    have HB8 := hide_ (HB9.out.trans hb8)
    clear hO8 hb8
    go_wp2
    go_ret
    exact ⟨rfl, HFIN.out _ _ _ _ _ HO8.out (by rw [puts_len, HL.out]) (puts_ok (bytes4_ok v0 v1) HOK.out _) (notes_len HT.out _), HB8.out⟩
  · have H1 := hide_ (fun (W2 : World) (h : Owns W2 B (memRows g d N c on tv ts xs ++ (refRows r b N rc on lv ts xs ++ (sr :: ex)))) (hb : B ≤ W2.heap.size) => Store4_any (W := W2) p v h hb HN.out.pow HL.out v0 v1)
    have H2 := hide_ (fun (W2 : World) (tv' : Value) (h : Owns W2 B (memRows g d N c on tv' (notes N on true p ts 4) (puts N p (bytes4 v) xs 4) ++ (refRows r b N rc on lv ts xs ++ (sr :: ex)))) (hb : B ≤ W2.heap.size) => rStore_any (W := W2) p v 4 h.turned hb HN.out.pow HL.out p0 (by omega) (by omega) v0 v1)
    go_enter Try.func84, Try.ntmps84
    go_wp2_with fail
    rw [← HW.out]
    go_wp2_with fail
    refine (H1.out _ HO.out HB1.out).mono ?_
    rintro e w9 ⟨rfl, tv9, hO9, hb9⟩
    obtain ⟨d3, d4⟩ := HC.out _ _ _ hO9
    have H2' := hide_ (H2.out _ tv9 hO9 (Nat.le_trans HB1.out hb9.size))
    have HB9 := hide_ (HB.out.trans hb9)
    clear hO9 hb9
    go_wp2_with fail
    refine H2'.out.mono ?_
    rintro e w8 ⟨rfl, ⟨lv8, hO8⟩, hb8⟩
    have HO8 := hide_ hO8
    have HB8 := hide_ (HB9.out.trans hb8)
    clear hO8 hb8
    go_wp2
    go_ret
    exact ⟨rfl, HFIN.out _ _ _ _ _ HO8.out (by rw [puts_len, HL.out]) (puts_ok (bytes4_ok v0 v1) HOK.out _) (notes_len HT.out _), HB8.out⟩
  · have e2 : (dd == 2) = false := by simp [h2]
    have e3 : (dd == 3) = false := by simp [h3]
    have e4 : (dd == 4) = false := by simp [h4]
    have e5 : (dd == 5) = false := by simp [h5]
    have e6 : (dd == 6) = false := by simp [h6]
    have e7 : (dd == 7) = false := by simp [h7]
    clear h2 h3 h4 h5 h6 h7
    go_enter Try.func84, Try.ntmps84
    go_wp2_with fail
    rw [← HW.out]
    go_wp2
    go_ret
    exact ⟨rfl, HFIN.out _ _ _ _ _ HO.out.turned HL.out HOK.out HT.out, HB.out⟩
end
end Go.Proofs.Ytgppbdcnpailaaa
