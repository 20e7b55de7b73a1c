/-
  The walk of playpenlaw09's rest.
-/
import Derived.Test.YtgppbdcnpailaaaRestK
namespace Go.Proofs.Ytgppbdcnpailaaa
open Go.RowKit
set_option linter.unusedVariables false
set_option linter.unusedSimpArgs false

section
variable {W : World} {B q : Nat} {ps : List Value} {gv kv nv wv : Value} {G : List AnsV} {T : List NoteV} {ex : List Ro}
set_option maxRecDepth 100000 in
set_option maxHeartbeats 2000000 in
theorem rest_13 (Bz : Nat) (x : StepV) (hx : StepOk W Bz x) (hBz : Bz ≤ B) (hd : x.d = 13) (a b : Nat) (ha : a < 4) (hb : b < 4) (s0 : Option SegV) (hs0 : SlotOk s0) (hp1 : ps[a]? = some (.pointer (mA s0))) (hp2 : ps[4 + a]? = some (.pointer (rA s0))) (s1 : Option SegV) (hs1 : SlotOk s1) (hp3 : ps[b]? = some (.pointer (mA s1))) (hp4 : ps[4 + b]? = some (.pointer (rA s1))) (hm1 : ∀ ro ∈ slotRows s1, ro ∈ slotRows s0 ++ ex) (hO : Owns W B (wHeadL q ps gv kv nv wv G T ++ (slotRows s0 ++ ex))) (hB : B ≤ W.heap.size) (hT : T.length ≤ 4398046511104) :
    Calls Try.prog 86 #[.pointer (some ⟨q, 0, none⟩), .agg (stepCells x).toArray, .int .i64 a, .int .i64 b] W fun e W' => e = .returned (.bool true) ∧ RestPost W' B q s0 ps gv kv G T ex ∧ Below B W W' := by
  obtain ⟨dd, sa, sb, p, v, n, sn, A, l, cc, zs⟩ := x
  simp only at hd
  subst hd
  have hO1 := hO.box 79 (stepCells ⟨13, sa, sb, p, v, n, sn, A, l, cc, zs⟩).toArray hB (by simp [stepCells, maxLen])
  have k0 : Blk (W.alloc (.cells (stepCells ⟨13, sa, sb, p, v, n, sn, A, l, cc, zs⟩).toArray 79)) W.heap.size 79 (stepCells ⟨13, sa, sb, p, v, n, sn, A, l, cc, zs⟩).toArray := Blk.new W _ _
  obtain ⟨W1, hw⟩ : ∃ W1, W1 = W.alloc (.cells (stepCells ⟨13, sa, sb, p, v, n, sn, A, l, cc, zs⟩).toArray 79) := ⟨_, rfl⟩
  have hW1 : Below B W W1 := by rw [hw]; exact (Below.refl _ _).alloc hB _
  rw [← hw] at hO1 k0
  obtain ⟨sr, hsr⟩ : ∃ sr : Ro, sr = stepBox W.heap.size ⟨13, sa, sb, p, v, n, sn, A, l, cc, zs⟩ := ⟨_, rfl⟩
  have hO2 : Owns W1 B (wHeadL q ps gv kv nv wv G T ++ (slotRows s0 ++ (sr :: ex))) := by
    rw [hsr]
    exact hO1.perm fun cnt one e1 e2 e3 => by simp only [e1, e2, e3, stepBox]; simp only [List.size_toArray, show (stepCells ⟨13, sa, sb, p, v, n, sn, A, l, cc, zs⟩).length = 8 from rfl]; omega
  have HC : Hid (∀ W2 m, Owns W2 B m → sr ∈ m → W2.cell? ⟨W.heap.size, 6, none⟩ = some (.bool sn) ∧ W.heap.size < W2.heap.size) := hide_ fun W2 m h hm => by
    obtain ⟨i, hi⟩ := List.getElem?_of_mem hm
    rw [hsr] at hi
    exact ⟨h.cell (i := i) hi rfl, (h.base (i := i) hi).2⟩
  have c0 : W1.cell? ⟨W.heap.size, 0, none⟩ = some (.int .u8 13) := k0.cell 0
  have c6 : W1.cell? ⟨W.heap.size, 6, none⟩ = some (.bool sn) := k0.cell 6
  have cl := k0.lt
  have l1 := slot_cell hO2 hp1
  have l2 := slot_cell hO2 hp2
  have lq := (hO2.base (i := 0) rfl).2
  have HO1 := hide_ hO2
  have HWB := hide_ hW1
  have HB0 := hide_ hB
  have HB1 := hide_ (Nat.le_trans hB hW1.size)
  have HT := hide_ hT
  have i1 : (a : Int) < 4 := by omega
  have i0 : (0 : Int) ≤ (a : Int) := by omega
  have j1 : (b : Int) < 4 := by omega
  have j0 : (0 : Int) ≤ (b : Int) := by omega
  have HFIN : Hid (∀ W2, Owns W2 B (wHeadL q ps gv kv nv wv G T ++ (slotRows s0 ++ (sr :: ex))) → RestPost W2 B q s0 ps gv kv G T ex) := hide_ fun W2 h =>
    ⟨s0, nv, wv, [], rfl, rfl, hs0, by rw [List.append_nil]; exact h.pick [sr] fun cnt one e1 e2 e3 => by simp only [e1, e2, e3, List.flatMap_nil]; omega, by simp, (fun a h => by cases h)⟩
  unfold stepCells at *
  clear hO hO1 hO2 hW1 k0 hB hx hsr hp1 hp2 hT
  have l3 := slot_cell HO1.out hp3
  have l4 := slot_cell HO1.out hp4
  have k0 : ∀ s, s0 = some s → MemAtR W1 s ∧ SegOk s := fun s h => by
    subst h
    exact ⟨seg_at HO1.out (fun ro h => List.mem_append_right _ (List.mem_append_left _ h)) hs0, hs0⟩
  have k1 : ∀ s, s1 = some s → MemAtR W1 s ∧ SegOk s := fun s h => by
    subst h
    refine ⟨seg_at HO1.out (fun ro h => ?_) hs1, hs1⟩
    rcases List.mem_append.1 (hm1 ro h) with h2 | h2
    · exact List.mem_append_right _ (List.mem_append_left _ h2)
    · exact List.mem_append_right _ (List.mem_append_right _ (.tail _ h2))
  have H1 := hide_ (fun k : Nat => mSame_o s0 s1 (W1.drewN k) (fun s h => ⟨(k0 s h).1.drewN k, (k0 s h).2⟩) (fun s h => ⟨(k1 s h).1.drewN k, (k1 s h).2⟩))
  have H2 := hide_ (fun k : Nat => rSame_o s0 s1 (W1.drewN k) (fun s h => ⟨(k0 s h).1.drewN k, (k0 s h).2⟩) (fun s h => ⟨(k1 s h).1.drewN k, (k1 s h).2⟩))
  obtain ⟨m0, hm0⟩ : ∃ m0, m0 = mA s0 := ⟨_, rfl⟩
  obtain ⟨m1, hm1'⟩ : ∃ m1, m1 = mA s1 := ⟨_, rfl⟩
  obtain ⟨t0, ht0⟩ : ∃ t0, t0 = rA s0 := ⟨_, rfl⟩
  obtain ⟨t1, ht1⟩ : ∃ t1, t1 = rA s1 := ⟨_, rfl⟩
  obtain ⟨z, hz⟩ : ∃ z, z = sameO s0 s1 := ⟨_, rfl⟩
  rw [← hm0] at l1 H1
  rw [← ht0] at l2 H2
  rw [← hm1'] at l3 H1
  rw [← ht1] at l4 H2
  rw [← hz] at H1 H2
  clear k0 k1 hm1 hs0 hs1 hp3 hp4 hm0 hm1' ht0 ht1 hz
  subst hw
  go_enter Try.func86, Try.ntmps86
  go_wp2
  go_quiet (first
    | (go_at_call 49; exact Calls.quiet_of (H1.out _))
    | (go_at_call 126; exact Calls.quiet_of (H2.out _)))
  go_wp2
  go_ret
  exact ⟨by simp, HFIN.out _ (HO1.out.drewN _), below_draws2 HWB.out _⟩
set_option maxRecDepth 100000 in
set_option maxHeartbeats 2000000 in
theorem rest_14 (Bz : Nat) (x : StepV) (hx : StepOk W Bz x) (hBz : Bz ≤ B) (hd : x.d = 14) (a b : Nat) (ha : a < 4) (hb : b < 4) (s0 : Option SegV) (hs0 : SlotOk s0) (hp1 : ps[a]? = some (.pointer (mA s0))) (hp2 : ps[4 + a]? = some (.pointer (rA s0))) (hO : Owns W B (wHeadL q ps gv kv nv wv G T ++ (slotRows s0 ++ ex))) (hB : B ≤ W.heap.size) (hT : T.length ≤ 4398046511104) :
    Calls Try.prog 86 #[.pointer (some ⟨q, 0, none⟩), .agg (stepCells x).toArray, .int .i64 a, .int .i64 b] W fun e W' => e = .returned (.bool true) ∧ RestPost W' B q s0 ps gv kv G T ex ∧ Below B W W' := by
  obtain ⟨dd, sa, sb, p, v, n, sn, A, l, cc, zs⟩ := x
  simp only at hd
  subst hd
  have hO1 := hO.box 79 (stepCells ⟨14, sa, sb, p, v, n, sn, A, l, cc, zs⟩).toArray hB (by simp [stepCells, maxLen])
  have k0 : Blk (W.alloc (.cells (stepCells ⟨14, sa, sb, p, v, n, sn, A, l, cc, zs⟩).toArray 79)) W.heap.size 79 (stepCells ⟨14, sa, sb, p, v, n, sn, A, l, cc, zs⟩).toArray := Blk.new W _ _
  obtain ⟨W1, hw⟩ : ∃ W1, W1 = W.alloc (.cells (stepCells ⟨14, sa, sb, p, v, n, sn, A, l, cc, zs⟩).toArray 79) := ⟨_, rfl⟩
  have hW1 : Below B W W1 := by rw [hw]; exact (Below.refl _ _).alloc hB _
  rw [← hw] at hO1 k0
  obtain ⟨sr, hsr⟩ : ∃ sr : Ro, sr = stepBox W.heap.size ⟨14, sa, sb, p, v, n, sn, A, l, cc, zs⟩ := ⟨_, rfl⟩
  have hO2 : Owns W1 B (wHeadL q ps gv kv nv wv G T ++ (slotRows s0 ++ (sr :: ex))) := by
    rw [hsr]
    exact hO1.perm fun cnt one e1 e2 e3 => by simp only [e1, e2, e3, stepBox]; simp only [List.size_toArray, show (stepCells ⟨14, sa, sb, p, v, n, sn, A, l, cc, zs⟩).length = 8 from rfl]; omega
  have HC : Hid (∀ W2 m, Owns W2 B m → sr ∈ m → W2.cell? ⟨W.heap.size, 6, none⟩ = some (.bool sn) ∧ W.heap.size < W2.heap.size) := hide_ fun W2 m h hm => by
    obtain ⟨i, hi⟩ := List.getElem?_of_mem hm
    rw [hsr] at hi
    exact ⟨h.cell (i := i) hi rfl, (h.base (i := i) hi).2⟩
  have c0 : W1.cell? ⟨W.heap.size, 0, none⟩ = some (.int .u8 14) := k0.cell 0
  have c6 : W1.cell? ⟨W.heap.size, 6, none⟩ = some (.bool sn) := k0.cell 6
  have cl := k0.lt
  have l1 := slot_cell hO2 hp1
  have l2 := slot_cell hO2 hp2
  have lq := (hO2.base (i := 0) rfl).2
  have HO1 := hide_ hO2
  have HWB := hide_ hW1
  have HB0 := hide_ hB
  have HB1 := hide_ (Nat.le_trans hB hW1.size)
  have HT := hide_ hT
  have i1 : (a : Int) < 4 := by omega
  have i0 : (0 : Int) ≤ (a : Int) := by omega
  have j1 : (b : Int) < 4 := by omega
  have j0 : (0 : Int) ≤ (b : Int) := by omega
  have HFIN : Hid (∀ W2, Owns W2 B (wHeadL q ps gv kv nv wv G T ++ (slotRows s0 ++ (sr :: ex))) → RestPost W2 B q s0 ps gv kv G T ex) := hide_ fun W2 h =>
    ⟨s0, nv, wv, [], rfl, rfl, hs0, by rw [List.append_nil]; exact h.pick [sr] fun cnt one e1 e2 e3 => by simp only [e1, e2, e3, List.flatMap_nil]; omega, by simp, (fun a h => by cases h)⟩
  unfold stepCells at *
  clear hO hO1 hO2 hW1 k0 hB hx hsr hp1 hp2 hT
  cases s0 with
  | none =>
    have H1 := hide_ (fun W2 : World => Log_not sn (W := W2) (P := none) (.inl rfl))
    have H2 := hide_ (fun W2 : World => rSetLog_nil sn W2)
    simp only [mA, rA] at l1 l2
    subst hw
    go_enter Try.func86, Try.ntmps86
    go_wp2_with fail
    refine (H1.out _).mono ?_
    rintro e w9 ⟨rfl, hb9⟩
    have hO9 := HO1.out.below hb9
    obtain ⟨t6, tl⟩ := HC.out w9 _ hO9 (by simp)
    have HS := hide_ (HFIN.out _ hO9)
    have HB9 := hide_ (HWB.out.trans (hb9.mono HB1.out))
    clear hO9 hb9
    go_wp2_with fail
    refine (H2.out _).mono ?_
    rintro e w8 ⟨rfl, hw8⟩
    subst w8
    go_wp2
    go_ret
    exact ⟨rfl, HS.out, HB9.out⟩
  | some s =>
    obtain ⟨g, d, c, r, bb, rc, N, on, tv, lv, ts, xs⟩ := s
    obtain ⟨k1, k2, k3, k4⟩ := hs0
    simp only at k1 k2 k3 k4
    simp only [mA, rA] at l1 l2
    have hO1' : Owns W1 B (memRows g d N c on tv ts xs ++ (refRows r bb N rc on lv ts xs ++ (wHeadL q ps gv kv nv wv G T ++ (sr :: ex)))) := HO1.out.perm fun cnt one e1 e2 e3 => by simp only [e1, e2, e3, slotRows, segRows]; omega
    have H1 := hide_ (Log_any sn hO1' k1.pow)
    have HK1 := hide_ (show IsSeg N ∧ xs.length = N ∧ bytesOk xs from ⟨k1, k2, k3⟩)
    clear hO1' k1 k2 k3 k4 HFIN
    subst hw
    go_enter Try.func86, Try.ntmps86
    go_wp2_with fail
    refine H1.out.mono ?_
    rintro e w9 ⟨rfl, hO9, hb9⟩
    have hB9 := HWB.out.trans hb9
    have H2 := hide_ (rSetLog_any sn hO9.turned)
    obtain ⟨t6, tl⟩ := HC.out w9 _ hO9 (by simp)
    have HB9 := hide_ hB9
    clear hO9 hb9 hB9 H1
    go_wp2_with fail
    refine H2.out.mono ?_
    rintro e w8 ⟨rfl, hO8, hb8⟩
    have HS : Hid (Owns w8 B (wHeadL q ps gv kv nv wv G T ++ (slotRows (some ⟨g, d, c, r, bb, rc, N, sn, .slice none 0 0, .slice none 0 0, [], xs⟩) ++ ex))) := hide_ (hO8.pick [sr] fun cnt one e1 e2 e3 => by simp only [e1, e2, e3, slotRows, segRows]; omega)
    have HB8 := hide_ (HB9.out.trans hb8)
    clear hO8 hb8 H2
    go_wp2
    go_ret
    exact ⟨rfl, ⟨some ⟨g, d, c, r, bb, rc, N, sn, .slice none 0 0, .slice none 0 0, [], xs⟩, nv, wv, [], rfl, rfl, ⟨HK1.out.1, HK1.out.2.1, HK1.out.2.2, by simp⟩, by rw [List.append_nil]; exact HS.out, by simp, (fun a h => by cases h)⟩, HB8.out⟩
set_option maxRecDepth 100000 in
set_option maxHeartbeats 2000000 in
theorem rest_15 (Bz : Nat) (x : StepV) (hx : StepOk W Bz x) (hBz : Bz ≤ B) (hd : x.d = 15) (a b : Nat) (ha : a < 4) (hb : b < 4) (s0 : Option SegV) (hs0 : SlotOk s0) (hp1 : ps[a]? = some (.pointer (mA s0))) (hp2 : ps[4 + a]? = some (.pointer (rA s0))) (hps : ps.length = 8) (hO : Owns W B (wHeadL q ps gv kv nv wv G T ++ (slotRows s0 ++ ex))) (hB : B ≤ W.heap.size) (hT : T.length ≤ 4398046511104) :
    Calls Try.prog 86 #[.pointer (some ⟨q, 0, none⟩), .agg (stepCells x).toArray, .int .i64 a, .int .i64 b] W fun e W' => e = .returned (.bool true) ∧ RestPost W' B q s0 ps gv kv G T ex ∧ Below B W W' := by
  obtain ⟨dd, sa, sb, p, v, n, sn, A, l, cc, zs⟩ := x
  simp only at hd
  subst hd
  have hO1 := hO.box 79 (stepCells ⟨15, sa, sb, p, v, n, sn, A, l, cc, zs⟩).toArray hB (by simp [stepCells, maxLen])
  have k0 : Blk (W.alloc (.cells (stepCells ⟨15, sa, sb, p, v, n, sn, A, l, cc, zs⟩).toArray 79)) W.heap.size 79 (stepCells ⟨15, sa, sb, p, v, n, sn, A, l, cc, zs⟩).toArray := Blk.new W _ _
  obtain ⟨W1, hw⟩ : ∃ W1, W1 = W.alloc (.cells (stepCells ⟨15, sa, sb, p, v, n, sn, A, l, cc, zs⟩).toArray 79) := ⟨_, rfl⟩
  have hW1 : Below B W W1 := by rw [hw]; exact (Below.refl _ _).alloc hB _
  rw [← hw] at hO1 k0
  obtain ⟨sr, hsr⟩ : ∃ sr : Ro, sr = stepBox W.heap.size ⟨15, sa, sb, p, v, n, sn, A, l, cc, zs⟩ := ⟨_, rfl⟩
  have hO2 : Owns W1 B (wHeadL q ps gv kv nv wv G T ++ (slotRows s0 ++ (sr :: ex))) := by
    rw [hsr]
    exact hO1.perm fun cnt one e1 e2 e3 => by simp only [e1, e2, e3, stepBox]; simp only [List.size_toArray, show (stepCells ⟨15, sa, sb, p, v, n, sn, A, l, cc, zs⟩).length = 8 from rfl]; omega
  have HC : Hid (∀ W2 m, Owns W2 B m → sr ∈ m → W2.cell? ⟨W.heap.size, 6, none⟩ = some (.bool sn) ∧ W.heap.size < W2.heap.size) := hide_ fun W2 m h hm => by
    obtain ⟨i, hi⟩ := List.getElem?_of_mem hm
    rw [hsr] at hi
    exact ⟨h.cell (i := i) hi rfl, (h.base (i := i) hi).2⟩
  have c0 : W1.cell? ⟨W.heap.size, 0, none⟩ = some (.int .u8 15) := k0.cell 0
  have c6 : W1.cell? ⟨W.heap.size, 6, none⟩ = some (.bool sn) := k0.cell 6
  have cl := k0.lt
  have l1 := slot_cell hO2 hp1
  have l2 := slot_cell hO2 hp2
  have lq := (hO2.base (i := 0) rfl).2
  have HO1 := hide_ hO2
  have HWB := hide_ hW1
  have HB0 := hide_ hB
  have HB1 := hide_ (Nat.le_trans hB hW1.size)
  have HT := hide_ hT
  have i1 : (a : Int) < 4 := by omega
  have i0 : (0 : Int) ≤ (a : Int) := by omega
  have j1 : (b : Int) < 4 := by omega
  have j0 : (0 : Int) ≤ (b : Int) := by omega
  have HFIN : Hid (∀ W2, Owns W2 B (wHeadL q ps gv kv nv wv G T ++ (slotRows s0 ++ (sr :: ex))) → RestPost W2 B q s0 ps gv kv G T ex) := hide_ fun W2 h =>
    ⟨s0, nv, wv, [], rfl, rfl, hs0, by rw [List.append_nil]; exact h.pick [sr] fun cnt one e1 e2 e3 => by simp only [e1, e2, e3, List.flatMap_nil]; omega, by simp, (fun a h => by cases h)⟩
  unfold stepCells at *
  clear hO hO1 hO2 hW1 k0 hB hx hsr hp1 hp2 hT
  obtain ⟨h0, h1, h2, h3, r0, r1, r2, r3, hpe⟩ := eight_of_len hps
  have HPS := hide_ hpe
  have HPL : Hid ((∀ u z : Value, (ps ++ [gv, kv, u, z])[10]? = some u) ∧ (∀ u z : Value, (ps ++ [gv, kv, u, z])[11]? = some z) ∧ ps.length = 8 ∧ (∀ u z v : Value, (ps ++ [gv, kv, u, z]).set 10 v = ps ++ [gv, kv, v, z]) ∧ (∀ u z v : Value, (ps ++ [gv, kv, u, z]).set 11 v = ps ++ [gv, kv, u, v])) := hide_ (by
    refine ⟨fun u z => by rw [hpe]; rfl, fun u z => by rw [hpe]; rfl, hps, fun u z v => by rw [hpe]; rfl, fun u z v => by rw [hpe]; rfl⟩)
  clear hpe
  cases s0 with
  | none =>
    have H1 := hide_ (fun W2 : World => Touched_not (W := W2) (P := none) (.inl rfl))
    have H2 := hide_ (fun W2 : World => rTouched_nil W2)
    have HSOK : Hid (SlotOk none) := hide_ trivial
    have HNN : Hid (0 ≤ 65536) := hide_ (by omega)
    simp only [mA, rA] at l1 l2
    clear HFIN
    subst hw
    go_enter Try.func86, Try.ntmps86
    go_wp2_with fail
    refine (H1.out _).mono ?_
    rintro e w9 ⟨rfl, hb9⟩
    have hO9 := HO1.out.below hb9
    have HB9 := hide_ (HWB.out.trans (hb9.mono HB1.out))
    have HO9 := hide_ hO9
    clear hO9 hb9
    go_wp2_with fail
    refine (H2.out _).mono ?_
    rintro e w8 ⟨rfl, hw8⟩
    subst w9
    have HB8 := HB9
    have HS : Hid (Owns w8 B (wHeadL q ps gv kv nv wv G T ++ (touchR none 0 0 [] :: touchR none 0 0 [] :: (slotRows none ++ (sr :: ex))))) := hide_ (((HO9.out.nilrow 73 2).nilrow 73 2).perm fun cnt one e1 e2 e3 => by simp only [e1, e2, e3, touchR, touchCells, List.flatMap_nil]; omega)
    clear HO9
    obtain ⟨i0', hi0, hz0, hz1, hz2⟩ := info_parts info_touches
    obtain ⟨Ag, cg, hgv, _, _⟩ := ownsRow_slice (HS.out.at_ (i := 3) rfl)
    simp only at hgv
    subst hgv
    obtain ⟨mt, hmt⟩ : ∃ mt, mt = T.length := ⟨_, rfl⟩
    rw [← hmt] at HS
    have hT' : mt ≤ 4398046511104 := by rw [hmt]; exact HT.out
    obtain ⟨Ak, ck, hkv, _, _⟩ := ownsRow_slice (HS.out.at_ (i := 4) rfl)
    simp only at hkv
    subst hkv
    rw [← hmt] at HS
    have c10 : w8.cell? ⟨q, 10, none⟩ = some (.slice Ag mt cg) := HS.out.cell (i := 0) rfl (HPL.out.1 _ _)
    have bq : q < w8.heap.size := (HS.out.base (i := 0) rfl).2
    have HM := hide_ hmt
    clear hmt H2
    go_wp2_with (at_builtin; refine wpList_append_owns _ rfl (.tmp 66) (.tmp 68) 87 rfl B _ 3 70 1 (.slice Ag mt cg) mt (noteC T) (by rw [HM.out]; rfl) (HS.out.alloc _) (Nat.le_trans HB0.out (Nat.le_trans HB8.out.size (by simp [World.size_alloc]))) i0' _ 24 Try.underlying87 hi0 hz0 hz1 hz2 rfl (by omega) rfl _ _ 1 1 [.slice none 0 0] rfl (reads_new w8 70 1 1 [.slice none 0 0] rfl) (by simp [Value.oneCell']) (by simp only [maxLen]; omega) (by omega) ?_)
    intro tv2 w2 hO2 hb2 hsz2
    obtain ⟨A2, ct2, htv2, _, _⟩ := ownsRow_slice (hO2.at_ (i := 3) rfl)
    simp only at htv2
    subst htv2
    have u3 : w2.cell? ⟨q, 10, none⟩ = some (.slice Ag mt cg) := hO2.cell (i := 0) rfl (HPL.out.1 _ _)
    have f3 := hO2.frozen (i := 0) rfl 10
    have b3 := hO2.base (i := 0) rfl
    have b3' : q < w2.heap.size := b3.2
    have hO3 := hO2.store (i := 0) (e := 89) (size := 1) (n := 12) (g := q) (c := 12) (j := 10) rfl (by simp [HPL.out.2.2.1]) (.slice A2 (mt + 1) ct2)
    rw [HPL.out.2.2.2.1] at hO3
    have hb3 := ((HB8.out.alloc (Nat.le_trans HB0.out HB8.out.size) (.cells #[.slice none 0 0] 70)).trans hb2).setCell (p := ⟨q, 10, none⟩) b3.1 (.slice A2 (mt + 1) ct2)
    have c11 : (w2.setCell ⟨q, 10, none⟩ (.slice A2 (mt + 1) ct2)).cell? ⟨q, 11, none⟩ = some (.slice Ak mt ck) := hO3.cell (i := 0) rfl (HPL.out.2.1 _ _)
    have HB3 := hide_ hb3
    have HO3 := hide_ hO3
    have HSZ := hide_ hb3.size
    have HRN : Hid (Reads ((w2.setCell ⟨q, 10, none⟩ (.slice A2 (mt + 1) ct2)).alloc (.cells [Value.slice none 0 0].toArray 70)) (w2.heap.size + 1) 1 (some ⟨w2.heap.size, 0, none⟩) 1 [.slice none 0 0]) := hide_ (by
      have h := reads_new (w2.setCell ⟨q, 10, none⟩ (.slice A2 (mt + 1) ct2)) 70 1 1 [.slice none 0 0] rfl
      rw [World.size_setCell] at h
      exact h)
    clear hO2 hb2 hO3 hb3 b3
    go_wp2_with (at_builtin; refine wpList_append_owns _ rfl (.tmp 76) (.tmp 78) 87 rfl B _ 4 70 1 (.slice Ak mt ck) mt (wasC T) (by rw [HM.out]; rfl) (HO3.out.alloc _) (Nat.le_trans HB0.out (Nat.le_trans HB3.out.size (by simp [World.size_alloc]))) i0' _ 24 Try.underlying87 hi0 hz0 hz1 hz2 rfl (by omega) rfl _ _ 1 1 [.slice none 0 0] rfl HRN.out (by simp [Value.oneCell']) (by simp only [maxLen]; omega) (by omega) ?_)
    intro tv4 w4 hO4 hb4 hsz4
    obtain ⟨A4, ct4, htv4, _, _⟩ := ownsRow_slice (hO4.at_ (i := 4) rfl)
    simp only at htv4
    subst htv4
    have u4 : w4.cell? ⟨q, 11, none⟩ = some (.slice Ak mt ck) := hO4.cell (i := 0) rfl (HPL.out.2.1 _ _)
    have f4 := hO4.frozen (i := 0) rfl 11
    have b4 := hO4.base (i := 0) rfl
    have b4' : q < w4.heap.size := b4.2
    have hO5 := hO4.store (i := 0) (e := 89) (size := 1) (n := 12) (g := q) (c := 12) (j := 11) rfl (by simp [HPL.out.2.2.1]) (.slice A4 (mt + 1) ct4)
    rw [HPL.out.2.2.2.2] at hO5
    have hb5 := ((HB3.out.alloc (Nat.le_trans HB0.out HB3.out.size) (.cells #[.slice none 0 0] 70)).trans hb4).setCell (p := ⟨q, 11, none⟩) b4.1 (.slice A4 (mt + 1) ct4)
    have hO6 : Owns (w4.setCell ⟨q, 11, none⟩ (.slice A4 (mt + 1) ct4)) B (wHeadL q ps gv kv (.slice A2 (mt + 1) ct2) (.slice A4 (mt + 1) ct4) G (T ++ [⟨none, 0, 0, none, 0, []⟩]) ++ (touchR none 0 0 [] :: touchR none 0 0 [] :: (slotRows none ++ (sr :: ex)))) := by
      unfold wHeadL
      rw [List.length_append, List.length_singleton, ← HM.out, show noteC (T ++ [⟨none, 0, 0, none, 0, []⟩]) = noteC T ++ [.slice none 0 0] from List.map_append, show wasC (T ++ [⟨none, 0, 0, none, 0, []⟩]) = wasC T ++ [.slice none 0 0] from List.map_append]
      exact hO5
    have hr1 : TReads (w4.setCell ⟨q, 11, none⟩ (.slice A4 (mt + 1) ct4)) (w4.setCell ⟨q, 11, none⟩ (.slice A4 (mt + 1) ct4)).heap.size none 0 [] := TReads.of_reads (Reads.of_own (hO6.1 (touchR none 0 0 []) (by simp)))
    have hr2 : TReads (w4.setCell ⟨q, 11, none⟩ (.slice A4 (mt + 1) ct4)) (w4.setCell ⟨q, 11, none⟩ (.slice A4 (mt + 1) ct4)).heap.size none 0 [] := TReads.of_reads (Reads.of_own (hO6.1 (touchR none 0 0 []) (by simp)))
    have HSM := hide_ (sameTouches_any none none 0 0 0 [] _ _ hr1 hr2 (Nat.le_refl _) (by have := HNN.out; omega))
    have HO6 : Hid (Owns (w4.setCell ⟨q, 11, none⟩ (.slice A4 (mt + 1) ct4)) B (wHeadL q ps gv kv (.slice A2 (mt + 1) ct2) (.slice A4 (mt + 1) ct4) G (T ++ [⟨none, 0, 0, none, 0, []⟩]) ++ ([(⟨none, 0, 0, none, 0, []⟩ : NoteV)].flatMap noteRows ++ (slotRows none ++ ex)))) := hide_ (hO6.pick [sr] fun cnt one e1 e2 e3 => by simp only [e1, e2, e3, List.flatMap_cons, List.flatMap_nil, noteRows]; omega)
    have HB6 := hide_ hb5
    clear hO4 hb4 hO5 hb5 hO6 hr1 hr2 HO3 HB3
    go_wp2_with fail
    refine HSM.out.mono ?_
    rintro e w6 ⟨rfl, nq, rfl⟩
    go_wp2
    go_ret
    exact ⟨by simp, ⟨none, _, _, [⟨none, 0, 0, none, 0, []⟩], rfl, rfl, HSOK.out, HO6.out.drewN nq, by simp, (fun t h => by rw [List.mem_singleton.1 h]; exact HNN.out)⟩, below_draws2 HB6.out nq⟩
  | some s =>
    obtain ⟨g, d, c, r, bb, rc, N, on, tv, lv, ts, xs⟩ := s
    obtain ⟨k1, k2, k3, k4⟩ := hs0
    simp only at k1 k2 k3 k4
    simp only [mA, rA] at l1 l2
    have hO1' : Owns W1 B (memRows g d N c on tv ts xs ++ (refRows r bb N rc on lv ts xs ++ (wHeadL q ps gv kv nv wv G T ++ (sr :: ex)))) := HO1.out.perm fun cnt one e1 e2 e3 => by simp only [e1, e2, e3, slotRows, segRows]; omega
    have H1 := hide_ (Touched_own hO1' k1.pow)
    have HSOK : Hid (SlotOk (some ⟨g, d, c, r, bb, rc, N, on, .slice none 0 0, .slice none 0 0, [], xs⟩)) := hide_ ⟨k1, k2, k3, by simp⟩
    have HNN := hide_ k4
    clear hO1' k1 k2 k3 k4 HFIN
    subst hw
    go_enter Try.func86, Try.ntmps86
    go_wp2_with fail
    refine H1.out.mono ?_
    rintro e w9 ⟨Na, nc, rfl, hO9, hb9⟩
    have hB9 := HWB.out.trans hb9
    have hO9' : Owns w9 B (refRows r bb N rc on lv ts xs ++ (memRows g d N c on (.slice none 0 0) [] xs ++ (touchR Na ts.length nc ts :: (wHeadL q ps gv kv nv wv G T ++ (sr :: ex))))) := hO9.perm fun cnt one e1 e2 e3 => by simp only [e1, e2, e3]; omega
    have H2 := hide_ (rTouched_own hO9')
    have HB9 := hide_ hB9
    clear hO9 hb9 hB9 hO9' H1
    go_wp2_with fail
    refine H2.out.mono ?_
    rintro e w8 ⟨Ka, kc, rfl, hO8, hb8⟩
    have HS : Hid (Owns w8 B (wHeadL q ps gv kv nv wv G T ++ (touchR Na ts.length nc ts :: touchR Ka ts.length kc ts :: (slotRows (some ⟨g, d, c, r, bb, rc, N, on, .slice none 0 0, .slice none 0 0, [], xs⟩) ++ (sr :: ex))))) := hide_ (hO8.perm fun cnt one e1 e2 e3 => by simp only [e1, e2, e3, slotRows, segRows]; omega)
    have HB8 := hide_ (HB9.out.trans hb8)
    clear hO8 hb8
    obtain ⟨tn, htn⟩ : ∃ tn, tn = ts.length := ⟨_, rfl⟩
    rw [← htn] at HS HNN ⊢
    clear htn
    obtain ⟨i0', hi0, hz0, hz1, hz2⟩ := info_parts info_touches
    obtain ⟨Ag, cg, hgv, _, _⟩ := ownsRow_slice (HS.out.at_ (i := 3) rfl)
    simp only at hgv
    subst hgv
    obtain ⟨mt, hmt⟩ : ∃ mt, mt = T.length := ⟨_, rfl⟩
    rw [← hmt] at HS
    have hT' : mt ≤ 4398046511104 := by rw [hmt]; exact HT.out
    obtain ⟨Ak, ck, hkv, _, _⟩ := ownsRow_slice (HS.out.at_ (i := 4) rfl)
    simp only at hkv
    subst hkv
    rw [← hmt] at HS
    have c10 : w8.cell? ⟨q, 10, none⟩ = some (.slice Ag mt cg) := HS.out.cell (i := 0) rfl (HPL.out.1 _ _)
    have bq : q < w8.heap.size := (HS.out.base (i := 0) rfl).2
    have HM := hide_ hmt
    clear hmt H2
    go_wp2_with (at_builtin; refine wpList_append_owns _ rfl (.tmp 66) (.tmp 68) 87 rfl B _ 3 70 1 (.slice Ag mt cg) mt (noteC T) (by rw [HM.out]; rfl) (HS.out.alloc _) (Nat.le_trans HB0.out (Nat.le_trans HB8.out.size (by simp [World.size_alloc]))) i0' _ 24 Try.underlying87 hi0 hz0 hz1 hz2 rfl (by omega) rfl _ _ 1 1 [.slice Na tn tn] rfl (reads_new w8 70 1 1 [.slice Na tn tn] rfl) (by simp [Value.oneCell']) (by simp only [maxLen]; omega) (by omega) ?_)
    intro tv2 w2 hO2 hb2 hsz2
    obtain ⟨A2, ct2, htv2, _, _⟩ := ownsRow_slice (hO2.at_ (i := 3) rfl)
    simp only at htv2
    subst htv2
    have u3 : w2.cell? ⟨q, 10, none⟩ = some (.slice Ag mt cg) := hO2.cell (i := 0) rfl (HPL.out.1 _ _)
    have f3 := hO2.frozen (i := 0) rfl 10
    have b3 := hO2.base (i := 0) rfl
    have b3' : q < w2.heap.size := b3.2
    have hO3 := hO2.store (i := 0) (e := 89) (size := 1) (n := 12) (g := q) (c := 12) (j := 10) rfl (by simp [HPL.out.2.2.1]) (.slice A2 (mt + 1) ct2)
    rw [HPL.out.2.2.2.1] at hO3
    have hb3 := ((HB8.out.alloc (Nat.le_trans HB0.out HB8.out.size) (.cells #[.slice Na tn tn] 70)).trans hb2).setCell (p := ⟨q, 10, none⟩) b3.1 (.slice A2 (mt + 1) ct2)
    have c11 : (w2.setCell ⟨q, 10, none⟩ (.slice A2 (mt + 1) ct2)).cell? ⟨q, 11, none⟩ = some (.slice Ak mt ck) := hO3.cell (i := 0) rfl (HPL.out.2.1 _ _)
    have HB3 := hide_ hb3
    have HO3 := hide_ hO3
    have HSZ := hide_ hb3.size
    have HRN : Hid (Reads ((w2.setCell ⟨q, 10, none⟩ (.slice A2 (mt + 1) ct2)).alloc (.cells [Value.slice Ka tn kc].toArray 70)) (w2.heap.size + 1) 1 (some ⟨w2.heap.size, 0, none⟩) 1 [.slice Ka tn kc]) := hide_ (by
      have h := reads_new (w2.setCell ⟨q, 10, none⟩ (.slice A2 (mt + 1) ct2)) 70 1 1 [.slice Ka tn kc] rfl
      rw [World.size_setCell] at h
      exact h)
    clear hO2 hb2 hO3 hb3 b3
    go_wp2_with (at_builtin; refine wpList_append_owns _ rfl (.tmp 76) (.tmp 78) 87 rfl B _ 4 70 1 (.slice Ak mt ck) mt (wasC T) (by rw [HM.out]; rfl) (HO3.out.alloc _) (Nat.le_trans HB0.out (Nat.le_trans HB3.out.size (by simp [World.size_alloc]))) i0' _ 24 Try.underlying87 hi0 hz0 hz1 hz2 rfl (by omega) rfl _ _ 1 1 [.slice Ka tn kc] rfl HRN.out (by simp [Value.oneCell']) (by simp only [maxLen]; omega) (by omega) ?_)
    intro tv4 w4 hO4 hb4 hsz4
    obtain ⟨A4, ct4, htv4, _, _⟩ := ownsRow_slice (hO4.at_ (i := 4) rfl)
    simp only at htv4
    subst htv4
    have u4 : w4.cell? ⟨q, 11, none⟩ = some (.slice Ak mt ck) := hO4.cell (i := 0) rfl (HPL.out.2.1 _ _)
    have f4 := hO4.frozen (i := 0) rfl 11
    have b4 := hO4.base (i := 0) rfl
    have b4' : q < w4.heap.size := b4.2
    have hO5 := hO4.store (i := 0) (e := 89) (size := 1) (n := 12) (g := q) (c := 12) (j := 11) rfl (by simp [HPL.out.2.2.1]) (.slice A4 (mt + 1) ct4)
    rw [HPL.out.2.2.2.2] at hO5
    have hb5 := ((HB3.out.alloc (Nat.le_trans HB0.out HB3.out.size) (.cells #[.slice Ka tn kc] 70)).trans hb4).setCell (p := ⟨q, 11, none⟩) b4.1 (.slice A4 (mt + 1) ct4)
    have hO6 : Owns (w4.setCell ⟨q, 11, none⟩ (.slice A4 (mt + 1) ct4)) B (wHeadL q ps gv kv (.slice A2 (mt + 1) ct2) (.slice A4 (mt + 1) ct4) G (T ++ [⟨Na, tn, nc, Ka, kc, ts⟩]) ++ (touchR Na tn nc ts :: touchR Ka tn kc ts :: (slotRows (some ⟨g, d, c, r, bb, rc, N, on, .slice none 0 0, .slice none 0 0, [], xs⟩) ++ (sr :: ex)))) := by
      unfold wHeadL
      rw [List.length_append, List.length_singleton, ← HM.out, show noteC (T ++ [⟨Na, tn, nc, Ka, kc, ts⟩]) = noteC T ++ [.slice Na tn tn] from List.map_append, show wasC (T ++ [⟨Na, tn, nc, Ka, kc, ts⟩]) = wasC T ++ [.slice Ka tn kc] from List.map_append]
      exact hO5
    have hr1 : TReads (w4.setCell ⟨q, 11, none⟩ (.slice A4 (mt + 1) ct4)) (w4.setCell ⟨q, 11, none⟩ (.slice A4 (mt + 1) ct4)).heap.size Na tn ts := TReads.of_reads (Reads.of_own (hO6.1 (touchR Na tn nc ts) (by simp)))
    have hr2 : TReads (w4.setCell ⟨q, 11, none⟩ (.slice A4 (mt + 1) ct4)) (w4.setCell ⟨q, 11, none⟩ (.slice A4 (mt + 1) ct4)).heap.size Ka tn ts := TReads.of_reads (Reads.of_own (hO6.1 (touchR Ka tn kc ts) (by simp)))
    have HSM := hide_ (sameTouches_any Na Ka tn tn kc ts _ _ hr1 hr2 (Nat.le_refl _) (by have := HNN.out; omega))
    have HO6 : Hid (Owns (w4.setCell ⟨q, 11, none⟩ (.slice A4 (mt + 1) ct4)) B (wHeadL q ps gv kv (.slice A2 (mt + 1) ct2) (.slice A4 (mt + 1) ct4) G (T ++ [⟨Na, tn, nc, Ka, kc, ts⟩]) ++ ([(⟨Na, tn, nc, Ka, kc, ts⟩ : NoteV)].flatMap noteRows ++ (slotRows (some ⟨g, d, c, r, bb, rc, N, on, .slice none 0 0, .slice none 0 0, [], xs⟩) ++ ex)))) := hide_ (hO6.pick [sr] fun cnt one e1 e2 e3 => by simp only [e1, e2, e3, List.flatMap_cons, List.flatMap_nil, noteRows]; omega)
    have HB6 := hide_ hb5
    clear hO4 hb4 hO5 hb5 hO6 hr1 hr2 HO3 HB3
    go_wp2_with fail
    refine HSM.out.mono ?_
    rintro e w6 ⟨rfl, nq, rfl⟩
    go_wp2
    go_ret
    exact ⟨by simp, ⟨(some ⟨g, d, c, r, bb, rc, N, on, .slice none 0 0, .slice none 0 0, [], xs⟩), _, _, [⟨Na, tn, nc, Ka, kc, ts⟩], rfl, rfl, HSOK.out, HO6.out.drewN nq, by simp, (fun t h => by rw [List.mem_singleton.1 h]; exact HNN.out)⟩, below_draws2 HB6.out nq⟩
set_option maxRecDepth 100000 in
set_option maxHeartbeats 2000000 in
theorem rest_16 (Bz : Nat) (x : StepV) (hx : StepOk W Bz x) (hBz : Bz ≤ B) (hd : x.d = 16) (a b : Nat) (ha : a < 4) (hb : b < 4) (s0 : Option SegV) (hs0 : SlotOk s0) (hp1 : ps[a]? = some (.pointer (mA s0))) (hp2 : ps[4 + a]? = some (.pointer (rA s0))) (hO : Owns W B (wHeadL q ps gv kv nv wv G T ++ (slotRows s0 ++ ex))) (hB : B ≤ W.heap.size) (hT : T.length ≤ 4398046511104) :
    Calls Try.prog 86 #[.pointer (some ⟨q, 0, none⟩), .agg (stepCells x).toArray, .int .i64 a, .int .i64 b] W fun e W' => e = .returned (.bool true) ∧ RestPost W' B q s0 ps gv kv G T ex ∧ Below B W W' := by
  obtain ⟨dd, sa, sb, p, v, n, sn, A, l, cc, zs⟩ := x
  simp only at hd
  subst hd
  have hO1 := hO.box 79 (stepCells ⟨16, sa, sb, p, v, n, sn, A, l, cc, zs⟩).toArray hB (by simp [stepCells, maxLen])
  have k0 : Blk (W.alloc (.cells (stepCells ⟨16, sa, sb, p, v, n, sn, A, l, cc, zs⟩).toArray 79)) W.heap.size 79 (stepCells ⟨16, sa, sb, p, v, n, sn, A, l, cc, zs⟩).toArray := Blk.new W _ _
  obtain ⟨W1, hw⟩ : ∃ W1, W1 = W.alloc (.cells (stepCells ⟨16, sa, sb, p, v, n, sn, A, l, cc, zs⟩).toArray 79) := ⟨_, rfl⟩
  have hW1 : Below B W W1 := by rw [hw]; exact (Below.refl _ _).alloc hB _
  rw [← hw] at hO1 k0
  obtain ⟨sr, hsr⟩ : ∃ sr : Ro, sr = stepBox W.heap.size ⟨16, sa, sb, p, v, n, sn, A, l, cc, zs⟩ := ⟨_, rfl⟩
  have hO2 : Owns W1 B (wHeadL q ps gv kv nv wv G T ++ (slotRows s0 ++ (sr :: ex))) := by
    rw [hsr]
    exact hO1.perm fun cnt one e1 e2 e3 => by simp only [e1, e2, e3, stepBox]; simp only [List.size_toArray, show (stepCells ⟨16, sa, sb, p, v, n, sn, A, l, cc, zs⟩).length = 8 from rfl]; omega
  have HC : Hid (∀ W2 m, Owns W2 B m → sr ∈ m → W2.cell? ⟨W.heap.size, 6, none⟩ = some (.bool sn) ∧ W.heap.size < W2.heap.size) := hide_ fun W2 m h hm => by
    obtain ⟨i, hi⟩ := List.getElem?_of_mem hm
    rw [hsr] at hi
    exact ⟨h.cell (i := i) hi rfl, (h.base (i := i) hi).2⟩
  have c0 : W1.cell? ⟨W.heap.size, 0, none⟩ = some (.int .u8 16) := k0.cell 0
  have c6 : W1.cell? ⟨W.heap.size, 6, none⟩ = some (.bool sn) := k0.cell 6
  have cl := k0.lt
  have l1 := slot_cell hO2 hp1
  have l2 := slot_cell hO2 hp2
  have lq := (hO2.base (i := 0) rfl).2
  have HO1 := hide_ hO2
  have HWB := hide_ hW1
  have HB0 := hide_ hB
  have HB1 := hide_ (Nat.le_trans hB hW1.size)
  have HT := hide_ hT
  have i1 : (a : Int) < 4 := by omega
  have i0 : (0 : Int) ≤ (a : Int) := by omega
  have j1 : (b : Int) < 4 := by omega
  have j0 : (0 : Int) ≤ (b : Int) := by omega
  have HFIN : Hid (∀ W2, Owns W2 B (wHeadL q ps gv kv nv wv G T ++ (slotRows s0 ++ (sr :: ex))) → RestPost W2 B q s0 ps gv kv G T ex) := hide_ fun W2 h =>
    ⟨s0, nv, wv, [], rfl, rfl, hs0, by rw [List.append_nil]; exact h.pick [sr] fun cnt one e1 e2 e3 => by simp only [e1, e2, e3, List.flatMap_nil]; omega, by simp, (fun a h => by cases h)⟩
  unfold stepCells at *
  clear hO hO1 hO2 hW1 k0 hB hx hsr hp1 hp2 hT
  cases s0 with
  | none =>
    have H1 := hide_ (fun W2 : World => Bits_nil W2)
    have H2 := hide_ (fun W2 : World => rBits_nil W2)
    simp only [mA, rA] at l1 l2
    subst hw
    go_enter Try.func86, Try.ntmps86
    go_wp2_with fail
    refine (H1.out _).mono ?_
    rintro e w9 ⟨rfl, nq, rfl⟩
    go_wp2_with fail
    refine (H2.out _).mono ?_
    rintro e w8 ⟨rfl, hw8⟩
    subst w8
    go_wp2
    go_ret
    exact ⟨by simp, HFIN.out _ (HO1.out.drewN nq), below_draws2 HWB.out nq⟩
  | some s =>
    obtain ⟨g, d, c, r, bb, rc, N, on, tv, lv, ts, xs⟩ := s
    obtain ⟨k1, k2, k3, k4⟩ := hs0
    simp only at k1 k2 k3 k4
    simp only [mA, rA] at l1 l2
    obtain ⟨kb, hk8, hk16, hkN⟩ := k1
    have hO1' : Owns W1 B (memRows g d N c on tv ts xs ++ (refRows r bb N rc on lv ts xs ++ (wHeadL q ps gv kv nv wv G T ++ (sr :: ex)))) := HO1.out.perm fun cnt one e1 e2 e3 => by simp only [e1, e2, e3, slotRows, segRows]; omega
    have H1 := hide_ (Bits_any kb hk16 hkN hO1')
    have H2 := hide_ (fun nq : Nat => rBits_any (W := W1.drewN nq) kb (by omega) hkN ((hO1'.turned).drewN nq))
    clear hO1' k2 k3 k4 hkN
    subst hw
    go_enter Try.func86, Try.ntmps86
    go_wp2_with fail
    refine H1.out.mono ?_
    rintro e w9 ⟨rfl, nq, rfl⟩
    go_wp2_with fail
    refine (H2.out _).mono ?_
    rintro e w8 ⟨rfl, hw8⟩
    subst w8
    go_wp2
    go_ret
    exact ⟨by simp, HFIN.out _ (HO1.out.drewN nq), below_draws2 HWB.out nq⟩
set_option maxRecDepth 100000 in
set_option maxHeartbeats 2000000 in
theorem rest_o (Bz : Nat) (x : StepV) (hx : StepOk W Bz x) (hBz : Bz ≤ B) (hd : x.d ≠ 13 ∧ x.d ≠ 14 ∧ x.d ≠ 15 ∧ x.d ≠ 16) (a b : Nat) (ha : a < 4) (hb : b < 4) (s0 : Option SegV) (hs0 : SlotOk s0) (hp1 : ps[a]? = some (.pointer (mA s0))) (hp2 : ps[4 + a]? = some (.pointer (rA s0))) (hO : Owns W B (wHeadL q ps gv kv nv wv G T ++ (slotRows s0 ++ ex))) (hB : B ≤ W.heap.size) (hT : T.length ≤ 4398046511104) :
    Calls Try.prog 86 #[.pointer (some ⟨q, 0, none⟩), .agg (stepCells x).toArray, .int .i64 a, .int .i64 b] W fun e W' => e = .returned (.bool true) ∧ RestPost W' B q s0 ps gv kv G T ex ∧ Below B W W' := by
  obtain ⟨dd, sa, sb, p, v, n, sn, A, l, cc, zs⟩ := x
  simp only at hd
  obtain ⟨g13, g14, g15, g16⟩ := hd
  have hO1 := hO.box 79 (stepCells ⟨dd, sa, sb, p, v, n, sn, A, l, cc, zs⟩).toArray hB (by simp [stepCells, maxLen])
  have k0 : Blk (W.alloc (.cells (stepCells ⟨dd, sa, sb, p, v, n, sn, A, l, cc, zs⟩).toArray 79)) W.heap.size 79 (stepCells ⟨dd, sa, sb, p, v, n, sn, A, l, cc, zs⟩).toArray := Blk.new W _ _
  obtain ⟨W1, hw⟩ : ∃ W1, W1 = W.alloc (.cells (stepCells ⟨dd, sa, sb, p, v, n, sn, A, l, cc, zs⟩).toArray 79) := ⟨_, rfl⟩
  have hW1 : Below B W W1 := by rw [hw]; exact (Below.refl _ _).alloc hB _
  rw [← hw] at hO1 k0
  obtain ⟨sr, hsr⟩ : ∃ sr : Ro, sr = stepBox W.heap.size ⟨dd, sa, sb, p, v, n, sn, A, l, cc, zs⟩ := ⟨_, rfl⟩
  have hO2 : Owns W1 B (wHeadL q ps gv kv nv wv G T ++ (slotRows s0 ++ (sr :: ex))) := by
    rw [hsr]
    exact hO1.perm fun cnt one e1 e2 e3 => by simp only [e1, e2, e3, stepBox]; simp only [List.size_toArray, show (stepCells ⟨dd, sa, sb, p, v, n, sn, A, l, cc, zs⟩).length = 8 from rfl]; omega
  have HC : Hid (∀ W2 m, Owns W2 B m → sr ∈ m → W2.cell? ⟨W.heap.size, 6, none⟩ = some (.bool sn) ∧ W.heap.size < W2.heap.size) := hide_ fun W2 m h hm => by
    obtain ⟨i, hi⟩ := List.getElem?_of_mem hm
    rw [hsr] at hi
    exact ⟨h.cell (i := i) hi rfl, (h.base (i := i) hi).2⟩
  have c0 : W1.cell? ⟨W.heap.size, 0, none⟩ = some (.int .u8 dd) := k0.cell 0
  have c6 : W1.cell? ⟨W.heap.size, 6, none⟩ = some (.bool sn) := k0.cell 6
  have cl := k0.lt
  have l1 := slot_cell hO2 hp1
  have l2 := slot_cell hO2 hp2
  have lq := (hO2.base (i := 0) rfl).2
  have HO1 := hide_ hO2
  have HWB := hide_ hW1
  have HB0 := hide_ hB
  have HB1 := hide_ (Nat.le_trans hB hW1.size)
  have HT := hide_ hT
  have i1 : (a : Int) < 4 := by omega
  have i0 : (0 : Int) ≤ (a : Int) := by omega
  have j1 : (b : Int) < 4 := by omega
  have j0 : (0 : Int) ≤ (b : Int) := by omega
  have HFIN : Hid (∀ W2, Owns W2 B (wHeadL q ps gv kv nv wv G T ++ (slotRows s0 ++ (sr :: ex))) → RestPost W2 B q s0 ps gv kv G T ex) := hide_ fun W2 h =>
    ⟨s0, nv, wv, [], rfl, rfl, hs0, by rw [List.append_nil]; exact h.pick [sr] fun cnt one e1 e2 e3 => by simp only [e1, e2, e3, List.flatMap_nil]; omega, by simp, (fun a h => by cases h)⟩
  unfold stepCells at *
  clear hO hO1 hO2 hW1 k0 hB hx hsr hp1 hp2 hT
  have u13 : (dd == 13) = false := by simp [g13]
  have u14 : (dd == 14) = false := by simp [g14]
  have u15 : (dd == 15) = false := by simp [g15]
  have u16 : (dd == 16) = false := by simp [g16]
  clear g13 g14 g15 g16
  obtain ⟨m0, hm0⟩ : ∃ m0, m0 = mA s0 := ⟨_, rfl⟩
  obtain ⟨t0, ht0⟩ : ∃ t0, t0 = rA s0 := ⟨_, rfl⟩
  rw [← hm0] at l1
  rw [← ht0] at l2
  clear hm0 ht0
  subst hw
  go_enter Try.func86, Try.ntmps86
  go_wp2
  go_ret
  exact ⟨rfl, HFIN.out _ HO1.out, HWB.out⟩
end
end Go.Proofs.Ytgppbdcnpailaaa
