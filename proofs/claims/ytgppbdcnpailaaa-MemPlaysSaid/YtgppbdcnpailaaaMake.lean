/-
  The walk of playpenlaw09's make.
-/
import Derived.Test.YtgppbdcnpailaaaMakeK
namespace Go.Proofs.Ytgppbdcnpailaaa
open Go.RowKit
set_option linter.unusedVariables false
set_option linter.unusedSimpArgs false

theorem zeros_ok (N : Nat) : bytesOk (List.replicate N 0) := fun x hx => by
  obtain ⟨_, rfl⟩ := List.mem_replicate.1 hx
  omega
section
variable {W : World} {B q : Nat} {ps : List Value} {gv kv nv wv : Value} {G : List AnsV} {T : List NoteV} {ex : List Ro}
set_option maxRecDepth 100000 in
set_option maxHeartbeats 2000000 in
theorem make_0 (Bz : Nat) (x : StepV) (hx : StepOk W Bz x) (hBz : Bz ≤ B) (hd : x.d = 0) (a b : Nat) (ha : a < 4) (hb : b < 4) (hO : Owns W B (wHeadL q ps gv kv nv wv G T ++ ex)) (hp : ps.length = 8) (hB : B ≤ W.heap.size) :
    Calls Try.prog 83 #[.pointer (some ⟨q, 0, none⟩), .agg (stepCells x).toArray, .int .i64 a, .int .i64 b] W fun e W' => e = .returned (.bool true) ∧ MakePost x a W' B q ps gv kv nv wv G T ex ∧ Below B W W' := by
  obtain ⟨dd, sa, sb, p, v, n, sn, A, l, cc, zs⟩ := x
  obtain ⟨_, _, _, ⟨p0, p1⟩, ⟨v0, v1⟩, ⟨n0, n1⟩, hz, hok', ⟨hlc, hcm⟩⟩ := hx
  simp only at hd
  subst hd
  simp only at p0 p1 v0 v1 n0 n1 hz hok' hlc hcm
  have hO1 := hO.alloc (.cells (stepCells ⟨0, sa, sb, p, v, n, sn, A, l, cc, zs⟩).toArray 79)
  have k0 : Blk (W.alloc (.cells (stepCells ⟨0, sa, sb, p, v, n, sn, A, l, cc, zs⟩).toArray 79)) W.heap.size 79 (stepCells ⟨0, sa, sb, p, v, n, sn, A, l, cc, zs⟩).toArray := Blk.new W _ _
  obtain ⟨W1, hw⟩ : ∃ W1, W1 = W.alloc (.cells (stepCells ⟨0, sa, sb, p, v, n, sn, A, l, cc, zs⟩).toArray 79) := ⟨_, rfl⟩
  have hW1 : Below B W W1 := by rw [hw]; exact (Below.refl _ _).alloc hB _
  rw [← hw] at hO1 k0
  have c0 : W1.cell? ⟨W.heap.size, 0, none⟩ = some (.int .u8 0) := k0.cell 0
  have cl := k0.lt
  have HKC : Hid (∀ w', Below W1.heap.size W1 w' → w'.cell? ⟨W.heap.size, 5, none⟩ = some (.int .i64 n) ∧ w'.cell? ⟨W.heap.size, 7, none⟩ = some (.slice A l cc) ∧ W.heap.size < w'.heap.size) := hide_ fun w' h =>
    ⟨(h.cell (p := ⟨W.heap.size, 5, none⟩) k0.lt).trans (k0.cell 5), (h.cell (p := ⟨W.heap.size, 7, none⟩) k0.lt).trans (k0.cell 7), Nat.lt_of_lt_of_le k0.lt h.size⟩
  obtain ⟨c5, c7, _⟩ := HKC.out W1 (Below.refl _ _)
  have HO1 := hide_ hO1
  have HW := hide_ hw
  have HWB := hide_ hW1
  have HB0 := hide_ hB
  have HB1 := hide_ (Nat.le_trans hB hW1.size)
  have HZ := hide_ (show ∀ W2, Below B W W2 → Reads W2 Bz 1 A l (u8s zs) from fun W2 h => hz.below (h.mono hBz))
  have HOKZ := hide_ hok'
  have hl47 : l ≤ 140737488351232 := by omega
  have HZL := hide_ (show zs.length = l by simpa using hz.1)
  have i1 : (a : Int) < 4 := by omega
  have i0 : (0 : Int) ≤ (a : Int) := by omega
  have j1 : (b : Int) < 4 := by omega
  have j0 : (0 : Int) ≤ (b : Int) := by omega
  have he := rptr_eq
  have hm := mptr_eq
  unfold stepCells at *
  clear hO hO1 hW1 k0 hw hz hok' hB
  by_cases hr : 8 ≤ n ∧ n ≤ 16
  · obtain ⟨m, rfl⟩ := Int.eq_ofNat_of_zero_le (show 0 ≤ n by omega)
    have hm8 : 8 ≤ m := by omega
    have hm16 : m ≤ 16 := by omega
    have H1 := hide_ (New_any (W := W1) (N := 2 ^ m) m hm8 hm16 rfl HO1.out HB1.out)
    have HSG := hide_ (show IsSeg (2 ^ m) from ⟨m, hm8, hm16, rfl⟩)
    go_enter Try.func83, Try.ntmps83
    go_wp2_with fail
    rw [← HW.out]
    refine H1.out.mono ?_
    rintro e w9 ⟨g, d, c, rfl, hO9, hb9⟩
    have hB9 := HWB.out.trans (hb9.mono HB1.out)
    obtain ⟨d5, d7, dl⟩ := HKC.out w9 hb9
    have H2 := hide_ (rNew_any (W := w9) (N := 2 ^ m) m hm8 hm16 rfl hO9 (Nat.le_trans HB0.out hB9.size))
    have HB9 := hide_ hB9
    clear hO9 hb9 hB9 H1
    go_wp2_with fail
    refine H2.out.mono ?_
    rintro e w8 ⟨r, d2, c2, rfl, hO8, hb8⟩
    have HB8 := hide_ (HB9.out.trans (hb8.mono (Nat.le_trans HB0.out HB9.out.size)))
    have HS : Hid (Owns w8 B (wHeadL q ps gv kv nv wv G T ++ (refRows r d2 (2 ^ m) c2 false (.slice none 0 0) [] (List.replicate (2 ^ m) 0) ++ (memRows g d (2 ^ m) c false (.slice none 0 0) [] (List.replicate (2 ^ m) 0) ++ ex)))) := hide_ (hO8.perm fun cnt one e1 e2 e3 => by simp only [e1, e2, e3]; omega)
    clear hO8 hb8 H2
    obtain ⟨⟨o1, e1⟩, ⟨o2, e2⟩, f1, f2, hq, hO2, hb2⟩ := slot_store HS.out hp ha (.pointer (some ⟨g, 0, none⟩)) (.pointer (some ⟨r, 0, none⟩))
    have HO2 := hide_ hO2
    have HB2 := hide_ (HB8.out.trans hb2)
    clear hO2 hb2
    go_wp2
    go_ret
    refine ⟨rfl, .inr ⟨a, some ⟨g, d, c, r, d2, c2, 2 ^ m, false, .slice none 0 0, .slice none 0 0, [], List.replicate (2 ^ m) 0⟩, ha, ⟨HSG.out, by simp, zeros_ok _, by simp⟩, ?_, fun _ _ _ => ⟨rfl, rfl⟩⟩, HB2.out⟩
    exact HO2.out.perm fun cnt one e1 e2 e3 => by simp only [e1, e2, e3, slotRows, segRows, mA, rA]; omega
  · have H1 := hide_ (fun (W2 : World) => mNew_bad n (by omega) W2)
    have H2 := hide_ (fun (W2 : World) => rNew_bad n (by omega) W2)
    have HS := HO1
    have HR := hide_ hr
    have HB8 := HWB
    clear hr
    obtain ⟨⟨o1, e1⟩, ⟨o2, e2⟩, f1, f2, hq, hO2, hb2⟩ := slot_store HS.out hp ha (.pointer none) (.pointer none)
    have HO2 := hide_ hO2
    have HB2 := hide_ (HB8.out.trans hb2)
    clear hO2 hb2
    go_enter Try.func83, Try.ntmps83
    go_wp2_with fail
    rw [← HW.out]
    refine (H1.out _).mono ?_
    rintro e w9 ⟨rfl, hw9⟩
    subst w9
    go_wp2_with fail
    refine (H2.out _).mono ?_
    rintro e w8 ⟨rfl, hw8⟩
    subst w8
    go_wp2
    go_ret
    exact ⟨rfl, .inr ⟨a, none, ha, trivial, HO2.out, fun _ h1 h2 => absurd ⟨h1, h2⟩ HR.out⟩, HB2.out⟩
set_option maxRecDepth 100000 in
set_option maxHeartbeats 2000000 in
theorem make_1 (Bz : Nat) (x : StepV) (hx : StepOk W Bz x) (hBz : Bz ≤ B) (hd : x.d = 1) (a b : Nat) (ha : a < 4) (hb : b < 4) (hO : Owns W B (wHeadL q ps gv kv nv wv G T ++ ex)) (hp : ps.length = 8) (hB : B ≤ W.heap.size) :
    Calls Try.prog 83 #[.pointer (some ⟨q, 0, none⟩), .agg (stepCells x).toArray, .int .i64 a, .int .i64 b] W fun e W' => e = .returned (.bool true) ∧ MakePost x a W' B q ps gv kv nv wv G T ex ∧ Below B W W' := by
  obtain ⟨dd, sa, sb, p, v, n, sn, A, l, cc, zs⟩ := x
  obtain ⟨_, _, _, ⟨p0, p1⟩, ⟨v0, v1⟩, ⟨n0, n1⟩, hz, hok', ⟨hlc, hcm⟩⟩ := hx
  simp only at hd
  subst hd
  simp only at p0 p1 v0 v1 n0 n1 hz hok' hlc hcm
  have hO1 := hO.alloc (.cells (stepCells ⟨1, sa, sb, p, v, n, sn, A, l, cc, zs⟩).toArray 79)
  have k0 : Blk (W.alloc (.cells (stepCells ⟨1, sa, sb, p, v, n, sn, A, l, cc, zs⟩).toArray 79)) W.heap.size 79 (stepCells ⟨1, sa, sb, p, v, n, sn, A, l, cc, zs⟩).toArray := Blk.new W _ _
  obtain ⟨W1, hw⟩ : ∃ W1, W1 = W.alloc (.cells (stepCells ⟨1, sa, sb, p, v, n, sn, A, l, cc, zs⟩).toArray 79) := ⟨_, rfl⟩
  have hW1 : Below B W W1 := by rw [hw]; exact (Below.refl _ _).alloc hB _
  rw [← hw] at hO1 k0
  have c0 : W1.cell? ⟨W.heap.size, 0, none⟩ = some (.int .u8 1) := k0.cell 0
  have cl := k0.lt
  have HKC : Hid (∀ w', Below W1.heap.size W1 w' → w'.cell? ⟨W.heap.size, 5, none⟩ = some (.int .i64 n) ∧ w'.cell? ⟨W.heap.size, 7, none⟩ = some (.slice A l cc) ∧ W.heap.size < w'.heap.size) := hide_ fun w' h =>
    ⟨(h.cell (p := ⟨W.heap.size, 5, none⟩) k0.lt).trans (k0.cell 5), (h.cell (p := ⟨W.heap.size, 7, none⟩) k0.lt).trans (k0.cell 7), Nat.lt_of_lt_of_le k0.lt h.size⟩
  obtain ⟨c5, c7, _⟩ := HKC.out W1 (Below.refl _ _)
  have HO1 := hide_ hO1
  have HW := hide_ hw
  have HWB := hide_ hW1
  have HB0 := hide_ hB
  have HB1 := hide_ (Nat.le_trans hB hW1.size)
  have HZ := hide_ (show ∀ W2, Below B W W2 → Reads W2 Bz 1 A l (u8s zs) from fun W2 h => hz.below (h.mono hBz))
  have HOKZ := hide_ hok'
  have hl47 : l ≤ 140737488351232 := by omega
  have HZL := hide_ (show zs.length = l by simpa using hz.1)
  have i1 : (a : Int) < 4 := by omega
  have i0 : (0 : Int) ≤ (a : Int) := by omega
  have j1 : (b : Int) < 4 := by omega
  have j0 : (0 : Int) ≤ (b : Int) := by omega
  have he := rptr_eq
  have hm := mptr_eq
  unfold stepCells at *
  clear hO hO1 hW1 k0 hw hz hok' hB
  have HL1 := hide_ (lent_rows A l cc Bz zs HO1.out HB1.out (HZ.out _ HWB.out) (Nat.le_trans hBz HB1.out) hl47)
  go_enter Try.func83, Try.ntmps83
  go_wp2_with fail
  rw [← HW.out]
  refine HL1.out.mono ?_
  rintro e w5 ⟨f, cf, rfl, hfc, hO5, hb5⟩
  have hB5 := HWB.out.trans (hb5.mono HB1.out)
  obtain ⟨d5, d7, dl⟩ := HKC.out w5 hb5
  have z0 : (0 : Int) ≤ (l : Int) := by omega
  have z1 : (l : Int) ≤ (cf : Int) := by omega
  have hB5s := Nat.le_trans HB0.out hB5.size
  have HR5 := hide_ (lent_reads (f := f) (n := l) (cf := cf) HZL.out hO5 (.head _))
  have HO5 := hide_ hO5
  have HB5 := hide_ hB5
  have HB5s := hide_ hB5s
  have HK5 := hide_ hb5
  clear hO5 hb5 hB5 hB5s HL1
  by_cases hsg : IsSeg l
  · have H1 := hide_ (From_any (W := w5) (some ⟨f, 0, none⟩) cf HO5.out HB5s.out HR5.out hsg)
    have HSG := hide_ hsg
    clear hsg
    go_wp2_with fail
    refine H1.out.mono ?_
    rintro e w9 ⟨g, d, c, rfl, hO9, hb9⟩
    have hB9 := HB5.out.trans (hb9.mono HB5s.out)
    have hK9 := HK5.out.trans (hb9.mono HK5.out.size)
    obtain ⟨t5, t7, tl⟩ := HKC.out w9 hK9
    have H2 := hide_ (rFrom_any (W := w9) A l cc zs hO9 (Nat.le_trans HB0.out hB9.size) ((HZ.out _ hB9).more (Nat.le_trans hBz (Nat.le_trans HB0.out hB9.size))) hl47)
    have HB9 := hide_ hB9
    have HK9 := hide_ hK9
    clear hO9 hb9 hB9 hK9 H1
    go_wp2_with fail
    refine H2.out.mono ?_
    rintro e w8 (⟨_, r, d2, c2, rfl, hO8, hb8⟩ | ⟨hns, _⟩)
    · have hB8 := HB9.out.trans (hb8.mono (Nat.le_trans HB0.out HB9.out.size))
      have hK8 := HK9.out.trans (hb8.mono HK9.out.size)
      obtain ⟨u5, u7, ul⟩ := HKC.out w8 hK8
      have hKp : Hid (Calls Try.prog 71 #[.slice (some ⟨f, 0, none⟩) (l + 64) cf, .slice A l cc] w8 fun e w' => e = .returned (.bool true) ∧ ∃ nq, w' = w8.drewN nq) := hide_ ((KeptBytes_any (some ⟨f, 0, none⟩) A (l + 64) cf l cc (zs ++ marks8 0 0 64) zs w8.heap.size w8 (Reads.of_own (hO8.1 (lentR f l cf zs) (by simp))) ((HZ.out _ hB8).more (Nat.le_trans hBz (Nat.le_trans HB0.out hB8.size))) (by simp only [maxLen]; omega) (by simp only [maxLen]; omega)).mono fun e w' h => ⟨by rw [h.1]; simp, h.2⟩)
      have HO8 : Hid (Owns w8 B (lentR f l cf zs :: (wHeadL q ps gv kv nv wv G T ++ (refRows r d2 l c2 false (.slice none 0 0) [] zs ++ (memRows g d l c false (.slice none 0 0) [] zs ++ ex))))) := hide_ (hO8.perm fun cnt one e1 e2 e3 => by simp only [e1, e2, e3]; omega)
      have HB8 := hide_ hB8
      clear hO8 hb8 hB8 hK8 H2
      go_wp2_with fail
      refine hKp.out.mono ?_
      rintro e w6 ⟨rfl, nq, rfl⟩
      have hOv := hide_ (over_rows (HO8.out.drewN nq) (Nat.le_trans HB0.out HB8.out.size) (by simp only [maxLen]; omega))
      go_wp2_with fail
      refine hOv.out.mono ?_
      rintro e w7 ⟨rfl, hO7, hb7⟩
      have HS := hide_ hO7
      have HB7 := hide_ ((below_draws2 HB8.out nq).trans hb7)
      clear hO7 hb7 hOv
      obtain ⟨⟨o1, e1⟩, ⟨o2, e2⟩, f1, f2, hq, hO2, hb2⟩ := slot_store HS.out hp ha (.pointer (some ⟨g, 0, none⟩)) (.pointer (some ⟨r, 0, none⟩))
      have HO2 := hide_ hO2
      have HB2 := hide_ (HB7.out.trans hb2)
      clear hO2 hb2
      go_wp2
      go_ret
      refine ⟨rfl, .inr ⟨a, some ⟨g, d, c, r, d2, c2, l, false, .slice none 0 0, .slice none 0 0, [], zs⟩, ha, ⟨HSG.out, HZL.out, HOKZ.out, by simp⟩, ?_, fun h => by simp at h⟩, HB2.out⟩
      exact HO2.out.perm fun cnt one e1 e2 e3 => by simp only [e1, e2, e3, slotRows, segRows, mA, rA]; omega
    · exact absurd HSG.out hns
  · have H1 := hide_ (mFrom_bad (some ⟨f, 0, none⟩) l cf hsg w5)
    have H2 := hide_ (rFrom_any (W := w5) A l cc zs HO5.out HB5s.out ((HZ.out _ HB5.out).more (Nat.le_trans hBz HB5s.out)) hl47)
    have HSG := hide_ hsg
    clear hsg
    go_wp2_with fail
    refine H1.out.mono ?_
    rintro e w9 ⟨rfl, hw9⟩
    subst w9
    go_wp2_with fail
    refine H2.out.mono ?_
    rintro e w8 (⟨hs, _⟩ | ⟨_, rfl, hw8⟩)
    · exact absurd hs HSG.out
    · subst w8
      have hKp : Hid (Calls Try.prog 71 #[.slice (some ⟨f, 0, none⟩) (l + 64) cf, .slice A l cc] w5 fun e w' => e = .returned (.bool true) ∧ ∃ nq, w' = w5.drewN nq) := hide_ ((KeptBytes_any (some ⟨f, 0, none⟩) A (l + 64) cf l cc (zs ++ marks8 0 0 64) zs w5.heap.size w5 (Reads.of_own (HO5.out.1 (lentR f l cf zs) (by simp))) ((HZ.out _ HB5.out).more (Nat.le_trans hBz HB5s.out)) (by simp only [maxLen]; omega) (by simp only [maxLen]; omega)).mono fun e w' h => ⟨by rw [h.1]; simp, h.2⟩)
      go_wp2_with fail
      refine hKp.out.mono ?_
      rintro e w6 ⟨rfl, nq, rfl⟩
      have hOv := hide_ (over_rows (HO5.out.drewN nq) HB5s.out (by simp only [maxLen]; omega))
      go_wp2_with fail
      refine hOv.out.mono ?_
      rintro e w7 ⟨rfl, hO7, hb7⟩
      have HS := hide_ hO7
      have HB7 := hide_ ((below_draws2 HB5.out nq).trans hb7)
      clear hO7 hb7 hOv
      obtain ⟨⟨o1, e1⟩, ⟨o2, e2⟩, f1, f2, hq, hO2, hb2⟩ := slot_store HS.out hp ha (.pointer none) (.pointer none)
      have HO2 := hide_ hO2
      have HB2 := hide_ (HB7.out.trans hb2)
      clear hO2 hb2
      go_wp2
      go_ret
      exact ⟨rfl, .inr ⟨a, none, ha, trivial, HO2.out, fun h => by simp at h⟩, HB2.out⟩
set_option maxRecDepth 100000 in
set_option maxHeartbeats 2000000 in
theorem make_12 (Bz : Nat) (x : StepV) (hx : StepOk W Bz x) (hBz : Bz ≤ B) (hd : x.d = 12) (a b : Nat) (ha : a < 4) (hb : b < 4) (s0 : Option SegV) (hs0 : SlotOk s0) (hp1 : ps[a]? = some (.pointer (mA s0))) (hp2 : ps[4 + a]? = some (.pointer (rA s0))) (hO : Owns W B (wHeadL q ps gv kv nv wv G T ++ (slotRows s0 ++ ex))) (hp : ps.length = 8) (hB : B ≤ W.heap.size) :
    Calls Try.prog 83 #[.pointer (some ⟨q, 0, none⟩), .agg (stepCells x).toArray, .int .i64 a, .int .i64 b] W fun e W' => e = .returned (.bool true) ∧ MakePost x a W' B q ps gv kv nv wv G T (slotRows s0 ++ ex) ∧ Below B W W' := by
  obtain ⟨dd, sa, sb, p, v, n, sn, A, l, cc, zs⟩ := x
  obtain ⟨_, _, _, ⟨p0, p1⟩, ⟨v0, v1⟩, ⟨n0, n1⟩, hz, hok', ⟨hlc, hcm⟩⟩ := hx
  simp only at hd
  subst hd
  simp only at p0 p1 v0 v1 n0 n1 hz hok' hlc hcm
  have hO1 := hO.alloc (.cells (stepCells ⟨12, sa, sb, p, v, n, sn, A, l, cc, zs⟩).toArray 79)
  have k0 : Blk (W.alloc (.cells (stepCells ⟨12, sa, sb, p, v, n, sn, A, l, cc, zs⟩).toArray 79)) W.heap.size 79 (stepCells ⟨12, sa, sb, p, v, n, sn, A, l, cc, zs⟩).toArray := Blk.new W _ _
  obtain ⟨W1, hw⟩ : ∃ W1, W1 = W.alloc (.cells (stepCells ⟨12, sa, sb, p, v, n, sn, A, l, cc, zs⟩).toArray 79) := ⟨_, rfl⟩
  have hW1 : Below B W W1 := by rw [hw]; exact (Below.refl _ _).alloc hB _
  rw [← hw] at hO1 k0
  have c0 : W1.cell? ⟨W.heap.size, 0, none⟩ = some (.int .u8 12) := k0.cell 0
  have cl := k0.lt
  have HKC : Hid (∀ w', Below W1.heap.size W1 w' → w'.cell? ⟨W.heap.size, 5, none⟩ = some (.int .i64 n) ∧ w'.cell? ⟨W.heap.size, 7, none⟩ = some (.slice A l cc) ∧ W.heap.size < w'.heap.size) := hide_ fun w' h =>
    ⟨(h.cell (p := ⟨W.heap.size, 5, none⟩) k0.lt).trans (k0.cell 5), (h.cell (p := ⟨W.heap.size, 7, none⟩) k0.lt).trans (k0.cell 7), Nat.lt_of_lt_of_le k0.lt h.size⟩
  obtain ⟨c5, c7, _⟩ := HKC.out W1 (Below.refl _ _)
  have HO1 := hide_ hO1
  have HW := hide_ hw
  have HWB := hide_ hW1
  have HB0 := hide_ hB
  have HB1 := hide_ (Nat.le_trans hB hW1.size)
  have HZ := hide_ (show ∀ W2, Below B W W2 → Reads W2 Bz 1 A l (u8s zs) from fun W2 h => hz.below (h.mono hBz))
  have HOKZ := hide_ hok'
  have hl47 : l ≤ 140737488351232 := by omega
  have HZL := hide_ (show zs.length = l by simpa using hz.1)
  have i1 : (a : Int) < 4 := by omega
  have i0 : (0 : Int) ≤ (a : Int) := by omega
  have j1 : (b : Int) < 4 := by omega
  have j0 : (0 : Int) ≤ (b : Int) := by omega
  have he := rptr_eq
  have hm := mptr_eq
  unfold stepCells at *
  clear hO hO1 hW1 k0 hw hz hok' hB
  have l1 := slot_cell HO1.out hp1
  have l2 := slot_cell HO1.out hp2
  have lq := (HO1.out.base (i := 0) rfl).2
  have HP2 := hide_ hp2
  clear hp1 hp2
  cases s0 with
  | none =>
    have H1 := hide_ (fun (W2 : World) => Clone_not (W := W2) (P := none) (.inl rfl))
    have H2 := hide_ (fun (W2 : World) => rClone_nil W2)
    simp only [mA, rA] at l1 l2
    have hw := HW.out
    subst hw
    clear HW
    go_enter Try.func83, Try.ntmps83
    go_wp2_with fail
    refine (H1.out _).mono ?_
    rintro e w9 ⟨rfl, hb9⟩
    have hO9 := HO1.out.below hb9
    have t2 : w9.cell? ⟨q, 4 + a, none⟩ = some (.pointer none) := slot_cell hO9 HP2.out
    have tq := (hO9.base (i := 0) rfl).2
    have HS := hide_ hO9
    have HB9 := hide_ (HWB.out.trans (hb9.mono HB1.out))
    clear hO9 hb9 HP2
    go_wp2_with fail
    refine (H2.out _).mono ?_
    rintro e w8 ⟨rfl, hw8⟩
    subst w8
    obtain ⟨⟨o1, e1⟩, ⟨o2, e2⟩, f1, f2, hq, hO2, hb2⟩ := slot_store HS.out hp hb (.pointer none) (.pointer none)
    have HO2 := hide_ hO2
    have HB2 := hide_ (HB9.out.trans hb2)
    clear hO2 hb2
    go_wp2
    go_ret
    exact ⟨rfl, .inr ⟨b, none, hb, trivial, HO2.out, fun h => by simp at h⟩, HB2.out⟩
  | some s =>
    obtain ⟨g0, d0, c0', r0, b0, rc0, N, on, tv, lv, ts, xs⟩ := s
    obtain ⟨k1, k2, k3, k4⟩ := hs0
    simp only at k1 k2 k3 k4
    simp only [mA, rA] at l1 l2
    have hO1' : Owns W1 B (memRows g0 d0 N c0' on tv ts xs ++ (refRows r0 b0 N rc0 on lv ts xs ++ (wHeadL q ps gv kv nv wv G T ++ ex))) := HO1.out.perm fun cnt one e1 e2 e3 => by simp only [e1, e2, e3, slotRows, segRows, mA, rA]; omega
    have H1 := hide_ (mClone_any hO1' HB1.out k1)
    have HK1 := hide_ (show IsSeg N ∧ xs.length = N ∧ bytesOk xs ∧ ts.length ≤ 65536 from ⟨k1, k2, k3, k4⟩)
    clear hO1' k1 k2 k3 k4
    have hw := HW.out
    subst hw
    clear HW
    go_enter Try.func83, Try.ntmps83
    go_wp2_with fail
    refine H1.out.mono ?_
    rintro e w9 ⟨g, d, c, rfl, hO9, hb9⟩
    have hB9 := HWB.out.trans (hb9.mono HB1.out)
    have hO9h : Owns w9 B (wHeadL q ps gv kv nv wv G T ++ (memRows g d N c false (.slice none 0 0) [] xs ++ (memRows g0 d0 N c0' on tv ts xs ++ (refRows r0 b0 N rc0 on lv ts xs ++ ex)))) := hO9.perm fun cnt one e1 e2 e3 => by simp only [e1, e2, e3]; omega
    have hO9' : Owns w9 B (refRows r0 b0 N rc0 on lv ts xs ++ (wHeadL q ps gv kv nv wv G T ++ (memRows g d N c false (.slice none 0 0) [] xs ++ (memRows g0 d0 N c0' on tv ts xs ++ ex)))) := hO9.perm fun cnt one e1 e2 e3 => by simp only [e1, e2, e3]; omega
    have t2 : w9.cell? ⟨q, 4 + a, none⟩ = some (.pointer (some ⟨r0, 0, none⟩)) := slot_cell hO9h HP2.out
    have tq := (hO9h.base (i := 0) rfl).2
    have H2 := hide_ (rClone_any hO9' (Nat.le_trans HB0.out hB9.size) (by have := HK1.out.1.bd; omega) (by have := HK1.out.1.bd; omega))
    have HB9 := hide_ hB9
    clear hO9 hb9 hB9 hO9h hO9' H1 HP2
    go_wp2_with fail
    refine H2.out.mono ?_
    rintro e w8 ⟨r, d2, c2, rfl, hO8, hb8⟩
    have HS : Hid (Owns w8 B (wHeadL q ps gv kv nv wv G T ++ (refRows r d2 N c2 false (.slice none 0 0) [] xs ++ (memRows g d N c false (.slice none 0 0) [] xs ++ (memRows g0 d0 N c0' on tv ts xs ++ (refRows r0 b0 N rc0 on lv ts xs ++ ex)))))) := hide_ (hO8.perm fun cnt one e1 e2 e3 => by simp only [e1, e2, e3]; omega)
    have HB8 := hide_ (HB9.out.trans (hb8.mono (Nat.le_trans HB0.out HB9.out.size)))
    clear hO8 hb8 H2
    obtain ⟨⟨o1, e1⟩, ⟨o2, e2⟩, f1, f2, hq, hO2, hb2⟩ := slot_store HS.out hp hb (.pointer (some ⟨g, 0, none⟩)) (.pointer (some ⟨r, 0, none⟩))
    have HO2 := hide_ hO2
    have HB2 := hide_ (HB8.out.trans hb2)
    clear hO2 hb2
    go_wp2
    go_ret
    refine ⟨rfl, .inr ⟨b, some ⟨g, d, c, r, d2, c2, N, false, .slice none 0 0, .slice none 0 0, [], xs⟩, hb, ⟨HK1.out.1, HK1.out.2.1, HK1.out.2.2.1, by simp⟩, ?_, fun h => by simp at h⟩, HB2.out⟩
    exact HO2.out.perm fun cnt one e1 e2 e3 => by simp only [e1, e2, e3, slotRows, segRows, mA, rA]; omega
set_option maxRecDepth 100000 in
set_option maxHeartbeats 2000000 in
theorem make_o (Bz : Nat) (x : StepV) (hx : StepOk W Bz x) (hBz : Bz ≤ B) (hd : x.d ≠ 0 ∧ x.d ≠ 1 ∧ x.d ≠ 12 ∧ x.d ≠ 17) (a b : Nat) (ha : a < 4) (hb : b < 4) (hO : Owns W B (wHeadL q ps gv kv nv wv G T ++ ex)) (hp : ps.length = 8) (hB : B ≤ W.heap.size) :
    Calls Try.prog 83 #[.pointer (some ⟨q, 0, none⟩), .agg (stepCells x).toArray, .int .i64 a, .int .i64 b] W fun e W' => e = .returned (.bool true) ∧ MakePost x a W' B q ps gv kv nv wv G T ex ∧ Below B W W' := by
  obtain ⟨dd, sa, sb, p, v, n, sn, A, l, cc, zs⟩ := x
  obtain ⟨_, _, _, ⟨p0, p1⟩, ⟨v0, v1⟩, ⟨n0, n1⟩, hz, hok', ⟨hlc, hcm⟩⟩ := hx
  simp only at hd
  obtain ⟨g0, g1, g12, g17⟩ := hd
  simp only at p0 p1 v0 v1 n0 n1 hz hok' hlc hcm
  have hO1 := hO.alloc (.cells (stepCells ⟨dd, sa, sb, p, v, n, sn, A, l, cc, zs⟩).toArray 79)
  have k0 : Blk (W.alloc (.cells (stepCells ⟨dd, sa, sb, p, v, n, sn, A, l, cc, zs⟩).toArray 79)) W.heap.size 79 (stepCells ⟨dd, sa, sb, p, v, n, sn, A, l, cc, zs⟩).toArray := Blk.new W _ _
  obtain ⟨W1, hw⟩ : ∃ W1, W1 = W.alloc (.cells (stepCells ⟨dd, sa, sb, p, v, n, sn, A, l, cc, zs⟩).toArray 79) := ⟨_, rfl⟩
  have hW1 : Below B W W1 := by rw [hw]; exact (Below.refl _ _).alloc hB _
  rw [← hw] at hO1 k0
  have c0 : W1.cell? ⟨W.heap.size, 0, none⟩ = some (.int .u8 dd) := k0.cell 0
  have cl := k0.lt
  have HKC : Hid (∀ w', Below W1.heap.size W1 w' → w'.cell? ⟨W.heap.size, 5, none⟩ = some (.int .i64 n) ∧ w'.cell? ⟨W.heap.size, 7, none⟩ = some (.slice A l cc) ∧ W.heap.size < w'.heap.size) := hide_ fun w' h =>
    ⟨(h.cell (p := ⟨W.heap.size, 5, none⟩) k0.lt).trans (k0.cell 5), (h.cell (p := ⟨W.heap.size, 7, none⟩) k0.lt).trans (k0.cell 7), Nat.lt_of_lt_of_le k0.lt h.size⟩
  obtain ⟨c5, c7, _⟩ := HKC.out W1 (Below.refl _ _)
  have HO1 := hide_ hO1
  have HW := hide_ hw
  have HWB := hide_ hW1
  have HB0 := hide_ hB
  have HB1 := hide_ (Nat.le_trans hB hW1.size)
  have HZ := hide_ (show ∀ W2, Below B W W2 → Reads W2 Bz 1 A l (u8s zs) from fun W2 h => hz.below (h.mono hBz))
  have HOKZ := hide_ hok'
  have hl47 : l ≤ 140737488351232 := by omega
  have HZL := hide_ (show zs.length = l by simpa using hz.1)
  have i1 : (a : Int) < 4 := by omega
  have i0 : (0 : Int) ≤ (a : Int) := by omega
  have j1 : (b : Int) < 4 := by omega
  have j0 : (0 : Int) ≤ (b : Int) := by omega
  have he := rptr_eq
  have hm := mptr_eq
  unfold stepCells at *
  clear hO hO1 hW1 k0 hw hz hok' hB
  have u0 : (dd == 0) = false := by simp [g0]
  have u1 : (dd == 1) = false := by simp [g1]
  have u12 : (dd == 12) = false := by simp [g12]
  have u17 : (dd == 17) = false := by simp [g17]
  have HG0 := hide_ g0
  clear g0 g1 g12 g17
  have hw := HW.out
  subst hw
  clear HW
  go_enter Try.func83, Try.ntmps83
  go_wp2
  go_ret
  exact ⟨rfl, .inl ⟨HO1.out, HG0.out⟩, HWB.out⟩
end
end Go.Proofs.Ytgppbdcnpailaaa
