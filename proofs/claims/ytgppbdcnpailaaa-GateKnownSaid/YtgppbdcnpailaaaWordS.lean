/-
  A segment whose log is off: load, store, write; Load4, Store4, Write.
-/
import Derived.Test.YtgppbdcnpailaaaMemS
namespace Go.Proofs.Ytgppbdcnpailaaa
open Go.RowKit
set_option linter.unusedVariables false

section
variable {W : World} {g d N c : Nat} {xs : List Int}
set_option maxRecDepth 100000 in
set_option maxHeartbeats 1000000 in
theorem load_s (a : Int) (n : Nat) (h : MemAt W g d N c xs) (hn : n ≤ 4) :
    Calls Try.prog 78 #[.pointer (some ⟨g, 0, none⟩), .int .u32 a, .int .i64 n] W fun e W' => e = .returned (.int .u32 (wordAt N a xs n)) ∧ Below W.heap.size W W' := by
  have hN := h.seg.pow
  obtain ⟨W2, hW2⟩ : ∃ W2, W2 = ((W.alloc (.cells #[.pointer (some ⟨g, 0, none⟩)] 48)).alloc (.cells #[.int .u8 0, .int .u8 0, .int .u8 0, .int .u8 0] 155)) := ⟨_, rfl⟩
  have hb2 : Below W.heap.size W W2 := by rw [hW2]; exact ((Below.refl _ _).alloc (Nat.le_refl _) _).alloc (by simp) _
  have hk1 : Blk W2 W.heap.size 48 #[.pointer (some ⟨g, 0, none⟩)] := by rw [hW2]; exact (Blk.new W _ _).alloc _
  have hk2 : Blk W2 (W.heap.size + 1) 155 (u8s (fourAt N a xs 0)).toArray := by
    rw [hW2]
    have := Blk.new (W.alloc (.cells #[.pointer (some ⟨g, 0, none⟩)] 48)) 155 #[.int .u8 0, .int .u8 0, .int .u8 0, .int .u8 0]
    rw [World.size_alloc] at this
    exact this
  have hEach := stays_load g d N c n W.heap.size (W.heap.size + 1) false a (fun k W1 => Below W.heap.size W W1 ∧ Blk W1 W.heap.size 48 #[.pointer (some ⟨g, 0, none⟩)] ∧ Blk W1 (W.heap.size + 1) 155 (u8s (fourAt N a xs k)).toArray) W2 ⟨hb2, hk1, hk2⟩ hN (by omega)
    (fun k W1 h1 => ⟨(h.below h1.1).c0, (h.below h1.1).c1⟩)
    (fun k hk W1 h1 => by
      refine (load1_s k (plc N a k) (h.below h1.1) (h1.2.1.cell 0) h1.2.2 (by omega) (fourAt_len _ _ _ _) (plc_bd hN a k).1 (plc_bd hN a k).2).mono ?_
      rintro e W' ⟨rfl, rfl⟩
      refine ⟨rfl, h1.1.setCell (p := ⟨W.heap.size + 1, k, none⟩) (Nat.le_succ _) _, h1.2.1.far (by show W.heap.size ≠ W.heap.size + 1; omega) _, ?_⟩
      have := h1.2.2.set_ k (.int .u8 (gt xs (plc N a k)))
      rw [List.setIfInBounds_toArray, show (u8s (fourAt N a xs k)).set k (.int .u8 (gt xs (plc N a k))) = u8s ((fourAt N a xs k).set k (gt xs (plc N a k))) from (List.map_set).symm, fourAt_set _ _ _ _ (by omega)] at this
      exact this)
  have hm := made_any g d N c W2 (h.below hb2).c0 hN.bd.1
  have HOK := hide_ h.ok
  have HE := hide_ hEach
  have HM := hide_ hm
  clear hEach hm h hb2 hk1 hk2 hN
  subst hW2
  go_enter Try.func78, Try.ntmps78
  go_wp2_with (first
    | (go_at_call 76; refine (HM.out).mono ?_; rintro e w' ⟨rfl, rfl⟩)
    | (go_at_call 110; refine (HE.out).mono ?_))
  rintro e W3 ⟨rfl, hb3, _, hk3⟩
  have y0 : W3.cell? ⟨W.heap.size + 1, 0, none⟩ = some (.int .u8 (if 0 < n then gt xs (plc N a 0) else 0)) := (hk3.cell 0).trans rfl
  have y1 : W3.cell? ⟨W.heap.size + 1, 1, none⟩ = some (.int .u8 (if 1 < n then gt xs (plc N a 1) else 0)) := (hk3.cell 1).trans rfl
  have y2 : W3.cell? ⟨W.heap.size + 1, 2, none⟩ = some (.int .u8 (if 2 < n then gt xs (plc N a 2) else 0)) := (hk3.cell 2).trans rfl
  have y3 : W3.cell? ⟨W.heap.size + 1, 3, none⟩ = some (.int .u8 (if 3 < n then gt xs (plc N a 3) else 0)) := (hk3.cell 3).trans rfl
  have bd0 : ∀ (q : Prop) [Decidable q] (p : Int), 0 ≤ (if q then gt xs p else 0) ∧ (if q then gt xs p else 0) < 256 := fun q _ p => by
    by_cases h : q
    · rw [if_pos h]; exact gt_bd HOK.out p
    · rw [if_neg h]; omega
  obtain ⟨z0, hz0⟩ : ∃ z, z = (if 0 < n then gt xs (plc N a 0) else 0) := ⟨_, rfl⟩
  obtain ⟨z1, hz1⟩ : ∃ z, z = (if 1 < n then gt xs (plc N a 1) else 0) := ⟨_, rfl⟩
  obtain ⟨z2, hz2⟩ : ∃ z, z = (if 2 < n then gt xs (plc N a 2) else 0) := ⟨_, rfl⟩
  obtain ⟨z3, hz3⟩ : ∃ z, z = (if 3 < n then gt xs (plc N a 3) else 0) := ⟨_, rfl⟩
  have HWD := hide_ (show wordAt N a xs n = z0 + 256 * z1 + 65536 * z2 + 16777216 * z3 by rw [hz0, hz1, hz2, hz3]; rfl)
  have b0 : 0 ≤ z0 ∧ z0 < 256 := hz0 ▸ bd0 _ _
  have b1 : 0 ≤ z1 ∧ z1 < 256 := hz1 ▸ bd0 _ _
  have b2 : 0 ≤ z2 ∧ z2 < 256 := hz2 ▸ bd0 _ _
  have b3 : 0 ≤ z3 ∧ z3 < 256 := hz3 ▸ bd0 _ _
  rw [← hz0] at y0
  rw [← hz1] at y1
  rw [← hz2] at y2
  rw [← hz3] at y3
  have HB3 := hide_ hb3
  clear hz0 hz1 hz2 hz3 bd0 hk3 hb3
  go_wp2
  go_ret
  refine ⟨?_, HB3.out⟩
  rw [HWD.out, or4 b0 b1 b2 b3]
  rfl
theorem Load4_s (a : Int) (h : MemAt W g d N c xs) :
    Calls Try.prog 37 #[.pointer (some ⟨g, 0, none⟩), .int .u32 a] W fun e W' => e = .returned (.int .u32 (wordAt N a xs 4)) ∧ Below W.heap.size W W' := by
  have hl := hide_ (load_s a 4 h (by omega))
  clear h
  go_enter Try.func37, Try.ntmps37
  go_wp2_with (go_at_call 78; refine hl.out.mono ?_)
  rintro e W' ⟨rfl, h⟩
  go_wp2
  go_ret
  exact ⟨rfl, h⟩
/-- the bytes' block alone has changed -/
def Laid (W W' : World) (g d N c : Nat) (xs : List Int) : Prop := MemAt W' g d N c xs ∧ W.grownBy W' (some d)
theorem Laid.put {W1 : World} (h : Laid W W1 g d N c xs) {p : Int} (h0 : 0 ≤ p) (h1 : p < N) {y : Int} (hy : 0 ≤ y ∧ y < 256) : Laid W (W1.setCell ⟨d, p.toNat, none⟩ (.int .u8 y)).drew g d N c (xs.set p.toNat y) := by
  have hm := h.1.put (k := p.toNat) (by omega) hy
  have hg := grown_set h.2 p.toNat (.int .u8 y)
  exact ⟨⟨hm.c0, hm.c1, hm.gl, hm.own, hm.ne, hm.seg, hm.len, hm.ok⟩, grown_draws hg 1⟩
set_option maxRecDepth 100000 in
set_option maxHeartbeats 1000000 in
theorem store_s (a v : Int) (n : Nat) (h : MemAt W g d N c xs) (hn : n ≤ 4) (hv0 : 0 ≤ v) (hv1 : v < 4294967296) :
    Calls Try.prog 77 #[.pointer (some ⟨g, 0, none⟩), .int .u32 a, .int .u32 v, .int .i64 n] W fun e W' => e = .returned (.tuple #[]) ∧ Laid W W' g d N c (puts N a (bytes4 v) xs n) := by
  have hN := h.seg.pow
  have hdl := h.dl
  obtain ⟨W2, hW2⟩ : ∃ W2, W2 = ((W.alloc (.cells #[.pointer (some ⟨g, 0, none⟩)] 48)).alloc (.cells #[.int .u8 (v % 256), .int .u8 (v / 256 % 256), .int .u8 (v / 65536 % 256), .int .u8 (v / 16777216)] 155)) := ⟨_, rfl⟩
  have hb2 : Below W.heap.size W W2 := by rw [hW2]; exact ((Below.refl _ _).alloc (Nat.le_refl _) _).alloc (by simp) _
  have hk1 : Blk W2 W.heap.size 48 #[.pointer (some ⟨g, 0, none⟩)] := by rw [hW2]; exact (Blk.new W _ _).alloc _
  have hk2 : Blk W2 (W.heap.size + 1) 155 (u8s (bytes4 v)).toArray := by
    rw [hW2]
    have := Blk.new (W.alloc (.cells #[.pointer (some ⟨g, 0, none⟩)] 48)) 155 #[.int .u8 (v % 256), .int .u8 (v / 256 % 256), .int .u8 (v / 65536 % 256), .int .u8 (v / 16777216)]
    rw [World.size_alloc] at this
    exact this
  have hEach := stays_store g d N c n (W.heap.size + 1) W.heap.size true a (fun k W1 => Laid W W1 g d N c (puts N a (bytes4 v) xs k) ∧ Blk W1 W.heap.size 48 #[.pointer (some ⟨g, 0, none⟩)] ∧ Blk W1 (W.heap.size + 1) 155 (u8s (bytes4 v)).toArray) W2 ⟨⟨h.below hb2, grown_of_below hb2⟩, hk1, hk2⟩ hN (by omega)
    (fun k W1 h1 => ⟨h1.1.1.c0, h1.1.1.c1⟩)
    (fun k hk W1 h1 => by
      refine (store1_s k (plc N a k) h1.1.1 (h1.2.1.cell 0) (by omega) h1.2.2 (by omega) (by omega) rfl (plc_bd hN a k).1 (plc_bd hN a k).2).mono ?_
      rintro e W' ⟨rfl, rfl⟩
      have hy : 0 ≤ ((bytes4 v)[k]?.getD 0) ∧ ((bytes4 v)[k]?.getD 0) < 256 := by
        have := gt_bd (bytes4_ok hv0 hv1) (k : Int)
        rwa [gt_nat] at this
      exact ⟨rfl, h1.1.put (plc_bd hN a k).1 (plc_bd hN a k).2 hy, (h1.2.1.far (by show W.heap.size ≠ d; omega) _).drew, (h1.2.2.far (by show W.heap.size + 1 ≠ d; omega) _).drew⟩)
  have hm := made_any g d N c (W.alloc (.cells #[.pointer (some ⟨g, 0, none⟩)] 48)) (h.below ((Below.refl _ _).alloc (Nat.le_refl _) _)).c0 hN.bd.1
  have HE := hide_ hEach
  have HM := hide_ hm
  clear hEach hm h hb2 hk1 hk2 hN hdl
  subst hW2
  go_enter Try.func77, Try.ntmps77
  go_wp2_with (first
    | (go_at_call 76; refine (HM.out).mono ?_; rintro e w' ⟨rfl, rfl⟩)
    | (go_at_call 110; refine (HE.out).mono ?_))
  rintro e W3 ⟨rfl, hL, _⟩
  have HL := hide_ hL
  clear hL
  go_wp2
  go_end0
  exact ⟨rfl, HL.out⟩
theorem Store4_s (a v : Int) (h : MemAt W g d N c xs) (hv0 : 0 ≤ v) (hv1 : v < 4294967296) :
    Calls Try.prog 36 #[.pointer (some ⟨g, 0, none⟩), .int .u32 a, .int .u32 v] W fun e W' => e = .returned (.tuple #[]) ∧ Laid W W' g d N c (puts N a (bytes4 v) xs 4) := by
  have hl := hide_ (store_s a v 4 h (by omega) hv0 hv1)
  clear h
  go_enter Try.func36, Try.ntmps36
  go_wp2_with (go_at_call 77; refine hl.out.mono ?_)
  rintro e W' ⟨rfl, h⟩
  have HL := hide_ h
  clear h
  go_wp2
  go_end0
  exact ⟨rfl, HL.out⟩
end
end Go.Proofs.Ytgppbdcnpailaaa
