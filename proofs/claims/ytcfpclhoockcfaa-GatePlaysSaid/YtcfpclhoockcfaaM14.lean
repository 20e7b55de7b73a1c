/-
  A segment whose log is off: load changes no block that was there; store and write change the bytes' block alone.
-/
import Derived.Test.YtcfpclhoockcfaaM13
import Derived.Test.YtcfpclhoockcfaaM09
namespace Go.Proofs.Ytcfpclhoockcfaa
set_option maxRecDepth 100000
open Go.RowKit
set_option linter.unusedVariables false

/-- a segment that reads so, its log off -/
structure MemAt (W : World) (g d N c : Nat) (xs : List Int) : Prop where
  c0 : W.cell? ⟨g, 0, none⟩ = some (.slice (some ⟨d, 0, none⟩) N c)
  c1 : W.cell? ⟨g, 1, none⟩ = some (.bool false)
  gl : g < W.heap.size
  own : W.ownsRow 0 5 1 (.slice (some ⟨d, 0, none⟩) N c) N (u8s xs)
  ne : g ≠ d
  seg : IsSeg N
  len : xs.length = N
  ok : bytesOk xs
section
variable {W W' : World} {g d N c : Nat} {xs : List Int}
theorem MemAt.dl (h : MemAt W g d N c xs) : d < W.heap.size := (h.own.lt d rfl).2
theorem MemAt.byte (h : MemAt W g d N c xs) {k : Nat} (hk : k < N) : W.cell? ⟨d, k, none⟩ = some (.int .u8 (xs[k]?.getD 0)) := by
  have := h.own.cells (g := d) rfl k _ (u8s_get (by rw [h.len]; exact hk))
  have e1 : (⟨d, 0, none⟩ : Addr).add k = ⟨d, k, none⟩ := by unfold Addr.add; split <;> simp_all
  rwa [e1] at this
theorem MemAt.unfrozen (h : MemAt W g d N c xs) (k : Nat) : W.frozen? ⟨d, k, none⟩ = false := by
  rcases h.own.2 with ⟨h2, _⟩ | ⟨g', cap, cur, hv, _, hgg, _⟩
  · cases h2
  · injection hv with hv _ _
    injection hv with hv
    injection hv with hv
    subst hv
    simp [World.frozen?, hgg]
theorem MemAt.kept {row : Option Nat} (h : MemAt W g d N c xs) (hg : W.grownBy W' row) (h1 : row ≠ some g) (h2 : row ≠ some d) : MemAt W' g d N c xs := by
  have hc : ∀ o, W'.cell? ⟨g, o, none⟩ = W.cell? ⟨g, o, none⟩ := fun o => World.cell?_of_block (hg.block g h.gl (fun e => h1 e.symm))
  exact ⟨(hc 0).trans h.c0, (hc 1).trans h.c1, Nat.lt_of_lt_of_le h.gl hg.size, h.own.kept hg (.inr (fun e => h2 e.symm)), h.ne, h.seg, h.len, h.ok⟩
theorem MemAt.below (h : MemAt W g d N c xs) (hb : Below W.heap.size W W') : MemAt W' g d N c xs := by
  have hc : ∀ o, W'.cell? ⟨g, o, none⟩ = W.cell? ⟨g, o, none⟩ := fun o => hb.cell (p := ⟨g, o, none⟩) h.gl
  refine ⟨(hc 0).trans h.c0, (hc 1).trans h.c1, Nat.lt_of_lt_of_le h.gl hb.size, ⟨h.own.1, ?_⟩, h.ne, h.seg, h.len, h.ok⟩
  rcases h.own.2 with h2 | ⟨g', cap, cur, hv, hB, hgg, rest⟩
  · exact .inl h2
  · exact .inr ⟨g', cap, cur, hv, hB, (hb.block g' (Array.getElem?_eq_some_iff.1 hgg).1).trans hgg, rest⟩
theorem MemAt.of_seg {B : Nat} {ex : List Ro} (h : Seg W B g d N c xs ex) : MemAt W g d N c xs := by
  obtain ⟨⟨tv, hO⟩, hB, hs, hl, hok⟩ := h
  have hown := hO.at_ (i := 1) rfl
  refine ⟨hO.cell (i := 0) rfl rfl, hO.cell (i := 0) rfl rfl, (hO.base (i := 0) rfl).2, ⟨hown.1, ?_⟩, ?_, hs, hl, hok⟩
  · rcases hown.2 with h2 | ⟨g', cap, cur, hv, _, rest⟩
    · exact .inl h2
    · exact .inr ⟨g', cap, cur, hv, Nat.zero_le _, rest⟩
  · intro e
    have := List.pairwise_iff_getElem.1 hO.2 0 1 (by simp [memRows]) (by simp [memRows]) (by omega)
    simp [memRows, Value.ownBlock] at this
    exact this e
theorem below_size_trans {a b w : World} (h : Below a.heap.size a b) (h2 : Below b.heap.size b w) : Below a.heap.size a w := h.trans (h2.mono h.size)
theorem grown_of_below {row : Option Nat} {a b : World} (h : Below a.heap.size a b) : a.grownBy b row := ⟨h.os, h.tape, h.output, h.size, fun k hk _ => h.block k hk⟩
theorem grown_trans {row : Option Nat} {a b w : World} (h : a.grownBy b row) (h2 : b.grownBy w row) : a.grownBy w row :=
  ⟨h2.os.trans h.os, h2.tape.trans h.tape, h2.output.trans h.output, Nat.le_trans h.size h2.size, fun k hk hn => (h2.block k (Nat.lt_of_lt_of_le hk h.size) hn).trans (h.block k hk hn)⟩
theorem grown_draws {row : Option Nat} {a b : World} (h : a.grownBy b row) (n : Nat) : a.grownBy (b.drewN n) row := ⟨h.os, h.tape, h.output, h.size, h.block⟩
theorem grown_set {a b : World} {d : Nat} (h : a.grownBy b (some d)) (k : Nat) (u : Value) : a.grownBy (b.setCell ⟨d, k, none⟩ u) (some d) := grown_trans h (grownBy_setCell b d k u)
/-- a byte is laid -/
theorem MemAt.put (h : MemAt W g d N c xs) {k : Nat} (hk : k < N) {y : Int} (hy : 0 ≤ y ∧ y < 256) : MemAt (W.setCell ⟨d, k, none⟩ (.int .u8 y)) g d N c (xs.set k y) := by
  have hc : ∀ o, (W.setCell ⟨d, k, none⟩ (.int .u8 y)).cell? ⟨g, o, none⟩ = W.cell? ⟨g, o, none⟩ := fun o => World.cell?_setCell_other W _ _ _ (fun e => h.ne (congrArg Addr.block e).symm)
  refine ⟨(hc 0).trans h.c0, (hc 1).trans h.c1, by simpa [World.setCell] using h.gl, ?_, h.ne, h.seg, by rw [List.length_set]; exact h.len, ?_⟩
  · have := ownsRow_set h.own (j := k) (by simp [h.len]; exact hk) (.int .u8 y)
    rwa [show (u8s xs).set k (.int .u8 y) = u8s (xs.set k y) from (List.map_set).symm] at this
  · intro x hx
    rcases List.mem_or_eq_of_mem_set hx with hx | rfl
    · exact h.ok x hx
    · exact hy
end
section
variable {W : World} {g d N c q f : Nat} {xs ys : List Int}
set_option maxHeartbeats 1000000 in
theorem load1_s (i : Nat) (p : Int) (h : MemAt W g d N c xs) (hq : W.cell? ⟨q, 0, none⟩ = some (.pointer (some ⟨g, 0, none⟩))) (hf : Blk W f 125 (u8s ys).toArray) (hi : i < 4) (hy : ys.length = 4) (h0 : 0 ≤ p) (h1 : p < N) :
    Calls Try.prog 78 #[.int .i64 i, .int .u32 p, .pointer (some ⟨q, 0, none⟩), .pointer (some ⟨f, 0, none⟩)] W fun e W' => e = .returned (.tuple #[]) ∧ W' = W.setCell ⟨f, i, none⟩ (.int .u8 (gt xs p)) := by
  obtain ⟨k, rfl⟩ := Int.eq_ofNat_of_zero_le h0
  have hk : k < N := by omega
  have c0 := h.c0
  have c2 := h.byte hk
  have c3 : W.cell? ⟨f, i, none⟩ = some (.int .u8 (ys[i]?.getD 0)) := by rw [hf.cell i]; simpa using u8s_get (by omega)
  have f3 := hf.frozen i
  rw [gt_nat]
  have i4 : (i : Int) < 4 := by omega
  clear h hf hy h0 h1
  go_enter Try.func78, Try.ntmps78
  go_wp2
  go_end0
  exact ⟨rfl, rfl⟩
set_option maxHeartbeats 1000000 in
theorem write1_s (i n cb : Nat) (ad : Addr) (p y : Int) (h : MemAt W g d N c xs) (hq : W.cell? ⟨q, 0, none⟩ = some (.pointer (some ⟨g, 0, none⟩))) (hqd : q ≠ d) (hf : W.cell? ⟨f, 0, none⟩ = some (.slice (some ad) n cb)) (hfd : f ≠ d) (hi : i < n) (hcu : W.cell? (ad.add i) = some (.int .u8 y)) (had : ad.block ≠ d) (h0 : 0 ≤ p) (h1 : p < N) :
    Calls Try.prog 81 #[.int .i64 i, .int .u32 p, .pointer (some ⟨f, 0, none⟩), .pointer (some ⟨q, 0, none⟩)] W fun e W' => e = .returned (.tuple #[]) ∧ W' = (W.setCell ⟨d, p.toNat, none⟩ (.int .u8 y)).drew := by
  obtain ⟨k, rfl⟩ := Int.eq_ofNat_of_zero_le h0
  have hk : k < N := by omega
  have c0 := h.c0
  have c2 := h.byte hk
  have f3 := h.unfrozen k
  have hgd := h.ne
  simp only [Int.toNat_natCast]
  have i4 : (i : Int) < (n : Int) := by omega
  have i0 : (0 : Int) ≤ (i : Int) := by omega
  have k0 : (0 : Int) ≤ (k : Int) := by omega
  have k1 : (k : Int) < (N : Int) := by omega
  have HK : Hid (∀ W', W' = (W.setCell ⟨d, k, none⟩ (.int .u8 y)).drew → W'.cell? ⟨q, 0, none⟩ = some (.pointer (some ⟨g, 0, none⟩)) ∧ W'.cell? ⟨g, 0, none⟩ = some (.slice (some ⟨d, 0, none⟩) N c) ∧ W'.cell? ⟨f, 0, none⟩ = some (.slice (some ad) n cb) ∧ W'.cell? (ad.add i) = some (.int .u8 y)) := by
    rintro W' rfl
    have e : ∀ a : Addr, a.block ≠ d → (W.setCell ⟨d, k, none⟩ (.int .u8 y)).drew.cell? a = W.cell? a := fun a ha => World.cell?_setCell_other W _ _ _ (fun e => ha (congrArg Addr.block e).symm)
    exact ⟨(e _ hqd).trans hq, (e _ hgd).trans c0, (e _ hfd).trans hf, (e _ (by rw [block_of_add]; exact had)).trans hcu⟩
  clear h h0 h1 hqd hfd hgd had
  go_enter Try.func81, Try.ntmps81
  go_wp2
  go_region_held3 (fun W' => W'.cell? ⟨q, 0, none⟩ = some (.pointer (some ⟨g, 0, none⟩)) ∧ W'.cell? ⟨g, 0, none⟩ = some (.slice (some ⟨d, 0, none⟩) N c) ∧ W'.cell? ⟨f, 0, none⟩ = some (.slice (some ad) n cb) ∧ W'.cell? (ad.add i) = some (.int .u8 y))
    (first | exact ⟨hq, c0, hf, hcu⟩ | exact HK.out _ rfl) (fail)
  go_wp2
  go_end0
  exact ⟨rfl, rfl⟩
end
end Go.Proofs.Ytcfpclhoockcfaa
/-
  A segment whose log is off: load, store, write; Load4, Store4, Write.
-/
namespace Go.Proofs.Ytcfpclhoockcfaa
open Go.RowKit
set_option linter.unusedVariables false

section
variable {W : World} {g d N c : Nat} {xs : List Int}
set_option maxRecDepth 100000 in
set_option maxHeartbeats 1000000 in
theorem load_s (a : Int) (n : Nat) (h : MemAt W g d N c xs) (hn : n ≤ 4) :
    Calls Try.prog 63 #[.pointer (some ⟨g, 0, none⟩), .int .u32 a, .int .i64 n] W fun e W' => e = .returned (.int .u32 (wordAt N a xs n)) ∧ Below W.heap.size W W' := by
  have hN := h.seg.pow
  obtain ⟨W2, hW2⟩ : ∃ W2, W2 = ((W.alloc (.cells #[.pointer (some ⟨g, 0, none⟩)] 28)).alloc (.cells #[.int .u8 0, .int .u8 0, .int .u8 0, .int .u8 0] 125)) := ⟨_, rfl⟩
  have hb2 : Below W.heap.size W W2 := by rw [hW2]; exact ((Below.refl _ _).alloc (Nat.le_refl _) _).alloc (by simp) _
  have hk1 : Blk W2 W.heap.size 28 #[.pointer (some ⟨g, 0, none⟩)] := by rw [hW2]; exact (Blk.new W _ _).alloc _
  have hk2 : Blk W2 (W.heap.size + 1) 125 (u8s (fourAt N a xs 0)).toArray := by
    rw [hW2]
    have := Blk.new (W.alloc (.cells #[.pointer (some ⟨g, 0, none⟩)] 28)) 125 #[.int .u8 0, .int .u8 0, .int .u8 0, .int .u8 0]
    rw [World.size_alloc] at this
    exact this
  have hEach := stays_load g d N c n W.heap.size (W.heap.size + 1) false a (fun k W1 => Below W.heap.size W W1 ∧ Blk W1 W.heap.size 28 #[.pointer (some ⟨g, 0, none⟩)] ∧ Blk W1 (W.heap.size + 1) 125 (u8s (fourAt N a xs k)).toArray) W2 ⟨hb2, hk1, hk2⟩ hN (by omega)
    (fun k W1 h1 => ⟨(h.below h1.1).c0, (h.below h1.1).c1⟩)
    (fun k hk W1 h1 => by
      refine (load1_s k (plc N a k) (h.below h1.1) (h1.2.1.cell 0) h1.2.2 (by omega) (fourAt_len _ _ _ _) (plc_bd hN a k).1 (plc_bd hN a k).2).mono ?_
      rintro e W' ⟨rfl, rfl⟩
      refine ⟨rfl, h1.1.setCell (p := ⟨W.heap.size + 1, k, none⟩) (Nat.le_succ _) _, h1.2.1.far (by show W.heap.size ≠ W.heap.size + 1; omega) _, ?_⟩
      have := h1.2.2.set_ k (.int .u8 (gt xs (plc N a k)))
      rw [List.setIfInBounds_toArray, show (u8s (fourAt N a xs k)).set k (.int .u8 (gt xs (plc N a k))) = u8s ((fourAt N a xs k).set k (gt xs (plc N a k))) from (List.map_set).symm, fourAt_set _ _ _ _ (by omega)] at this
      exact this)
  have hm := made_any g d N c W2 (h.below hb2).c0 hN.bd.1
  have HOK := hide_ h.ok
  have HE := hide_ hEach
  have HM := hide_ hm
  clear hEach hm h hb2 hk1 hk2 hN
  subst hW2
  go_enter Try.func63, Try.ntmps63
  go_wp2_with (first
    | (go_at_call 59; refine (HM.out).mono ?_; rintro e w' ⟨rfl, rfl⟩)
    | (go_at_call 77; refine (HE.out).mono ?_))
  rintro e W3 ⟨rfl, hb3, _, hk3⟩
  have y0 : W3.cell? ⟨W.heap.size + 1, 0, none⟩ = some (.int .u8 (if 0 < n then gt xs (plc N a 0) else 0)) := (hk3.cell 0).trans rfl
  have y1 : W3.cell? ⟨W.heap.size + 1, 1, none⟩ = some (.int .u8 (if 1 < n then gt xs (plc N a 1) else 0)) := (hk3.cell 1).trans rfl
  have y2 : W3.cell? ⟨W.heap.size + 1, 2, none⟩ = some (.int .u8 (if 2 < n then gt xs (plc N a 2) else 0)) := (hk3.cell 2).trans rfl
  have y3 : W3.cell? ⟨W.heap.size + 1, 3, none⟩ = some (.int .u8 (if 3 < n then gt xs (plc N a 3) else 0)) := (hk3.cell 3).trans rfl
  have bd0 : ∀ (q : Prop) [Decidable q] (p : Int), 0 ≤ (if q then gt xs p else 0) ∧ (if q then gt xs p else 0) < 256 := fun q _ p => by
    by_cases h : q
    · rw [if_pos h]; exact gt_bd HOK.out p
    · rw [if_neg h]; omega
  obtain ⟨z0, hz0⟩ : ∃ z, z = (if 0 < n then gt xs (plc N a 0) else 0) := ⟨_, rfl⟩
  obtain ⟨z1, hz1⟩ : ∃ z, z = (if 1 < n then gt xs (plc N a 1) else 0) := ⟨_, rfl⟩
  obtain ⟨z2, hz2⟩ : ∃ z, z = (if 2 < n then gt xs (plc N a 2) else 0) := ⟨_, rfl⟩
  obtain ⟨z3, hz3⟩ : ∃ z, z = (if 3 < n then gt xs (plc N a 3) else 0) := ⟨_, rfl⟩
  have HWD := hide_ (show wordAt N a xs n = z0 + 256 * z1 + 65536 * z2 + 16777216 * z3 by rw [hz0, hz1, hz2, hz3]; rfl)
  have b0 : 0 ≤ z0 ∧ z0 < 256 := hz0 ▸ bd0 _ _
  have b1 : 0 ≤ z1 ∧ z1 < 256 := hz1 ▸ bd0 _ _
  have b2 : 0 ≤ z2 ∧ z2 < 256 := hz2 ▸ bd0 _ _
  have b3 : 0 ≤ z3 ∧ z3 < 256 := hz3 ▸ bd0 _ _
  rw [← hz0] at y0
  rw [← hz1] at y1
  rw [← hz2] at y2
  rw [← hz3] at y3
  have HB3 := hide_ hb3
  clear hz0 hz1 hz2 hz3 bd0 hk3 hb3
  go_wp2
  go_ret
  refine ⟨?_, HB3.out⟩
  rw [HWD.out, or4 b0 b1 b2 b3]
  rfl
theorem Load4_s (a : Int) (h : MemAt W g d N c xs) :
    Calls Try.prog 51 #[.pointer (some ⟨g, 0, none⟩), .int .u32 a] W fun e W' => e = .returned (.int .u32 (wordAt N a xs 4)) ∧ Below W.heap.size W W' := by
  have hl := hide_ (load_s a 4 h (by omega))
  clear h
  go_enter Try.func51, Try.ntmps51
  go_wp2_with (go_at_call 63; refine hl.out.mono ?_)
  rintro e W' ⟨rfl, h⟩
  go_wp2
  go_ret
  exact ⟨rfl, h⟩
/-- the bytes' block alone has changed -/
def Laid (W W' : World) (g d N c : Nat) (xs : List Int) : Prop := MemAt W' g d N c xs ∧ W.grownBy W' (some d)
theorem Laid.put {W1 : World} (h : Laid W W1 g d N c xs) {p : Int} (h0 : 0 ≤ p) (h1 : p < N) {y : Int} (hy : 0 ≤ y ∧ y < 256) : Laid W (W1.setCell ⟨d, p.toNat, none⟩ (.int .u8 y)).drew g d N c (xs.set p.toNat y) := by
  have hm := h.1.put (k := p.toNat) (by omega) hy
  have hg := grown_set h.2 p.toNat (.int .u8 y)
  exact ⟨⟨hm.c0, hm.c1, hm.gl, hm.own, hm.ne, hm.seg, hm.len, hm.ok⟩, grown_draws hg 1⟩
end
end Go.Proofs.Ytcfpclhoockcfaa
