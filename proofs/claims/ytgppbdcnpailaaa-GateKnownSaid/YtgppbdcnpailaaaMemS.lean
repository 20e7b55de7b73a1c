/-
  A segment whose log is off: load changes no block that was there; store and write change the bytes' block alone.
-/
import Derived.Test.YtgppbdcnpailaaaEachS
import Derived.Test.YtgppbdcnpailaaaRw
namespace Go.Proofs.Ytgppbdcnpailaaa
open Go.RowKit
set_option linter.unusedVariables false

/-- a segment that reads so, its log off -/
structure MemAt (W : World) (g d N c : Nat) (xs : List Int) : Prop where
  c0 : W.cell? ⟨g, 0, none⟩ = some (.slice (some ⟨d, 0, none⟩) N c)
  c1 : W.cell? ⟨g, 1, none⟩ = some (.bool false)
  gl : g < W.heap.size
  own : W.ownsRow 0 5 1 (.slice (some ⟨d, 0, none⟩) N c) N (u8s xs)
  ne : g ≠ d
  seg : IsSeg N
  len : xs.length = N
  ok : bytesOk xs
section
variable {W W' : World} {g d N c : Nat} {xs : List Int}
theorem MemAt.dl (h : MemAt W g d N c xs) : d < W.heap.size := (h.own.lt d rfl).2
theorem MemAt.byte (h : MemAt W g d N c xs) {k : Nat} (hk : k < N) : W.cell? ⟨d, k, none⟩ = some (.int .u8 (xs[k]?.getD 0)) := by
  have := h.own.cells (g := d) rfl k _ (u8s_get (by rw [h.len]; exact hk))
  have e1 : (⟨d, 0, none⟩ : Addr).add k = ⟨d, k, none⟩ := by unfold Addr.add; split <;> simp_all
  rwa [e1] at this
theorem MemAt.unfrozen (h : MemAt W g d N c xs) (k : Nat) : W.frozen? ⟨d, k, none⟩ = false := by
  rcases h.own.2 with ⟨h2, _⟩ | ⟨g', cap, cur, hv, _, hgg, _⟩
  · cases h2
  · injection hv with hv _ _
    injection hv with hv
    injection hv with hv
    subst hv
    simp [World.frozen?, hgg]
theorem MemAt.kept {row : Option Nat} (h : MemAt W g d N c xs) (hg : W.grownBy W' row) (h1 : row ≠ some g) (h2 : row ≠ some d) : MemAt W' g d N c xs := by
  have hc : ∀ o, W'.cell? ⟨g, o, none⟩ = W.cell? ⟨g, o, none⟩ := fun o => World.cell?_of_block (hg.block g h.gl (fun e => h1 e.symm))
  exact ⟨(hc 0).trans h.c0, (hc 1).trans h.c1, Nat.lt_of_lt_of_le h.gl hg.size, h.own.kept hg (.inr (fun e => h2 e.symm)), h.ne, h.seg, h.len, h.ok⟩
theorem MemAt.below (h : MemAt W g d N c xs) (hb : Below W.heap.size W W') : MemAt W' g d N c xs := by
  have hc : ∀ o, W'.cell? ⟨g, o, none⟩ = W.cell? ⟨g, o, none⟩ := fun o => hb.cell (p := ⟨g, o, none⟩) h.gl
  refine ⟨(hc 0).trans h.c0, (hc 1).trans h.c1, Nat.lt_of_lt_of_le h.gl hb.size, ⟨h.own.1, ?_⟩, h.ne, h.seg, h.len, h.ok⟩
  rcases h.own.2 with h2 | ⟨g', cap, cur, hv, hB, hgg, rest⟩
  · exact .inl h2
  · exact .inr ⟨g', cap, cur, hv, hB, (hb.block g' (Array.getElem?_eq_some_iff.1 hgg).1).trans hgg, rest⟩
theorem MemAt.of_seg {B : Nat} {ex : List Ro} (h : Seg W B g d N c xs ex) : MemAt W g d N c xs := by
  obtain ⟨⟨tv, hO⟩, hB, hs, hl, hok⟩ := h
  have hown := hO.at_ (i := 1) rfl
  refine ⟨hO.cell (i := 0) rfl rfl, hO.cell (i := 0) rfl rfl, (hO.base (i := 0) rfl).2, ⟨hown.1, ?_⟩, ?_, hs, hl, hok⟩
  · rcases hown.2 with h2 | ⟨g', cap, cur, hv, _, rest⟩
    · exact .inl h2
    · exact .inr ⟨g', cap, cur, hv, Nat.zero_le _, rest⟩
  · intro e
    have := List.pairwise_iff_getElem.1 hO.2 0 1 (by simp [memRows]) (by simp [memRows]) (by omega)
    simp [memRows, Value.ownBlock] at this
    exact this e
theorem below_size_trans {a b w : World} (h : Below a.heap.size a b) (h2 : Below b.heap.size b w) : Below a.heap.size a w := h.trans (h2.mono h.size)
theorem grown_of_below {row : Option Nat} {a b : World} (h : Below a.heap.size a b) : a.grownBy b row := ⟨h.os, h.tape, h.output, h.size, fun k hk _ => h.block k hk⟩
theorem grown_trans {row : Option Nat} {a b w : World} (h : a.grownBy b row) (h2 : b.grownBy w row) : a.grownBy w row :=
  ⟨h2.os.trans h.os, h2.tape.trans h.tape, h2.output.trans h.output, Nat.le_trans h.size h2.size, fun k hk hn => (h2.block k (Nat.lt_of_lt_of_le hk h.size) hn).trans (h.block k hk hn)⟩
theorem grown_draws {row : Option Nat} {a b : World} (h : a.grownBy b row) (n : Nat) : a.grownBy (b.drewN n) row := ⟨h.os, h.tape, h.output, h.size, h.block⟩
theorem grown_set {a b : World} {d : Nat} (h : a.grownBy b (some d)) (k : Nat) (u : Value) : a.grownBy (b.setCell ⟨d, k, none⟩ u) (some d) := grown_trans h (grownBy_setCell b d k u)
/-- a byte is laid -/
theorem MemAt.put (h : MemAt W g d N c xs) {k : Nat} (hk : k < N) {y : Int} (hy : 0 ≤ y ∧ y < 256) : MemAt (W.setCell ⟨d, k, none⟩ (.int .u8 y)) g d N c (xs.set k y) := by
  have hc : ∀ o, (W.setCell ⟨d, k, none⟩ (.int .u8 y)).cell? ⟨g, o, none⟩ = W.cell? ⟨g, o, none⟩ := fun o => World.cell?_setCell_other W _ _ _ (fun e => h.ne (congrArg Addr.block e).symm)
  refine ⟨(hc 0).trans h.c0, (hc 1).trans h.c1, by simpa [World.setCell] using h.gl, ?_, h.ne, h.seg, by rw [List.length_set]; exact h.len, ?_⟩
  · have := ownsRow_set h.own (j := k) (by simp [h.len]; exact hk) (.int .u8 y)
    rwa [show (u8s xs).set k (.int .u8 y) = u8s (xs.set k y) from (List.map_set).symm] at this
  · intro x hx
    rcases List.mem_or_eq_of_mem_set hx with hx | rfl
    · exact h.ok x hx
    · exact hy
end
section
variable {W : World} {g d N c q f : Nat} {xs ys : List Int}
set_option maxHeartbeats 1000000 in
theorem load1_s (i : Nat) (p : Int) (h : MemAt W g d N c xs) (hq : W.cell? ⟨q, 0, none⟩ = some (.pointer (some ⟨g, 0, none⟩))) (hf : Blk W f 155 (u8s ys).toArray) (hi : i < 4) (hy : ys.length = 4) (h0 : 0 ≤ p) (h1 : p < N) :
    Calls Try.prog 112 #[.int .i64 i, .int .u32 p, .pointer (some ⟨q, 0, none⟩), .pointer (some ⟨f, 0, none⟩)] W fun e W' => e = .returned (.tuple #[]) ∧ W' = W.setCell ⟨f, i, none⟩ (.int .u8 (gt xs p)) := by
  obtain ⟨k, rfl⟩ := Int.eq_ofNat_of_zero_le h0
  have hk : k < N := by omega
  have c0 := h.c0
  have c2 := h.byte hk
  have c3 : W.cell? ⟨f, i, none⟩ = some (.int .u8 (ys[i]?.getD 0)) := by rw [hf.cell i]; simpa using u8s_get (by omega)
  have f3 := hf.frozen i
  rw [gt_nat]
  have i4 : (i : Int) < 4 := by omega
  clear h hf hy h0 h1
  go_enter Try.func112, Try.ntmps112
  go_wp2
  go_end0
  exact ⟨rfl, rfl⟩
set_option maxHeartbeats 1000000 in
theorem store1_s (i : Nat) (p : Int) (h : MemAt W g d N c xs) (hq : W.cell? ⟨q, 0, none⟩ = some (.pointer (some ⟨g, 0, none⟩))) (hqd : q ≠ d) (hf : Blk W f 155 (u8s ys).toArray) (hfd : f ≠ d) (hi : i < 4) (hy : ys.length = 4) (h0 : 0 ≤ p) (h1 : p < N) :
    Calls Try.prog 111 #[.int .i64 i, .int .u32 p, .pointer (some ⟨f, 0, none⟩), .pointer (some ⟨q, 0, none⟩)] W fun e W' => e = .returned (.tuple #[]) ∧ W' = (W.setCell ⟨d, p.toNat, none⟩ (.int .u8 (ys[i]?.getD 0))).drew := by
  obtain ⟨k, rfl⟩ := Int.eq_ofNat_of_zero_le h0
  have hk : k < N := by omega
  have c0 := h.c0
  have c2 := h.byte hk
  have c3 : W.cell? ⟨f, i, none⟩ = some (.int .u8 (ys[i]?.getD 0)) := by rw [hf.cell i]; simpa using u8s_get (by omega)
  have f3 := h.unfrozen k
  have hgd := h.ne
  simp only [Int.toNat_natCast]
  have i4 : (i : Int) < 4 := by omega
  have i0 : (0 : Int) ≤ (i : Int) := by omega
  have k0 : (0 : Int) ≤ (k : Int) := by omega
  have k1 : (k : Int) < (N : Int) := by omega
  have HK : Hid (∀ W', W' = (W.setCell ⟨d, k, none⟩ (.int .u8 (ys[i]?.getD 0))).drew → W'.cell? ⟨q, 0, none⟩ = some (.pointer (some ⟨g, 0, none⟩)) ∧ W'.cell? ⟨g, 0, none⟩ = some (.slice (some ⟨d, 0, none⟩) N c) ∧ W'.cell? ⟨f, i, none⟩ = some (.int .u8 (ys[i]?.getD 0))) := by
    rintro W' rfl
    have e : ∀ a o, a ≠ d → (W.setCell ⟨d, k, none⟩ (.int .u8 (ys[i]?.getD 0))).drew.cell? ⟨a, o, none⟩ = W.cell? ⟨a, o, none⟩ := fun a o ha => World.cell?_setCell_other W _ _ _ (fun e => ha (congrArg Addr.block e).symm)
    exact ⟨(e _ _ hqd).trans hq, (e _ _ hgd).trans c0, (e _ _ hfd).trans c3⟩
  clear h hf hy h0 h1 hqd hfd hgd
  go_enter Try.func111, Try.ntmps111
  go_wp2
  go_region_held3 (fun W' => W'.cell? ⟨q, 0, none⟩ = some (.pointer (some ⟨g, 0, none⟩)) ∧ W'.cell? ⟨g, 0, none⟩ = some (.slice (some ⟨d, 0, none⟩) N c) ∧ W'.cell? ⟨f, i, none⟩ = some (.int .u8 (ys[i]?.getD 0)))
    (first | exact ⟨hq, c0, c3⟩ | exact HK.out _ rfl) (fail)
  go_wp2
  go_end0
  exact ⟨rfl, rfl⟩
set_option maxHeartbeats 1000000 in
theorem write1_s (i n cb : Nat) (ad : Addr) (p y : Int) (h : MemAt W g d N c xs) (hq : W.cell? ⟨q, 0, none⟩ = some (.pointer (some ⟨g, 0, none⟩))) (hqd : q ≠ d) (hf : W.cell? ⟨f, 0, none⟩ = some (.slice (some ad) n cb)) (hfd : f ≠ d) (hi : i < n) (hcu : W.cell? (ad.add i) = some (.int .u8 y)) (had : ad.block ≠ d) (h0 : 0 ≤ p) (h1 : p < N) :
    Calls Try.prog 115 #[.int .i64 i, .int .u32 p, .pointer (some ⟨f, 0, none⟩), .pointer (some ⟨q, 0, none⟩)] W fun e W' => e = .returned (.tuple #[]) ∧ W' = (W.setCell ⟨d, p.toNat, none⟩ (.int .u8 y)).drew := by
  obtain ⟨k, rfl⟩ := Int.eq_ofNat_of_zero_le h0
  have hk : k < N := by omega
  have c0 := h.c0
  have c2 := h.byte hk
  have f3 := h.unfrozen k
  have hgd := h.ne
  simp only [Int.toNat_natCast]
  have i4 : (i : Int) < (n : Int) := by omega
  have i0 : (0 : Int) ≤ (i : Int) := by omega
  have k0 : (0 : Int) ≤ (k : Int) := by omega
  have k1 : (k : Int) < (N : Int) := by omega
  have HK : Hid (∀ W', W' = (W.setCell ⟨d, k, none⟩ (.int .u8 y)).drew → W'.cell? ⟨q, 0, none⟩ = some (.pointer (some ⟨g, 0, none⟩)) ∧ W'.cell? ⟨g, 0, none⟩ = some (.slice (some ⟨d, 0, none⟩) N c) ∧ W'.cell? ⟨f, 0, none⟩ = some (.slice (some ad) n cb) ∧ W'.cell? (ad.add i) = some (.int .u8 y)) := by
    rintro W' rfl
    have e : ∀ a : Addr, a.block ≠ d → (W.setCell ⟨d, k, none⟩ (.int .u8 y)).drew.cell? a = W.cell? a := fun a ha => World.cell?_setCell_other W _ _ _ (fun e => ha (congrArg Addr.block e).symm)
    exact ⟨(e _ hqd).trans hq, (e _ hgd).trans c0, (e _ hfd).trans hf, (e _ (by rw [block_of_add]; exact had)).trans hcu⟩
  clear h h0 h1 hqd hfd hgd had
  go_enter Try.func115, Try.ntmps115
  go_wp2
  go_region_held3 (fun W' => W'.cell? ⟨q, 0, none⟩ = some (.pointer (some ⟨g, 0, none⟩)) ∧ W'.cell? ⟨g, 0, none⟩ = some (.slice (some ⟨d, 0, none⟩) N c) ∧ W'.cell? ⟨f, 0, none⟩ = some (.slice (some ad) n cb) ∧ W'.cell? (ad.add i) = some (.int .u8 y))
    (first | exact ⟨hq, c0, hf, hcu⟩ | exact HK.out _ rfl) (fail)
  go_wp2
  go_end0
  exact ⟨rfl, rfl⟩
end
end Go.Proofs.Ytgppbdcnpailaaa
