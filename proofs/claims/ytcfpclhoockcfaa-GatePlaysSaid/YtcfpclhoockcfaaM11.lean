/-
  The walks of gate.New of no grants, and of Apply of one write.
-/
import Derived.Test.YtcfpclhoockcfaaM10
import Derived.Maps.RangeWalk
import Derived.Maps.OwnSet
import Derived.Maps.OwnOps
import Derived.Laws.Externs
import Derived.MapKept
import Derived.Shelf.SlMaps.Clone
namespace Go.Proofs.Ytcfpclhoockcfaa
open Go.RowKit

theorem map_neq (w : World) (r : Option Nat) : (binOp .neq 70 (.map r) (.map none)).run Try.prog w = .ok (.bool (!r.isNone)) w := run_neq_map_nil w _ _ _ r Try.underlying70
theorem New_nil (W : World) : Calls Try.prog 11 #[.slice none 0 0] W fun e W' => ∃ q mp, e = .returned (.tuple #[.pointer (some ⟨q, 0, none⟩), .int .i64 0]) ∧ Blk W' q 72 #[.map (some mp)] ∧ W.heap.size ≤ q ∧ Below W.heap.size W W' := by
  have hmm := @run_makeMap Try.prog
  have hb : Below W.heap.size W ((W.alloc (.map #[] 0)).alloc (.cells #[.map (some W.heap.size)] 72)) := ((Below.refl _ _).alloc (Nat.le_refl _) _).alloc (by simp) _
  have HB := hide_ hb
  have hk := hide_ (show Blk ((W.alloc (.map #[] 0)).alloc (.cells #[.map (some W.heap.size)] 72)) (W.heap.size + 1) 72 #[.map (some W.heap.size)] by
    have h := Blk.new (W.alloc (.map #[] 0)) 72 #[.map (some W.heap.size)]
    rw [World.size_alloc] at h
    exact h)
  clear hb
  go_enter Try.func11, Try.ntmps11
  go_wp2
  go_loopw [17] (fun i wr => i = .int .i64 0 ∧ wr = (W.alloc (.map #[] 0)).alloc (.cells #[.map (some W.heap.size)] 72)) (fun i _ => 0)
  case atStart => exact ⟨rfl, rfl⟩
  case round =>
    obtain ⟨rfl, rfl⟩ := hrel
    go_wp2
    go_ret2
    exact ⟨_, _, rfl, hk.out, by simp, HB.out⟩
theorem gmade_any (q mp : Nat) (W : World) (h : W.cell? ⟨q, 0, none⟩ = some (.map (some mp))) : Calls Try.prog 29 #[.pointer (some ⟨q, 0, none⟩)] W fun e w' => e = .returned (.bool true) ∧ w' = W := by
  have hn := map_neq
  go_enter Try.func29, Try.ntmps29
  go_wp2
  go_ret
  exact ⟨rfl, rfl⟩
section
variable {W : World} {B g d N c : Nat} {xs : List Int} {ex : List Ro}
theorem one_wreads {p n' c' : Nat} {a : Int} {A' : Option Addr} (hp : p < W.heap.size) (h0 : W.cell? ⟨p, 0, none⟩ = some (.int .u32 a)) (h1 : W.cell? ⟨p, 1, none⟩ = some (.slice A' n' c')) : WReads W W.heap.size (some ⟨p, 0, none⟩) 1 (fun _ => ⟨a, A', n', c'⟩) := fun _ => ⟨_, rfl, hp, fun j hj => by
  obtain rfl : j = 0 := by omega
  exact ⟨h0, h1⟩⟩
theorem Bits_q (b : Nat) (hb : b ≤ 16) (hNb : N = 2 ^ b) (h : Seg W B g d N c xs ex) :
    Calls Try.prog 50 #[.pointer (some ⟨g, 0, none⟩)] W fun e W' => e = .returned (.int .i64 b) ∧ ∃ nq, W' = W.drewN nq := by
  obtain ⟨⟨tv, h1⟩, _⟩ := h
  exact Bits_any b hb hNb h1
set_option maxRecDepth 100000 in
set_option maxHeartbeats 1000000 in
theorem Apply_one (b q mp p n' c' Bz : Nat) (a : Int) (A' : Option Addr) (ys : List Int) (h : Seg W B g d N c xs ex) (hb0 : 0 < b) (hb : b ≤ 16) (hNb : N = 2 ^ b) (hq : W.cell? ⟨q, 0, none⟩ = some (.map (some mp))) (hqs : q < W.heap.size) (hp : p < W.heap.size)
    (hp0 : W.cell? ⟨p, 0, none⟩ = some (.int .u32 a)) (hp1 : W.cell? ⟨p, 1, none⟩ = some (.slice A' n' c')) (hn : n' ≤ 256) (a0 : 0 ≤ a) (a1 : a ≤ 4294967295) (hr : Reads W Bz 1 A' n' (u8s ys)) (hBz : Bz ≤ B) (hok : bytesOk ys) :
    Calls Try.prog 41 #[.pointer (some ⟨q, 0, none⟩), .pointer (some ⟨g, 0, none⟩), .agg #[.int .u32 0, .slice (some ⟨p, 0, none⟩) 1 1]] W fun e W' => e = .returned (.int .i64 0) ∧ Seg W' B g d N c (puts N a ys xs n') ex ∧ Below B W W' := by
  have hb1 : Below W.heap.size W (W.alloc (.cells #[.int .u32 0, .slice (some ⟨p, 0, none⟩) 1 1] 43)) := (Below.refl _ _).alloc (Nat.le_refl _) _
  have hS1 := h.below hb1
  have hk := Blk.new W 43 #[.int .u32 0, .slice (some ⟨p, 0, none⟩) 1 1]
  have hm := hide_ (gmade_any q mp (W.alloc (.cells #[.int .u32 0, .slice (some ⟨p, 0, none⟩) 1 1] 43)) ((hb1.cell hqs).trans hq))
  have h2 := hide_ (Bits_q b hb hNb hS1)
  have hfn : fitsN 1 (fun _ => (⟨a, A', n', c'⟩ : Wr)) 1 = true := fitsN_yes _ _ (by omega) (fun _ _ => hn)
  have HFN := hide_ hfn
  have HB1 := hide_ hb1
  have HK := hide_ hk
  have HP := hide_ (show W.cell? ⟨p, 0, none⟩ = some (.int .u32 a) ∧ W.cell? ⟨p, 1, none⟩ = some (.slice A' n' c') from ⟨hp0, hp1⟩)
  have HH := hide_ h
  have HR := hide_ hr
  have dB : ((b : Int) == 0) = false := by rw [beq_eq_false_iff_ne]; omega
  clear hb1 hS1 hk h hp0 hp1 hq hr hfn hNb
  go_enter Try.func41, Try.ntmps41
  go_wp2_with (go_at_call 29; refine hm.out.mono ?_; rintro e w' ⟨rfl, rfl⟩)
  refine h2.out.mono ?_
  rintro e w2 ⟨rfl, nq2, rfl⟩
  have hb2 : Below W.heap.size W ((W.alloc (.cells #[.int .u32 0, .slice (some ⟨p, 0, none⟩) 1 1] 43)).drewN nq2) := below_draws2 HB1.out nq2
  have hk2 : Blk ((W.alloc (.cells #[.int .u32 0, .slice (some ⟨p, 0, none⟩) 1 1] 43)).drewN nq2) W.heap.size 43 #[.int .u32 0, .slice (some ⟨p, 0, none⟩) 1 1] := HK.out.drewN nq2
  generalize (W.alloc (.cells #[.int .u32 0, .slice (some ⟨p, 0, none⟩) 1 1] 43)).drewN nq2 = w2 at hb2 hk2 ⊢
  have hs2 : W.heap.size < w2.heap.size := hk2.lt
  have hf := gFits_any 0 (some ⟨p, 0, none⟩) 1 1 w2.heap.size (fun _ => (⟨a, A', n', c'⟩ : Wr)) w2 (one_wreads (by omega) ((hb2.cell hp).trans HP.out.1) ((hb2.cell hp).trans HP.out.2)) (Nat.le_refl _) (by unfold maxLen; decide)
  rw [HFN.out] at hf
  have HF := hide_ hf
  have r0 := hk2.cell 0
  have r1 := hk2.cell 1
  have HB2 := hide_ hb2
  have HK2 := hide_ hk2
  clear hf hb2 hk2 h2 hm
  go_wp2_with fail
  refine HF.out.mono ?_
  rintro e w3 ⟨rfl, hb3⟩
  have hk3 := HK2.out.below hb3 hs2
  have hB3 : Below W.heap.size W w3 := HB2.out.trans (hb3.mono HB2.out.size)
  have r0' := hk3.cell 0
  have r1' := hk3.cell 1
  have p0' := (hB3.cell hp).trans HP.out.1
  have p1' := (hB3.cell hp).trans HP.out.2
  have hs3 : W.heap.size < w3.heap.size := hk3.lt
  have hp3 : p < w3.heap.size := by omega
  have HB3 := hide_ hB3
  clear hb3 hk3 hB3 r0 r1 hs2 HF HK2
  go_wp2
  go_loopw [24] (fun i wr => ∃ k : Nat, k ≤ 1 ∧ i = .int .i64 k ∧ Hid ((k = 0 ∧ wr = w3) ∨ (k = 1 ∧ Seg wr B g d N c (puts N a ys xs n') ex ∧ Below B W wr))) (fun i _ => 1 - (intOf i).toNat)
  case atStart => exact ⟨0, by omega, rfl, hide_ (.inl ⟨rfl, rfl⟩)⟩
  case round =>
    obtain ⟨k, hk, rfl, hrel⟩ := hrel
    rcases hrel.out with ⟨rfl, rfl⟩ | ⟨rfl, hS, hB⟩
    · have hS4 : Seg (wr.alloc (.cells #[.int .u32 a, .slice A' n' c'] 104)) B g d N c xs ex := (HH.out.below HB3.out).below ((Below.refl _ _).alloc (Nat.le_refl _) _)
      have hb4 : Below B W (wr.alloc (.cells #[.int .u32 a, .slice A' n' c'] 104)) := (HB3.out.mono HH.out.base).alloc (Nat.le_trans HH.out.base HB3.out.size) _
      have hw := hide_ (Write_off a A' n' c' Bz ys hS4 a0 a1 (by omega) ((HR.out.below (hb4.mono hBz))) hBz hok)
      have HB4 := hide_ hb4
      clear hS4 hb4 hrel
      go_wp2_with (go_at_call 57; refine hw.out.mono ?_; rintro e w5 ⟨rfl, hS5, hb5⟩)
      go_roundw
      case rel => exact ⟨1, by omega, by go_num, hide_ (.inr ⟨rfl, hS5, HB4.out.trans hb5⟩)⟩
      case measure => simp [intOf]
    · clear r0' r1' p0' p1'
      go_wp2
      go_ret
      exact ⟨rfl, hS, hB⟩
set_option maxRecDepth 100000 in
set_option maxHeartbeats 1000000 in
theorem Apply_big (b q mp p n' c' : Nat) (a : Int) (A' : Option Addr) (h : Seg W B g d N c xs ex) (hb0 : 0 < b) (hb : b ≤ 16) (hNb : N = 2 ^ b) (hq : W.cell? ⟨q, 0, none⟩ = some (.map (some mp))) (hqs : q < W.heap.size) (hp : p < W.heap.size)
    (hp0 : W.cell? ⟨p, 0, none⟩ = some (.int .u32 a)) (hp1 : W.cell? ⟨p, 1, none⟩ = some (.slice A' n' c')) (hn : 256 < n') :
    Calls Try.prog 41 #[.pointer (some ⟨q, 0, none⟩), .pointer (some ⟨g, 0, none⟩), .agg #[.int .u32 0, .slice (some ⟨p, 0, none⟩) 1 1]] W fun e W' => e = .returned (.int .i64 5) ∧ Seg W' B g d N c xs ex ∧ Below B W W' := by
  have hb1 : Below W.heap.size W (W.alloc (.cells #[.int .u32 0, .slice (some ⟨p, 0, none⟩) 1 1] 43)) := (Below.refl _ _).alloc (Nat.le_refl _) _
  have hS1 := h.below hb1
  have hk := Blk.new W 43 #[.int .u32 0, .slice (some ⟨p, 0, none⟩) 1 1]
  have hm := hide_ (gmade_any q mp (W.alloc (.cells #[.int .u32 0, .slice (some ⟨p, 0, none⟩) 1 1] 43)) ((hb1.cell hqs).trans hq))
  have h2 := hide_ (Bits_q b hb hNb hS1)
  have hfn : fitsN 1 (fun _ => (⟨a, A', n', c'⟩ : Wr)) 1 = false := fitsN_no _ _ 0 (by omega) (by show ¬ n' ≤ 256; omega)
  have HFN := hide_ hfn
  have HB1 := hide_ hb1
  have HK := hide_ hk
  have HP := hide_ (show W.cell? ⟨p, 0, none⟩ = some (.int .u32 a) ∧ W.cell? ⟨p, 1, none⟩ = some (.slice A' n' c') from ⟨hp0, hp1⟩)
  have HH := hide_ h
  have dB : ((b : Int) == 0) = false := by rw [beq_eq_false_iff_ne]; omega
  clear hb1 hS1 hk h hp0 hp1 hq hfn hNb
  go_enter Try.func41, Try.ntmps41
  go_wp2_with (go_at_call 29; refine hm.out.mono ?_; rintro e w' ⟨rfl, rfl⟩)
  refine h2.out.mono ?_
  rintro e w2 ⟨rfl, nq2, rfl⟩
  have hb2 : Below W.heap.size W ((W.alloc (.cells #[.int .u32 0, .slice (some ⟨p, 0, none⟩) 1 1] 43)).drewN nq2) := below_draws2 HB1.out nq2
  have hk2 : Blk ((W.alloc (.cells #[.int .u32 0, .slice (some ⟨p, 0, none⟩) 1 1] 43)).drewN nq2) W.heap.size 43 #[.int .u32 0, .slice (some ⟨p, 0, none⟩) 1 1] := HK.out.drewN nq2
  generalize (W.alloc (.cells #[.int .u32 0, .slice (some ⟨p, 0, none⟩) 1 1] 43)).drewN nq2 = w2 at hb2 hk2 ⊢
  have hs2 : W.heap.size < w2.heap.size := hk2.lt
  have hf := gFits_any 0 (some ⟨p, 0, none⟩) 1 1 w2.heap.size (fun _ => (⟨a, A', n', c'⟩ : Wr)) w2 (one_wreads (by omega) ((hb2.cell hp).trans HP.out.1) ((hb2.cell hp).trans HP.out.2)) (Nat.le_refl _) (by unfold maxLen; decide)
  rw [HFN.out] at hf
  have HF := hide_ hf
  have r0 := hk2.cell 0
  have r1 := hk2.cell 1
  have HB2 := hide_ hb2
  clear hf hb2 hk2 h2 hm
  go_wp2_with fail
  refine HF.out.mono ?_
  rintro e w3 ⟨rfl, hb3⟩
  have HB3 := hide_ (show Below W.heap.size W w3 from HB2.out.trans (hb3.mono HB2.out.size))
  clear hb3 r0 r1
  go_wp2_with fail
  go_ret
  exact ⟨rfl, HH.out.below HB3.out, HB3.out.mono HH.out.base⟩
end
end Go.Proofs.Ytcfpclhoockcfaa
/-
  A gate: a struct with a map of words by numbers. made, Within, Less.
-/
namespace Go.Proofs.Ytcfpclhoockcfaa
open Go.RowKit Go.Maps

abbrev MD := DataW Unit
theorem K32 : Keyed Try.prog 39 := int_keyed Try.underlying39
def z0 : MD := .lit (.int .i64 0)
def kx (x : Int) : Lit := .int .u32 x
def mapAt (w : World) (m n : Nat) (D : MD) : Prop := w.ownsMap Try.prog 39 (plainElem Try.prog 3) m n D
theorem mapAt.below {w w' : World} {B m n : Nat} {D : MD} (h : mapAt w m n D) (hb : Below B w w') (hm : m < B) : mapAt w' m n D := by
  obtain ⟨es, clock, h1, h2⟩ := h
  exact ⟨es, clock, (hb.block m hm).trans h1, h2⟩
/-- a gate's cell, and its map -/
def GateAt (w : World) (q : Nat) (D : MD) : Prop := ∃ m n, w.cell? ⟨q, 0, none⟩ = some (.map (some m)) ∧ q < w.heap.size ∧ m < w.heap.size ∧ mapAt w m n D ∧ n ≤ 64
theorem GateAt.below {w w' : World} {q : Nat} {D : MD} (h : GateAt w q D) (hb : Below w.heap.size w w') : GateAt w' q D := by
  obtain ⟨m, n, h1, h2, h3, h4, h5⟩ := h
  exact ⟨m, n, (hb.cell (p := ⟨q, 0, none⟩) h2).trans h1, Nat.lt_of_lt_of_le h2 hb.size, Nat.lt_of_lt_of_le h3 hb.size, h4.below hb h3, h5⟩
/-- a gate's cell and its map lie in new memory -/
def GateNew (w w' : World) (q : Nat) : Prop := w.heap.size ≤ q ∧ ∀ m, w'.cell? ⟨q, 0, none⟩ = some (.map (some m)) → w.heap.size ≤ m
theorem gate_new {w w' : World} {q m : Nat} (h : w'.cell? ⟨q, 0, none⟩ = some (.map (some m))) (hq : w.heap.size ≤ q) (hm : w.heap.size ≤ m) : GateNew w w' q := ⟨hq, fun k hk => by
  rw [h] at hk
  injection hk with hk
  injection hk with hk
  injection hk with hk
  omega⟩
theorem zero_int (w : World) : (zeroValue 3).run Try.prog w = .ok (.int .i64 0) w := by kernel_rfl
theorem wf_z0 : (Lit.int .i64 0).wf = true := by kernel_rfl
/-- what stands at a number -/
theorem val_ex {w : World} {m n : Nat} {D : MD} (h : mapAt w m n D) (x : Int) (hx : (Lit.int .u32 x).wf = true) : ∃ c : Int, D.atKey (kx x) z0 = .lit (.int .i64 c) ∧ (Lit.int .i64 c).wf = true := by
  obtain ⟨v, ps, _, hv⟩ := World.ownsMap.look_ok h K32 Try.underlying70 (zero_int w) (plainElem_int Try.underlying3 wf_z0) (keyOf_int_mk Try.underlying39 hx)
  obtain ⟨c, rfl, hc, hwc⟩ := plainElem_int_inv Try.underlying3 hv
  exact ⟨c, congrArg Prod.fst hc, hwc⟩
theorem look_run {w : World} {m n : Nat} {D : MD} (h : mapAt w m n D) (x c : Int) (hx : (Lit.int .u32 x).wf = true) (hc : D.atKey (kx x) z0 = .lit (.int .i64 c)) :
    (Instr.lookup 70 (.map (some m)) (.int .u32 x) true).run Try.prog w = .ok (.tuple #[.int .i64 c, .bool (Maps.has D (kx x))]) w := by
  obtain ⟨v, ps, hrun, hv⟩ := World.ownsMap.look_ok h K32 Try.underlying70 (zero_int w) (plainElem_int Try.underlying3 wf_z0) (keyOf_int_mk Try.underlying39 hx)
  obtain ⟨c', rfl, hc', _⟩ := plainElem_int_inv Try.underlying3 hv
  have e : DataW.lit (H := Unit) (.int .i64 c) = .lit (.int .i64 c') := hc.symm.trans (congrArg Prod.fst hc')
  have e2 : c = c' := congrArg (fun d : MD => match d with | .lit (.int _ a) => a | _ => 0) e
  rw [e2]
  exact hrun

/-! ### Within -/
def Inn (D1 D2 : MD) (x : Int) : Prop := Maps.has D2 (kx x) = true ∧ D1.atKey (kx x) z0 = D2.atKey (kx x) z0
def WithinP (D1 D2 : MD) : Prop := ∀ x, (Lit.int .u32 x).wf = true → Maps.has D1 (kx x) = true → Inn D1 D2 x
def SoFar (D1 D2 : MD) (left : Lit → Bool) : Prop := ∀ x, (Lit.int .u32 x).wf = true → Maps.has D1 (kx x) = true → left (kx x) = false → Inn D1 D2 x
set_option maxRecDepth 100000 in
theorem Within_any (q1 q2 : Nat) (D1 D2 : MD) (w : World) (h1 : GateAt w q1 D1) (h2 : GateAt w q2 D2) :
    Calls Try.prog 22 #[.pointer (some ⟨q1, 0, none⟩), .pointer (some ⟨q2, 0, none⟩)] w fun e w' => ∃ b, e = .returned (.bool b) ∧ (b = true ↔ WithinP D1 D2) ∧ Below w.heap.size w w' := by
  obtain ⟨m1, n1, c1, l1, s1, o1, _⟩ := h1
  obtain ⟨m2, n2, c2, l2, s2, o2, _⟩ := h2
  have g1 := gmade_any q1 m1 w c1
  have g2 := gmade_any q2 m2 w c2
  have O2 := hide_ o2
  clear o2
  go_enter Try.func22, Try.ntmps22
  go_wp2_with fail
  refine g1.mono ?_
  rintro e w' ⟨rfl, hw⟩
  subst w'
  go_wp2_with (first
    | (go_at_call 29; refine g2.mono ?_; rintro e w' ⟨rfl, hw⟩; subst w')
    | (at_range; refine wpList_range_own _ rfl _ 70 rfl 39 3 K32 Try.underlying70 _ m1 n1 _ rfl o1 ?_; intro w0 hrg0 hg0 hs0)
    | go_in)
  go_frame
  go_loopw [5] (fun _ wr => ∃ (left : Lit → Bool) (cnt : Nat), wr.ranges Try.prog 39 (plainElem Try.prog 3) m1 w.heap.size n1 D1 left cnt ∧ Below w.heap.size w wr ∧ SoFar D1 D2 left) (fun _ wr => wr.rangeLeft m1 w.heap.size)
  case atStart => exact ⟨_, _, hrg0, (Below.refl _ _).grown hg0 (Nat.le_refl _) (fun j hj => by cases hj), fun x _ h1 h2 => by rw [h1] at h2; cases h2⟩
  case round =>
    obtain ⟨left, cnt, hrg, hb, hso⟩ := hrel
    have HSO := hide_ hso
    have HB := hide_ hb
    clear hso hb
    go_wp2_with (first
      | (at_next; refine wpList_next_ranges_ii _ rfl _ rfl 39 3 .u32 .i64 K32 Try.underlying39 Try.underlying3 m1 w.heap.size n1 _ _ _ rfl hrg ?_ ?_)
      | go_in)
    · intro _ hl0
      go_wp2
      go_ret
      exact ⟨true, rfl, by simp; exact fun x h1 h2 => HSO.out x h1 h2 (hl0 _), HB.out⟩
    · intro x c w1 cnt1 hwx hwc hlx hat hrg1 hlt hg1 hs1 hen
      have hb1 : Below w.heap.size w w1 := HB.out.grown hg1 HB.out.size (fun j hj => by cases hj; exact Nat.le_refl _)
      have hO2 := O2.out.below hb1 s2
      obtain ⟨c', hc', hwc'⟩ := val_ex hO2 x hwx
      have hlk := look_run hO2 x c' hwx hc'
      have hq2 : w1.cell? ⟨q2, 0, none⟩ = some (.map (some m2)) := (hb1.cell (p := ⟨q2, 0, none⟩) l2).trans c2
      have HB1 := hide_ hb1
      have HO2 := hide_ hO2
      clear hb1 hO2
      cases hh : Maps.has D2 (kx x) with
      | false =>
        rw [hh] at hlk
        go_wp2
        go_ret
        refine ⟨false, rfl, ?_, HB1.out⟩
        simp only [Bool.false_eq_true, false_iff]
        intro hW
        have := (hW x hwx (has_true_of_atKey hat)).1
        rw [hh] at this
        cases this
      | true =>
        rw [hh] at hlk
        by_cases hcc : c' = c
        · subst hcc
          have d1 : (c' != c') = false := by simp
          go_wp2
          go_roundw
          case rel =>
            refine ⟨_, cnt1, hrg1, HB1.out, fun x' h1 h2 h3 => ?_⟩
            by_cases hl : left (kx x') = false
            · exact HSO.out x' h1 h2 hl
            · have hs : (kx x').sameKey (.int .u32 x) = true := by
                revert h3 hl
                simp only [Bool.and_eq_false_imp, Bool.not_eq_false']
                exact fun h3 hl => h3 (by simpa using hl)
              have e := WideAt.sameKey_eq hs
              have e2 : x' = x := congrArg (fun d : Lit => match d with | .int _ a => a | _ => 0) e
              subst e2
              exact ⟨hh, (hat z0).trans hc'.symm⟩
          case measure => rw [hrg1.left_eq, hrg.left_eq]; exact hlt
        · have d1 : (c' != c) = true := by simpa using hcc
          go_wp2
          go_ret
          refine ⟨false, rfl, ?_, HB1.out⟩
          simp only [Bool.false_eq_true, false_iff]
          intro hW
          have h2 := (hW x hwx (has_true_of_atKey hat)).2
          have h3 : DataW.lit (H := Unit) (.int .i64 c) = .lit (.int .i64 c') := ((hat z0).symm.trans h2).trans hc'
          exact hcc (congrArg (fun d : MD => match d with | .lit (.int _ a) => a | _ => 0) h3).symm

/-! ### Less -/
set_option maxRecDepth 100000 in
theorem mapsClone_any (m n : Nat) (D : MD) (w : World) (h : mapAt w m n D) (hm : m < w.heap.size) : Calls Try.prog 60 #[.map (some m)] w fun e w' => e = .returned (.map (some w.heap.size)) ∧ mapAt w' w.heap.size n D ∧ Below w.heap.size w w' := by
  have hlt := hm
  obtain ⟨es, clock, hb, F, hs, hD⟩ := h
  have hq := fun w => run_eql_map_nil_sl (P := Try.prog) w 70 _ _ (some m) Try.underlying70
  go_enter Try.func60, Try.ntmps60
  go_wp2
  rw [run_callFunc_extern Try.func66 (by kernel_rfl) (by kernel_rfl) (by kernel_rfl) (e := Extern.MapsClone.clone) (by kernel_rfl), run_maps_clone_sl w 70 hb]
  simp only [Result.andThen]
  rw [Oper.upon_value]
  go_wp2
  rw [run_typeAssert_map_sl _ 70 20 _ _ _ Try.underlying70]
  simp only [Result.andThen]
  rw [Oper.upon_value]
  go_wp2
  go_ret
  exact ⟨rfl, ⟨es, clock, (MapKept.heap_alloc w _).1, F, hs, hD⟩, (Below.refl _ w).alloc (Nat.le_refl _) _⟩
end Go.Proofs.Ytcfpclhoockcfaa
/-
  The walks of gate's Less and New.
-/
namespace Go.Proofs.Ytcfpclhoockcfaa
open Go.RowKit Go.Maps

abbrev u32s (xs : List Int) : List Value := xs.map (Value.int .u32)
def delAll (D : MD) (ns : List Int) : MD := ns.foldl (fun D x => D.del (kx x)) D
theorem delAll_snoc (D : MD) (ns : List Int) (x : Int) : delAll D (ns ++ [x]) = (delAll D ns).del (kx x) := by simp [delAll]
set_option maxRecDepth 100000 in
theorem Less_any (q : Nat) (D : MD) (A : Option Addr) (n c : Nat) (ns : List Int) (w : World) (h : GateAt w q D) (hr : Reads w w.heap.size 1 A n (u32s ns)) (hwf : ∀ x ∈ ns, (Lit.int .u32 x).wf = true) (hn : n ≤ 140737488351232) :
    Calls Try.prog 46 #[.pointer (some ⟨q, 0, none⟩), .slice A n c] w fun e w' => ∃ q', e = .returned (.tuple #[.pointer (some ⟨q', 0, none⟩), .int .i64 0]) ∧ GateAt w' q' (delAll D ns) ∧ GateNew w w' q' ∧ Below w.heap.size w w' := by
  obtain ⟨m, k, c1, l1, s1, o1, k64⟩ := h
  have hl : ns.length = n := by simpa using hr.1
  have g1 := gmade_any q m w c1
  have h1 := hide_ (mapsClone_any m k D w o1 s1)
  have HR := hide_ hr
  have HL := hide_ hl
  have HWF := hide_ hwf
  clear hr hl hwf o1
  go_enter Try.func46, Try.ntmps46
  go_wp2_with fail
  refine g1.mono ?_
  rintro e w' ⟨rfl, hw⟩
  subst w'
  go_wp2_with fail
  refine h1.out.mono ?_
  rintro e w1 ⟨rfl, o2, hb1⟩
  clear h1 g1
  go_wp2
  go_loopw [19] (fun i wr => ∃ j : Nat, j ≤ n ∧ i = .int .i64 j ∧ mapAt wr w.heap.size k (delAll D (ns.take j)) ∧ Below w.heap.size w wr ∧ w.heap.size < wr.heap.size) (fun i _ => n - (intOf i).toNat)
  case atStart => exact ⟨0, Nat.zero_le _, rfl, o2, hb1, o2.lt⟩
  case round =>
    clear o2 hb1
    obtain ⟨j, hj, rfl, o3, hb, hsz⟩ := hrel
    by_cases hlt : j < n
    · obtain ⟨ad, u, rfl, hab, hu, hcu⟩ := (HR.out.below hb).at_ hlt
      have hjl : j < ns.length := by rw [HL.out]; exact hlt
      have hue : u = .int .u32 (ns[j]?.getD 0) := by
        rw [List.getElem?_map, List.getElem?_eq_getElem hjl] at hu
        rw [List.getElem?_eq_getElem hjl]
        exact (Option.some.inj hu).symm
      subst hue
      have hwx : (Lit.int .u32 (ns[j]?.getD 0)).wf = true := HWF.out _ (by rw [List.getElem?_eq_getElem hjl]; exact List.getElem_mem hjl)
      have hst : delAll D (ns.take (j + 1)) = (delAll D (ns.take j)).del (kx (ns[j]?.getD 0)) := by
        rw [List.take_add_one, List.getElem?_eq_getElem hjl]
        exact delAll_snoc _ _ _
      obtain ⟨x, hx⟩ : ∃ x, x = ns[j]?.getD 0 := ⟨_, rfl⟩
      rw [← hx] at hcu hwx hst
      have HST := hide_ hst
      have HB := hide_ hb
      have hbk : (ad.add j).block < wr.heap.size := by rw [block_of_add]; have := hb.size; omega
      clear hst hx hb hu hab
      go_wp2_with (first
        | (at_delete; refine wpList_delete_own _ rfl _ _ 70 39 rfl 3 K32 Try.underlying70 _ w.heap.size k _ rfl o3 _ _ rfl (keyOf_int_mk Try.underlying39 hwx) ?_; intro w4 o4 ht4)
        | go_in)
      go_roundw
      case rel =>
        have hg := ht4.grown
        exact ⟨j + 1, by omega, by go_num, by rw [HST.out]; exact o4, HB.out.grown hg HB.out.size (fun i hi => by cases hi; exact Nat.le_refl _), Nat.lt_of_lt_of_le hsz hg.size⟩
      case measure => simp [intOf]; omega
    · obtain rfl : j = n := by omega
      rw [List.take_of_length_le (by rw [HL.out]; omega)] at o3
      have hk := Blk.new wr 72 #[.map (some w.heap.size)]
      have hb2 : Below w.heap.size w (wr.alloc (.cells #[.map (some w.heap.size)] 72)) := hb.alloc hb.size _
      have o5 : mapAt (wr.alloc (.cells #[.map (some w.heap.size)] 72)) w.heap.size k (delAll D ns) := o3.alloc _
      have hk0 := hk.cell 0
      have HEND := hide_ (show GateAt (wr.alloc (.cells #[.map (some w.heap.size)] 72)) wr.heap.size (delAll D ns) from ⟨w.heap.size, k, hk0, hk.lt, by simp; omega, o5, k64⟩)
      have HNW := hide_ (gate_new (w := w) hk0 hb.size (Nat.le_refl _))
      have HB2 := hide_ hb2
      clear hk hb2 o5 hk0 o3 hb
      go_wp2
      go_ret2
      exact ⟨_, rfl, HEND.out, HNW.out, HB2.out⟩
end Go.Proofs.Ytcfpclhoockcfaa
