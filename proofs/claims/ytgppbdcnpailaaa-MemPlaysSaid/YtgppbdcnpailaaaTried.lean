/-
  The walk of playpenlaw09.tried; what a Step reads as.
-/
import Derived.Test.YtgppbdcnpailaaaNoted
import Derived.Test.YtgppbdcnpailaaaMemRaw
namespace Go.Proofs.Ytgppbdcnpailaaa
open Go.RowKit

structure StepV where
  d : Int
  a : Int
  b : Int
  p : Int
  v : Int
  n : Int
  on : Bool
  A : Option Addr
  l : Nat
  c : Nat
  xs : List Int
def stepCells (x : StepV) : List Value := [.int .u8 x.d, .int .u8 x.a, .int .u8 x.b, .int .u32 x.p, .int .u32 x.v, .int .i64 x.n, .bool x.on, .slice x.A x.l x.c]
structure StepOk (w : World) (Bz : Nat) (x : StepV) : Prop where
  d : 0 ≤ x.d ∧ x.d < 256
  a : 0 ≤ x.a ∧ x.a < 256
  b : 0 ≤ x.b ∧ x.b < 256
  p : 0 ≤ x.p ∧ x.p < 4294967296
  v : 0 ≤ x.v ∧ x.v < 4294967296
  n : -9223372036854775808 ≤ x.n ∧ x.n < 9223372036854775808
  data : Reads w Bz 1 x.A x.l (u8s x.xs)
  ok : bytesOk x.xs
  cap : x.l ≤ x.c ∧ x.c ≤ 140737488351232
theorem StepOk.below {w w' : World} {Bz : Nat} {x : StepV} (h : StepOk w Bz x) (hb : Below Bz w w') : StepOk w' Bz x :=
  ⟨h.d, h.a, h.b, h.p, h.v, h.n, h.data.below hb, h.ok, h.cap⟩
theorem eight_of_len {α : Type} {l : List α} (h : l.length = 8) : ∃ a b c d e f g k, l = [a, b, c, d, e, f, g, k] := by
  match l, h with
  | [a, b, c, d, e, f, g, k], _ => exact ⟨a, b, c, d, e, f, g, k, rfl⟩
theorem step_cells : Try.prog.cellsOf 79 = 8 := by kernel_rfl
theorem c_int : Try.prog.cellsOf 3 = 1 := by kernel_rfl
theorem c_bool : Try.prog.cellsOf 4 = 1 := by kernel_rfl
theorem wf_i64 {a : Int} (h : (Lit.int .i64 a).wf = true) : -9223372036854775808 ≤ a ∧ a < 9223372036854775808 := by
  simp [Lit.wf, IntKind.min, IntKind.max, IntKind.signed, IntKind.bits] at h
  omega
set_option maxRecDepth 100000 in
theorem seen_step {H : Type} {enc : TypeId × Value → H} {w : World} {held : Bool} {l : List Value} (h : Seen enc Try.prog w held 79 l) :
    ∃ x : StepV, l = stepCells x ∧ StepOk w w.heap.size x := by
  obtain ⟨hl, hf⟩ := seen_struct Try.underlying79 h
  rw [step_cells] at hl
  obtain ⟨y0, y1, y2, y3, y4, y5, y6, y7, rfl⟩ := eight_of_len hl
  have f0 : Seen enc Try.prog w held 5 (([y0, y1, y2, y3, y4, y5, y6, y7].drop 0).take (Try.prog.cellsOf 5)) := hf 0 _ rfl
  have f1 : Seen enc Try.prog w held 5 (([y0, y1, y2, y3, y4, y5, y6, y7].drop 1).take (Try.prog.cellsOf 5)) := hf 1 _ rfl
  have f2 : Seen enc Try.prog w held 5 (([y0, y1, y2, y3, y4, y5, y6, y7].drop 2).take (Try.prog.cellsOf 5)) := hf 2 _ rfl
  have f3 : Seen enc Try.prog w held 23 (([y0, y1, y2, y3, y4, y5, y6, y7].drop 3).take (Try.prog.cellsOf 23)) := hf 3 _ rfl
  have f4 : Seen enc Try.prog w held 23 (([y0, y1, y2, y3, y4, y5, y6, y7].drop 4).take (Try.prog.cellsOf 23)) := hf 4 _ rfl
  have f5 : Seen enc Try.prog w held 3 (([y0, y1, y2, y3, y4, y5, y6, y7].drop 5).take (Try.prog.cellsOf 3)) := hf 5 _ rfl
  have f6 : Seen enc Try.prog w held 4 (([y0, y1, y2, y3, y4, y5, y6, y7].drop 6).take (Try.prog.cellsOf 4)) := hf 6 _ rfl
  have f7 : Seen enc Try.prog w held 46 (([y0, y1, y2, y3, y4, y5, y6, y7].drop 7).take (Try.prog.cellsOf 46)) := hf 7 _ rfl
  rw [c_u8] at f0 f1 f2
  rw [c_u8s] at f7
  rw [c_u32] at f3 f4
  rw [c_int] at f5
  rw [c_bool] at f6
  obtain ⟨d, h0, w0⟩ := seen_int Try.underlying5 f0
  obtain ⟨a, h1, w1⟩ := seen_int Try.underlying5 f1
  obtain ⟨b, h2, w2⟩ := seen_int Try.underlying5 f2
  obtain ⟨p, h3, w3⟩ := seen_int Try.underlying23 f3
  obtain ⟨v, h4, w4⟩ := seen_int Try.underlying23 f4
  obtain ⟨n, h5, w5⟩ := seen_int Try.underlying3 f5
  obtain ⟨on, h6⟩ := seen_bool Try.underlying4 f6
  obtain ⟨A, m, c, zs, h7, hnc, _, hcb, hr, hz⟩ := seen_ints Try.underlying46 Try.underlying5 c_u8 f7
  injection h0 with h0
  injection h1 with h1
  injection h2 with h2
  injection h3 with h3
  injection h4 with h4
  injection h5 with h5
  injection h6 with h6
  injection h7 with h7
  subst h0 h1 h2 h3 h4 h5 h6 h7
  rw [by_u8] at hcb
  exact ⟨⟨d, a, b, p, v, n, on, A, m, c, zs⟩, rfl, wf_u8 w0, wf_u8 w1, wf_u8 w2, wf_u32 w3, wf_u32 w4, wf_i64 w5, hr, fun x hx => wf_u8 (hz x hx), hnc, by unfold reachBytes at hcb; show c ≤ _; omega⟩

section
variable {W : World} {B g d N c : Nat} {xs : List Int} {ex : List Ro}
set_option maxRecDepth 100000 in
set_option maxHeartbeats 2000000 in
theorem tried_any (Bz : Nat) (x : StepV) (h : SegL W B g d N c xs [] ex) (hx : StepOk W Bz x) (hBz : Bz ≤ B) :
    Calls Try.prog 50 #[.pointer (some ⟨g, 0, none⟩), .agg (stepCells x).toArray] W fun e W' => e = .returned (.tuple #[]) ∧ Tried W W' B g d N c xs ex := by
  obtain ⟨dd, sa, sb, p, v, n, on, A, l, cc, zs⟩ := x
  obtain ⟨⟨d0, d1⟩, _, _, ⟨p0, p1⟩, ⟨v0, v1⟩, ⟨n0, n1⟩, hz, hok, _⟩ := hx
  simp only at d0 d1 p0 p1 v0 v1 n0 n1 hz hok
  have hW1 : Below W.heap.size W (W.alloc (.cells (stepCells ⟨dd, sa, sb, p, v, n, on, A, l, cc, zs⟩).toArray 79)) := (Below.refl _ _).alloc (Nat.le_refl _) _
  have k0 : Blk (W.alloc (.cells (stepCells ⟨dd, sa, sb, p, v, n, on, A, l, cc, zs⟩).toArray 79)) W.heap.size 79 (stepCells ⟨dd, sa, sb, p, v, n, on, A, l, cc, zs⟩).toArray := Blk.new W _ _
  have hS1 := h.below hW1
  have hz1 := hz.below (hW1.mono (Nat.le_trans hBz h.base))
  have HFIN : Hid (∀ W', Tried (W.alloc (.cells (stepCells ⟨dd, sa, sb, p, v, n, on, A, l, cc, zs⟩).toArray 79)) W' B g d N c xs ex → Tried W W' B g d N c xs ex) := hide_ fun W' => by
    rintro ⟨xs', ts', h1, h2, h3⟩
    exact ⟨xs', ts', h1, h2, (hW1.mono h.base).trans h3⟩
  have hu : 0 ≤ IntKind.u32.wrap n ∧ IntKind.u32.wrap n < 4294967296 := by
    simp [IntKind.wrap, IntKind.signed, IntKind.bits]
    omega
  obtain ⟨K, hK⟩ : ∃ K : Nat, dd % 9 = (K : Int) := Int.eq_ofNat_of_zero_le (by omega)
  have hK8 : K < 9 := by omega
  have c0 := k0.cell 0
  have c3 := k0.cell 3
  have c4 := k0.cell 4
  have c5 := k0.cell 5
  have c7 := k0.cell 7
  have cl := k0.lt
  unfold stepCells at *
  match K, hK8, hK with
  | 0, _, hK =>
    have H := hide_ (Load4_on p hS1)
    clear hS1 hz1 hz k0 hW1 h hok
    go_enter Try.func50, Try.ntmps50
    go_wp2_with fail
    refine H.out.mono ?_
    rintro e W' ⟨z, rfl, hT⟩
    have hT := hide_ (HFIN.out _ hT)
    go_wp2
    go_end0
    exact ⟨rfl, hT.out⟩
  | 1, _, hK =>
    have H := hide_ (Load2_on p hS1)
    clear hS1 hz1 hz k0 hW1 h hok
    go_enter Try.func50, Try.ntmps50
    go_wp2_with fail
    refine H.out.mono ?_
    rintro e W' ⟨z, rfl, hT⟩
    have hT := hide_ (HFIN.out _ hT)
    go_wp2
    go_end0
    exact ⟨rfl, hT.out⟩
  | 2, _, hK =>
    have H := hide_ (Store1_on p v hS1 v0 v1)
    clear hS1 hz1 hz k0 hW1 h hok
    go_enter Try.func50, Try.ntmps50
    go_wp2_with fail
    refine H.out.mono ?_
    rintro e W' ⟨rfl, hT⟩
    have hT := hide_ (HFIN.out _ hT)
    go_wp2
    go_end0
    exact ⟨rfl, hT.out⟩
  | 3, _, hK =>
    have H := hide_ (Store2_on p v hS1 v0 v1)
    clear hS1 hz1 hz k0 hW1 h hok
    go_enter Try.func50, Try.ntmps50
    go_wp2_with fail
    refine H.out.mono ?_
    rintro e W' ⟨rfl, hT⟩
    have hT := hide_ (HFIN.out _ hT)
    go_wp2
    go_end0
    exact ⟨rfl, hT.out⟩
  | 4, _, hK =>
    have H := hide_ (Store4_on p v hS1 v0 v1)
    clear hS1 hz1 hz k0 hW1 h hok
    go_enter Try.func50, Try.ntmps50
    go_wp2_with fail
    refine H.out.mono ?_
    rintro e W' ⟨rfl, hT⟩
    have hT := hide_ (HFIN.out _ hT)
    go_wp2
    go_end0
    exact ⟨rfl, hT.out⟩
  | 5, _, hK =>
    have H := hide_ (Copy_on p v _ hS1 p0 (by omega) v0 (by omega) hu.1)
    clear hS1 hz1 hz k0 hW1 h hok
    go_enter Try.func50, Try.ntmps50
    go_wp2_with fail
    refine H.out.mono ?_
    rintro e W' ⟨z, rfl, hT⟩
    have hT := hide_ (HFIN.out _ hT)
    go_wp2
    go_end0
    exact ⟨rfl, hT.out⟩
  | 6, _, hK =>
    have H := hide_ (Read_on p n hS1 p0 (by omega))
    clear hS1 hz1 hz k0 hW1 h hok
    go_enter Try.func50, Try.ntmps50
    go_wp2_with fail
    refine H.out.mono ?_
    rintro e W' ⟨z, rfl, hT⟩
    have hT := hide_ (HFIN.out _ hT)
    go_wp2
    go_end0
    exact ⟨rfl, hT.out⟩
  | 7, _, hK =>
    have H := hide_ (Write_on p A l cc Bz zs hS1 p0 (by omega) hz1 hBz hok)
    clear hS1 hz1 hz k0 hW1 h hok
    go_enter Try.func50, Try.ntmps50
    go_wp2_with fail
    refine H.out.mono ?_
    rintro e W' ⟨z, rfl, hT⟩
    have hT := hide_ (HFIN.out _ hT)
    go_wp2
    go_end0
    exact ⟨rfl, hT.out⟩
  | 8, _, hK =>
    have H := hide_ (Load1_on p hS1)
    clear hS1 hz1 hz k0 hW1 h hok
    go_enter Try.func50, Try.ntmps50
    go_wp2_with fail
    refine H.out.mono ?_
    rintro e W' ⟨z, rfl, hT⟩
    have hT := hide_ (HFIN.out _ hT)
    go_wp2
    go_end0
    exact ⟨rfl, hT.out⟩
end
end Go.Proofs.Ytgppbdcnpailaaa
