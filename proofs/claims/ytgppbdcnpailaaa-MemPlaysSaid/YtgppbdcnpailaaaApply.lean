/-
  The walks of gate.New of no grants, and of Apply of one write.
-/
import Derived.Test.YtgppbdcnpailaaaLog
namespace Go.Proofs.Ytgppbdcnpailaaa
open Go.RowKit

theorem map_neq (w : World) (r : Option Nat) : (binOp .neq 101 (.map r) (.map none)).run Try.prog w = .ok (.bool (!r.isNone)) w := run_neq_map_nil w _ _ _ r Try.underlying101
theorem New_nil (W : World) : Calls Try.prog 29 #[.slice none 0 0] W fun e W' => ∃ q mp, e = .returned (.tuple #[.pointer (some ⟨q, 0, none⟩), .int .i64 0]) ∧ Blk W' q 103 #[.map (some mp)] ∧ W.heap.size ≤ q ∧ Below W.heap.size W W' := by
  have hmm := @run_makeMap Try.prog
  have hb : Below W.heap.size W ((W.alloc (.map #[] 0)).alloc (.cells #[.map (some W.heap.size)] 103)) := ((Below.refl _ _).alloc (Nat.le_refl _) _).alloc (by simp) _
  have HB := hide_ hb
  have hk := hide_ (show Blk ((W.alloc (.map #[] 0)).alloc (.cells #[.map (some W.heap.size)] 103)) (W.heap.size + 1) 103 #[.map (some W.heap.size)] by
    have h := Blk.new (W.alloc (.map #[] 0)) 103 #[.map (some W.heap.size)]
    rw [World.size_alloc] at h
    exact h)
  clear hb
  go_enter Try.func29, Try.ntmps29
  go_wp2
  go_loopw [17] (fun i wr => i = .int .i64 0 ∧ wr = (W.alloc (.map #[] 0)).alloc (.cells #[.map (some W.heap.size)] 103)) (fun i _ => 0)
  case atStart => exact ⟨rfl, rfl⟩
  case round =>
    obtain ⟨rfl, rfl⟩ := hrel
    go_wp2
    go_ret2
    exact ⟨_, _, rfl, hk.out, by simp, HB.out⟩
theorem gmade_any (q mp : Nat) (W : World) (h : W.cell? ⟨q, 0, none⟩ = some (.map (some mp))) : Calls Try.prog 72 #[.pointer (some ⟨q, 0, none⟩)] W fun e w' => e = .returned (.bool true) ∧ w' = W := by
  have hn := map_neq
  go_enter Try.func72, Try.ntmps72
  go_wp2
  go_ret
  exact ⟨rfl, rfl⟩
section
variable {W : World} {B g d N c : Nat} {xs : List Int} {ex : List Ro}
theorem one_wreads {p n' c' : Nat} {a : Int} {A' : Option Addr} (hp : p < W.heap.size) (h0 : W.cell? ⟨p, 0, none⟩ = some (.int .u32 a)) (h1 : W.cell? ⟨p, 1, none⟩ = some (.slice A' n' c')) : WReads W W.heap.size (some ⟨p, 0, none⟩) 1 (fun _ => ⟨a, A', n', c'⟩) := fun _ => ⟨_, rfl, hp, fun j hj => by
  obtain rfl : j = 0 := by omega
  exact ⟨h0, h1⟩⟩
theorem Bits_q (b : Nat) (hb : b ≤ 16) (hNb : N = 2 ^ b) (h : Seg W B g d N c xs ex) :
    Calls Try.prog 75 #[.pointer (some ⟨g, 0, none⟩)] W fun e W' => e = .returned (.int .i64 b) ∧ ∃ nq, W' = W.drewN nq := by
  obtain ⟨⟨tv, h1⟩, _⟩ := h
  exact Bits_any b hb hNb h1
set_option maxRecDepth 100000 in
set_option maxHeartbeats 1000000 in
theorem Apply_one (b q mp p n' c' Bz : Nat) (a : Int) (A' : Option Addr) (ys : List Int) (h : Seg W B g d N c xs ex) (hb0 : 0 < b) (hb : b ≤ 16) (hNb : N = 2 ^ b) (hq : W.cell? ⟨q, 0, none⟩ = some (.map (some mp))) (hqs : q < W.heap.size) (hp : p < W.heap.size)
    (hp0 : W.cell? ⟨p, 0, none⟩ = some (.int .u32 a)) (hp1 : W.cell? ⟨p, 1, none⟩ = some (.slice A' n' c')) (hn : n' ≤ 256) (a0 : 0 ≤ a) (a1 : a ≤ 4294967295) (hr : Reads W Bz 1 A' n' (u8s ys)) (hBz : Bz ≤ B) (hok : bytesOk ys) :
    Calls Try.prog 31 #[.pointer (some ⟨q, 0, none⟩), .pointer (some ⟨g, 0, none⟩), .agg #[.int .u32 0, .slice (some ⟨p, 0, none⟩) 1 1]] W fun e W' => e = .returned (.int .i64 0) ∧ Seg W' B g d N c (puts N a ys xs n') ex ∧ Below B W W' := by
  have hb1 : Below W.heap.size W (W.alloc (.cells #[.int .u32 0, .slice (some ⟨p, 0, none⟩) 1 1] 29)) := (Below.refl _ _).alloc (Nat.le_refl _) _
  have hS1 := h.below hb1
  have hk := Blk.new W 29 #[.int .u32 0, .slice (some ⟨p, 0, none⟩) 1 1]
  have hm := hide_ (gmade_any q mp (W.alloc (.cells #[.int .u32 0, .slice (some ⟨p, 0, none⟩) 1 1] 29)) ((hb1.cell hqs).trans hq))
  have h2 := hide_ (Bits_q b hb hNb hS1)
  have hfn : fitsN 1 (fun _ => (⟨a, A', n', c'⟩ : Wr)) 1 = true := fitsN_yes _ _ (by omega) (fun _ _ => hn)
  have HFN := hide_ hfn
  have HB1 := hide_ hb1
  have HK := hide_ hk
  have HP := hide_ (show W.cell? ⟨p, 0, none⟩ = some (.int .u32 a) ∧ W.cell? ⟨p, 1, none⟩ = some (.slice A' n' c') from ⟨hp0, hp1⟩)
  have HH := hide_ h
  have HR := hide_ hr
  have dB : ((b : Int) == 0) = false := by rw [beq_eq_false_iff_ne]; omega
  clear hb1 hS1 hk h hp0 hp1 hq hr hfn hNb
  go_enter Try.func31, Try.ntmps31
  go_wp2_with (go_at_call 72; refine hm.out.mono ?_; rintro e w' ⟨rfl, rfl⟩)
  refine h2.out.mono ?_
  rintro e w2 ⟨rfl, nq2, rfl⟩
  have hb2 : Below W.heap.size W ((W.alloc (.cells #[.int .u32 0, .slice (some ⟨p, 0, none⟩) 1 1] 29)).drewN nq2) := below_draws2 HB1.out nq2
  have hk2 : Blk ((W.alloc (.cells #[.int .u32 0, .slice (some ⟨p, 0, none⟩) 1 1] 29)).drewN nq2) W.heap.size 29 #[.int .u32 0, .slice (some ⟨p, 0, none⟩) 1 1] := HK.out.drewN nq2
  generalize (W.alloc (.cells #[.int .u32 0, .slice (some ⟨p, 0, none⟩) 1 1] 29)).drewN nq2 = w2 at hb2 hk2 ⊢
  have hs2 : W.heap.size < w2.heap.size := hk2.lt
  have hf := gFits_any 0 (some ⟨p, 0, none⟩) 1 1 w2.heap.size (fun _ => (⟨a, A', n', c'⟩ : Wr)) w2 (one_wreads (by omega) ((hb2.cell hp).trans HP.out.1) ((hb2.cell hp).trans HP.out.2)) (Nat.le_refl _) (by unfold maxLen; decide)
  rw [HFN.out] at hf
  have HF := hide_ hf
  have r0 := hk2.cell 0
  have r1 := hk2.cell 1
  have HB2 := hide_ hb2
  have HK2 := hide_ hk2
  clear hf hb2 hk2 h2 hm
  go_wp2_with fail
  refine HF.out.mono ?_
  rintro e w3 ⟨rfl, hb3⟩
  have hk3 := HK2.out.below hb3 hs2
  have hB3 : Below W.heap.size W w3 := HB2.out.trans (hb3.mono HB2.out.size)
  have r0' := hk3.cell 0
  have r1' := hk3.cell 1
  have p0' := (hB3.cell hp).trans HP.out.1
  have p1' := (hB3.cell hp).trans HP.out.2
  have hs3 : W.heap.size < w3.heap.size := hk3.lt
  have hp3 : p < w3.heap.size := by omega
  have HB3 := hide_ hB3
  clear hb3 hk3 hB3 r0 r1 hs2 HF HK2
  go_wp2
  go_loopw [24] (fun i wr => ∃ k : Nat, k ≤ 1 ∧ i = .int .i64 k ∧ Hid ((k = 0 ∧ wr = w3) ∨ (k = 1 ∧ Seg wr B g d N c (puts N a ys xs n') ex ∧ Below B W wr))) (fun i _ => 1 - (intOf i).toNat)
  case atStart => exact ⟨0, by omega, rfl, hide_ (.inl ⟨rfl, rfl⟩)⟩
  case round =>
    obtain ⟨k, hk, rfl, hrel⟩ := hrel
    rcases hrel.out with ⟨rfl, rfl⟩ | ⟨rfl, hS, hB⟩
    · have hS4 : Seg (wr.alloc (.cells #[.int .u32 a, .slice A' n' c'] 53)) B g d N c xs ex := (HH.out.below HB3.out).below ((Below.refl _ _).alloc (Nat.le_refl _) _)
      have hb4 : Below B W (wr.alloc (.cells #[.int .u32 a, .slice A' n' c'] 53)) := (HB3.out.mono HH.out.base).alloc (Nat.le_trans HH.out.base HB3.out.size) _
      have hw := hide_ (Write_off a A' n' c' Bz ys hS4 a0 a1 (by omega) ((HR.out.below (hb4.mono hBz))) hBz hok)
      have HB4 := hide_ hb4
      clear hS4 hb4 hrel
      go_wp2_with (go_at_call 42; refine hw.out.mono ?_; rintro e w5 ⟨rfl, hS5, hb5⟩)
      go_roundw
      case rel => exact ⟨1, by omega, by go_num, hide_ (.inr ⟨rfl, hS5, HB4.out.trans hb5⟩)⟩
      case measure => simp [intOf]
    · clear r0' r1' p0' p1'
      go_wp2
      go_ret
      exact ⟨rfl, hS, hB⟩
set_option maxRecDepth 100000 in
set_option maxHeartbeats 1000000 in
theorem Apply_big (b q mp p n' c' : Nat) (a : Int) (A' : Option Addr) (h : Seg W B g d N c xs ex) (hb0 : 0 < b) (hb : b ≤ 16) (hNb : N = 2 ^ b) (hq : W.cell? ⟨q, 0, none⟩ = some (.map (some mp))) (hqs : q < W.heap.size) (hp : p < W.heap.size)
    (hp0 : W.cell? ⟨p, 0, none⟩ = some (.int .u32 a)) (hp1 : W.cell? ⟨p, 1, none⟩ = some (.slice A' n' c')) (hn : 256 < n') :
    Calls Try.prog 31 #[.pointer (some ⟨q, 0, none⟩), .pointer (some ⟨g, 0, none⟩), .agg #[.int .u32 0, .slice (some ⟨p, 0, none⟩) 1 1]] W fun e W' => e = .returned (.int .i64 5) ∧ Seg W' B g d N c xs ex ∧ Below B W W' := by
  have hb1 : Below W.heap.size W (W.alloc (.cells #[.int .u32 0, .slice (some ⟨p, 0, none⟩) 1 1] 29)) := (Below.refl _ _).alloc (Nat.le_refl _) _
  have hS1 := h.below hb1
  have hk := Blk.new W 29 #[.int .u32 0, .slice (some ⟨p, 0, none⟩) 1 1]
  have hm := hide_ (gmade_any q mp (W.alloc (.cells #[.int .u32 0, .slice (some ⟨p, 0, none⟩) 1 1] 29)) ((hb1.cell hqs).trans hq))
  have h2 := hide_ (Bits_q b hb hNb hS1)
  have hfn : fitsN 1 (fun _ => (⟨a, A', n', c'⟩ : Wr)) 1 = false := fitsN_no _ _ 0 (by omega) (by show ¬ n' ≤ 256; omega)
  have HFN := hide_ hfn
  have HB1 := hide_ hb1
  have HK := hide_ hk
  have HP := hide_ (show W.cell? ⟨p, 0, none⟩ = some (.int .u32 a) ∧ W.cell? ⟨p, 1, none⟩ = some (.slice A' n' c') from ⟨hp0, hp1⟩)
  have HH := hide_ h
  have dB : ((b : Int) == 0) = false := by rw [beq_eq_false_iff_ne]; omega
  clear hb1 hS1 hk h hp0 hp1 hq hfn hNb
  go_enter Try.func31, Try.ntmps31
  go_wp2_with (go_at_call 72; refine hm.out.mono ?_; rintro e w' ⟨rfl, rfl⟩)
  refine h2.out.mono ?_
  rintro e w2 ⟨rfl, nq2, rfl⟩
  have hb2 : Below W.heap.size W ((W.alloc (.cells #[.int .u32 0, .slice (some ⟨p, 0, none⟩) 1 1] 29)).drewN nq2) := below_draws2 HB1.out nq2
  have hk2 : Blk ((W.alloc (.cells #[.int .u32 0, .slice (some ⟨p, 0, none⟩) 1 1] 29)).drewN nq2) W.heap.size 29 #[.int .u32 0, .slice (some ⟨p, 0, none⟩) 1 1] := HK.out.drewN nq2
  generalize (W.alloc (.cells #[.int .u32 0, .slice (some ⟨p, 0, none⟩) 1 1] 29)).drewN nq2 = w2 at hb2 hk2 ⊢
  have hs2 : W.heap.size < w2.heap.size := hk2.lt
  have hf := gFits_any 0 (some ⟨p, 0, none⟩) 1 1 w2.heap.size (fun _ => (⟨a, A', n', c'⟩ : Wr)) w2 (one_wreads (by omega) ((hb2.cell hp).trans HP.out.1) ((hb2.cell hp).trans HP.out.2)) (Nat.le_refl _) (by unfold maxLen; decide)
  rw [HFN.out] at hf
  have HF := hide_ hf
  have r0 := hk2.cell 0
  have r1 := hk2.cell 1
  have HB2 := hide_ hb2
  clear hf hb2 hk2 h2 hm
  go_wp2_with fail
  refine HF.out.mono ?_
  rintro e w3 ⟨rfl, hb3⟩
  have HB3 := hide_ (show Below W.heap.size W w3 from HB2.out.trans (hb3.mono HB2.out.size))
  clear hb3 r0 r1
  go_wp2_with fail
  go_ret
  exact ⟨rfl, HH.out.below HB3.out, HB3.out.mono HH.out.base⟩
end
end Go.Proofs.Ytgppbdcnpailaaa
