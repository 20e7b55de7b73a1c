/-
  The walks of mem's functions of a segment that is none: nil, or one that nobody made.
-/
import Derived.Test.YtgppbdcnpailaaaClone
namespace Go.Proofs.Ytgppbdcnpailaaa
open Go.RowKit

/-- nil, or a struct whose bytes are none -/
def NotMade (W : World) (P : Option Addr) : Prop := P = none ∨ ∃ g, P = some ⟨g, 0, none⟩ ∧ W.cell? ⟨g, 0, none⟩ = some (.slice none 0 0) ∧ g < W.heap.size
section
variable {W W' : World} {P Q : Option Addr}
theorem NotMade.below (h : NotMade W P) (hb : Below W.heap.size W W') : NotMade W' P := by
  rcases h with rfl | ⟨g, rfl, hc, hg⟩
  · exact .inl rfl
  · exact .inr ⟨g, rfl, (hb.cell hg).trans hc, Nat.lt_of_lt_of_le hg hb.size⟩
theorem NotMade.drewN (h : NotMade W P) (k : Nat) : NotMade (W.drewN k) P := h.below (below_draws2 (Below.refl _ _) k)
theorem made_not (h : NotMade W P) : Calls Try.prog 76 #[.pointer P] W fun e w' => e = .returned (.bool false) ∧ w' = W := by
  rcases h with rfl | ⟨g, rfl, hc, hg⟩
  · exact made_nil W
  · go_enter Try.func76, Try.ntmps76
    go_wp2
    go_ret
    exact ⟨rfl, rfl⟩
theorem store_not (a v : Int) (n : Int) (h : NotMade W P) : Calls Try.prog 77 #[.pointer P, .int .u32 a, .int .u32 v, .int .i64 n] W fun e w' => e = .returned (.tuple #[]) ∧ Below W.heap.size W w' := by
  have hb : Below W.heap.size W (W.alloc (.cells #[.pointer P] 48)) := (Below.refl _ _).alloc (Nat.le_refl _) _
  have hm := hide_ (made_not (h.below hb))
  have HB := hide_ hb
  clear h hb
  go_enter Try.func77, Try.ntmps77
  go_wp2_with (go_at_call 76; refine hm.out.mono ?_; rintro e w' ⟨rfl, rfl⟩)
  refine bodyPost_ret (results_none rfl _ _ _) rfl ?_
  exact ⟨rfl, HB.out⟩
theorem load_not (a : Int) (n : Int) (h : NotMade W P) : Calls Try.prog 78 #[.pointer P, .int .u32 a, .int .i64 n] W fun e w' => e = .returned (.int .u32 0) ∧ Below W.heap.size W w' := by
  have hb : Below W.heap.size W ((W.alloc (.cells #[.pointer P] 48)).alloc (.cells #[.int .u8 0, .int .u8 0, .int .u8 0, .int .u8 0] 155)) := ((Below.refl _ _).alloc (Nat.le_refl _) _).alloc (by simp) _
  have hm := hide_ (made_not (h.below hb))
  have hor : bits .or .u32 0 0 = 0 := by decide
  have HB := hide_ hb
  clear h hb
  go_enter Try.func78, Try.ntmps78
  go_wp2_with (go_at_call 76; refine hm.out.mono ?_; rintro e w' ⟨rfl, rfl⟩)
  go_ret
  exact ⟨by simp, HB.out⟩
theorem Load1_not (a : Int) (h : NotMade W P) : Calls Try.prog 39 #[.pointer P, .int .u32 a] W fun e w' => e = .returned (.int .u32 0) ∧ Below W.heap.size W w' := by
  have hl := hide_ (load_not a 1 h)
  clear h
  go_enter Try.func39, Try.ntmps39
  go_wp2_with (go_at_call 78; refine hl.out.mono ?_; rintro e w' ⟨rfl, hb⟩)
  go_ret
  exact ⟨rfl, hb⟩
theorem Store1_not (a v : Int) (h : NotMade W P) : Calls Try.prog 41 #[.pointer P, .int .u32 a, .int .u32 v] W fun e w' => e = .returned (.tuple #[]) ∧ Below W.heap.size W w' := by
  have hl := hide_ (store_not a v 1 h)
  clear h
  go_enter Try.func41, Try.ntmps41
  go_wp2_with (go_at_call 77; refine hl.out.mono ?_; rintro e w' ⟨rfl, hb⟩)
  go_end0
  exact ⟨rfl, hb⟩
theorem Load2_not (a : Int) (h : NotMade W P) : Calls Try.prog 38 #[.pointer P, .int .u32 a] W fun e w' => e = .returned (.int .u32 0) ∧ Below W.heap.size W w' := by
  have hl := hide_ (load_not a 2 h)
  clear h
  go_enter Try.func38, Try.ntmps38
  go_wp2_with (go_at_call 78; refine hl.out.mono ?_; rintro e w' ⟨rfl, hb⟩)
  go_ret
  exact ⟨rfl, hb⟩
theorem Store2_not (a v : Int) (h : NotMade W P) : Calls Try.prog 40 #[.pointer P, .int .u32 a, .int .u32 v] W fun e w' => e = .returned (.tuple #[]) ∧ Below W.heap.size W w' := by
  have hl := hide_ (store_not a v 2 h)
  clear h
  go_enter Try.func40, Try.ntmps40
  go_wp2_with (go_at_call 77; refine hl.out.mono ?_; rintro e w' ⟨rfl, hb⟩)
  go_end0
  exact ⟨rfl, hb⟩
theorem Load4_not (a : Int) (h : NotMade W P) : Calls Try.prog 37 #[.pointer P, .int .u32 a] W fun e w' => e = .returned (.int .u32 0) ∧ Below W.heap.size W w' := by
  have hl := hide_ (load_not a 4 h)
  clear h
  go_enter Try.func37, Try.ntmps37
  go_wp2_with (go_at_call 78; refine hl.out.mono ?_; rintro e w' ⟨rfl, hb⟩)
  go_ret
  exact ⟨rfl, hb⟩
theorem Store4_not (a v : Int) (h : NotMade W P) : Calls Try.prog 36 #[.pointer P, .int .u32 a, .int .u32 v] W fun e w' => e = .returned (.tuple #[]) ∧ Below W.heap.size W w' := by
  have hl := hide_ (store_not a v 4 h)
  clear h
  go_enter Try.func36, Try.ntmps36
  go_wp2_with (go_at_call 77; refine hl.out.mono ?_; rintro e w' ⟨rfl, hb⟩)
  go_end0
  exact ⟨rfl, hb⟩
theorem Log_not (b : Bool) (h : NotMade W P) : Calls Try.prog 45 #[.pointer P, .bool b] W fun e w' => e = .returned (.tuple #[]) ∧ Below W.heap.size W w' := by
  have hm := hide_ (made_not h)
  clear h
  go_enter Try.func45, Try.ntmps45
  go_wp2_with (go_at_call 76; refine hm.out.mono ?_; rintro e w' ⟨rfl, rfl⟩)
  go_end0
  exact ⟨rfl, Below.refl _ _⟩
theorem Bits_not (h : NotMade W P) : Calls Try.prog 75 #[.pointer P] W fun e w' => e = .returned (.int .i64 0) ∧ Below W.heap.size W w' := by
  have hm := hide_ (fun q : Nat => made_not (h.drewN q))
  clear h
  go_enter Try.func75, Try.ntmps75
  go_wp2
  go_loopw [3] (fun i wr => i = .int .i64 0 ∧ wr = W) (fun i _ => 0)
  case atStart => exact ⟨rfl, rfl⟩
  case round =>
    obtain ⟨rfl, rfl⟩ := hrel
    go_wp2
    go_quiet ((go_at_call 76; exact Calls.quiet_of_same (hm.out _)))
    go_wp2
    go_ret
    exact ⟨rfl, below_draws2 (Below.refl _ _) _⟩
theorem Copy_not (a f n : Int) (h : NotMade W P) : Calls Try.prog 44 #[.pointer P, .int .u32 a, .int .u32 f, .int .u32 n] W fun e w' => e = .returned (.int .i64 1) ∧ Below W.heap.size W w' := by
  have hm := hide_ (made_not h)
  clear h
  go_enter Try.func44, Try.ntmps44
  go_wp2_with (go_at_call 76; refine hm.out.mono ?_; rintro e w' ⟨rfl, rfl⟩)
  go_ret
  exact ⟨rfl, Below.refl _ _⟩
theorem Read_not (a n : Int) (h : NotMade W P) : Calls Try.prog 43 #[.pointer P, .int .u32 a, .int .i64 n] W fun e w' => e = .returned (.tuple #[.slice none 0 0, .int .i64 1]) ∧ Below W.heap.size W w' := by
  have hm := hide_ (made_not h)
  clear h
  go_enter Try.func43, Try.ntmps43
  go_wp2_with (go_at_call 76; refine hm.out.mono ?_; rintro e w' ⟨rfl, rfl⟩)
  go_ret2
  exact ⟨rfl, Below.refl _ _⟩
theorem Write_not (a : Int) (A : Option Addr) (n c : Nat) (h : NotMade W P) : Calls Try.prog 42 #[.pointer P, .int .u32 a, .slice A n c] W fun e w' => e = .returned (.int .i64 1) ∧ Below W.heap.size W w' := by
  have hm := hide_ (made_not h)
  clear h
  go_enter Try.func42, Try.ntmps42
  go_wp2_with (go_at_call 76; refine hm.out.mono ?_; rintro e w' ⟨rfl, rfl⟩)
  go_ret
  exact ⟨rfl, Below.refl _ _⟩
theorem Bytes_not (h : NotMade W P) : Calls Try.prog 33 #[.pointer P] W fun e w' => e = .returned (.slice none 0 0) ∧ Below W.heap.size W w' := by
  have hm := hide_ (made_not h)
  clear h
  go_enter Try.func33, Try.ntmps33
  go_wp2_with (go_at_call 76; refine hm.out.mono ?_; rintro e w' ⟨rfl, rfl⟩)
  go_ret
  exact ⟨rfl, Below.refl _ _⟩
theorem Touched_not (h : NotMade W P) : Calls Try.prog 46 #[.pointer P] W fun e w' => e = .returned (.slice none 0 0) ∧ Below W.heap.size W w' := by
  have hm := hide_ (made_not h)
  clear h
  go_enter Try.func46, Try.ntmps46
  go_wp2_with (go_at_call 76; refine hm.out.mono ?_; rintro e w' ⟨rfl, rfl⟩)
  go_ret
  exact ⟨rfl, Below.refl _ _⟩
theorem Clone_not (h : NotMade W P) : Calls Try.prog 48 #[.pointer P] W fun e w' => e = .returned (.pointer none) ∧ Below W.heap.size W w' := by
  have hm := hide_ (made_not h)
  clear h
  go_enter Try.func48, Try.ntmps48
  go_wp2_with (go_at_call 76; refine hm.out.mono ?_; rintro e w' ⟨rfl, rfl⟩)
  go_ret
  exact ⟨rfl, Below.refl _ _⟩
theorem Same_not (h : NotMade W P) : Calls Try.prog 49 #[.pointer P, .pointer Q] W fun e w' => e = .returned (.bool false) ∧ Below W.heap.size W w' := by
  have hm := hide_ (fun q : Nat => made_not (h.drewN q))
  clear h
  go_enter Try.func49, Try.ntmps49
  go_wp2
  go_quiet ((go_at_call 76; exact Calls.quiet_of_same (hm.out _)))
  go_wp2
  go_ret
  exact ⟨rfl, below_draws2 (Below.refl _ _) _⟩
theorem chain {f : FuncId} {args : Array Value} {E : Ending} {P : Option Addr} {W W1 : World} (h : NotMade W P) (hb : Below W.heap.size W W1) (hc : NotMade W1 P → Calls Try.prog f args W1 fun e w' => e = E ∧ Below W1.heap.size W1 w') :
    Calls Try.prog f args W1 fun e w' => e = E ∧ Below W.heap.size W w' := by
  refine (hc (h.below hb)).mono ?_
  rintro e w' ⟨rfl, hb'⟩
  exact ⟨rfl, hb.trans (hb'.mono hb.size)⟩
set_option maxRecDepth 100000 in
set_option maxHeartbeats 1000000 in
theorem nothing_any (h : NotMade W P) : Calls Try.prog 51 #[.pointer P] W fun e w' => e = .returned (.bool true) ∧ Below W.heap.size W w' := by
  have hb0 := Below.refl W.heap.size W
  have H := hide_ h
  clear h
  go_enter Try.func51, Try.ntmps51
  go_wp2_with (first
    | (go_at_call 41; refine (chain H.out (by assumption) (fun h => Store1_not _ _ h)).mono ?_; rintro e w1 ⟨rfl, hb1⟩)
    | (go_at_call 40; refine (chain H.out (by assumption) (fun h => Store2_not _ _ h)).mono ?_; rintro e w1 ⟨rfl, hb1⟩)
    | (go_at_call 36; refine (chain H.out (by assumption) (fun h => Store4_not _ _ h)).mono ?_; rintro e w1 ⟨rfl, hb1⟩)
    | (go_at_call 45; refine (chain H.out (by assumption) (fun h => Log_not _ h)).mono ?_; rintro e w1 ⟨rfl, hb1⟩)
    | (go_at_call 75; refine (chain H.out (by assumption) (fun h => Bits_not  h)).mono ?_; rintro e w1 ⟨rfl, hb1⟩)
    | (go_at_call 39; refine (chain H.out (by assumption) (fun h => Load1_not _ h)).mono ?_; rintro e w1 ⟨rfl, hb1⟩)
    | (go_at_call 38; refine (chain H.out (by assumption) (fun h => Load2_not _ h)).mono ?_; rintro e w1 ⟨rfl, hb1⟩)
    | (go_at_call 37; refine (chain H.out (by assumption) (fun h => Load4_not _ h)).mono ?_; rintro e w1 ⟨rfl, hb1⟩)
    | (go_at_call 44; refine (chain H.out (by assumption) (fun h => Copy_not _ _ _ h)).mono ?_; rintro e w1 ⟨rfl, hb1⟩)
    | (go_at_call 43; refine (chain H.out (by assumption) (fun h => Read_not _ _ h)).mono ?_; rintro e w1 ⟨rfl, hb1⟩)
    | (go_at_call 42; refine (chain H.out (by assumption) (fun h => Write_not _ _ _ _ h)).mono ?_; rintro e w1 ⟨rfl, hb1⟩)
    | (go_at_call 33; refine (chain H.out (by assumption) (fun h => Bytes_not  h)).mono ?_; rintro e w1 ⟨rfl, hb1⟩)
    | (go_at_call 46; refine (chain H.out (by assumption) (fun h => Touched_not  h)).mono ?_; rintro e w1 ⟨rfl, hb1⟩)
    | (go_at_call 48; refine (chain H.out (by assumption) (fun h => Clone_not  h)).mono ?_; rintro e w1 ⟨rfl, hb1⟩)
    | (go_at_call 49; refine (chain H.out (by assumption) (fun h => Same_not  h)).mono ?_; rintro e w1 ⟨rfl, hb1⟩))
  go_ret
  exact ⟨rfl, by assumption⟩
end
end Go.Proofs.Ytgppbdcnpailaaa
