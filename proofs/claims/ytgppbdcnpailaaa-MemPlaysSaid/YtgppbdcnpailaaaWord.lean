/-
  The walks of mem's load and store, and of Load1, Load2, Load4, Store1, Store2, Store4.
-/
import Derived.Lib.EndianBits
import Derived.Test.YtgppbdcnpailaaaLoad
import Derived.Test.YtgppbdcnpailaaaEach
namespace Go.Proofs.Ytgppbdcnpailaaa
open Go.RowKit

def fourAt (N : Nat) (a : Int) (xs : List Int) (k : Nat) : List Int := (List.range 4).map fun j => if j < k then gt xs (plc N a j) else 0
theorem fourAt_len (N : Nat) (a : Int) (xs : List Int) (k : Nat) : (fourAt N a xs k).length = 4 := by simp [fourAt]
theorem fourAt_set (N : Nat) (a : Int) (xs : List Int) (k : Nat) (hk : k < 4) : (fourAt N a xs k).set k (gt xs (plc N a k)) = fourAt N a xs (k + 1) := by
  match k, hk with
  | 0, _ => rfl
  | 1, _ => rfl
  | 2, _ => rfl
  | 3, _ => rfl
def bytesOk (xs : List Int) : Prop := ∀ x ∈ xs, 0 ≤ x ∧ x < 256
theorem gt_bd {xs : List Int} (h : bytesOk xs) (p : Int) : 0 ≤ gt xs p ∧ gt xs p < 256 := by
  unfold gt
  cases hx : xs[p.toNat]? with
  | none => simp
  | some x => exact h x (List.mem_of_getElem? hx)
/-- the word of n bytes from an address on -/
def wordAt (N : Nat) (a : Int) (xs : List Int) (n : Nat) : Int :=
  (if 0 < n then gt xs (plc N a 0) else 0) + 256 * (if 1 < n then gt xs (plc N a 1) else 0) + 65536 * (if 2 < n then gt xs (plc N a 2) else 0) + 16777216 * (if 3 < n then gt xs (plc N a 3) else 0)
theorem or4 {z0 z1 z2 z3 : Int} (b0 : 0 ≤ z0 ∧ z0 < 256) (b1 : 0 ≤ z1 ∧ z1 < 256) (b2 : 0 ≤ z2 ∧ z2 < 256) (b3 : 0 ≤ z3 ∧ z3 < 256) :
    z0 + 256 * z1 + 65536 * z2 + 16777216 * z3 = bits .or .u32 (bits .or .u32 (bits .or .u32 z0 (z1 * 256)) (z2 * 65536)) (z3 * 16777216) := by
  rw [u32_or8 z0 (z1 * 256) b0.1 b0.2 (by omega) (by omega) (by omega), u32_or16 (z0 + z1 * 256) (z2 * 65536) (by omega) (by omega) (by omega) (by omega) (by omega), u32_or24 (z0 + z1 * 256 + z2 * 65536) (z3 * 16777216) (by omega) (by omega) (by omega) (by omega) (by omega)]
  omega
theorem box_perm (a b : Ro) (l ex : List Ro) : ((l ++ ex) ++ [a] ++ [b]).Perm (l ++ ([a, b] ++ ex)) := by
  rw [List.append_assoc, List.append_assoc]
  exact (List.perm_append_left_iff l).2 (List.perm_append_comm)
theorem box_sub (a b : Ro) (l ex : List Ro) : (l ++ ex).Sublist (l ++ ([a, b] ++ ex)) := (List.Sublist.refl l).append (List.sublist_append_right _ _)
section
variable {W : World} {B g d N c : Nat} {logs : Bool} {tv : Value} {ts : List (Int × Bool)} {xs : List Int} {ex : List Ro}
set_option maxRecDepth 100000 in
set_option maxHeartbeats 1000000 in
theorem load_any (a : Int) (n : Nat) (hO : Owns W B (memRows g d N c logs tv ts xs ++ ex)) (hB : B ≤ W.heap.size) (hN : IsPow N) (hx : xs.length = N) (hxs : bytesOk xs) (hn : n ≤ 4) :
    Calls Try.prog 78 #[.pointer (some ⟨g, 0, none⟩), .int .u32 a, .int .i64 n] W fun e W' => e = .returned (.int .u32 (wordAt N a xs n)) ∧
      ∃ tv', Owns W' B (memRows g d N c logs tv' (notes N logs false a ts n) xs ++ ex) ∧ Below B W W' := by
  have h1 := (hO.box 48 #[.pointer (some ⟨g, 0, none⟩)] hB (show 1 ≤ maxLen by unfold maxLen; decide)).box 155 #[.int .u8 0, .int .u8 0, .int .u8 0, .int .u8 0] (by simp; omega) (show 4 ≤ maxLen by unfold maxLen; decide)
  have h2 : Owns ((W.alloc (.cells #[.pointer (some ⟨g, 0, none⟩)] 48)).alloc (.cells #[.int .u8 0, .int .u8 0, .int .u8 0, .int .u8 0] 155)) B (memRows g d N c logs tv ts xs ++ ([mboxR W.heap.size g, fourR (W.heap.size + 1) (fourAt N a xs 0)] ++ ex)) := by
    refine h1.swap ?_
    simp only [World.size_alloc]
    exact box_perm _ _ _ _
  have hb2 : Below B W ((W.alloc (.cells #[.pointer (some ⟨g, 0, none⟩)] 48)).alloc (.cells #[.int .u8 0, .int .u8 0, .int .u8 0, .int .u8 0] 155)) := ((Below.refl _ _).alloc hB _).alloc (by simp; omega) _
  have hEach := each_load g d N c n W.heap.size (W.heap.size + 1) logs false a (fun _ => xs) (fun k => [mboxR W.heap.size g, fourR (W.heap.size + 1) (fourAt N a xs k)] ++ ex) ts tv B _ h2 (by simp; omega) hN (by omega)
    (fun k hk W1 tv ts hO1 _ => by
      have := load1_any k (plc N a k) hO1 (by omega) (fourAt_len _ _ _ _) hx (plc_bd hN a k).1 (plc_bd hN a k).2
      rw [fourAt_set _ _ _ _ (by omega)] at this
      exact this)
  have hm := made_any g d N c ((W.alloc (.cells #[.pointer (some ⟨g, 0, none⟩)] 48)).alloc (.cells #[.int .u8 0, .int .u8 0, .int .u8 0, .int .u8 0] 155)) (h2.cell (i := 0) rfl rfl) hN.bd.1
  have HE := hide_ hEach
  have HM := hide_ hm
  have HB2 := hide_ hb2
  clear hEach hm h1 h2 hb2 hO
  go_enter Try.func78, Try.ntmps78
  go_wp2_with (first
    | (go_at_call 76; refine (HM.out).mono ?_; rintro e w' ⟨rfl, rfl⟩)
    | (go_at_call 110; refine (HE.out).mono ?_))
  rintro e W3 ⟨rfl, tv3, hO3, hb3⟩
  have y0 : W3.cell? ⟨W.heap.size + 1, 0, none⟩ = some (.int .u8 (if 0 < n then gt xs (plc N a 0) else 0)) := hO3.cell (i := 4) rfl rfl
  have y1 : W3.cell? ⟨W.heap.size + 1, 1, none⟩ = some (.int .u8 (if 1 < n then gt xs (plc N a 1) else 0)) := hO3.cell (i := 4) rfl rfl
  have y2 : W3.cell? ⟨W.heap.size + 1, 2, none⟩ = some (.int .u8 (if 2 < n then gt xs (plc N a 2) else 0)) := hO3.cell (i := 4) rfl rfl
  have y3 : W3.cell? ⟨W.heap.size + 1, 3, none⟩ = some (.int .u8 (if 3 < n then gt xs (plc N a 3) else 0)) := hO3.cell (i := 4) rfl rfl
  have bd0 : ∀ (q : Prop) [Decidable q] (p : Int), 0 ≤ (if q then gt xs p else 0) ∧ (if q then gt xs p else 0) < 256 := fun q _ p => by
    by_cases h : q
    · rw [if_pos h]; exact gt_bd hxs p
    · rw [if_neg h]; omega
  obtain ⟨z0, hz0⟩ : ∃ z, z = (if 0 < n then gt xs (plc N a 0) else 0) := ⟨_, rfl⟩
  obtain ⟨z1, hz1⟩ : ∃ z, z = (if 1 < n then gt xs (plc N a 1) else 0) := ⟨_, rfl⟩
  obtain ⟨z2, hz2⟩ : ∃ z, z = (if 2 < n then gt xs (plc N a 2) else 0) := ⟨_, rfl⟩
  obtain ⟨z3, hz3⟩ : ∃ z, z = (if 3 < n then gt xs (plc N a 3) else 0) := ⟨_, rfl⟩
  have HWD := hide_ (show wordAt N a xs n = z0 + 256 * z1 + 65536 * z2 + 16777216 * z3 by rw [hz0, hz1, hz2, hz3]; rfl)
  have b0 : 0 ≤ z0 ∧ z0 < 256 := hz0 ▸ bd0 _ _
  have b1 : 0 ≤ z1 ∧ z1 < 256 := hz1 ▸ bd0 _ _
  have b2 : 0 ≤ z2 ∧ z2 < 256 := hz2 ▸ bd0 _ _
  have b3 : 0 ≤ z3 ∧ z3 < 256 := hz3 ▸ bd0 _ _
  rw [← hz0] at y0
  rw [← hz1] at y1
  rw [← hz2] at y2
  rw [← hz3] at y3
  have HO3 := hide_ hO3
  have HB3 := hide_ (HB2.out.trans hb3)
  clear hz0 hz1 hz2 hz3 bd0 hO3 hb3
  go_wp2
  go_ret
  refine ⟨?_, tv3, HO3.out.sub (box_sub _ _ _ _), HB3.out⟩
  rw [HWD.out, or4 b0 b1 b2 b3]
  rfl
/-- bytes laid down from an address on, the first n of them -/
def puts (N : Nat) (a : Int) (ys xs : List Int) : Nat → List Int
  | 0 => xs
  | k + 1 => (puts N a ys xs k).set (plc N a k).toNat (ys[k]?.getD 0)
theorem puts_len (N : Nat) (a : Int) (ys xs : List Int) (k : Nat) : (puts N a ys xs k).length = xs.length := by
  induction k with
  | zero => rfl
  | succ k ih => rw [puts, List.length_set, ih]
def bytes4 (v : Int) : List Int := [v % 256, v / 256 % 256, v / 65536 % 256, v / 16777216]
set_option maxRecDepth 100000 in
set_option maxHeartbeats 1000000 in
theorem store_any (a v : Int) (n : Nat) (hO : Owns W B (memRows g d N c logs tv ts xs ++ ex)) (hB : B ≤ W.heap.size) (hN : IsPow N) (hx : xs.length = N) (hn : n ≤ 4) (hv0 : 0 ≤ v) (hv1 : v < 4294967296) :
    Calls Try.prog 77 #[.pointer (some ⟨g, 0, none⟩), .int .u32 a, .int .u32 v, .int .i64 n] W fun e W' => e = .returned (.tuple #[]) ∧
      ∃ tv', Owns W' B (memRows g d N c logs tv' (notes N logs true a ts n) (puts N a (bytes4 v) xs n) ++ ex) ∧ Below B W W' := by
  have h1 := (hO.box 48 #[.pointer (some ⟨g, 0, none⟩)] hB (show 1 ≤ maxLen by unfold maxLen; decide)).box 155 #[.int .u8 (v % 256), .int .u8 (v / 256 % 256), .int .u8 (v / 65536 % 256), .int .u8 (v / 16777216)] (by simp; omega) (show 4 ≤ maxLen by unfold maxLen; decide)
  have h2 : Owns ((W.alloc (.cells #[.pointer (some ⟨g, 0, none⟩)] 48)).alloc (.cells #[.int .u8 (v % 256), .int .u8 (v / 256 % 256), .int .u8 (v / 65536 % 256), .int .u8 (v / 16777216)] 155)) B (memRows g d N c logs tv ts xs ++ ([mboxR W.heap.size g, fourR (W.heap.size + 1) (bytes4 v)] ++ ex)) := by
    refine h1.swap ?_
    simp only [World.size_alloc]
    exact box_perm _ _ _ _
  have hb2 : Below B W ((W.alloc (.cells #[.pointer (some ⟨g, 0, none⟩)] 48)).alloc (.cells #[.int .u8 (v % 256), .int .u8 (v / 256 % 256), .int .u8 (v / 65536 % 256), .int .u8 (v / 16777216)] 155)) := ((Below.refl _ _).alloc hB _).alloc (by simp; omega) _
  have hEach := each_store g d N c n (W.heap.size + 1) W.heap.size logs true a (fun k => puts N a (bytes4 v) xs k) (fun _ => [mboxR W.heap.size g, fourR (W.heap.size + 1) (bytes4 v)] ++ ex) ts tv B _ h2 (by simp; omega) hN (by omega)
    (fun k hk W1 tv ts hO1 _ => store1_any k (plc N a k) hO1 (by omega) rfl (by rw [puts_len, hx]) (plc_bd hN a k).1 (plc_bd hN a k).2)
  have h0b := (hO.box 48 #[.pointer (some ⟨g, 0, none⟩)] hB (show 1 ≤ maxLen by unfold maxLen; decide))
  have hm := made_any g d N c (W.alloc (.cells #[.pointer (some ⟨g, 0, none⟩)] 48)) (h0b.cell (i := 0) rfl rfl) hN.bd.1
  have HE := hide_ hEach
  have HM := hide_ hm
  have HB2 := hide_ hb2
  clear hEach hm h1 h2 hb2 hO h0b
  go_enter Try.func77, Try.ntmps77
  go_wp2_with (first
    | (go_at_call 76; refine (HM.out).mono ?_; rintro e w' ⟨rfl, rfl⟩)
    | (go_at_call 110; refine (HE.out).mono ?_))
  rintro e W3 ⟨rfl, tv3, hO3, hb3⟩
  have HO3 := hide_ hO3
  have HB3 := hide_ (HB2.out.trans hb3)
  go_wp2
  go_end0
  exact ⟨rfl, tv3, HO3.out.sub (box_sub _ _ _ _), HB3.out⟩
theorem Load1_any (a : Int) (hO : Owns W B (memRows g d N c logs tv ts xs ++ ex)) (hB : B ≤ W.heap.size) (hN : IsPow N) (hx : xs.length = N) (hxs : bytesOk xs) :
    Calls Try.prog 39 #[.pointer (some ⟨g, 0, none⟩), .int .u32 a] W fun e W' => e = .returned (.int .u32 (wordAt N a xs 1)) ∧
      ∃ tv', Owns W' B (memRows g d N c logs tv' (notes N logs false a ts 1) xs ++ ex) ∧ Below B W W' := by
  have hl := hide_ (load_any a 1 hO hB hN hx hxs (by omega))
  clear hO
  go_enter Try.func39, Try.ntmps39
  go_wp2_with (go_at_call 78; refine hl.out.mono ?_)
  rintro e W' ⟨rfl, h⟩
  go_wp2
  go_ret
  exact ⟨rfl, h⟩
theorem Store1_any (a v : Int) (hO : Owns W B (memRows g d N c logs tv ts xs ++ ex)) (hB : B ≤ W.heap.size) (hN : IsPow N) (hx : xs.length = N) (hv0 : 0 ≤ v) (hv1 : v < 4294967296) :
    Calls Try.prog 41 #[.pointer (some ⟨g, 0, none⟩), .int .u32 a, .int .u32 v] W fun e W' => e = .returned (.tuple #[]) ∧
      ∃ tv', Owns W' B (memRows g d N c logs tv' (notes N logs true a ts 1) (puts N a (bytes4 v) xs 1) ++ ex) ∧ Below B W W' := by
  have hl := hide_ (store_any a v 1 hO hB hN hx (by omega) hv0 hv1)
  clear hO
  go_enter Try.func41, Try.ntmps41
  go_wp2_with (go_at_call 77; refine hl.out.mono ?_)
  rintro e W' ⟨rfl, h⟩
  go_wp2
  go_end0
  exact ⟨rfl, h⟩
theorem Load2_any (a : Int) (hO : Owns W B (memRows g d N c logs tv ts xs ++ ex)) (hB : B ≤ W.heap.size) (hN : IsPow N) (hx : xs.length = N) (hxs : bytesOk xs) :
    Calls Try.prog 38 #[.pointer (some ⟨g, 0, none⟩), .int .u32 a] W fun e W' => e = .returned (.int .u32 (wordAt N a xs 2)) ∧
      ∃ tv', Owns W' B (memRows g d N c logs tv' (notes N logs false a ts 2) xs ++ ex) ∧ Below B W W' := by
  have hl := hide_ (load_any a 2 hO hB hN hx hxs (by omega))
  clear hO
  go_enter Try.func38, Try.ntmps38
  go_wp2_with (go_at_call 78; refine hl.out.mono ?_)
  rintro e W' ⟨rfl, h⟩
  go_wp2
  go_ret
  exact ⟨rfl, h⟩
theorem Store2_any (a v : Int) (hO : Owns W B (memRows g d N c logs tv ts xs ++ ex)) (hB : B ≤ W.heap.size) (hN : IsPow N) (hx : xs.length = N) (hv0 : 0 ≤ v) (hv1 : v < 4294967296) :
    Calls Try.prog 40 #[.pointer (some ⟨g, 0, none⟩), .int .u32 a, .int .u32 v] W fun e W' => e = .returned (.tuple #[]) ∧
      ∃ tv', Owns W' B (memRows g d N c logs tv' (notes N logs true a ts 2) (puts N a (bytes4 v) xs 2) ++ ex) ∧ Below B W W' := by
  have hl := hide_ (store_any a v 2 hO hB hN hx (by omega) hv0 hv1)
  clear hO
  go_enter Try.func40, Try.ntmps40
  go_wp2_with (go_at_call 77; refine hl.out.mono ?_)
  rintro e W' ⟨rfl, h⟩
  go_wp2
  go_end0
  exact ⟨rfl, h⟩
theorem Load4_any (a : Int) (hO : Owns W B (memRows g d N c logs tv ts xs ++ ex)) (hB : B ≤ W.heap.size) (hN : IsPow N) (hx : xs.length = N) (hxs : bytesOk xs) :
    Calls Try.prog 37 #[.pointer (some ⟨g, 0, none⟩), .int .u32 a] W fun e W' => e = .returned (.int .u32 (wordAt N a xs 4)) ∧
      ∃ tv', Owns W' B (memRows g d N c logs tv' (notes N logs false a ts 4) xs ++ ex) ∧ Below B W W' := by
  have hl := hide_ (load_any a 4 hO hB hN hx hxs (by omega))
  clear hO
  go_enter Try.func37, Try.ntmps37
  go_wp2_with (go_at_call 78; refine hl.out.mono ?_)
  rintro e W' ⟨rfl, h⟩
  go_wp2
  go_ret
  exact ⟨rfl, h⟩
theorem Store4_any (a v : Int) (hO : Owns W B (memRows g d N c logs tv ts xs ++ ex)) (hB : B ≤ W.heap.size) (hN : IsPow N) (hx : xs.length = N) (hv0 : 0 ≤ v) (hv1 : v < 4294967296) :
    Calls Try.prog 36 #[.pointer (some ⟨g, 0, none⟩), .int .u32 a, .int .u32 v] W fun e W' => e = .returned (.tuple #[]) ∧
      ∃ tv', Owns W' B (memRows g d N c logs tv' (notes N logs true a ts 4) (puts N a (bytes4 v) xs 4) ++ ex) ∧ Below B W W' := by
  have hl := hide_ (store_any a v 4 hO hB hN hx (by omega) hv0 hv1)
  clear hO
  go_enter Try.func36, Try.ntmps36
  go_wp2_with (go_at_call 77; refine hl.out.mono ?_)
  rintro e W' ⟨rfl, h⟩
  go_wp2
  go_end0
  exact ⟨rfl, h⟩
end
end Go.Proofs.Ytgppbdcnpailaaa
