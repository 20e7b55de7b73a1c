/-
  The walks of mem's load and store, and of Load1, Load2, Load4, Store1, Store2, Store4.
-/
import Derived.Lib.EndianBits
import Derived.Test.YtcfpclhoockcfaaM07
import Derived.Lib.SliceRun
import Derived.Test.YtcfpclhoockcfaaM04
namespace Go.Proofs.Ytcfpclhoockcfaa
open Go.RowKit

def fourAt (N : Nat) (a : Int) (xs : List Int) (k : Nat) : List Int := (List.range 4).map fun j => if j < k then gt xs (plc N a j) else 0
theorem fourAt_len (N : Nat) (a : Int) (xs : List Int) (k : Nat) : (fourAt N a xs k).length = 4 := by simp [fourAt]
theorem fourAt_set (N : Nat) (a : Int) (xs : List Int) (k : Nat) (hk : k < 4) : (fourAt N a xs k).set k (gt xs (plc N a k)) = fourAt N a xs (k + 1) := by
  match k, hk with
  | 0, _ => rfl
  | 1, _ => rfl
  | 2, _ => rfl
  | 3, _ => rfl
def bytesOk (xs : List Int) : Prop := ∀ x ∈ xs, 0 ≤ x ∧ x < 256
theorem gt_bd {xs : List Int} (h : bytesOk xs) (p : Int) : 0 ≤ gt xs p ∧ gt xs p < 256 := by
  unfold gt
  cases hx : xs[p.toNat]? with
  | none => simp
  | some x => exact h x (List.mem_of_getElem? hx)
/-- the word of n bytes from an address on -/
def wordAt (N : Nat) (a : Int) (xs : List Int) (n : Nat) : Int :=
  (if 0 < n then gt xs (plc N a 0) else 0) + 256 * (if 1 < n then gt xs (plc N a 1) else 0) + 65536 * (if 2 < n then gt xs (plc N a 2) else 0) + 16777216 * (if 3 < n then gt xs (plc N a 3) else 0)
theorem or4 {z0 z1 z2 z3 : Int} (b0 : 0 ≤ z0 ∧ z0 < 256) (b1 : 0 ≤ z1 ∧ z1 < 256) (b2 : 0 ≤ z2 ∧ z2 < 256) (b3 : 0 ≤ z3 ∧ z3 < 256) :
    z0 + 256 * z1 + 65536 * z2 + 16777216 * z3 = bits .or .u32 (bits .or .u32 (bits .or .u32 z0 (z1 * 256)) (z2 * 65536)) (z3 * 16777216) := by
  rw [u32_or8 z0 (z1 * 256) b0.1 b0.2 (by omega) (by omega) (by omega), u32_or16 (z0 + z1 * 256) (z2 * 65536) (by omega) (by omega) (by omega) (by omega) (by omega), u32_or24 (z0 + z1 * 256 + z2 * 65536) (z3 * 16777216) (by omega) (by omega) (by omega) (by omega) (by omega)]
  omega
theorem box_perm (a b : Ro) (l ex : List Ro) : ((l ++ ex) ++ [a] ++ [b]).Perm (l ++ ([a, b] ++ ex)) := by
  rw [List.append_assoc, List.append_assoc]
  exact (List.perm_append_left_iff l).2 (List.perm_append_comm)
theorem box_sub (a b : Ro) (l ex : List Ro) : (l ++ ex).Sublist (l ++ ([a, b] ++ ex)) := (List.Sublist.refl l).append (List.sublist_append_right _ _)
section
variable {W : World} {B g d N c : Nat} {logs : Bool} {tv : Value} {ts : List (Int × Bool)} {xs : List Int} {ex : List Ro}
set_option maxRecDepth 100000 in
set_option maxHeartbeats 1000000 in
theorem load_any (a : Int) (n : Nat) (hO : Owns W B (memRows g d N c logs tv ts xs ++ ex)) (hB : B ≤ W.heap.size) (hN : IsPow N) (hx : xs.length = N) (hxs : bytesOk xs) (hn : n ≤ 4) :
    Calls Try.prog 63 #[.pointer (some ⟨g, 0, none⟩), .int .u32 a, .int .i64 n] W fun e W' => e = .returned (.int .u32 (wordAt N a xs n)) ∧
      ∃ tv', Owns W' B (memRows g d N c logs tv' (notes N logs false a ts n) xs ++ ex) ∧ Below B W W' := by
  have h1 := (hO.box 28 #[.pointer (some ⟨g, 0, none⟩)] hB (show 1 ≤ maxLen by unfold maxLen; decide)).box 125 #[.int .u8 0, .int .u8 0, .int .u8 0, .int .u8 0] (by simp; omega) (show 4 ≤ maxLen by unfold maxLen; decide)
  have h2 : Owns ((W.alloc (.cells #[.pointer (some ⟨g, 0, none⟩)] 28)).alloc (.cells #[.int .u8 0, .int .u8 0, .int .u8 0, .int .u8 0] 125)) B (memRows g d N c logs tv ts xs ++ ([mboxR W.heap.size g, fourR (W.heap.size + 1) (fourAt N a xs 0)] ++ ex)) := by
    refine h1.swap ?_
    simp only [World.size_alloc]
    exact box_perm _ _ _ _
  have hb2 : Below B W ((W.alloc (.cells #[.pointer (some ⟨g, 0, none⟩)] 28)).alloc (.cells #[.int .u8 0, .int .u8 0, .int .u8 0, .int .u8 0] 125)) := ((Below.refl _ _).alloc hB _).alloc (by simp; omega) _
  have hEach := each_load g d N c n W.heap.size (W.heap.size + 1) logs false a (fun _ => xs) (fun k => [mboxR W.heap.size g, fourR (W.heap.size + 1) (fourAt N a xs k)] ++ ex) ts tv B _ h2 (by simp; omega) hN (by omega)
    (fun k hk W1 tv ts hO1 _ => by
      have := load1_any k (plc N a k) hO1 (by omega) (fourAt_len _ _ _ _) hx (plc_bd hN a k).1 (plc_bd hN a k).2
      rw [fourAt_set _ _ _ _ (by omega)] at this
      exact this)
  have hm := made_any g d N c ((W.alloc (.cells #[.pointer (some ⟨g, 0, none⟩)] 28)).alloc (.cells #[.int .u8 0, .int .u8 0, .int .u8 0, .int .u8 0] 125)) (h2.cell (i := 0) rfl rfl) hN.bd.1
  have HE := hide_ hEach
  have HM := hide_ hm
  have HB2 := hide_ hb2
  clear hEach hm h1 h2 hb2 hO
  go_enter Try.func63, Try.ntmps63
  go_wp2_with (first
    | (go_at_call 59; refine (HM.out).mono ?_; rintro e w' ⟨rfl, rfl⟩)
    | (go_at_call 77; refine (HE.out).mono ?_))
  rintro e W3 ⟨rfl, tv3, hO3, hb3⟩
  have y0 : W3.cell? ⟨W.heap.size + 1, 0, none⟩ = some (.int .u8 (if 0 < n then gt xs (plc N a 0) else 0)) := hO3.cell (i := 4) rfl rfl
  have y1 : W3.cell? ⟨W.heap.size + 1, 1, none⟩ = some (.int .u8 (if 1 < n then gt xs (plc N a 1) else 0)) := hO3.cell (i := 4) rfl rfl
  have y2 : W3.cell? ⟨W.heap.size + 1, 2, none⟩ = some (.int .u8 (if 2 < n then gt xs (plc N a 2) else 0)) := hO3.cell (i := 4) rfl rfl
  have y3 : W3.cell? ⟨W.heap.size + 1, 3, none⟩ = some (.int .u8 (if 3 < n then gt xs (plc N a 3) else 0)) := hO3.cell (i := 4) rfl rfl
  have bd0 : ∀ (q : Prop) [Decidable q] (p : Int), 0 ≤ (if q then gt xs p else 0) ∧ (if q then gt xs p else 0) < 256 := fun q _ p => by
    by_cases h : q
    · rw [if_pos h]; exact gt_bd hxs p
    · rw [if_neg h]; omega
  obtain ⟨z0, hz0⟩ : ∃ z, z = (if 0 < n then gt xs (plc N a 0) else 0) := ⟨_, rfl⟩
  obtain ⟨z1, hz1⟩ : ∃ z, z = (if 1 < n then gt xs (plc N a 1) else 0) := ⟨_, rfl⟩
  obtain ⟨z2, hz2⟩ : ∃ z, z = (if 2 < n then gt xs (plc N a 2) else 0) := ⟨_, rfl⟩
  obtain ⟨z3, hz3⟩ : ∃ z, z = (if 3 < n then gt xs (plc N a 3) else 0) := ⟨_, rfl⟩
  have HWD := hide_ (show wordAt N a xs n = z0 + 256 * z1 + 65536 * z2 + 16777216 * z3 by rw [hz0, hz1, hz2, hz3]; rfl)
  have b0 : 0 ≤ z0 ∧ z0 < 256 := hz0 ▸ bd0 _ _
  have b1 : 0 ≤ z1 ∧ z1 < 256 := hz1 ▸ bd0 _ _
  have b2 : 0 ≤ z2 ∧ z2 < 256 := hz2 ▸ bd0 _ _
  have b3 : 0 ≤ z3 ∧ z3 < 256 := hz3 ▸ bd0 _ _
  rw [← hz0] at y0
  rw [← hz1] at y1
  rw [← hz2] at y2
  rw [← hz3] at y3
  have HO3 := hide_ hO3
  have HB3 := hide_ (HB2.out.trans hb3)
  clear hz0 hz1 hz2 hz3 bd0 hO3 hb3
  go_wp2
  go_ret
  refine ⟨?_, tv3, HO3.out.sub (box_sub _ _ _ _), HB3.out⟩
  rw [HWD.out, or4 b0 b1 b2 b3]
  rfl
/-- bytes laid down from an address on, the first n of them -/
def puts (N : Nat) (a : Int) (ys xs : List Int) : Nat → List Int
  | 0 => xs
  | k + 1 => (puts N a ys xs k).set (plc N a k).toNat (ys[k]?.getD 0)
theorem puts_len (N : Nat) (a : Int) (ys xs : List Int) (k : Nat) : (puts N a ys xs k).length = xs.length := by
  induction k with
  | zero => rfl
  | succ k ih => rw [puts, List.length_set, ih]
def bytes4 (v : Int) : List Int := [v % 256, v / 256 % 256, v / 65536 % 256, v / 16777216]
theorem Load4_any (a : Int) (hO : Owns W B (memRows g d N c logs tv ts xs ++ ex)) (hB : B ≤ W.heap.size) (hN : IsPow N) (hx : xs.length = N) (hxs : bytesOk xs) :
    Calls Try.prog 51 #[.pointer (some ⟨g, 0, none⟩), .int .u32 a] W fun e W' => e = .returned (.int .u32 (wordAt N a xs 4)) ∧
      ∃ tv', Owns W' B (memRows g d N c logs tv' (notes N logs false a ts 4) xs ++ ex) ∧ Below B W W' := by
  have hl := hide_ (load_any a 4 hO hB hN hx hxs (by omega))
  clear hO
  go_enter Try.func51, Try.ntmps51
  go_wp2_with (go_at_call 63; refine hl.out.mono ?_)
  rintro e W' ⟨rfl, h⟩
  go_wp2
  go_ret
  exact ⟨rfl, h⟩
end
end Go.Proofs.Ytcfpclhoockcfaa
/-
  The walks of mem.New, mem.From, (*mem.Memory).Bytes, Bits, Clone.
-/
namespace Go.Proofs.Ytcfpclhoockcfaa
set_option maxRecDepth 100000
open Go.RowKit

theorem seg_perm (a b c : Ro) (ex : List Ro) : (ex ++ [b] ++ [a] ++ [c]).Perm ([a, b, c] ++ ex) := by
  rw [List.append_assoc, List.append_assoc]
  exact List.perm_append_comm.trans (List.Perm.append_right _ (List.Perm.swap _ _ _))
theorem seg_rows {W W1 : World} {B d N c : Nat} {xs : List Int} {ex : List Ro} (hO : Owns W B ex) (hB : B ≤ W.heap.size) (hown : W1.ownsRow W.heap.size 5 1 (.slice (some ⟨d, 0, none⟩) N c) N (u8s xs)) (hb : Below W.heap.size W W1) :
    Owns (W1.alloc (.cells #[.slice (some ⟨d, 0, none⟩) N c, .bool false, .slice none 0 0] 59)) B (memRows W1.heap.size d N c false (.slice none 0 0) [] xs ++ ex) ∧
      Below W.heap.size W (W1.alloc (.cells #[.slice (some ⟨d, 0, none⟩) N c, .bool false, .slice none 0 0] 59)) := by
  have h1 := hO.push hb (r := ⟨5, 1, .slice (some ⟨d, 0, none⟩) N c, N, u8s xs⟩) hown hB
  have h2 := h1.box 59 #[.slice (some ⟨d, 0, none⟩) N c, .bool false, .slice none 0 0] (Nat.le_trans hB hb.size) (show 3 ≤ maxLen by unfold maxLen; decide)
  exact ⟨(h2.nilrow 136 2).swap (seg_perm _ _ _ _), hb.alloc hb.size _⟩
/-- a clone of bytes: memory of its own -/
theorem bytesClone_any (A : Option Addr) (n c : Nat) (xs : List Int) (W : World) (hr : Reads W W.heap.size 1 A n (u8s xs)) (hn : n ≤ 140737488351232) (hA : A = none → n = 0) :
    Calls Try.prog 15 #[.slice A n c] W fun e W' => ∃ v, e = .returned v ∧ W'.ownsRow W.heap.size 5 1 v n (u8s xs) ∧ Below W.heap.size W W' := by
  obtain ⟨i0, hi0, hz0, hz1, hz2⟩ := info_parts Try.info_u8
  have qT : ∀ (w : World) (a : Option Addr) (n c n' c' : Nat), (binOp .eql 23 (.slice a n c) (.slice none n' c')).run Try.prog w = .ok (.bool a.isNone) w := fun w a n c n' c' => Lib.run_eql_slice_nil w _ _ a n c n' c' Try.underlying23
  cases A with
  | none =>
    obtain rfl := hA rfl
    have hx : xs = [] := List.eq_nil_of_length_eq_zero (by simpa using hr.1)
    subst hx
    go_enter Try.func15, Try.ntmps15
    go_wp2
    go_ret
    exact ⟨_, rfl, World.ownsRow_nil _ _ _ _, Below.refl _ _⟩
  | some ad =>
    have h1 := (Owns.nil_ (w := W) (B := W.heap.size)).box 5 #[] (Nat.le_refl _) (show 0 ≤ maxLen by unfold maxLen; decide)
    have HO1 := hide_ h1
    have HR := hide_ (hr.alloc (Nat.le_refl _) (.cells #[] 5))
    have one : ∀ u ∈ u8s xs, u.oneCell' = true := by
      intro u hu
      obtain ⟨x, _, rfl⟩ := List.mem_map.1 hu
      rfl
    have HONE := hide_ one
    clear one h1 hr
    go_enter Try.func15, Try.ntmps15
    go_wp2_with (at_builtin; refine wpList_append_owns _ rfl (.tmp 5) (.tmp 6) 23 rfl W.heap.size _ 0 5 1 (.slice (some ⟨W.heap.size, 0, none⟩) 0 0) 0 [] rfl HO1.out (by simp) i0 _ 1 Try.underlying23 hi0 hz0 hz1 hz2 rfl (by omega) rfl W.heap.size (some ad) n c (u8s xs) rfl HR.out HONE.out (by simp only [maxLen]; omega) (by omega) ?_)
    intro v w2 hO2 hb2 hsz2
    have hown := hO2.at_ (i := 0) rfl
    have HB2 := hide_ (((Below.refl W.heap.size W).alloc (Nat.le_refl _) (.cells #[] 5)).trans hb2)
    clear hb2 hO2
    go_wp2
    go_ret
    refine ⟨_, rfl, ?_, HB2.out⟩
    simpa using hown
section
variable {W : World} {B g d N c : Nat} {logs : Bool} {tv : Value} {ts : List (Int × Bool)} {xs : List Int} {ex : List Ro}
theorem Bytes_any (hO : Owns W B (memRows g d N c logs tv ts xs ++ ex)) (hN : IsPow N) :
    Calls Try.prog 44 #[.pointer (some ⟨g, 0, none⟩)] W fun e W' => ∃ o co, e = .returned (.slice (some ⟨o, 0, none⟩) N co) ∧ W'.ownsRow W.heap.size 5 1 (.slice (some ⟨o, 0, none⟩) N co) N (u8s xs) ∧ Below W.heap.size W W' := by
  have c0 : W.cell? ⟨g, 0, none⟩ = some (.slice (some ⟨d, 0, none⟩) N c) := hO.cell (i := 0) rfl rfl
  have hr : Reads W W.heap.size 1 (some ⟨d, 0, none⟩) N (u8s xs) := Reads.of_own (hO.at_ (i := 1) rfl)
  have hm := hide_ (made_any g d N c W c0 hN.bd.1)
  have hc := hide_ (bytesClone_any (some ⟨d, 0, none⟩) N c xs W hr (by have := hN.bd; omega) (fun h => by cases h))
  have HN := hide_ hN.bd
  clear hO hr hN
  go_enter Try.func44, Try.ntmps44
  go_wp2_with (first
    | (go_at_call 59; refine hm.out.mono ?_; rintro e w' ⟨rfl, rfl⟩)
    | (go_at_call 15; refine hc.out.mono ?_))
  rintro e W' ⟨v, rfl, hown, hb⟩
  obtain ⟨o, co, rfl⟩ := ownsRow_some hown HN.out.1
  go_wp2
  go_ret
  exact ⟨o, co, rfl, hown, hb⟩
theorem Bytes_nil (W : World) : Calls Try.prog 44 #[.pointer none] W fun e W' => e = .returned (.slice none 0 0) ∧ W' = W := by
  go_enter Try.func44, Try.ntmps44
  go_wp2_with (go_at_call 59; refine (made_nil _).mono ?_; rintro e w' ⟨rfl, rfl⟩)
  go_ret
  exact ⟨rfl, rfl⟩
theorem and_pred (b : Nat) (hb : b ≤ 16) : bits .and .i64 ((2 ^ b : Nat) : Int) (((2 ^ b : Nat) : Int) - 1) = 0 := by
  rcases (by omega : b = 0 ∨ b = 1 ∨ b = 2 ∨ b = 3 ∨ b = 4 ∨ b = 5 ∨ b = 6 ∨ b = 7 ∨ b = 8 ∨ b = 9 ∨ b = 10 ∨ b = 11 ∨ b = 12 ∨ b = 13 ∨ b = 14 ∨ b = 15 ∨ b = 16) with rfl | rfl | rfl | rfl | rfl | rfl | rfl | rfl | rfl | rfl | rfl | rfl | rfl | rfl | rfl | rfl | rfl <;> decide +kernel
def IsSeg (N : Nat) : Prop := ∃ b, 8 ≤ b ∧ b ≤ 16 ∧ N = 2 ^ b
theorem IsSeg.pow {N : Nat} (h : IsSeg N) : IsPow N := by
  obtain ⟨b, _, h2, h3⟩ := h
  exact ⟨b, by omega, h3⟩
theorem IsSeg.bd {N : Nat} (h : IsSeg N) : 256 ≤ N ∧ N ≤ 65536 := by
  obtain ⟨b, h1, h2, rfl⟩ := h
  exact ⟨(Nat.pow_le_pow_right (by omega) h1 : 2 ^ 8 ≤ 2 ^ b), (Nat.pow_le_pow_right (by omega) h2 : 2 ^ b ≤ 2 ^ 16)⟩
theorem From_any (A : Option Addr) (c0 : Nat) (hO : Owns W B ex) (hB : B ≤ W.heap.size) (hr : Reads W W.heap.size 1 A N (u8s xs)) (hN : IsSeg N) :
    Calls Try.prog 5 #[.slice A N c0] W fun e W' => ∃ g d c, e = .returned (.tuple #[.pointer (some ⟨g, 0, none⟩), .int .i64 0]) ∧ Owns W' B (memRows g d N c false (.slice none 0 0) [] xs ++ ex) ∧ Below W.heap.size W W' := by
  obtain ⟨n0, n1⟩ := hN.bd
  have hc := hide_ (bytesClone_any A N c0 xs W hr (by omega) (fun h => absurd (hr.2 (by omega)) (by subst h; rintro ⟨ad, h, _⟩; cases h)))
  have hand : bits .and .i64 (N : Int) ((N : Int) - 1) = 0 := by
    obtain ⟨b, h1, h2, rfl⟩ := hN
    exact and_pred b h2
  have s1 : IntKind.i64.wrap ((N : Int) - 1) = (N : Int) - 1 := IntWalk.i64_in _ (by omega)
  have d1 : decide ((N : Int) < 256) = false := by simp; omega
  have d2 : decide ((65536 : Int) < (N : Int)) = false := by simp; omega
  have HO := hide_ hO
  clear hO hr hN
  go_enter Try.func5, Try.ntmps5
  go_wp2_with (go_at_call 15; refine hc.out.mono ?_)
  rintro e W' ⟨v, rfl, hown, hb⟩
  obtain ⟨o, co, rfl⟩ := ownsRow_some hown (by omega)
  obtain ⟨h1, h2⟩ := seg_rows HO.out hB hown hb
  have H1 := hide_ h1
  have H2 := hide_ h2
  clear h1 h2 hown hb
  go_wp2
  go_ret2
  exact ⟨_, _, _, rfl, H1.out, H2.out⟩
theorem Bits_any (b : Nat) (hb : b ≤ 16) (hNb : N = 2 ^ b) (hO : Owns W B (memRows g d N c logs tv ts xs ++ ex)) :
    Calls Try.prog 50 #[.pointer (some ⟨g, 0, none⟩)] W fun e W' => e = .returned (.int .i64 b) ∧ ∃ nq, W' = W.drewN nq := by
  have c0 : W.cell? ⟨g, 0, none⟩ = some (.slice (some ⟨d, 0, none⟩) N c) := hO.cell (i := 0) rfl rfl
  have hN : 0 < N := by rw [hNb]; exact Nat.two_pow_pos b
  have HNB := hide_ hNb
  clear hO hNb
  go_enter Try.func50, Try.ntmps50
  go_wp2
  go_loopw [3] (fun i wr => ∃ k : Nat, k ≤ b ∧ i = .int .i64 k ∧ ∃ nq, Hid (wr = W.drewN nq)) (fun i _ => b - (intOf i).toNat)
  case atStart => exact ⟨0, Nat.zero_le _, rfl, 0, hide_ rfl⟩
  case round =>
    obtain ⟨k, hk, rfl, nq, HW⟩ := hrel
    have c1 : wr.cell? ⟨g, 0, none⟩ = some (.slice (some ⟨d, 0, none⟩) N c) := by rw [HW.out]; exact c0
    have hm := hide_ (fun q : Nat => made_any g d N c (wr.drewN q) c1 hN)
    obtain ⟨P, hP⟩ : ∃ P : Nat, P = 2 ^ k := ⟨_, rfl⟩
    have hPb : P ≤ 65536 := by rw [hP]; exact (Nat.pow_le_pow_right (by omega) (by omega : k ≤ 16) : 2 ^ k ≤ 2 ^ 16)
    have hw : wrap64 ((2 : Int) ^ k) = (P : Int) := by
      have e : (2 : Int) ^ k = (P : Int) := by rw [hP]; simp
      rw [e]
      unfold wrap64
      omega
    by_cases hlt : k < b
    · have d1 : decide (P < N) = true := by
        rw [decide_eq_true_eq, HNB.out, hP]
        exact Nat.pow_lt_pow_right (by omega) hlt
      clear hP hPb
      go_wp2
      go_quiet ((go_at_call 59; exact Calls.quiet_of_same (hm.out _)))
      go_wp2
      go_roundw
      case rel => exact ⟨k + 1, by omega, by go_num, _, hide_ (by rw [HW.out]; exact World.drewN_drewN _ _ _)⟩
      case measure => simp [intOf]; omega
    · obtain rfl : k = b := by omega
      have d1 : decide (P < N) = false := by
        rw [decide_eq_false_iff_not, HNB.out, hP]
        omega
      clear hP hPb
      go_wp2
      go_quiet ((go_at_call 59; exact Calls.quiet_of_same (hm.out _)))
      go_wp2
      go_ret
      exact ⟨rfl, _, by rw [HW.out]; exact World.drewN_drewN _ _ _⟩
theorem Bits_nil (W : World) : Calls Try.prog 50 #[.pointer none] W fun e W' => e = .returned (.int .i64 0) ∧ ∃ nq, W' = W.drewN nq := by
  have hm := hide_ (fun q : Nat => made_nil (W.drewN q))
  go_enter Try.func50, Try.ntmps50
  go_wp2
  go_loopw [3] (fun i wr => i = .int .i64 0 ∧ wr = W) (fun i _ => 0)
  case atStart => exact ⟨rfl, rfl⟩
  case round =>
    obtain ⟨rfl, rfl⟩ := hrel
    go_wp2
    go_quiet ((go_at_call 59; exact Calls.quiet_of_same (hm.out _)))
    go_wp2
    go_ret
    exact ⟨rfl, _, rfl⟩
end
end Go.Proofs.Ytcfpclhoockcfaa
/-
  The walks of playpenlaw09.made and playpenlaw09.awake.
-/
namespace Go.Proofs.Ytcfpclhoockcfaa
set_option maxRecDepth 100000
open Go.RowKit

def seedAt (zs : List Int) (i : Nat) : Int := if zs.length = 0 then (i : Int) % 256 else zs[i % zs.length]?.getD 0
def seedXs (zs : List Int) (n : Nat) : List Int := (List.range n).map (seedAt zs)
theorem seedXs_succ (zs : List Int) (n : Nat) : seedXs zs (n + 1) = seedXs zs n ++ [seedAt zs n] := by simp [seedXs, List.range_succ]
theorem seedXs_len (zs : List Int) (n : Nat) : (seedXs zs n).length = n := by simp [seedXs]
theorem seedXs_ok {zs : List Int} (h : bytesOk zs) (n : Nat) : bytesOk (seedXs zs n) := by
  intro x hx
  obtain ⟨i, _, rfl⟩ := List.mem_map.1 hx
  unfold seedAt
  split
  · omega
  · next h0 =>
    have hi : i % zs.length < zs.length := Nat.mod_lt _ (by omega)
    rw [List.getElem?_eq_getElem hi]
    exact h _ (List.getElem_mem hi)
section
variable {W : World} {B : Nat} {ex : List Ro}
end
end Go.Proofs.Ytcfpclhoockcfaa
/-
  The contracts of a data segment whose log is off; playpenlaw09.awake.
-/
namespace Go.Proofs.Ytcfpclhoockcfaa
set_option maxRecDepth 100000
open Go.RowKit

theorem notes_off (N : Nat) (wrt : Bool) (a : Int) (ts : List (Int × Bool)) (k : Nat) : notes N false wrt a ts k = ts := by
  induction k with
  | zero => rfl
  | succ k ih => rw [notes, ih]; rfl
theorem below_draws2 {B : Nat} {a w : World} (h : Below B a w) (k : Nat) : Below B a (w.drewN k) := by
  induction k with
  | zero => exact h
  | succ k ih => exact ih.drew
/-- a data segment, its log off -/
structure Seg (W : World) (B g d N c : Nat) (xs : List Int) (ex : List Ro) : Prop where
  own : ∃ tv, Owns W B (memRows g d N c false tv [] xs ++ ex)
  base : B ≤ W.heap.size
  seg : IsSeg N
  len : xs.length = N
  ok : bytesOk xs
theorem bytes4_ok {v : Int} (h0 : 0 ≤ v) (h1 : v < 4294967296) : bytesOk (bytes4 v) := by
  intro x hx
  simp only [bytes4, List.mem_cons, List.not_mem_nil, or_false] at hx
  omega
theorem puts_ok {N : Nat} {a : Int} {ys xs : List Int} (hy : bytesOk ys) (hx : bytesOk xs) (k : Nat) : bytesOk (puts N a ys xs k) := by
  induction k with
  | zero => exact hx
  | succ k ih =>
    intro x h
    rw [puts] at h
    rcases List.mem_or_eq_of_mem_set h with h | h
    · exact ih x h
    · subst h
      cases hq : ys[k]? with
      | none => simp
      | some y => exact hy y (List.mem_of_getElem? hq)
section
variable {W : World} {B g d N c : Nat} {xs : List Int} {ex : List Ro}
theorem Seg.drewN (h : Seg W B g d N c xs ex) (k : Nat) : Seg (W.drewN k) B g d N c xs ex := by
  obtain ⟨⟨tv, h1⟩, h2, h3, h4, h5⟩ := h
  exact ⟨⟨tv, h1.drewN k⟩, h2, h3, h4, h5⟩
theorem Load4_off (a : Int) (h : Seg W B g d N c xs ex) :
    Calls Try.prog 51 #[.pointer (some ⟨g, 0, none⟩), .int .u32 a] W fun e W' => e = .returned (.int .u32 (wordAt N a xs 4)) ∧ Seg W' B g d N c xs ex ∧ Below B W W' := by
  obtain ⟨⟨tv, h1⟩, h2, h3, h4, h5⟩ := h
  refine (Load4_any a h1 h2 h3.pow h4 h5).mono ?_
  rintro e W' ⟨rfl, tv', hO, hb⟩
  rw [notes_off] at hO
  exact ⟨rfl, ⟨⟨tv', hO⟩, Nat.le_trans h2 hb.size, h3, h4, h5⟩, hb⟩
theorem Bytes_off (h : Seg W B g d N c xs ex) :
    Calls Try.prog 44 #[.pointer (some ⟨g, 0, none⟩)] W fun e W' => ∃ o co, e = .returned (.slice (some ⟨o, 0, none⟩) N co) ∧ W'.ownsRow W.heap.size 5 1 (.slice (some ⟨o, 0, none⟩) N co) N (u8s xs) ∧ Seg W' B g d N c xs ex ∧ Below W.heap.size W W' := by
  obtain ⟨⟨tv, h1⟩, h2, h3, h4, h5⟩ := h
  refine (Bytes_any h1 h3.pow).mono ?_
  rintro e W' ⟨o, co, rfl, hown, hb⟩
  exact ⟨o, co, rfl, hown, ⟨⟨tv, h1.below hb⟩, Nat.le_trans h2 hb.size, h3, h4, h5⟩, hb⟩
theorem Bits_off (b : Nat) (hb : b ≤ 16) (hNb : N = 2 ^ b) (h : Seg W B g d N c xs ex) :
    Calls Try.prog 50 #[.pointer (some ⟨g, 0, none⟩)] W fun e W' => e = .returned (.int .i64 b) ∧ Seg W' B g d N c xs ex ∧ Below B W W' := by
  have h0 := h
  obtain ⟨⟨tv, h1⟩, h2, h3, h4, h5⟩ := h
  refine (Bits_any b hb hNb h1).mono ?_
  rintro e W' ⟨rfl, nq, rfl⟩
  exact ⟨rfl, h0.drewN nq, below_draws2 (Below.refl _ _) nq⟩
end
def zeros256 : List Int := List.replicate 256 0
def awakeXs : List Int := puts 256 254 (bytes4 287454020) zeros256 4
theorem awake_words : wordAt 256 510 awakeXs 4 = 287454020 ∧ wordAt 256 255 awakeXs 2 = 8755 ∧ wordAt 256 4294967295 awakeXs 1 = 51 ∧ wordAt 256 1 awakeXs 1 = 17 := by decide +kernel
theorem ptr_eq (a : Addr) (w : World) : (binOp .eql 28 (.pointer (some a)) (.pointer none)).run Try.prog w = .ok (.bool false) w := by kernel_rfl
end Go.Proofs.Ytcfpclhoockcfaa
