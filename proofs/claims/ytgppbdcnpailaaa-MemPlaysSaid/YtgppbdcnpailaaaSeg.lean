/-
  The walks of mem.New, mem.From, (*mem.Memory).Bytes, Bits, Clone.
-/
import Derived.Lib.SliceRun
import Derived.Test.YtgppbdcnpailaaaWord
import Derived.Test.YtgppbdcnpailaaaReply
namespace Go.Proofs.Ytgppbdcnpailaaa
open Go.RowKit

theorem seg_perm (a b c : Ro) (ex : List Ro) : (ex ++ [b] ++ [a] ++ [c]).Perm ([a, b, c] ++ ex) := by
  rw [List.append_assoc, List.append_assoc]
  exact List.perm_append_comm.trans (List.Perm.append_right _ (List.Perm.swap _ _ _))
theorem seg_rows {W W1 : World} {B d N c : Nat} {xs : List Int} {ex : List Ro} (hO : Owns W B ex) (hB : B ≤ W.heap.size) (hown : W1.ownsRow W.heap.size 5 1 (.slice (some ⟨d, 0, none⟩) N c) N (u8s xs)) (hb : Below W.heap.size W W1) :
    Owns (W1.alloc (.cells #[.slice (some ⟨d, 0, none⟩) N c, .bool false, .slice none 0 0] 83)) B (memRows W1.heap.size d N c false (.slice none 0 0) [] xs ++ ex) ∧
      Below W.heap.size W (W1.alloc (.cells #[.slice (some ⟨d, 0, none⟩) N c, .bool false, .slice none 0 0] 83)) := by
  have h1 := hO.push hb (r := ⟨5, 1, .slice (some ⟨d, 0, none⟩) N c, N, u8s xs⟩) hown hB
  have h2 := h1.box 83 #[.slice (some ⟨d, 0, none⟩) N c, .bool false, .slice none 0 0] (Nat.le_trans hB hb.size) (show 3 ≤ maxLen by unfold maxLen; decide)
  exact ⟨(h2.nilrow 73 2).swap (seg_perm _ _ _ _), hb.alloc hb.size _⟩
/-- a clone of bytes: memory of its own -/
theorem bytesClone_any (A : Option Addr) (n c : Nat) (xs : List Int) (W : World) (hr : Reads W W.heap.size 1 A n (u8s xs)) (hn : n ≤ 140737488351232) (hA : A = none → n = 0) :
    Calls Try.prog 74 #[.slice A n c] W fun e W' => ∃ v, e = .returned v ∧ W'.ownsRow W.heap.size 5 1 v n (u8s xs) ∧ Below W.heap.size W W' := by
  obtain ⟨i0, hi0, hz0, hz1, hz2⟩ := info_parts Try.info_u8
  have qT : ∀ (w : World) (a : Option Addr) (n c n' c' : Nat), (binOp .eql 46 (.slice a n c) (.slice none n' c')).run Try.prog w = .ok (.bool a.isNone) w := fun w a n c n' c' => Lib.run_eql_slice_nil w _ _ a n c n' c' Try.underlying46
  cases A with
  | none =>
    obtain rfl := hA rfl
    have hx : xs = [] := List.eq_nil_of_length_eq_zero (by simpa using hr.1)
    subst hx
    go_enter Try.func74, Try.ntmps74
    go_wp2
    go_ret
    exact ⟨_, rfl, World.ownsRow_nil _ _ _ _, Below.refl _ _⟩
  | some ad =>
    have h1 := (Owns.nil_ (w := W) (B := W.heap.size)).box 5 #[] (Nat.le_refl _) (show 0 ≤ maxLen by unfold maxLen; decide)
    have HO1 := hide_ h1
    have HR := hide_ (hr.alloc (Nat.le_refl _) (.cells #[] 5))
    have one : ∀ u ∈ u8s xs, u.oneCell' = true := by
      intro u hu
      obtain ⟨x, _, rfl⟩ := List.mem_map.1 hu
      rfl
    have HONE := hide_ one
    clear one h1 hr
    go_enter Try.func74, Try.ntmps74
    go_wp2_with (at_builtin; refine wpList_append_owns _ rfl (.tmp 5) (.tmp 6) 46 rfl W.heap.size _ 0 5 1 (.slice (some ⟨W.heap.size, 0, none⟩) 0 0) 0 [] rfl HO1.out (by simp) i0 _ 1 Try.underlying46 hi0 hz0 hz1 hz2 rfl (by omega) rfl W.heap.size (some ad) n c (u8s xs) rfl HR.out HONE.out (by simp only [maxLen]; omega) (by omega) ?_)
    intro v w2 hO2 hb2 hsz2
    have hown := hO2.at_ (i := 0) rfl
    have HB2 := hide_ (((Below.refl W.heap.size W).alloc (Nat.le_refl _) (.cells #[] 5)).trans hb2)
    clear hb2 hO2
    go_wp2
    go_ret
    refine ⟨_, rfl, ?_, HB2.out⟩
    simpa using hown
section
variable {W : World} {B g d N c : Nat} {logs : Bool} {tv : Value} {ts : List (Int × Bool)} {xs : List Int} {ex : List Ro}
theorem Bytes_any (hO : Owns W B (memRows g d N c logs tv ts xs ++ ex)) (hN : IsPow N) :
    Calls Try.prog 33 #[.pointer (some ⟨g, 0, none⟩)] W fun e W' => ∃ o co, e = .returned (.slice (some ⟨o, 0, none⟩) N co) ∧ W'.ownsRow W.heap.size 5 1 (.slice (some ⟨o, 0, none⟩) N co) N (u8s xs) ∧ Below W.heap.size W W' := by
  have c0 : W.cell? ⟨g, 0, none⟩ = some (.slice (some ⟨d, 0, none⟩) N c) := hO.cell (i := 0) rfl rfl
  have hr : Reads W W.heap.size 1 (some ⟨d, 0, none⟩) N (u8s xs) := Reads.of_own (hO.at_ (i := 1) rfl)
  have hm := hide_ (made_any g d N c W c0 hN.bd.1)
  have hc := hide_ (bytesClone_any (some ⟨d, 0, none⟩) N c xs W hr (by have := hN.bd; omega) (fun h => by cases h))
  have HN := hide_ hN.bd
  clear hO hr hN
  go_enter Try.func33, Try.ntmps33
  go_wp2_with (first
    | (go_at_call 76; refine hm.out.mono ?_; rintro e w' ⟨rfl, rfl⟩)
    | (go_at_call 74; refine hc.out.mono ?_))
  rintro e W' ⟨v, rfl, hown, hb⟩
  obtain ⟨o, co, rfl⟩ := ownsRow_some hown HN.out.1
  go_wp2
  go_ret
  exact ⟨o, co, rfl, hown, hb⟩
theorem Bytes_nil (W : World) : Calls Try.prog 33 #[.pointer none] W fun e W' => e = .returned (.slice none 0 0) ∧ W' = W := by
  go_enter Try.func33, Try.ntmps33
  go_wp2_with (go_at_call 76; refine (made_nil _).mono ?_; rintro e w' ⟨rfl, rfl⟩)
  go_ret
  exact ⟨rfl, rfl⟩
theorem and_pred (b : Nat) (hb : b ≤ 16) : bits .and .i64 ((2 ^ b : Nat) : Int) (((2 ^ b : Nat) : Int) - 1) = 0 := by
  rcases (by omega : b = 0 ∨ b = 1 ∨ b = 2 ∨ b = 3 ∨ b = 4 ∨ b = 5 ∨ b = 6 ∨ b = 7 ∨ b = 8 ∨ b = 9 ∨ b = 10 ∨ b = 11 ∨ b = 12 ∨ b = 13 ∨ b = 14 ∨ b = 15 ∨ b = 16) with rfl | rfl | rfl | rfl | rfl | rfl | rfl | rfl | rfl | rfl | rfl | rfl | rfl | rfl | rfl | rfl | rfl <;> decide +kernel
def IsSeg (N : Nat) : Prop := ∃ b, 8 ≤ b ∧ b ≤ 16 ∧ N = 2 ^ b
theorem IsSeg.pow {N : Nat} (h : IsSeg N) : IsPow N := by
  obtain ⟨b, _, h2, h3⟩ := h
  exact ⟨b, by omega, h3⟩
theorem IsSeg.bd {N : Nat} (h : IsSeg N) : 256 ≤ N ∧ N ≤ 65536 := by
  obtain ⟨b, h1, h2, rfl⟩ := h
  exact ⟨(Nat.pow_le_pow_right (by omega) h1 : 2 ^ 8 ≤ 2 ^ b), (Nat.pow_le_pow_right (by omega) h2 : 2 ^ b ≤ 2 ^ 16)⟩
theorem From_any (A : Option Addr) (c0 : Nat) (hO : Owns W B ex) (hB : B ≤ W.heap.size) (hr : Reads W W.heap.size 1 A N (u8s xs)) (hN : IsSeg N) :
    Calls Try.prog 30 #[.slice A N c0] W fun e W' => ∃ g d c, e = .returned (.tuple #[.pointer (some ⟨g, 0, none⟩), .int .i64 0]) ∧ Owns W' B (memRows g d N c false (.slice none 0 0) [] xs ++ ex) ∧ Below W.heap.size W W' := by
  obtain ⟨n0, n1⟩ := hN.bd
  have hc := hide_ (bytesClone_any A N c0 xs W hr (by omega) (fun h => absurd (hr.2 (by omega)) (by subst h; rintro ⟨ad, h, _⟩; cases h)))
  have hand : bits .and .i64 (N : Int) ((N : Int) - 1) = 0 := by
    obtain ⟨b, h1, h2, rfl⟩ := hN
    exact and_pred b h2
  have s1 : IntKind.i64.wrap ((N : Int) - 1) = (N : Int) - 1 := IntWalk.i64_in _ (by omega)
  have d1 : decide ((N : Int) < 256) = false := by simp; omega
  have d2 : decide ((65536 : Int) < (N : Int)) = false := by simp; omega
  have HO := hide_ hO
  clear hO hr hN
  go_enter Try.func30, Try.ntmps30
  go_wp2_with (go_at_call 74; refine hc.out.mono ?_)
  rintro e W' ⟨v, rfl, hown, hb⟩
  obtain ⟨o, co, rfl⟩ := ownsRow_some hown (by omega)
  obtain ⟨h1, h2⟩ := seg_rows HO.out hB hown hb
  have H1 := hide_ h1
  have H2 := hide_ h2
  clear h1 h2 hown hb
  go_wp2
  go_ret2
  exact ⟨_, _, _, rfl, H1.out, H2.out⟩
theorem Bits_any (b : Nat) (hb : b ≤ 16) (hNb : N = 2 ^ b) (hO : Owns W B (memRows g d N c logs tv ts xs ++ ex)) :
    Calls Try.prog 75 #[.pointer (some ⟨g, 0, none⟩)] W fun e W' => e = .returned (.int .i64 b) ∧ ∃ nq, W' = W.drewN nq := by
  have c0 : W.cell? ⟨g, 0, none⟩ = some (.slice (some ⟨d, 0, none⟩) N c) := hO.cell (i := 0) rfl rfl
  have hN : 0 < N := by rw [hNb]; exact Nat.two_pow_pos b
  have HNB := hide_ hNb
  clear hO hNb
  go_enter Try.func75, Try.ntmps75
  go_wp2
  go_loopw [3] (fun i wr => ∃ k : Nat, k ≤ b ∧ i = .int .i64 k ∧ ∃ nq, Hid (wr = W.drewN nq)) (fun i _ => b - (intOf i).toNat)
  case atStart => exact ⟨0, Nat.zero_le _, rfl, 0, hide_ rfl⟩
  case round =>
    obtain ⟨k, hk, rfl, nq, HW⟩ := hrel
    have c1 : wr.cell? ⟨g, 0, none⟩ = some (.slice (some ⟨d, 0, none⟩) N c) := by rw [HW.out]; exact c0
    have hm := hide_ (fun q : Nat => made_any g d N c (wr.drewN q) c1 hN)
    obtain ⟨P, hP⟩ : ∃ P : Nat, P = 2 ^ k := ⟨_, rfl⟩
    have hPb : P ≤ 65536 := by rw [hP]; exact (Nat.pow_le_pow_right (by omega) (by omega : k ≤ 16) : 2 ^ k ≤ 2 ^ 16)
    have hw : wrap64 ((2 : Int) ^ k) = (P : Int) := by
      have e : (2 : Int) ^ k = (P : Int) := by rw [hP]; simp
      rw [e]
      unfold wrap64
      omega
    by_cases hlt : k < b
    · have d1 : decide (P < N) = true := by
        rw [decide_eq_true_eq, HNB.out, hP]
        exact Nat.pow_lt_pow_right (by omega) hlt
      clear hP hPb
      go_wp2
      go_quiet ((go_at_call 76; exact Calls.quiet_of_same (hm.out _)))
      go_wp2
      go_roundw
      case rel => exact ⟨k + 1, by omega, by go_num, _, hide_ (by rw [HW.out]; exact World.drewN_drewN _ _ _)⟩
      case measure => simp [intOf]; omega
    · obtain rfl : k = b := by omega
      have d1 : decide (P < N) = false := by
        rw [decide_eq_false_iff_not, HNB.out, hP]
        omega
      clear hP hPb
      go_wp2
      go_quiet ((go_at_call 76; exact Calls.quiet_of_same (hm.out _)))
      go_wp2
      go_ret
      exact ⟨rfl, _, by rw [HW.out]; exact World.drewN_drewN _ _ _⟩
theorem Bits_nil (W : World) : Calls Try.prog 75 #[.pointer none] W fun e W' => e = .returned (.int .i64 0) ∧ ∃ nq, W' = W.drewN nq := by
  have hm := hide_ (fun q : Nat => made_nil (W.drewN q))
  go_enter Try.func75, Try.ntmps75
  go_wp2
  go_loopw [3] (fun i wr => i = .int .i64 0 ∧ wr = W) (fun i _ => 0)
  case atStart => exact ⟨rfl, rfl⟩
  case round =>
    obtain ⟨rfl, rfl⟩ := hrel
    go_wp2
    go_quiet ((go_at_call 76; exact Calls.quiet_of_same (hm.out _)))
    go_wp2
    go_ret
    exact ⟨rfl, _, rfl⟩
set_option maxRecDepth 100000 in
theorem New_any (b : Nat) (h8 : 8 ≤ b) (h16 : b ≤ 16) (hNb : N = 2 ^ b) (hO : Owns W B ex) (hB : B ≤ W.heap.size) :
    Calls Try.prog 47 #[.int .i64 b] W fun e W' => ∃ g d c, e = .returned (.tuple #[.pointer (some ⟨g, 0, none⟩), .int .i64 0]) ∧ Owns W' B (memRows g d N c false (.slice none 0 0) [] (List.replicate N 0) ++ ex) ∧ Below W.heap.size W W' := by
  obtain ⟨i0, hi0, hz0, hz1, hz2⟩ := info_parts Try.info_u8
  have hNl : N ≤ 65536 := by rw [hNb]; exact (Nat.pow_le_pow_right (by omega) h16 : 2 ^ b ≤ 2 ^ 16)
  have hw : wrap64 ((2 : Int) ^ b) = (N : Int) := by
    have e : (2 : Int) ^ b = (N : Int) := by rw [hNb]; simp
    rw [e]
    unfold wrap64
    omega
  have d1 : decide ((b : Int) < 8) = false := by simp; omega
  have d2 : decide ((16 : Int) < (b : Int)) = false := by simp; omega
  have HO := hide_ hO
  clear hNb hO
  go_enter Try.func47, Try.ntmps47
  go_wp2_with (refine wpList_make_full _ rfl (.tmp 11) (.tmp 11) 46 rfl W.heap.size 5 i0 _ 1 Try.underlying46 hi0 hz0 hz1 .i64 .i64 (wrap64 ((2 : Int) ^ b)) (wrap64 ((2 : Int) ^ b)) N rfl rfl hw hw (by rw [hz2]; omega) (by simp only [maxLen]; omega) (Nat.le_refl _) ?_)
  intro w1 hown hg
  have e1 : (madeCells #[Value.int .u8 0] N).toList = u8s (List.replicate N 0) := by
    rw [toList_madeCells_one]
    simp
  rw [e1] at hown
  have hb : Below W.heap.size W w1 := (Below.refl _ _).grown hg (Nat.le_refl _) (fun k e => by cases e)
  obtain ⟨h1, h2⟩ := seg_rows HO.out hB hown hb
  have H1 := hide_ h1
  have H2 := hide_ h2
  clear h1 h2 hown hb hg e1
  go_wp2
  go_ret2
  exact ⟨_, _, _, rfl, H1.out, H2.out⟩
end
end Go.Proofs.Ytgppbdcnpailaaa
