/-
  The walks of gate's Words, Event and Apply, of a gate that was made, and of one that was not; slices.Clone and playpenkit's SameWords, SameEvent.
-/
import Derived.Test.YtcfpclhoockcfaaM15
import Derived.Test.YtcfpclhoockcfaaM12
import Derived.Test.YtcfpclhoockcfaaM10
namespace Go.Proofs.Ytcfpclhoockcfaa
open Go.RowKit Go.Maps
set_option linter.unusedVariables false

/-! ### lists of words -/
theorem one_u32s (xs : List Int) : ∀ u ∈ u32s xs, u.oneCell' = true := by
  intro u hu
  obtain ⟨x, _, rfl⟩ := List.mem_map.1 hu
  rfl
theorem info_u32w : (Try.prog.info? 39).map (fun i => (i.zero, i.size, i.bytes)) = some (some (.int .u32 0), 1, 4) := by kernel_rfl
theorem wordsClone_any (A : Option Addr) (n c : Nat) (xs : List Int) (W : World) (hr : Reads W W.heap.size 1 A n (u32s xs)) (hn : n * 4 ≤ 140737488351232) :
    Calls Try.prog 55 #[.slice A n c] W fun e W' => ∃ A' c', e = .returned (.slice A' n c') ∧ W'.ownsRow W.heap.size 39 1 (.slice A' n c') n (u32s xs) ∧ Below W.heap.size W W' := by
  obtain ⟨i0, hi0, hz0, hz1, hz2⟩ := info_parts info_u32w
  have qT : ∀ (w : World) (a : Option Addr) (n c n' c' : Nat), (binOp .eql 40 (.slice a n c) (.slice none n' c')).run Try.prog w = .ok (.bool a.isNone) w := fun w a n c n' c' => Lib.run_eql_slice_nil w _ _ a n c n' c' Try.underlying40
  cases A with
  | none =>
    obtain rfl : n = 0 := by
      rcases Nat.eq_zero_or_pos n with h | h
      · exact h
      · obtain ⟨ad, e, _⟩ := hr.2 h; cases e
    have hx : xs = [] := List.eq_nil_of_length_eq_zero (by simpa using hr.1)
    subst hx
    go_enter Try.func55, Try.ntmps55
    go_wp2
    go_ret
    exact ⟨none, 0, rfl, World.ownsRow_nil _ _ _ _, Below.refl _ _⟩
  | some ad =>
    have h1 := (Owns.nil_ (w := W) (B := W.heap.size)).box 39 #[] (Nat.le_refl _) (show 0 ≤ maxLen by unfold maxLen; decide)
    have HO1 := hide_ h1
    have HR := hide_ (hr.alloc (Nat.le_refl _) (.cells #[] 39))
    have HONE := hide_ (one_u32s xs)
    clear h1 hr
    go_enter Try.func55, Try.ntmps55
    go_wp2_with (at_builtin; refine wpList_append_owns _ rfl (.tmp 5) (.tmp 6) 40 rfl W.heap.size _ 0 39 1 (.slice (some ⟨W.heap.size, 0, none⟩) 0 0) 0 [] rfl HO1.out (by simp) i0 _ 4 Try.underlying40 hi0 hz0 hz1 hz2 rfl (by omega) rfl W.heap.size (some ad) n c (u32s xs) rfl HR.out HONE.out (by simp only [maxLen]; omega) (by omega) ?_)
    intro v w2 hO2 hb2 hsz2
    have hown : w2.ownsRow W.heap.size 39 1 v n (u32s xs) := by simpa using hO2.at_ (i := 0) rfl
    have HB2 := hide_ (((Below.refl W.heap.size W).alloc (Nat.le_refl _) (.cells #[] 39)).trans hb2)
    obtain ⟨A', c', hv, _, _⟩ := ownsRow_slice hown
    subst hv
    have HOWN := hide_ hown
    clear hb2 hO2 hown
    go_wp2
    go_ret
    exact ⟨A', c', rfl, HOWN.out, HB2.out⟩
set_option maxHeartbeats 400000 in
theorem SameWords_any (A A' : Option Addr) (n c n' c' : Nat) (xs ys : List Int) (B : Nat) (w : World) (ha : Reads w B 1 A n (u32s xs)) (hb : Reads w B 1 A' n' (u32s ys)) (hn : n ≤ maxLen) (hn' : n' ≤ maxLen) :
    Calls Try.prog 32 #[.slice A n c, .slice A' n' c'] w fun e w' => e = .returned (.bool (decide (xs = ys))) ∧ ∃ nq, w' = w.drewN nq := by
  unfold maxLen at hn hn'
  have la : xs.length = n := by simpa using ha.1
  have lb : ys.length = n' := by simpa using hb.1
  by_cases hne : n = n'
  · subst hne
    have h0 : ((n : Int) != (n : Int)) = false := by simp
    have HL := hide_ (show xs.length = n ∧ ys.length = n from ⟨la, lb⟩)
    have HA := hide_ ha
    have HB := hide_ hb
    clear la lb ha hb
    go_enter Try.func32, Try.ntmps32
    go_wp2
    go_loopw [5] (fun i wr => ∃ k : Nat, k ≤ n ∧ i = .int .i64 k ∧ Hid (xs.take k = ys.take k) ∧ ∃ nq, wr = w.drewN nq) (fun i _ => n - (intOf i).toNat)
    case atStart => exact ⟨0, Nat.zero_le _, rfl, hide_ (by simp), 0, rfl⟩
    case round =>
      obtain ⟨k, hk, rfl, HE, nq, rfl⟩ := hrel
      by_cases hlt : k < n
      · obtain ⟨ad, u, rfl, _, hx, hc⟩ := HA.out.at_ hlt
        obtain ⟨ad', u', rfl, _, hx', hc'⟩ := HB.out.at_ hlt
        have hkx : k < xs.length := by rw [HL.out.1]; exact hlt
        have hky : k < ys.length := by rw [HL.out.2]; exact hlt
        rw [u32s_get hkx] at hx
        rw [u32s_get hky] at hx'
        injection hx with hx
        injection hx' with hx'
        subst hx hx'
        have H := hide_ (take_eq (xs := xs) (ys := ys) (k := k) (x := xs[k]?.getD 0) (y := ys[k]?.getD 0) (by rw [List.getElem?_eq_getElem hkx]; rfl) (by rw [List.getElem?_eq_getElem hky]; rfl) HE.out)
        obtain ⟨x, hx⟩ : ∃ x, x = xs[k]?.getD 0 := ⟨_, rfl⟩
        obtain ⟨y, hy⟩ : ∃ y, y = ys[k]?.getD 0 := ⟨_, rfl⟩
        rw [← hx] at hc H
        rw [← hy] at hc' H
        clear hx hy hkx hky
        by_cases he : x = y
        · have d1 : (x != y) = false := by simpa using he
          have H2 := hide_ (H.out.1 he)
          clear H he
          go_wp2
          go_quiet (fail)
          go_wp2
          go_roundw
          case rel => exact ⟨k + 1, by omega, by go_num, H2, _, rfl⟩
          case measure => simp [intOf]; omega
        · have d1 : (x != y) = true := by simpa using he
          have H2 := hide_ (show xs ≠ ys from fun e => he (H.out.2 (by rw [e])))
          clear H he
          go_wp2
          go_quiet (fail)
          go_wp2
          go_ret
          exact ⟨by simp [H2.out], _, World.drewN_drewN _ _ _⟩
      · obtain rfl : k = n := by omega
        have h2 := HE.out
        rw [List.take_of_length_le (by have := HL.out.1; omega), List.take_of_length_le (by have := HL.out.2; omega)] at h2
        have H2 := hide_ h2
        clear h2
        go_wp2
        go_ret
        exact ⟨by simp [H2.out], nq, rfl⟩
  · have h0 : ((n : Int) != (n' : Int)) = true := by simp; omega
    have H := hide_ (show xs ≠ ys by rintro rfl; omega)
    clear ha hb la lb hne
    go_enter Try.func32, Try.ntmps32
    go_wp2
    go_ret
    exact ⟨by simp [H.out], 0, rfl⟩
/-! ### a gate that nobody made -/
def NotGate (W : World) (P : Option Addr) : Prop := P = none ∨ ∃ q, P = some ⟨q, 0, none⟩ ∧ W.cell? ⟨q, 0, none⟩ = some (.map none) ∧ q < W.heap.size
section
variable {W W' : World} {P : Option Addr}
theorem NotGate.below (h : NotGate W P) (hb : Below W.heap.size W W') : NotGate W' P := by
  rcases h with rfl | ⟨g, rfl, hc, hg⟩
  · exact .inl rfl
  · exact .inr ⟨g, rfl, (hb.cell hg).trans hc, Nat.lt_of_lt_of_le hg hb.size⟩
theorem gmade_not (h : NotGate W P) : Calls Try.prog 29 #[.pointer P] W fun e w' => e = .returned (.bool false) ∧ w' = W := by
  rcases h with rfl | ⟨q, rfl, hc, hq⟩
  · go_enter Try.func29, Try.ntmps29
    go_wp2
    go_ret
    exact ⟨rfl, rfl⟩
  · have hn := map_neq
    go_enter Try.func29, Try.ntmps29
    go_wp2
    go_ret
    exact ⟨rfl, rfl⟩
theorem Granted_not (x : Int) (h : NotGate W P) : Calls Try.prog 17 #[.pointer P, .int .u32 x] W fun e w' => e = .returned (.tuple #[.int .i64 0, .bool false]) ∧ w' = W := by
  have hm := hide_ (gmade_not h)
  clear h
  go_enter Try.func17, Try.ntmps17
  go_wp2_with (go_at_call 29; refine hm.out.mono ?_; rintro e w' ⟨rfl, rfl⟩)
  go_ret2
  exact ⟨rfl, rfl⟩
theorem Grants_not (h : NotGate W P) : Calls Try.prog 25 #[.pointer P] W fun e w' => e = .returned (.slice none 0 0) ∧ w' = W := by
  have hm := hide_ (gmade_not h)
  clear h
  go_enter Try.func25, Try.ntmps25
  go_wp2_with (go_at_call 29; refine hm.out.mono ?_; rintro e w' ⟨rfl, rfl⟩)
  go_ret
  exact ⟨rfl, rfl⟩
theorem Less_not (A : Option Addr) (n c : Nat) (h : NotGate W P) : Calls Try.prog 46 #[.pointer P, .slice A n c] W fun e w' => e = .returned (.tuple #[.pointer none, .int .i64 1]) ∧ w' = W := by
  have hm := hide_ (gmade_not h)
  clear h
  go_enter Try.func46, Try.ntmps46
  go_wp2_with (go_at_call 29; refine hm.out.mono ?_; rintro e w' ⟨rfl, rfl⟩)
  go_ret2
  exact ⟨rfl, rfl⟩
theorem Words_not (P2 : Option Addr) (sp x : Int) (h : NotGate W P) : Calls Try.prog 30 #[.pointer P, .pointer P2, .int .u32 sp, .int .u32 x] W fun e w' => e = .returned (.tuple #[.slice none 0 0, .bool false]) ∧ w' = W := by
  have hm := hide_ (Granted_not x h)
  clear h
  go_enter Try.func30, Try.ntmps30
  go_wp2_with (go_at_call 17; refine hm.out.mono ?_; rintro e w' ⟨rfl, rfl⟩)
  go_ret2
  exact ⟨rfl, rfl⟩
theorem Within_not (P2 : Option Addr) (h : NotGate W P) : Calls Try.prog 22 #[.pointer P, .pointer P2] W fun e w' => e = .returned (.bool false) ∧ w' = W := by
  have hm := hide_ (gmade_not h)
  clear h
  go_enter Try.func22, Try.ntmps22
  go_wp2_with (go_at_call 29; refine hm.out.mono ?_; rintro e w' ⟨rfl, rfl⟩)
  go_ret
  exact ⟨rfl, rfl⟩
theorem Within_not2 (q : Nat) (D : MD) (h1 : GateAt W q D) (h : NotGate W P) : Calls Try.prog 22 #[.pointer (some ⟨q, 0, none⟩), .pointer P] W fun e w' => e = .returned (.bool false) ∧ w' = W := by
  obtain ⟨m, n, c1, l1, s1, o1, _⟩ := h1
  have g1 := hide_ (gmade_any q m W c1)
  have hm := hide_ (gmade_not h)
  clear h o1
  go_enter Try.func22, Try.ntmps22
  go_wp2_with fail
  refine g1.out.mono ?_
  rintro e w' ⟨rfl, hw⟩
  subst w'
  go_wp2_with fail
  refine hm.out.mono ?_
  rintro e w' ⟨rfl, hw⟩
  subst w'
  go_wp2
  go_ret
  exact ⟨rfl, rfl⟩
theorem Event_not (a x v : Int) (A A2 : Option Addr) (n c n2 c2 : Nat) (h : NotGate W P) : Calls Try.prog 35 #[.pointer P, .int .u32 a, .int .u32 x, .slice A n c, .agg #[.int .u32 v, .slice A2 n2 c2]] W fun e w' => e = .returned (.tuple #[.agg #[.int .u32 0, .int .u32 0, .slice none 0 0, .int .u32 0], .int .i64 1]) ∧ Below W.heap.size W w' := by
  have hb : Below W.heap.size W ((W.alloc (.cells #[.int .u32 v, .slice A2 n2 c2] 43)).alloc (.cells #[.int .u32 0, .int .u32 0, .slice none 0 0, .int .u32 0] 84)) := ((Below.refl _ _).alloc (Nat.le_refl _) _).alloc (by simp) _
  have hm := hide_ (Granted_not x (h.below hb))
  have hm2 := hide_ (gmade_not (h.below hb))
  have HB := hide_ hb
  clear h hb
  go_enter Try.func35, Try.ntmps35
  go_wp2_with (first
    | (go_at_call 17; refine hm.out.mono ?_; rintro e w' ⟨rfl, rfl⟩)
    | (go_at_call 29; refine hm2.out.mono ?_; rintro e w' ⟨rfl, rfl⟩))
  exact bodyPost_ret (v := .tuple #[.agg #[.int .u32 0, .int .u32 0, .slice none 0 0, .int .u32 0], .int .i64 1]) (by simp [results, Try.results35, go_sem]) rfl ⟨rfl, HB.out⟩
theorem Apply_not (P2 A2 : Option Addr) (v : Int) (n2 c2 : Nat) (h : NotGate W P) : Calls Try.prog 41 #[.pointer P, .pointer P2, .agg #[.int .u32 v, .slice A2 n2 c2]] W fun e w' => e = .returned (.int .i64 1) ∧ Below W.heap.size W w' := by
  have hb : Below W.heap.size W (W.alloc (.cells #[.int .u32 v, .slice A2 n2 c2] 43)) := (Below.refl _ _).alloc (Nat.le_refl _) _
  have hm2 := hide_ (gmade_not (h.below hb))
  have HB := hide_ hb
  clear h hb
  go_enter Try.func41, Try.ntmps41
  go_wp2_with (go_at_call 29; refine hm2.out.mono ?_; rintro e w' ⟨rfl, rfl⟩)
  go_ret
  exact ⟨rfl, HB.out⟩
/-! ### a gate that was made -/
/-- the words of a call -/
def wordsAt (N : Nat) (xs : List Int) (sp : Int) (k : Nat) : List Int := (List.range k).map fun (i : Nat) => wordAt N (sp + 4 + 4 * (i : Int)) xs 4
theorem wordsAt_len (N : Nat) (xs : List Int) (sp : Int) (k : Nat) : (wordsAt N xs sp k).length = k := by simp [wordsAt]
theorem wordsAt_succ (N : Nat) (xs : List Int) (sp : Int) (k : Nat) : wordsAt N xs sp (k + 1) = wordsAt N xs sp k ++ [wordAt N (sp + 4 + 4 * (k : Int)) xs 4] := by simp [wordsAt, List.range_succ]
theorem wordAt_cong {N : Nat} {a b : Int} (xs : List Int) (n : Nat) (h : a % 4294967296 = b % 4294967296) : wordAt N a xs n = wordAt N b xs n := by
  have e : ∀ k, plc N a k = plc N b k := fun k => by
    unfold plc
    rw [Int.add_emod, h, ← Int.add_emod]
  unfold wordAt
  rw [e 0, e 1, e 2, e 3]
theorem Bits_s {g d N c : Nat} {xs : List Int} (h : MemAt W g d N c xs) : Calls Try.prog 50 #[.pointer (some ⟨g, 0, none⟩)] W fun e W' => ∃ b : Nat, 8 ≤ b ∧ e = .returned (.int .i64 b) ∧ ∃ nq, W' = W.drewN nq := by
  obtain ⟨b, b8, hb, hNb⟩ := h.seg
  have c0 : W.cell? ⟨g, 0, none⟩ = some (.slice (some ⟨d, 0, none⟩) N c) := h.c0
  have hN : 0 < N := by rw [hNb]; exact Nat.two_pow_pos b
  have HNB := hide_ hNb
  clear hNb h
  go_enter Try.func50, Try.ntmps50
  go_wp2
  go_loopw [3] (fun i wr => ∃ k : Nat, k ≤ b ∧ i = .int .i64 k ∧ ∃ nq, Hid (wr = W.drewN nq)) (fun i _ => b - (intOf i).toNat)
  case atStart => exact ⟨0, Nat.zero_le _, rfl, 0, hide_ rfl⟩
  case round =>
    obtain ⟨k, hk, rfl, nq, HW⟩ := hrel
    have c1 : wr.cell? ⟨g, 0, none⟩ = some (.slice (some ⟨d, 0, none⟩) N c) := by rw [HW.out]; exact c0
    have hm := hide_ (fun q : Nat => made_any g d N c (wr.drewN q) c1 hN)
    obtain ⟨P, hP⟩ : ∃ P : Nat, P = 2 ^ k := ⟨_, rfl⟩
    have hPb : P ≤ 65536 := by rw [hP]; exact (Nat.pow_le_pow_right (by omega) (by omega : k ≤ 16) : 2 ^ k ≤ 2 ^ 16)
    have hw : wrap64 ((2 : Int) ^ k) = (P : Int) := by
      have e : (2 : Int) ^ k = (P : Int) := by rw [hP]; simp
      rw [e]
      unfold wrap64
      omega
    by_cases hlt : k < b
    · have d1 : decide (P < N) = true := by
        rw [decide_eq_true_eq, HNB.out, hP]
        exact Nat.pow_lt_pow_right (by omega) hlt
      clear hP hPb
      go_wp2
      go_quiet ((go_at_call 59; exact Calls.quiet_of_same (hm.out _)))
      go_wp2
      go_roundw
      case rel => exact ⟨k + 1, by omega, by go_num, _, hide_ (by rw [HW.out]; exact World.drewN_drewN _ _ _)⟩
      case measure => simp [intOf]; omega
    · obtain rfl : k = b := by omega
      have d1 : decide (P < N) = false := by
        rw [decide_eq_false_iff_not, HNB.out, hP]
        omega
      clear hP hPb
      go_wp2
      go_quiet ((go_at_call 59; exact Calls.quiet_of_same (hm.out _)))
      go_wp2
      go_ret
      exact ⟨k, b8, rfl, _, by rw [HW.out]; exact World.drewN_drewN _ _ _⟩
theorem Words_no (q : Nat) (D : MD) (P2 : Option Addr) (sp x : Int) (h : GateAt W q D) (hx : (Lit.int .u32 x).wf = true) (hh : Maps.has D (kx x) = false) :
    Calls Try.prog 30 #[.pointer (some ⟨q, 0, none⟩), .pointer P2, .int .u32 sp, .int .u32 x] W fun e w' => e = .returned (.tuple #[.slice none 0 0, .bool false]) ∧ w' = W := by
  have hg := Granted_any q D x W h hx
  rw [hh] at hg
  have HG := hide_ hg
  clear h hg hx hh
  go_enter Try.func30, Try.ntmps30
  go_wp2_with (go_at_call 17; refine HG.out.mono ?_; rintro e w' ⟨c, rfl, _, rfl⟩)
  go_ret2
  exact ⟨rfl, rfl⟩
theorem Words_mno (q : Nat) (D : MD) (P2 : Option Addr) (sp x : Int) (h : GateAt W q D) (hx : (Lit.int .u32 x).wf = true) (h2 : NotMade W P2) :
    Calls Try.prog 30 #[.pointer (some ⟨q, 0, none⟩), .pointer P2, .int .u32 sp, .int .u32 x] W fun e w' => e = .returned (.tuple #[.slice none 0 0, .bool false]) ∧ Below W.heap.size W w' := by
  cases hh : Maps.has D (kx x) with
  | false =>
    refine (Words_no q D P2 sp x h hx hh).mono ?_
    rintro e w' ⟨rfl, rfl⟩
    exact ⟨rfl, Below.refl _ _⟩
  | true =>
    have hg := Granted_any q D x W h hx
    rw [hh] at hg
    have HG := hide_ hg
    have HB := hide_ (Bits_not h2)
    clear h hg hx hh h2
    go_enter Try.func30, Try.ntmps30
    go_wp2_with fail
    refine HG.out.mono ?_
    rintro e w1 ⟨c, rfl, _, hw⟩
    subst w1
    go_wp2_with fail
    refine HB.out.mono ?_
    rintro e w1 ⟨rfl, hb⟩
    go_wp2
    go_ret2
    exact ⟨rfl, hb⟩
set_option maxRecDepth 100000 in
set_option maxHeartbeats 1000000 in
theorem Words_s {g d N c : Nat} {xs : List Int} (q : Nat) (D : MD) (sp x : Int) (m : Nat) (h : GateAt W q D) (hx : (Lit.int .u32 x).wf = true) (hh : Maps.has D (kx x) = true) (hat : D.atKey (kx x) z0 = .lit (.int .i64 (m : Nat))) (hm : m ≤ 15)
    (h2 : MemAt W g d N c xs) (sp0 : 0 ≤ sp) (sp1 : sp < 4294967296) :
    Calls Try.prog 30 #[.pointer (some ⟨q, 0, none⟩), .pointer (some ⟨g, 0, none⟩), .int .u32 sp, .int .u32 x] W fun e w' => ∃ A cc, e = .returned (.tuple #[.slice A m cc, .bool true]) ∧
      w'.ownsRow W.heap.size 39 1 (.slice A m cc) m (u32s (wordsAt N xs sp m)) ∧ Below W.heap.size W w' := by
  obtain ⟨i0, hi0, hz0, hz1, hz2⟩ := info_parts info_u32w
  have hg := Granted_any q D x W h hx
  rw [hh] at hg
  have HG := hide_ hg
  have HB := hide_ (Bits_s h2)
  have HAT := hide_ hat
  have HM := hide_ h2
  clear h hg hx hh h2 hat
  go_enter Try.func30, Try.ntmps30
  go_wp2_with fail
  refine HG.out.mono ?_
  rintro e w1 ⟨c', rfl, hc', hw⟩
  subst w1
  have ec : c' = (m : Int) := by
    rw [HAT.out] at hc'
    exact (congrArg (fun d : MD => match d with | .lit (.int _ a) => a | _ => 0) hc').symm
  subst ec
  clear hc'
  go_wp2_with fail
  refine HB.out.mono ?_
  rintro e w1 ⟨b, b8, rfl, nq, rfl⟩
  have dB : ((b : Int) == 0) = false := by rw [beq_eq_false_iff_ne]; omega
  go_wp2
  go_loopw [13, 31] (fun v i wr => ∃ (k : Nat) (A : Option Addr) (cc : Nat), k ≤ m ∧ i = .int .i64 k ∧ v = .slice A k cc ∧ wr.ownsRow W.heap.size 39 1 (.slice A k cc) k (u32s (wordsAt N xs sp k)) ∧ Below W.heap.size W wr) (fun _ i _ => m - (intOf i).toNat)
  case atStart => exact ⟨0, none, 0, Nat.zero_le _, rfl, rfl, World.ownsRow_nil _ _ _ _, below_draws2 (Below.refl _ _) nq⟩
  case round =>
    obtain ⟨k, A, cc, hk, rfl, rfl, hown, hb⟩ := hrel
    by_cases hlt : k < m
    · have hl := fun a : Int => Load4_s (W := wr) a (HM.out.below hb)
      have HL := hide_ hl
      have hO0 : Owns wr W.heap.size [⟨39, 1, .slice A k cc, k, u32s (wordsAt N xs sp k)⟩] := ⟨fun r hr => by rw [List.mem_singleton.1 hr]; exact hown, List.pairwise_singleton _ _⟩
      have HO := hide_ hO0
      have HBL := hide_ hb
      have hsz := hb.size
      clear hown hl hO0 hb
      go_wp2_with fail
      refine (HL.out _).mono ?_
      rintro e w3 ⟨rfl, hb3⟩
      obtain ⟨y, hy⟩ : ∃ y, y = wordAt N (sp + 4 + 4 * (k : Int)) xs 4 := ⟨_, rfl⟩
      rw [wordAt_cong (b := sp + 4 + 4 * (k : Int)) xs 4 (by omega), ← hy]
      have HY := hide_ hy
      have hO3 := HO.out.below hb3
      have HB3 := hide_ (HBL.out.trans (hb3.mono HBL.out.size))
      have hs3 : W.heap.size ≤ w3.heap.size := HB3.out.size
      clear hb3 hy HL
      go_wp2_with (at_builtin; refine wpList_append_owns _ rfl (.tmp 34) (.tmp 43) 40 rfl W.heap.size _ 0 39 1 (.slice A k cc) k (u32s (wordsAt N xs sp k)) rfl (hO3.alloc _) (by simp; omega) i0 _ 4 Try.underlying40 hi0 hz0 hz1 hz2 rfl (by omega) rfl _ _ 1 1 [.int .u32 y] rfl (reads_new w3 39 1 1 [.int .u32 y] rfl) (by simp [Value.oneCell']) (by simp only [maxLen]; omega) (by omega) ?_)
      intro v4 w4 hO4 hb4 hsz4
      obtain ⟨A4, c4, hv, _, _⟩ := ownsRow_slice (hO4.at_ (i := 0) rfl)
      simp only at hv
      subst hv
      have HO4 := hide_ (hO4.at_ (i := 0) rfl)
      have HB4 := hide_ ((HB3.out.alloc HB3.out.size _).trans hb4)
      clear hO4 hb4 hO3
      go_wp2
      go_roundw
      case rel =>
        refine ⟨k + 1, A4, c4, by omega, by go_num, rfl, ?_, HB4.out⟩
        rw [wordsAt_succ, ← HY.out, show u32s (wordsAt N xs sp k ++ [y]) = u32s (wordsAt N xs sp k) ++ [.int .u32 y] by simp]
        exact HO4.out
      case measure => simp [intOf]; omega
    · obtain rfl : k = m := by omega
      have HOW := hide_ hown
      have HBW := hide_ hb
      clear hown hb
      go_wp2
      go_ret2
      exact ⟨A, cc, rfl, HOW.out, HBW.out⟩
end
end Go.Proofs.Ytcfpclhoockcfaa
