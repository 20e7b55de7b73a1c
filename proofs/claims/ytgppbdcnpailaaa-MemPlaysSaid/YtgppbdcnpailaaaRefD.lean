/-
  The walks of the document's segment: Same, Copy, Read, Write, SetLog, Touched.
-/
import Derived.Test.YtgppbdcnpailaaaRefC
namespace Go.Proofs.Ytgppbdcnpailaaa
open Go.RowKit
set_option linter.unusedVariables false

theorem rSame_nil (P Q : Option Addr) (W : World) (h : P = none ∨ Q = none) : Calls Try.prog 126 #[.pointer P, .pointer Q] W fun e W' => e = .returned (.bool false) ∧ ∃ nq, W' = W.drewN nq := by
  have he := rptr_eq
  cases P with
  | none =>
    go_enter Try.func126, Try.ntmps126
    go_wp2
    go_quiet (fail)
    go_wp2
    go_ret
    exact ⟨rfl, _, rfl⟩
  | some p =>
    rcases h with h | rfl
    · cases h
    go_enter Try.func126, Try.ntmps126
    go_wp2
    go_quiet (fail)
    go_wp2
    go_ret
    exact ⟨rfl, _, rfl⟩
set_option maxHeartbeats 1000000 in
theorem rSame_any (r N c r' N' c' : Nat) (A A' : Option Addr) (xs ys : List Int) (w : World) (h1 : w.cell? ⟨r, 0, none⟩ = some (.slice A N c)) (h2 : w.cell? ⟨r', 0, none⟩ = some (.slice A' N' c'))
    (ha : Reads w w.heap.size 1 A N (u8s xs)) (hb : Reads w w.heap.size 1 A' N' (u8s ys)) (hn : N ≤ 65536) (hn' : N' ≤ 65536) :
    Calls Try.prog 126 #[.pointer (some ⟨r, 0, none⟩), .pointer (some ⟨r', 0, none⟩)] w fun e W' => e = .returned (.bool (decide (xs = ys))) ∧ ∃ nq, W' = w.drewN nq := by
  have he := rptr_eq
  have la : xs.length = N := by simpa using ha.1
  have lb : ys.length = N' := by simpa using hb.1
  by_cases hne : N = N'
  · subst hne
    have h0 : ((N : Int) != (N : Int)) = false := by simp
    go_enter Try.func126, Try.ntmps126
    go_wp2
    go_quiet (fail)
    go_wp2
    go_loopw [5] (fun i wr => ∃ k : Nat, k ≤ N ∧ i = .int .i64 k ∧ xs.take k = ys.take k ∧ ∃ nq, wr = w.drewN nq) (fun i _ => N - (intOf i).toNat)
    case atStart => exact ⟨0, Nat.zero_le _, rfl, by simp, _, rfl⟩
    case round =>
      obtain ⟨k, hk, rfl, heq, nq, rfl⟩ := hrel
      by_cases hlt : k < N
      · obtain ⟨ad, u, rfl, _, hx, hc⟩ := ha.at_ hlt
        obtain ⟨ad', u', rfl, _, hx', hc'⟩ := hb.at_ hlt
        have hu : u = .int .u8 (xs[k]?.getD 0) := by
          rw [List.getElem?_map, List.getElem?_eq_getElem (by omega)] at hx
          rw [List.getElem?_eq_getElem (by omega)]
          simpa using hx.symm
        have hu' : u' = .int .u8 (ys[k]?.getD 0) := by
          rw [List.getElem?_map, List.getElem?_eq_getElem (by omega)] at hx'
          rw [List.getElem?_eq_getElem (by omega)]
          simpa using hx'.symm
        subst hu hu'
        have H := hide_ (beq_get xs ys k (by omega) (by omega) heq)
        have HE := hide_ heq
        clear hx hx' heq ha hb
        have HL := hide_ (show xs.length = N ∧ ys.length = N from ⟨la, lb⟩)
        clear la lb
        go_wp2
        go_quiet (fail)
        go_wp2
        · have hd : (xs[k]?.getD 0 != ys[k]?.getD 0) = true := by assumption
          go_ret
          refine ⟨?_, _, World.drewN_drewN _ _ _⟩
          have : xs ≠ ys := by rintro rfl; simp at hd
          simp [this]
        · have hd : (xs[k]?.getD 0 != ys[k]?.getD 0) = false := by assumption
          go_roundw
          case rel => exact ⟨k + 1, by omega, by go_num, H.out.2 (by simpa using hd), _, rfl⟩
          case measure => simp [intOf]; omega
      · obtain rfl : k = N := by omega
        go_wp2
        go_ret
        exact ⟨by rw [List.take_of_length_le (by omega), List.take_of_length_le (by omega)] at heq; simp [heq], nq, rfl⟩
  · have h0 : ((N : Int) != (N' : Int)) = true := by simp; omega
    go_enter Try.func126, Try.ntmps126
    go_wp2
    go_quiet (fail)
    go_wp2
    go_ret
    refine ⟨?_, _, rfl⟩
    have : xs ≠ ys := by rintro rfl; omega
    simp [this]
section
variable {W : World} {B r b N c : Nat} {on : Bool} {lv : Value} {ts : List (Int × Bool)} {xs : List Int} {ex : List Ro}
theorem rCopy_nil (a f n : Int) (W : World) : Calls Try.prog 122 #[.pointer none, .int .u32 a, .int .u32 f, .int .u32 n] W fun e W' => e = .returned (.int .i64 1) ∧ W' = W := by
  have he := rptr_eq
  go_enter Try.func122, Try.ntmps122
  go_wp2
  go_ret
  exact ⟨rfl, rfl⟩
theorem rCopy_big (a f n : Int) (W : World) (h : 4096 < n) : Calls Try.prog 122 #[.pointer (some ⟨r, 0, none⟩), .int .u32 a, .int .u32 f, .int .u32 n] W fun e W' => e = .returned (.int .i64 92) ∧ W' = W := by
  have he := rptr_eq
  have d1 : decide ((4096 : Int) < n) = true := by simp; omega
  go_enter Try.func122, Try.ntmps122
  go_wp2
  go_ret
  exact ⟨rfl, rfl⟩
set_option maxHeartbeats 1000000 in
theorem rCopy_any (a f : Int) (n : Nat) (hO : Owns W B (refRows r b N c on lv ts xs ++ ex)) (hB : B ≤ W.heap.size) (hN : IsPow N) (hx : xs.length = N) (a0 : 0 ≤ a) (a1 : a ≤ 4294967295) (f0 : 0 ≤ f) (f1 : f ≤ 4294967295) (hn : n ≤ 4096) :
    Calls Try.prog 122 #[.pointer (some ⟨r, 0, none⟩), .int .u32 a, .int .u32 f, .int .u32 n] W fun e W' => e = .returned (.int .i64 0) ∧ RefS W' B r b N c on (notes N on true a (notes N on false f ts n) n) (puts N a (readN N f xs n) xs n) ex ∧ Below B W W' := by
  have he := rptr_eq
  have hg := hide_ (rget_any f n hO hB hN hx f0 f1 hn)
  have d1 : decide ((4096 : Int) < (n : Int)) = false := by simp; omega
  have HN := hide_ hN
  have HX := hide_ hx
  have HBB := hide_ hB
  clear hO hN hx hB
  go_enter Try.func122, Try.ntmps122
  go_wp2_with fail
  refine hg.out.mono ?_
  rintro e w2 ⟨A', c', rfl, ⟨lv2, hO2⟩, hb2⟩
  have hp := hide_ (rput_any (W := w2) a A' n c' (readN N f xs n) hO2 (Nat.le_trans HBB.out hb2.size) HN.out HX.out a0 a1 (readN_len _ _ _ _) hn
    (fun W1 _ _ _ h1 _ => Reads.of_own (h1.1 (byteR A' n c' (readN N f xs n)) (by simp))))
  have HB2 := hide_ hb2
  clear hO2 hb2 hg
  go_wp2_with fail
  refine hp.out.mono ?_
  rintro e w3 ⟨rfl, ⟨lv3, hO3⟩, hb3⟩
  have HE : Hid (RefS w3 B r b N c on (notes N on true a (notes N on false f ts n) n) (puts N a (readN N f xs n) xs n) ex ∧ Below B W w3) := hide_ ⟨⟨lv3, hO3.sub ((List.Sublist.refl _).append (.cons _ (.refl _)))⟩, HB2.out.trans hb3⟩
  clear hO3 hb3 hp HB2
  go_wp2
  go_ret
  exact ⟨rfl, HE.out⟩
theorem rRead_nil (a n : Int) (W : World) : Calls Try.prog 123 #[.pointer none, .int .u32 a, .int .i64 n] W fun e W' => e = .returned (.tuple #[.slice none 0 0, .int .i64 1]) ∧ W' = W := by
  have he := rptr_eq
  go_enter Try.func123, Try.ntmps123
  go_wp2
  go_ret2
  exact ⟨rfl, rfl⟩
theorem rRead_big (a n : Int) (W : World) (h : n < 0 ∨ 4096 < n) : Calls Try.prog 123 #[.pointer (some ⟨r, 0, none⟩), .int .u32 a, .int .i64 n] W fun e W' => e = .returned (.tuple #[.slice none 0 0, .int .i64 92]) ∧ W' = W := by
  have he := rptr_eq
  by_cases h0 : n < 0
  · have d1 : decide (n < 0) = true := by simp; omega
    clear h
    go_enter Try.func123, Try.ntmps123
    go_wp2
    go_ret2
    exact ⟨rfl, rfl⟩
  · have d1 : decide (n < 0) = false := by simp; omega
    have d2 : decide ((4096 : Int) < n) = true := by simp; omega
    clear h
    go_enter Try.func123, Try.ntmps123
    go_wp2
    go_ret2
    exact ⟨rfl, rfl⟩
theorem rRead_any (a : Int) (n : Nat) (hO : Owns W B (refRows r b N c on lv ts xs ++ ex)) (hB : B ≤ W.heap.size) (hN : IsPow N) (hx : xs.length = N) (a0 : 0 ≤ a) (a1 : a ≤ 4294967295) (hn : n ≤ 4096) :
    Calls Try.prog 123 #[.pointer (some ⟨r, 0, none⟩), .int .u32 a, .int .i64 n] W fun e W' => ∃ A' c', e = .returned (.tuple #[.slice A' n c', .int .i64 0]) ∧ RefS W' B r b N c on (notes N on false a ts n) xs (byteR A' n c' (readN N a xs n) :: ex) ∧ Below B W W' := by
  have he := rptr_eq
  have hg := hide_ (rget_any a n hO hB hN hx a0 a1 hn)
  have d1 : decide ((n : Int) < 0) = false := by simp
  have d2 : decide ((4096 : Int) < (n : Int)) = false := by simp; omega
  clear hO hN hx hB
  go_enter Try.func123, Try.ntmps123
  go_wp2_with fail
  refine hg.out.mono ?_
  rintro e w2 ⟨A', c', rfl, h2, h3⟩
  have H2 := hide_ h2
  have H3 := hide_ h3
  clear h2 h3 hg
  go_wp2
  go_ret2
  exact ⟨A', c', rfl, H2.out, H3.out⟩
theorem rWrite_nil (a : Int) (A : Option Addr) (n cb : Nat) (W : World) : Calls Try.prog 125 #[.pointer none, .int .u32 a, .slice A n cb] W fun e W' => e = .returned (.int .i64 1) ∧ W' = W := by
  have he := rptr_eq
  go_enter Try.func125, Try.ntmps125
  go_wp2
  go_ret
  exact ⟨rfl, rfl⟩
theorem rWrite_big (a : Int) (A : Option Addr) (n cb : Nat) (W : World) (h : 4096 < n) : Calls Try.prog 125 #[.pointer (some ⟨r, 0, none⟩), .int .u32 a, .slice A n cb] W fun e W' => e = .returned (.int .i64 92) ∧ W' = W := by
  have he := rptr_eq
  have d1 : decide ((4096 : Int) < (n : Int)) = true := by simp; omega
  go_enter Try.func125, Try.ntmps125
  go_wp2
  go_ret
  exact ⟨rfl, rfl⟩
theorem rWrite_any (a : Int) (A : Option Addr) (n cb Bz : Nat) (bs : List Int) (hO : Owns W B (refRows r b N c on lv ts xs ++ ex)) (hB : B ≤ W.heap.size) (hN : IsPow N) (hx : xs.length = N) (a0 : 0 ≤ a) (a1 : a ≤ 4294967295) (hn : n ≤ 4096) (hr : Reads W Bz 1 A n (u8s bs)) (hBz : Bz ≤ B) :
    Calls Try.prog 125 #[.pointer (some ⟨r, 0, none⟩), .int .u32 a, .slice A n cb] W fun e W' => e = .returned (.int .i64 0) ∧ RefS W' B r b N c on (notes N on true a ts n) (puts N a bs xs n) ex ∧ Below B W W' := by
  have he := rptr_eq
  have hp := hide_ (rput_any (W := W) a A n cb bs hO hB hN hx a0 a1 (by simpa using hr.1) hn
    (fun W1 _ _ _ _ hb => (hr.below (hb.mono hBz)).more (Nat.le_trans hBz (Nat.le_trans hB hb.size))))
  have d1 : decide ((4096 : Int) < (n : Int)) = false := by simp; omega
  clear hO hN hx hB hr
  go_enter Try.func125, Try.ntmps125
  go_wp2_with fail
  refine hp.out.mono ?_
  rintro e w3 ⟨rfl, h2, h3⟩
  have H2 := hide_ h2
  have H3 := hide_ h3
  clear h2 h3 hp
  go_wp2
  go_ret
  exact ⟨rfl, H2.out, H3.out⟩
theorem rSetLog_nil (b : Bool) (W : World) : Calls Try.prog 55 #[.pointer none, .bool b] W fun e W' => e = .returned (.tuple #[]) ∧ W' = W := by
  have he := rptr_eq
  go_enter Try.func55, Try.ntmps55
  go_wp2
  refine bodyPost_ret (results_none rfl _ _ _) rfl ?_
  exact ⟨rfl, rfl⟩
theorem rSetLog_any (f : Bool) (hO : Owns W B (refRows r b N c on lv ts xs ++ ex)) :
    Calls Try.prog 55 #[.pointer (some ⟨r, 0, none⟩), .bool f] W fun e W' => e = .returned (.tuple #[]) ∧ Owns W' B (refRows r b N c f (.slice none 0 0) [] xs ++ ex) ∧ Below B W W' := by
  have c1 : W.cell? ⟨r, 1, none⟩ = some (.bool on) := hO.cell (i := 0) rfl rfl
  have c2 : W.cell? ⟨r, 2, none⟩ = some lv := hO.cell (i := 0) rfl rfl
  have he := rptr_eq
  obtain ⟨A, ct, htv, _, _⟩ := ownsRow_slice (hO.at_ (i := 2) rfl)
  simp only at htv
  subst htv
  have f1 := hO.frozen (i := 0) rfl 1
  have f2 := hO.frozen (i := 0) rfl 2
  have hb := hO.base (i := 0) rfl
  have h1 := (hO.store (i := 0) (e := 142) (size := 1) (n := 3) (g := r) (c := 3) (j := 1) rfl (by simp) (.bool f)).store (i := 0) (e := 142) (size := 1) (n := 3) (g := r) (c := 3) (j := 2) rfl (by simp) (.slice none 0 0)
  have hb1 := ((Below.refl B W).setCell (p := ⟨r, 1, none⟩) hb.1 (.bool f)).setCell (p := ⟨r, 2, none⟩) hb.1 (.slice none 0 0)
  have h2 : Owns ((W.setCell ⟨r, 1, none⟩ (.bool f)).setCell ⟨r, 2, none⟩ (.slice none 0 0)) B (refRows r b N c f (.slice none 0 0) [] xs ++ ex) := by
    have h3 := (h1.sub (qs := [⟨142, 1, .slice (some ⟨r, 0, none⟩) 3 3, 3, [.slice (some ⟨b, 0, none⟩) N c, .bool f, .slice none 0 0]⟩, ⟨5, 1, .slice (some ⟨b, 0, none⟩) N c, N, u8s xs⟩] ++ ex) (.cons_cons _ (.cons_cons _ (.cons _ (.refl _))))).nilrow 73 2
    refine h3.swap ?_
    unfold refRows
    rw [List.append_assoc]
    exact (List.perm_append_left_iff [_, _]).2 List.perm_append_comm
  have H2 := hide_ h2
  have HB1 := hide_ hb1
  clear h1 h2 hb1 hO
  go_enter Try.func55, Try.ntmps55
  go_wp2
  go_end0
  exact ⟨rfl, H2.out, HB1.out⟩
theorem rTouched_nil (W : World) : Calls Try.prog 57 #[.pointer none] W fun e W' => e = .returned (.slice none 0 0) ∧ W' = W := by
  have he := rptr_eq
  go_enter Try.func57, Try.ntmps57
  go_wp2
  go_ret
  exact ⟨rfl, rfl⟩
theorem rTouched_own (hO : Owns W B (refRows r b N c on lv ts xs ++ ex)) :
    Calls Try.prog 57 #[.pointer (some ⟨r, 0, none⟩)] W fun e W' => ∃ A ct, e = .returned (.slice A ts.length ct) ∧ Owns W' B (refRows r b N c on (.slice none 0 0) [] xs ++ (touchR A ts.length ct ts :: ex)) ∧ Below B W W' := by
  have c2 : W.cell? ⟨r, 2, none⟩ = some lv := hO.cell (i := 0) rfl rfl
  have he := rptr_eq
  obtain ⟨A, ct, htv, hct, hcm⟩ := ownsRow_slice (hO.at_ (i := 2) rfl)
  simp only at htv
  subst htv
  have f2 := hO.frozen (i := 0) rfl 2
  have hb := hO.base (i := 0) rfl
  have h1 := hO.store (i := 0) (e := 142) (size := 1) (n := 3) (g := r) (c := 3) (j := 2) rfl (by simp) (.slice none 0 0)
  have hb1 := (Below.refl B W).setCell (p := ⟨r, 2, none⟩) hb.1 (.slice none 0 0)
  have h2 : Owns (W.setCell ⟨r, 2, none⟩ (.slice none 0 0)) B (refRows r b N c on (.slice none 0 0) [] xs ++ (touchR A ts.length ct ts :: ex)) := by
    have h3 := h1.nilrow 73 2
    refine h3.swap ?_
    unfold refRows
    simp only [List.cons_append, List.nil_append, List.set_cons_zero, List.set_cons_succ]
    exact .cons _ (.cons _ (List.perm_append_comm (l₁ := touchR A ts.length ct ts :: ex) (l₂ := [_])))
  obtain ⟨m, hmm⟩ : ∃ m, m = ts.length := ⟨_, rfl⟩
  rw [← hmm] at c2 h2 ⊢
  have H2 := hide_ h2
  have HB1 := hide_ hb1
  clear h1 h2 hb1 hO hmm hct hcm
  go_enter Try.func57, Try.ntmps57
  go_wp2
  go_ret
  exact ⟨A, ct, rfl, H2.out, HB1.out⟩
end
end Go.Proofs.Ytgppbdcnpailaaa
