/-
  The walk of mem's each, once for each function that it is called with (written by gen_each.py).
-/
import Derived.Test.YtgppbdcnpailaaaMem
namespace Go.Proofs.Ytgppbdcnpailaaa
open Go.RowKit
set_option maxRecDepth 100000 in
set_option maxHeartbeats 1000000 in
theorem each_load (g d N c n p1 p2 : Nat) (logs wrt : Bool) (a : Int) (xs : Nat → List Int) (ex : Nat → List Ro) (ts : List (Int × Bool)) (tv : Value) (B : Nat) (W : World)
    (hO : Owns W B (memRows g d N c logs tv ts (xs 0) ++ ex 0)) (hB : B ≤ W.heap.size) (hN : IsPow N) (hn : n ≤ 4294967296)
    (hdo : ∀ k, k < n → ∀ W1 tv ts, Owns W1 B (memRows g d N c logs tv ts (xs k) ++ ex k) → Below B W W1 → Calls Try.prog 112 #[.int .i64 k, .int .u32 (plc N a k), .pointer (some ⟨p1, 0, none⟩), .pointer (some ⟨p2, 0, none⟩)] W1 fun e W' => e = .returned (.tuple #[]) ∧
      Owns W' B (memRows g d N c logs tv ts (xs (k + 1)) ++ ex (k + 1)) ∧ Below B W1 W') :
    Calls Try.prog 110 #[.pointer (some ⟨g, 0, none⟩), .int .u32 a, .int .i64 n, .bool wrt, .func (.func 112) #[] #[.pointer (some ⟨p1, 0, none⟩), .pointer (some ⟨p2, 0, none⟩)]] W fun e W' => e = .returned (.tuple #[]) ∧
      ∃ tv', Owns W' B (memRows g d N c logs tv' (notes N logs wrt a ts n) (xs n) ++ ex n) ∧ Below B W W' := by
  obtain ⟨i0, hi0, hz0, hz1, hz2⟩ := info_parts touch_info
  have HDO := hide_ hdo
  have HN := hide_ hN
  clear hdo hN
  go_enter Try.func110, Try.ntmps110
  go_wp2
  go_loopw [13] (fun i wr => ∃ (k : Nat) (tv' : Value), k ≤ n ∧ i = .int .i64 k ∧ Owns wr B (memRows g d N c logs tv' (notes N logs wrt a ts k) (xs k) ++ ex k) ∧ Below B W wr) (fun i _ => n - (intOf i).toNat)
  case atStart => exact ⟨0, tv, Nat.zero_le _, rfl, hO, Below.refl _ _⟩
  case round =>
    clear hO
    obtain ⟨k, tv', hk, rfl, hO, hbl⟩ := hrel
    by_cases hlt : k < n
    · have c0 : wr.cell? ⟨g, 0, none⟩ = some (.slice (some ⟨d, 0, none⟩) N c) := hO.cell (i := 0) rfl rfl
      have c1 : wr.cell? ⟨g, 1, none⟩ = some (.bool logs) := hO.cell (i := 0) rfl rfl
      have hP := hide_ (place_any g d N c ((a + k) % 4294967296) wr c0 HN.out (by omega) (by omega))
      obtain ⟨p, hp⟩ : ∃ p, p = plc N a k := ⟨_, rfl⟩
      have hdo := HDO.out k hlt
      have hns : notes N logs wrt a ts (k + 1) = noted logs wrt (notes N logs wrt a ts k) p := by rw [notes, hp]
      rw [show (a + (k : Int)) % 4294967296 % (N : Int) = plc N a k from rfl, ← hp] at hP
      rw [← hp] at hdo
      have HD := hide_ hdo
      have HS := hide_ hns
      have hsz := hbl.size
      clear hdo hns hp
      obtain ⟨tk, htk⟩ : ∃ tk, tk = notes N logs wrt a ts k := ⟨_, rfl⟩
      rw [← htk] at hO HS
      clear htk
      by_cases hlog : logs = true ∧ tk.length < 65536
      · obtain ⟨rfl, hlen⟩ := hlog
        have hnt : noted true wrt tk p = tk ++ [(p, wrt)] := by unfold noted; simp [hlen]
        obtain ⟨A, ct, htv, _, _⟩ := ownsRow_slice (hO.at_ (i := 2) rfl)
        simp only at htv
        subst htv
        have c2 : wr.cell? ⟨g, 2, none⟩ = some (.slice A tk.length ct) := hO.cell (i := 0) rfl rfl
        have d1 : decide (((tk.length : Nat) : Int) < 65536) = true := by simp; omega
        have HNT := hide_ hnt
        obtain ⟨m, hm⟩ : ∃ m, m = tk.length := ⟨_, rfl⟩
        have HM := hide_ hm
        rw [← hm] at c2 d1 hlen
        have hO' : Owns wr B (memRows g d N c true (.slice A m ct) tk (xs k) ++ ex k) := by rw [hm]; exact hO
        clear hnt hm hO
        go_wp2_with (first
          | (go_at_call 114; refine (hP.out).mono ?_; rintro e w' ⟨rfl, rfl⟩)
          | (at_builtin; refine wpList_append_owns _ rfl (.tmp 38) (.tmp 42) 70 rfl B _ 2 73 2 (.slice A m ct) m (touchCells tk) (by rw [HM.out]; rfl) (hO'.alloc _) (by simp; omega) i0 _ 8 Try.underlying70 hi0 hz0 hz1 hz2 rfl (by omega) rfl _ _ 1 1 [.int .u32 p, .bool wrt] rfl (reads_new _ 73 2 1 [.int .u32 p, .bool wrt] rfl) (by simp [Value.oneCell']) (by simp only [maxLen]; omega) (by omega) ?_))
        intro tv2 w2 hO2 hb2 hsz2
        obtain ⟨A2, ct2, htv2, _, _⟩ := ownsRow_slice (hO2.at_ (i := 2) rfl)
        simp only at htv2
        subst htv2
        have c3 : w2.cell? ⟨g, 2, none⟩ = some (.slice A m ct) := hO2.cell (i := 0) rfl rfl
        have f3 := hO2.frozen (i := 0) rfl 2
        have b3 : B ≤ g ∧ g < w2.heap.size := hO2.base (i := 0) rfl
        have hO3 : Owns (w2.setCell ⟨g, 2, none⟩ (.slice A2 (m + 1) ct2)) B (memRows g d N c true (.slice A2 (m + 1) ct2) (tk ++ [(p, wrt)]) (xs k) ++ ex k) := by
          have := hO2.store (i := 0) (e := 83) (size := 1) (n := 3) (g := g) (c := 3) (j := 2) rfl (by simp) (.slice A2 (m + 1) ct2)
          unfold memRows
          rw [touchCells_snoc, List.length_append, List.length_singleton, ← HM.out]
          exact this
        have hb3 := (hb2.setCell (p := ⟨g, 2, none⟩) b3.1 (.slice A2 (m + 1) ct2))
        have HB3 := hide_ hb3
        have HO3 := hide_ hO3
        clear hO2 hb2 hO' hO3 hb3 c2
        go_wp2_with (go_at_call 112; refine (HD.out _ _ _ HO3.out ((hbl.alloc (Nat.le_trans hB hsz) _).trans HB3.out)).mono ?_; rintro e w4 ⟨rfl, hO4, hb4⟩)
        go_roundw
        case rel => exact ⟨k + 1, _, by omega, by go_num, by rw [HS.out, HNT.out]; exact hO4, ((hbl.alloc (Nat.le_trans hB hsz) _).trans HB3.out).trans hb4⟩
        case measure => simp [intOf]; omega
      · have hnt : noted logs wrt tk p = tk := by
          unfold noted
          rw [if_neg]
          simp only [Bool.and_eq_true, decide_eq_true_eq]
          exact hlog
        rw [hnt] at HS
        cases logs with
        | false =>
          go_wp2_with (first
            | (go_at_call 114; refine (hP.out).mono ?_; rintro e w' ⟨rfl, rfl⟩)
            | (go_at_call 112; refine (HD.out _ _ _ hO hbl).mono ?_; rintro e w2 ⟨rfl, hO2, hb2⟩))
          go_roundw
          case rel => exact ⟨k + 1, _, by omega, by go_num, by rw [HS.out]; exact hO2, hbl.trans hb2⟩
          case measure => simp [intOf]; omega
        | true =>
          have hlen : ¬ tk.length < 65536 := fun h => hlog ⟨rfl, h⟩
          have d1 : decide (((tk.length : Nat) : Int) < 65536) = false := by simp; omega
          obtain ⟨A, ct, htv, _, _⟩ := ownsRow_slice (hO.at_ (i := 2) rfl)
          simp only at htv
          subst htv
          have c2 : wr.cell? ⟨g, 2, none⟩ = some (.slice A tk.length ct) := hO.cell (i := 0) rfl rfl
          clear hlen hlog
          go_wp2_with (first
            | (go_at_call 114; refine (hP.out).mono ?_; rintro e w' ⟨rfl, rfl⟩)
            | (go_at_call 112; refine (HD.out _ _ _ hO hbl).mono ?_; rintro e w2 ⟨rfl, hO2, hb2⟩))
          go_roundw
          case rel => exact ⟨k + 1, _, by omega, by go_num, by rw [HS.out]; exact hO2, hbl.trans hb2⟩
          case measure => simp [intOf]; omega
    · obtain rfl : k = n := by omega
      go_wp2
      go_end0
      exact ⟨rfl, tv', hO, hbl⟩
set_option maxRecDepth 100000 in
set_option maxHeartbeats 1000000 in
theorem each_store (g d N c n p1 p2 : Nat) (logs wrt : Bool) (a : Int) (xs : Nat → List Int) (ex : Nat → List Ro) (ts : List (Int × Bool)) (tv : Value) (B : Nat) (W : World)
    (hO : Owns W B (memRows g d N c logs tv ts (xs 0) ++ ex 0)) (hB : B ≤ W.heap.size) (hN : IsPow N) (hn : n ≤ 4294967296)
    (hdo : ∀ k, k < n → ∀ W1 tv ts, Owns W1 B (memRows g d N c logs tv ts (xs k) ++ ex k) → Below B W W1 → Calls Try.prog 111 #[.int .i64 k, .int .u32 (plc N a k), .pointer (some ⟨p1, 0, none⟩), .pointer (some ⟨p2, 0, none⟩)] W1 fun e W' => e = .returned (.tuple #[]) ∧
      Owns W' B (memRows g d N c logs tv ts (xs (k + 1)) ++ ex (k + 1)) ∧ Below B W1 W') :
    Calls Try.prog 110 #[.pointer (some ⟨g, 0, none⟩), .int .u32 a, .int .i64 n, .bool wrt, .func (.func 111) #[] #[.pointer (some ⟨p1, 0, none⟩), .pointer (some ⟨p2, 0, none⟩)]] W fun e W' => e = .returned (.tuple #[]) ∧
      ∃ tv', Owns W' B (memRows g d N c logs tv' (notes N logs wrt a ts n) (xs n) ++ ex n) ∧ Below B W W' := by
  obtain ⟨i0, hi0, hz0, hz1, hz2⟩ := info_parts touch_info
  have HDO := hide_ hdo
  have HN := hide_ hN
  clear hdo hN
  go_enter Try.func110, Try.ntmps110
  go_wp2
  go_loopw [13] (fun i wr => ∃ (k : Nat) (tv' : Value), k ≤ n ∧ i = .int .i64 k ∧ Owns wr B (memRows g d N c logs tv' (notes N logs wrt a ts k) (xs k) ++ ex k) ∧ Below B W wr) (fun i _ => n - (intOf i).toNat)
  case atStart => exact ⟨0, tv, Nat.zero_le _, rfl, hO, Below.refl _ _⟩
  case round =>
    clear hO
    obtain ⟨k, tv', hk, rfl, hO, hbl⟩ := hrel
    by_cases hlt : k < n
    · have c0 : wr.cell? ⟨g, 0, none⟩ = some (.slice (some ⟨d, 0, none⟩) N c) := hO.cell (i := 0) rfl rfl
      have c1 : wr.cell? ⟨g, 1, none⟩ = some (.bool logs) := hO.cell (i := 0) rfl rfl
      have hP := hide_ (place_any g d N c ((a + k) % 4294967296) wr c0 HN.out (by omega) (by omega))
      obtain ⟨p, hp⟩ : ∃ p, p = plc N a k := ⟨_, rfl⟩
      have hdo := HDO.out k hlt
      have hns : notes N logs wrt a ts (k + 1) = noted logs wrt (notes N logs wrt a ts k) p := by rw [notes, hp]
      rw [show (a + (k : Int)) % 4294967296 % (N : Int) = plc N a k from rfl, ← hp] at hP
      rw [← hp] at hdo
      have HD := hide_ hdo
      have HS := hide_ hns
      have hsz := hbl.size
      clear hdo hns hp
      obtain ⟨tk, htk⟩ : ∃ tk, tk = notes N logs wrt a ts k := ⟨_, rfl⟩
      rw [← htk] at hO HS
      clear htk
      by_cases hlog : logs = true ∧ tk.length < 65536
      · obtain ⟨rfl, hlen⟩ := hlog
        have hnt : noted true wrt tk p = tk ++ [(p, wrt)] := by unfold noted; simp [hlen]
        obtain ⟨A, ct, htv, _, _⟩ := ownsRow_slice (hO.at_ (i := 2) rfl)
        simp only at htv
        subst htv
        have c2 : wr.cell? ⟨g, 2, none⟩ = some (.slice A tk.length ct) := hO.cell (i := 0) rfl rfl
        have d1 : decide (((tk.length : Nat) : Int) < 65536) = true := by simp; omega
        have HNT := hide_ hnt
        obtain ⟨m, hm⟩ : ∃ m, m = tk.length := ⟨_, rfl⟩
        have HM := hide_ hm
        rw [← hm] at c2 d1 hlen
        have hO' : Owns wr B (memRows g d N c true (.slice A m ct) tk (xs k) ++ ex k) := by rw [hm]; exact hO
        clear hnt hm hO
        go_wp2_with (first
          | (go_at_call 114; refine (hP.out).mono ?_; rintro e w' ⟨rfl, rfl⟩)
          | (at_builtin; refine wpList_append_owns _ rfl (.tmp 38) (.tmp 42) 70 rfl B _ 2 73 2 (.slice A m ct) m (touchCells tk) (by rw [HM.out]; rfl) (hO'.alloc _) (by simp; omega) i0 _ 8 Try.underlying70 hi0 hz0 hz1 hz2 rfl (by omega) rfl _ _ 1 1 [.int .u32 p, .bool wrt] rfl (reads_new _ 73 2 1 [.int .u32 p, .bool wrt] rfl) (by simp [Value.oneCell']) (by simp only [maxLen]; omega) (by omega) ?_))
        intro tv2 w2 hO2 hb2 hsz2
        obtain ⟨A2, ct2, htv2, _, _⟩ := ownsRow_slice (hO2.at_ (i := 2) rfl)
        simp only at htv2
        subst htv2
        have c3 : w2.cell? ⟨g, 2, none⟩ = some (.slice A m ct) := hO2.cell (i := 0) rfl rfl
        have f3 := hO2.frozen (i := 0) rfl 2
        have b3 : B ≤ g ∧ g < w2.heap.size := hO2.base (i := 0) rfl
        have hO3 : Owns (w2.setCell ⟨g, 2, none⟩ (.slice A2 (m + 1) ct2)) B (memRows g d N c true (.slice A2 (m + 1) ct2) (tk ++ [(p, wrt)]) (xs k) ++ ex k) := by
          have := hO2.store (i := 0) (e := 83) (size := 1) (n := 3) (g := g) (c := 3) (j := 2) rfl (by simp) (.slice A2 (m + 1) ct2)
          unfold memRows
          rw [touchCells_snoc, List.length_append, List.length_singleton, ← HM.out]
          exact this
        have hb3 := (hb2.setCell (p := ⟨g, 2, none⟩) b3.1 (.slice A2 (m + 1) ct2))
        have HB3 := hide_ hb3
        have HO3 := hide_ hO3
        clear hO2 hb2 hO' hO3 hb3 c2
        go_wp2_with (go_at_call 111; refine (HD.out _ _ _ HO3.out ((hbl.alloc (Nat.le_trans hB hsz) _).trans HB3.out)).mono ?_; rintro e w4 ⟨rfl, hO4, hb4⟩)
        go_roundw
        case rel => exact ⟨k + 1, _, by omega, by go_num, by rw [HS.out, HNT.out]; exact hO4, ((hbl.alloc (Nat.le_trans hB hsz) _).trans HB3.out).trans hb4⟩
        case measure => simp [intOf]; omega
      · have hnt : noted logs wrt tk p = tk := by
          unfold noted
          rw [if_neg]
          simp only [Bool.and_eq_true, decide_eq_true_eq]
          exact hlog
        rw [hnt] at HS
        cases logs with
        | false =>
          go_wp2_with (first
            | (go_at_call 114; refine (hP.out).mono ?_; rintro e w' ⟨rfl, rfl⟩)
            | (go_at_call 111; refine (HD.out _ _ _ hO hbl).mono ?_; rintro e w2 ⟨rfl, hO2, hb2⟩))
          go_roundw
          case rel => exact ⟨k + 1, _, by omega, by go_num, by rw [HS.out]; exact hO2, hbl.trans hb2⟩
          case measure => simp [intOf]; omega
        | true =>
          have hlen : ¬ tk.length < 65536 := fun h => hlog ⟨rfl, h⟩
          have d1 : decide (((tk.length : Nat) : Int) < 65536) = false := by simp; omega
          obtain ⟨A, ct, htv, _, _⟩ := ownsRow_slice (hO.at_ (i := 2) rfl)
          simp only at htv
          subst htv
          have c2 : wr.cell? ⟨g, 2, none⟩ = some (.slice A tk.length ct) := hO.cell (i := 0) rfl rfl
          clear hlen hlog
          go_wp2_with (first
            | (go_at_call 114; refine (hP.out).mono ?_; rintro e w' ⟨rfl, rfl⟩)
            | (go_at_call 111; refine (HD.out _ _ _ hO hbl).mono ?_; rintro e w2 ⟨rfl, hO2, hb2⟩))
          go_roundw
          case rel => exact ⟨k + 1, _, by omega, by go_num, by rw [HS.out]; exact hO2, hbl.trans hb2⟩
          case measure => simp [intOf]; omega
    · obtain rfl : k = n := by omega
      go_wp2
      go_end0
      exact ⟨rfl, tv', hO, hbl⟩
set_option maxRecDepth 100000 in
set_option maxHeartbeats 1000000 in
theorem each_read (g d N c n p1 p2 : Nat) (logs wrt : Bool) (a : Int) (xs : Nat → List Int) (ex : Nat → List Ro) (ts : List (Int × Bool)) (tv : Value) (B : Nat) (W : World)
    (hO : Owns W B (memRows g d N c logs tv ts (xs 0) ++ ex 0)) (hB : B ≤ W.heap.size) (hN : IsPow N) (hn : n ≤ 4294967296)
    (hdo : ∀ k, k < n → ∀ W1 tv ts, Owns W1 B (memRows g d N c logs tv ts (xs k) ++ ex k) → Below B W W1 → Calls Try.prog 116 #[.int .i64 k, .int .u32 (plc N a k), .pointer (some ⟨p1, 0, none⟩), .pointer (some ⟨p2, 0, none⟩)] W1 fun e W' => e = .returned (.tuple #[]) ∧
      Owns W' B (memRows g d N c logs tv ts (xs (k + 1)) ++ ex (k + 1)) ∧ Below B W1 W') :
    Calls Try.prog 110 #[.pointer (some ⟨g, 0, none⟩), .int .u32 a, .int .i64 n, .bool wrt, .func (.func 116) #[] #[.pointer (some ⟨p1, 0, none⟩), .pointer (some ⟨p2, 0, none⟩)]] W fun e W' => e = .returned (.tuple #[]) ∧
      ∃ tv', Owns W' B (memRows g d N c logs tv' (notes N logs wrt a ts n) (xs n) ++ ex n) ∧ Below B W W' := by
  obtain ⟨i0, hi0, hz0, hz1, hz2⟩ := info_parts touch_info
  have HDO := hide_ hdo
  have HN := hide_ hN
  clear hdo hN
  go_enter Try.func110, Try.ntmps110
  go_wp2
  go_loopw [13] (fun i wr => ∃ (k : Nat) (tv' : Value), k ≤ n ∧ i = .int .i64 k ∧ Owns wr B (memRows g d N c logs tv' (notes N logs wrt a ts k) (xs k) ++ ex k) ∧ Below B W wr) (fun i _ => n - (intOf i).toNat)
  case atStart => exact ⟨0, tv, Nat.zero_le _, rfl, hO, Below.refl _ _⟩
  case round =>
    clear hO
    obtain ⟨k, tv', hk, rfl, hO, hbl⟩ := hrel
    by_cases hlt : k < n
    · have c0 : wr.cell? ⟨g, 0, none⟩ = some (.slice (some ⟨d, 0, none⟩) N c) := hO.cell (i := 0) rfl rfl
      have c1 : wr.cell? ⟨g, 1, none⟩ = some (.bool logs) := hO.cell (i := 0) rfl rfl
      have hP := hide_ (place_any g d N c ((a + k) % 4294967296) wr c0 HN.out (by omega) (by omega))
      obtain ⟨p, hp⟩ : ∃ p, p = plc N a k := ⟨_, rfl⟩
      have hdo := HDO.out k hlt
      have hns : notes N logs wrt a ts (k + 1) = noted logs wrt (notes N logs wrt a ts k) p := by rw [notes, hp]
      rw [show (a + (k : Int)) % 4294967296 % (N : Int) = plc N a k from rfl, ← hp] at hP
      rw [← hp] at hdo
      have HD := hide_ hdo
      have HS := hide_ hns
      have hsz := hbl.size
      clear hdo hns hp
      obtain ⟨tk, htk⟩ : ∃ tk, tk = notes N logs wrt a ts k := ⟨_, rfl⟩
      rw [← htk] at hO HS
      clear htk
      by_cases hlog : logs = true ∧ tk.length < 65536
      · obtain ⟨rfl, hlen⟩ := hlog
        have hnt : noted true wrt tk p = tk ++ [(p, wrt)] := by unfold noted; simp [hlen]
        obtain ⟨A, ct, htv, _, _⟩ := ownsRow_slice (hO.at_ (i := 2) rfl)
        simp only at htv
        subst htv
        have c2 : wr.cell? ⟨g, 2, none⟩ = some (.slice A tk.length ct) := hO.cell (i := 0) rfl rfl
        have d1 : decide (((tk.length : Nat) : Int) < 65536) = true := by simp; omega
        have HNT := hide_ hnt
        obtain ⟨m, hm⟩ : ∃ m, m = tk.length := ⟨_, rfl⟩
        have HM := hide_ hm
        rw [← hm] at c2 d1 hlen
        have hO' : Owns wr B (memRows g d N c true (.slice A m ct) tk (xs k) ++ ex k) := by rw [hm]; exact hO
        clear hnt hm hO
        go_wp2_with (first
          | (go_at_call 114; refine (hP.out).mono ?_; rintro e w' ⟨rfl, rfl⟩)
          | (at_builtin; refine wpList_append_owns _ rfl (.tmp 38) (.tmp 42) 70 rfl B _ 2 73 2 (.slice A m ct) m (touchCells tk) (by rw [HM.out]; rfl) (hO'.alloc _) (by simp; omega) i0 _ 8 Try.underlying70 hi0 hz0 hz1 hz2 rfl (by omega) rfl _ _ 1 1 [.int .u32 p, .bool wrt] rfl (reads_new _ 73 2 1 [.int .u32 p, .bool wrt] rfl) (by simp [Value.oneCell']) (by simp only [maxLen]; omega) (by omega) ?_))
        intro tv2 w2 hO2 hb2 hsz2
        obtain ⟨A2, ct2, htv2, _, _⟩ := ownsRow_slice (hO2.at_ (i := 2) rfl)
        simp only at htv2
        subst htv2
        have c3 : w2.cell? ⟨g, 2, none⟩ = some (.slice A m ct) := hO2.cell (i := 0) rfl rfl
        have f3 := hO2.frozen (i := 0) rfl 2
        have b3 : B ≤ g ∧ g < w2.heap.size := hO2.base (i := 0) rfl
        have hO3 : Owns (w2.setCell ⟨g, 2, none⟩ (.slice A2 (m + 1) ct2)) B (memRows g d N c true (.slice A2 (m + 1) ct2) (tk ++ [(p, wrt)]) (xs k) ++ ex k) := by
          have := hO2.store (i := 0) (e := 83) (size := 1) (n := 3) (g := g) (c := 3) (j := 2) rfl (by simp) (.slice A2 (m + 1) ct2)
          unfold memRows
          rw [touchCells_snoc, List.length_append, List.length_singleton, ← HM.out]
          exact this
        have hb3 := (hb2.setCell (p := ⟨g, 2, none⟩) b3.1 (.slice A2 (m + 1) ct2))
        have HB3 := hide_ hb3
        have HO3 := hide_ hO3
        clear hO2 hb2 hO' hO3 hb3 c2
        go_wp2_with (go_at_call 116; refine (HD.out _ _ _ HO3.out ((hbl.alloc (Nat.le_trans hB hsz) _).trans HB3.out)).mono ?_; rintro e w4 ⟨rfl, hO4, hb4⟩)
        go_roundw
        case rel => exact ⟨k + 1, _, by omega, by go_num, by rw [HS.out, HNT.out]; exact hO4, ((hbl.alloc (Nat.le_trans hB hsz) _).trans HB3.out).trans hb4⟩
        case measure => simp [intOf]; omega
      · have hnt : noted logs wrt tk p = tk := by
          unfold noted
          rw [if_neg]
          simp only [Bool.and_eq_true, decide_eq_true_eq]
          exact hlog
        rw [hnt] at HS
        cases logs with
        | false =>
          go_wp2_with (first
            | (go_at_call 114; refine (hP.out).mono ?_; rintro e w' ⟨rfl, rfl⟩)
            | (go_at_call 116; refine (HD.out _ _ _ hO hbl).mono ?_; rintro e w2 ⟨rfl, hO2, hb2⟩))
          go_roundw
          case rel => exact ⟨k + 1, _, by omega, by go_num, by rw [HS.out]; exact hO2, hbl.trans hb2⟩
          case measure => simp [intOf]; omega
        | true =>
          have hlen : ¬ tk.length < 65536 := fun h => hlog ⟨rfl, h⟩
          have d1 : decide (((tk.length : Nat) : Int) < 65536) = false := by simp; omega
          obtain ⟨A, ct, htv, _, _⟩ := ownsRow_slice (hO.at_ (i := 2) rfl)
          simp only at htv
          subst htv
          have c2 : wr.cell? ⟨g, 2, none⟩ = some (.slice A tk.length ct) := hO.cell (i := 0) rfl rfl
          clear hlen hlog
          go_wp2_with (first
            | (go_at_call 114; refine (hP.out).mono ?_; rintro e w' ⟨rfl, rfl⟩)
            | (go_at_call 116; refine (HD.out _ _ _ hO hbl).mono ?_; rintro e w2 ⟨rfl, hO2, hb2⟩))
          go_roundw
          case rel => exact ⟨k + 1, _, by omega, by go_num, by rw [HS.out]; exact hO2, hbl.trans hb2⟩
          case measure => simp [intOf]; omega
    · obtain rfl : k = n := by omega
      go_wp2
      go_end0
      exact ⟨rfl, tv', hO, hbl⟩
set_option maxRecDepth 100000 in
set_option maxHeartbeats 1000000 in
theorem each_write (g d N c n p1 p2 : Nat) (logs wrt : Bool) (a : Int) (xs : Nat → List Int) (ex : Nat → List Ro) (ts : List (Int × Bool)) (tv : Value) (B : Nat) (W : World)
    (hO : Owns W B (memRows g d N c logs tv ts (xs 0) ++ ex 0)) (hB : B ≤ W.heap.size) (hN : IsPow N) (hn : n ≤ 4294967296)
    (hdo : ∀ k, k < n → ∀ W1 tv ts, Owns W1 B (memRows g d N c logs tv ts (xs k) ++ ex k) → Below B W W1 → Calls Try.prog 115 #[.int .i64 k, .int .u32 (plc N a k), .pointer (some ⟨p1, 0, none⟩), .pointer (some ⟨p2, 0, none⟩)] W1 fun e W' => e = .returned (.tuple #[]) ∧
      Owns W' B (memRows g d N c logs tv ts (xs (k + 1)) ++ ex (k + 1)) ∧ Below B W1 W') :
    Calls Try.prog 110 #[.pointer (some ⟨g, 0, none⟩), .int .u32 a, .int .i64 n, .bool wrt, .func (.func 115) #[] #[.pointer (some ⟨p1, 0, none⟩), .pointer (some ⟨p2, 0, none⟩)]] W fun e W' => e = .returned (.tuple #[]) ∧
      ∃ tv', Owns W' B (memRows g d N c logs tv' (notes N logs wrt a ts n) (xs n) ++ ex n) ∧ Below B W W' := by
  obtain ⟨i0, hi0, hz0, hz1, hz2⟩ := info_parts touch_info
  have HDO := hide_ hdo
  have HN := hide_ hN
  clear hdo hN
  go_enter Try.func110, Try.ntmps110
  go_wp2
  go_loopw [13] (fun i wr => ∃ (k : Nat) (tv' : Value), k ≤ n ∧ i = .int .i64 k ∧ Owns wr B (memRows g d N c logs tv' (notes N logs wrt a ts k) (xs k) ++ ex k) ∧ Below B W wr) (fun i _ => n - (intOf i).toNat)
  case atStart => exact ⟨0, tv, Nat.zero_le _, rfl, hO, Below.refl _ _⟩
  case round =>
    clear hO
    obtain ⟨k, tv', hk, rfl, hO, hbl⟩ := hrel
    by_cases hlt : k < n
    · have c0 : wr.cell? ⟨g, 0, none⟩ = some (.slice (some ⟨d, 0, none⟩) N c) := hO.cell (i := 0) rfl rfl
      have c1 : wr.cell? ⟨g, 1, none⟩ = some (.bool logs) := hO.cell (i := 0) rfl rfl
      have hP := hide_ (place_any g d N c ((a + k) % 4294967296) wr c0 HN.out (by omega) (by omega))
      obtain ⟨p, hp⟩ : ∃ p, p = plc N a k := ⟨_, rfl⟩
      have hdo := HDO.out k hlt
      have hns : notes N logs wrt a ts (k + 1) = noted logs wrt (notes N logs wrt a ts k) p := by rw [notes, hp]
      rw [show (a + (k : Int)) % 4294967296 % (N : Int) = plc N a k from rfl, ← hp] at hP
      rw [← hp] at hdo
      have HD := hide_ hdo
      have HS := hide_ hns
      have hsz := hbl.size
      clear hdo hns hp
      obtain ⟨tk, htk⟩ : ∃ tk, tk = notes N logs wrt a ts k := ⟨_, rfl⟩
      rw [← htk] at hO HS
      clear htk
      by_cases hlog : logs = true ∧ tk.length < 65536
      · obtain ⟨rfl, hlen⟩ := hlog
        have hnt : noted true wrt tk p = tk ++ [(p, wrt)] := by unfold noted; simp [hlen]
        obtain ⟨A, ct, htv, _, _⟩ := ownsRow_slice (hO.at_ (i := 2) rfl)
        simp only at htv
        subst htv
        have c2 : wr.cell? ⟨g, 2, none⟩ = some (.slice A tk.length ct) := hO.cell (i := 0) rfl rfl
        have d1 : decide (((tk.length : Nat) : Int) < 65536) = true := by simp; omega
        have HNT := hide_ hnt
        obtain ⟨m, hm⟩ : ∃ m, m = tk.length := ⟨_, rfl⟩
        have HM := hide_ hm
        rw [← hm] at c2 d1 hlen
        have hO' : Owns wr B (memRows g d N c true (.slice A m ct) tk (xs k) ++ ex k) := by rw [hm]; exact hO
        clear hnt hm hO
        go_wp2_with (first
          | (go_at_call 114; refine (hP.out).mono ?_; rintro e w' ⟨rfl, rfl⟩)
          | (at_builtin; refine wpList_append_owns _ rfl (.tmp 38) (.tmp 42) 70 rfl B _ 2 73 2 (.slice A m ct) m (touchCells tk) (by rw [HM.out]; rfl) (hO'.alloc _) (by simp; omega) i0 _ 8 Try.underlying70 hi0 hz0 hz1 hz2 rfl (by omega) rfl _ _ 1 1 [.int .u32 p, .bool wrt] rfl (reads_new _ 73 2 1 [.int .u32 p, .bool wrt] rfl) (by simp [Value.oneCell']) (by simp only [maxLen]; omega) (by omega) ?_))
        intro tv2 w2 hO2 hb2 hsz2
        obtain ⟨A2, ct2, htv2, _, _⟩ := ownsRow_slice (hO2.at_ (i := 2) rfl)
        simp only at htv2
        subst htv2
        have c3 : w2.cell? ⟨g, 2, none⟩ = some (.slice A m ct) := hO2.cell (i := 0) rfl rfl
        have f3 := hO2.frozen (i := 0) rfl 2
        have b3 : B ≤ g ∧ g < w2.heap.size := hO2.base (i := 0) rfl
        have hO3 : Owns (w2.setCell ⟨g, 2, none⟩ (.slice A2 (m + 1) ct2)) B (memRows g d N c true (.slice A2 (m + 1) ct2) (tk ++ [(p, wrt)]) (xs k) ++ ex k) := by
          have := hO2.store (i := 0) (e := 83) (size := 1) (n := 3) (g := g) (c := 3) (j := 2) rfl (by simp) (.slice A2 (m + 1) ct2)
          unfold memRows
          rw [touchCells_snoc, List.length_append, List.length_singleton, ← HM.out]
          exact this
        have hb3 := (hb2.setCell (p := ⟨g, 2, none⟩) b3.1 (.slice A2 (m + 1) ct2))
        have HB3 := hide_ hb3
        have HO3 := hide_ hO3
        clear hO2 hb2 hO' hO3 hb3 c2
        go_wp2_with (go_at_call 115; refine (HD.out _ _ _ HO3.out ((hbl.alloc (Nat.le_trans hB hsz) _).trans HB3.out)).mono ?_; rintro e w4 ⟨rfl, hO4, hb4⟩)
        go_roundw
        case rel => exact ⟨k + 1, _, by omega, by go_num, by rw [HS.out, HNT.out]; exact hO4, ((hbl.alloc (Nat.le_trans hB hsz) _).trans HB3.out).trans hb4⟩
        case measure => simp [intOf]; omega
      · have hnt : noted logs wrt tk p = tk := by
          unfold noted
          rw [if_neg]
          simp only [Bool.and_eq_true, decide_eq_true_eq]
          exact hlog
        rw [hnt] at HS
        cases logs with
        | false =>
          go_wp2_with (first
            | (go_at_call 114; refine (hP.out).mono ?_; rintro e w' ⟨rfl, rfl⟩)
            | (go_at_call 115; refine (HD.out _ _ _ hO hbl).mono ?_; rintro e w2 ⟨rfl, hO2, hb2⟩))
          go_roundw
          case rel => exact ⟨k + 1, _, by omega, by go_num, by rw [HS.out]; exact hO2, hbl.trans hb2⟩
          case measure => simp [intOf]; omega
        | true =>
          have hlen : ¬ tk.length < 65536 := fun h => hlog ⟨rfl, h⟩
          have d1 : decide (((tk.length : Nat) : Int) < 65536) = false := by simp; omega
          obtain ⟨A, ct, htv, _, _⟩ := ownsRow_slice (hO.at_ (i := 2) rfl)
          simp only at htv
          subst htv
          have c2 : wr.cell? ⟨g, 2, none⟩ = some (.slice A tk.length ct) := hO.cell (i := 0) rfl rfl
          clear hlen hlog
          go_wp2_with (first
            | (go_at_call 114; refine (hP.out).mono ?_; rintro e w' ⟨rfl, rfl⟩)
            | (go_at_call 115; refine (HD.out _ _ _ hO hbl).mono ?_; rintro e w2 ⟨rfl, hO2, hb2⟩))
          go_roundw
          case rel => exact ⟨k + 1, _, by omega, by go_num, by rw [HS.out]; exact hO2, hbl.trans hb2⟩
          case measure => simp [intOf]; omega
    · obtain rfl : k = n := by omega
      go_wp2
      go_end0
      exact ⟨rfl, tv', hO, hbl⟩
end Go.Proofs.Ytgppbdcnpailaaa
