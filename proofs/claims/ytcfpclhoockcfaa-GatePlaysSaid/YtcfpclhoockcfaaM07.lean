/-
  The walks of the functions that each is called with.
-/
import Derived.Deep.RegionHeld3
import Derived.Test.YtcfpclhoockcfaaM06
namespace Go.Proofs.Ytcfpclhoockcfaa
set_option maxRecDepth 100000
open Go.RowKit

def mboxR (q g : Nat) : Ro := ⟨28, 1, .slice (some ⟨q, 0, none⟩) 1 1, 1, [.pointer (some ⟨g, 0, none⟩)]⟩
def fourR (f : Nat) (ys : List Int) : Ro := ⟨125, 1, .slice (some ⟨f, 0, none⟩) 4 4, 4, u8s ys⟩
def sboxR (q : Nat) (A : Option Addr) (n c : Nat) : Ro := ⟨23, 1, .slice (some ⟨q, 0, none⟩) 1 1, 1, [.slice A n c]⟩
def gt (xs : List Int) (p : Int) : Int := xs[p.toNat]?.getD 0
theorem u8s_get {xs : List Int} {j : Nat} (h : j < xs.length) : (u8s xs)[j]? = some (.int .u8 (xs[j]?.getD 0)) := by
  rw [List.getElem?_map, List.getElem?_eq_getElem h]
  rfl
theorem gt_nat (xs : List Int) (p : Nat) : gt xs (p : Int) = xs[p]?.getD 0 := by simp [gt]

section
variable {W : World} {B g d N c q f : Nat} {logs : Bool} {tv : Value} {ts : List (Int × Bool)} {xs ys : List Int} {ex : List Ro}
set_option maxHeartbeats 1000000 in
theorem load1_any (i : Nat) (p : Int) (hO : Owns W B (memRows g d N c logs tv ts xs ++ ([mboxR q g, fourR f ys] ++ ex))) (hi : i < 4) (hy : ys.length = 4) (hx : xs.length = N) (h0 : 0 ≤ p) (h1 : p < N) :
    Calls Try.prog 78 #[.int .i64 i, .int .u32 p, .pointer (some ⟨q, 0, none⟩), .pointer (some ⟨f, 0, none⟩)] W fun e W' => e = .returned (.tuple #[]) ∧
      Owns W' B (memRows g d N c logs tv ts xs ++ ([mboxR q g, fourR f (ys.set i (gt xs p))] ++ ex)) ∧ Below B W W' := by
  obtain ⟨k, rfl⟩ := Int.eq_ofNat_of_zero_le h0
  have hk : k < N := by omega
  have c0 : W.cell? ⟨g, 0, none⟩ = some (.slice (some ⟨d, 0, none⟩) N c) := hO.cell (i := 0) rfl rfl
  have c1 : W.cell? ⟨q, 0, none⟩ = some (.pointer (some ⟨g, 0, none⟩)) := hO.cell (i := 3) rfl rfl
  have c2 : W.cell? ⟨d, k, none⟩ = some (.int .u8 (xs[k]?.getD 0)) := hO.cell (i := 1) rfl (u8s_get (by omega))
  have c3 : W.cell? ⟨f, i, none⟩ = some (.int .u8 (ys[i]?.getD 0)) := hO.cell (i := 4) rfl (u8s_get (by omega))
  have f3 := hO.frozen (i := 4) rfl i
  have hst := hO.store (i := 4) (e := 125) (size := 1) (n := 4) (g := f) (c := 4) (j := i) (xs := u8s ys) rfl (by simp; omega) (.int .u8 (xs[k]?.getD 0))
  have hb := (Below.refl B W).setCell (p := ⟨f, i, none⟩) (hO.base (i := 4) rfl).1 (.int .u8 (xs[k]?.getD 0))
  rw [show (u8s ys).set i (.int .u8 (xs[k]?.getD 0)) = u8s (ys.set i (xs[k]?.getD 0)) from (List.map_set).symm] at hst
  rw [gt_nat]
  have HS := hide_ hst
  have HB := hide_ hb
  have i4 : (i : Int) < 4 := by omega
  clear hO hst hb hx hy h0 h1
  go_enter Try.func78, Try.ntmps78
  go_wp2
  go_end0
  exact ⟨rfl, HS.out, HB.out⟩
/-- the list that read fills -/
def outR (o n co : Nat) (os : List Int) : Ro := ⟨5, 1, .slice (some ⟨o, 0, none⟩) n co, n, u8s os⟩
set_option maxHeartbeats 1000000 in
theorem write1_any (i n cb : Nat) (A : Option Addr) (bs : List Int) (p : Int) (hO : Owns W B (memRows g d N c logs tv ts xs ++ ([mboxR q g, sboxR f A n cb] ++ ex))) (hr : Reads W W.heap.size 1 A n (u8s bs)) (hi : i < n) (hx : xs.length = N) (h0 : 0 ≤ p) (h1 : p < N)
    (hr2 : ∀ y : Int, Reads (W.setCell ⟨d, p.toNat, none⟩ (.int .u8 y)) W.heap.size 1 A n (u8s bs)) :
    Calls Try.prog 81 #[.int .i64 i, .int .u32 p, .pointer (some ⟨f, 0, none⟩), .pointer (some ⟨q, 0, none⟩)] W fun e W' => e = .returned (.tuple #[]) ∧
      Owns W' B (memRows g d N c logs tv ts (xs.set p.toNat (bs[i]?.getD 0)) ++ ([mboxR q g, sboxR f A n cb] ++ ex)) ∧ Below B W W' := by
  obtain ⟨k, rfl⟩ := Int.eq_ofNat_of_zero_le h0
  have hk : k < N := by omega
  have hbl : bs.length = n := by simpa using hr.1
  obtain ⟨ad, u, rfl, hab, hu, hcu⟩ := hr.at_ hi
  rw [u8s_get (by omega)] at hu
  injection hu with hu
  subst hu
  obtain ⟨ad', u', had, _, hu2, hcu2⟩ := (hr2 (bs[i]?.getD 0)).at_ hi
  rw [u8s_get (by omega)] at hu2
  injection hu2 with hu2
  injection had with had
  subst hu2 had
  have c0 : W.cell? ⟨g, 0, none⟩ = some (.slice (some ⟨d, 0, none⟩) N c) := hO.cell (i := 0) rfl rfl
  have c1 : W.cell? ⟨q, 0, none⟩ = some (.pointer (some ⟨g, 0, none⟩)) := hO.cell (i := 3) rfl rfl
  have c4 : W.cell? ⟨f, 0, none⟩ = some (.slice (some ad) n cb) := hO.cell (i := 4) rfl rfl
  have c2 : W.cell? ⟨d, k, none⟩ = some (.int .u8 (xs[k]?.getD 0)) := hO.cell (i := 1) rfl (u8s_get (by omega))
  have f3 := hO.frozen (i := 1) rfl k
  have hst := hO.store (i := 1) (e := 5) (size := 1) (n := N) (g := d) (c := c) (j := k) (xs := u8s xs) rfl (by simp; omega) (.int .u8 (bs[i]?.getD 0))
  have hb := (Below.refl B W).setCell (p := ⟨d, k, none⟩) (hO.base (i := 1) rfl).1 (.int .u8 (bs[i]?.getD 0))
  rw [show (u8s xs).set k (.int .u8 (bs[i]?.getD 0)) = u8s (xs.set k (bs[i]?.getD 0)) from (List.map_set).symm] at hst
  simp only [Int.toNat_natCast] at hcu2 ⊢
  have HS := hide_ hst
  have HB := hide_ hb
  have i4 : (i : Int) < (n : Int) := by omega
  have i0 : (0 : Int) ≤ (i : Int) := by omega
  have k0 : (0 : Int) ≤ (k : Int) := by omega
  have k1 : (k : Int) < (N : Int) := by omega
  have HK : Hid (∀ W', W' = (W.setCell ⟨d, k, none⟩ (.int .u8 (bs[i]?.getD 0))).drew → W'.cell? ⟨q, 0, none⟩ = some (.pointer (some ⟨g, 0, none⟩)) ∧ W'.cell? ⟨g, 0, none⟩ = some (.slice (some ⟨d, 0, none⟩) N c) ∧ W'.cell? ⟨f, 0, none⟩ = some (.slice (some ad) n cb) ∧ W'.cell? (ad.add i) = some (.int .u8 (bs[i]?.getD 0))) := by
    rintro W' rfl
    exact ⟨hst.cell (i := 3) rfl rfl, hst.cell (i := 0) rfl rfl, hst.cell (i := 4) rfl rfl, hcu2⟩
  clear hO hst hb hx h0 h1 hr hr2 hbl hcu2
  go_enter Try.func81, Try.ntmps81
  go_wp2
  go_region_held3 (fun W' => W'.cell? ⟨q, 0, none⟩ = some (.pointer (some ⟨g, 0, none⟩)) ∧ W'.cell? ⟨g, 0, none⟩ = some (.slice (some ⟨d, 0, none⟩) N c) ∧ W'.cell? ⟨f, 0, none⟩ = some (.slice (some ad) n cb) ∧ W'.cell? (ad.add i) = some (.int .u8 (bs[i]?.getD 0)))
    (first | exact ⟨c1, c0, c4, hcu⟩ | exact HK.out _ rfl) (fail)
  go_wp2
  go_end0
  exact ⟨rfl, HS.out.drew, HB.out.drew⟩
end
end Go.Proofs.Ytcfpclhoockcfaa
/-
  The walk of mem's each, once for each function that it is called with (written by gen_each.py).
-/
namespace Go.Proofs.Ytcfpclhoockcfaa
open Go.RowKit
set_option maxRecDepth 100000 in
set_option maxHeartbeats 1000000 in
theorem each_load (g d N c n p1 p2 : Nat) (logs wrt : Bool) (a : Int) (xs : Nat → List Int) (ex : Nat → List Ro) (ts : List (Int × Bool)) (tv : Value) (B : Nat) (W : World)
    (hO : Owns W B (memRows g d N c logs tv ts (xs 0) ++ ex 0)) (hB : B ≤ W.heap.size) (hN : IsPow N) (hn : n ≤ 4294967296)
    (hdo : ∀ k, k < n → ∀ W1 tv ts, Owns W1 B (memRows g d N c logs tv ts (xs k) ++ ex k) → Below B W W1 → Calls Try.prog 78 #[.int .i64 k, .int .u32 (plc N a k), .pointer (some ⟨p1, 0, none⟩), .pointer (some ⟨p2, 0, none⟩)] W1 fun e W' => e = .returned (.tuple #[]) ∧
      Owns W' B (memRows g d N c logs tv ts (xs (k + 1)) ++ ex (k + 1)) ∧ Below B W1 W') :
    Calls Try.prog 77 #[.pointer (some ⟨g, 0, none⟩), .int .u32 a, .int .i64 n, .bool wrt, .func (.func 78) #[] #[.pointer (some ⟨p1, 0, none⟩), .pointer (some ⟨p2, 0, none⟩)]] W fun e W' => e = .returned (.tuple #[]) ∧
      ∃ tv', Owns W' B (memRows g d N c logs tv' (notes N logs wrt a ts n) (xs n) ++ ex n) ∧ Below B W W' := by
  obtain ⟨i0, hi0, hz0, hz1, hz2⟩ := info_parts touch_info
  have HDO := hide_ hdo
  have HN := hide_ hN
  clear hdo hN
  go_enter Try.func77, Try.ntmps77
  go_wp2
  go_loopw [13] (fun i wr => ∃ (k : Nat) (tv' : Value), k ≤ n ∧ i = .int .i64 k ∧ Owns wr B (memRows g d N c logs tv' (notes N logs wrt a ts k) (xs k) ++ ex k) ∧ Below B W wr) (fun i _ => n - (intOf i).toNat)
  case atStart => exact ⟨0, tv, Nat.zero_le _, rfl, hO, Below.refl _ _⟩
  case round =>
    clear hO
    obtain ⟨k, tv', hk, rfl, hO, hbl⟩ := hrel
    by_cases hlt : k < n
    · have c0 : wr.cell? ⟨g, 0, none⟩ = some (.slice (some ⟨d, 0, none⟩) N c) := hO.cell (i := 0) rfl rfl
      have c1 : wr.cell? ⟨g, 1, none⟩ = some (.bool logs) := hO.cell (i := 0) rfl rfl
      have hP := hide_ (place_any g d N c ((a + k) % 4294967296) wr c0 HN.out (by omega) (by omega))
      obtain ⟨p, hp⟩ : ∃ p, p = plc N a k := ⟨_, rfl⟩
      have hdo := HDO.out k hlt
      have hns : notes N logs wrt a ts (k + 1) = noted logs wrt (notes N logs wrt a ts k) p := by rw [notes, hp]
      rw [show (a + (k : Int)) % 4294967296 % (N : Int) = plc N a k from rfl, ← hp] at hP
      rw [← hp] at hdo
      have HD := hide_ hdo
      have HS := hide_ hns
      have hsz := hbl.size
      clear hdo hns hp
      obtain ⟨tk, htk⟩ : ∃ tk, tk = notes N logs wrt a ts k := ⟨_, rfl⟩
      rw [← htk] at hO HS
      clear htk
      by_cases hlog : logs = true ∧ tk.length < 65536
      · obtain ⟨rfl, hlen⟩ := hlog
        have hnt : noted true wrt tk p = tk ++ [(p, wrt)] := by unfold noted; simp [hlen]
        obtain ⟨A, ct, htv, _, _⟩ := ownsRow_slice (hO.at_ (i := 2) rfl)
        simp only at htv
        subst htv
        have c2 : wr.cell? ⟨g, 2, none⟩ = some (.slice A tk.length ct) := hO.cell (i := 0) rfl rfl
        have d1 : decide (((tk.length : Nat) : Int) < 65536) = true := by simp; omega
        have HNT := hide_ hnt
        obtain ⟨m, hm⟩ : ∃ m, m = tk.length := ⟨_, rfl⟩
        have HM := hide_ hm
        rw [← hm] at c2 d1 hlen
        have hO' : Owns wr B (memRows g d N c true (.slice A m ct) tk (xs k) ++ ex k) := by rw [hm]; exact hO
        clear hnt hm hO
        go_wp2_with (first
          | (go_at_call 80; refine (hP.out).mono ?_; rintro e w' ⟨rfl, rfl⟩)
          | (at_builtin; refine wpList_append_owns _ rfl (.tmp 38) (.tmp 42) 57 rfl B _ 2 136 2 (.slice A m ct) m (touchCells tk) (by rw [HM.out]; rfl) (hO'.alloc _) (by simp; omega) i0 _ 8 Try.underlying57 hi0 hz0 hz1 hz2 rfl (by omega) rfl _ _ 1 1 [.int .u32 p, .bool wrt] rfl (reads_new _ 136 2 1 [.int .u32 p, .bool wrt] rfl) (by simp [Value.oneCell']) (by simp only [maxLen]; omega) (by omega) ?_))
        intro tv2 w2 hO2 hb2 hsz2
        obtain ⟨A2, ct2, htv2, _, _⟩ := ownsRow_slice (hO2.at_ (i := 2) rfl)
        simp only at htv2
        subst htv2
        have c3 : w2.cell? ⟨g, 2, none⟩ = some (.slice A m ct) := hO2.cell (i := 0) rfl rfl
        have f3 := hO2.frozen (i := 0) rfl 2
        have b3 : B ≤ g ∧ g < w2.heap.size := hO2.base (i := 0) rfl
        have hO3 : Owns (w2.setCell ⟨g, 2, none⟩ (.slice A2 (m + 1) ct2)) B (memRows g d N c true (.slice A2 (m + 1) ct2) (tk ++ [(p, wrt)]) (xs k) ++ ex k) := by
          have := hO2.store (i := 0) (e := 59) (size := 1) (n := 3) (g := g) (c := 3) (j := 2) rfl (by simp) (.slice A2 (m + 1) ct2)
          unfold memRows
          rw [touchCells_snoc, List.length_append, List.length_singleton, ← HM.out]
          exact this
        have hb3 := (hb2.setCell (p := ⟨g, 2, none⟩) b3.1 (.slice A2 (m + 1) ct2))
        have HB3 := hide_ hb3
        have HO3 := hide_ hO3
        clear hO2 hb2 hO' hO3 hb3 c2
        go_wp2_with (go_at_call 78; refine (HD.out _ _ _ HO3.out ((hbl.alloc (Nat.le_trans hB hsz) _).trans HB3.out)).mono ?_; rintro e w4 ⟨rfl, hO4, hb4⟩)
        go_roundw
        case rel => exact ⟨k + 1, _, by omega, by go_num, by rw [HS.out, HNT.out]; exact hO4, ((hbl.alloc (Nat.le_trans hB hsz) _).trans HB3.out).trans hb4⟩
        case measure => simp [intOf]; omega
      · have hnt : noted logs wrt tk p = tk := by
          unfold noted
          rw [if_neg]
          simp only [Bool.and_eq_true, decide_eq_true_eq]
          exact hlog
        rw [hnt] at HS
        cases logs with
        | false =>
          go_wp2_with (first
            | (go_at_call 80; refine (hP.out).mono ?_; rintro e w' ⟨rfl, rfl⟩)
            | (go_at_call 78; refine (HD.out _ _ _ hO hbl).mono ?_; rintro e w2 ⟨rfl, hO2, hb2⟩))
          go_roundw
          case rel => exact ⟨k + 1, _, by omega, by go_num, by rw [HS.out]; exact hO2, hbl.trans hb2⟩
          case measure => simp [intOf]; omega
        | true =>
          have hlen : ¬ tk.length < 65536 := fun h => hlog ⟨rfl, h⟩
          have d1 : decide (((tk.length : Nat) : Int) < 65536) = false := by simp; omega
          obtain ⟨A, ct, htv, _, _⟩ := ownsRow_slice (hO.at_ (i := 2) rfl)
          simp only at htv
          subst htv
          have c2 : wr.cell? ⟨g, 2, none⟩ = some (.slice A tk.length ct) := hO.cell (i := 0) rfl rfl
          clear hlen hlog
          go_wp2_with (first
            | (go_at_call 80; refine (hP.out).mono ?_; rintro e w' ⟨rfl, rfl⟩)
            | (go_at_call 78; refine (HD.out _ _ _ hO hbl).mono ?_; rintro e w2 ⟨rfl, hO2, hb2⟩))
          go_roundw
          case rel => exact ⟨k + 1, _, by omega, by go_num, by rw [HS.out]; exact hO2, hbl.trans hb2⟩
          case measure => simp [intOf]; omega
    · obtain rfl : k = n := by omega
      go_wp2
      go_end0
      exact ⟨rfl, tv', hO, hbl⟩
set_option maxRecDepth 100000 in
set_option maxHeartbeats 1000000 in
theorem each_write (g d N c n p1 p2 : Nat) (logs wrt : Bool) (a : Int) (xs : Nat → List Int) (ex : Nat → List Ro) (ts : List (Int × Bool)) (tv : Value) (B : Nat) (W : World)
    (hO : Owns W B (memRows g d N c logs tv ts (xs 0) ++ ex 0)) (hB : B ≤ W.heap.size) (hN : IsPow N) (hn : n ≤ 4294967296)
    (hdo : ∀ k, k < n → ∀ W1 tv ts, Owns W1 B (memRows g d N c logs tv ts (xs k) ++ ex k) → Below B W W1 → Calls Try.prog 81 #[.int .i64 k, .int .u32 (plc N a k), .pointer (some ⟨p1, 0, none⟩), .pointer (some ⟨p2, 0, none⟩)] W1 fun e W' => e = .returned (.tuple #[]) ∧
      Owns W' B (memRows g d N c logs tv ts (xs (k + 1)) ++ ex (k + 1)) ∧ Below B W1 W') :
    Calls Try.prog 77 #[.pointer (some ⟨g, 0, none⟩), .int .u32 a, .int .i64 n, .bool wrt, .func (.func 81) #[] #[.pointer (some ⟨p1, 0, none⟩), .pointer (some ⟨p2, 0, none⟩)]] W fun e W' => e = .returned (.tuple #[]) ∧
      ∃ tv', Owns W' B (memRows g d N c logs tv' (notes N logs wrt a ts n) (xs n) ++ ex n) ∧ Below B W W' := by
  obtain ⟨i0, hi0, hz0, hz1, hz2⟩ := info_parts touch_info
  have HDO := hide_ hdo
  have HN := hide_ hN
  clear hdo hN
  go_enter Try.func77, Try.ntmps77
  go_wp2
  go_loopw [13] (fun i wr => ∃ (k : Nat) (tv' : Value), k ≤ n ∧ i = .int .i64 k ∧ Owns wr B (memRows g d N c logs tv' (notes N logs wrt a ts k) (xs k) ++ ex k) ∧ Below B W wr) (fun i _ => n - (intOf i).toNat)
  case atStart => exact ⟨0, tv, Nat.zero_le _, rfl, hO, Below.refl _ _⟩
  case round =>
    clear hO
    obtain ⟨k, tv', hk, rfl, hO, hbl⟩ := hrel
    by_cases hlt : k < n
    · have c0 : wr.cell? ⟨g, 0, none⟩ = some (.slice (some ⟨d, 0, none⟩) N c) := hO.cell (i := 0) rfl rfl
      have c1 : wr.cell? ⟨g, 1, none⟩ = some (.bool logs) := hO.cell (i := 0) rfl rfl
      have hP := hide_ (place_any g d N c ((a + k) % 4294967296) wr c0 HN.out (by omega) (by omega))
      obtain ⟨p, hp⟩ : ∃ p, p = plc N a k := ⟨_, rfl⟩
      have hdo := HDO.out k hlt
      have hns : notes N logs wrt a ts (k + 1) = noted logs wrt (notes N logs wrt a ts k) p := by rw [notes, hp]
      rw [show (a + (k : Int)) % 4294967296 % (N : Int) = plc N a k from rfl, ← hp] at hP
      rw [← hp] at hdo
      have HD := hide_ hdo
      have HS := hide_ hns
      have hsz := hbl.size
      clear hdo hns hp
      obtain ⟨tk, htk⟩ : ∃ tk, tk = notes N logs wrt a ts k := ⟨_, rfl⟩
      rw [← htk] at hO HS
      clear htk
      by_cases hlog : logs = true ∧ tk.length < 65536
      · obtain ⟨rfl, hlen⟩ := hlog
        have hnt : noted true wrt tk p = tk ++ [(p, wrt)] := by unfold noted; simp [hlen]
        obtain ⟨A, ct, htv, _, _⟩ := ownsRow_slice (hO.at_ (i := 2) rfl)
        simp only at htv
        subst htv
        have c2 : wr.cell? ⟨g, 2, none⟩ = some (.slice A tk.length ct) := hO.cell (i := 0) rfl rfl
        have d1 : decide (((tk.length : Nat) : Int) < 65536) = true := by simp; omega
        have HNT := hide_ hnt
        obtain ⟨m, hm⟩ : ∃ m, m = tk.length := ⟨_, rfl⟩
        have HM := hide_ hm
        rw [← hm] at c2 d1 hlen
        have hO' : Owns wr B (memRows g d N c true (.slice A m ct) tk (xs k) ++ ex k) := by rw [hm]; exact hO
        clear hnt hm hO
        go_wp2_with (first
          | (go_at_call 80; refine (hP.out).mono ?_; rintro e w' ⟨rfl, rfl⟩)
          | (at_builtin; refine wpList_append_owns _ rfl (.tmp 38) (.tmp 42) 57 rfl B _ 2 136 2 (.slice A m ct) m (touchCells tk) (by rw [HM.out]; rfl) (hO'.alloc _) (by simp; omega) i0 _ 8 Try.underlying57 hi0 hz0 hz1 hz2 rfl (by omega) rfl _ _ 1 1 [.int .u32 p, .bool wrt] rfl (reads_new _ 136 2 1 [.int .u32 p, .bool wrt] rfl) (by simp [Value.oneCell']) (by simp only [maxLen]; omega) (by omega) ?_))
        intro tv2 w2 hO2 hb2 hsz2
        obtain ⟨A2, ct2, htv2, _, _⟩ := ownsRow_slice (hO2.at_ (i := 2) rfl)
        simp only at htv2
        subst htv2
        have c3 : w2.cell? ⟨g, 2, none⟩ = some (.slice A m ct) := hO2.cell (i := 0) rfl rfl
        have f3 := hO2.frozen (i := 0) rfl 2
        have b3 : B ≤ g ∧ g < w2.heap.size := hO2.base (i := 0) rfl
        have hO3 : Owns (w2.setCell ⟨g, 2, none⟩ (.slice A2 (m + 1) ct2)) B (memRows g d N c true (.slice A2 (m + 1) ct2) (tk ++ [(p, wrt)]) (xs k) ++ ex k) := by
          have := hO2.store (i := 0) (e := 59) (size := 1) (n := 3) (g := g) (c := 3) (j := 2) rfl (by simp) (.slice A2 (m + 1) ct2)
          unfold memRows
          rw [touchCells_snoc, List.length_append, List.length_singleton, ← HM.out]
          exact this
        have hb3 := (hb2.setCell (p := ⟨g, 2, none⟩) b3.1 (.slice A2 (m + 1) ct2))
        have HB3 := hide_ hb3
        have HO3 := hide_ hO3
        clear hO2 hb2 hO' hO3 hb3 c2
        go_wp2_with (go_at_call 81; refine (HD.out _ _ _ HO3.out ((hbl.alloc (Nat.le_trans hB hsz) _).trans HB3.out)).mono ?_; rintro e w4 ⟨rfl, hO4, hb4⟩)
        go_roundw
        case rel => exact ⟨k + 1, _, by omega, by go_num, by rw [HS.out, HNT.out]; exact hO4, ((hbl.alloc (Nat.le_trans hB hsz) _).trans HB3.out).trans hb4⟩
        case measure => simp [intOf]; omega
      · have hnt : noted logs wrt tk p = tk := by
          unfold noted
          rw [if_neg]
          simp only [Bool.and_eq_true, decide_eq_true_eq]
          exact hlog
        rw [hnt] at HS
        cases logs with
        | false =>
          go_wp2_with (first
            | (go_at_call 80; refine (hP.out).mono ?_; rintro e w' ⟨rfl, rfl⟩)
            | (go_at_call 81; refine (HD.out _ _ _ hO hbl).mono ?_; rintro e w2 ⟨rfl, hO2, hb2⟩))
          go_roundw
          case rel => exact ⟨k + 1, _, by omega, by go_num, by rw [HS.out]; exact hO2, hbl.trans hb2⟩
          case measure => simp [intOf]; omega
        | true =>
          have hlen : ¬ tk.length < 65536 := fun h => hlog ⟨rfl, h⟩
          have d1 : decide (((tk.length : Nat) : Int) < 65536) = false := by simp; omega
          obtain ⟨A, ct, htv, _, _⟩ := ownsRow_slice (hO.at_ (i := 2) rfl)
          simp only at htv
          subst htv
          have c2 : wr.cell? ⟨g, 2, none⟩ = some (.slice A tk.length ct) := hO.cell (i := 0) rfl rfl
          clear hlen hlog
          go_wp2_with (first
            | (go_at_call 80; refine (hP.out).mono ?_; rintro e w' ⟨rfl, rfl⟩)
            | (go_at_call 81; refine (HD.out _ _ _ hO hbl).mono ?_; rintro e w2 ⟨rfl, hO2, hb2⟩))
          go_roundw
          case rel => exact ⟨k + 1, _, by omega, by go_num, by rw [HS.out]; exact hO2, hbl.trans hb2⟩
          case measure => simp [intOf]; omega
    · obtain rfl : k = n := by omega
      go_wp2
      go_end0
      exact ⟨rfl, tv', hO, hbl⟩
end Go.Proofs.Ytcfpclhoockcfaa
