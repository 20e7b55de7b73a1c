/-
  The walks of the document's segment: place, note, get, put, Copied.
-/
import Derived.Test.YtgppbdcnpailaaaWithin
namespace Go.Proofs.Ytgppbdcnpailaaa
open Go.RowKit
set_option linter.unusedVariables false

/-- the document's segment: its struct, its bytes, its log -/
def refRows (r b N c : Nat) (on : Bool) (lv : Value) (ts : List (Int × Bool)) (xs : List Int) : List Ro :=
  [⟨142, 1, .slice (some ⟨r, 0, none⟩) 3 3, 3, [.slice (some ⟨b, 0, none⟩) N c, .bool on, lv]⟩,
   ⟨5, 1, .slice (some ⟨b, 0, none⟩) N c, N, u8s xs⟩,
   ⟨73, 2, lv, ts.length, touchCells ts⟩]
theorem rplace_any (r b N c k : Nat) (a : Int) (W : World) (h : W.cell? ⟨r, 0, none⟩ = some (.slice (some ⟨b, 0, none⟩) N c)) (hN : IsPow N) (h0 : 0 ≤ a) (h1 : a ≤ 4294967295) (hk : k ≤ 4294967296) :
    Calls Try.prog 129 #[.pointer (some ⟨r, 0, none⟩), .int .u32 a, .int .i64 k] W fun e w' => e = .returned (.int .i64 (plc N a k)) ∧ w' = W := by
  obtain ⟨hp, h2⟩ := hN.bd
  obtain ⟨p0, p1⟩ := plc_bd hN a k
  have s1 : plc N a k = (a + (k : Int)) % 4294967296 % (N : Int) := rfl
  have hz : ((N : Int) == 0) = false := by rw [beq_eq_false_iff_ne]; omega
  have s2 : IntKind.u64.wrap (a + (k : Int)) = a + (k : Int) := by simp [IntKind.wrap, IntKind.bits, IntKind.signed]; omega
  obtain ⟨p, hpp⟩ : ∃ p, p = plc N a k := ⟨_, rfl⟩
  rw [← hpp] at s1 p0 p1 ⊢
  have HP := hide_ s1
  clear s1 hpp hN
  go_enter Try.func129, Try.ntmps129
  go_wp2
  go_ret
  refine ⟨?_, rfl⟩
  simp
  rw [← HP.out]
  unfold wrap64
  omega
/-- .. wherever its log's list lies -/
def RefS (W : World) (B r b N c : Nat) (on : Bool) (ts : List (Int × Bool)) (xs : List Int) (ex : List Ro) : Prop := ∃ lv, Owns W B (refRows r b N c on lv ts xs ++ ex)
section
variable {W : World} {B r b N c : Nat} {on : Bool} {lv : Value} {ts : List (Int × Bool)} {xs : List Int} {ex : List Ro}
theorem noted_off (wrt : Bool) (ts : List (Int × Bool)) (p : Int) : noted false wrt ts p = ts := rfl
set_option maxHeartbeats 1000000 in
theorem rnote_any (p : Int) (wrt : Bool) (hO : Owns W B (refRows r b N c on lv ts xs ++ ex)) (hB : B ≤ W.heap.size) (h0 : 0 ≤ p) (h1 : p < 4294967296) :
    Calls Try.prog 130 #[.pointer (some ⟨r, 0, none⟩), .int .i64 p, .bool wrt] W fun e W' => e = .returned (.tuple #[]) ∧ RefS W' B r b N c on (noted on wrt ts p) xs ex ∧ Below B W W' := by
  obtain ⟨i0, hi0, hz0, hz1, hz2⟩ := info_parts touch_info
  have c1 : W.cell? ⟨r, 1, none⟩ = some (.bool on) := hO.cell (i := 0) rfl rfl
  cases on with
  | false =>
    have HO := hide_ hO
    clear hO
    go_enter Try.func130, Try.ntmps130
    go_wp2
    go_end0
    exact ⟨rfl, ⟨lv, HO.out⟩, Below.refl _ _⟩
  | true =>
    obtain ⟨A, ct, htv, _, _⟩ := ownsRow_slice (hO.at_ (i := 2) rfl)
    simp only at htv
    subst htv
    have c2 : W.cell? ⟨r, 2, none⟩ = some (.slice A ts.length ct) := hO.cell (i := 0) rfl rfl
    by_cases hlen : ts.length < 65536
    · have hnt : noted true wrt ts p = ts ++ [(p, wrt)] := by unfold noted; simp [hlen]
      have d1 : decide (((ts.length : Nat) : Int) < 65536) = true := by simp; omega
      have HNT := hide_ hnt
      obtain ⟨m, hm⟩ : ∃ m, m = ts.length := ⟨_, rfl⟩
      have HM := hide_ hm
      rw [← hm] at c2 d1 hlen
      have hO' : Owns W B (refRows r b N c true (.slice A m ct) ts xs ++ ex) := by rw [hm]; exact hO
      have hpu : p % 4294967296 = p := by omega
      clear hnt hm hO
      go_enter Try.func130, Try.ntmps130
      go_wp2_with (at_builtin; refine wpList_append_owns _ rfl (.tmp 22) (.tmp 27) 70 rfl B _ 2 73 2 (.slice A m ct) m (touchCells ts) (by rw [HM.out]; rfl) (hO'.alloc _) (by simp; omega) i0 _ 8 Try.underlying70 hi0 hz0 hz1 hz2 rfl (by omega) rfl _ _ 1 1 [.int .u32 p, .bool wrt] rfl (reads_new _ 73 2 1 [.int .u32 p, .bool wrt] rfl) (by simp [Value.oneCell']) (by simp only [maxLen]; omega) (by omega) ?_)
      intro tv2 w2 hO2 hb2 hsz2
      obtain ⟨A2, ct2, htv2, _, _⟩ := ownsRow_slice (hO2.at_ (i := 2) rfl)
      simp only at htv2
      subst htv2
      have c3 : w2.cell? ⟨r, 2, none⟩ = some (.slice A m ct) := hO2.cell (i := 0) rfl rfl
      have f3 := hO2.frozen (i := 0) rfl 2
      have b3 : B ≤ r ∧ r < w2.heap.size := hO2.base (i := 0) rfl
      have hO3 : Owns (w2.setCell ⟨r, 2, none⟩ (.slice A2 (m + 1) ct2)) B (refRows r b N c true (.slice A2 (m + 1) ct2) (ts ++ [(p, wrt)]) xs ++ ex) := by
        have := hO2.store (i := 0) (e := 142) (size := 1) (n := 3) (g := r) (c := 3) (j := 2) rfl (by simp) (.slice A2 (m + 1) ct2)
        unfold refRows
        rw [touchCells_snoc, List.length_append, List.length_singleton, ← HM.out]
        exact this
      have hb3 := (hb2.setCell (p := ⟨r, 2, none⟩) b3.1 (.slice A2 (m + 1) ct2))
      have HB3 := hide_ (((Below.refl B W).alloc hB _).trans hb3)
      have HO3 := hide_ hO3
      clear hO2 hb2 hO' hO3 hb3 c2
      go_wp2
      go_end0
      exact ⟨rfl, ⟨_, by rw [HNT.out]; exact HO3.out⟩, HB3.out⟩
    · have hnt : noted true wrt ts p = ts := by unfold noted; simp [hlen]
      have d1 : decide (((ts.length : Nat) : Int) < 65536) = false := by simp; omega
      have HNT := hide_ hnt
      have HO := hide_ hO
      clear hO hnt hlen
      go_enter Try.func130, Try.ntmps130
      go_wp2
      go_end0
      exact ⟨rfl, ⟨_, by rw [HNT.out]; exact HO.out⟩, Below.refl _ _⟩
theorem Owns.front {w : World} {l : List Ro} {x : Ro} (h : Owns w B (l ++ ex ++ [x])) : Owns w B (l ++ (x :: ex)) := by
  refine h.swap ?_
  rw [List.append_assoc]
  exact (List.perm_append_left_iff l).2 List.perm_append_comm
/-- a list of bytes that lies beside -/
def byteR (A : Option Addr) (n c : Nat) (zs : List Int) : Ro := ⟨5, 1, .slice A n c, n, u8s zs⟩
theorem readN_succ (N : Nat) (a : Int) (xs : List Int) (k : Nat) : readN N a xs (k + 1) = readN N a xs k ++ [gt xs (plc N a k)] := by simp [readN, List.range_succ]
theorem u8s_snoc (zs : List Int) (x : Int) : u8s (zs ++ [x]) = u8s zs ++ [.int .u8 x] := by simp
set_option maxRecDepth 100000 in
set_option maxHeartbeats 1000000 in
theorem rget_any (a : Int) (n : Nat) (hO : Owns W B (refRows r b N c on lv ts xs ++ ex)) (hB : B ≤ W.heap.size) (hN : IsPow N) (hx : xs.length = N) (h0 : 0 ≤ a) (h1 : a ≤ 4294967295) (hn : n ≤ 4096) :
    Calls Try.prog 140 #[.pointer (some ⟨r, 0, none⟩), .int .u32 a, .int .i64 n] W fun e W' => ∃ A' c', e = .returned (.slice A' n c') ∧
      RefS W' B r b N c on (notes N on false a ts n) xs (byteR A' n c' (readN N a xs n) :: ex) ∧ Below B W W' := by
  obtain ⟨i0, hi0, hz0, hz1, hz2⟩ := info_parts Try.info_u8
  have h2 : Owns W B (refRows r b N c on lv ts xs ++ (byteR none 0 0 (readN N a xs 0) :: ex)) := (hO.nilrow 5 1).front
  have HO := hide_ h2
  have HN := hide_ hN
  have HX := hide_ hx
  clear hO h2 hN hx
  go_enter Try.func140, Try.ntmps140
  go_wp2
  go_loopw [7, 8] (fun v i wr => ∃ (k : Nat) (A : Option Addr) (cc : Nat) (lv' : Value), k ≤ n ∧ i = .int .i64 k ∧ v = .slice A k cc ∧ Owns wr B (refRows r b N c on lv' (notes N on false a ts k) xs ++ (byteR A k cc (readN N a xs k) :: ex)) ∧ Below B W wr) (fun _ i _ => n - (intOf i).toNat)
  case atStart => exact ⟨0, none, 0, lv, Nat.zero_le _, rfl, rfl, HO.out, Below.refl _ _⟩
  case round =>
    clear HO
    obtain ⟨k, A, cc, lv', hk, rfl, rfl, hO, hb⟩ := hrel
    by_cases hlt : k < n
    · have c0 : wr.cell? ⟨r, 0, none⟩ = some (.slice (some ⟨b, 0, none⟩) N c) := hO.cell (i := 0) rfl rfl
      have hpl := hide_ (rplace_any r b N c k a wr c0 HN.out h0 h1 (by omega))
      obtain ⟨p0, p1⟩ := plc_bd HN.out a k
      have hN2 := HN.out.bd
      obtain ⟨P, hP⟩ : ∃ P : Nat, plc N a k = (P : Int) := Int.eq_ofNat_of_zero_le p0
      have hPN : P < N := by omega
      have hrs : readN N a xs (k + 1) = readN N a xs k ++ [xs[P]?.getD 0] := by rw [readN_succ, hP, gt_nat]
      have hns : notes N on false a ts (k + 1) = noted on false (notes N on false a ts k) (P : Int) := by rw [notes, hP]
      rw [hP] at hpl
      have c1 : wr.cell? ⟨b, P, none⟩ = some (.int .u8 (xs[P]?.getD 0)) := hO.cell (i := 1) rfl (u8s_get (by rw [HX.out]; exact hPN))
      have cb : b < wr.heap.size := (hO.base (i := 1) rfl).2
      obtain ⟨y, hy⟩ : ∃ y, y = xs[P]?.getD 0 := ⟨_, rfl⟩
      rw [← hy] at c1 hrs
      obtain ⟨tk, htk⟩ : ∃ tk, tk = notes N on false a ts k := ⟨_, rfl⟩
      rw [← htk] at hO hns
      obtain ⟨zk, hzk⟩ : ∃ zk, zk = readN N a xs k := ⟨_, rfl⟩
      rw [← hzk] at hO hrs
      have HRS := hide_ hrs
      have HNS := hide_ hns
      have HO := hide_ hO
      have HB := hide_ hb
      have hsz := hb.size
      have i1 : (0 : Int) ≤ (P : Int) := by omega
      have i2 : (P : Int) < (N : Int) := by omega
      clear hO hb hrs hns hy htk hzk hP p0 p1
      go_wp2_with fail
      refine hpl.out.mono ?_
      rintro e w' ⟨rfl, hw⟩
      subst w'
      go_wp2_with (at_builtin; refine wpList_append_owns _ rfl (.tmp 19) (.tmp 27) 46 rfl B _ 3 5 1 (.slice A k cc) k (u8s zk) rfl (HO.out.alloc _) (by simp; omega) i0 _ 1 Try.underlying46 hi0 hz0 hz1 hz2 rfl (by omega) rfl _ _ 1 1 [.int .u8 y] rfl (reads_new wr 5 1 1 [.int .u8 y] rfl) (by simp [Value.oneCell']) (by simp only [maxLen]; omega) (by omega) ?_)
      intro v1 w2 hO2 hb2 hsz2
      obtain ⟨A2, c2, hv, _, _⟩ := ownsRow_slice (hO2.at_ (i := 3) rfl)
      simp only at hv
      subst hv
      have hO3 : Owns w2 B (refRows r b N c on lv' tk xs ++ (byteR A2 (k + 1) c2 (zk ++ [y]) :: ex)) := by
        unfold byteR
        rw [u8s_snoc]
        exact hO2
      have hB2 := (HB.out.alloc (Nat.le_trans hB hsz) _).trans hb2
      have hno := hide_ (rnote_any (W := w2) (P : Int) false hO3 (Nat.le_trans hB hB2.size) (by omega) (by omega))
      have HB2 := hide_ hB2
      clear hO2 hb2 hO3 hB2 HO HB
      go_wp2_with fail
      refine hno.out.mono ?_
      rintro e w3 ⟨rfl, ⟨lv3, hO3⟩, hb3⟩
      have HO3 := hide_ hO3
      have HB3 := hide_ (HB2.out.trans hb3)
      clear hO3 hb3 hno
      go_wp2
      go_roundw
      case rel => exact ⟨k + 1, A2, c2, lv3, by omega, by go_num, rfl, by rw [HNS.out, HRS.out]; exact HO3.out, HB3.out⟩
      case measure => simp [intOf]; omega
    · obtain rfl : k = n := by omega
      have HO := hide_ hO
      have HB := hide_ hb
      clear hO hb
      go_wp2
      go_ret
      exact ⟨A, cc, rfl, ⟨lv', HO.out⟩, HB.out⟩
end
end Go.Proofs.Ytgppbdcnpailaaa
