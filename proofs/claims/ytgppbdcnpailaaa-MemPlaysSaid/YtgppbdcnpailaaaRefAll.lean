/-
  The walks of the document's segment: Load, Store, Copy, Read, Write, All, Clone, SetLog, Touched, New, From, Bits, Same.
-/
import Derived.Test.YtgppbdcnpailaaaRefPut
namespace Go.Proofs.Ytgppbdcnpailaaa
open Go.RowKit
set_option linter.unusedVariables false

theorem rptr_eq (a : Option Addr) (w : World) : (binOp .eql 85 (.pointer a) (.pointer none)).run Try.prog w = .ok (.bool a.isNone) w := by cases a <;> kernel_rfl
section
variable {W : World} {B r b N c : Nat} {on : Bool} {lv : Value} {ts : List (Int × Bool)} {xs : List Int} {ex : List Ro}
def tailW (zs : List Int) (n k : Nat) : Int := (zs.drop (n - k)).foldr (fun z x => x * 256 + z) 0
theorem tailW_succ {zs : List Int} {n k : Nat} (hl : zs.length = n) (hk : k < n) : tailW zs n (k + 1) = tailW zs n k * 256 + zs[n - 1 - k]?.getD 0 := by
  unfold tailW
  rw [show n - (k + 1) = n - 1 - k by omega, show n - k = n - 1 - k + 1 by omega]
  have hlt : n - 1 - k < zs.length := by omega
  rw [List.drop_eq_getElem_cons hlt, List.foldr_cons, List.getElem?_eq_getElem hlt]
  rfl
theorem tailW_bd {zs : List Int} {n : Nat} (hl : zs.length = n) (hok : bytesOk zs) (hn : n ≤ 4) : ∀ k, k ≤ n → 0 ≤ tailW zs n k ∧ tailW zs n k < 256 ^ k := by
  intro k
  induction k with
  | zero => intro _; rw [show tailW zs n 0 = 0 by unfold tailW; rw [List.drop_of_length_le (by omega)]; rfl]; simp
  | succ k ih =>
    intro hk
    obtain ⟨h1, h2⟩ := ih (by omega)
    rw [tailW_succ hl (by omega)]
    have hz : 0 ≤ zs[n - 1 - k]?.getD 0 ∧ zs[n - 1 - k]?.getD 0 < 256 := by
      have := gt_bd hok ((n - 1 - k : Nat) : Int)
      rwa [gt_nat] at this
    rw [Int.pow_succ]
    omega
theorem tailW_word {N : Nat} {a : Int} {xs : List Int} {n : Nat} (hn : n = 1 ∨ n = 2 ∨ n = 4) : tailW (readN N a xs n) n n = wordAt N a xs n := by
  rcases hn with rfl | rfl | rfl
  · simp [tailW, readN, wordAt, List.range_succ]
  · simp [tailW, readN, wordAt, List.range_succ]
    omega
  · simp [tailW, readN, wordAt, List.range_succ]
    omega
set_option maxRecDepth 100000 in
set_option maxHeartbeats 1000000 in
theorem rLoad_any (a : Int) (n : Nat) (hO : Owns W B (refRows r b N c on lv ts xs ++ ex)) (hB : B ≤ W.heap.size) (hN : IsPow N) (hx : xs.length = N) (hok : bytesOk xs) (h0 : 0 ≤ a) (h1 : a ≤ 4294967295) (hn : n = 1 ∨ n = 2 ∨ n = 4) :
    Calls Try.prog 121 #[.pointer (some ⟨r, 0, none⟩), .int .u32 a, .int .i64 n] W fun e W' => e = .returned (.int .u32 (wordAt N a xs n)) ∧ RefS W' B r b N c on (notes N on false a ts n) xs ex ∧ Below B W W' := by
  have hg := hide_ (rget_any a n hO hB hN hx h0 h1 (by omega))
  have he := rptr_eq
  have hzl := readN_len N a xs n
  have hzo := readN_ok (N := N) (a := a) hok n
  have HW := hide_ (tailW_word (N := N) (a := a) (xs := xs) hn)
  have hn4 : n ≤ 4 := by omega
  have hn1 : 1 ≤ n := by omega
  obtain ⟨zs, hzs⟩ : ∃ zs, zs = readN N a xs n := ⟨_, rfl⟩
  rw [← hzs] at hg hzl hzo HW
  have HZL := hide_ hzl
  have HZO := hide_ hzo
  have s0 : IntKind.i64.wrap ((n : Int) - 1) = (n : Int) - 1 := IntWalk.i64_in _ (by omega)
  clear hO hx hok hzl hzo hzs hn
  go_enter Try.func121, Try.ntmps121
  go_wp2_with fail
  refine hg.out.mono ?_
  rintro e w2 ⟨A2, c2, rfl, ⟨lv2, hO2⟩, hb2⟩
  have hrd : Reads w2 w2.heap.size 1 A2 n (u8s zs) := Reads.of_own (hO2.at_ (i := 3) rfl)
  have HRD := hide_ hrd
  have HE : Hid (RefS w2 B r b N c on (notes N on false a ts n) xs ex ∧ Below B W w2) := hide_ ⟨⟨lv2, hO2.sub ((List.Sublist.refl _).append (.cons _ (.refl _)))⟩, hb2⟩
  clear hO2 hb2 hrd hg
  go_wp2
  go_loopw [8, 9] (fun x i W1 => ∃ k : Nat, k ≤ n ∧ i = .int .i64 ((n : Int) - 1 - k) ∧ x = .int .u32 (tailW zs n k) ∧ W1 = w2) (fun _ i _ => (intOf i + 1).toNat)
  case atStart => exact ⟨0, Nat.zero_le _, by simp, by rw [show tailW zs n 0 = 0 by unfold tailW; rw [List.drop_of_length_le (by rw [HZL.out]; omega)]; rfl], rfl⟩
  case round =>
    obtain ⟨k, hk, rfl, rfl, rfl⟩ := hrel
    by_cases hlt : k < n
    · obtain ⟨ad, u, rfl, hab, hu, hcu⟩ := HRD.out.at_ (k := n - 1 - k) (by omega)
      rw [u8s_get (by rw [HZL.out]; omega)] at hu
      injection hu with hu
      subst hu
      have e1 : ((n : Int) - 1 - (k : Int)) = ((n - 1 - k : Nat) : Int) := by omega
      have hst := tailW_succ (zs := zs) HZL.out hlt
      obtain ⟨t0, t1⟩ := tailW_bd HZL.out HZO.out hn4 k (by omega)
      have hp : (256 : Int) ^ k ≤ 16777216 := by
        have : k = 0 ∨ k = 1 ∨ k = 2 ∨ k = 3 := by omega
        rcases this with rfl | rfl | rfl | rfl <;> decide
      have hy : 0 ≤ zs[n - 1 - k]?.getD 0 ∧ zs[n - 1 - k]?.getD 0 < 256 := by
        have := gt_bd HZO.out ((n - 1 - k : Nat) : Int)
        rwa [gt_nat] at this
      obtain ⟨y, hyy⟩ : ∃ y, y = zs[n - 1 - k]?.getD 0 := ⟨_, rfl⟩
      rw [← hyy] at hcu hst hy
      obtain ⟨p, hpp⟩ : ∃ p, p = n - 1 - k := ⟨_, rfl⟩
      rw [← hpp] at hcu e1
      obtain ⟨t, ht⟩ : ∃ t, t = tailW zs n k := ⟨_, rfl⟩
      rw [← ht] at t0 t1 hst ⊢
      have t2 : t < 16777216 := by omega
      have HST := hide_ hst
      have hbk : (ad.add p).block < wr.heap.size := by rw [block_of_add]; exact hab
      have hpn : p < n := by omega
      have HP := hide_ hpp
      have s1 : IntKind.i64.wrap ((p : Int) - 1) = (p : Int) - 1 := IntWalk.i64_in _ (by omega)
      rw [e1]
      clear hst ht hyy hpp e1 hab t1 hp
      go_wp2
      go_roundw
      case rel => exact ⟨k + 1, by omega, by rw [show ((n : Int) - 1 - ((k + 1 : Nat) : Int)) = (p : Int) - 1 by have := HP.out; omega], by rw [HST.out], by trivial⟩
      case measure => simp [intOf]
    · obtain rfl : k = n := by omega
      have d0 : decide ((0 : Int) ≤ (k : Int) - 1 - (k : Int)) = false := by simp; omega
      rw [HW.out]
      go_wp2
      go_ret
      exact ⟨rfl, HE.out⟩
theorem rLoad_nil (a : Int) (n : Nat) (W : World) : Calls Try.prog 121 #[.pointer none, .int .u32 a, .int .i64 n] W fun e W' => e = .returned (.int .u32 0) ∧ W' = W := by
  have he := rptr_eq
  go_enter Try.func121, Try.ntmps121
  go_wp2
  go_ret
  exact ⟨rfl, rfl⟩
/-- the lowest k bytes of a word, and what is left of it -/
def lowB (v : Int) (k : Nat) : List Int := (bytes4 v).take k
def restV (v : Int) : Nat → Int
  | 0 => v
  | 1 => v / 256
  | 2 => v / 65536
  | 3 => v / 16777216
  | _ => 0
theorem restV_succ {v : Int} (h0 : 0 ≤ v) (h1 : v < 4294967296) {k : Nat} (hk : k < 4) : restV v (k + 1) = restV v k / 256 ∧ (bytes4 v)[k]? = some (restV v k % 256) ∧ 0 ≤ restV v k ∧ restV v k < 4294967296 := by
  match k, hk with
  | 0, _ => exact ⟨rfl, rfl, h0, h1⟩
  | 1, _ => refine ⟨?_, rfl, ?_, ?_⟩ <;> simp only [restV] <;> omega
  | 2, _ => refine ⟨?_, rfl, ?_, ?_⟩ <;> simp only [restV] <;> omega
  | 3, _ =>
    refine ⟨?_, ?_, ?_, ?_⟩
    · simp only [restV]; omega
    · have e : v / 16777216 % 256 = v / 16777216 := Int.emod_eq_of_lt (by omega) (by omega)
      simp only [restV, bytes4]
      rw [e]
      rfl
    · simp only [restV]; omega
    · simp only [restV]; omega
theorem puts_low {N : Nat} (a : Int) (v : Int) (xs : List Int) (n : Nat) (hn : n ≤ 4) : puts N a (lowB v n) xs n = puts N a (bytes4 v) xs n := by
  have h : ∀ k, k ≤ n → puts N a (lowB v n) xs k = puts N a (bytes4 v) xs k := by
    intro k
    induction k with
    | zero => intro _; rfl
    | succ k ih =>
      intro hk
      rw [puts, puts, ih (by omega)]
      congr 1
      unfold lowB
      rw [List.getElem?_take, if_pos (by omega)]
  exact h n (Nat.le_refl _)
set_option maxRecDepth 100000 in
set_option maxHeartbeats 1000000 in
theorem rStore_any (a v : Int) (n : Nat) (hO : Owns W B (refRows r b N c on lv ts xs ++ ex)) (hB : B ≤ W.heap.size) (hN : IsPow N) (hx : xs.length = N) (h0 : 0 ≤ a) (h1 : a ≤ 4294967295) (hn : n ≤ 4) (hv0 : 0 ≤ v) (hv1 : v < 4294967296) :
    Calls Try.prog 58 #[.pointer (some ⟨r, 0, none⟩), .int .u32 a, .int .u32 v, .int .i64 n] W fun e W' => e = .returned (.tuple #[]) ∧ RefS W' B r b N c on (notes N on true a ts n) (puts N a (bytes4 v) xs n) ex ∧ Below B W W' := by
  obtain ⟨i0, hi0, hz0, hz1, hz2⟩ := info_parts Try.info_u8
  have he := rptr_eq
  have h2 : Owns W B (refRows r b N c on lv ts xs ++ (byteR none 0 0 (lowB v 0) :: ex)) := (hO.nilrow 5 1).front
  have HO := hide_ h2
  have HN := hide_ hN
  have HX := hide_ hx
  have HV := hide_ (fun k hk => restV_succ (k := k) hv0 hv1 hk)
  have HP := hide_ (puts_low (N := N) a v xs n hn)
  have HBB := hide_ hB
  clear hO h2 hN hx hv0 hv1
  go_enter Try.func58, Try.ntmps58
  go_wp2
  go_loopw [2, 8, 9] (fun vv l i wr => ∃ (k : Nat) (A : Option Addr) (cc : Nat), k ≤ n ∧ i = .int .i64 k ∧ l = .slice A k cc ∧ vv = .int .u32 (restV v k) ∧ Owns wr B (refRows r b N c on lv ts xs ++ (byteR A k cc (lowB v k) :: ex)) ∧ Below B W wr) (fun _ _ i _ => n - (intOf i).toNat)
  case atStart => exact ⟨0, none, 0, Nat.zero_le _, rfl, rfl, rfl, HO.out, Below.refl _ _⟩
  case round =>
    clear HO
    obtain ⟨k, A, cc, hk, rfl, rfl, rfl, hO, hb⟩ := hrel
    by_cases hlt : k < n
    · obtain ⟨g1, g2, g3, g4⟩ := HV.out k (by omega)
      have hls : lowB v (k + 1) = lowB v k ++ [restV v k % 256] := by
        unfold lowB
        rw [List.take_add_one, g2]
        rfl
      obtain ⟨z, hz⟩ : ∃ z, z = restV v k := ⟨_, rfl⟩
      rw [← hz] at g1 g3 g4 hls ⊢
      obtain ⟨lk, hlk⟩ : ∃ lk, lk = lowB v k := ⟨_, rfl⟩
      rw [← hlk] at hls hO
      have HLS := hide_ hls
      have HG := hide_ g1
      have HO := hide_ hO
      have HB := hide_ hb
      have hsz := hb.size
      have z1 : 0 ≤ z % 256 ∧ z % 256 < 256 := by omega
      have z2 : z % 256 % 256 = z % 256 := by omega
      clear hO hb hls g1 g2 hz hlk
      go_wp2_with (at_builtin; refine wpList_append_owns _ rfl (.tmp 17) (.tmp 21) 46 rfl B _ 3 5 1 (.slice A k cc) k (u8s lk) rfl (HO.out.alloc _) (by simp; omega) i0 _ 1 Try.underlying46 hi0 hz0 hz1 hz2 rfl (by omega) rfl _ _ 1 1 [.int .u8 (z % 256)] rfl (reads_new wr 5 1 1 [.int .u8 (z % 256)] rfl) (by simp [Value.oneCell']) (by simp only [maxLen]; omega) (by omega) ?_)
      intro v1 w2 hO2 hb2 hsz2
      obtain ⟨A2, c2, hv, _, _⟩ := ownsRow_slice (hO2.at_ (i := 3) rfl)
      simp only at hv
      subst hv
      have hO3 : Owns w2 B (refRows r b N c on lv ts xs ++ (byteR A2 (k + 1) c2 (lk ++ [z % 256]) :: ex)) := by
        unfold byteR
        rw [u8s_snoc]
        exact hO2
      have HO3 := hide_ hO3
      have HB2 := hide_ ((HB.out.alloc (by have := HBB.out; omega) _).trans hb2)
      clear hO2 hb2 hO3 HO HB
      go_wp2
      go_roundw
      case rel => exact ⟨k + 1, A2, c2, by omega, by go_num, rfl, by rw [HG.out], by rw [HLS.out]; exact HO3.out, HB2.out⟩
      case measure => simp [intOf]; omega
    · obtain rfl : k = n := by omega
      have hp := hide_ (rput_any (W := wr) a A k cc (lowB v k) hO (Nat.le_trans HBB.out hb.size) HN.out HX.out h0 h1 (by unfold lowB; rw [List.length_take]; simp [bytes4]; omega) (by omega)
        (fun W1 _ _ _ h1 _ => Reads.of_own (h1.1 (byteR A k cc (lowB v k)) (by simp))))
      have HB := hide_ hb
      clear hO hb
      go_wp2_with fail
      refine hp.out.mono ?_
      rintro e w3 ⟨rfl, ⟨lv3, hO3⟩, hb3⟩
      have HE : Hid (RefS w3 B r b N c on (notes N on true a ts k) (puts N a (bytes4 v) xs k) ex ∧ Below B W w3) := hide_ ⟨⟨lv3, by rw [← HP.out]; exact hO3.sub ((List.Sublist.refl _).append (.cons _ (.refl _)))⟩, HB.out.trans hb3⟩
      clear hO3 hb3 hp
      go_wp2
      go_end0
      exact ⟨rfl, HE.out⟩
theorem rStore_nil (a v : Int) (n : Nat) (W : World) : Calls Try.prog 58 #[.pointer none, .int .u32 a, .int .u32 v, .int .i64 n] W fun e W' => e = .returned (.tuple #[]) ∧ W' = W := by
  have he := rptr_eq
  go_enter Try.func58, Try.ntmps58
  go_wp2
  refine bodyPost_ret (results_none rfl _ _ _) rfl ?_
  exact ⟨rfl, rfl⟩
end
end Go.Proofs.Ytgppbdcnpailaaa
