/-
  The walks of playpenlaw09.made and playpenlaw09.awake.
-/
import Derived.Test.YtgppbdcnpailaaaSeg
namespace Go.Proofs.Ytgppbdcnpailaaa
open Go.RowKit

def seedAt (zs : List Int) (i : Nat) : Int := if zs.length = 0 then (i : Int) % 256 else zs[i % zs.length]?.getD 0
def seedXs (zs : List Int) (n : Nat) : List Int := (List.range n).map (seedAt zs)
theorem seedXs_succ (zs : List Int) (n : Nat) : seedXs zs (n + 1) = seedXs zs n ++ [seedAt zs n] := by simp [seedXs, List.range_succ]
theorem seedXs_len (zs : List Int) (n : Nat) : (seedXs zs n).length = n := by simp [seedXs]
theorem seedXs_ok {zs : List Int} (h : bytesOk zs) (n : Nat) : bytesOk (seedXs zs n) := by
  intro x hx
  obtain ⟨i, _, rfl⟩ := List.mem_map.1 hx
  unfold seedAt
  split
  · omega
  · next h0 =>
    have hi : i % zs.length < zs.length := Nat.mod_lt _ (by omega)
    rw [List.getElem?_eq_getElem hi]
    exact h _ (List.getElem_mem hi)
section
variable {W : World} {B : Nat} {ex : List Ro}
set_option maxRecDepth 100000 in
set_option maxHeartbeats 1000000 in
theorem made_seg (bits : Int) (K : Nat) (hK : bits % 9 = (K : Int)) (A : Option Addr) (n c Bz : Nat) (zs : List Int) (h0 : 0 ≤ bits) (h1 : bits < 256) (hO : Owns W B ex) (hB : B ≤ W.heap.size) (hz : Reads W Bz 1 A n (u8s zs)) (hBz : Bz ≤ W.heap.size) (hn : n ≤ 140737488351232) :
    Calls Try.prog 34 #[.int .u8 bits, .slice A n c] W fun e W' => ∃ g d c, e = .returned (.pointer (some ⟨g, 0, none⟩)) ∧ Owns W' B (memRows g d (2 ^ (8 + K)) c false (.slice none 0 0) [] (seedXs zs (2 ^ (8 + K))) ++ ex) ∧ Below W.heap.size W W' := by
  obtain ⟨i0, hi0, hz0, hz1, hz2⟩ := info_parts Try.info_u8
  have hK8 : K ≤ 8 := by omega
  have la : zs.length = n := by simpa using hz.1
  obtain ⟨N, hN⟩ : ∃ N, N = 2 ^ (8 + K) := ⟨_, rfl⟩
  rw [← hN]
  have hseg : IsSeg N := ⟨8 + K, by omega, by omega, hN⟩
  obtain ⟨n0, n1⟩ := hseg.bd
  have hw : wrap64 (256 * (2 : Int) ^ K) = (N : Int) := by
    have e : 256 * (2 : Int) ^ K = (N : Int) := by rw [hN, Nat.pow_add]; simp
    rw [e]
    unfold wrap64
    omega
  have HSEG := hide_ hseg
  have HLA := hide_ la
  have HO := hide_ hO
  clear hN hseg la hO
  go_enter Try.func34, Try.ntmps34
  go_wp2
  rw [hw]
  clear hw hK
  go_loopw [6, 7, 8] (fun v i _ wr => ∃ k : Nat, k ≤ N ∧ i = .int .i64 k ∧ Owns wr W.heap.size [⟨5, 1, v, k, u8s (seedXs zs k)⟩] ∧ Below W.heap.size W wr) (fun _ i _ _ => N - (intOf i).toNat)
  case atStart => exact ⟨0, Nat.zero_le _, rfl, ⟨fun r hr => by rw [List.mem_singleton.1 hr]; exact World.ownsRow_nil _ _ _ _, List.pairwise_singleton _ _⟩, Below.refl _ _⟩
  case round =>
    obtain ⟨k, hk, rfl, hOk, hb⟩ := hrel
    have hsz := hb.size
    by_cases hlt : k < N
    · by_cases hn0 : 0 < n
      · obtain ⟨ad, u, rfl, hab, hu, hcu⟩ := (hz.below (hb.mono hBz)).at_ (k := k % n) (Nat.mod_lt _ hn0)
        have hq : k % n < n := Nat.mod_lt _ hn0
        rw [u8s_get (by rw [HLA.out]; exact hq)] at hu
        injection hu with hu
        subst hu
        have hsd := hide_ (show seedAt zs k = zs[k % n]?.getD 0 by unfold seedAt; rw [if_neg (by rw [HLA.out]; omega), HLA.out])
        obtain ⟨q, hqq⟩ : ∃ q, q = k % n := ⟨_, rfl⟩
        rw [← hqq] at hcu hq hsd
        have r1 : (k : Int) % (n : Int) = (q : Int) := by rw [hqq]; simp
        have r2 : (k : Int).tmod (n : Int) = (q : Int) := by rw [Int.tmod_eq_emod_of_nonneg (by omega), r1]
        have q1 : (q : Int) < (n : Int) := by omega
        have d1 : ((n : Int) == 0) = false := by rw [beq_eq_false_iff_ne]; omega
        obtain ⟨y, hy⟩ : ∃ y, y = zs[q]?.getD 0 := ⟨_, rfl⟩
        rw [← hy] at hcu hsd
        have hbk : (ad.add q).block < wr.heap.size := by rw [block_of_add]; omega
        clear hqq hy
        go_wp2_with (at_builtin; refine wpList_append_owns _ rfl (.tmp 32) (.tmp 34) 46 rfl W.heap.size _ 0 5 1 _ k _ rfl (hOk.alloc _) (by simp; omega) i0 _ 1 Try.underlying46 hi0 hz0 hz1 hz2 rfl (by omega) rfl _ _ 1 1 [.int .u8 y] rfl (reads_new wr 5 1 1 [.int .u8 y] rfl) (by simp [Value.oneCell']) (by simp only [maxLen]; omega) (by omega) ?_)
        intro v1 w1 hO1 hb1 hsz1
        have HB1 := hide_ ((hb.alloc hsz _).trans hb1)
        go_wp2
        go_roundw
        case rel => exact ⟨k + 1, by omega, by go_num, by rw [seedXs_succ, u8s_app, hsd.out]; exact hO1, HB1.out⟩
        case measure => simp [intOf]; omega
      · have hsd := hide_ (show seedAt zs k = (k : Int) % 256 by unfold seedAt; rw [if_pos (by rw [HLA.out]; omega)])
        obtain rfl : n = 0 := by omega
        go_wp2_with (at_builtin; refine wpList_append_owns _ rfl (.tmp 32) (.tmp 34) 46 rfl W.heap.size _ 0 5 1 _ k _ rfl (hOk.alloc _) (by simp; omega) i0 _ 1 Try.underlying46 hi0 hz0 hz1 hz2 rfl (by omega) rfl _ _ 1 1 [.int .u8 ((k : Int) % 256)] rfl (reads_new wr 5 1 1 [.int .u8 ((k : Int) % 256)] rfl) (by simp [Value.oneCell']) (by simp only [maxLen]; omega) (by omega) ?_)
        intro v1 w1 hO1 hb1 hsz1
        have HB1 := hide_ ((hb.alloc hsz _).trans hb1)
        go_wp2
        go_roundw
        case rel => exact ⟨k + 1, by omega, by go_num, by rw [seedXs_succ, u8s_app, hsd.out]; exact hO1, HB1.out⟩
        case measure => simp [intOf]; omega
    · obtain rfl : k = N := by omega
      obtain ⟨A1, c1, hv, _, _⟩ := ownsRow_slice (hOk.at_ (i := 0) rfl)
      simp only at hv
      subst hv
      have hr := Reads.of_own (hOk.at_ (i := 0) rfl)
      have hf := hide_ (From_any A1 c1 (HO.out.below hb) (Nat.le_trans hB hsz) hr HSEG.out)
      have HB := hide_ hb
      clear hr hOk hb
      go_wp2_with (go_at_call 30; refine hf.out.mono ?_; rintro e w' ⟨g, d, c2, rfl, hO2, hb2⟩)
      have HB2 := hide_ (HB.out.trans (hb2.mono hsz))
      go_ret
      exact ⟨g, d, c2, rfl, hO2, HB2.out⟩
end
end Go.Proofs.Ytgppbdcnpailaaa
