/-
  The walk of the statement TextGuest.
-/
import Derived.Test.YtohpnalklbjkoaaGuestR
namespace Go.Proofs.Ytohpnalklbjkoaa
open Go.RowKit Go.PlainAid

theorem over_set120 (xs : List Int) (k : Nat) (h : k < xs.length) : (u8s (List.replicate k (120 : Int) ++ xs.drop k)).set k (.int .u8 120) = u8s (List.replicate (k + 1) (120 : Int) ++ xs.drop (k + 1)) := by
  rw [List.drop_eq_getElem_cons h]
  simp only [u8s, List.map_append, List.map_cons, List.map_replicate]
  rw [List.set_append_right _ _ (by simp)]
  simp [List.replicate_succ', List.append_assoc]
theorem guest_x (n : Nat) : (strOfNums (guestL (strOfNums (upTo (List.replicate n (120 : Int)))))).size = n := by
  have hp : ∀ x ∈ List.replicate n (120 : Int), 32 ≤ x ∧ x ≤ 126 := fun x hx => by rw [List.eq_of_mem_replicate hx]; omega
  rw [upTo_self _ (fun x hx => by have := hp x hx; omega), guest_plain _ hp, strOfNums_size, List.length_replicate]
set_option maxRecDepth 100000 in
set_option maxHeartbeats 1000000 in
theorem TextGuest_walk (A : Option Addr) (n c : Nat) (xs : List Int) (w : World) (ha : Reads w w.heap.size 1 A n (u8s xs)) (hwf : ∀ x ∈ xs, (Lit.int .u8 x).wf = true) (hnc : n ≤ c) (hc : c ≤ 1048576) :
    Calls Try.prog 11 #[.slice A n c] w fun e w' => e = .returned (.bool true) ∧ Below w.heap.size w w' := by
  have hx := wf_byte hwf
  have la : xs.length = n := by simpa using ha.1
  obtain ⟨S, hS⟩ : ∃ S, S = strOfNums (guestL (strOfNums (upTo xs))) := ⟨_, rfl⟩
  obtain ⟨V, hV⟩ : ∃ V, V = strOfNums (guestL (strOfNums (upTo (List.replicate n (120 : Int))))) := ⟨_, rfl⟩
  have hVs := guest_x n
  rw [← hV] at hVs
  have h120 : ∀ x ∈ List.replicate n (120 : Int), isByte x := fun x hx => by rw [List.eq_of_mem_replicate hx]; unfold isByte; omega
  go_enter Try.func11, Try.ntmps11
  go_wp2_with (go_at_call 18; refine (LentBytes_any A n c xs w.heap.size w ha (Nat.le_refl _) (by omega)).mono ?_)
  rintro e w1 ⟨v, rfl, hown, hb1⟩
  obtain ⟨g, c1, rfl⟩ := ownsRow_some hown (by omega)
  obtain ⟨_, _, hv0, hc0, hc1⟩ := ownsRow_slice hown
  injection hv0 with e1 e2 e3
  subst e3
  clear e1 e2
  have hgB : w.heap.size ≤ g ∧ g < w1.heap.size := hown.lt g rfl
  have hr1 := (Reads.of_own hown).take_ (k := n) (by omega)
  have ht1 : (u8s (xs ++ marks8 0 0 64)).take n = u8s xs := by rw [← List.map_take, List.take_left' la]
  rw [ht1] at hr1
  have hOwn := hide_ hown
  clear hown ht1
  go_wp2_with (go_at_call 31; refine (tGuest_any _ n _ xs w1.heap.size w1 hr1 (by omega) hx).mono ?_)
  rintro e w2 ⟨rfl, hb2⟩
  rw [← hS]
  have ha2 := (ha.below hb1).below (hb2.mono hb1.size)
  go_wp2_with (go_at_call 32; refine (rGuest_any _ n _ xs w.heap.size w2 ha2 (by have := hb1.size; have := hb2.size; omega) hnc (by omega) hx).mono ?_)
  rintro e w3 ⟨rfl, hb3⟩
  rw [← hS]
  have hB13 : Below w1.heap.size w1 w3 := hb2.trans (hb3.mono hb2.size)
  have hO1 : Owns w1 w.heap.size [⟨5, 1, .slice (some ⟨g, 0, none⟩) (n + 64) c1, n + 64, u8s (xs ++ marks8 0 0 64)⟩] := ⟨fun r hr => by rw [List.mem_singleton.1 hr]; exact hOwn.out, List.pairwise_singleton _ _⟩
  have hO3 := hO1.below hB13
  have hr3 := Reads.of_own (hO3.at_ (i := 0) rfl)
  have hB03 : Below w.heap.size w w3 := hb1.trans (hB13.mono hb1.size)
  have ha3 := (ha.below hB03).more hB03.size
  go_wp2_with (go_at_call 21; refine (KeptBytes_any _ _ (n + 64) _ n _ (xs ++ marks8 0 0 64) xs w3.heap.size w3 hr3 ha3 (by unfold maxLen; omega) (by unfold maxLen; omega)).mono ?_; rintro e w4 ⟨rfl, nq, rfl⟩)
  obtain ⟨ys, hys⟩ : ∃ ys, ys = xs ++ marks8 0 0 64 := ⟨_, rfl⟩
  have hyl : ys.length = n + 64 := by rw [hys, List.length_append, la, marks8_len]
  have hO4 : Owns (w3.drewN nq) w.heap.size [⟨5, 1, .slice (some ⟨g, 0, none⟩) (n + 64) c1, n + 64, u8s (List.replicate 0 (120 : Int) ++ ys.drop 0)⟩] := by simpa [hys] using hO3.drewN nq
  have hB04 : Below w.heap.size w (w3.drewN nq) := ⟨hB03.os, hB03.tape, hB03.output, hB03.size, hB03.block⟩
  obtain ⟨W4, hW4⟩ : ∃ W4, W4 = w3.drewN nq := ⟨_, rfl⟩
  rw [← hW4] at hO4 hB04 ⊢
  have HYL := hide_ hyl
  have HLA := hide_ la
  clear hr3 ha3 hO3 hW4 hys hyl la
  go_loopw [5] (fun i wr => ∃ k : Nat, k ≤ n + 64 ∧ i = .int .i64 k ∧ Owns wr w.heap.size [⟨5, 1, .slice (some ⟨g, 0, none⟩) (n + 64) c1, n + 64, u8s (List.replicate k (120 : Int) ++ ys.drop k)⟩] ∧ Below w.heap.size w wr ∧ g < wr.heap.size) (fun i _ => n + 64 - (intOf i).toNat)
  case atStart => exact ⟨0, Nat.zero_le _, rfl, hO4, hB04, by have := hO4.base (i := 0) rfl; omega⟩
  case round =>
    obtain ⟨k, hk, rfl, hO, hb, hgl⟩ := hrel
    by_cases hlt : k < n + 64
    · have hky : k < ys.length := by rw [HYL.out]; exact hlt
      have hcell : wr.cell? ⟨g, k, none⟩ = some (.int .u8 ((ys.drop k)[0]?.getD 0)) := hO.cell (i := 0) rfl (by
        rw [List.getElem?_map, List.getElem?_append_right (by simp)]
        rw [List.drop_eq_getElem_cons hky]
        simp [List.getElem?_eq_getElem hky])
      have hfz := hO.frozen (i := 0) rfl k
      have hset := hO.store (i := 0) (j := k) rfl (by rw [List.length_map, List.length_append, List.length_drop, List.length_replicate]; omega) (.int .u8 120)
      have hse := over_set120 ys k hky
      have HSET := hide_ hset
      have HSE := hide_ hse
      clear hset hse hky
      go_wp2
      go_roundw
      case rel =>
        refine ⟨k + 1, by omega, by go_num, ?_, hb.setCell (p := ⟨g, k, none⟩) hgB.1 _, by simpa using hgl⟩
        rw [← HSE.out]
        simpa using HSET.out
      case measure => simp [intOf]; omega
    · obtain rfl : k = n + 64 := by omega
      have hdr : ys.drop (n + 64) = [] := List.drop_eq_nil_of_le (by rw [HYL.out]; omega)
      rw [hdr, List.append_nil] at hO
      have hr5 := (Reads.of_own (hO.at_ (i := 0) rfl)).take_ (k := n) (by omega)
      have ht5 : (u8s (List.replicate (n + 64) (120 : Int))).take n = u8s (List.replicate n 120) := by rw [← List.map_take, List.take_replicate, Nat.min_eq_left (by omega)]
      rw [ht5] at hr5
      have HVS := hide_ hVs
      clear hdr ht5 hVs hO hO4
      go_wp2_with (go_at_call 31; refine (tGuest_any _ n _ (List.replicate n 120) wr.heap.size wr hr5 (by omega) h120).mono ?_)
      rintro e w7 ⟨rfl, hb7⟩
      rw [← hV]
      have hB07 : Below w.heap.size w w7 := hb.trans (hb7.mono hb.size)
      go_wp2_with (go_at_call 32; refine (rGuest_any _ n _ xs w.heap.size w7 (ha.below hB07) hB07.size hnc (by omega) hx).mono ?_)
      rintro e w8 ⟨rfl, hb8⟩
      rw [← hS]
      have hVn : ((V.size : Int) == (n : Int)) = true := by rw [beq_iff_eq, HVS.out]
      go_wp2
      go_ret
      exact ⟨by simp [guest_x n], hB07.trans (hb8.mono hB07.size)⟩
end Go.Proofs.Ytohpnalklbjkoaa
