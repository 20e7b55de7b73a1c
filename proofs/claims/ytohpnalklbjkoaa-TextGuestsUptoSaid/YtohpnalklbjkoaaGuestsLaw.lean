/-
  The walk of the statement TextGuests.
-/
import Derived.Laws.IdiomStrings
import Derived.Deep.RegionHeld3
import Derived.Test.YtohpnalklbjkoaaGuestP
import Derived.Test.YtohpnalklbjkoaaShowLaw
import Derived.Test.YtohpnalklbjkoaaBytesW
namespace Go.Proofs.Ytohpnalklbjkoaa
open Go.RowKit Go.PlainAid

/-- '[]byte(s)' of a text of bytes -/
theorem bytes_of_str (w : World) (l : List Int) (h : ∀ x ∈ l, isByte x) : ∃ cap W2, (convert 9 31 (.string (strOfNums l))).run Try.prog w = .ok (.slice (some ⟨w.heap.size, 0, none⟩) (strOfNums l).size cap) W2 ∧
    Reads W2 (w.heap.size + 1) 1 (some ⟨w.heap.size, 0, none⟩) (strOfNums l).size (u8s l) ∧ Below w.heap.size w W2 := by
  refine ⟨_, _, run_bytes_of_string w 9 31 5 (strOfNums l) Try.underlying9 Try.underlying31 Try.underlying5, ⟨by rw [strOfNums_size]; simp, fun _ => ⟨_, rfl, by dsimp only; omega, fun j u hu => ?_⟩⟩, (Below.refl _ w).drew.alloc (Nat.le_refl _) _⟩
  have hj : j < l.length := by
    have := (List.getElem?_eq_some_iff.1 hu).1
    simpa using this
  rw [List.getElem?_map, List.getElem?_eq_getElem hj] at hu
  have hu2 : u = .int .u8 l[j] := by simpa using hu.symm
  have hs : j < (strOfNums l).data.size := by
    show j < (strOfNums l).size
    rw [strOfNums_size]
    exact hj
  have e1 : ((⟨w.heap.size, 0, none⟩ : Addr).add j) = ⟨w.heap.size, j, none⟩ := by unfold Addr.add; split <;> simp_all
  have e2 := World.cell?_alloc_mark w.drew (bytesRow (strOfNums l) (grownCap w (strOfNums l).size 0 5)) 5 ((bytesRow (strOfNums l) (grownCap w (strOfNums l).size 0 5)).size, (bytesRow (strOfNums l) (grownCap w (strOfNums l).size 0 5)).size + 1) j
  rw [e1]
  refine (show _ = _ from e2).trans ?_
  rw [bytesRow_at _ _ j hs, hu2]
  obtain ⟨h0, h1⟩ := h l[j] (List.getElem_mem hj)
  have e3 : ((strOfNums l).data[j]'hs) = UInt8.ofNat (l[j]).toNat := by simp [strOfNums]
  rw [e3, UInt8.toNat_ofNat', Nat.mod_eq_of_lt (by omega), Int.toNat_of_nonneg h0]

def plainL (l : List Int) : List Int := l.map fun x => 32 + x % 95
theorem plainL_snoc (l : List Int) (x : Int) : plainL (l ++ [x]) = plainL l ++ [32 + x % 95] := by simp [plainL]
theorem plainL_print (l : List Int) : ∀ x ∈ plainL l, 32 ≤ x ∧ x ≤ 126 := by
  intro x hx
  obtain ⟨y, _, rfl⟩ := List.mem_map.1 hx
  omega
set_option maxRecDepth 100000 in
set_option maxHeartbeats 1000000 in
theorem TextGuests_walk (A : Option Addr) (n c : Nat) (xs : List Int) (w : World) (ha : Reads w w.heap.size 1 A n (u8s xs)) (hwf : ∀ x ∈ xs, (Lit.int .u8 x).wf = true) (hnc : n ≤ c) (hc : c ≤ 1048576) :
    Calls Try.prog 12 #[.slice A n c] w fun e w' => e = .returned (.bool true) ∧ Below w.heap.size w w' := by
  obtain ⟨i0, hi, hz0, hz1, hz2⟩ := info_parts bld_u8
  have hx := wf_byte hwf
  have la : xs.length = n := by simpa using ha.1
  obtain ⟨gl, hgl⟩ : ∃ gl, gl = guestL (strOfNums (upTo xs)) := ⟨_, rfl⟩
  have hgp := guest_print (strOfNums (upTo xs))
  have hgb := guestL_byte (strOfNums (upTo xs))
  have hgt := guest_twice (strOfNums (upTo xs))
  have hg4 := guest_len (cuts (strOfNums (upTo xs)))
  have hcl := cutsAt_len (strOfNums (upTo xs)) 0
  rw [← cuts_at, strOfNums_size] at hcl
  have hul := upTo_len xs
  have hg5 : (guestL (strOfNums (upTo xs))).length ≤ 4 * n := by unfold guestL; omega
  rw [← hgl] at hgp hgb hgt hg5
  have hsG := strOfNums_size gl
  have hpr : ∀ k, k < (strOfNums gl).size → (32 ≤ bt (strOfNums gl) k ∨ bt (strOfNums gl) k = 10) ∧ bt (strOfNums gl) k ≠ 127 := by
    intro k hk
    have h1 := (strOf_has gl hgb).2 k (by rw [← hsG]; exact hk)
    rw [Nat.zero_add, ← bt_eq _ k hk, List.getElem?_eq_getElem (by rw [← hsG]; exact hk), Option.getD_some] at h1
    rw [h1]
    exact hgp _ (List.getElem_mem _)
  have hbs := fun W => bytes_of_str W gl hgb
  have hg1 := tGuest_any A n c xs w.heap.size w ha (by omega) hx
  rw [← hgl] at hg1
  have hg2 := fun (A' : Option Addr) (c' B' : Nat) (W : World) (hr : Reads W B' 1 A' (strOfNums gl).size (u8s gl)) => tGuest_any A' (strOfNums gl).size c' gl B' W hr (by omega) hgb
  rw [hgt] at hg2
  obtain ⟨G, hG⟩ : ∃ G, G = strOfNums gl := ⟨_, rfl⟩
  rw [← hG] at hsG hg1
  simp only [← hG] at hpr hbs hg2
  have HPR := hide_ hpr
  have HBS := hide_ hbs
  have HG1 := hide_ hg1
  have HG2 := hide_ hg2
  have HLA := hide_ la
  have hG4 : G.size ≤ 4194304 := by omega
  clear hpr hbs hg1 hg2 hgp hgb hgt hg4 hcl hul hg5 hG hgl hsG la
  go_enter Try.func12, Try.ntmps12
  go_wp2_with (go_at_call 31; refine (HG1.out).mono ?_)
  rintro e w1 ⟨rfl, hb1⟩
  go_wp2
  go_loopw [4] (fun i wr => ∃ k : Nat, k ≤ G.size ∧ i = .int .i64 k ∧ wr = w1) (fun i _ => G.size - (intOf i).toNat)
  case atStart => exact ⟨0, Nat.zero_le _, rfl, rfl⟩
  case round =>
    obtain ⟨k, hk, rfl, rfl⟩ := hrel
    by_cases hlt : k < G.size
    · have hbt := get_bt G
      obtain ⟨p1, p2⟩ := HPR.out k hlt
      have d2 : (bt G k == 127) = false := by rw [beq_eq_false_iff_ne]; exact p2
      rcases p1 with p1 | p1
      · have d1 : decide (bt G k < 32) = false := by simp; omega
        clear p1 p2
        go_wp2
        go_roundw
        case rel => exact ⟨k + 1, by omega, by go_num, by trivial⟩
        case measure => simp [intOf]; omega
      · clear p2 d2
        go_wp2
        go_roundw
        case rel => exact ⟨k + 1, by omega, by go_num, by trivial⟩
        case measure => simp [intOf]; omega
    · obtain rfl : k = G.size := by omega
      obtain ⟨cap, W2, hcv, hrd, hb2⟩ := HBS.out wr
      have hB2 : Below w.heap.size w W2 := hb1.trans (hb2.mono hb1.size)
      have HB2 := hide_ hB2
      have HRD := hide_ hrd
      clear hB2 hb2 hrd
      go_wp2_with (go_at_call 31; refine (HG2.out _ _ _ W2 HRD.out).mono ?_)
      rintro e w3 ⟨rfl, hb3⟩
      have hB3 : Below w.heap.size w w3 := HB2.out.trans (hb3.mono HB2.out.size)
      clear hb3 hcv hb1
      go_wp2
      go_loopw [5, 6] (fun v i wr => ∃ j : Nat, j ≤ n ∧ i = .int .i64 j ∧ Owns wr w.heap.size [⟨5, 1, v, j, u8s (plainL (xs.take j))⟩] ∧ Below w.heap.size w wr) (fun _ i _ => n - (intOf i).toNat)
      case atStart => exact ⟨0, Nat.zero_le _, rfl, one_row (World.ownsRow_nil _ _ _ _), hB3⟩
      case round =>
        obtain ⟨j, hj, rfl, hO, hb⟩ := hrel
        obtain ⟨A0, c0, hv0, _, _⟩ := ownsRow_slice (hO.at_ (i := 0) rfl)
        simp only at hv0
        subst hv0
        have hsz := hb.size
        by_cases hlt2 : j < n
        · obtain ⟨ad, u, rfl, hadb, hu1, hc1⟩ := (ha.below hb).at_ hlt2
          have hu := get_map (Value.int .u8) xs 0 j (by rw [HLA.out]; exact hlt2) hu1
          subst hu
          have hxb : isByte (xs[j]?.getD 0) := by
            have h9 : j < xs.length := by rw [HLA.out]; exact hlt2
            rw [List.getElem?_eq_getElem h9]; exact hx _ (List.getElem_mem h9)
          obtain ⟨x, hxx⟩ : ∃ x, x = xs[j]?.getD 0 := ⟨_, rfl⟩
          rw [← hxx] at hc1 hxb
          have HS := hide_ (show plainL (xs.take (j + 1)) = plainL (xs.take j) ++ [32 + x % 95] by rw [take_snoc xs 0 j (by rw [HLA.out]; exact hlt2), ← hxx, plainL_snoc])
          have h0 := hxb.1
          have h1 := hxb.2
          have p1 : (32 + x % 95) % 256 = 32 + x % 95 := by omega
          clear hxx hu1 hxb
          go_wp2_with (at_builtin; refine wpList_append_owns _ rfl (.tmp 43) (.tmp 50) 31 rfl w.heap.size _ 0 5 1 _ j _ rfl (hO.alloc _) (by simp; omega) i0 _ 1 Try.underlying31 hi hz0 hz1 hz2 rfl (by omega) rfl _ _ 1 1 _ rfl (reads_new wr 5 1 1 [.int .u8 (32 + x % 95)] rfl) (by simp [Value.oneCell']) (by simp only [maxLen]; omega) (by omega) ?_; intro v1 w4 hO1 hb4 hsz4)
          go_roundw
          case rel =>
            refine ⟨j + 1, by omega, by go_num, ?_, (hb.alloc (by omega) _).trans hb4⟩
            rw [HS.out]
            simpa [u8s] using hO1
          case measure => simp [intOf]; omega
        · obtain rfl : j = n := by omega
          have HT := hide_ (show xs.take j = xs by rw [← HLA.out]; exact List.take_length)
          rw [HT.out] at hO
          go_wp2_with (at_builtin; refine wpList_append_owns _ rfl (.tmp 54) (.tmp 55) 31 rfl w.heap.size _ 0 5 1 _ j _ rfl (hO.alloc _) (by simp; omega) i0 _ 1 Try.underlying31 hi hz0 hz1 hz2 rfl (by omega) rfl _ _ 1 1 _ rfl (reads_new wr 5 1 1 [.int .u8 0] rfl) (by simp [Value.oneCell']) (by simp only [maxLen]; omega) (by omega) ?_)
          intro v1 w4 hO1 hb4 hsz4
          have hB4 : Below w.heap.size w w4 := (hb.alloc (by omega) _).trans hb4
          have ha4 := ha.below hB4
          go_wp2_with (at_builtin; refine wpList_append_owns _ rfl (.tmp 57) (.tmp 58) 31 rfl w.heap.size _ 0 5 1 _ (j + 1) _ rfl hO1 hB4.size i0 _ 1 Try.underlying31 hi hz0 hz1 hz2 rfl (by omega) rfl w.heap.size A j c (u8s xs) rfl ha4 (by intro u hu; obtain ⟨y, _, rfl⟩ := List.mem_map.1 hu; rfl) (by simp only [maxLen]; omega) (by omega) ?_)
          intro v5 w5 hO5 hb5 hsz5
          obtain ⟨A5, c5, hv5, hl5, hm5⟩ := ownsRow_slice (hO5.at_ (i := 0) rfl)
          simp only at hv5
          subst hv5
          have hB5 : Below w.heap.size w w5 := hB4.trans hb5
          have hr5 : Reads w5 w5.heap.size 1 A5 (j + 1 + j) (u8s (plainL xs ++ 0 :: xs)) := by
            have := Reads.of_own (hO5.at_ (i := 0) rfl)
            simpa [u8s] using this
          have hpl : (plainL xs).length = j := by unfold plainL; rw [List.length_map, HLA.out]
          have hr6 : Reads w5 w5.heap.size 1 A5 j (u8s (plainL xs)) := by
            have := hr5.take_ (k := j) (by omega)
            rw [← List.map_take, List.take_left' hpl] at this
            exact this
          have hgst := fun (W : World) (hr : Reads W w5.heap.size 1 A5 (j + 1 + j) (u8s (plainL xs ++ 0 :: xs))) => tGuest_any A5 (j + 1 + j) c5 (plainL xs ++ 0 :: xs) w5.heap.size W hr (by omega) (by
            intro x hx'
            rcases List.mem_append.1 hx' with h | h
            · have := plainL_print xs x h; unfold isByte; omega
            · rcases List.mem_cons.1 h with rfl | h
              · unfold isByte; omega
              · exact hx x h)
          rw [upTo_ahead _ _ (fun x h => by have := plainL_print xs x h; omega), guest_plain _ (plainL_print xs)] at hgst
          have hcvt := fun (W : World) (hr : Reads W w5.heap.size 1 A5 j (u8s (plainL xs))) => run_str_of_reads (P := Try.prog) W w5.heap.size 31 5 Try.underlying31 Try.underlying5 A5 j c5 (plainL xs) hr 9 Try.underlying9
          obtain ⟨PT, hPT⟩ : ∃ PT, PT = strOfNums (plainL xs) := ⟨_, rfl⟩
          simp only [← hPT] at hgst hcvt
          have HGST := hide_ hgst
          have HCVT := hide_ hcvt
          have HR5 := hide_ hr5
          have HR6 := hide_ hr6
          have HB5 := hide_ hB5
          have hl5' : j + 1 + j ≤ c5 := hl5
          have hj5 : j ≤ c5 := by omega
          clear hgst hcvt hr5 hr6 hB5 hPT hpl hO5 hO1 hO
          go_wp2
          have hcv5 := HCVT.out w5.drew HR6.out
          go_region_with (go_at_call 31; refine (HGST.out w5.drew HR5.out.drew).mono ?_; rintro e w6 ⟨rfl, hb6⟩; have hcv6 := HCVT.out w6 (HR6.out.drew.below hb6))
          all_goals
            go_wp2
            go_ret
            exact ⟨by first | rfl | (simp; rfl), HB5.out.trans ((show Below w5.heap.size w5 w6 from ⟨hb6.os, hb6.tape, hb6.output, hb6.size, hb6.block⟩).mono HB5.out.size)⟩
end Go.Proofs.Ytohpnalklbjkoaa
