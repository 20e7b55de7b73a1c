/-
  The kit's lists of texts and of tokens: markTexts, LentTexts, KeptTexts, SameTokens; sameTokens.
-/
import Derived.Test.YtmbofpeedjlfhaaDoorRTokE
import Derived.Test.YtmbofpeedjlfhaaDoorShow
import Derived.Test.YtmbofpeedjlfhaaDoorTokL
import Derived.Deep.RegionHeld3
namespace Go.Proofs.YtmbofpeedjlfhaaDoor
open Go.RowKit Go.PlainAid Go.BigFrame
set_option linter.unusedVariables false
set_option maxRecDepth 100000

theorem token_eq (w : World) (k a : Int) (T : ByteArray) : (binOp .neq 36 (.agg #[.int .u8 k, .int .i64 a, .string T]) (.agg #[.int .u8 k, .int .i64 a, .string T])).run Tryd.prog w = .ok (.bool false) w := by
  rw [run_neq_struct, run_equalIn_agg _ _ _ _ _ (by kernel_rfl) (by kernel_rfl)]
  have h := @Tryd.underlying36
  simp only [go_sem, h]
  simp
  go_simp
/-- the mark of place i of list k -/
def mkS (k i : Int) : ByteArray := strOfNums [35, k % 256, k / 256 % 256, i % 256, i / 256 % 256]
theorem markTexts_any (k i : Int) (w : World) : Calls Tryd.prog 27 #[.int .i64 k, .int .i64 i] w fun e w' => e = .returned (.string (mkS k i)) ∧ Below w.heap.size w w' := by
  have hcv := run_str_of_reads (P := Tryd.prog) (w.alloc (.cells #[.int .u8 35, .int .u8 (k % 256), .int .u8 (k / 256 % 256), .int .u8 (i % 256), .int .u8 (i / 256 % 256)] 5)) (w.heap.size + 1) 51 5 Tryd.underlying51 Tryd.underlying5 (some ⟨w.heap.size, 0, none⟩) 5 5 [35, k % 256, k / 256 % 256, i % 256, i / 256 % 256] (reads_new w 5 1 5 _ rfl) 9 Tryd.underlying9
  go_enter Tryd.func27, Tryd.ntmps27
  go_wp2
  go_ret
  exact ⟨rfl, (Below.refl _ w).alloc (Nat.le_refl _) _⟩
def marksS (n : Nat) : List ByteArray := (List.range n).map fun i => mkS 0 (i : Nat)
theorem marksS_succ (n : Nat) : marksS (n + 1) = marksS n ++ [mkS 0 (n : Nat)] := by simp [marksS, List.range_succ]
theorem marksS_len (n : Nat) : (marksS n).length = n := by simp [marksS]
def strV (l : List ByteArray) : List Value := l.map Value.string
theorem strV_app (a b : List ByteArray) : strV (a ++ b) = strV a ++ strV b := by simp [strV]
theorem str_info : (Tryd.prog.info? 9).map (fun i => (i.zero, i.size, i.bytes)) = some (some (.string ⟨#[]⟩), 1, 16) := by kernel_rfl
theorem strV_take (sg : List ByteArray) (m : Nat) (g : ByteArray) (h : sg[m]? = some g) : strV (sg.take (m + 1)) = strV (sg.take m) ++ [.string g] := by
  rw [List.take_add_one, h, strV_app]
  rfl
set_option maxHeartbeats 2000000 in
theorem LentTexts_any (A : Option Addr) (n c B : Nat) (sg : List ByteArray) (w : World) (hn : n * 16 + 1024 ≤ 140737488355328) (hr : Reads w B 1 A n (strV sg)) (hB : B ≤ w.heap.size) :
    Calls Tryd.prog 8 #[.slice A n c] w fun e w' => ∃ v, e = .returned v ∧ w'.ownsRow w.heap.size 9 1 v (n + 64) (strV (sg ++ marksS 64)) ∧ Below w.heap.size w w' := by
  obtain ⟨i0, hi0, hz0, hz1, hz2⟩ := info_parts str_info
  have hlen : sg.length = n := by have := hr.1; simpa [strV] using this
  have HR := hide_ hr
  have HLEN := hide_ hlen
  have HBB := hide_ hB
  clear hr hlen hB
  go_enter Tryd.func8, Tryd.ntmps8
  go_wp2
  go_loopw [3, 4] (fun v i wr => ∃ k : Nat, k ≤ n ∧ i = .int .i64 k ∧ wr.ownsRow w.heap.size 9 1 v k (strV (sg.take k)) ∧ Below w.heap.size w wr) (fun _ i _ => n - (intOf i).toNat)
  case atStart => exact ⟨0, Nat.zero_le _, rfl, World.ownsRow_nil _ _ _ _, Below.refl _ _⟩
  case round =>
    obtain ⟨k, hk, rfl, hown, hb⟩ := hrel
    obtain ⟨A0, c0, rfl, hc0, hc1⟩ := ownsRow_slice hown
    have HO := hide_ (one_row (r := ⟨9, 1, .slice A0 k c0, k, strV (sg.take k)⟩) hown)
    have HB := hide_ hb
    by_cases hlt : k < n
    · obtain ⟨g, hg⟩ : ∃ g, sg[k]? = some g := ⟨_, List.getElem?_eq_getElem (by have := HLEN.out; omega)⟩
      obtain ⟨b, o, rfl, hbk, hcl⟩ := reads_strs (HR.out.below (hb.mono HBB.out)) (by omega)
      have hcm := hcl k g hg
      have hbs : b < wr.heap.size := by have := HBB.out; have := hb.size; omega
      have HG := hide_ (strV_take sg k g hg)
      clear hcl hg hown hb
      go_wp2_with (at_builtin; refine wpList_append_owns _ rfl (.tmp 12) (.tmp 17) 22 rfl w.heap.size _ 0 9 1 (.slice A0 k c0) k (strV (sg.take k)) rfl (HO.out.alloc _) (by have := HB.out.size; simp; omega) i0 _ 16 Tryd.underlying22 hi0 hz0 hz1 hz2 rfl (by omega) rfl _ _ 1 1 [.string g] rfl (reads_new wr 9 1 1 [.string g] rfl) (by simp [Value.oneCell']) (by simp only [maxLen]; omega) (by omega) ?_)
      intro v1 w1 hO1 hb1 hsz1
      have HB1 := hide_ ((HB.out.alloc HB.out.size _).trans hb1)
      have HO1 := hide_ (hO1.at_ (i := 0) rfl)
      clear hO1 hb1 hsz1
      go_wp2
      go_roundw
      case rel => exact ⟨k + 1, by omega, by go_num, by rw [HG.out]; exact HO1.out, HB1.out⟩
      case measure => simp [intOf]; omega
    · obtain rfl : k = n := by omega
      have HO2 := hide_ (show wr.ownsRow w.heap.size 9 1 (.slice A0 k c0) (k + 0) (strV (sg ++ marksS 0)) by
        have h9 := hown
        rw [List.take_of_length_le (by have := HLEN.out; omega)] at h9
        simpa [marksS] using h9)
      clear HO hown hb
      go_wp2
      go_loopw [3, 5] (fun v i wr => ∃ j : Nat, j ≤ 64 ∧ i = .int .i64 j ∧ wr.ownsRow w.heap.size 9 1 v (k + j) (strV (sg ++ marksS j)) ∧ Below w.heap.size w wr) (fun _ i _ => 64 - (intOf i).toNat)
      case atStart => exact ⟨0, by omega, rfl, HO2.out, HB.out⟩
      case round =>
        clear HO2 HB
        obtain ⟨j, hj, rfl, hown, hb⟩ := hrel
        obtain ⟨A1, c1, rfl, hc2, hc3⟩ := ownsRow_slice hown
        have HOWN := hide_ hown
        have HB := hide_ hb
        have HSZ := hide_ hb.size
        clear hown hb
        by_cases hlt2 : j < 64
        · have HMK := hide_ (fun W => markTexts_any 0 (j : Int) W)
          have HMS := hide_ (show strV (sg ++ marksS (j + 1)) = strV (sg ++ marksS j) ++ [.string (mkS 0 (j : Nat))] by rw [marksS_succ, ← List.append_assoc, strV_app]; rfl)
          obtain ⟨M, hM⟩ : ∃ M, M = mkS 0 (j : Int) := ⟨_, rfl⟩
          rw [← hM] at HMK
          have HMM := hide_ hM
          clear hM
          go_wp2_with fail
          refine (HMK.out _).mono ?_
          rintro e w2 ⟨rfl, hb2⟩
          have HO := hide_ ((one_row (r := ⟨9, 1, .slice A1 (k + j) c1, k + j, strV (sg ++ marksS j)⟩) HOWN.out).below hb2)
          have HB2 := hide_ (HB.out.trans (hb2.mono HSZ.out))
          clear hb2
          go_wp2_with (at_builtin; refine wpList_append_owns _ rfl (.tmp 23) (.tmp 26) 22 rfl w.heap.size _ 0 9 1 (.slice A1 (k + j) c1) (k + j) (strV (sg ++ marksS j)) rfl (HO.out.alloc _) (by have := HB2.out.size; simp; omega) i0 _ 16 Tryd.underlying22 hi0 hz0 hz1 hz2 rfl (by omega) rfl _ _ 1 1 [.string M] rfl (reads_new w2 9 1 1 [.string M] rfl) (by simp [Value.oneCell']) (by simp only [maxLen]; omega) (by omega) ?_)
          intro v1 w3 hO1 hb1 hsz1
          have HB3 := hide_ ((HB2.out.alloc HB2.out.size _).trans hb1)
          have HO1 := hide_ (hO1.at_ (i := 0) rfl)
          clear hO1 hb1 hsz1
          go_wp2
          go_roundw
          case rel => exact ⟨j + 1, by omega, by go_num, by rw [HMS.out, ← HMM.out]; exact HO1.out, HB3.out⟩
          case measure => simp [intOf]; omega
        · obtain rfl : j = 64 := by omega
          go_wp2
          go_ret
          exact ⟨_, rfl, HOWN.out, HB.out⟩
set_option maxHeartbeats 2000000 in
theorem KeptTexts_any (A A' : Option Addr) (n c c' B : Nat) (ys : List ByteArray) (w : World) (hn : n ≤ 140737488351232) (ha : Reads w B 1 A (n + 64) (strV (ys ++ marksS 64))) (hb : Reads w B 1 A' n (strV ys)) (hB : B ≤ w.heap.size) :
    Calls Tryd.prog 11 #[.slice A (n + 64) c, .slice A' n c'] w fun e w' => e = .returned (.bool true) ∧ Below w.heap.size w w' := by
  have hlen : ys.length = n := by have := hb.1; simpa [strV] using this
  have h0 : (((n : Int) + 64) != ((n : Int) + 64)) = false := by simp
  obtain ⟨b, o, rfl, hbk, hcl⟩ := reads_strs ha (by omega)
  have HR := hide_ hb
  have HCL := hide_ hcl
  have HLEN := hide_ hlen
  have HBB := hide_ hB
  clear ha hb hlen hB hcl
  go_enter Tryd.func11, Tryd.ntmps11
  go_wp2
  go_loopw [5] (fun i wr => ∃ k : Nat, k ≤ n ∧ i = .int .i64 k ∧ Drew w wr) (fun i _ => n - (intOf i).toNat)
  case atStart => exact ⟨0, Nat.zero_le _, rfl, Drew.refl w⟩
  case round =>
    obtain ⟨k, hk, rfl, hd⟩ := hrel
    have HD := hide_ hd
    by_cases hlt : k < n
    · obtain ⟨g, hg⟩ : ∃ g, ys[k]? = some g := ⟨_, List.getElem?_eq_getElem (by have := HLEN.out; omega)⟩
      obtain ⟨b', o', rfl, hbk', hcl'⟩ := reads_strs HR.out (by omega)
      have hc1 : wr.cell? ⟨b', o' + k, none⟩ = some (.string g) := (hd.cell _).trans (hcl' k g hg)
      have hc2 : wr.cell? ⟨b, o + k, none⟩ = some (.string g) := (hd.cell _).trans (HCL.out k g (by rw [List.getElem?_append_left (by have := HLEN.out; omega)]; exact hg))
      have hb1 : b < wr.heap.size := by rw [hd.size]; have := HBB.out; omega
      have hb2 : b' < wr.heap.size := by rw [hd.size]; have := HBB.out; omega
      clear hcl' hg hd
      go_upto_region 6 with (fail)
      go_big_quiet (fail)
      go_wp2
      go_roundw
      case rel => exact ⟨k + 1, by omega, by go_num, HD.out.more _⟩
      case measure => simp [intOf]; omega
    · obtain rfl : k = n := by omega
      clear hd
      go_wp2
      go_loopw [6] (fun i wr => ∃ j : Nat, j ≤ 64 ∧ i = .int .i64 j ∧ Below w.heap.size w wr) (fun i _ => 64 - (intOf i).toNat)
      case atStart => exact ⟨0, by omega, rfl, HD.out.below _⟩
      case round =>
        obtain ⟨j, hj, rfl, hbw⟩ := hrel
        have HBW := hide_ hbw
        by_cases hlt : j < 64
        · have hcx : wr.cell? ⟨b, o + (k + j), none⟩ = some (.string (mkS 0 (j : Nat))) := (hbw.cell (p := ⟨b, o + (k + j), none⟩) (by have := HBB.out; simp only; omega)).trans (HCL.out (k + j) _ (by
            rw [List.getElem?_append_right (by have := HLEN.out; omega), show k + j - ys.length = j by have := HLEN.out; omega]
            simp [marksS, hlt]))
          have hbs : b < wr.heap.size := by have := HBB.out; have := hbw.size; omega
          have HMK := hide_ (fun W => markTexts_any 0 (j : Int) W)
          obtain ⟨M, hM⟩ : ∃ M, M = mkS 0 (j : Int) := ⟨_, rfl⟩
          rw [← hM] at HMK
          rw [show mkS 0 ((j : Nat) : Int) = M from hM.symm] at hcx
          have s1 : IntKind.i64.wrap ((k : Int) + (j : Int)) = (k : Int) + (j : Int) := IntWalk.i64_in _ (by omega)
          have s2 : (0 : Int) ≤ (k : Int) + (j : Int) := by omega
          have s3 : ((k : Int) + (j : Int)).toNat = k + j := by omega
          have s4 : (k : Int) + (j : Int) < (k : Int) + 64 := by omega
          have HSW := hide_ hbw.size
          clear hM hbw
          go_upto_region 11 with (fail)
          go_region_held3 (fun W => W.cell? ⟨b, o + (k + j), none⟩ = some (.string M))
            (first | exact hcx | exact (hb7.cell (p := ⟨b, o + (k + j), none⟩) hbs).trans hcx | go_keep)
            ((go_at_call 27; refine (HMK.out _).mono ?_; rintro e w7 ⟨rfl, hb7⟩))
          all_goals
            have HB7 := hide_ (HBW.out.trans ((show Below wr.heap.size wr w7 by first | exact hb7 | exact (Below.refl _ wr).drew.trans hb7).mono HSW.out))
            clear hb7
            go_wp2
            go_roundw
            case rel => exact ⟨j + 1, by omega, by go_num, by first | exact HB7.out | exact HB7.out.drew⟩
            case measure => simp [intOf]; omega
        · obtain rfl : j = 64 := by omega
          clear hbw
          go_wp2
          go_ret
          exact ⟨rfl, HBW.out⟩
set_option maxHeartbeats 2000000 in
theorem SameTokens_any (A A' : Option Addr) (n c c' B : Nat) (s : ByteArray) (l : List Tk) (w : World) (hn : n ≤ 140737488351232) (ha : Reads w B 3 A n (tkCells s l)) (hb : Reads w B 3 A' n (tkCells s l)) (hB : B ≤ w.heap.size) :
    Calls Tryd.prog 32 #[.slice A n c, .slice A' n c'] w fun e w' => e = .returned (.bool true) ∧ Drew w w' := by
  have hlen : l.length = n := by have := ha.1; rw [tkCells_len] at this; omega
  have h0 : ((n : Int) != (n : Int)) = false := by simp
  have HA := hide_ ha
  have HB := hide_ hb
  have HLEN := hide_ hlen
  have HBB := hide_ hB
  clear ha hb hlen hB
  go_enter Tryd.func32, Tryd.ntmps32
  go_wp2
  go_loopw [5] (fun i wr => ∃ k : Nat, k ≤ n ∧ i = .int .i64 k ∧ Drew w wr) (fun i _ => n - (intOf i).toNat)
  case atStart => exact ⟨0, Nat.zero_le _, rfl, Drew.refl w⟩
  case round =>
    obtain ⟨k, hk, rfl, hd⟩ := hrel
    have HD := hide_ hd
    by_cases hlt : k < n
    · obtain ⟨⟨K, a, q⟩, ht⟩ : ∃ t, l[k]? = some t := ⟨_, List.getElem?_eq_getElem (by have := HLEN.out; omega)⟩
      obtain ⟨ad, rfl, hbk, hcl⟩ := HA.out.2 (by omega)
      obtain ⟨ad', rfl, hbk', hcl'⟩ := HB.out.2 (by omega)
      obtain ⟨t0, t1, t2⟩ := tkCells_at s l k _ ht
      have key : ∀ (d : Addr) (i : Nat), 0 < i → d.add (k * 3 + i) = ⟨(d.add (k * 3)).block, (d.add (k * 3)).off + i, none⟩ := fun d i hi => by
        rw [← add_of_add]
        generalize d.add (k * 3) = p
        unfold Addr.add
        rw [if_neg (by omega)]
      have q0 := (hd.cell _).trans (hcl _ _ t0)
      have q1 := (hd.cell _).trans (hcl _ _ t1)
      have q2 := (hd.cell _).trans (hcl _ _ t2)
      have r0 := (hd.cell _).trans (hcl' _ _ t0)
      have r1 := (hd.cell _).trans (hcl' _ _ t1)
      have r2 := (hd.cell _).trans (hcl' _ _ t2)
      rw [key _ _ (by omega)] at q1 q2 r1 r2
      simp only at q0 q1 q2 r0 r1 r2
      have hb1 : (ad.add (k * 3)).block < wr.heap.size := by rw [block_of_add, hd.size]; have := HBB.out; omega
      have hb2 : (ad'.add (k * 3)).block < wr.heap.size := by rw [block_of_add, hd.size]; have := HBB.out; omega
      have hq := fun w => token_eq w K a (s.extract a q)
      clear hcl hcl' ht t0 t1 t2 key hd hbk hbk'
      go_upto_region 6 with (fail)
      go_big_quiet (fail)
      go_wp2
      go_roundw
      case rel => exact ⟨k + 1, by omega, by go_num, HD.out.more _⟩
      case measure => simp [intOf]; omega
    · obtain rfl : k = n := by omega
      clear hd
      go_wp2
      go_ret
      exact ⟨rfl, HD.out⟩
end Go.Proofs.YtmbofpeedjlfhaaDoor
