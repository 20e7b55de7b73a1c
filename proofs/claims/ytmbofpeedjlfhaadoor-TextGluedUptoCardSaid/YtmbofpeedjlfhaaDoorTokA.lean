/-
  The walks of letter, digit, named, quoted, signed: what text.token asks.
-/
import Derived.Test.YtmbofpeedjlfhaaDoorTokP
import Derived.Test.YtmbofpeedjlfhaaDoorShelf
namespace Go.Proofs.YtmbofpeedjlfhaaDoor
open Go.RowKit Go.PlainAid
set_option linter.unusedVariables false
set_option maxRecDepth 100000

theorem letter_any (r : Int) (w : World) : Calls Tryd.prog 51 #[.int .i32 r] w fun e w' => e = .returned (.bool (letR r)) ∧ w' = w := by
  rcases (show r < 65 ∨ (65 ≤ r ∧ r ≤ 90) ∨ (90 < r ∧ r < 97) ∨ (97 ≤ r ∧ r ≤ 122) ∨ (122 < r ∧ r < 192) ∨ 192 ≤ r by omega) with a | ⟨a, b⟩ | ⟨a, b⟩ | ⟨a, b⟩ | ⟨a, b⟩ | a
  · have e : letR r = false := by unfold letR; simp; omega
    rw [e]
    clear e
    go_enter Tryd.func51, Tryd.ntmps51
    go_wp2
    go_ret
    exact ⟨by first | rfl | (simp; omega) | simp, rfl⟩
  · have e : letR r = true := by unfold letR; simp; omega
    rw [e]
    clear e
    go_enter Tryd.func51, Tryd.ntmps51
    go_wp2
    go_ret
    exact ⟨by first | rfl | (simp; omega) | simp, rfl⟩
  · have e : letR r = false := by unfold letR; simp; omega
    rw [e]
    clear e
    go_enter Tryd.func51, Tryd.ntmps51
    go_wp2
    go_ret
    exact ⟨by first | rfl | (simp; omega) | simp, rfl⟩
  · have e : letR r = true := by unfold letR; simp; omega
    rw [e]
    clear e
    go_enter Tryd.func51, Tryd.ntmps51
    go_wp2
    go_ret
    exact ⟨by first | rfl | (simp; omega) | simp, rfl⟩
  · have e : letR r = false := by unfold letR; simp; omega
    rw [e]
    clear e
    go_enter Tryd.func51, Tryd.ntmps51
    go_wp2
    go_ret
    exact ⟨by first | rfl | (simp; omega) | simp, rfl⟩
  · have e : letR r = true := by unfold letR; simp; omega
    rw [e]
    clear e
    go_enter Tryd.func51, Tryd.ntmps51
    go_wp2
    go_ret
    exact ⟨by first | rfl | (simp; omega) | simp, rfl⟩
theorem digit_any (r : Int) (w : World) : Calls Tryd.prog 52 #[.int .i32 r] w fun e w' => e = .returned (.bool (digR r)) ∧ w' = w := by
  rcases (show r < 48 ∨ (48 ≤ r ∧ r ≤ 57) ∨ 57 < r by omega) with a | ⟨a, b⟩ | a
  · have e : digR r = false := by unfold digR; simp; omega
    rw [e]
    clear e
    go_enter Tryd.func52, Tryd.ntmps52
    go_wp2
    go_ret
    exact ⟨by first | rfl | (simp; omega) | simp, rfl⟩
  · have e : digR r = true := by unfold digR; simp; omega
    rw [e]
    clear e
    go_enter Tryd.func52, Tryd.ntmps52
    go_wp2
    go_ret
    exact ⟨by first | rfl | (simp; omega) | simp, rfl⟩
  · have e : digR r = false := by unfold digR; simp; omega
    rw [e]
    clear e
    go_enter Tryd.func52, Tryd.ntmps52
    go_wp2
    go_ret
    exact ⟨by first | rfl | (simp; omega) | simp, rfl⟩
theorem named_any (r : Int) (w : World) : Calls Tryd.prog 50 #[.int .i32 r] w fun e w' => e = .returned (.bool (namR r)) ∧ w' = w := by
  have H1 := hide_ (letter_any r w)
  have H2 := hide_ (digit_any r w)
  unfold namR
  cases h1 : letR r with
  | true =>
    rw [h1] at H1
    clear h1
    go_enter Tryd.func50, Tryd.ntmps50
    go_wp2_with fail
    refine H1.out.mono ?_
    rintro e w2 ⟨rfl, rfl⟩
    go_wp2
    go_ret
    exact ⟨by simp, rfl⟩
  | false =>
    rw [h1] at H1
    clear h1
    cases h2 : digR r with
    | true =>
      rw [h2] at H2
      clear h2
      go_enter Tryd.func50, Tryd.ntmps50
      go_wp2_with fail
      refine H1.out.mono ?_
      rintro e w2 ⟨rfl, rfl⟩
      go_wp2_with fail
      refine H2.out.mono ?_
      rintro e w2 ⟨rfl, rfl⟩
      go_wp2
      go_ret
      exact ⟨by simp, rfl⟩
    | false =>
      rw [h2] at H2
      clear h2
      go_enter Tryd.func50, Tryd.ntmps50
      go_wp2_with fail
      refine H1.out.mono ?_
      rintro e w2 ⟨rfl, rfl⟩
      go_wp2_with fail
      refine H2.out.mono ?_
      rintro e w2 ⟨rfl, rfl⟩
      go_wp2
      go_ret
      exact ⟨by simp [show (r == 95) = decide (r = 95) from by rw [Bool.eq_iff_iff]; simp], rfl⟩
theorem hasPrefix_fits (s : ByteArray) (i : Nat) (g : ByteArray) (hi : i ≤ s.size) : Lib.hasPrefix (s.extract i s.size).data.toList g.data.toList = decide (fitsAt s i g) := by
  have e1 : (s.extract i s.size).data.toList = s.data.toList.drop i := by
    rw [ByteArray.data_extract, Array.toList_extract, List.extract_eq_take_drop]
    exact List.take_of_length_le (Nat.le_of_eq (by rw [List.length_drop]; rfl))
  have e2 : ∀ j, (s.extract i (i + j)).data.toList = (s.data.toList.drop i).take j := fun j => by
    rw [ByteArray.data_extract, Array.toList_extract, List.extract_eq_take_drop, Nat.add_sub_cancel_left]
  have hl : (s.data.toList.drop i).length = s.size - i := by rw [List.length_drop]; rfl
  rw [e1, Lib.hasPrefix]
  by_cases h : fitsAt s i g
  · rw [decide_eq_true h]
    have h2 : (s.data.toList.drop i).take g.size = g.data.toList := by rw [← e2, h.2]
    rw [List.isPrefixOf_iff_prefix, ← h2]
    exact List.take_prefix _ _
  · rw [decide_eq_false h]
    refine Bool.eq_false_iff.2 fun hp => h ?_
    rw [List.isPrefixOf_iff_prefix] at hp
    have h3 := hp.length_le
    rw [hl] at h3
    have h4 : g.data.toList.length = g.size := rfl
    refine ⟨by omega, ?_⟩
    refine ByteArray.ext (Array.toList_inj.1 ?_)
    rw [e2, ← h4]
    exact (List.prefix_iff_eq_take.1 hp).symm
set_option maxHeartbeats 1000000 in
theorem quoted_any (s : ByteArray) (i : Nat) (w : World) (hz : s.size ≤ 1152921504606846976) (hi : i < s.size) :
    Calls Tryd.prog 81 #[.string s, .int .i64 i] w fun e w' => e = .returned (.tuple #[.int .i64 ((litE s i).getD 0 : Nat), .bool (litE s i).isSome]) ∧ w' = w := by
  have hbt := get_bt s
  obtain ⟨q, hq⟩ : ∃ q, q = bn s i := ⟨_, rfl⟩
  have hbi : bt s i = (q : Int) := by rw [hq]; exact bt_eq s i hi
  have HL := hide_ (show litE s i = litF s q (s.size - (i + 1)) (i + 1) by rw [hq]; rfl)
  obtain ⟨R, hR⟩ : ∃ R, R = litE s i := ⟨_, rfl⟩
  rw [← hR] at HL ⊢
  clear hq hR
  go_enter Tryd.func81, Tryd.ntmps81
  go_wp2
  go_loopw [6] (fun k wr => ∃ m : Nat, k = .int .i64 m ∧ m ≤ s.size + 1 ∧ Hid (R = litF s q (s.size - m) m) ∧ wr = w) (fun k _ => s.size + 1 - (intOf k).toNat)
  case atStart => exact ⟨i + 1, by go_num, by omega, HL, rfl⟩
  case round =>
    clear HL
    obtain ⟨m, rfl, hm, HL, rfl⟩ := hrel
    by_cases hlt : m < s.size
    · have hbm : bt s m = (bn s m : Int) := bt_eq s m hlt
      have hstep : litF s q (s.size - m) m = (if bn s m = q then some (m + 1) else if bn s m = 92 then litF s q (s.size - (m + 1)) (m + 2) else if bn s m = 10 then none else litF s q (s.size - (m + 1)) (m + 1)) := by rw [show s.size - m = (s.size - (m + 1)) + 1 by omega, litF, if_pos hlt]
      by_cases c1 : bn s m = q
      · rw [if_pos c1] at hstep
        have HR := hide_ (HL.out.trans hstep)
        rw [c1] at hbm
        clear HL hstep c1
        go_wp2
        go_ret2
        exact ⟨by rw [HR.out]; simp, rfl⟩
      · rw [if_neg c1] at hstep
        have d1 : ((bn s m : Int) == (q : Int)) = false := by simp; omega
        have d1' : (bt s m == (q : Int)) = false := by rw [hbm]; exact d1
        by_cases c2 : bn s m = 92
        · rw [if_pos c2, litF_fuel s q _ (s.size - (m + 2)) (m + 2) (by omega) (by omega)] at hstep
          have HR := hide_ (HL.out.trans hstep)
          have d2 : (bt s m == 92) = true := by rw [hbm]; simp; omega
          clear HL hstep c1 c2 d1 hbm
          go_wp2
          go_roundw
          case rel => exact ⟨m + 2, by go_num, by omega, HR, by trivial⟩
          case measure => simp [intOf]; omega
        · rw [if_neg c2] at hstep
          have d2 : (bt s m == 92) = false := by rw [hbm]; simp; omega
          by_cases c3 : bn s m = 10
          · rw [if_pos c3] at hstep
            have HR := hide_ (HL.out.trans hstep)
            have d3 : (bt s m == 10) = true := by rw [hbm]; simp; omega
            clear HL hstep c1 c2 c3 d1 hbm
            go_wp2
            go_ret2
            exact ⟨by rw [HR.out]; simp, rfl⟩
          · rw [if_neg c3] at hstep
            have HR := hide_ (HL.out.trans hstep)
            have d3 : (bt s m == 10) = false := by rw [hbm]; simp; omega
            clear HL hstep c1 c2 c3 d1 hbm
            go_wp2
            go_roundw
            case rel => exact ⟨m + 1, by go_num, by omega, HR, by trivial⟩
            case measure => simp [intOf]; omega
    · have HR := hide_ (HL.out.trans (show litF s q (s.size - m) m = none by rw [show s.size - m = 0 by omega]; rfl))
      clear HL
      go_wp2
      go_ret2
      exact ⟨by rw [HR.out]; simp, rfl⟩
set_option maxHeartbeats 1000000 in
theorem signed_any (s : ByteArray) (i : Nat) (A : Option Addr) (n c B : Nat) (sg : List ByteArray) (w : World) (hz : s.size ≤ 1152921504606846976) (hi : i < s.size) (hn : n ≤ 1048576) (hr : Reads w B 1 A n (sg.map Value.string)) (hB : B ≤ w.heap.size) :
    Calls Tryd.prog 56 #[.string s, .int .i64 i, .slice A n c] w fun e w' => e = .returned (.string (signN s i sg)) ∧ w' = w := by
  have hlen : sg.length = n := by have := hr.1; simpa using this
  have HR := hide_ hr
  have HLEN := hide_ hlen
  have HBB := hide_ hB
  clear hr hlen hB
  go_enter Tryd.func56, Tryd.ntmps56
  go_wp2
  go_loopw [7, 12] (fun b k wr => ∃ m : Nat, m ≤ n ∧ k = .int .i64 m ∧ b = .string (signN s i (sg.take m)) ∧ wr = w) (fun _ k _ => n - (intOf k).toNat)
  case atStart => exact ⟨0, Nat.zero_le _, rfl, rfl, rfl⟩
  case round =>
    obtain ⟨m, hm, rfl, rfl, rfl⟩ := hrel
    by_cases hlt : m < n
    · obtain ⟨g, hg⟩ : ∃ g, sg[m]? = some g := ⟨_, List.getElem?_eq_getElem (by have := HLEN.out; omega)⟩
      obtain ⟨ad, rfl, hbk, hc⟩ := HR.out.2 (by omega)
      have hcm := hc m (.string g) (by rw [List.getElem?_map, hg]; rfl)
      have hbs : (ad.add m).block < wr.heap.size := by rw [block_of_add]; have := HBB.out; omega
      have hst := signN_take s i sg m g hg
      obtain ⟨bst, hbst⟩ : ∃ b, b = signN s i (sg.take m) := ⟨_, rfl⟩
      rw [← hbst] at hst ⊢
      have HP := hide_ (Tryd.strings_HasPrefix (s.extract i s.size) g wr)
      rw [hasPrefix_fits s i g (by omega)] at HP
      unfold bestS at hst
      clear hc hbk hg hbst
      by_cases h1 : bst.size < g.size
      · by_cases h2 : fitsAt s i g
        · rw [if_pos ⟨h1, h2⟩] at hst
          rw [decide_eq_true h2] at HP
          have HST := hide_ hst
          clear hst h2
          go_wp2_with fail
          refine HP.out.mono ?_
          rintro e w2 ⟨rfl, rfl⟩
          go_wp2
          go_roundw
          case rel => exact ⟨m + 1, by omega, by go_num, by rw [HST.out], by trivial⟩
          case measure => simp [intOf]; omega
        · rw [if_neg (fun h => h2 h.2)] at hst
          rw [decide_eq_false h2] at HP
          have HST := hide_ hst
          clear hst h2
          go_wp2_with fail
          refine HP.out.mono ?_
          rintro e w2 ⟨rfl, rfl⟩
          go_wp2
          go_roundw
          case rel => exact ⟨m + 1, by omega, by go_num, by rw [HST.out], by trivial⟩
          case measure => simp [intOf]; omega
      · rw [if_neg (fun h => h1 h.1)] at hst
        have HST := hide_ hst
        have d1 : decide (bst.size < g.size) = false := by simpa using h1
        clear hst
        go_wp2
        go_roundw
        case rel => exact ⟨m + 1, by omega, by go_num, by rw [HST.out], by trivial⟩
        case measure => simp [intOf]; omega
    · obtain rfl : m = n := by omega
      have HT := hide_ (show sg.take m = sg from List.take_of_length_le (by have := HLEN.out; omega))
      go_wp2
      go_ret
      exact ⟨by rw [HT.out]; rfl, rfl⟩
end Go.Proofs.YtmbofpeedjlfhaaDoor
