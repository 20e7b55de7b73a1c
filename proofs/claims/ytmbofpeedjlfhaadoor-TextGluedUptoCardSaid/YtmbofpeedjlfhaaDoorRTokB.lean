/-
  The walks of the document's figureEnd, litEnd, passed.
-/
import Derived.Test.YtmbofpeedjlfhaaDoorRTokA
import Derived.Test.YtmbofpeedjlfhaaDoorTokF
namespace Go.Proofs.YtmbofpeedjlfhaaDoor
open Go.RowKit Go.PlainAid
set_option linter.unusedVariables false
set_option maxRecDepth 100000

set_option maxHeartbeats 4000000 in
theorem figureEnd_any (s : ByteArray) (i : Nat) (w : World) (hz : s.size ≤ 140737488351232) (hi : i < s.size) :
    Calls Tryd.prog 82 #[.string s, .int .i64 i] w fun e w' => e = .returned (.int .i64 (figE s i)) ∧ w = w' := by
  have hbt := get_bt s
  obtain ⟨X, hX⟩ : ∃ X, X = hexB s i := ⟨_, rfl⟩
  obtain ⟨R, hR⟩ : ∃ R, R = figE s i := ⟨_, rfl⟩
  have HFE := hide_ (show R = figF s X (s.size - (i + 1)) (i + 1) by rw [hR, hX]; rfl)
  rw [← hR]
  have HX := hide_ hX
  clear hR hX
  have hbi := bt_eq s i hi
  have hbj : i + 1 < s.size → bt s (i + 1) = (bn s (i + 1) : Int) := fun h => bt_eq s (i + 1) h
  have HBI := hide_ hbi
  have HBJ := hide_ hbj
  clear hbi hbj
  go_enter Tryd.func82, Tryd.ntmps82
  go_upto_region 1 with (fail)
  go_cut [5] from 10 (fun x wx => x = .bool X ∧ w = wx)
  case first =>
    by_cases h1 : i + 1 < s.size
    · by_cases h48 : bn s i = 48
      · by_cases h120 : bn s (i + 1) = 120
        · have HE := hide_ (show X = true by rw [HX.out]; unfold hexB; rw [decide_eq_true h1, decide_eq_true h48, decide_eq_true h120]; rfl)
          have e1 : (bt s i == 48) = true := by rw [HBI.out]; simp; omega
          have e2 : (bt s (i + 1) == 120) = true := by rw [HBJ.out h1]; simp; omega
          clear h48 h120
          go_wp2
          go_meet
          exact ⟨by rw [HE.out], rfl⟩
        · have HE := hide_ (show X = decide (bn s (i + 1) = 88) by rw [HX.out]; unfold hexB; rw [decide_eq_true h1, decide_eq_true h48, decide_eq_false h120]; simp)
          have e1 : (bt s i == 48) = true := by rw [HBI.out]; simp; omega
          have e2 : (bt s (i + 1) == 120) = false := by rw [HBJ.out h1]; simp; omega
          have e3 : (bt s (i + 1) == 88) = decide (bn s (i + 1) = 88) := by rw [HBJ.out h1, Bool.eq_iff_iff]; simp; omega
          obtain ⟨q, hq⟩ : ∃ q, q = decide (bn s (i + 1) = 88) := ⟨_, rfl⟩
          rw [← hq] at e3 HE
          clear h48 h120 hq
          go_wp2
          go_meet
          exact ⟨by rw [HE.out], rfl⟩
      · have HE := hide_ (show X = false by rw [HX.out]; unfold hexB; rw [decide_eq_false h48]; simp)
        have e1 : (bt s i == 48) = false := by rw [HBI.out]; simp; omega
        clear h48
        go_wp2
        go_meet
        exact ⟨by rw [HE.out], rfl⟩
    · have HE := hide_ (show X = false by rw [HX.out]; unfold hexB; rw [decide_eq_false h1]; simp)
      go_wp2
      go_meet
      exact ⟨by rw [HE.out], rfl⟩
  case rest =>
    obtain ⟨rfl, rfl⟩ := hcut
    clear HX HBI HBJ
    go_wp2_with fail
    go_loopw [6] (fun k wr => ∃ m : Nat, k = .int .i64 m ∧ i < m ∧ m ≤ s.size ∧ Hid (R = figF s X (s.size - m) m) ∧ w = wr) (fun k _ => s.size - (intOf k).toNat)
    case atStart => exact ⟨i + 1, by go_num, by omega, by omega, HFE, rfl⟩
    case round =>
      clear HFE
      obtain ⟨m, rfl, him, hm, HF, rfl⟩ := hrel
      by_cases hlt : m < s.size
      · obtain ⟨P, hP⟩ : ∃ P, P = powB X (bn s (m - 1)) := ⟨_, rfl⟩
        have hst := HF.out.trans (figF_step s X m hlt)
        unfold figS at hst
        rw [← hP] at hst
        have HG := hide_ (fun h : (figB (bn s m) || (P && (decide (bn s m = 43) || decide (bn s m = 45)))) = true => hst.trans (if_pos h))
        have HN := hide_ (fun h : (figB (bn s m) || (P && (decide (bn s m = 43) || decide (bn s m = 45)))) = false => hst.trans (if_neg (by rw [h]; decide)))
        have HP := hide_ hP
        have HLB := hide_ (bt_eq s (m - 1) (by omega))
        have hm1 : ((m : Int) - 1) = ((m - 1 : Nat) : Int) := by omega
        clear hst hP HF
        go_upto_region 6 with (fail)
        go_cut [8, 9] from 37 to 99 (fun _ p wx => p = .bool P ∧ w = wx)
        case first =>
          have f1 : (bt s (m - 1) == 101) = decide (bn s (m - 1) = 101) := by rw [HLB.out, Bool.eq_iff_iff]; simp; omega
          have f2 : (bt s (m - 1) == 69) = decide (bn s (m - 1) = 69) := by rw [HLB.out, Bool.eq_iff_iff]; simp; omega
          have f3 : (bt s (m - 1) == 112) = decide (bn s (m - 1) = 112) := by rw [HLB.out, Bool.eq_iff_iff]; simp; omega
          have f4 : (bt s (m - 1) == 80) = decide (bn s (m - 1) = 80) := by rw [HLB.out, Bool.eq_iff_iff]; simp; omega
          have HPP := HP.out
          unfold powB at HPP
          obtain ⟨b1, hb1⟩ : ∃ b, b = decide (bn s (m - 1) = 101) := ⟨_, rfl⟩
          obtain ⟨b2, hb2⟩ : ∃ b, b = decide (bn s (m - 1) = 69) := ⟨_, rfl⟩
          obtain ⟨b3, hb3⟩ : ∃ b, b = decide (bn s (m - 1) = 112) := ⟨_, rfl⟩
          obtain ⟨b4, hb4⟩ : ∃ b, b = decide (bn s (m - 1) = 80) := ⟨_, rfl⟩
          rw [← hb1] at f1 HPP
          rw [← hb2] at f2 HPP
          rw [← hb3] at f3 HPP
          rw [← hb4] at f4 HPP
          have HQ := hide_ HPP
          clear HPP hb1 hb2 hb3 hb4 HLB HP HG HN
          cases X
          · cases b1 <;> cases b2
            all_goals
              go_wp2
              go_meet
              exact ⟨by rw [HQ.out]; rfl, rfl⟩
          · cases b3 <;> cases b4
            all_goals
              go_wp2
              go_meet
              exact ⟨by rw [HQ.out]; rfl, rfl⟩
        case rest =>
          obtain ⟨rfl, rfl⟩ := hcut
          clear HP HLB hm1
          have hbm := bt_eq s m hlt
          have hb0 := bt_nonneg s m
          have hb1 := bt_le s m
          have HDG := hide_ (fun W => rdigit_any (bt s m) W)
          have HPL := hide_ (fun W => rplain_any (bt s m) W)
          have hdg : digR (bt s m) = decide (48 ≤ bn s m ∧ bn s m ≤ 57) := by unfold digR; rw [hbm, Bool.eq_iff_iff]; simp; omega
          have hpl : plainR (bt s m) = decide ((65 ≤ bn s m ∧ bn s m ≤ 90) ∨ (97 ≤ bn s m ∧ bn s m ≤ 122)) := by unfold plainR; rw [hbm, Bool.eq_iff_iff]; simp; omega
          rw [hdg] at HDG
          rw [hpl] at HPL
          have hcl := fig_class (bn s m) P
          rcases hcl with hc | hc | ⟨hc, rfl⟩ | ⟨hc, rfl⟩ | ⟨hc, rfl⟩ | ⟨hc, rfl⟩ | hc | hc | hc | hc | hc | hc
          all_goals
            first | (have d95 : (bt s m != 95) = true := by rw [hbm]; simp; omega) | (have d95 : (bt s m != 95) = false := by rw [hbm]; simp; omega)
            first | (have d46 : (bt s m != 46) = true := by rw [hbm]; simp; omega) | (have d46 : (bt s m != 46) = false := by rw [hbm]; simp; omega)
            first | (have d43 : (bt s m == 43) = true := by rw [hbm]; simp; omega) | (have d43 : (bt s m == 43) = false := by rw [hbm]; simp; omega)
            first | (have d45 : (bt s m == 45) = true := by rw [hbm]; simp; omega) | (have d45 : (bt s m == 45) = false := by rw [hbm]; simp; omega)
            first | rw [decide_eq_true (by omega)] at HDG | rw [decide_eq_false (by omega)] at HDG
            first | rw [decide_eq_true (by omega)] at HPL | rw [decide_eq_false (by omega)] at HPL
            first
              | have HST := hide_ (HG.out (by unfold figB; simp; omega))
              | have HST := hide_ (HN.out (by unfold figB; simp; omega))
            clear hdg hpl hc hbm HG HN
            go_wp2_with fail
            refine (HDG.out _).mono ?_
            rintro e w5 ⟨rfl, rfl⟩
            clear HDG
            first
              | (go_wp2_with fail; refine (HPL.out _).mono ?_; rintro e w6 ⟨rfl, rfl⟩; clear HPL; go_wp2)
              | go_wp2
            all_goals first
              | (go_roundw
                 case rel => (repeat apply Exists.intro); exact ⟨⟨m + 1, by go_num, by omega, by omega, HST, by trivial⟩, rfl⟩
                 case measure => simp [intOf]; omega)
              | (go_roundw
                 case rel => exact ⟨m + 1, by go_num, by omega, by omega, HST, by trivial⟩
                 case measure => simp [intOf]; omega)
              | (go_ret
                 exact ⟨by rw [HST.out]; rfl, by trivial⟩)
      · have HR := hide_ (show R = m by rw [HF.out, show s.size - m = 0 by omega]; rfl)
        clear HF
        go_wp2
        go_ret
        exact ⟨by rw [HR.out]; rfl, by trivial⟩
/-- litE as the document tells it -/
def litZ (s : ByteArray) (i : Nat) : Int := match litE s i with | none => -1 | some e => (e : Int)
theorem litZ_none (s : ByteArray) (i : Nat) (h : litE s i = none) : litZ s i = -1 := by unfold litZ; rw [h]
theorem litZ_some (s : ByteArray) (i e : Nat) (h : litE s i = some e) : litZ s i = e := by unfold litZ; rw [h]
set_option maxHeartbeats 1000000 in
theorem litEnd_any (s : ByteArray) (i : Nat) (w : World) (hz : s.size ≤ 140737488351232) (hi : i < s.size) (hq : bn s i = 34 ∨ bn s i = 39) :
    Calls Tryd.prog 95 #[.string s, .int .i64 i, .int .u8 (bt s i)] w fun e w' => e = .returned (.int .i64 (litZ s i)) ∧ w = w' := by
  have hbt := get_bt s
  obtain ⟨q, hqq⟩ : ∃ q, q = bn s i := ⟨_, rfl⟩
  have hbi : bt s i = (q : Int) := by rw [hqq]; exact bt_eq s i hi
  have HL := hide_ (show litE s i = litF s q (s.size - (i + 1)) (i + 1) by rw [hqq]; rfl)
  rw [← hqq] at hq
  obtain ⟨R, hR⟩ : ∃ R, R = litE s i := ⟨_, rfl⟩
  obtain ⟨Z, hZ⟩ : ∃ Z, Z = litZ s i := ⟨_, rfl⟩
  rw [← hR] at HL
  have HN := hide_ (show R = none → Z = -1 from fun h => by rw [hZ, litZ_none s i (hR.symm.trans h)])
  have HS := hide_ (show ∀ e : Nat, R = some e → Z = e from fun e h => by rw [hZ, litZ_some s i e (hR.symm.trans h)])
  rw [← hZ, hbi]
  clear hqq hR hZ hbi
  go_enter Tryd.func95, Tryd.ntmps95
  go_wp2
  go_loopw [7] (fun k wr => ∃ m : Nat, k = .int .i64 m ∧ m ≤ s.size + 1 ∧ Hid (R = litF s q (s.size - m) m) ∧ w = wr) (fun k _ => s.size + 1 - (intOf k).toNat)
  case atStart => exact ⟨i + 1, by go_num, by omega, HL, rfl⟩
  case round =>
    clear HL
    obtain ⟨m, rfl, hm, HL, rfl⟩ := hrel
    by_cases hlt : m < s.size
    · have hbm : bt s m = (bn s m : Int) := bt_eq s m hlt
      have hstep : litF s q (s.size - m) m = (if bn s m = q then some (m + 1) else if bn s m = 92 then litF s q (s.size - (m + 1)) (m + 2) else if bn s m = 10 then none else litF s q (s.size - (m + 1)) (m + 1)) := by rw [show s.size - m = (s.size - (m + 1)) + 1 by omega, litF, if_pos hlt]
      by_cases c2 : bn s m = 92
      · rw [if_neg (by omega), if_pos c2, litF_fuel s q _ (s.size - (m + 2)) (m + 2) (by omega) (by omega)] at hstep
        have HR := hide_ (HL.out.trans hstep)
        have d2 : (bt s m == 92) = true := by rw [hbm]; simp; omega
        clear HL hstep c2 hbm
        go_wp2
        go_roundw
        case rel => exact ⟨m + 2, by go_num, by omega, HR, by trivial⟩
        case measure => simp [intOf]; omega
      have d2 : (bt s m == 92) = false := by rw [hbm]; simp; omega
      by_cases c3 : bn s m = 10
      · rw [if_neg (by omega), if_neg c2, if_pos c3] at hstep
        have HR := hide_ (HN.out (HL.out.trans hstep))
        have d3 : (bt s m == 10) = true := by rw [hbm]; simp; omega
        clear HL hstep c2 c3 hbm
        go_wp2
        go_ret
        exact ⟨by rw [HR.out]; rfl, by trivial⟩
      have d3 : (bt s m == 10) = false := by rw [hbm]; simp; omega
      by_cases c1 : bn s m = q
      · rw [if_pos c1] at hstep
        have HR := hide_ (HS.out (m + 1) (HL.out.trans hstep))
        have d1 : (bt s m == (q : Int)) = true := by rw [hbm]; simp; omega
        clear HL hstep c1 c2 c3 hbm
        go_wp2
        go_ret
        exact ⟨by rw [HR.out]; simp, by trivial⟩
      · rw [if_neg c1, if_neg c2, if_neg c3] at hstep
        have HR := hide_ (HL.out.trans hstep)
        have d1 : (bt s m == (q : Int)) = false := by rw [hbm]; simp; omega
        clear HL hstep c1 c2 c3 hbm
        go_wp2
        go_roundw
        case rel => exact ⟨m + 1, by go_num, by omega, HR, by trivial⟩
        case measure => simp [intOf]; omega
    · have HR := hide_ (HN.out (HL.out.trans (show litF s q (s.size - m) m = none by rw [show s.size - m = 0 by omega]; rfl)))
      clear HL
      go_wp2
      go_ret
      exact ⟨by rw [HR.out]; rfl, by trivial⟩
/-- the place behind blanks and comments -/
def pasF (s : ByteArray) : Nat → Nat → Nat
  | 0, i => i
  | f + 1, i => if i < s.size then (if bn s i = 9 ∨ bn s i = 13 ∨ bn s i = 32 then pasF s f (i + 1) else if bn s i = 35 then pasF s f (lineE s i) else i) else i
def pasE (s : ByteArray) (i : Nat) : Nat := pasF s (s.size - i) i
theorem pasF_fuel (s : ByteArray) : ∀ (f g i : Nat), s.size - i ≤ f → s.size - i ≤ g → pasF s f i = pasF s g i := by
  intro f
  induction f with
  | zero =>
    intro g i hf _
    cases g with
    | zero => rfl
    | succ g => rw [pasF, pasF, if_neg (by omega)]
  | succ f ih =>
    intro g i hf hg
    cases g with
    | zero => rw [pasF, pasF, if_neg (by omega)]
    | succ g =>
      rw [pasF, pasF]
      split
      · rename_i hi
        split
        · exact ih g _ (by omega) (by omega)
        · split
          · rename_i h35
            have := lineE_lt s i hi h35
            exact ih g _ (by omega) (by omega)
          · rfl
      · rfl
theorem pasE_ge (s : ByteArray) (i : Nat) (h : s.size ≤ i) : pasE s i = i := by
  unfold pasE
  rw [pasF_fuel s _ 1 i (Nat.le_refl _) (by omega), pasF, if_neg (by omega)]
theorem pasE_blank (s : ByteArray) (i : Nat) (h : i < s.size) (hb : bn s i = 9 ∨ bn s i = 13 ∨ bn s i = 32) : pasE s i = pasE s (i + 1) := by
  unfold pasE
  rw [pasF_fuel s _ ((s.size - (i + 1)) + 1) i (Nat.le_refl _) (by omega), pasF, if_pos h, if_pos hb]
theorem pasE_note (s : ByteArray) (i : Nat) (h : i < s.size) (hb : bn s i = 35) : pasE s i = pasE s (lineE s i) := by
  have := lineE_lt s i h hb
  unfold pasE
  rw [pasF_fuel s _ ((s.size - (i + 1)) + 1) i (Nat.le_refl _) (by omega), pasF, if_pos h, if_neg (by omega), if_pos hb]
  exact pasF_fuel s _ _ _ (by omega) (by omega)
theorem pasE_stop (s : ByteArray) (i : Nat) (h35 : bn s i ≠ 35) (hb : ¬ (bn s i = 9 ∨ bn s i = 13 ∨ bn s i = 32)) : pasE s i = i := by
  unfold pasE
  rw [pasF_fuel s _ ((s.size - i) + 1) i (Nat.le_refl _) (by omega), pasF]
  by_cases hl : i < s.size
  · rw [if_pos hl, if_neg hb, if_neg h35]
  · rw [if_neg hl]
theorem pasE_bd (s : ByteArray) : ∀ (f i : Nat), s.size - i ≤ f → i ≤ s.size → i ≤ pasE s i ∧ pasE s i ≤ s.size ∧ (pasE s i < s.size → bn s (pasE s i) ≠ 35 ∧ ¬ (bn s (pasE s i) = 9 ∨ bn s (pasE s i) = 13 ∨ bn s (pasE s i) = 32)) ∧ ∀ sg, toksAt s sg i = toksAt s sg (pasE s i) := by
  intro f
  induction f with
  | zero =>
    intro i hf hi
    rw [pasE_ge s i (by omega)]
    exact ⟨Nat.le_refl _, hi, fun h => by omega, fun _ => rfl⟩
  | succ f ih =>
    intro i hf hi
    by_cases hlt : i < s.size
    · by_cases hb : bn s i = 9 ∨ bn s i = 13 ∨ bn s i = 32
      · rw [pasE_blank s i hlt hb]
        obtain ⟨h1, h2, h3, h4⟩ := ih (i + 1) (by omega) (by omega)
        exact ⟨by omega, h2, h3, fun sg => (toksAt_blank s sg i hlt hb).trans (h4 sg)⟩
      by_cases h35 : bn s i = 35
      · have hl := lineE_lt s i hlt h35
        rw [pasE_note s i hlt h35]
        obtain ⟨h1, h2, h3, h4⟩ := ih (lineE s i) (by omega) (by omega)
        exact ⟨by omega, h2, h3, fun sg => (toksAt_note s sg i hlt h35).trans (h4 sg)⟩
      · rw [pasE_stop s i h35 hb]
        exact ⟨Nat.le_refl _, hi, fun _ => ⟨h35, hb⟩, fun _ => rfl⟩
    · rw [pasE_ge s i (by omega)]
      exact ⟨Nat.le_refl _, hi, fun h => by omega, fun _ => rfl⟩
set_option maxHeartbeats 1000000 in
theorem passed_any (s : ByteArray) (i : Nat) (w : World) (hz : s.size ≤ 140737488351232) (hi : i ≤ s.size) :
    Calls Tryd.prog 57 #[.string s, .int .i64 i] w fun e w' => e = .returned (.int .i64 (pasE s i)) ∧ w = w' := by
  have hbt := get_bt s
  obtain ⟨R, hR⟩ : ∃ R, R = pasE s i := ⟨_, rfl⟩
  have HR := hide_ hR
  rw [← hR]
  clear hR
  go_enter Tryd.func57, Tryd.ntmps57
  go_wp2
  go_loopw [1] (fun v wr => ∃ m : Nat, v = .int .i64 m ∧ m ≤ s.size ∧ Hid (R = pasE s m) ∧ w = wr) (fun v _ => s.size - (intOf v).toNat)
  case atStart => exact ⟨i, rfl, hi, HR, rfl⟩
  case round =>
    clear HR
    obtain ⟨m, rfl, hm, HR, rfl⟩ := hrel
    by_cases hlt : m < s.size
    · have hbm := bt_eq s m hlt
      by_cases hb : bn s m = 9 ∨ bn s m = 13 ∨ bn s m = 32
      · have HX2 := hide_ (HR.out.trans (pasE_blank s m hlt hb))
        have hhb : bt s m = 9 ∨ bt s m = 13 ∨ bt s m = 32 := by omega
        clear HR hb hbm
        rcases hhb with h9 | h9 | h9
        all_goals
          go_wp2
          go_roundw
          case rel => exact ⟨m + 1, by go_num, by omega, HX2, by trivial⟩
          case measure => simp [intOf]; omega
      have e9 : (bt s m == 9) = false := by rw [hbm]; simp; omega
      have e13 : (bt s m == 13) = false := by rw [hbm]; simp; omega
      have e32 : (bt s m == 32) = false := by rw [hbm]; simp; omega
      by_cases h35 : bn s m = 35
      · have e35 : (bt s m != 35) = false := by rw [hbm]; simp; omega
        have hl := lineE_lt s m hlt h35
        have HL := hide_ (show lineF s (s.size - m) m = lineE s m from rfl)
        have hq1 := HR.out.trans (pasE_note s m hlt h35)
        obtain ⟨q, hq⟩ : ∃ q, q = lineE s m := ⟨_, rfl⟩
        rw [← hq] at hq1 hl HL
        have HQ := hide_ hq1
        clear hq1 hq HR hbm h35 hb
        go_wp2
        go_loopw [1] (fun v wr => ∃ j : Nat, v = .int .i64 j ∧ m ≤ j ∧ j ≤ q ∧ Hid (lineF s (s.size - j) j = q) ∧ w = wr) (fun v _ => s.size - (intOf v).toNat)
        case atStart => exact ⟨m, rfl, by omega, by omega, HL, rfl⟩
        case round =>
          clear HL
          obtain ⟨j, rfl, hj1, hj2, HJ, rfl⟩ := hrel
          by_cases hjk : j < s.size
          · have hbj := bt_eq s j hjk
            by_cases h10 : bn s j = 10
            · have e10 : (bt s j != 10) = false := by rw [hbj]; simp; omega
              have hjq : j = q := by
                have := HJ.out
                rw [show s.size - j = (s.size - (j + 1)) + 1 by omega, lineF, if_pos (by omega), if_pos h10] at this
                exact this
              subst hjq
              clear hbj h10
              go_wp2
              go_roundw
              case rel => exact ⟨j, rfl, by omega, HQ, by trivial⟩
              case measure => simp [intOf]; omega
            · have e10 : (bt s j != 10) = true := by rw [hbj]; simp; omega
              have HJ2 := hide_ (show lineF s (s.size - (j + 1)) (j + 1) = q by
                have := HJ.out
                rw [show s.size - j = (s.size - (j + 1)) + 1 by omega, lineF, if_pos (by omega), if_neg h10] at this
                exact this)
              have hjq : j + 1 ≤ q := by
                have := lineF_bd s (s.size - (j + 1)) (j + 1) (by omega)
                have := HJ2.out
                omega
              clear hbj h10 HJ
              go_wp2
              go_roundw
              case rel => exact ⟨j + 1, by go_num, by omega, by omega, HJ2, by trivial⟩
              case measure => simp [intOf]; omega
          · have hjq : j = q := by omega
            subst hjq
            go_wp2
            go_roundw
            case rel => exact ⟨j, rfl, by omega, HQ, by trivial⟩
            case measure => simp [intOf]; omega
      · have e35 : (bt s m != 35) = true := by rw [hbm]; simp; omega
        have HRM := hide_ (HR.out.trans (pasE_stop s m h35 hb))
        clear HR hbm h35 hb
        go_wp2
        go_ret
        exact ⟨by rw [HRM.out]; rfl, by trivial⟩
    · have HRM := hide_ (HR.out.trans (pasE_ge s m (by omega)))
      clear HR
      go_wp2
      go_ret
      exact ⟨by rw [HRM.out]; rfl, by trivial⟩
end Go.Proofs.YtmbofpeedjlfhaaDoor
