/-
  The walk of text.figured.
-/
import Derived.Test.YtmbofpeedjlfhaaDoorTokA
import Derived.Deep.CutRange
namespace Go.Proofs.YtmbofpeedjlfhaaDoor
open Go.RowKit Go.PlainAid
set_option linter.unusedVariables false
set_option maxRecDepth 100000

theorem fits2 (s : ByteArray) (i : Nat) (a b : UInt8) : fitsAt s i ⟨#[a, b]⟩ ↔ i + 2 ≤ s.size ∧ s.get! i = a ∧ s.get! (i + 1) = b := by
  unfold fitsAt
  have e0 : (⟨#[a, b]⟩ : ByteArray).size = 2 := rfl
  rw [e0]
  refine and_congr_right fun h => ?_
  have e2 : (s.extract i (i + 2)).data.toList = [s.get! i, s.get! (i + 1)] := by
    rw [ByteArray.data_extract, Array.toList_extract, List.extract_eq_take_drop, Nat.add_sub_cancel_left, drop_get s i (by omega), drop_get s (i + 1) (by omega)]
    rfl
  constructor
  · intro h2
    rw [h2] at e2
    simp only [List.cons.injEq] at e2
    exact ⟨e2.1.symm, e2.2.1.symm⟩
  · rintro ⟨rfl, rfl⟩
    exact ByteArray.ext (Array.toList_inj.1 e2)
theorem hexB_eq (s : ByteArray) (i : Nat) : hexB s i = (decide (fitsAt s i ⟨#[48, 120]⟩) || decide (fitsAt s i ⟨#[48, 88]⟩)) := by
  have key : ∀ (k : Nat) (c : UInt8), s.get! k = c ↔ bn s k = c.toNat := fun k c => by
    unfold bn
    exact UInt8.toNat_inj.symm
  unfold hexB
  rw [Bool.eq_iff_iff]
  simp only [Bool.and_eq_true, Bool.or_eq_true, decide_eq_true_eq, fits2, key]
  have e1 : (48 : UInt8).toNat = 48 := rfl
  have e2 : (120 : UInt8).toNat = 120 := rfl
  have e3 : (88 : UInt8).toNat = 88 := rfl
  rw [e1, e2, e3]
  omega
theorem figF_fuel (s : ByteArray) (h : Bool) : ∀ (f g i : Nat), s.size - i ≤ f → s.size - i ≤ g → figF s h f i = figF s h g i := by
  intro f
  induction f with
  | zero =>
    intro g i hf _
    cases g with
    | zero => rfl
    | succ g => rw [figF, figF, if_neg (by omega)]
  | succ f ih =>
    intro g i hf hg
    cases g with
    | zero => rw [figF, figF, if_neg (by omega)]
    | succ g =>
      rw [figF, figF]
      split
      · split
        · exact ih g (i + 1) (by omega) (by omega)
        · rfl
      · rfl
/-! ### the walk -/
theorem bits_or (x : Int) (h0 : 0 ≤ x) (h1 : x ≤ 255) : (bits BinOp.or IntKind.u8 x 32 == 101) = (decide (x = 101) || decide (x = 69)) ∧ (bits BinOp.or IntKind.u8 x 32 == 112) = (decide (x = 112) || decide (x = 80)) := by
  obtain ⟨n, rfl⟩ := Int.eq_ofNat_of_zero_le h0
  have key : ∀ n : Fin 256, (bits BinOp.or IntKind.u8 (n.val : Int) 32 == 101) = (decide ((n.val : Int) = 101) || decide ((n.val : Int) = 69)) ∧ (bits BinOp.or IntKind.u8 (n.val : Int) 32 == 112) = (decide ((n.val : Int) = 112) || decide ((n.val : Int) = 80)) := by decide +kernel
  exact key ⟨n, by omega⟩
theorem figF_step (s : ByteArray) (X : Bool) (m : Nat) (h : m < s.size) : figF s X (s.size - m) m = if figS s X m = true then figF s X (s.size - (m + 1)) (m + 1) else m := by
  rw [show s.size - m = (s.size - (m + 1)) + 1 by omega, figF, if_pos h]
theorem fig_class (c : Nat) (P : Bool) : (c < 65 ∧ 48 ≤ c ∧ c ≤ 57) ∨ c = 46 ∨ (c = 43 ∧ P = true) ∨ (c = 43 ∧ P = false) ∨ (c = 45 ∧ P = true) ∨ (c = 45 ∧ P = false) ∨ (c < 65 ∧ ¬ (48 ≤ c ∧ c ≤ 57) ∧ c ≠ 46 ∧ c ≠ 43 ∧ c ≠ 45) ∨ (65 ≤ c ∧ c ≤ 90) ∨ c = 95 ∨ (91 ≤ c ∧ c ≤ 96 ∧ c ≠ 95) ∨ (97 ≤ c ∧ c ≤ 122) ∨ 123 ≤ c := by
  cases P <;> simp <;> omega
/-- is a power's mark ahead? -/
def aheadB (s : ByteArray) (X : Bool) (i m : Nat) : Bool := decide (i < m) && powB X (bn s (m - 1))
def goB (s : ByteArray) (P : Bool) (m : Nat) : Bool := figB (bn s m) || (P && (decide (bn s m = 43) || decide (bn s m = 45)))
/-- what the byte ahead, made small, says -/
def SmallIs (z : Int) (b1 b2 : Bool) : Prop := (z == 101) = b1 ∧ (z == 112) = b2
/-- one round -/
theorem fig_round (s : ByteArray) (X : Bool) (i m M R : Nat) (hm : m < s.size) (hd : 48 ≤ bn s i ∧ bn s i ≤ 57) (hM : (i < m ∧ M = m) ∨ (m = i ∧ M = i + 1)) (hF : R = figF s X (s.size - M) M) :
    (goB s (aheadB s X i m) m = true → R = figF s X (s.size - (m + 1)) (m + 1)) ∧ (goB s (aheadB s X i m) m = false → R = m) := by
  rcases hM with ⟨h, rfl⟩ | ⟨rfl, rfl⟩
  · have e : goB s (aheadB s X i M) M = figS s X M := by
      unfold goB aheadB figS
      rw [decide_eq_true h, Bool.true_and]
    rw [figF_step s X M hm] at hF
    rw [e]
    constructor
    · intro h1
      rw [hF, if_pos h1]
    · intro h1
      rw [hF, if_neg (by rw [h1]; decide)]
  · have e : goB s (aheadB s X m m) m = true := by
      unfold goB figB
      rw [decide_eq_true hd.1, decide_eq_true hd.2]
      rfl
    rw [e]
    exact ⟨fun _ => hF, fun h => by cases h⟩
set_option maxHeartbeats 4000000 in
theorem figured_any (s : ByteArray) (i : Nat) (w : World) (hz : s.size ≤ 140737488351232) (hi : i < s.size) (hd : 48 ≤ bn s i ∧ bn s i ≤ 57) :
    Calls Tryd.prog 54 #[.string s, .int .i64 i] w fun e w' => e = .returned (.int .i64 (figE s i)) ∧ w' = w := by
  obtain ⟨X, hX⟩ : ∃ X, X = hexB s i := ⟨_, rfl⟩
  obtain ⟨R, hR⟩ : ∃ R, R = figE s i := ⟨_, rfl⟩
  have hbt := get_bt s
  have hp1 := Tryd.strings_HasPrefix (s.extract i s.size) ⟨#[48, 120]⟩ w
  have hp2 := Tryd.strings_HasPrefix (s.extract i s.size) ⟨#[48, 88]⟩ w
  rw [hasPrefix_fits s i _ (by omega)] at hp1 hp2
  have hhx := hexB_eq s i
  rw [← hX] at hhx
  have HFE := hide_ (show R = figF s X (s.size - (i + 1)) (i + 1) by rw [hR, hX]; rfl)
  rw [← hR]
  obtain ⟨p1, hq1⟩ : ∃ p1, p1 = decide (fitsAt s i ⟨#[48, 120]⟩) := ⟨_, rfl⟩
  obtain ⟨p2, hq2⟩ : ∃ p2, p2 = decide (fitsAt s i ⟨#[48, 88]⟩) := ⟨_, rfl⟩
  rw [← hq1, ← hq2] at hhx
  rw [← hq1] at hp1
  rw [← hq2] at hp2
  have H1 := hide_ hp1
  have H2 := hide_ hp2
  have HDG := hide_ hd
  have HX := hide_ hhx
  clear hp1 hp2 hX hR hd hhx hq1 hq2
  go_enter Tryd.func54, Tryd.ntmps54
  go_upto_region 1 with (fail)
  go_cut [5] from 10 (fun x wx => x = .bool X ∧ w = wx)
  case first =>
    cases p1
    · go_wp2_with fail
      refine H1.out.mono ?_
      rintro e w2 ⟨rfl, rfl⟩
      go_wp2_with fail
      refine H2.out.mono ?_
      rintro e w2 ⟨rfl, rfl⟩
      go_wp2_with fail
      go_meet
      exact ⟨by rw [HX.out]; simp, rfl⟩
    · go_wp2_with fail
      refine H1.out.mono ?_
      rintro e w2 ⟨rfl, rfl⟩
      go_wp2_with fail
      go_meet
      exact ⟨by rw [HX.out]; simp, rfl⟩
  case rest =>
    obtain ⟨rfl, rfl⟩ := hcut
    clear H1 H2 HX
    go_wp2_with fail
    go_loopw [6] (fun k wr => ∃ m M : Nat, k = .int .i64 m ∧ m ≤ s.size ∧ ((i < m ∧ M = m) ∨ (m = i ∧ M = i + 1)) ∧ Hid (R = figF s X (s.size - M) M) ∧ w = wr) (fun k _ => s.size - (intOf k).toNat)
    case atStart => exact ⟨i, i + 1, rfl, by omega, .inr ⟨rfl, rfl⟩, HFE, rfl⟩
    case round =>
      clear HFE
      obtain ⟨m, M, rfl, hm, hM, HF, rfl⟩ := hrel
      by_cases hlt : m < s.size
      · have hrd := fig_round s X i m M R hlt HDG.out hM HF.out
        have HIM := hide_ (show i ≤ m by omega)
        obtain ⟨P, hP⟩ : ∃ P, P = aheadB s X i m := ⟨_, rfl⟩
        rw [← hP] at hrd
        obtain ⟨HG, HN⟩ : Hid (goB s P m = true → R = figF s X (s.size - (m + 1)) (m + 1)) ∧ Hid (goB s P m = false → R = m) := ⟨hide_ hrd.1, hide_ hrd.2⟩
        obtain ⟨b1, hb1⟩ : ∃ b, b = (decide (i < m) && (decide (bn s (m - 1) = 101) || decide (bn s (m - 1) = 69))) := ⟨_, rfl⟩
        obtain ⟨b2, hb2⟩ : ∃ b, b = (decide (i < m) && (decide (bn s (m - 1) = 112) || decide (bn s (m - 1) = 80))) := ⟨_, rfl⟩
        have HP := hide_ (show P = ((b1 && !X) || (b2 && X)) by
          rw [hP, hb1, hb2]
          unfold aheadB powB
          cases X <;> cases decide (i < m) <;> simp)
        have HB1 := hide_ hb1
        have HB2 := hide_ hb2
        clear hrd hP hb1 hb2 HF hM
        go_upto_if 30 with (fail)
        go_cut [8] from 21 to 81 (fun a wx => ∃ z, a = .int .u8 z ∧ SmallIs z b1 b2 ∧ w = wx)
        case first =>
          by_cases hgt : i < m
          · have hg : (i : Int) < (m : Int) := by omega
            have e1 : IntKind.i64.wrap ((m : Int) - 1) = ((m - 1 : Nat) : Int) := by rw [IntWalk.i64_in _ (by omega)]; omega
            have HZ := hide_ (show SmallIs (bits BinOp.or IntKind.u8 (bt s (m - 1)) 32) b1 b2 by
              have h1 := bits_or (bt s (m - 1)) (bt_nonneg _ _) (bt_le _ _)
              have h2 := bt_eq s (m - 1) (by omega)
              unfold SmallIs
              rw [h1.1, h1.2, HB1.out, HB2.out, h2, decide_eq_true hgt, Bool.true_and, Bool.true_and]
              constructor <;> (rw [Bool.eq_iff_iff]; simp; omega))
            clear e1
            go_wp2_with fail
            go_meet
            exact ⟨_, rfl, HZ.out, rfl⟩
          · have hg : ¬ (i : Int) < (m : Int) := by omega
            go_wp2_with fail
            go_meet
            exact ⟨0, rfl, by unfold SmallIs; rw [HB1.out, HB2.out, decide_eq_false hgt]; exact ⟨rfl, rfl⟩, rfl⟩
        case rest =>
          obtain ⟨z, rfl, ⟨z1, z2⟩, rfl⟩ := hcut
          clear HB1 HB2
          go_upto_region 8 with (fail)
          go_cut [9] from 21 to 81 (fun a wx => a = .bool P ∧ w = wx)
          case first =>
            cases b1 <;> cases b2 <;> cases X
            all_goals
              go_wp2_with fail
              go_meet
              exact ⟨by rw [HP.out]; rfl, rfl⟩
          case rest =>
            obtain ⟨rfl, rfl⟩ := hcut
            clear HP z1 z2
            have hbm := bt_eq s m hlt
            have hb0 := bt_nonneg s m
            have hb1 := bt_le s m
            have HDIG := hide_ (fun W => digit_any (bt s m) W)
            have hcl := fig_class (bn s m) P
            rcases hcl with hc | hc | ⟨hc, rfl⟩ | ⟨hc, rfl⟩ | ⟨hc, rfl⟩ | ⟨hc, rfl⟩ | hc | hc | hc | hc | hc | hc
            all_goals
              first | (have d95 : (bt s m == 95) = true := by rw [hbm]; simp; omega) | (have d95 : (bt s m == 95) = false := by rw [hbm]; simp; omega)
              first | (have d46 : (bt s m == 46) = true := by rw [hbm]; simp; omega) | (have d46 : (bt s m == 46) = false := by rw [hbm]; simp; omega)
              first | (have d43 : (bt s m == 43) = true := by rw [hbm]; simp; omega) | (have d43 : (bt s m == 43) = false := by rw [hbm]; simp; omega)
              first | (have d45 : (bt s m == 45) = true := by rw [hbm]; simp; omega) | (have d45 : (bt s m == 45) = false := by rw [hbm]; simp; omega)
              first | (have u1 : decide (65 ≤ bt s m) = true := decide_eq_true (by omega)) | (have u1 : decide (65 ≤ bt s m) = false := decide_eq_false (by omega))
              first | (have u2 : decide (bt s m ≤ 90) = true := decide_eq_true (by omega)) | (have u2 : decide (bt s m ≤ 90) = false := decide_eq_false (by omega))
              first | (have l1 : decide (97 ≤ bt s m) = true := decide_eq_true (by omega)) | (have l1 : decide (97 ≤ bt s m) = false := decide_eq_false (by omega))
              first | (have l2 : decide (bt s m ≤ 122) = true := decide_eq_true (by omega)) | (have l2 : decide (bt s m ≤ 122) = false := decide_eq_false (by omega))
              have hdg : digR (bt s m) = decide (48 ≤ bn s m ∧ bn s m ≤ 57) := by unfold digR; rw [hbm, Bool.eq_iff_iff]; simp; omega
              rw [hdg] at HDIG
              first | rw [decide_eq_true (by omega)] at HDIG | rw [decide_eq_false (by omega)] at HDIG
            all_goals
              first
                | have HST := hide_ (HG.out (by unfold goB figB; simp; omega))
                | have HST := hide_ (HN.out (by unfold goB figB; simp; omega))
              clear hdg hc hbm HG HN
              go_wp2_with fail
              refine (HDIG.out _).mono ?_
              rintro e w5 ⟨rfl, rfl⟩
              clear HDIG
              go_wp2
              first
                | (go_roundw
                   case rel => (repeat apply Exists.intro); exact ⟨⟨m + 1, m + 1, by go_num, by omega, .inl ⟨by have := HIM.out; omega, rfl⟩, HST, by trivial⟩, rfl⟩
                   case measure => simp [intOf]; omega)
                | (go_roundw
                   case rel => exact ⟨m + 1, m + 1, by go_num, by omega, .inl ⟨by have := HIM.out; omega, rfl⟩, HST, by trivial⟩
                   case measure => simp [intOf]; omega)
                | (go_ret
                   exact ⟨by rw [HST.out]; rfl, by trivial⟩)
      · have HR := hide_ (show R = m by
          rcases hM with ⟨_, rfl⟩ | ⟨rfl, rfl⟩
          · rw [HF.out, show s.size - M = 0 by omega]; rfl
          · omega)
        clear HF hM
        go_wp2
        go_ret
        exact ⟨by rw [HR.out]; rfl, by trivial⟩
end Go.Proofs.YtmbofpeedjlfhaaDoor
