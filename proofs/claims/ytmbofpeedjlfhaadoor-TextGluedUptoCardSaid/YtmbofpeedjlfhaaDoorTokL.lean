/-
  The walk of the statement TextStands.
-/
import Derived.Test.YtmbofpeedjlfhaaDoorTokW
import Derived.Deep.CutRange
namespace Go.Proofs.YtmbofpeedjlfhaaDoor
open Go.RowKit Go.PlainAid Go.BigFrame
set_option linter.unusedVariables false
set_option maxRecDepth 100000

theorem below_drewN {B : Nat} {a w : World} (n : Nat) (h : Below B a w) : Below B a (w.drewN n) := ⟨h.os, h.tape, h.output, h.size, h.block⟩
theorem tkCells_at (s : ByteArray) : ∀ (l : List Tk) (k : Nat) (t : Tk), l[k]? = some t → (tkCells s l)[k * 3]? = some (.int .u8 t.1) ∧ (tkCells s l)[k * 3 + 1]? = some (.int .i64 t.2.1) ∧ (tkCells s l)[k * 3 + 2]? = some (.string (s.extract t.2.1 t.2.2)) := by
  intro l
  induction l with
  | nil => intro k t h; simp at h
  | cons a l ih =>
    intro k t h
    have e : tkCells s (a :: l) = [.int .u8 a.1, .int .i64 a.2.1, .string (s.extract a.2.1 a.2.2)] ++ tkCells s l := rfl
    cases k with
    | zero =>
      simp only [List.getElem?_cons_zero, Option.some.injEq] at h
      subst h
      rw [e]
      exact ⟨rfl, rfl, rfl⟩
    | succ k =>
      rw [List.getElem?_cons_succ] at h
      have h9 := ih k t h
      rw [e, show (k + 1) * 3 = 3 + k * 3 by omega]
      have key : ∀ j, ([Value.int .u8 a.1, .int .i64 a.2.1, .string (s.extract a.2.1 a.2.2)] ++ tkCells s l)[3 + j]? = (tkCells s l)[j]? := fun j => by
        rw [List.getElem?_append_right (by simp)]
        simp
      rw [key, show 3 + k * 3 + 1 = 3 + (k * 3 + 1) by omega, show 3 + k * 3 + 2 = 3 + (k * 3 + 2) by omega, key, key]
      exact h9
theorem endOf_at (l : List Tk) (k : Nat) (t : Tk) (h : l[k]? = some t) : endOf l (k + 1) = t.2.2 := by
  unfold endOf
  rw [if_neg (by omega), Nat.add_sub_cancel, h]
  rfl
set_option maxHeartbeats 4000000 in
theorem TextStands_walk (s : ByteArray) (A : Option Addr) (n c : Nat) (sg : List ByteArray) (w : World) (hz : s.size ≤ 140737488351232) (hn : n ≤ 140737488351232) (hc : n ≤ c) (hr : Reads w w.heap.size 1 A n (sg.map Value.string)) :
    Calls Tryd.prog 4 #[.string s, .slice A n c] w fun e w' => e = .returned (.bool true) ∧ Below w.heap.size w w' := by
  have HAW := hide_ (awake_any w)
  have HTO := hide_ (show ∀ w1 : World, Below w.heap.size w w1 → Calls Tryd.prog 9 #[.string s, .slice A n c] w1 (ToksIs s (toksN s sg) w1) from fun w1 h1 =>
    tokens_any s A n c w.heap.size sg w1 hz hn hc (hr.below (h1.mono (Nat.le_refl _)) |>.keep fun p hp => rfl) h1.size)
  clear hr
  rcases toksN_or s sg with ⟨l, hl, hst, hs2⟩ | ⟨p, er, hl, her, hp0, hp1⟩
  · rw [hl] at HTO
    unfold ToksIs at HTO
    simp only [Option.getD_some] at HTO
    have HST := hide_ hst
    clear hl hst
    go_enter Tryd.func4, Tryd.ntmps4
    go_wp2_with fail
    refine HAW.out.mono ?_
    rintro e w1 ⟨rfl, hb1⟩
    have HB1 := hide_ hb1
    have HS1 := hide_ hb1.size
    clear hb1
    go_wp2_with fail
    refine (HTO.out _ HB1.out).mono ?_
    rintro e w2 ⟨v, rfl, hown, hb2⟩
    obtain ⟨A2, c2, rfl, hc0, hc1⟩ := ownsRow_slice hown
    have HO2 := hide_ (one_row (r := ⟨36, 3, .slice A2 l.length c2, l.length, tkCells s l⟩) hown)
    have HB2 := hide_ (HB1.out.trans (hb2.mono HS1.out))
    have hlm : l.length ≤ 9223372036854775807 := by unfold maxLen at hc1; omega
    clear hown hb2 HAW HTO
    go_wp2_with fail
    go_loopw [8, 9] (fun i k wr => ∃ m : Nat, m ≤ l.length ∧ i = .int .i64 (endOf l m) ∧ k = .int .i64 m ∧ Owns wr w1.heap.size [⟨36, 3, .slice A2 l.length c2, l.length, tkCells s l⟩] ∧ Below w.heap.size w wr) (fun _ k _ => l.length - (intOf k).toNat)
    case atStart => exact ⟨0, Nat.zero_le _, rfl, rfl, HO2.out, HB2.out⟩
    case round =>
      clear HO2 HB2
      obtain ⟨m, hm, rfl, rfl, hO, hb⟩ := hrel
      have HO := hide_ hO
      have HB := hide_ hb
      by_cases hlt : m < l.length
      · obtain ⟨g, c3, hv⟩ := ownsRow_some (hO.at_ (i := 0) rfl) (show 0 < l.length by omega)
        simp only [Value.slice.injEq] at hv
        obtain ⟨rfl, _, rfl⟩ := hv
        obtain ⟨⟨K, a, q⟩, hmt⟩ : ∃ t, l[m]? = some t := ⟨_, List.getElem?_eq_getElem hlt⟩
        have hcell := tkCells_at s l m _ hmt
        have y0 := hO.cell (i := 0) rfl hcell.1
        have y1 := hO.cell (i := 0) rfl hcell.2.1
        have y2 := hO.cell (i := 0) rfl hcell.2.2
        have hgl := (hO.base (i := 0) rfl).2
        obtain ⟨s1, s2, s3, s4⟩ := stand_at s l 0 HST.out m _ hmt
        have hen := endOf_at l m _ hmt
        rw [show (if m = 0 then 0 else ((l[m - 1]?).map (·.2.2)).getD 0) = endOf l m from rfl] at s1 s4
        simp only at s1 s2 s3 s4 hen y0 y1 y2
        obtain ⟨b, hb0⟩ : ∃ b, b = endOf l m := ⟨_, rfl⟩
        rw [← hb0] at s1 s4 ⊢
        obtain ⟨d, rfl⟩ : ∃ d, q = a + d := ⟨q - a, by omega⟩
        obtain ⟨T, hT⟩ : ∃ T, s.extract a (a + d) = T := ⟨_, rfl⟩
        have hTs : T.size = d := by rw [← hT, ByteArray.size_extract]; omega
        rw [hT] at y2
        have HBT := hide_ (fun W => between_any s b a W hz s1 (by omega) s4)
        have HEN := hide_ hen
        clear hcell hmt s4 hen hb0 hO hb
        have g1 : decide (a < b) = false := decide_eq_false (by omega)
        have g2 : decide (s.size < a) = false := decide_eq_false (by omega)
        have g3 : ((d : Int) == 0) = false := by simp; omega
        have g4 : decide ((s.size : Int) - a < d) = false := decide_eq_false (by omega)
        have w1' : IntKind.i64.wrap ((s.size : Int) - a) = (s.size : Int) - a := IntWalk.i64_in _ (by omega)
        have w2' : IntKind.i64.wrap ((a : Int) + d) = (a : Int) + d := IntWalk.i64_in _ (by omega)
        have w3' : ((a : Int) + d).toNat = a + d := by omega
        have w4' : (0 : Int) ≤ (a : Int) + d := by omega
        clear s1 s2
        go_upto_region 11 with (fail)
        go_big_quiet (fail)
        go_wp2_with fail
        refine (HBT.out _).mono ?_
        rintro e w5 ⟨rfl, rfl⟩
        go_wp2
        go_roundw
        case rel => exact ⟨m + 1, by omega, by rw [HEN.out]; go_num, by go_num, (HO.out.alloc _).drewN _, below_drewN _ (HB.out.alloc HB.out.size _)⟩
        case measure => simp [intOf]; omega
      · obtain rfl : m = l.length := by omega
        have hse := stand_end s l 0 HST.out
        rw [show (if l.length = 0 then 0 else ((l[l.length - 1]?).map (·.2.2)).getD 0) = endOf l l.length from rfl] at hse
        obtain ⟨b, hb0⟩ : ∃ b, b = endOf l l.length := ⟨_, rfl⟩
        rw [← hb0] at hse ⊢
        have HBT := hide_ (fun W => between_any s b s.size W hz hse.1 (Nat.le_refl _) hse.2)
        clear hse hb0 hO hb
        go_wp2_with fail
        refine (HBT.out _).mono ?_
        rintro e w5 ⟨rfl, rfl⟩
        go_wp2
        go_ret
        exact ⟨rfl, HB.out⟩
  · rw [hl] at HTO
    unfold ToksIs at HTO
    simp only [Option.getD_none, List.length_nil] at HTO
    have d1 : (er != 0) = true := bne_iff_ne.2 her
    have d2 : decide (0 ≤ p) = true := decide_eq_true hp0
    have d3 : decide (p ≤ (s.size : Int)) = true := decide_eq_true hp1
    clear hl her hp0 hp1
    go_enter Tryd.func4, Tryd.ntmps4
    go_wp2_with fail
    refine HAW.out.mono ?_
    rintro e w1 ⟨rfl, hb1⟩
    have HB1 := hide_ hb1
    have HS1 := hide_ hb1.size
    clear hb1
    go_wp2_with fail
    refine (HTO.out _ HB1.out).mono ?_
    rintro e w2 ⟨v, rfl, hown, hb2⟩
    obtain ⟨A2, c2, rfl, hc0, hc1⟩ := ownsRow_slice hown
    have HB2 := hide_ (HB1.out.trans (hb2.mono HS1.out))
    clear hown hb2 HAW HTO
    go_wp2
    go_ret
    exact ⟨rfl, HB2.out⟩
end Go.Proofs.YtmbofpeedjlfhaaDoor
