/-
  The walks of text.literal and text.figured.
-/
import Derived.Test.YtmbofpeedjlfhaaDoorTokA
import Derived.Test.YtmbofpeedjlfhaaDoorBytesW
namespace Go.Proofs.YtmbofpeedjlfhaaDoor
open Go.RowKit Go.PlainAid
set_option linter.unusedVariables false
set_option maxRecDepth 100000

theorem bytesAt_bd (s : ByteArray) : ∀ (f i : Nat), 0 ≤ (bytesAt s f i).2.1 ∧ (bytesAt s f i).2.1 ≤ (s.size : Int) := by
  intro f
  induction f with
  | zero => intro i; simp [bytesAt]
  | succ f ih =>
    intro i
    rw [bytesAt]
    split
    · simp
    · split
      · split
        · simp only; omega
        · simp only; omega
      · split
        · simp only; omega
        · exact ih _
theorem bytesN_bd (s : ByteArray) : 0 ≤ (bytesN s).2.1 ∧ (bytesN s).2.1 ≤ (s.size : Int) := by
  unfold bytesN
  split
  · simp
  · split
    · simp
    · exact bytesAt_bd s _ _
theorem runeN_bd (s : ByteArray) : 0 ≤ (runeN s).2.1 ∧ (runeN s).2.1 ≤ 8 := by
  have hk := sayN_k s 1
  unfold runeN
  repeat' split
  all_goals simp
  all_goals omega
set_option maxHeartbeats 1000000 in
theorem literal_any (s : ByteArray) (i : Nat) (w : World) (hz : s.size ≤ 140737488351232) (hi : i < s.size) :
    Calls Tryd.prog 55 #[.string s, .int .i64 i] w fun e w' => e = .returned (.tuple #[.int .i64 (litN s i).2.1, .int .i64 (litN s i).2.2]) ∧ Below w.heap.size w w' := by
  have hbt := get_bt s
  have hbi := bt_eq s i hi
  have hq := quoted_any s i w (by omega) hi
  cases hl : litE s i with
  | none =>
    have e1 : (litN s i).2 = ((i : Int), (11 : Int)) := by unfold litN; rw [hl]
    rw [e1]
    rw [hl] at hq
    have HQ := hide_ hq
    simp only [Option.getD_none, Option.isSome_none] at HQ
    clear hq e1 hl
    go_enter Tryd.func55, Tryd.ntmps55
    go_wp2_with fail
    refine HQ.out.mono ?_
    rintro e w2 ⟨rfl, rfl⟩
    go_wp2
    go_ret2
    exact ⟨rfl, Below.refl _ _⟩
  | some e =>
    have hb := litE_bd s i e hl
    obtain ⟨t, ht⟩ : ∃ t, t = s.extract i e := ⟨_, rfl⟩
    have hts : t.size = e - i := by rw [ht, ByteArray.size_extract]; omega
    rw [hl] at hq
    have HQ := hide_ hq
    simp only [Option.getD_some, Option.isSome_some] at HQ
    clear hq
    have e0 : (e : Int) = ((e : Nat) : Int) := rfl
    by_cases h34 : bn s i = 34
    · have hby := tbytes_any t w (by omega)
      have hpb := bytesN_bd t
      have e1 : (litN s i).2 = if (bytesN t).2.2 ≠ 0 then ((i : Int) + (bytesN t).2.1, (bytesN t).2.2) else ((e : Int), 0) := by
        unfold litN
        rw [hl]
        simp only [if_pos h34, ← ht]
        split <;> rfl
      rw [e1]
      obtain ⟨O, P, E, hBN⟩ : ∃ O P E, bytesN t = (O, P, E) := ⟨_, _, _, rfl⟩
      rw [hBN] at hby hpb ⊢
      simp only at hpb
      have HBY := hide_ hby
      have d1 : (bt s i == 34) = true := by rw [hbi]; simp; omega
      have hHT := hide_ ht
      have HTS := hide_ hts
      clear hby e1 hl hBN h34
      have hp1 : (i : Int) + P ≤ 140737488351240 := by omega
      have hp0 : 0 ≤ P := hpb.1
      clear hpb hts
      by_cases hE : E = 0
      · subst hE
        rw [if_neg (by simp)]
        clear hp0 hp1
        go_enter Tryd.func55, Tryd.ntmps55
        go_wp2_with fail
        refine HQ.out.mono ?_
        rintro e' w2 ⟨rfl, rfl⟩
        go_wp2_with fail
        rw [← hHT.out]
        refine HBY.out.mono ?_
        rintro e' w2 ⟨v, rfl, _, hb2⟩
        go_wp2
        go_ret2
        exact ⟨rfl, hb2⟩
      · rw [if_pos hE]
        have dE : (E == 0) = false := by simpa using hE
        have dE2 : (E != 0) = true := by simpa using hE
        have HE := hide_ hE
        clear hE
        go_enter Tryd.func55, Tryd.ntmps55
        go_wp2_with fail
        refine HQ.out.mono ?_
        rintro e' w2 ⟨rfl, rfl⟩
        go_wp2_with fail
        rw [← hHT.out]
        refine HBY.out.mono ?_
        rintro e' w2 ⟨v, rfl, _, hb2⟩
        go_wp2
        go_ret2
        exact ⟨rfl, hb2⟩
    · have hby := trune_any t w (by omega)
      have hpb := runeN_bd t
      have e1 : (litN s i).2 = if (runeN t).2.2 ≠ 0 then ((i : Int) + (runeN t).2.1, (runeN t).2.2) else ((e : Int), 0) := by
        unfold litN
        rw [hl]
        simp only [if_neg h34, ← ht]
        split <;> rfl
      rw [e1]
      obtain ⟨O, P, E, hBN⟩ : ∃ O P E, runeN t = (O, P, E) := ⟨_, _, _, rfl⟩
      rw [hBN] at hby hpb ⊢
      simp only at hpb
      have HBY := hide_ hby
      have d1 : (bt s i == 34) = false := by rw [hbi]; simp; omega
      have hHT := hide_ ht
      have HTS := hide_ hts
      clear hby e1 hl hBN h34
      have hp1 : (i : Int) + P ≤ 140737488351240 := by omega
      have hp0 : 0 ≤ P := hpb.1
      clear hpb hts
      by_cases hE : E = 0
      · subst hE
        rw [if_neg (by simp)]
        clear hp0 hp1
        go_enter Tryd.func55, Tryd.ntmps55
        go_wp2_with fail
        refine HQ.out.mono ?_
        rintro e' w2 ⟨rfl, rfl⟩
        go_wp2_with fail
        rw [← hHT.out]
        refine HBY.out.mono ?_
        rintro e' w2 ⟨rfl, hb2⟩
        go_wp2
        go_ret2
        exact ⟨rfl, hb2⟩
      · rw [if_pos hE]
        have dE : (E == 0) = false := by simpa using hE
        have dE2 : (E != 0) = true := by simpa using hE
        have HE := hide_ hE
        clear hE
        go_enter Tryd.func55, Tryd.ntmps55
        go_wp2_with fail
        refine HQ.out.mono ?_
        rintro e' w2 ⟨rfl, rfl⟩
        go_wp2_with fail
        rw [← hHT.out]
        refine HBY.out.mono ?_
        rintro e' w2 ⟨rfl, hb2⟩
        go_wp2
        go_ret2
        exact ⟨rfl, hb2⟩
end Go.Proofs.YtmbofpeedjlfhaaDoor
