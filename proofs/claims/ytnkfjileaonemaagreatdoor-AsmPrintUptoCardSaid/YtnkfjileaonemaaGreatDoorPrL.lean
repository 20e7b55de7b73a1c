/-
  Where the printer's next line of data ends: where the document's does.
-/
import Derived.Test.YtnkfjileaonemaaGreatDoorPrX
import Derived.Test.YtnkfjileaonemaaGreatDoorPrD
namespace Go.Proofs.YtnkfjileaonemaaGreatDoor
open Go.RowKit Go.PlainAid
set_option linter.unusedSimpArgs false
set_option linter.unusedVariables false
set_option maxRecDepth 100000
theorem stopG_eq {x : ObjV} : ∀ (f j m : Nat), j ≤ m → m ≤ j + f → (∀ i, j ≤ i → i < m → i < x.data.length ∧ clearD x i = true) → (m = j + f ∨ ¬ (m < x.data.length ∧ clearD x m = true)) → stopG x f j = m
  | 0, j, m, h1, h2, _, _ => by rw [stopG]; omega
  | f + 1, j, m, h1, h2, h3, h4 => by
    rw [stopG]
    by_cases hjm : j = m
    · subst hjm
      rw [if_neg]
      rcases h4 with h4 | h4
      · omega
      · exact h4
    · rw [if_pos (h3 j (Nat.le_refl _) (by omega))]
      exact stopG_eq f (j + 1) m (by omega) (by omega) (fun i h5 h6 => h3 i (by omega) h6) (by rcases h4 with h4 | h4; exact .inl (by omega); exact .inr h4)
theorem atL_none {L R : List LabV} {s p j : Int} (h : LeftL L R s p) (hj : p ≤ j) (hn : ∀ l, R.head? = some l → l.sec = s → j < l.at_) : atL L s j = e0B := by
  obtain ⟨D, rfl, hb⟩ := h.all_
  unfold atL
  rw [List.filter_eq_nil_iff.2]
  · rfl
  · intro l hl hc
    unfold labAt at hc
    rw [Bool.and_eq_true, decide_eq_true_eq, decide_eq_true_eq] at hc
    rcases List.mem_append.1 hl with hl | hl
    · have := hb l hl; unfold befL at this; omega
    · cases R with
      | nil => cases hl
      | cons r R =>
        have h1 := hn r rfl
        have h2 := h.rest r (by simp)
        unfold befL at h2
        rcases List.mem_cons.1 hl with rfl | hl
        · have := h1 hc.1; omega
        · have h3 := (List.pairwise_cons.1 h.rise).1 l hl
          unfold leL at h3
          by_cases hs : r.sec = s
          · have := h1 hs; omega
          · omega
theorem fixT_none' {L R : List FixV} {s p j : Int} (h : LeftF L R s p) (hj : p ≤ j) (hn : ∀ l, R.head? = some l → l.sec = s → j < l.at_) : fixT L s j = e0B := by
  obtain ⟨D, rfl, hb⟩ := h.all_
  unfold fixT
  rw [List.find?_eq_none.2]
  intro l hl hc
  unfold fixAtB at hc
  rw [Bool.and_eq_true, decide_eq_true_eq, decide_eq_true_eq] at hc
  rcases List.mem_append.1 hl with hl | hl
  · have := hb l hl; unfold befF at this; omega
  · cases R with
    | nil => cases hl
    | cons r R =>
      have h1 := hn r rfl
      have h2 := h.rest r (by simp)
      unfold befF at h2
      rcases List.mem_cons.1 hl with rfl | hl
      · have := h1 hc.1; omega
      · have h3 := (List.pairwise_cons.1 h.rise).1 l hl
        unfold ltF at h3
        by_cases hs : r.sec = s
        · have := h1 hs; omega
        · omega
theorem atL_some {L : List LabV} {l : LabV} {s j : Int} (hl : l ∈ L) (h1 : l.sec = s) (h2 : l.at_ = j) : atL L s j ≠ e0B := by
  intro e
  have h3 : l ∈ L.filter (labAt s j) := List.mem_filter.2 ⟨hl, by simp [labAt, h1, h2]⟩
  unfold atL at e
  have key : ∀ K : List LabV, l ∈ K → 0 < (cat (K.map labLn)).size := by
    intro K
    induction K with
    | nil => intro h; cases h
    | cons a K ih =>
      intro h
      rw [List.map_cons, cat, ba_size]
      rcases List.mem_cons.1 h with rfl | h
      · have : 0 < (labLn l).size := by rw [labLn, ba_size]; have : (⟨#[58, 10]⟩ : ByteArray).size = 2 := rfl; omega
        omega
      · have := ih h; omega
  have := key _ h3
  rw [e] at this
  exact absurd this (by decide)
theorem fixT_some {L : List FixV} {l : FixV} {s j : Int} (hl : l ∈ L) (h1 : l.sec = s) (h2 : l.at_ = j) (hn : ∀ f ∈ L, f.name ≠ e0B) : fixT L s j ≠ e0B := by
  unfold fixT
  cases h : L.find? (fixAtB s j) with
  | none => exact absurd (by simp [fixAtB, h1, h2]) (List.find?_eq_none.1 h l hl)
  | some f => exact fixTx_ne (hn f (List.mem_of_find?_eq_some h))
theorem stop_eq {x : ObjV} (hok : okB x = true) {RL : List LabV} {RF : List FixV} {k : Nat} (hL : LeftL x.labels RL 2 ((k : Int) + 1)) (hF : LeftF x.fixes RF 2 ((k : Int) + 1)) (hk : k < x.data.length) :
    min ((k : Int) + 16) (untilV RL RF 2 ((k : Int) + 1) x.data.length) = (stopK x k : Int) ∧ stopK x k ≤ x.data.length ∧ LeftL x.labels RL 2 (stopK x k) ∧ LeftF x.fixes RF 2 (stopK x k) := by
  obtain ⟨m, hm⟩ : ∃ m : Int, m = min ((k : Int) + 16) (untilV RL RF 2 ((k : Int) + 1) x.data.length) := ⟨_, rfl⟩
  have hl : ∀ l, RL.head? = some l → l.sec = 2 → m ≤ l.at_ ∧ (k : Int) + 1 ≤ l.at_ := by
    intro l h1 h2
    have h3 := hL.rest l (List.mem_of_mem_head? h1)
    unfold befL at h3
    have h4 : (k : Int) + 1 ≤ l.at_ := by omega
    refine ⟨?_, h4⟩
    rw [hm, untilV, h1, Option.map_some, minB_yes h2 h4]
    cases RF.head? with
    | none => simp only [Option.map_none, minB]; omega
    | some f =>
      simp only [Option.map_some, minB]
      split <;> omega
  have hf : ∀ l, RF.head? = some l → l.sec = 2 → m ≤ l.at_ ∧ (k : Int) + 1 ≤ l.at_ := by
    intro l h1 h2
    have h3 := hF.rest l (List.mem_of_mem_head? h1)
    unfold befF at h3
    have h4 : (k : Int) + 1 ≤ l.at_ := by omega
    refine ⟨?_, h4⟩
    rw [hm, untilV, h1, Option.map_some, minB_yes h2 h4]
    omega
  have hcase : m = (k : Int) + 16 ∨ m = x.data.length ∨ (∃ l, RL.head? = some l ∧ l.sec = 2 ∧ m = l.at_) ∨ (∃ l, RF.head? = some l ∧ l.sec = 2 ∧ m = l.at_) := by
    rw [hm, untilV]
    cases h1 : RL.head? with
    | none =>
      simp only [Option.map_none, minB]
      cases h2 : RF.head? with
      | none => simp only [Option.map_none]; omega
      | some f =>
        simp only [Option.map_some]
        by_cases h3 : f.sec = 2 ∧ (k : Int) + 1 ≤ f.at_
        · rw [if_pos h3]
          rcases Int.le_total ((k : Int) + 16) (min (x.data.length : Int) f.at_) with h5 | h5
          · left; omega
          · rcases Int.le_total (x.data.length : Int) f.at_ with h6 | h6
            · right; left; omega
            · right; right; right; exact ⟨f, rfl, h3.1, by omega⟩
        · rw [if_neg h3]; omega
    | some l =>
      simp only [Option.map_some, minB]
      by_cases h4 : l.sec = 2 ∧ (k : Int) + 1 ≤ l.at_
      · rw [if_pos h4]
        cases h2 : RF.head? with
        | none =>
          simp only [Option.map_none]
          rcases Int.le_total ((k : Int) + 16) (min (x.data.length : Int) l.at_) with h5 | h5
          · left; omega
          · rcases Int.le_total (x.data.length : Int) l.at_ with h6 | h6
            · right; left; omega
            · right; right; left; exact ⟨l, rfl, h4.1, by omega⟩
        | some f =>
          simp only [Option.map_some]
          by_cases h3 : f.sec = 2 ∧ (k : Int) + 1 ≤ f.at_
          · rw [if_pos h3]
            rcases Int.le_total ((k : Int) + 16) (min (min (x.data.length : Int) l.at_) f.at_) with h5 | h5
            · left; omega
            · rcases Int.le_total (x.data.length : Int) (min l.at_ f.at_) with h6 | h6
              · right; left; omega
              · rcases Int.le_total l.at_ f.at_ with h7 | h7
                · right; right; left; exact ⟨l, rfl, h4.1, by omega⟩
                · right; right; right; exact ⟨f, rfl, h3.1, by omega⟩
          · rw [if_neg h3]
            rcases Int.le_total ((k : Int) + 16) (min (x.data.length : Int) l.at_) with h5 | h5
            · left; omega
            · rcases Int.le_total (x.data.length : Int) l.at_ with h6 | h6
              · right; left; omega
              · right; right; left; exact ⟨l, rfl, h4.1, by omega⟩
      · rw [if_neg h4]
        cases h2 : RF.head? with
        | none => simp only [Option.map_none]; omega
        | some f =>
          simp only [Option.map_some]
          by_cases h3 : f.sec = 2 ∧ (k : Int) + 1 ≤ f.at_
          · rw [if_pos h3]
            rcases Int.le_total ((k : Int) + 16) (min (x.data.length : Int) f.at_) with h5 | h5
            · left; omega
            · rcases Int.le_total (x.data.length : Int) f.at_ with h6 | h6
              · right; left; omega
              · right; right; right; exact ⟨f, rfl, h3.1, by omega⟩
          · rw [if_neg h3]; omega
  have hm1 : (k : Int) + 1 ≤ m := by
    rcases hcase with h | h | ⟨l, h1, h2, h3⟩ | ⟨l, h1, h2, h3⟩
    · omega
    · omega
    · have := (hl l h1 h2).2; omega
    · have := (hf l h1 h2).2; omega
  have hm2 : m ≤ (k : Int) + 16 := by rw [hm]; exact Int.min_le_left _ _
  have hm3 : m ≤ x.data.length := by
    have h5 : untilV RL RF 2 ((k : Int) + 1) x.data.length ≤ x.data.length := by
      unfold untilV
      have hb : ∀ (e : Int) o, minB 2 ((k : Int) + 1) e o ≤ e := by
        intro e o
        cases o with
        | none => exact Int.le_refl _
        | some q => obtain ⟨s, a⟩ := q; unfold minB; split <;> omega
      exact Int.le_trans (hb _ _) (hb _ _)
    rw [hm]
    omega
  obtain ⟨mm, hmm⟩ : ∃ q : Nat, m = (q : Int) := ⟨m.toNat, by omega⟩
  have hst : stopK x k = mm := by
    refine stopG_eq 15 (k + 1) mm (by omega) (by omega) (fun i h1 h2 => ⟨by omega, ?_⟩) ?_
    · unfold clearD
      rw [decide_eq_true (atL_none hL (by omega) (fun l h3 h4 => by have := (hl l h3 h4).1; omega)), decide_eq_true (fixT_none' hF (by omega) (fun l h3 h4 => by have := (hf l h3 h4).1; omega))]
      rfl
    · rcases hcase with h | h | ⟨l, h1, h2, h3⟩ | ⟨l, h1, h2, h3⟩
      · exact .inl (by omega)
      · exact .inr (fun h4 => by omega)
      · refine .inr (fun h4 => ?_)
        have h5 := h4.2
        unfold clearD at h5
        rw [decide_eq_false (atL_some (hL.mem (List.mem_of_mem_head? h1)) h2 (by rw [← h3, hmm]))] at h5
        cases h5
      · refine .inr (fun h4 => ?_)
        have h5 := h4.2
        unfold clearD at h5
        rw [decide_eq_false (fixT_some (hF.mem (List.mem_of_mem_head? h1)) h2 (by rw [← h3, hmm]) (fun f hq => name_some (fix_facts hok hq).1)), Bool.and_false] at h5
        cases h5
  refine ⟨by rw [← hm, hmm, hst], by omega, ?_, ?_⟩
  · refine hL.skip (by omega) (fun l h1 hb => ?_)
    have h2 := hL.rest l (List.mem_of_mem_head? h1)
    unfold befL at h2 hb
    by_cases hs : l.sec = 2
    · have := (hl l h1 hs).1; omega
    · omega
  · refine hF.skip (by omega) (fun l h1 hb => ?_)
    have h2 := hF.rest l (List.mem_of_mem_head? h1)
    unfold befF at h2 hb
    by_cases hs : l.sec = 2
    · have := (hf l h1 hs).1; omega
    · omega
end Go.Proofs.YtnkfjileaonemaaGreatDoor
