/-
  What an object that may be has: its labels and fixes rise, their places lie within.
-/
import Derived.Test.YtnkfjileaonemaaGreatDoorPrP
namespace Go.Proofs.YtnkfjileaonemaaGreatDoor
open Go.RowKit Go.PlainAid
set_option linter.unusedSimpArgs false
set_option linter.unusedVariables false
set_option maxRecDepth 100000
theorem pairwise_step {α : Type} {R : α → α → Prop} (htr : ∀ a b c, R a b → R b c → R a c) : ∀ (l : List α), (∀ k a b, l[k]? = some a → l[k + 1]? = some b → R a b) → l.Pairwise R
  | [], _ => List.Pairwise.nil
  | [a], _ => List.pairwise_singleton _ _
  | a :: b :: l, h => by
    have ih := pairwise_step htr (b :: l) (fun k x y hx hy => h (k + 1) x y (by simpa using hx) (by simpa using hy))
    refine List.pairwise_cons.2 ⟨fun c hc => ?_, ih⟩
    have hab := h 0 a b rfl rfl
    rcases List.mem_cons.1 hc with rfl | hc
    · exact hab
    · exact htr a b c hab ((List.pairwise_cons.1 ih).1 c hc)
theorem leL_trans (a b c : LabV) (h1 : leL a b) (h2 : leL b c) : leL a c := by unfold leL at *; omega
theorem ltF_trans (a b c : FixV) (h1 : ltF a b) (h2 : ltF b c) : ltF a c := by unfold ltF at *; omega
theorem okB_parts {x : ObjV} (h : okB x = true) : boundB x = true ∧ labsB x = true ∧ fixesB x = true ∧ tgtsB x = true ∧ entsB x = true ∧ codeB x = true := by
  unfold okB at h
  simp only [Bool.and_eq_true] at h
  exact ⟨h.1.1.1.1, h.1.1.1.2, h.1.1.2, h.1.2.1, h.1.2.2, h.2⟩
theorem okB_lab {x : ObjV} (h : okB x = true) {k : Nat} {t : LabV} (ht : x.labels[k]? = some t) : labOk x k = true :=
  List.all_eq_true.1 (okB_parts h).2.1 k (List.mem_range.2 (List.getElem?_eq_some_iff.1 ht).1)
theorem okB_fix {x : ObjV} (h : okB x = true) {k : Nat} {t : FixV} (ht : x.fixes[k]? = some t) : fixOk x k = true :=
  List.all_eq_true.1 (okB_parts h).2.2.1 k (List.mem_range.2 (List.getElem?_eq_some_iff.1 ht).1)
theorem lab_facts {x : ObjV} (h : okB x = true) {t : LabV} (ht : t ∈ x.labels) : nameB t.name = true ∧ 1 ≤ t.sec ∧ t.sec ≤ 3 ∧ t.at_ ≤ lenOf x t.sec := by
  obtain ⟨k, hk, rfl⟩ := List.getElem_of_mem ht
  have h1 := okB_lab h (List.getElem?_eq_getElem hk)
  unfold labOk at h1
  rw [List.getElem?_eq_getElem hk] at h1
  simp only [Bool.and_eq_true, Bool.not_eq_true', decide_eq_false_iff_not] at h1
  exact ⟨h1.1.1.1.1.1, by omega, by omega, by omega⟩
theorem labs_rise {x : ObjV} (h : okB x = true) : x.labels.Pairwise leL := by
  refine pairwise_step leL_trans _ (fun k a b ha hb => ?_)
  have h1 := okB_lab h hb
  unfold labOk at h1
  rw [hb] at h1
  simp only [ha, Bool.and_eq_true, Bool.not_eq_true', decide_eq_false_iff_not, Bool.or_eq_false_iff, Bool.and_eq_false_iff] at h1
  have h2 := h1.2
  unfold leL
  omega
theorem fix_facts {x : ObjV} (h : okB x = true) {f : FixV} (hf : f ∈ x.fixes) : nameB f.name = true ∧ blankB x f = true ∧ withinB x f = false := by
  obtain ⟨k, hk, rfl⟩ := List.getElem_of_mem hf
  have h1 := okB_fix h (List.getElem?_eq_getElem hk)
  unfold fixOk at h1
  rw [List.getElem?_eq_getElem hk] at h1
  simp only [Bool.and_eq_true] at h1
  have h2 := h1.1
  unfold fixOk1 at h2
  simp only [Bool.and_eq_true, Bool.not_eq_true'] at h2
  exact ⟨h2.1.1, h2.1.2, h2.2⟩
theorem fixes_rise {x : ObjV} (h : okB x = true) : x.fixes.Pairwise ltF := by
  refine pairwise_step ltF_trans _ (fun k a b ha hb => ?_)
  have h1 := okB_fix h hb
  unfold fixOk at h1
  rw [hb] at h1
  simp only [ha, Bool.and_eq_true, Bool.not_eq_true'] at h1
  have h2 := h1.2
  unfold fixBad at h2
  simp only [Bool.or_eq_false_iff, Bool.and_eq_false_iff, decide_eq_false_iff_not] at h2
  unfold ltF
  omega
theorem fix_place {x : ObjV} (h : okB x = true) {f : FixV} (hf : f ∈ x.fixes) : (f.sec = 1 ∧ ∃ t, x.code[f.at_.toNat]? = some t ∧ 0 < (opR t.1).width) ∨ (f.sec = 2 ∧ f.at_ + 4 ≤ x.data.length) := by
  have h1 := (fix_facts h hf).2.1
  unfold blankB at h1
  split at h1
  · rename_i hs
    left
    refine ⟨hs, ?_⟩
    split at h1
    · rename_i t ht
      simp only [Bool.and_eq_true, decide_eq_true_eq] at h1
      exact ⟨t, ht, h1.1⟩
    · cases h1
  · split at h1
    · rename_i hs
      simp only [Bool.and_eq_true, decide_eq_true_eq] at h1
      exact .inr ⟨hs, h1.1⟩
    · cases h1
theorem fix_apart {x : ObjV} (h : okB x = true) {f : FixV} (hf : f ∈ x.fixes) (h2 : f.sec = 2) {l : LabV} (hl : l ∈ x.labels) (hs : l.sec = 2) : l.at_ ≤ f.at_ ∨ f.at_ + 4 ≤ l.at_ := by
  have h1 := (fix_facts h hf).2.2
  unfold withinB at h1
  rw [List.any_eq_false] at h1
  have h3 := h1 l hl
  unfold inFix at h3
  rw [h2, hs] at h3
  simp at h3
  omega
theorem name_ne : nameB e0B = false := by decide +kernel
theorem name_some {s : ByteArray} (h : nameB s = true) : s ≠ e0B := by
  rintro rfl
  rw [name_ne] at h
  cases h
theorem fixTx_ne {f : FixV} (h : f.name ≠ e0B) : fixTx f ≠ e0B := by
  intro e
  have h1 := ba_ne h
  unfold fixTx at e
  have h2 := congrArg ByteArray.size e
  split at h2
  · rw [show e0B.size = 0 from rfl] at h2; omega
  · rw [ba_size, ba_size, show e0B.size = 0 from rfl] at h2; omega
theorem LeftL.next {L R : List LabV} {s p : Int} (h : LeftL L R s p) (hs : ∀ l ∈ L, l.sec = s → l.at_ < p) (h0 : ∀ l ∈ L, 0 ≤ l.at_) : LeftL L R (s + 1) 0 := by
  obtain ⟨D, hD, hb⟩ := h.all_
  refine ⟨⟨D, hD, fun d hd => ?_⟩, fun r hr => ?_, h.rise⟩
  · have := hb d hd; unfold befL at *; omega
  · have h1 := h.rest r hr
    have h2 := hs r (by rw [hD]; simp [hr])
    have h3 := h0 r (by rw [hD]; simp [hr])
    unfold befL at *
    omega
theorem LeftF.next {L R : List FixV} {s p : Int} (h : LeftF L R s p) (hs : ∀ l ∈ L, l.sec = s → l.at_ < p) (h0 : ∀ l ∈ L, 0 ≤ l.at_) : LeftF L R (s + 1) 0 := by
  obtain ⟨D, hD, hb⟩ := h.all_
  refine ⟨⟨D, hD, fun d hd => ?_⟩, fun r hr => ?_, h.rise⟩
  · have := hb d hd; unfold befF at *; omega
  · have h1 := h.rest r hr
    have h2 := hs r (by rw [hD]; simp [hr])
    have h3 := h0 r (by rw [hD]; simp [hr])
    unfold befF at *
    omega
theorem LeftL.mem {L R : List LabV} {s p : Int} (h : LeftL L R s p) {r : LabV} (hr : r ∈ R) : r ∈ L := by obtain ⟨D, hD, _⟩ := h.all_; rw [hD]; simp [hr]
theorem LeftF.mem {L R : List FixV} {s p : Int} (h : LeftF L R s p) {r : FixV} (hr : r ∈ R) : r ∈ L := by obtain ⟨D, hD, _⟩ := h.all_; rw [hD]; simp [hr]
theorem LeftL.start {x : ObjV} (h : okB x = true) (hx : ObjOk x) : LeftL x.labels x.labels 1 0 :=
  ⟨⟨[], rfl, fun d hd => by cases hd⟩, fun r hr => by have h1 := (lab_facts h hr).2.1; have h2 := (hx.labels r hr).2.2.1; unfold befL; omega, labs_rise h⟩
theorem LeftF.start {x : ObjV} (h : okB x = true) (hx : ObjOk x) : LeftF x.fixes x.fixes 1 0 :=
  ⟨⟨[], rfl, fun d hd => by cases hd⟩, fun r hr => by have h1 := fix_place h hr; have h2 := (hx.fixes r hr).2.2.1.1; unfold befF; omega, fixes_rise h⟩
def hasHd : List LabV → Int → Bool
  | [], _ => false
  | l :: _, s => decide (l.sec = s)
/-- a section's labels are left, or there were none -/
theorem hasB_eq {L R : List LabV} {s : Int} (h : LeftL L R s 0) (h0 : ∀ l ∈ L, 0 ≤ l.at_) : hasL L s = hasHd R s := by
  obtain ⟨D, hD, hb⟩ := h.all_
  have h1 : ∀ d ∈ D, decide (d.sec = s) = false := fun d hd => decide_eq_false (by
    have := hb d hd
    have := h0 d (by rw [hD]; simp [hd])
    unfold befL at *
    omega)
  subst hD
  unfold hasL
  rw [List.any_append, List.any_eq_false.2 (fun d hd => by rw [h1 d hd]; simp), Bool.false_or]
  cases R with
  | nil => rfl
  | cons l R =>
    rw [List.any_cons]
    by_cases hl : l.sec = s
    · rw [hasHd, decide_eq_true hl, Bool.true_or]
    · rw [hasHd, decide_eq_false hl, Bool.false_or]
      rw [List.any_eq_false]
      intro r hr
      have h2 := (List.pairwise_cons.1 h.rise).1 r hr
      have h3 := h.rest l (by simp)
      have h4 := h.rest r (by simp [hr])
      unfold leL at h2
      unfold befL at h3 h4
      simp only [decide_eq_true_eq]
      omega
end Go.Proofs.YtnkfjileaonemaaGreatDoor
