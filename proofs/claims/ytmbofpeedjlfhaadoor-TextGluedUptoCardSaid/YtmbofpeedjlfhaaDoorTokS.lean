/-
  What stands between tokens: the plain law; the walks of between and awake.
-/
import Derived.Test.YtmbofpeedjlfhaaDoorTokE
namespace Go.Proofs.YtmbofpeedjlfhaaDoor
open Go.RowKit Go.PlainAid
set_option linter.unusedVariables false
set_option maxRecDepth 100000

/-- blanks and comments from i up to k -/
def blankF (s : ByteArray) (k : Nat) : Nat → Nat → Bool
  | 0, i => true
  | f + 1, i => if i < k then (if bn s i = 35 then (decide (lineE s i ≤ k) && blankF s k f (lineE s i)) else if bn s i = 32 ∨ bn s i = 9 ∨ bn s i = 13 then blankF s k f (i + 1) else false) else true
def blank (s : ByteArray) (i k : Nat) : Bool := blankF s k (k - i) i
theorem blankF_fuel (s : ByteArray) (k : Nat) (hk : k ≤ s.size) : ∀ (f g i : Nat), k - i ≤ f → k - i ≤ g → blankF s k f i = blankF s k g i := by
  intro f
  induction f with
  | zero =>
    intro g i hf _
    cases g with
    | zero => rfl
    | succ g => rw [blankF, blankF, if_neg (by omega)]
  | succ f ih =>
    intro g i hf hg
    cases g with
    | zero => rw [blankF, blankF, if_neg (by omega)]
    | succ g =>
      rw [blankF, blankF]
      split
      · rename_i hi
        split
        · rename_i h35
          have := lineE_lt s i (by omega) h35
          rw [ih g _ (by omega) (by omega)]
        · split
          · exact ih g _ (by omega) (by omega)
          · rfl
      · rfl
theorem blank_ge (s : ByteArray) (i k : Nat) (h : k ≤ i) : blank s i k = true := by
  unfold blank
  rw [show k - i = 0 by omega]
  rfl
theorem blank_sp (s : ByteArray) (i k : Nat) (hk : k ≤ s.size) (h : i < k) (hb : bn s i = 32 ∨ bn s i = 9 ∨ bn s i = 13) : blank s i k = blank s (i + 1) k := by
  unfold blank
  rw [show k - i = (k - (i + 1)) + 1 by omega, blankF, if_pos h, if_neg (by omega), if_pos hb]
theorem blank_note (s : ByteArray) (i k : Nat) (hk : k ≤ s.size) (h : i < k) (hb : bn s i = 35) : blank s i k = (decide (lineE s i ≤ k) && blank s (lineE s i) k) := by
  have := lineE_lt s i (by omega) hb
  unfold blank
  rw [show k - i = (k - (i + 1)) + 1 by omega, blankF, if_pos h, if_pos hb, blankF_fuel s k hk _ (k - lineE s i) _ (by omega) (Nat.le_refl _)]
theorem blank_no (s : ByteArray) (i k : Nat) (hk : k ≤ s.size) (h : i < k) (h35 : bn s i ≠ 35) (hb : ¬ (bn s i = 32 ∨ bn s i = 9 ∨ bn s i = 13)) : blank s i k = false := by
  unfold blank
  rw [show k - i = (k - (i + 1)) + 1 by omega, blankF, if_pos h, if_neg h35, if_neg hb]
/-- the tokens stand one behind the other, from i on, with blanks and comments between -/
def Stand (s : ByteArray) : Nat → List Tk → Prop
  | i, [] => i ≤ s.size ∧ blank s i s.size = true
  | i, t :: l => i ≤ t.2.1 ∧ t.2.1 < t.2.2 ∧ t.2.2 ≤ s.size ∧ blank s i t.2.1 = true ∧ Stand s t.2.2 l
theorem stand_step (s : ByteArray) (i j : Nat) (hij : i ≤ j) (hb : ∀ k, j ≤ k → k ≤ s.size → blank s j k = true → blank s i k = true) : ∀ l, Stand s j l → Stand s i l := by
  intro l h
  cases l with
  | nil => exact ⟨by have := h.1; omega, hb _ h.1 (Nat.le_refl _) h.2⟩
  | cons t l =>
    obtain ⟨h1, h2, h3, h4, h5⟩ := h
    exact ⟨by omega, h2, h3, hb _ h1 (by omega) h4, h5⟩
theorem toks_stand (s : ByteArray) (sg : List ByteArray) : ∀ (f i : Nat), s.size - i ≤ f → i ≤ s.size → ∀ l p, toksAt s sg i = (some l, p, 0) → Stand s i l := by
  intro f
  induction f with
  | zero =>
    intro i hf hi l p h
    rw [toksAt_ge s sg i (by omega)] at h
    injection h with h _
    injection h with h
    subst h
    exact ⟨hi, blank_ge s i _ (by omega)⟩
  | succ f ih =>
    intro i hf hi l p h
    by_cases hlt : i < s.size
    · by_cases hb : bn s i = 9 ∨ bn s i = 13 ∨ bn s i = 32
      · rw [toksAt_blank s sg i hlt hb] at h
        refine stand_step s i (i + 1) (by omega) (fun k h1 h2 h3 => ?_) l (ih (i + 1) (by omega) (by omega) l p h)
        rw [blank_sp s i k h2 (by omega) (by omega)]
        exact h3
      by_cases h35 : bn s i = 35
      · have hl := lineE_lt s i hlt h35
        rw [toksAt_note s sg i hlt h35] at h
        refine stand_step s i (lineE s i) (by omega) (fun k h1 h2 h3 => ?_) l (ih (lineE s i) (by omega) (by omega) l p h)
        rw [blank_note s i k h2 (by omega) h35, h3, decide_eq_true h1]
        rfl
      by_cases he : (tokN s sg i).2.2 = 0
      · have hend := tokN_end s sg i hlt he
        obtain ⟨K, E, ER, hT⟩ : ∃ K E ER, tokN s sg i = (K, E, ER) := ⟨_, _, _, rfl⟩
        rw [hT] at he hend
        simp only at he hend
        subst he
        obtain ⟨q, rfl⟩ : ∃ q : Nat, E = q := ⟨E.toNat, by omega⟩
        rw [toksAt_tok s sg i q K hlt hb h35 hT] at h
        cases hr : toksAt s sg q with
        | mk o pe =>
          obtain ⟨p2, e2⟩ := pe
          rw [hr] at h
          cases o with
          | none => cases h
          | some l2 =>
            unfold addTk at h
            simp only [Option.map_some, Prod.mk.injEq, Option.some.injEq] at h
            obtain ⟨rfl, rfl, rfl⟩ := h
            exact ⟨Nat.le_refl _, by simp only; omega, by simp only; omega, blank_ge _ _ _ (Nat.le_refl _), ih q (by omega) (by omega) l2 p2 hr⟩
      · rw [toksAt_bad s sg i hlt hb h35 he] at h
        cases h
    · rw [toksAt_ge s sg i (by omega)] at h
      injection h with h _
      injection h with h
      subst h
      exact ⟨hi, blank_ge s i _ (by omega)⟩
theorem escN_fits (s : ByteArray) (i : Nat) (c : Int) (b : Bool) (k : Nat) (h : escN s i = some (c, b, k)) : i + k ≤ s.size := by
  have h2 : 0 ≤ hexW s (i + 2) 2 → i + 2 + 2 ≤ s.size := by unfold hexW; split <;> omega
  have h4 : 0 ≤ hexW s (i + 2) 4 → i + 2 + 4 ≤ s.size := by unfold hexW; split <;> omega
  unfold escN at h
  repeat' split at h
  all_goals
    simp only [Option.some.injEq, Prod.mk.injEq, reduceCtorEq] at h
  all_goals
    obtain ⟨rfl, rfl, rfl⟩ := h
    omega
theorem sayN_fits (s : ByteArray) (i : Nat) (hi : i < s.size) : i + (sayN s i).2.2.1 ≤ s.size := by
  have hc := cutN_fits s i hi
  unfold sayN
  split
  · split
    · simp only; omega
    · rename_i h; exact escN_fits s i _ _ _ h
  · split
    · simp only; omega
    · split
      · simp only; omega
      · exact hc
theorem runeN_bd2 (s : ByteArray) : 0 ≤ (runeN s).2.1 ∧ (runeN s).2.1 ≤ (s.size : Int) := by
  unfold runeN
  by_cases h0 : s.size = 0
  · rw [if_pos h0]; simp
  rw [if_neg h0]
  by_cases h39 : bn s 0 ≠ 39
  · rw [if_pos h39]; simp
  rw [if_neg h39]
  by_cases h1 : s.size = 1
  · rw [if_pos h1]; simp only; omega
  rw [if_neg h1]
  have hk := sayN_fits s 1 (by omega)
  repeat' split
  all_goals simp only
  all_goals omega
theorem tokN_place (s : ByteArray) (sg : List ByteArray) (i : Nat) (h : i < s.size) (he : (tokN s sg i).2.2 ≠ 0) : 0 ≤ (tokN s sg i).2.1 ∧ (tokN s sg i).2.1 ≤ (s.size : Int) := by
  unfold tokN at he ⊢
  split
  · simp only; omega
  split
  · have := nameE_bd s i (by omega)
    simp only
    omega
  split
  · have := figE_bd s i h
    simp only
    omega
  split
  · unfold litN
    cases hl : litE s i with
    | none => simp only; omega
    | some e =>
      have hb := litE_bd s i e hl
      have h1 := bytesN_bd (s.extract i e)
      have h2 := runeN_bd2 (s.extract i e)
      rw [show (s.extract i e).size = e - i by simp [ByteArray.size_extract]; omega] at h1 h2
      simp only
      split
      · split
        · simp only; omega
        · simp only; omega
      · split
        · simp only; omega
        · simp only; omega
  split
  · rename_i h5
    have := (signN_fits s i sg h5).1
    simp only
    omega
  split
  · simp only; omega
  · simp only; omega
theorem toksAt_or (s : ByteArray) (sg : List ByteArray) : ∀ (f i : Nat), s.size - i ≤ f → i ≤ s.size → (∃ l, toksAt s sg i = (some l, 0, 0)) ∨ ∃ p e, toksAt s sg i = (none, p, e) ∧ e ≠ 0 ∧ 0 ≤ p ∧ p ≤ (s.size : Int) := by
  intro f
  induction f with
  | zero =>
    intro i hf hi
    exact .inl ⟨[], toksAt_ge s sg i (by omega)⟩
  | succ f ih =>
    intro i hf hi
    by_cases hlt : i < s.size
    · by_cases hb : bn s i = 9 ∨ bn s i = 13 ∨ bn s i = 32
      · rw [toksAt_blank s sg i hlt hb]
        exact ih (i + 1) (by omega) (by omega)
      by_cases h35 : bn s i = 35
      · have hl := lineE_lt s i hlt h35
        rw [toksAt_note s sg i hlt h35]
        exact ih (lineE s i) (by omega) (by omega)
      by_cases he : (tokN s sg i).2.2 = 0
      · have hend := tokN_end s sg i hlt he
        obtain ⟨K, E, ER, hT⟩ : ∃ K E ER, tokN s sg i = (K, E, ER) := ⟨_, _, _, rfl⟩
        rw [hT] at he hend
        simp only at he hend
        subst he
        obtain ⟨q, rfl⟩ : ∃ q : Nat, E = q := ⟨E.toNat, by omega⟩
        rw [toksAt_tok s sg i q K hlt hb h35 hT]
        rcases ih q (by omega) (by omega) with ⟨l, hl⟩ | ⟨p, e, hl, h1, h2⟩
        · exact .inl ⟨_, by rw [hl]; rfl⟩
        · exact .inr ⟨p, e, by rw [hl]; rfl, h1, h2⟩
      · rw [toksAt_bad s sg i hlt hb h35 he]
        exact .inr ⟨_, _, rfl, he, tokN_place s sg i hlt he⟩
    · exact .inl ⟨[], toksAt_ge s sg i (by omega)⟩
/-- tokens that stand, or an error and its place -/
theorem toksN_or (s : ByteArray) (sg : List ByteArray) : (∃ l, toksN s sg = (some l, 0, 0) ∧ Stand s 0 l ∧ s.size ≤ 524288) ∨ ∃ p e, toksN s sg = (none, p, e) ∧ e ≠ 0 ∧ 0 ≤ p ∧ p ≤ (s.size : Int) := by
  unfold toksN
  split
  · exact .inr ⟨_, _, rfl, by decide, by omega, by omega⟩
  split
  · exact .inr ⟨_, _, rfl, by decide, by omega, by omega⟩
  · rcases toksAt_or s sg s.size 0 (by omega) (Nat.zero_le _) with ⟨l, h⟩ | h
    · exact .inl ⟨l, h, toks_stand s sg s.size 0 (by omega) (Nat.zero_le _) l 0 h, by omega⟩
    · exact .inr h
theorem stand_at (s : ByteArray) : ∀ (l : List Tk) (i : Nat), Stand s i l → ∀ k t, l[k]? = some t → (if k = 0 then i else ((l[k - 1]?).map (·.2.2)).getD 0) ≤ t.2.1 ∧ t.2.1 < t.2.2 ∧ t.2.2 ≤ s.size ∧ blank s (if k = 0 then i else ((l[k - 1]?).map (·.2.2)).getD 0) t.2.1 = true := by
  intro l
  induction l with
  | nil => intro i _ k t h; simp at h
  | cons a l ih =>
    intro i h k t hk
    obtain ⟨h1, h2, h3, h4, h5⟩ := h
    cases k with
    | zero =>
      simp only [List.getElem?_cons_zero, Option.some.injEq] at hk
      subst hk
      exact ⟨h1, h2, h3, h4⟩
    | succ k =>
      rw [List.getElem?_cons_succ] at hk
      have h9 := ih _ h5 k t hk
      rw [if_neg (by omega)]
      cases k with
      | zero => simpa using h9
      | succ k => simpa using h9
/-- where the tokens before number k end -/
def endOf (l : List Tk) (k : Nat) : Nat := if k = 0 then 0 else ((l[k - 1]?).map (·.2.2)).getD 0
theorem stand_end (s : ByteArray) : ∀ (l : List Tk) (i : Nat), Stand s i l → (if l.length = 0 then i else ((l[l.length - 1]?).map (·.2.2)).getD 0) ≤ s.size ∧ blank s (if l.length = 0 then i else ((l[l.length - 1]?).map (·.2.2)).getD 0) s.size = true := by
  intro l
  induction l with
  | nil => intro i h; exact h
  | cons a l ih =>
    intro i h
    obtain ⟨h1, h2, h3, h4, h5⟩ := h
    have h9 := ih _ h5
    rw [if_neg (by simp)]
    rw [show (a :: l).length - 1 = l.length by simp]
    cases l with
    | nil => simpa using h9
    | cons b l => simpa using h9
end Go.Proofs.YtmbofpeedjlfhaaDoor
