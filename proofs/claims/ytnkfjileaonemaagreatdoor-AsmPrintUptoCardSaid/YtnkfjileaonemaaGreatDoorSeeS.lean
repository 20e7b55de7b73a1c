/-
  What stands between tokens: the plain law; the walks of between and awake.
-/
import Derived.Test.YtnkfjileaonemaaGreatDoorTokE
import Derived.Deep.CutRange
import Derived.Test.YtnkfjileaonemaaGreatDoorKit
import Derived.ChangeArms
import Derived.ChangeOld
import Derived.ProofKit
import Derived.SizedLaws
namespace Go.Proofs.YtnkfjileaonemaaGreatDoor
open Go.RowKit Go.PlainAid
set_option linter.unusedVariables false
set_option maxRecDepth 100000

/-- blanks and comments from i up to k -/
def blankF (s : ByteArray) (k : Nat) : Nat → Nat → Bool
  | 0, i => true
  | f + 1, i => if i < k then (if bn s i = 35 then (decide (lineE s i ≤ k) && blankF s k f (lineE s i)) else if bn s i = 32 ∨ bn s i = 9 ∨ bn s i = 13 then blankF s k f (i + 1) else false) else true
def blank (s : ByteArray) (i k : Nat) : Bool := blankF s k (k - i) i
theorem blankF_fuel (s : ByteArray) (k : Nat) (hk : k ≤ s.size) : ∀ (f g i : Nat), k - i ≤ f → k - i ≤ g → blankF s k f i = blankF s k g i := by
  intro f
  induction f with
  | zero =>
    intro g i hf _
    cases g with
    | zero => rfl
    | succ g => rw [blankF, blankF, if_neg (by omega)]
  | succ f ih =>
    intro g i hf hg
    cases g with
    | zero => rw [blankF, blankF, if_neg (by omega)]
    | succ g =>
      rw [blankF, blankF]
      split
      · rename_i hi
        split
        · rename_i h35
          have := lineE_lt s i (by omega) h35
          rw [ih g _ (by omega) (by omega)]
        · split
          · exact ih g _ (by omega) (by omega)
          · rfl
      · rfl
theorem blank_ge (s : ByteArray) (i k : Nat) (h : k ≤ i) : blank s i k = true := by
  unfold blank
  rw [show k - i = 0 by omega]
  rfl
theorem blank_sp (s : ByteArray) (i k : Nat) (hk : k ≤ s.size) (h : i < k) (hb : bn s i = 32 ∨ bn s i = 9 ∨ bn s i = 13) : blank s i k = blank s (i + 1) k := by
  unfold blank
  rw [show k - i = (k - (i + 1)) + 1 by omega, blankF, if_pos h, if_neg (by omega), if_pos hb]
theorem blank_note (s : ByteArray) (i k : Nat) (hk : k ≤ s.size) (h : i < k) (hb : bn s i = 35) : blank s i k = (decide (lineE s i ≤ k) && blank s (lineE s i) k) := by
  have := lineE_lt s i (by omega) hb
  unfold blank
  rw [show k - i = (k - (i + 1)) + 1 by omega, blankF, if_pos h, if_pos hb, blankF_fuel s k hk _ (k - lineE s i) _ (by omega) (Nat.le_refl _)]
theorem blank_no (s : ByteArray) (i k : Nat) (hk : k ≤ s.size) (h : i < k) (h35 : bn s i ≠ 35) (hb : ¬ (bn s i = 32 ∨ bn s i = 9 ∨ bn s i = 13)) : blank s i k = false := by
  unfold blank
  rw [show k - i = (k - (i + 1)) + 1 by omega, blankF, if_pos h, if_neg h35, if_neg hb]
/-- the tokens stand one behind the other, from i on, with blanks and comments between -/
def Stand (s : ByteArray) : Nat → List Tk → Prop
  | i, [] => i ≤ s.size ∧ blank s i s.size = true
  | i, t :: l => i ≤ t.2.1 ∧ t.2.1 < t.2.2 ∧ t.2.2 ≤ s.size ∧ blank s i t.2.1 = true ∧ Stand s t.2.2 l
theorem stand_step (s : ByteArray) (i j : Nat) (hij : i ≤ j) (hb : ∀ k, j ≤ k → k ≤ s.size → blank s j k = true → blank s i k = true) : ∀ l, Stand s j l → Stand s i l := by
  intro l h
  cases l with
  | nil => exact ⟨by have := h.1; omega, hb _ h.1 (Nat.le_refl _) h.2⟩
  | cons t l =>
    obtain ⟨h1, h2, h3, h4, h5⟩ := h
    exact ⟨by omega, h2, h3, hb _ h1 (by omega) h4, h5⟩
theorem toks_stand (s : ByteArray) (sg : List ByteArray) : ∀ (f i : Nat), s.size - i ≤ f → i ≤ s.size → ∀ l p, toksAt s sg i = (some l, p, 0) → Stand s i l := by
  intro f
  induction f with
  | zero =>
    intro i hf hi l p h
    rw [toksAt_ge s sg i (by omega)] at h
    injection h with h _
    injection h with h
    subst h
    exact ⟨hi, blank_ge s i _ (by omega)⟩
  | succ f ih =>
    intro i hf hi l p h
    by_cases hlt : i < s.size
    · by_cases hb : bn s i = 9 ∨ bn s i = 13 ∨ bn s i = 32
      · rw [toksAt_blank s sg i hlt hb] at h
        refine stand_step s i (i + 1) (by omega) (fun k h1 h2 h3 => ?_) l (ih (i + 1) (by omega) (by omega) l p h)
        rw [blank_sp s i k h2 (by omega) (by omega)]
        exact h3
      by_cases h35 : bn s i = 35
      · have hl := lineE_lt s i hlt h35
        rw [toksAt_note s sg i hlt h35] at h
        refine stand_step s i (lineE s i) (by omega) (fun k h1 h2 h3 => ?_) l (ih (lineE s i) (by omega) (by omega) l p h)
        rw [blank_note s i k h2 (by omega) h35, h3, decide_eq_true h1]
        rfl
      by_cases he : (tokN s sg i).2.2 = 0
      · have hend := tokN_end s sg i hlt he
        obtain ⟨K, E, ER, hT⟩ : ∃ K E ER, tokN s sg i = (K, E, ER) := ⟨_, _, _, rfl⟩
        rw [hT] at he hend
        simp only at he hend
        subst he
        obtain ⟨q, rfl⟩ : ∃ q : Nat, E = q := ⟨E.toNat, by omega⟩
        rw [toksAt_tok s sg i q K hlt hb h35 hT] at h
        cases hr : toksAt s sg q with
        | mk o pe =>
          obtain ⟨p2, e2⟩ := pe
          rw [hr] at h
          cases o with
          | none => cases h
          | some l2 =>
            unfold addTk at h
            simp only [Option.map_some, Prod.mk.injEq, Option.some.injEq] at h
            obtain ⟨rfl, rfl, rfl⟩ := h
            exact ⟨Nat.le_refl _, by simp only; omega, by simp only; omega, blank_ge _ _ _ (Nat.le_refl _), ih q (by omega) (by omega) l2 p2 hr⟩
      · rw [toksAt_bad s sg i hlt hb h35 he] at h
        cases h
    · rw [toksAt_ge s sg i (by omega)] at h
      injection h with h _
      injection h with h
      subst h
      exact ⟨hi, blank_ge s i _ (by omega)⟩
theorem escN_fits (s : ByteArray) (i : Nat) (c : Int) (b : Bool) (k : Nat) (h : escN s i = some (c, b, k)) : i + k ≤ s.size := by
  have h2 : 0 ≤ hexW s (i + 2) 2 → i + 2 + 2 ≤ s.size := by unfold hexW; split <;> omega
  have h4 : 0 ≤ hexW s (i + 2) 4 → i + 2 + 4 ≤ s.size := by unfold hexW; split <;> omega
  unfold escN at h
  repeat' split at h
  all_goals
    simp only [Option.some.injEq, Prod.mk.injEq, reduceCtorEq] at h
  all_goals
    obtain ⟨rfl, rfl, rfl⟩ := h
    omega
theorem sayN_fits (s : ByteArray) (i : Nat) (hi : i < s.size) : i + (sayN s i).2.2.1 ≤ s.size := by
  have hc := cutN_fits s i hi
  unfold sayN
  split
  · split
    · simp only; omega
    · rename_i h; exact escN_fits s i _ _ _ h
  · split
    · simp only; omega
    · split
      · simp only; omega
      · exact hc
theorem runeN_bd2 (s : ByteArray) : 0 ≤ (runeN s).2.1 ∧ (runeN s).2.1 ≤ (s.size : Int) := by
  unfold runeN
  by_cases h0 : s.size = 0
  · rw [if_pos h0]; simp
  rw [if_neg h0]
  by_cases h39 : bn s 0 ≠ 39
  · rw [if_pos h39]; simp
  rw [if_neg h39]
  by_cases h1 : s.size = 1
  · rw [if_pos h1]; simp only; omega
  rw [if_neg h1]
  have hk := sayN_fits s 1 (by omega)
  repeat' split
  all_goals simp only
  all_goals omega
theorem tokN_place (s : ByteArray) (sg : List ByteArray) (i : Nat) (h : i < s.size) (he : (tokN s sg i).2.2 ≠ 0) : 0 ≤ (tokN s sg i).2.1 ∧ (tokN s sg i).2.1 ≤ (s.size : Int) := by
  unfold tokN at he ⊢
  split
  · simp only; omega
  split
  · have := nameE_bd s i (by omega)
    simp only
    omega
  split
  · have := figE_bd s i h
    simp only
    omega
  split
  · unfold litN
    cases hl : litE s i with
    | none => simp only; omega
    | some e =>
      have hb := litE_bd s i e hl
      have h1 := bytesN_bd (s.extract i e)
      have h2 := runeN_bd2 (s.extract i e)
      rw [show (s.extract i e).size = e - i by simp [ByteArray.size_extract]; omega] at h1 h2
      simp only
      split
      · split
        · simp only; omega
        · simp only; omega
      · split
        · simp only; omega
        · simp only; omega
  split
  · rename_i h5
    have := (signN_fits s i sg h5).1
    simp only
    omega
  split
  · simp only; omega
  · simp only; omega
theorem toksAt_or (s : ByteArray) (sg : List ByteArray) : ∀ (f i : Nat), s.size - i ≤ f → i ≤ s.size → (∃ l, toksAt s sg i = (some l, 0, 0)) ∨ ∃ p e, toksAt s sg i = (none, p, e) ∧ e ≠ 0 ∧ 0 ≤ p ∧ p ≤ (s.size : Int) := by
  intro f
  induction f with
  | zero =>
    intro i hf hi
    exact .inl ⟨[], toksAt_ge s sg i (by omega)⟩
  | succ f ih =>
    intro i hf hi
    by_cases hlt : i < s.size
    · by_cases hb : bn s i = 9 ∨ bn s i = 13 ∨ bn s i = 32
      · rw [toksAt_blank s sg i hlt hb]
        exact ih (i + 1) (by omega) (by omega)
      by_cases h35 : bn s i = 35
      · have hl := lineE_lt s i hlt h35
        rw [toksAt_note s sg i hlt h35]
        exact ih (lineE s i) (by omega) (by omega)
      by_cases he : (tokN s sg i).2.2 = 0
      · have hend := tokN_end s sg i hlt he
        obtain ⟨K, E, ER, hT⟩ : ∃ K E ER, tokN s sg i = (K, E, ER) := ⟨_, _, _, rfl⟩
        rw [hT] at he hend
        simp only at he hend
        subst he
        obtain ⟨q, rfl⟩ : ∃ q : Nat, E = q := ⟨E.toNat, by omega⟩
        rw [toksAt_tok s sg i q K hlt hb h35 hT]
        rcases ih q (by omega) (by omega) with ⟨l, hl⟩ | ⟨p, e, hl, h1, h2⟩
        · exact .inl ⟨_, by rw [hl]; rfl⟩
        · exact .inr ⟨p, e, by rw [hl]; rfl, h1, h2⟩
      · rw [toksAt_bad s sg i hlt hb h35 he]
        exact .inr ⟨_, _, rfl, he, tokN_place s sg i hlt he⟩
    · exact .inl ⟨[], toksAt_ge s sg i (by omega)⟩
/-- tokens that stand, or an error and its place -/
theorem toksN_or (s : ByteArray) (sg : List ByteArray) : (∃ l, toksN s sg = (some l, 0, 0) ∧ Stand s 0 l ∧ s.size ≤ 524288) ∨ ∃ p e, toksN s sg = (none, p, e) ∧ e ≠ 0 ∧ 0 ≤ p ∧ p ≤ (s.size : Int) := by
  unfold toksN
  split
  · exact .inr ⟨_, _, rfl, by decide, by omega, by omega⟩
  split
  · exact .inr ⟨_, _, rfl, by decide, by omega, by omega⟩
  · rcases toksAt_or s sg s.size 0 (by omega) (Nat.zero_le _) with ⟨l, h⟩ | h
    · exact .inl ⟨l, h, toks_stand s sg s.size 0 (by omega) (Nat.zero_le _) l 0 h, by omega⟩
    · exact .inr h
theorem stand_at (s : ByteArray) : ∀ (l : List Tk) (i : Nat), Stand s i l → ∀ k t, l[k]? = some t → (if k = 0 then i else ((l[k - 1]?).map (·.2.2)).getD 0) ≤ t.2.1 ∧ t.2.1 < t.2.2 ∧ t.2.2 ≤ s.size ∧ blank s (if k = 0 then i else ((l[k - 1]?).map (·.2.2)).getD 0) t.2.1 = true := by
  intro l
  induction l with
  | nil => intro i _ k t h; simp at h
  | cons a l ih =>
    intro i h k t hk
    obtain ⟨h1, h2, h3, h4, h5⟩ := h
    cases k with
    | zero =>
      simp only [List.getElem?_cons_zero, Option.some.injEq] at hk
      subst hk
      exact ⟨h1, h2, h3, h4⟩
    | succ k =>
      rw [List.getElem?_cons_succ] at hk
      have h9 := ih _ h5 k t hk
      rw [if_neg (by omega)]
      cases k with
      | zero => simpa using h9
      | succ k => simpa using h9
/-- where the tokens before number k end -/
def endOf (l : List Tk) (k : Nat) : Nat := if k = 0 then 0 else ((l[k - 1]?).map (·.2.2)).getD 0
theorem stand_end (s : ByteArray) : ∀ (l : List Tk) (i : Nat), Stand s i l → (if l.length = 0 then i else ((l[l.length - 1]?).map (·.2.2)).getD 0) ≤ s.size ∧ blank s (if l.length = 0 then i else ((l[l.length - 1]?).map (·.2.2)).getD 0) s.size = true := by
  intro l
  induction l with
  | nil => intro i h; exact h
  | cons a l ih =>
    intro i h
    obtain ⟨h1, h2, h3, h4, h5⟩ := h
    have h9 := ih _ h5
    rw [if_neg (by simp)]
    rw [show (a :: l).length - 1 = l.length by simp]
    cases l with
    | nil => simpa using h9
    | cons b l => simpa using h9
end Go.Proofs.YtnkfjileaonemaaGreatDoor
/-
  The walks of between and awake, and of TextStands.
-/
namespace Go.Proofs.YtnkfjileaonemaaGreatDoor
open Go.RowKit Go.PlainAid
set_option linter.unusedVariables false
set_option maxRecDepth 100000

abbrev awText : ByteArray := ⟨#[97, 98, 32, 60, 61, 32, 55]⟩
abbrev awSigns : List ByteArray := [⟨#[60]⟩, ⟨#[60, 61]⟩]
theorem awake_toks : toksN awText awSigns = (some [(1, 0, 2), (5, 3, 5), (2, 6, 7)], 0, 0) := by decide +kernel
theorem awake_cells : tkCells awText [(1, 0, 2), (5, 3, 5), (2, 6, 7)] = [.int .u8 1, .int .i64 0, .string ⟨#[97, 98]⟩, .int .u8 5, .int .i64 3, .string ⟨#[60, 61]⟩, .int .u8 2, .int .i64 6, .string ⟨#[55]⟩] := by rfl
end Go.Proofs.YtnkfjileaonemaaGreatDoor
/-
  The walk of the statement TextStands.
-/
namespace Go.Proofs.YtnkfjileaonemaaGreatDoor
open Go.RowKit Go.PlainAid Go.BigFrame
set_option linter.unusedVariables false
set_option maxRecDepth 100000

theorem below_drewN {B : Nat} {a w : World} (n : Nat) (h : Below B a w) : Below B a (w.drewN n) := ⟨h.os, h.tape, h.output, h.size, h.block⟩
theorem tkCells_at (s : ByteArray) : ∀ (l : List Tk) (k : Nat) (t : Tk), l[k]? = some t → (tkCells s l)[k * 3]? = some (.int .u8 t.1) ∧ (tkCells s l)[k * 3 + 1]? = some (.int .i64 t.2.1) ∧ (tkCells s l)[k * 3 + 2]? = some (.string (s.extract t.2.1 t.2.2)) := by
  intro l
  induction l with
  | nil => intro k t h; simp at h
  | cons a l ih =>
    intro k t h
    have e : tkCells s (a :: l) = [.int .u8 a.1, .int .i64 a.2.1, .string (s.extract a.2.1 a.2.2)] ++ tkCells s l := rfl
    cases k with
    | zero =>
      simp only [List.getElem?_cons_zero, Option.some.injEq] at h
      subst h
      rw [e]
      exact ⟨rfl, rfl, rfl⟩
    | succ k =>
      rw [List.getElem?_cons_succ] at h
      have h9 := ih k t h
      rw [e, show (k + 1) * 3 = 3 + k * 3 by omega]
      have key : ∀ j, ([Value.int .u8 a.1, .int .i64 a.2.1, .string (s.extract a.2.1 a.2.2)] ++ tkCells s l)[3 + j]? = (tkCells s l)[j]? := fun j => by
        rw [List.getElem?_append_right (by simp)]
        simp
      rw [key, show 3 + k * 3 + 1 = 3 + (k * 3 + 1) by omega, show 3 + k * 3 + 2 = 3 + (k * 3 + 2) by omega, key, key]
      exact h9
theorem endOf_at (l : List Tk) (k : Nat) (t : Tk) (h : l[k]? = some t) : endOf l (k + 1) = t.2.2 := by
  unfold endOf
  rw [if_neg (by omega), Nat.add_sub_cancel, h]
  rfl
end Go.Proofs.YtnkfjileaonemaaGreatDoor
/-
  A list of texts that came in: what its reading says of its cells; the statement TextStands over it.
-/
namespace Go.Proofs.YtnkfjileaonemaaGreatDoor
set_option maxRecDepth 100000
open Go.RowKit

theorem two_of_len {α : Type} {l : List α} (h : l.length = 2) : ∃ x y, l = [x, y] := by
  match l, h with
  | [x, y], _ => exact ⟨x, y, rfl⟩
theorem okWide_struct {P : Program} {w : World} {r : Reach} {base : Nat} {t : TypeId} {v : Value} {fs : Array Field} (ht : P.underlying t = some (.struct fs)) (h : Value.okWide P w r base t v) : ∃ l : List Value, v = .agg l.toArray := by
  simp only [Value.okWide, ht] at h
  obtain ⟨cs, rfl, _, _⟩ := h
  exact ⟨cs.toList, by simp⟩
theorem skolem_lt {α : Type} [Inhabited α] {n : Nat} {p : Nat → α → Prop} (h : ∀ i, i < n → ∃ x, p i x) : ∃ f : Nat → α, ∀ i, i < n → p i (f i) := by
  classical
  exact ⟨fun i => if hi : i < n then Classical.choose (h i hi) else default, fun i hi => by simp only [dif_pos hi]; exact Classical.choose_spec (h i hi)⟩

section
variable {H : Type} {enc : TypeId × Value → H} {P : Program} {w : World} {held : Bool}

/-- cells that read as some datum of a type, none of its parts too large -/
def Seen (enc : TypeId × Value → H) (P : Program) (w : World) (held : Bool) (t : TypeId) (cs : List Value) : Prop :=
  ∃ n d p, DataW.trod enc P w 0 (fun _ => true) held n t cs = some (d, p) ∧ ∀ x ∈ DataW.weights P t d, x ≤ reachBytes

theorem weights_all {e : TypeId} {l : List (DataW H)} {d : DataW H} (hd : d ∈ l) : ∀ x ∈ DataW.weights P e d, x ∈ DataW.weightsAll P e l := by
  induction l with
  | nil => cases hd
  | cons a r ih =>
    intro x hx
    rw [DataW.weightsAll]
    rcases List.mem_cons.1 hd with rfl | hr
    · exact List.mem_append_left _ hx
    · exact List.mem_append_right _ (ih hr x hx)
theorem seen_int {t : TypeId} {k : IntKind} {cs : List Value} (ht : P.underlying t = some (.int k)) (h : Seen enc P w held t cs) : ∃ a, cs = [.int k a] ∧ (Lit.int k a).wf = true := by
  obtain ⟨n, d, p, h, _⟩ := h
  cases n with
  | zero => simp [DataW.trod] at h
  | succ n =>
    unfold DataW.trod at h
    rw [ht] at h
    split at h <;> simp_all
theorem seen_bool {t : TypeId} {cs : List Value} (ht : P.underlying t = some .bool) (h : Seen enc P w held t cs) : ∃ b, cs = [.bool b] := by
  obtain ⟨n, d, p, h, _⟩ := h
  cases n with
  | zero => simp [DataW.trod] at h
  | succ n =>
    unfold DataW.trod at h
    rw [ht] at h
    split at h <;> simp_all
theorem seen_string {t : TypeId} {cs : List Value} (ht : P.underlying t = some .string) (h : Seen enc P w held t cs) : ∃ s : ByteArray, cs = [.string s] ∧ s.size ≤ reachBytes := by
  obtain ⟨n, d, p, h, hw⟩ := h
  cases n with
  | zero => simp [DataW.trod] at h
  | succ n =>
    unfold DataW.trod at h
    rw [ht] at h
    split at h <;> simp_all
    rename_i s
    obtain ⟨_, rfl, _⟩ := h
    simpa [DataW.weights] using hw
theorem seen_struct {t : TypeId} {fs : Array Field} {cs : List Value} (ht : P.underlying t = some (.struct fs)) (h : Seen enc P w held t cs) :
    cs.length = P.cellsOf t ∧ ∀ (i : Nat) (f : Field), fs[i]? = some f → Seen enc P w held f.type ((cs.drop f.offset).take (P.cellsOf f.type)) := by
  obtain ⟨n, d, p, h, hw⟩ := h
  obtain ⟨xs, m, rfl, hx, hl, hlen, hf⟩ := DataW.trod_struct ht h
  refine ⟨hl, fun i f hi => ?_⟩
  have hg := hf i f hi
  have hil : i < xs.length := by rw [hlen]; exact (Array.getElem?_eq_some_iff.1 hi).1
  rw [List.getElem?_eq_getElem hil] at hg
  injection hx with hd _
  subst hd
  refine ⟨m, xs[i].1, xs[i].2, hg, fun x hx => hw x ?_⟩
  rw [DataW.weights, ht]
  exact DataW.weights_mem_each (j := i) (t := f.type) (d := xs[i].1) (by rw [List.getElem?_map, Array.getElem?_toList, hi]; rfl) (by rw [List.getElem?_map, List.getElem?_eq_getElem hil]; rfl) x hx
theorem seen_slice {t e : TypeId} {cs : List Value} (ht : P.underlying t = some (.slice e)) (he : 0 < P.cellsOf e) (h : Seen enc P w held t cs) :
    ∃ A n c, cs = [.slice A n c] ∧ n ≤ c ∧ c ≤ maxLen ∧ c * P.bytesOf e ≤ reachBytes ∧
      (0 < n → ∃ ad, A = some ad ∧ ad.block < w.heap.size ∧ ∀ i, i < n → ∃ vs, vs.length = P.cellsOf e ∧ (∀ j, j < P.cellsOf e → w.cell? ((ad.add (i * P.cellsOf e)).add j) = vs[j]?) ∧ Seen enc P w held e vs) := by
  obtain ⟨n, d, p, h, hw⟩ := h
  rcases DataW.trod_slice ht h with ⟨rfl, _⟩ | ⟨a, len, cap, elems, rest, m, _, rfl, hx, _, hl, hc, hlen, hel, hre, _⟩
  · exact ⟨none, 0, 0, rfl, Nat.le_refl _, Nat.zero_le _, by simp, fun h => absurd h (by omega)⟩
  · injection hx with hd _
    subst hd
    have hr := (hre rfl).1
    have hall : ∀ i, i < len → ∃ vs, vs.length = P.cellsOf e ∧ (∀ j, j < P.cellsOf e → w.cell? ((a.add (i * P.cellsOf e)).add j) = vs[j]?) ∧ Seen enc P w held e vs ∧ a.block < w.heap.size := by
      intro i hi
      have hE := hel i hi
      have hil : i < elems.length := by omega
      rw [List.getElem?_eq_getElem hil] at hE
      simp only [Option.bind_eq_some_iff] at hE
      obtain ⟨vs, hvs, htr⟩ := hE
      have hcs := World.cells?_some hvs
      have hb := World.cells?_block hvs he
      rw [block_of_add] at hb
      refine ⟨vs, hcs.2.1, hcs.2.2, ⟨m, elems[i].1, elems[i].2, htr, fun x hx => hw x ?_⟩, hb⟩
      rw [DataW.weights, ht]
      exact List.mem_cons_of_mem _ (List.mem_append_left _ (weights_all (List.mem_map.2 ⟨_, List.getElem_mem hil, rfl⟩) x hx))
    refine ⟨some a, len, cap, rfl, hl, hc, ?_, fun h0 => ⟨a, rfl, ?_, fun i hi => ?_⟩⟩
    · have h9 := hw (((elems.map (·.1)).length + (rest.map (·.1)).length) * P.bytesOf e) (by rw [DataW.weights, ht]; exact List.mem_cons_self ..)
      rw [List.length_map, List.length_map, hlen, hr, Nat.add_sub_cancel' hl] at h9
      exact h9
    · obtain ⟨_, _, _, _, hb⟩ := hall 0 h0
      exact hb
    · obtain ⟨vs, h1, h2, h3, _⟩ := hall i hi
      exact ⟨vs, h1, h2, h3⟩
theorem seen_ints {t e : TypeId} {k : IntKind} {cs : List Value} (ht : P.underlying t = some (.slice e)) (he : P.underlying e = some (.int k)) (hc : P.cellsOf e = 1) (h : Seen enc P w held t cs) :
    ∃ (A : Option Addr) (n c : Nat) (xs : List Int), cs = [.slice A n c] ∧ n ≤ c ∧ c ≤ maxLen ∧ c * P.bytesOf e ≤ reachBytes ∧ Reads w w.heap.size 1 A n (xs.map (Value.int k)) ∧ ∀ x ∈ xs, (Lit.int k x).wf = true := by
  obtain ⟨A, n, c, rfl, h1, h2, h3, h4⟩ := seen_slice ht (by omega) h
  rcases Nat.eq_zero_or_pos n with rfl | hn
  · exact ⟨A, 0, c, [], rfl, h1, h2, h3, ⟨by simp, fun h => absurd h (by omega)⟩, by simp⟩
  · obtain ⟨ad, rfl, hb, hi⟩ := h4 hn
    have hv : ∀ i, i < n → ∃ a : Int, w.cell? (ad.add i) = some (.int k a) ∧ (Lit.int k a).wf = true := by
      intro i hlt
      obtain ⟨vs, hl, hcell, hs⟩ := hi i hlt
      obtain ⟨a, rfl, hw⟩ := seen_int he hs
      have := hcell 0 (by omega)
      rw [hc, Nat.mul_one, add_of_add, Nat.add_zero] at this
      exact ⟨a, this, hw⟩
    obtain ⟨f, hf⟩ := skolem_lt hv
    refine ⟨some ad, n, c, (List.range n).map f, rfl, h1, h2, h3, ⟨by simp, fun _ => ⟨ad, rfl, hb, fun j u hu => ?_⟩⟩, fun x hx => ?_⟩
    · have hj : j < n := by
        have := (List.getElem?_eq_some_iff.1 hu).1
        simpa using this
      have hu' : u = .int k (f j) := by simpa [hj] using hu.symm
      rw [(hf j hj).1, hu']
    · obtain ⟨j, hj, rfl⟩ := List.mem_map.1 hx
      exact (hf j (List.mem_range.1 hj)).2
end
end Go.Proofs.YtnkfjileaonemaaGreatDoor
namespace Go.Proofs.YtnkfjileaonemaaGreatDoor
set_option maxRecDepth 100000
open Go.RowKit

section
variable {H : Type} {enc : TypeId × Value → H} {P : Program} {w : World} {held : Bool}
theorem seen_strs {t e : TypeId} {cs : List Value} (ht : P.underlying t = some (.slice e)) (he : P.underlying e = some .string) (hc : P.cellsOf e = 1) (h : Seen enc P w held t cs) :
    ∃ (A : Option Addr) (n c : Nat) (xs : List ByteArray), cs = [.slice A n c] ∧ n ≤ c ∧ c ≤ maxLen ∧ c * P.bytesOf e ≤ reachBytes ∧ Reads w w.heap.size 1 A n (xs.map Value.string) ∧ ∀ x ∈ xs, x.size ≤ reachBytes := by
  obtain ⟨A, n, c, rfl, h1, h2, h3, h4⟩ := seen_slice ht (by omega) h
  rcases Nat.eq_zero_or_pos n with rfl | hn
  · exact ⟨A, 0, c, [], rfl, h1, h2, h3, ⟨by simp, fun h => absurd h (by omega)⟩, by simp⟩
  · obtain ⟨ad, rfl, hb, hi⟩ := h4 hn
    have hv : ∀ i, i < n → ∃ a : ByteArray, w.cell? (ad.add i) = some (.string a) ∧ a.size ≤ reachBytes := by
      intro i hlt
      obtain ⟨vs, hl, hcell, hs⟩ := hi i hlt
      obtain ⟨a, rfl, hw⟩ := seen_string he hs
      have := hcell 0 (by omega)
      rw [hc, Nat.mul_one, add_of_add, Nat.add_zero] at this
      exact ⟨a, this, hw⟩
    obtain ⟨f, hf⟩ := skolem_lt hv
    refine ⟨some ad, n, c, (List.range n).map f, rfl, h1, h2, h3, ⟨by simp, fun _ => ⟨ad, rfl, hb, fun j u hu => ?_⟩⟩, fun x hx => ?_⟩
    · have hj : j < n := by
        have := (List.getElem?_eq_some_iff.1 hu).1
        simpa using this
      have hu' : u = .string (f j) := by simpa [hj] using hu.symm
      rw [(hf j hj).1, hu']
    · obtain ⟨j, hj, rfl⟩ := List.mem_map.1 hx
      exact (hf j (List.mem_range.1 hj)).2
end
/-- what an argument of type []string is -/
theorem strs_arg {H : Type} {enc : TypeId × Value → H} {base : Nat} {v : Value} {w : World} (hv : Value.okWide Tryz.prog w .any base 27 v) (h : Seen enc Tryz.prog w true 27 v.cells.toList) :
    ∃ (A : Option Addr) (n c : Nat) (xs : List ByteArray), v = .slice A n c ∧ n ≤ c ∧ c * 16 ≤ 140737488351232 ∧ Reads w w.heap.size 1 A n (xs.map Value.string) ∧ ∀ x ∈ xs, x.size ≤ 140737488351232 := by
  obtain ⟨a, len, cap, rfl⟩ := WideShapes.okWide_slice Tryz.underlying27 hv
  obtain ⟨A, n, c, xs, hcs, h1, h2, h3, h4, h5⟩ := seen_strs Tryz.underlying27 Tryz.underlying9 (by kernel_rfl) h
  simp [Value.cells] at hcs
  obtain ⟨rfl, rfl, rfl⟩ := hcs
  rw [show Tryz.prog.bytesOf 9 = 16 by kernel_rfl] at h3
  exact ⟨_, _, _, xs, rfl, h1, h3, h4, h5⟩
end Go.Proofs.YtnkfjileaonemaaGreatDoor
