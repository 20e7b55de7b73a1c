/-
  The plain law of tokens: where a name, a figure, a literal ends, which sign is the longest, what begins at a place, how a text is cut. No program in sight.
-/
import Derived.Test.YtmbofpeedjlfhaaDoorBytesP
namespace Go.Proofs.YtmbofpeedjlfhaaDoor
set_option maxRecDepth 100000
open Go.RowKit Go.PlainAid
set_option linter.unusedVariables false

/-! ### names -/
def letR (r : Int) : Bool := (decide (65 ≤ r) && decide (r ≤ 90)) || (decide (97 ≤ r) && decide (r ≤ 122)) || decide (192 ≤ r)
def digR (r : Int) : Bool := decide (48 ≤ r) && decide (r ≤ 57)
def namR (r : Int) : Bool := letR r || digR r || decide (r = 95)
/-- where the row of a name's runes ends -/
def nameF (s : ByteArray) : Nat → Nat → Nat
  | 0, i => i
  | f + 1, i => if i < s.size then (if namR (cutR s i) = true then nameF s f (i + cutN s i) else i) else i
def nameE (s : ByteArray) (i : Nat) : Nat := nameF s (s.size - i) i
theorem nameF_fuel (s : ByteArray) : ∀ (f g i : Nat), s.size - i ≤ f → s.size - i ≤ g → nameF s f i = nameF s g i := by
  intro f
  induction f with
  | zero =>
    intro g i hf _
    cases g with
    | zero => rfl
    | succ g => rw [nameF, nameF, if_neg (by omega)]
  | succ f ih =>
    intro g i hf hg
    cases g with
    | zero => rw [nameF, nameF, if_neg (by omega)]
    | succ g =>
      rw [nameF, nameF]
      have := cutN_pos s i
      split
      · split
        · exact ih g (i + cutN s i) (by omega) (by omega)
        · rfl
      · rfl
theorem nameE_ge (s : ByteArray) (i : Nat) (h : s.size ≤ i) : nameE s i = i := by
  unfold nameE
  rw [nameF_fuel s _ 1 i (Nat.le_refl _) (by omega), nameF, if_neg (by omega)]
theorem nameE_step (s : ByteArray) (i : Nat) (h : i < s.size) (hn : namR (cutR s i) = true) : nameE s i = nameE s (i + cutN s i) := by
  have := cutN_pos s i
  unfold nameE
  rw [nameF_fuel s _ ((s.size - (i + cutN s i)) + 1 + (cutN s i - 1)) i (Nat.le_refl _) (by omega), show (s.size - (i + cutN s i)) + 1 + (cutN s i - 1) = (s.size - (i + cutN s i) + (cutN s i - 1)) + 1 by omega, nameF, if_pos h, if_pos hn]
  exact nameF_fuel s _ _ _ (by omega) (by omega)
theorem nameE_stop (s : ByteArray) (i : Nat) (h : namR (cutR s i) = false) : nameE s i = i := by
  unfold nameE
  rw [nameF_fuel s _ ((s.size - i) + 1) i (Nat.le_refl _) (by omega), nameF, if_neg (c := namR (cutR s i) = true) (by rw [h]; decide)]
  split <;> rfl
theorem nameF_bd (s : ByteArray) : ∀ (f i : Nat), i ≤ s.size → i ≤ nameF s f i ∧ nameF s f i ≤ s.size := by
  intro f
  induction f with
  | zero => intro i h; exact ⟨Nat.le_refl _, h⟩
  | succ f ih =>
    intro i h
    rw [nameF]
    split
    · rename_i hi
      split
      · have h1 := cutN_fits s i hi
        have := ih (i + cutN s i) h1
        omega
      · omega
    · omega
theorem nameE_bd (s : ByteArray) (i : Nat) (h : i ≤ s.size) : i ≤ nameE s i ∧ nameE s i ≤ s.size := nameF_bd s _ i h
theorem nameE_lt (s : ByteArray) (i : Nat) (h : i < s.size) (hn : namR (cutR s i) = true) : i < nameE s i := by
  rw [nameE_step s i h hn]
  have := cutN_pos s i
  have := (nameE_bd s (i + cutN s i) (cutN_fits s i h)).1
  omega
/-- over the cutting of what is left of a text: all runes ahead belong to the name, x does not -/
theorem nameE_cuts (s : ByteArray) (at_ : Nat) (ha : at_ ≤ s.size) : ∀ (pre : List (Nat × Int)) (p : Nat) (x : Nat × Int), (pre ++ [x]) <+: cutsAt (s.extract at_ s.size) p → (∀ y ∈ pre, namR y.2 = true) → namR x.2 = false → nameE s (at_ + p) = at_ + x.1 := by
  intro pre
  induction pre with
  | nil =>
    intro p x hp _ hx
    by_cases h : p < (s.extract at_ s.size).size
    · rw [cutsAt_lt _ p h] at hp
      obtain ⟨t, ht⟩ := hp
      simp only [List.nil_append, List.singleton_append, List.cons.injEq] at ht
      obtain ⟨rfl, _⟩ := ht
      simp only at hx
      rw [cutR_ext s at_ p ha] at hx
      exact nameE_stop s _ hx
    · rw [cutsAt_ge _ p (by omega)] at hp
      have := hp.length_le
      simp at this
  | cons y pre ih =>
    intro p x hp hall hx
    by_cases h : p < (s.extract at_ s.size).size
    · rw [cutsAt_lt _ p h] at hp
      rw [List.cons_append, List.cons_prefix_cons] at hp
      obtain ⟨rfl, hp⟩ := hp
      have h1 := hall _ (List.mem_cons_self ..)
      simp only at h1
      rw [cutR_ext s at_ p ha] at h1
      rw [size_ext] at h
      rw [nameE_step s (at_ + p) (by omega) h1, Nat.add_assoc, ← cutN_ext s at_ p ha]
      exact ih _ x hp (fun y hy => hall y (List.mem_cons_of_mem _ hy)) hx
    · rw [cutsAt_ge _ p (by omega)] at hp
      have := hp.length_le
      simp at this
theorem nameE_all (s : ByteArray) (at_ : Nat) (ha : at_ ≤ s.size) : ∀ (n p : Nat), (s.extract at_ s.size).size - p ≤ n → p ≤ (s.extract at_ s.size).size → (∀ y ∈ cutsAt (s.extract at_ s.size) p, namR y.2 = true) → nameE s (at_ + p) = s.size := by
  intro n
  induction n with
  | zero =>
    intro p h hp _
    rw [size_ext] at h hp
    rw [nameE_ge s _ (by omega)]
    omega
  | succ n ih =>
    intro p h hp hall
    by_cases hl : p < (s.extract at_ s.size).size
    · have h1 := hall (p, cutR (s.extract at_ s.size) p) (by rw [cutsAt_lt _ p hl]; exact List.mem_cons_self ..)
      have h2 := cutN_pos (s.extract at_ s.size) p
      have h3 := cutN_fits (s.extract at_ s.size) p hl
      simp only at h1
      rw [cutR_ext s at_ p ha] at h1
      have hl' := hl
      rw [size_ext] at hl'
      rw [nameE_step s (at_ + p) (by omega) h1, Nat.add_assoc, ← cutN_ext s at_ p ha]
      refine ih _ (by omega) h3 (fun y hy => hall y ?_)
      rw [cutsAt_lt _ p hl]
      exact List.mem_cons_of_mem _ hy
    · rw [size_ext] at hl hp
      rw [nameE_ge s _ (by omega)]
      omega

/-! ### figures -/
def figB (c : Nat) : Bool := (decide (48 ≤ c) && decide (c ≤ 57)) || (decide (65 ≤ c) && decide (c ≤ 90)) || (decide (97 ≤ c) && decide (c ≤ 122)) || decide (c = 95) || decide (c = 46)
def powB (hexa : Bool) (b : Nat) : Bool := (!hexa && (decide (b = 101) || decide (b = 69))) || (hexa && (decide (b = 112) || decide (b = 80)))
def hexB (s : ByteArray) (i : Nat) : Bool := decide (i + 1 < s.size) && decide (bn s i = 48) && (decide (bn s (i + 1) = 120) || decide (bn s (i + 1) = 88))
def figS (s : ByteArray) (hexa : Bool) (k : Nat) : Bool := figB (bn s k) || (powB hexa (bn s (k - 1)) && (decide (bn s k = 43) || decide (bn s k = 45)))
def figF (s : ByteArray) (hexa : Bool) : Nat → Nat → Nat
  | 0, k => k
  | f + 1, k => if k < s.size then (if figS s hexa k = true then figF s hexa f (k + 1) else k) else k
def figE (s : ByteArray) (i : Nat) : Nat := figF s (hexB s i) (s.size - (i + 1)) (i + 1)
theorem figF_bd (s : ByteArray) (hx : Bool) : ∀ (f k : Nat), k ≤ s.size → k ≤ figF s hx f k ∧ figF s hx f k ≤ s.size := by
  intro f
  induction f with
  | zero => intro i h; exact ⟨Nat.le_refl _, h⟩
  | succ f ih =>
    intro i h
    rw [figF]
    split
    · split
      · have := ih (i + 1) (by omega)
        omega
      · omega
    · omega
theorem figE_bd (s : ByteArray) (i : Nat) (h : i < s.size) : i < figE s i ∧ figE s i ≤ s.size := by
  have := figF_bd s (hexB s i) (s.size - (i + 1)) (i + 1) (by omega)
  unfold figE
  omega

/-! ### literals -/
def litF (s : ByteArray) (q : Nat) : Nat → Nat → Option Nat
  | 0, _ => none
  | f + 1, k => if k < s.size then (if bn s k = q then some (k + 1) else if bn s k = 92 then litF s q f (k + 2) else if bn s k = 10 then none else litF s q f (k + 1)) else none
def litE (s : ByteArray) (i : Nat) : Option Nat := litF s (bn s i) (s.size - (i + 1)) (i + 1)
theorem litF_fuel (s : ByteArray) (q : Nat) : ∀ (f g i : Nat), s.size - i ≤ f → s.size - i ≤ g → litF s q f i = litF s q g i := by
  intro f
  induction f with
  | zero =>
    intro g i hf _
    cases g with
    | zero => rfl
    | succ g => rw [litF, litF, if_neg (by omega)]
  | succ f ih =>
    intro g i hf hg
    cases g with
    | zero => rw [litF, litF, if_neg (by omega)]
    | succ g =>
      rw [litF, litF]
      split
      · split
        · rfl
        · split
          · exact ih g _ (by omega) (by omega)
          · split
            · rfl
            · exact ih g _ (by omega) (by omega)
      · rfl
theorem litF_bd (s : ByteArray) (q : Nat) : ∀ (f k e : Nat), litF s q f k = some e → k < e ∧ e ≤ s.size := by
  intro f
  induction f with
  | zero => intro k e h; simp [litF] at h
  | succ f ih =>
    intro k e h
    rw [litF] at h
    split at h
    · split at h
      · injection h with h
        omega
      · split at h
        · have := ih _ _ h
          omega
        · split at h
          · cases h
          · have := ih _ _ h
            omega
    · cases h
theorem litE_bd (s : ByteArray) (i e : Nat) (h : litE s i = some e) : i + 1 < e ∧ e ≤ s.size := litF_bd s _ _ _ _ h
/-- a literal at a place: its kind, where it ends or where its fault is, the error -/
def litN (s : ByteArray) (i : Nat) : Int × Int × Int :=
  let k : Int := if bn s i = 34 then 3 else 4
  match litE s i with
  | none => (k, i, 11)
  | some e => if bn s i = 34 then (if (bytesN (s.extract i e)).2.2 ≠ 0 then (k, i + (bytesN (s.extract i e)).2.1, (bytesN (s.extract i e)).2.2) else (k, e, 0))
    else (if (runeN (s.extract i e)).2.2 ≠ 0 then (k, i + (runeN (s.extract i e)).2.1, (runeN (s.extract i e)).2.2) else (k, e, 0))

/-! ### signs -/
def fitsAt (s : ByteArray) (i : Nat) (g : ByteArray) : Prop := i + g.size ≤ s.size ∧ s.extract i (i + g.size) = g
instance (s : ByteArray) (i : Nat) (g : ByteArray) : Decidable (fitsAt s i g) := inferInstanceAs (Decidable (_ ∧ _))
def bestS (s : ByteArray) (i : Nat) (best g : ByteArray) : ByteArray := if best.size < g.size ∧ fitsAt s i g then g else best
def signN (s : ByteArray) (i : Nat) (sg : List ByteArray) : ByteArray := sg.foldl (bestS s i) ⟨#[]⟩
theorem signN_take (s : ByteArray) (i : Nat) (sg : List ByteArray) (k : Nat) (g : ByteArray) (h : sg[k]? = some g) : signN s i (sg.take (k + 1)) = bestS s i (signN s i (sg.take k)) g := by
  unfold signN
  rw [List.take_add_one, h, List.foldl_append]
  rfl
theorem signN_fits (s : ByteArray) (i : Nat) (sg : List ByteArray) : 0 < (signN s i sg).size → fitsAt s i (signN s i sg) := by
  unfold signN
  have key : ∀ (l : List ByteArray) (b : ByteArray), (0 < b.size → fitsAt s i b) → 0 < (l.foldl (bestS s i) b).size → fitsAt s i (l.foldl (bestS s i) b) := by
    intro l
    induction l with
    | nil => intro b hb h; exact hb h
    | cons g l ih =>
      intro b hb h
      rw [List.foldl_cons] at h ⊢
      refine ih _ (fun h1 => ?_) h
      unfold bestS at h1 ⊢
      split
      · rename_i h2
        exact h2.2
      · rename_i h2
        rw [if_neg h2] at h1
        exact hb h1
  exact key sg _ (fun h => by exact absurd h (by decide))

/-! ### the token at a place, and the cutting -/
/-- kind, end (or the fault's place), error -/
def tokN (s : ByteArray) (sg : List ByteArray) (i : Nat) : Int × Int × Int :=
  if bn s i = 10 then (6, i + 1, 0)
  else if letR (cutR s i) = true ∨ cutR s i = 95 then (1, nameE s i, 0)
  else if 48 ≤ bn s i ∧ bn s i ≤ 57 then (2, figE s i, 0)
  else if bn s i = 34 ∨ bn s i = 39 then litN s i
  else if 0 < (signN s i sg).size then (5, i + (signN s i sg).size, 0)
  else if cutR s i < 0 then (0, i, 13) else (0, i, 10)
/-- where the line with place i ends -/
def lineF (s : ByteArray) : Nat → Nat → Nat
  | 0, i => i
  | f + 1, i => if i < s.size then (if bn s i = 10 then i else lineF s f (i + 1)) else i
def lineE (s : ByteArray) (i : Nat) : Nat := lineF s (s.size - i) i
theorem lineF_fuel (s : ByteArray) : ∀ (f g i : Nat), s.size - i ≤ f → s.size - i ≤ g → lineF s f i = lineF s g i := by
  intro f
  induction f with
  | zero =>
    intro g i hf _
    cases g with
    | zero => rfl
    | succ g => rw [lineF, lineF, if_neg (by omega)]
  | succ f ih =>
    intro g i hf hg
    cases g with
    | zero => rw [lineF, lineF, if_neg (by omega)]
    | succ g =>
      rw [lineF, lineF]
      split
      · split
        · rfl
        · exact ih g _ (by omega) (by omega)
      · rfl
theorem lineF_bd (s : ByteArray) : ∀ (f i : Nat), i ≤ s.size → i ≤ lineF s f i ∧ lineF s f i ≤ s.size := by
  intro f
  induction f with
  | zero => intro i h; exact ⟨Nat.le_refl _, h⟩
  | succ f ih =>
    intro i h
    rw [lineF]
    split
    · split
      · omega
      · have := ih (i + 1) (by omega)
        omega
    · omega
/-- a token: its kind, its place, its end -/
abbrev Tk := Int × Nat × Nat
def addTk (l : List Tk) (x : Option (List Tk) × Int × Int) : Option (List Tk) × Int × Int := (x.1.map (l ++ ·), x.2.1, x.2.2)
theorem addTk_nil (x : Option (List Tk) × Int × Int) : addTk [] x = x := by
  obtain ⟨o, a, e⟩ := x
  cases o <;> rfl
theorem addTk_add (l m : List Tk) (x : Option (List Tk) × Int × Int) : addTk l (addTk m x) = addTk (l ++ m) x := by
  obtain ⟨o, a, e⟩ := x
  cases o <;> simp [addTk]
def toksF (s : ByteArray) (sg : List ByteArray) : Nat → Nat → Option (List Tk) × Int × Int
  | 0, _ => (some [], 0, 0)
  | f + 1, i => if i < s.size then
      (if bn s i = 9 ∨ bn s i = 13 ∨ bn s i = 32 then toksF s sg f (i + 1)
       else if bn s i = 35 then toksF s sg f (lineE s i)
       else if (tokN s sg i).2.2 ≠ 0 then (none, (tokN s sg i).2.1, (tokN s sg i).2.2)
       else addTk [((tokN s sg i).1, i, (tokN s sg i).2.1.toNat)] (toksF s sg f (tokN s sg i).2.1.toNat))
    else (some [], 0, 0)
theorem lineE_lt (s : ByteArray) (i : Nat) (h : i < s.size) (h35 : bn s i = 35) : i < lineE s i ∧ lineE s i ≤ s.size := by
  unfold lineE
  rw [lineF_fuel s _ ((s.size - (i + 1)) + 1) i (Nat.le_refl _) (by omega), lineF, if_pos h, if_neg (by omega)]
  have := lineF_bd s (s.size - (i + 1)) (i + 1) (by omega)
  omega
/-- a token that is told has bytes, and ends within its text -/
theorem tokN_end (s : ByteArray) (sg : List ByteArray) (i : Nat) (h : i < s.size) (he : (tokN s sg i).2.2 = 0) : (i : Int) < (tokN s sg i).2.1 ∧ (tokN s sg i).2.1 ≤ (s.size : Int) := by
  unfold tokN at he ⊢
  split
  · simp only; omega
  split
  · rename_i h1
    have hn : namR (cutR s i) = true := by
      unfold namR
      rcases h1 with h1 | h1
      · rw [h1]; rfl
      · rw [decide_eq_true h1]; simp
    have h2 := nameE_lt s i h hn
    have h3 := nameE_bd s i (by omega)
    simp only
    omega
  split
  · have := figE_bd s i h
    simp only
    omega
  split
  · rename_i h10 hn hd hq
    rw [if_neg h10, if_neg hn, if_neg hd, if_pos hq] at he
    unfold litN at he ⊢
    cases hl : litE s i with
    | none => rw [hl] at he; simp at he
    | some e =>
      have hb := litE_bd s i e hl
      rw [hl] at he
      simp only at he ⊢
      split
      · rename_i h34
        rw [if_pos h34] at he
        split
        · rename_i h5
          rw [if_pos h5] at he
          exact absurd he h5
        · simp only; omega
      · rename_i h34
        rw [if_neg h34] at he
        split
        · rename_i h5
          rw [if_pos h5] at he
          exact absurd he h5
        · simp only; omega
  split
  · rename_i h5
    have := (signN_fits s i sg h5).1
    simp only
    omega
  rename_i h10 hn hd hq hs
  rw [if_neg h10, if_neg hn, if_neg hd, if_neg hq, if_neg hs] at he
  split at he <;> simp at he
theorem toksF_fuel (s : ByteArray) (sg : List ByteArray) : ∀ (f g i : Nat), s.size - i ≤ f → s.size - i ≤ g → toksF s sg f i = toksF s sg g i := by
  intro f
  induction f with
  | zero =>
    intro g i hf _
    cases g with
    | zero => rfl
    | succ g => rw [toksF, toksF, if_neg (by omega)]
  | succ f ih =>
    intro g i hf hg
    cases g with
    | zero => rw [toksF, toksF, if_neg (by omega)]
    | succ g =>
      rw [toksF, toksF]
      split
      · rename_i hi
        split
        · exact ih g _ (by omega) (by omega)
        · split
          · rename_i h35
            have := lineE_lt s i hi h35
            exact ih g _ (by omega) (by omega)
          · split
            · rfl
            · rename_i he
              have := tokN_end s sg i hi (by omega)
              rw [ih g _ (by omega) (by omega)]
      · rfl
def toksAt (s : ByteArray) (sg : List ByteArray) (i : Nat) : Option (List Tk) × Int × Int := toksF s sg (s.size - i) i
theorem toksAt_ge (s : ByteArray) (sg : List ByteArray) (i : Nat) (h : s.size ≤ i) : toksAt s sg i = (some [], 0, 0) := by
  unfold toksAt
  rw [toksF_fuel s sg _ 1 i (Nat.le_refl _) (by omega), toksF, if_neg (by omega)]
theorem toksAt_blank (s : ByteArray) (sg : List ByteArray) (i : Nat) (h : i < s.size) (hb : bn s i = 9 ∨ bn s i = 13 ∨ bn s i = 32) : toksAt s sg i = toksAt s sg (i + 1) := by
  unfold toksAt
  rw [toksF_fuel s sg _ ((s.size - (i + 1)) + 1) i (Nat.le_refl _) (by omega), toksF, if_pos h, if_pos hb]
theorem toksAt_note (s : ByteArray) (sg : List ByteArray) (i : Nat) (h : i < s.size) (hb : bn s i = 35) : toksAt s sg i = toksAt s sg (lineE s i) := by
  have := lineE_lt s i h hb
  unfold toksAt
  rw [toksF_fuel s sg _ ((s.size - (i + 1)) + 1) i (Nat.le_refl _) (by omega), toksF, if_pos h, if_neg (by omega), if_pos hb]
  exact toksF_fuel s sg _ _ _ (by omega) (by omega)
theorem toksAt_bad (s : ByteArray) (sg : List ByteArray) (i : Nat) (h : i < s.size) (hb : ¬ (bn s i = 9 ∨ bn s i = 13 ∨ bn s i = 32)) (h35 : bn s i ≠ 35) (he : (tokN s sg i).2.2 ≠ 0) : toksAt s sg i = (none, (tokN s sg i).2.1, (tokN s sg i).2.2) := by
  unfold toksAt
  rw [toksF_fuel s sg _ ((s.size - (i + 1)) + 1) i (Nat.le_refl _) (by omega), toksF, if_pos h, if_neg hb, if_neg h35, if_pos he]
theorem toksAt_tok (s : ByteArray) (sg : List ByteArray) (i e : Nat) (k : Int) (h : i < s.size) (hb : ¬ (bn s i = 9 ∨ bn s i = 13 ∨ bn s i = 32)) (h35 : bn s i ≠ 35) (he : tokN s sg i = (k, (e : Int), 0)) : toksAt s sg i = addTk [(k, i, e)] (toksAt s sg e) := by
  have h1 := tokN_end s sg i h (by rw [he])
  rw [he] at h1
  simp only at h1
  unfold toksAt
  rw [toksF_fuel s sg _ ((s.size - (i + 1)) + 1) i (Nat.le_refl _) (by omega), toksF, if_pos h, if_neg hb, if_neg h35, he, if_neg (by simp)]
  simp only [Int.toNat_natCast]
  rw [toksF_fuel s sg _ (s.size - e) e (by omega) (Nat.le_refl _)]
/-- the signs that may be -/
def signC (c : Nat) : Bool := decide (32 < c) && decide (c < 127) && !(decide (48 ≤ c) && decide (c ≤ 57)) && !((decide (65 ≤ c) && decide (c ≤ 90)) || (decide (97 ≤ c) && decide (c ≤ 122))) && !(decide (c = 34) || decide (c = 35) || decide (c = 39) || decide (c = 92) || decide (c = 95) || decide (c = 96))
def signOk (g : ByteArray) : Bool := decide (1 ≤ g.size) && decide (g.size ≤ 3) && g.data.toList.all (fun b => signC b.toNat)
def memB (l : List ByteArray) (g : ByteArray) : Bool := l.any (fun x => x.data.toList == g.data.toList)
theorem memB_iff (l : List ByteArray) (g : ByteArray) : memB l g = true ↔ g ∈ l := by
  unfold memB
  rw [List.any_eq_true]
  constructor
  · rintro ⟨x, hx, h⟩
    have : x = g := ByteArray.ext (Array.toList_inj.1 (eq_of_beq h))
    exact this ▸ hx
  · intro h
    exact ⟨g, h, by simp⟩
def signAtOk (sg : List ByteArray) (k : Nat) : Bool := signOk (sg.getD k ⟨#[]⟩) && !(memB (sg.take k) (sg.getD k ⟨#[]⟩))
def signsOk (sg : List ByteArray) : Bool := decide (sg.length ≤ 64) && (List.range sg.length).all (signAtOk sg)
theorem signsOk_bad (sg : List ByteArray) (k : Nat) (hk : k < sg.length) (h : signAtOk sg k = false) : signsOk sg = false := by
  unfold signsOk
  rw [Bool.and_eq_false_iff]
  right
  rw [Bool.eq_false_iff]
  intro ha
  have := List.all_eq_true.1 ha k (List.mem_range.2 hk)
  rw [h] at this
  cases this
theorem signsOk_good (sg : List ByteArray) (hl : sg.length ≤ 64) (h : ∀ k, k < sg.length → signAtOk sg k = true) : signsOk sg = true := by
  unfold signsOk
  rw [decide_eq_true hl, Bool.true_and]
  exact List.all_eq_true.2 fun k hk => h k (List.mem_range.1 hk)
theorem signsOk_long (sg : List ByteArray) (hl : 64 < sg.length) : signsOk sg = false := by
  unfold signsOk
  rw [decide_eq_false (by omega), Bool.false_and]
def toksN (s : ByteArray) (sg : List ByteArray) : Option (List Tk) × Int × Int :=
  if signsOk sg = false then (none, 0, 14) else if 524288 < s.size then (none, 524288, 15) else toksAt s sg 0
end Go.Proofs.YtmbofpeedjlfhaaDoor
