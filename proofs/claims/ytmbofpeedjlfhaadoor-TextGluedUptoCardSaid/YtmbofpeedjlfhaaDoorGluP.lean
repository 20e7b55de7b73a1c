/-
  The plain law of Glue; the walk of text.Glue.
-/
import Derived.Test.YtmbofpeedjlfhaaDoorApK
import Derived.Test.YtmbofpeedjlfhaaDoorSeeS
import Derived.Test.YtmbofpeedjlfhaaDoorShowT
namespace Go.Proofs.YtmbofpeedjlfhaaDoor
open Go.RowKit Go.PlainAid Go.BigFrame
set_option linter.unusedVariables false
set_option maxRecDepth 100000

def tokAt (tk : List TokV) (k : Nat) : TokV := tk[k]?.getD (0, 0, ⟨#[]⟩)
/-- is the token's text cut into just this token? -/
def goodB (sg : List ByteArray) (t : TokV) : Bool := match (toksN t.2.2 sg).1 with
  | some [x] => decide (x.1 = t.1) && ((t.2.2.extract x.2.1 x.2.2).data.toList == t.2.2.data.toList)
  | _ => false
def sepB (tk : List TokV) (k : Nat) : Bool := decide (0 < k) && decide ((tokAt tk k).1 ≠ 6) && decide ((tokAt tk (k - 1)).1 ≠ 6)
def glueB (tk : List TokV) (k : Nat) : List UInt8 := (if sepB tk k = true then [32] else []) ++ (tokAt tk k).2.2.data.toList
def glueL (tk : List TokV) : Nat → List UInt8
  | 0 => []
  | k + 1 => glueL tk k ++ glueB tk k
def goodTo (sg : List ByteArray) (tk : List TokV) (k : Nat) : Prop := ∀ j, j < k → goodB sg (tokAt tk j) = true
def glueN (sg : List ByteArray) (tk : List TokV) : ByteArray × Int :=
  if signsOk sg = false then (⟨#[]⟩, 14) else if (List.range tk.length).all (fun k => goodB sg (tokAt tk k)) = false then (⟨#[]⟩, 17)
  else if 524288 < (glueL tk tk.length).length then (⟨#[]⟩, 15) else (⟨(glueL tk tk.length).toArray⟩, 0)
theorem glueN_signs (sg : List ByteArray) (tk : List TokV) (h : signsOk sg = false) : glueN sg tk = (⟨#[]⟩, 14) := by unfold glueN; rw [if_pos h]
theorem glueN_bad (sg : List ByteArray) (tk : List TokV) (h : signsOk sg = true) (k : Nat) (hk : k < tk.length) (hb : goodB sg (tokAt tk k) = false) : glueN sg tk = (⟨#[]⟩, 17) := by
  unfold glueN
  rw [if_neg (by rw [h]; decide), if_pos]
  rw [Bool.eq_false_iff]
  intro ha
  have := List.all_eq_true.1 ha k (List.mem_range.2 hk)
  rw [hb] at this
  cases this
theorem glueN_good (sg : List ByteArray) (tk : List TokV) (h : signsOk sg = true) (hg : goodTo sg tk tk.length) : glueN sg tk = if 524288 < (glueL tk tk.length).length then (⟨#[]⟩, 15) else (⟨(glueL tk tk.length).toArray⟩, 0) := by
  unfold glueN
  rw [if_neg (by rw [h]; decide), if_neg]
  rw [Bool.not_eq_false]
  exact List.all_eq_true.2 fun k hk => hg k (List.mem_range.1 hk)
theorem goodTo_succ {sg : List ByteArray} {tk : List TokV} {k : Nat} (h : goodTo sg tk k) (hk : goodB sg (tokAt tk k) = true) : goodTo sg tk (k + 1) := fun j hj => by
  rcases Nat.lt_or_ge j k with h1 | h1
  · exact h j h1
  · obtain rfl : j = k := by omega
    exact hk
/-- what a text's cutting says of its token -/
theorem good_or (sg : List ByteArray) (t : TokV) :
    (goodB sg t = true ∧ ∃ x, toksN t.2.2 sg = (some [x], 0, 0) ∧ x.1 = t.1 ∧ t.2.2.extract x.2.1 x.2.2 = t.2.2 ∧ t.2.2.size ≤ 524288) ∨
    (goodB sg t = false ∧ ((∃ p er, toksN t.2.2 sg = (none, p, er) ∧ er ≠ 0) ∨ (∃ l, toksN t.2.2 sg = (some l, 0, 0) ∧ l.length ≠ 1) ∨ (∃ x, toksN t.2.2 sg = (some [x], 0, 0) ∧ x.1 ≠ t.1) ∨ (∃ x, toksN t.2.2 sg = (some [x], 0, 0) ∧ x.1 = t.1 ∧ t.2.2.extract x.2.1 x.2.2 ≠ t.2.2))) := by
  unfold goodB
  rcases toksN_or t.2.2 sg with ⟨l, hl, _, hs⟩ | ⟨p, er, hl, her, _⟩
  · rw [hl]
    match l with
    | [] => exact .inr ⟨rfl, .inr (.inl ⟨[], rfl, by simp⟩)⟩
    | [x] =>
      simp only
      by_cases h1 : x.1 = t.1
      · by_cases h2 : t.2.2.extract x.2.1 x.2.2 = t.2.2
        · exact .inl ⟨by rw [h2, decide_eq_true h1]; simp, x, rfl, h1, h2, hs⟩
        · refine .inr ⟨?_, .inr (.inr (.inr ⟨x, rfl, h1, h2⟩))⟩
          have : ((t.2.2.extract x.2.1 x.2.2).data.toList == t.2.2.data.toList) = false := by
            rw [beq_eq_false_iff_ne]
            exact fun h => h2 (ByteArray.ext (Array.toList_inj.1 h))
          rw [this, Bool.and_false]
      · exact .inr ⟨by rw [decide_eq_false h1]; rfl, .inr (.inr (.inl ⟨x, rfl, h1⟩))⟩
    | x :: y :: r => exact .inr ⟨rfl, .inr (.inl ⟨_, rfl, by simp⟩)⟩
  · rw [hl]
    exact .inr ⟨rfl, .inl ⟨p, er, rfl, her⟩⟩
theorem glueL_mono (tk : List TokV) : ∀ (d k : Nat), (glueL tk k).length ≤ (glueL tk (k + d)).length := by
  intro d
  induction d with
  | zero => intro k; exact Nat.le_refl _
  | succ d ih =>
    intro k
    rw [← Nat.add_assoc, glueL, List.length_append]
    have := ih k
    omega
theorem glueB_len (tk : List TokV) (k m : Nat) (h : (tokAt tk k).2.2.size ≤ m) : (glueB tk k).length ≤ m + 1 := by
  unfold glueB
  rw [List.length_append]
  have : (tokAt tk k).2.2.data.toList.length = (tokAt tk k).2.2.size := rfl
  rw [this]
  split <;> simp <;> omega
theorem builder_below {T e : TypeId} {B b : Nat} {bs : List Value} {w w' : World} (h : Lib.IsBuilderF T e B b bs w) (hb : Below w.heap.size w w') : Lib.IsBuilderF T e B b bs w' := by
  have key : ∀ p, Lib.BuilderAtF T e B b p bs w → Lib.BuilderAtF T e B b p bs w' := by
    rintro p ⟨hB, v, hbk, hown, hne⟩
    have k1 : ∀ k o, w.heap[k]? = some o → w'.heap[k]? = some o := fun k o hk => (hb.block k (Array.getElem?_eq_some_iff.1 hk).1).trans hk
    refine ⟨hB, v, k1 _ _ hbk, ⟨hown.1, ?_⟩, hne⟩
    rcases hown.2 with h0 | ⟨g, cap, cur, fz, h1, h2, h3, h4⟩
    · exact .inl h0
    · exact .inr ⟨g, cap, cur, fz, h1, h2, k1 _ _ h3, h4⟩
  rcases h with h | h
  · exact .inl (key _ h)
  · exact .inr (key _ h)
theorem others_blk {e : TypeId} {b g : Nat} {W W' : World} {t : TypeId} {cs : Array Value} (h : Lib.OthersKept e (some b) W W') (hB : Blk W g t cs) (hg : g ≠ b) (ht : t ≠ e) : Blk W' g t cs :=
  h g _ hB (fun e => hg (by injection e)) (fun c fz he => by injection he with _ h2; exact ht h2)
/-- a token's cells in memory -/
theorem tok_cells {w : World} {B n : Nat} {A : Option Addr} {tk : List TokV} (hr : Reads w B 3 A n (tCells tk)) (k : Nat) (hk : k < n) :
    ∃ ad, A = some ad ∧ (ad.add (k * 3)).block < B ∧ w.cell? (ad.add (k * 3)) = some (.int .u8 (tokAt tk k).1) ∧ w.cell? ⟨(ad.add (k * 3)).block, (ad.add (k * 3)).off + 1, none⟩ = some (.int .i64 (tokAt tk k).2.1) ∧ w.cell? ⟨(ad.add (k * 3)).block, (ad.add (k * 3)).off + 2, none⟩ = some (.string (tokAt tk k).2.2) := by
  obtain ⟨ad, rfl, hb, hc⟩ := hr.2 (by omega)
  have hl : tk.length = n := by have := hr.1; rw [tCells_len] at this; omega
  obtain ⟨t0, t1, t2⟩ := tCells_get tk k (tokAt tk k) (by unfold tokAt; rw [List.getElem?_eq_getElem (by omega)]; rfl)
  have key : ∀ i, 0 < i → ad.add (k * 3 + i) = ⟨(ad.add (k * 3)).block, (ad.add (k * 3)).off + i, none⟩ := fun i hi => by
    rw [← add_of_add]
    generalize ad.add (k * 3) = p
    unfold Addr.add
    rw [if_neg (by omega)]
  refine ⟨ad, rfl, by rw [block_of_add]; exact hb, hc _ _ t0, ?_, ?_⟩
  · rw [← key 1 (by omega)]; exact hc _ _ t1
  · rw [← key 2 (by omega)]; exact hc _ _ t2
end Go.Proofs.YtmbofpeedjlfhaaDoor
