/-
  The plain law of TextWhole: the text of the codes of a list of runes is cut into just these.
-/
import Derived.Test.YtmbofpeedjlfhaaDoorCode
namespace Go.Proofs.YtmbofpeedjlfhaaDoor
set_option maxRecDepth 100000
open Go.RowKit Go.PlainAid

/-- what a number counts as -/
def fixR (x : Int) : Nat := if x < 0 ∨ 1114111 < x ∨ (55296 ≤ x ∧ x ≤ 57343) then 65533 else x.toNat
theorem fixR_rune (x : Int) : isRune (fixR x) := by unfold fixR isRune; split <;> omega
def bytesOf (rs : List Nat) : List Nat := rs.flatMap codeL
def told (p : Nat) : List Nat → List (Nat × Int)
  | [] => []
  | r :: rs => (p, (r : Int)) :: told (p + (codeL r).length) rs
theorem bytesOf_snoc (rs : List Nat) (r : Nat) : bytesOf (rs ++ [r]) = bytesOf rs ++ codeL r := by simp [bytesOf]
theorem bytesOf_len4 (rs : List Nat) : (bytesOf rs).length ≤ 4 * rs.length := by
  induction rs with
  | nil => simp [bytesOf]
  | cons r rs ih =>
    have := (codeL_len r).2
    rw [show bytesOf (r :: rs) = codeL r ++ bytesOf rs from rfl]
    simp only [List.length_append, List.length_cons]
    omega
theorem told_snoc (rs : List Nat) (r : Nat) : ∀ p, told p (rs ++ [r]) = told p rs ++ [(p + (bytesOf rs).length, (r : Int))] := by
  induction rs with
  | nil => intro p; simp [told, bytesOf]
  | cons q rs ih =>
    intro p
    rw [List.cons_append, told, ih, told, show bytesOf (q :: rs) = codeL q ++ bytesOf rs from rfl]
    simp [Nat.add_assoc]
theorem told_len (rs : List Nat) : ∀ p, (told p rs).length = rs.length := by
  induction rs with
  | nil => intro p; rfl
  | cons q rs ih => intro p; rw [told, List.length_cons, ih, List.length_cons]
/-- a text that is these bytes -/
def IsText (t : ByteArray) (l : List Nat) : Prop := t.size = l.length ∧ ∀ k, k < l.length → bn t k = l[k]?.getD 0
theorem cuts_told_at (t : ByteArray) (suf : List Nat) : ∀ (pre : List Nat), IsText t (bytesOf pre ++ bytesOf suf) → (∀ r ∈ suf, isRune r) → cutsAt t (bytesOf pre).length = told (bytesOf pre).length suf := by
  induction suf with
  | nil =>
    intro pre h _
    have h1 := h.1
    rw [cutsAt_ge _ _ (by rw [h1]; simp [bytesOf])]
    rfl
  | cons r suf ih =>
    intro pre h hr
    have hc : bytesOf (r :: suf) = codeL r ++ bytesOf suf := rfl
    obtain ⟨h1, h2⟩ := h
    rw [hc] at h1 h2
    have hl := (codeL_len r).1
    have hrr := hr r (by simp)
    have hm : Matches t (bytesOf pre).length r := by
      refine ⟨by rw [h1]; simp only [List.length_append]; omega, fun k hk => ?_⟩
      rw [h2 _ (by simp only [List.length_append]; omega), List.getElem?_append_right (by omega), Nat.add_sub_cancel_left, List.getElem?_append_left hk]
    have hd := decode_of t _ r hrr hm
    have hn := not_lost_of t _ r hrr hm
    have hR : cutR t (bytesOf pre).length = (r : Int) := by unfold cutR; rw [if_neg hn, hd]
    have hN : cutN t (bytesOf pre).length = (codeL r).length := by unfold cutN; rw [hd]
    rw [cutsAt_lt t _ (by rw [h1]; simp only [List.length_append]; omega), hR, hN, told]
    have := ih (pre ++ [r]) (by rw [bytesOf_snoc, List.append_assoc]; exact ⟨h1, h2⟩) (fun q hq => hr q (by simp [hq]))
    rw [bytesOf_snoc, List.length_append] at this
    rw [this]
theorem cuts_told (t : ByteArray) (rs : List Nat) (h : IsText t (bytesOf rs)) (hr : ∀ r ∈ rs, isRune r) : cuts t = told 0 rs := cuts_told_at t rs [] (by simpa [bytesOf] using h) hr
end Go.Proofs.YtmbofpeedjlfhaaDoor
