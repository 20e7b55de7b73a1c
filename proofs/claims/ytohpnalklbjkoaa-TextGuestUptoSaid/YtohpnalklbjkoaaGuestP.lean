/-
  The plain law of text.Guest: what was told is told of itself; plain bytes are told as they are.
-/
import Derived.Test.YtohpnalklbjkoaaGuest
import Derived.Test.YtohpnalklbjkoaaWhole
import Derived.Test.YtohpnalklbjkoaaBackP
namespace Go.Proofs.Ytohpnalklbjkoaa
open Go.RowKit Go.PlainAid

/-- the numbers of what is told -/
def guestR (x : Nat × Int) : Nat := if printedZ x.2 then x.2.toNat else 63
theorem guestR_rune (S : ByteArray) (x : Nat × Int) (h : x ∈ cuts S) : isRune (guestR x) ∧ printedZ (guestR x : Int) = true ∧ guestB x = (codeL (guestR x)).map (fun (y : Nat) => (y : Int)) := by
  obtain ⟨h1, h2⟩ := cuts_mem S x h
  unfold guestR guestB
  by_cases hp : printedZ x.2 = true
  · rw [if_pos hp, if_pos hp]
    have hge : 10 ≤ x.2 := by
      unfold printedZ at hp
      have := of_decide_eq_true hp
      omega
    have hl : ¬ lost S x.1 := fun hl => by
      rw [h2] at hge
      unfold cutR at hge
      rw [if_pos hl] at hge
      omega
    have e : x.2 = ((Utf8.decode S x.1).1 : Int) := by rw [h2]; unfold cutR; rw [if_neg hl]
    have hr := (cut_code S x.1 h1 hl).1
    have e2 : x.2.toNat = (Utf8.decode S x.1).1 := by rw [e, Int.toNat_natCast]
    rw [e2]
    refine ⟨hr, by rw [← e]; exact hp, ?_⟩
    rw [e]
    exact codeZ _ hr
  · rw [if_neg hp, if_neg hp]
    exact ⟨by unfold isRune; omega, by decide, rfl⟩
theorem flat_code {l : List (Nat × Int)} (h : ∀ x ∈ l, guestB x = (codeL (guestR x)).map (fun (y : Nat) => (y : Int))) : l.flatMap guestB = (bytesOf (l.map guestR)).map (fun (y : Nat) => (y : Int)) := by
  induction l with
  | nil => rfl
  | cons x l ih =>
    rw [List.flatMap_cons, ih (fun y hy => h y (by simp [hy])), h x (by simp)]
    simp [bytesOf]
theorem told_guest (rs : List Nat) (hr : ∀ r ∈ rs, isRune r) (hp : ∀ r ∈ rs, printedZ (r : Int) = true) : ∀ p, (told p rs).flatMap guestB = (bytesOf rs).map (fun (y : Nat) => (y : Int)) := by
  induction rs with
  | nil => intro p; rfl
  | cons r rs ih =>
    intro p
    rw [told, List.flatMap_cons, ih (fun y hy => hr y (by simp [hy])) (fun y hy => hp y (by simp [hy]))]
    have : guestB (p, (r : Int)) = (codeL r).map (fun (y : Nat) => (y : Int)) := by
      unfold guestB
      rw [if_pos (hp r (by simp))]
      exact codeZ r (hr r (by simp))
    rw [this]
    simp [bytesOf]
theorem strOf_text (l : List Nat) (h : ∀ x ∈ l, x < 256) : IsText (strOfNums (l.map (fun (y : Nat) => (y : Int)))) l := by
  have hh := strOf_has (l.map (fun (y : Nat) => (y : Int))) (fun x hx => by
    obtain ⟨y, hy, rfl⟩ := List.mem_map.1 hx
    have := h y hy
    unfold isByte
    omega)
  refine ⟨by rw [strOfNums_size, List.length_map], fun k hk => ?_⟩
  have := hh.2 k (by rw [List.length_map]; exact hk)
  rw [Nat.zero_add, List.getElem?_map, List.getElem?_eq_getElem hk] at this
  rw [List.getElem?_eq_getElem hk, Option.getD_some]
  simp at this
  omega
theorem codes_lt (rs : List Nat) (hr : ∀ r ∈ rs, isRune r) : ∀ x ∈ bytesOf rs, x < 256 := by
  intro x hx
  obtain ⟨r, hr1, hx1⟩ := List.mem_flatMap.1 hx
  exact codeL_lt r (hr r hr1) x hx1
/-- a text of codes of runes that may be told is told as it is -/
theorem guest_codes (rs : List Nat) (hr : ∀ r ∈ rs, isRune r) (hp : ∀ r ∈ rs, printedZ (r : Int) = true) : guestL (strOfNums ((bytesOf rs).map (fun (y : Nat) => (y : Int)))) = (bytesOf rs).map (fun (y : Nat) => (y : Int)) := by
  have ht := strOf_text (bytesOf rs) (codes_lt rs hr)
  unfold guestL
  rw [cuts_told _ rs ht hr]
  exact told_guest rs hr hp 0
theorem guest_is (S : ByteArray) : guestL S = (bytesOf ((cuts S).map guestR)).map (fun (y : Nat) => (y : Int)) := flat_code (fun x hx => (guestR_rune S x hx).2.2)
theorem guest_again (S : ByteArray) : guestL (strOfNums (guestL S)) = guestL S := by
  rw [guest_is S]
  refine guest_codes _ ?_ ?_
  · intro r hr
    obtain ⟨x, hx, rfl⟩ := List.mem_map.1 hr
    exact (guestR_rune S x hx).1
  · intro r hr
    obtain ⟨x, hx, rfl⟩ := List.mem_map.1 hr
    exact (guestR_rune S x hx).2.1
theorem upTo_self (l : List Int) (h : ∀ x ∈ l, x ≠ 0) : upTo l = l := by
  unfold upTo
  induction l with
  | nil => rfl
  | cons x l ih => rw [List.takeWhile_cons, if_pos (by simpa using h x (by simp)), ih (fun y hy => h y (by simp [hy]))]
theorem encZ_print (r : Int) (hp : printedZ r = true) : ∀ x ∈ Lib.encodeRuneZ r, (32 ≤ x ∨ x = 10) ∧ x ≠ 127 := by
  have hq := of_decide_eq_true hp
  intro x hx
  unfold Lib.encodeRuneZ at hx
  repeat' split at hx
  all_goals
    simp only [List.mem_cons, List.not_mem_nil, or_false] at hx
    omega
theorem guest_print (S : ByteArray) : ∀ x ∈ guestL S, (32 ≤ x ∨ x = 10) ∧ x ≠ 127 := by
  intro x hx
  obtain ⟨c, _, hx⟩ := List.mem_flatMap.1 hx
  unfold guestB at hx
  split at hx
  · exact encZ_print _ (by assumption) x hx
  · rw [List.mem_singleton.1 hx]; omega
theorem guest_twice (S : ByteArray) : guestL (strOfNums (upTo (guestL S))) = guestL S := by
  rw [upTo_self _ (fun x hx => by have := guest_print S x hx; omega)]
  exact guest_again S
theorem plain_codes (l : List Int) (h : ∀ x ∈ l, 32 ≤ x ∧ x ≤ 126) : l = (bytesOf (l.map Int.toNat)).map (fun (y : Nat) => (y : Int)) := by
  induction l with
  | nil => rfl
  | cons x l ih =>
    have h1 := h x (by simp)
    have e : codeL x.toNat = [x.toNat] := by unfold codeL; rw [if_pos (by omega)]
    have e2 : ((x.toNat : Nat) : Int) = x := Int.toNat_of_nonneg (by omega)
    have e3 : bytesOf ((x :: l).map Int.toNat) = x.toNat :: bytesOf (l.map Int.toNat) := by
      show codeL x.toNat ++ bytesOf (l.map Int.toNat) = _
      rw [e]; rfl
    rw [e3, List.map_cons, e2, ← ih (fun y hy => h y (by simp [hy]))]
theorem guest_plain (l : List Int) (h : ∀ x ∈ l, 32 ≤ x ∧ x ≤ 126) : guestL (strOfNums l) = l := by
  have e := plain_codes l h
  have := guest_codes (l.map Int.toNat) (fun r hr => by
    obtain ⟨x, hx, rfl⟩ := List.mem_map.1 hr
    have := h x hx
    unfold isRune
    omega) (fun r hr => by
    obtain ⟨x, hx, rfl⟩ := List.mem_map.1 hr
    have := h x hx
    unfold printedZ
    apply decide_eq_true
    omega)
  rw [← e] at this
  exact this
theorem upTo_ahead (l m : List Int) (h : ∀ x ∈ l, x ≠ 0) : upTo (l ++ 0 :: m) = l := by
  unfold upTo
  induction l with
  | nil => rw [List.nil_append, List.takeWhile_cons]; rfl
  | cons x l ih => rw [List.cons_append, List.takeWhile_cons, if_pos (by simpa using h x (by simp)), ih (fun y hy => h y (by simp [hy]))]
end Go.Proofs.Ytohpnalklbjkoaa
