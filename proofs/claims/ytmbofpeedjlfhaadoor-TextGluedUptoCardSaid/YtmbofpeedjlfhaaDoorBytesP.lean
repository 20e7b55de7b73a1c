/-
  What a literal in quotation marks stands for: plain law.
-/
import Derived.Lib.RuneBytes
import Derived.Test.YtmbofpeedjlfhaaDoorRuneLaw
import Derived.Test.YtmbofpeedjlfhaaDoorShow
namespace Go.Proofs.YtmbofpeedjlfhaaDoor
set_option maxRecDepth 100000
open Go.RowKit Go.PlainAid

/-- the bytes of what a literal says at a place, as numbers -/
def sayZ (s : ByteArray) (i : Nat) : List Int := if (sayN s i).2.1 then [(sayN s i).1] else Lib.encodeRuneZ (sayN s i).1
def addTo (l : List Int) (x : Option (List Int) × Int × Int) : Option (List Int) × Int × Int := (x.1.map (l ++ ·), x.2.1, x.2.2)
def bytesAt (s : ByteArray) : Nat → Nat → Option (List Int) × Int × Int
  | 0, _ => (none, s.size, 11)
  | f + 1, i => if s.size ≤ i then (none, s.size, 11) else if bn s i = 34 then (if i + 1 < s.size then (none, (i : Int) + 1, 10) else (some [], 0, 0))
    else if (sayN s i).2.2.2 ≠ 0 then (none, (i : Int), (sayN s i).2.2.2) else addTo (sayZ s i) (bytesAt s f (i + (sayN s i).2.2.1))
def bytesN (s : ByteArray) : Option (List Int) × Int × Int := if s.size = 0 then (none, 0, 11) else if bn s 0 ≠ 34 then (none, 0, 11) else bytesAt s s.size 1
theorem addTo_nil (x : Option (List Int) × Int × Int) : addTo [] x = x := by
  obtain ⟨o, a, e⟩ := x
  cases o <;> rfl
theorem addTo_add (l m : List Int) (x : Option (List Int) × Int × Int) : addTo l (addTo m x) = addTo (l ++ m) x := by
  obtain ⟨o, a, e⟩ := x
  cases o <;> simp [addTo]
theorem bytesAt_end (s : ByteArray) (f i : Nat) (h : s.size ≤ i) : bytesAt s f i = (none, (s.size : Int), 11) := by
  cases f with
  | zero => rfl
  | succ f => rw [bytesAt, if_pos h]
theorem codeZ (v : Nat) (hr : isRune v) : Lib.encodeRuneZ (v : Int) = (codeL v).map fun (x : Nat) => (x : Int) := by
  obtain ⟨h1, h2⟩ := hr
  unfold codeL
  by_cases a : v < 128
  · rw [if_pos a, Lib.encodeRuneZ_one (by omega) (by omega)]; rfl
  by_cases b : v < 2048
  · rw [if_neg a, if_pos b, Lib.encodeRuneZ_two (by omega) (by omega)]; rfl
  by_cases c : v < 65536
  · rw [if_neg a, if_neg b, if_pos c, Lib.encodeRuneZ_three (by omega)]; rfl
  · rw [if_neg a, if_neg b, if_neg c, Lib.encodeRuneZ_four (by omega) (by omega)]; rfl
theorem escN_six (s : ByteArray) (i : Nat) (c : Int) (k : Nat) (h : escN s i = some (c, false, k)) : k = 6 := by
  unfold escN at h
  repeat' split at h
  all_goals
    simp only [Option.some.injEq, Prod.mk.injEq, reduceCtorEq, Bool.true_eq_false, false_and, and_false] at h
  omega
/-- what is known where no error is told -/
theorem sayN_good (s : ByteArray) (i : Nat) (hi : i < s.size) (he : (sayN s i).2.2.2 = 0) :
    1 ≤ (sayN s i).2.2.1 ∧ (sayN s i).2.2.1 ≤ 6 ∧ (sayZ s i).length ≤ (sayN s i).2.2.1 ∧ sayZ s i = (sayB s i).map (fun (x : Nat) => (x : Int)) ∧
    ((sayN s i).2.1 = true → 0 ≤ (sayN s i).1 ∧ (sayN s i).1 < 256) ∧ ((sayN s i).2.1 = false → ∃ v : Nat, (sayN s i).1 = (v : Int) ∧ isRune v) := by
  unfold sayZ sayB
  by_cases h : bn s i = 92
  · cases hn : escN s i with
    | none =>
      have e0 : sayN s i = (0, false, 0, 12) := by unfold sayN; rw [if_pos h, hn]
      rw [e0] at he
      cases he
    | some x =>
      obtain ⟨c, b, k⟩ := x
      have e0 : sayN s i = (c, b, k, 0) := by unfold sayN; rw [if_pos h, hn]
      rw [e0]
      obtain ⟨g0, g1, g2, g3, g4⟩ := escN_ok s i c b k hn
      cases b with
      | true =>
        have := g1 rfl
        refine ⟨by simp only; omega, by simpa using g4, by simp; omega, ?_, fun _ => ⟨g0, this⟩, (fun e => by cases e)⟩
        simp only [if_true, escB, List.map_cons, List.map_nil]
        rw [Int.toNat_of_nonneg g0]
      | false =>
        have hr := g2 rfl
        have hk := escN_six s i c k hn
        have hc : c = ((c.toNat : Nat) : Int) := (Int.toNat_of_nonneg g0).symm
        have hz := codeZ c.toNat hr
        rw [← hc] at hz
        refine ⟨by simp only; omega, by simpa using g4, ?_, by simpa [escB] using hz, (fun e => by cases e), fun _ => ⟨c.toNat, hc, hr⟩⟩
        have := codeL_len c.toNat
        simp only [Bool.false_eq_true, if_false, hz, List.length_map]
        omega
  by_cases hc : bn s i < 32 ∨ bn s i = 127
  · have e0 : sayN s i = (0, false, 0, 10) := by unfold sayN; rw [if_neg h, if_pos hc]
    rw [e0] at he
    cases he
  by_cases hl : lost s i
  · have e0 : sayN s i = (0, false, 0, 13) := by unfold sayN; rw [if_neg h, if_neg hc, if_pos hl]
    rw [e0] at he
    cases he
  · have e0 : sayN s i = (((Utf8.decode s i).1 : Int), false, cutN s i, 0) := by unfold sayN; rw [if_neg h, if_neg hc, if_neg hl]
    rw [e0]
    obtain ⟨hr, _, hcn⟩ := cut_code s i hi hl
    have hz := codeZ _ hr
    have h1 := cutN_pos s i
    have h4 := cutN_le4 s i
    refine ⟨h1, by simp only; omega, ?_, by simpa [escB] using hz, fun e => (by cases e), fun _ => ⟨_, rfl, hr⟩⟩
    simp only [Bool.false_eq_true, if_false, hz, List.length_map, hcn]
    omega
theorem bytesAt_step (s : ByteArray) (f i : Nat) (hi : i < s.size) (h34 : bn s i ≠ 34) (he : (sayN s i).2.2.2 = 0) (acc : List Int) :
    addTo acc (bytesAt s (f + 1) i) = addTo (acc ++ sayZ s i) (bytesAt s f (i + (sayN s i).2.2.1)) := by
  rw [bytesAt, if_neg (by omega), if_neg h34, if_neg (by simpa using he), addTo_add]
end Go.Proofs.YtmbofpeedjlfhaaDoor
