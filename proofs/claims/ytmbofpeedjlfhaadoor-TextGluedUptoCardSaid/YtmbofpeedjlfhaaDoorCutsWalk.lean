/-
  The walk of playpenref01.Cuts: the document's cutting is 'cuts s'.
-/
import Derived.Test.YtmbofpeedjlfhaaDoorRuneAll
import Derived.Test.YtmbofpeedjlfhaaDoorKit
namespace Go.Proofs.YtmbofpeedjlfhaaDoor
set_option maxRecDepth 100000
open Go.RowKit Go.PlainAid

theorem runeAt_lost (s : ByteArray) (i : Nat) (w : World) (hz : s.size ≤ 9223372036854775800) (hi : i < s.size) (hl : lost s i) :
    Calls Tryd.prog 86 #[.string s, .int .i64 i] w fun e w' => e = .returned (.tuple #[.int .i32 0, .int .i64 0]) ∧ w = w' := by
  have := runeAt_any s i w hz hi
  unfold RaIs raR raN at this
  rwa [if_pos hl, if_pos hl] at this
theorem runeAt_found (s : ByteArray) (i : Nat) (w : World) (hz : s.size ≤ 9223372036854775800) (hi : i < s.size) (hl : ¬ lost s i) :
    Calls Tryd.prog 86 #[.string s, .int .i64 i] w fun e w' => e = .returned (.tuple #[.int .i32 (cutR s i), .int .i64 (cutN s i : Nat)]) ∧ w = w' := by
  have := runeAt_any s i w hz hi
  unfold RaIs raR raN at this
  rw [if_neg hl, if_neg hl] at this
  unfold cutR cutN
  rwa [if_neg hl]

theorem Tryd.info_int : (Tryd.prog.info? 3).map (fun i => (i.zero, i.size, i.bytes)) = some (some (.int .i64 0), 1, 8) := by kernel_rfl
theorem Tryd.info_i32 : (Tryd.prog.info? 21).map (fun i => (i.zero, i.size, i.bytes)) = some (some (.int .i32 0), 1, 4) := by kernel_rfl

abbrev plV (l : List (Nat × Int)) : List Value := l.map fun x => Value.int .i64 x.1
abbrev nuV (l : List (Nat × Int)) : List Value := l.map fun x => Value.int .i32 x.2
theorem plV_snoc (l : List (Nat × Int)) (x : Nat × Int) : plV (l ++ [x]) = plV l ++ [.int .i64 x.1] := by simp [plV]
theorem nuV_snoc (l : List (Nat × Int)) (x : Nat × Int) : nuV (l ++ [x]) = nuV l ++ [.int .i32 x.2] := by simp [nuV]
theorem cuts_pre {s : ByteArray} {pre : List (Nat × Int)} {pos : Nat} (h : cuts s = pre ++ cutsAt s pos) : pre.length ≤ s.size := by
  have h1 := cutsAt_len s 0
  rw [← cuts_at, h, List.length_append] at h1
  omega

theorem own_reads {w : World} {B e n : Nat} {v : Value} {xs : List Value} (h : w.ownsRow B e 1 v n xs) : ∃ A c, v = .slice A n c ∧ Reads w w.heap.size 1 A n xs ∧ n ≤ c ∧ c ≤ maxLen := by
  obtain ⟨A, c, rfl, h1, h2⟩ := ownsRow_slice h
  exact ⟨A, c, rfl, Reads.of_own h, h1, h2⟩
theorem cuts_len (s : ByteArray) : (cuts s).length ≤ s.size := cutsAt_len s 0
end Go.Proofs.YtmbofpeedjlfhaaDoor
