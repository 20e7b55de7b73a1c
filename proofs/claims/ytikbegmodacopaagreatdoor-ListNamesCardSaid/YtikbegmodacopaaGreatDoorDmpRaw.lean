/-
  What an argument of type []byte is; ListDumps of it; the library's table of trailing zeros.
-/
import Derived.Test.YtikbegmodacopaaGreatDoorDmpLaw
import Derived.Test.YtikbegmodacopaaGreatDoorB27
import Derived.WideShapes
namespace Go.Proofs.YtikbegmodacopaaGreatDoor
open Go.RowKit Go.PlainAid Go.BigFrame Go.Shelf
set_option linter.unusedSimpArgs false
set_option linter.unusedVariables false
set_option maxRecDepth 100000
/-- the library's table of trailing zeros -/
def bruTab : List Int := [0, 1, 56, 2, 57, 49, 28, 3, 61, 58, 42, 50, 38, 29, 17, 4, 62, 47, 59, 36, 45, 43, 51, 22, 53, 39, 33, 30, 24, 18, 12, 5, 63, 55, 48, 27, 60, 41, 37, 16, 46, 35, 44, 21, 52, 32, 23, 11, 54, 26, 40, 15, 34, 20, 31, 10, 25, 14, 19, 9, 13, 8, 7, 6]
theorem BruOk.of {w : World} (h : Lib.TabIs Tryz.prog w "math/bits.deBruijn64tab" .u8 bruTab) : BruOk w := by
  have hc := Lib.TabIs.cell h (show Tryz.prog.globalNamed "math/bits.deBruijn64tab" = some 3 by kernel_rfl) 15 (by decide)
  rw [show bruTab.getD 15 0 = 4 from rfl] at hc
  refine ⟨hc, ?_⟩
  rcases Nat.lt_or_ge 3 w.heap.size with h1 | h1
  · exact h1
  · exfalso
    simp [World.cell?, Array.getElem?_eq_none h1] at hc
theorem bru_of_laid {rest : List (String × DataW Unit)} {w : World} (h : laidMet Tryz.prog (("math/bits.deBruijn64tab", Lib.tabData .u8 bruTab) :: rest) w) : BruOk w :=
  BruOk.of (Lib.tabIs_of_head (g := 3) (t := 230) (e := 5) (n := 64) (rest := rest) (by kernel_rfl) (by kernel_rfl) Tryz.underlying230 Tryz.underlying5 (by kernel_rfl) (by kernel_rfl) h)
theorem bytes_arg {H : Type} {enc : TypeId × Value → H} {w : World} {base : Nat} {v : Value} (hv : Value.okWide Tryz.prog w .any base 24 v) (h : Seen enc Tryz.prog w true 24 v.cells.toList) :
    ∃ (A : Option Addr) (n c : Nat) (xs : List Int), v = .slice A n c ∧ n ≤ c ∧ Reads w w.heap.size 1 A n (u8s xs) ∧ isBytes xs ∧ n ≤ 140737488351232 := by
  obtain ⟨A, n, c, xs, e, h1, h2, h3, h4, h5⟩ := seen_ints Tryz.underlying24 Tryz.underlying5 (by kernel_rfl) h
  obtain ⟨A', n', c', rfl⟩ := Go.WideShapes.okWide_slice Tryz.underlying24 hv
  have e' : [Value.slice A' n' c'] = [Value.slice A n c] := e
  injection e' with e' _
  injection e' with e1 e2 e3
  subst e1 e2 e3
  rw [show Tryz.prog.bytesOf 5 = 1 by kernel_rfl] at h3
  simp only [reachBytes] at h3
  exact ⟨A', n', c', xs, rfl, h1, h4, fun x hx => u8_wf (h5 x hx), by omega⟩
theorem ListDumps_raw {H : Type} {enc : TypeId × Value → H} {base : Nat} (v : Value) (w : World) (hv : Value.okWide Tryz.prog w .any base 24 v) (h : Seen enc Tryz.prog w true 24 v.cells.toList) (hT : TabOk w) (hU : BruOk w) :
    Calls Tryz.prog 6 #[v] w fun e w' => e = .returned (.bool true) ∧ Below w.heap.size w w' := by
  obtain ⟨A, n, c, xs, rfl, h1, h2, h3, h4⟩ := bytes_arg hv h
  exact ListDumps_any A n c xs w h2 h3 h4 hT hU
end Go.Proofs.YtikbegmodacopaaGreatDoor
