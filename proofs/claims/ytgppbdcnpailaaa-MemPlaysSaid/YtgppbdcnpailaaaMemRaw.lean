/-
  What a Shot reads as; MemBack for every Shot.
-/
import Derived.Test.YtgppbdcnpailaaaMemBack
namespace Go.Proofs.Ytgppbdcnpailaaa
open Go.RowKit

theorem six_of_len {α : Type} {l : List α} (h : l.length = 6) : ∃ a b c d e f, l = [a, b, c, d, e, f] := by
  match l, h with
  | [a, b, c, d, e, f], _ => exact ⟨a, b, c, d, e, f, rfl⟩
theorem shot_cells : Try.prog.cellsOf 59 = 6 := by kernel_rfl
theorem c_u8 : Try.prog.cellsOf 5 = 1 := by kernel_rfl
theorem c_u8s : Try.prog.cellsOf 46 = 1 := by kernel_rfl
theorem c_u32 : Try.prog.cellsOf 23 = 1 := by kernel_rfl
theorem c_u16 : Try.prog.cellsOf 57 = 1 := by kernel_rfl
theorem by_u8 : Try.prog.bytesOf 5 = 1 := by kernel_rfl
theorem wf_u8 {a : Int} (h : (Lit.int .u8 a).wf = true) : 0 ≤ a ∧ a < 256 := by
  simp [Lit.wf, IntKind.min, IntKind.max, IntKind.signed, IntKind.bits] at h
  omega
theorem wf_u16 {a : Int} (h : (Lit.int .u16 a).wf = true) : 0 ≤ a ∧ a < 65536 := by
  simp [Lit.wf, IntKind.min, IntKind.max, IntKind.signed, IntKind.bits] at h
  omega
theorem wf_u32 {a : Int} (h : (Lit.int .u32 a).wf = true) : 0 ≤ a ∧ a < 4294967296 := by
  simp [Lit.wf, IntKind.min, IntKind.max, IntKind.signed, IntKind.bits] at h
  omega
set_option maxRecDepth 100000 in
theorem seen_shot {H : Type} {enc : TypeId × Value → H} {base : Nat} {w : World} {held : Bool} {v : Value} (hv : Value.okWide Try.prog w .any base 59 v) (h : Seen enc Try.prog w held 59 v.cells.toList) :
    ∃ x : ShotV, v = .agg (shotCells x).toArray ∧ ShotOk w x := by
  obtain ⟨l, rfl⟩ := okWide_struct Try.underlying59 hv
  obtain ⟨hl, hf⟩ := seen_struct Try.underlying59 h
  rw [shot_cells] at hl
  obtain ⟨y0, y1, y2, y3, y4, y5, rfl⟩ := six_of_len (show l.length = 6 by simpa [Value.cells] using hl)
  have f0 : Seen enc Try.prog w held 5 (([y0, y1, y2, y3, y4, y5].drop 0).take (Try.prog.cellsOf 5)) := hf 0 _ rfl
  have f1 : Seen enc Try.prog w held 46 (([y0, y1, y2, y3, y4, y5].drop 1).take (Try.prog.cellsOf 46)) := hf 1 _ rfl
  have f2 : Seen enc Try.prog w held 23 (([y0, y1, y2, y3, y4, y5].drop 2).take (Try.prog.cellsOf 23)) := hf 2 _ rfl
  have f3 : Seen enc Try.prog w held 23 (([y0, y1, y2, y3, y4, y5].drop 3).take (Try.prog.cellsOf 23)) := hf 3 _ rfl
  have f4 : Seen enc Try.prog w held 23 (([y0, y1, y2, y3, y4, y5].drop 4).take (Try.prog.cellsOf 23)) := hf 4 _ rfl
  have f5 : Seen enc Try.prog w held 57 (([y0, y1, y2, y3, y4, y5].drop 5).take (Try.prog.cellsOf 57)) := hf 5 _ rfl
  rw [c_u8] at f0
  rw [c_u8s] at f1
  rw [c_u32] at f2 f3 f4
  rw [c_u16] at f5
  obtain ⟨b, h0, w0⟩ := seen_int Try.underlying5 f0
  obtain ⟨A, n, c, zs, h1, hnc, _, hcb, hr, hz⟩ := seen_ints Try.underlying46 Try.underlying5 c_u8 f1
  obtain ⟨a, h2, w2⟩ := seen_int Try.underlying23 f2
  obtain ⟨z, h3, w3⟩ := seen_int Try.underlying23 f3
  obtain ⟨f, h4, w4⟩ := seen_int Try.underlying23 f4
  obtain ⟨m, h5, w5⟩ := seen_int Try.underlying57 f5
  injection h0 with h0
  injection h1 with h1
  injection h2 with h2
  injection h3 with h3
  injection h4 with h4
  injection h5 with h5
  subst h0 h1 h2 h3 h4 h5
  rw [by_u8] at hcb
  exact ⟨⟨b, A, n, c, zs, a, z, f, m⟩, rfl, wf_u8 w0, wf_u32 w2, wf_u32 w3, wf_u32 w4, wf_u16 w5, hr, fun x hx => wf_u8 (hz x hx), hnc, by unfold reachBytes at hcb; show c ≤ _; omega⟩
set_option maxRecDepth 100000 in
theorem MemBack_raw {H : Type} {enc : TypeId × Value → H} {base : Nat} (v : Value) (w : World) (hv : Value.okWide Try.prog w .any base 59 v) (h : Seen enc Try.prog w true 59 v.cells.toList) :
    Calls Try.prog 9 #[v] w fun e w' => e = .returned (.bool true) ∧ Below w.heap.size w w' := by
  obtain ⟨x, rfl, hx⟩ := seen_shot hv h
  clear hv h
  exact MemBack_walk x w hx
end Go.Proofs.Ytgppbdcnpailaaa
