/-
  What an argument of type api.Image is; ListObjects of one.
-/
import Derived.Test.YtikbegmodacopaaGreatDoorLob
namespace Go.Proofs.YtikbegmodacopaaGreatDoor
open Go.RowKit Go.PlainAid Go.BigFrame
set_option linter.unusedSimpArgs false
set_option linter.unusedVariables false
set_option maxRecDepth 100000
instance : Inhabited ExpV := ⟨⟨⟨#[]⟩, 0⟩⟩
section
variable {H : Type} {enc : TypeId × Value → H} {P : Program} {w : World} {held : Bool}
end
section
variable {H : Type} {enc : TypeId × Value → H} {w : World}
theorem seen_exp {vs : List Value} (h : Seen enc Tryz.prog w true 44 vs) : ∃ a : ExpV, vs = xE a ∧ a.name.size ≤ 140737488351232 ∧ 0 ≤ a.at_ ∧ a.at_ < 4294967296 := by
  obtain ⟨hl, hf⟩ := seen_struct Tryz.underlying44 h
  match vs, (show vs.length = 2 from hl) with
  | [v0, v1], _ =>
    obtain ⟨a, h0, w0⟩ := seen_string Tryz.underlying9 (hf 0 _ rfl)
    obtain ⟨b, h1, w1⟩ := seen_int Tryz.underlying25 (hf 1 _ rfl)
    have e0 : [v0] = [Value.string a] := h0
    have e1 : [v1] = [Value.int .u32 b] := h1
    injection e0 with e0 _
    injection e1 with e1 _
    subst e0 e1
    exact ⟨⟨a, b⟩, rfl, w0, u32_wf w1⟩
/-- what an argument of type api.Image is -/
theorem img_arg {base : Nat} {v : Value} (hv : Value.okWide Tryz.prog w .any base 28 v) (h : Seen enc Tryz.prog w true 28 v.cells.toList) :
    ∃ (x : ImgV) (s : ImgS), v = .agg (imgV x s) ∧ ImgOk x ∧ (x.code.length * 8 ≤ 140737488351232 ∧ x.jumps.length * 4 ≤ 140737488351232 ∧ x.data.length * 1 ≤ 140737488351232 ∧ x.names.length * 24 ≤ 140737488351232) ∧ ImgR w w.heap.size x s := by
  obtain ⟨l, rfl⟩ := okWide_struct Tryz.underlying28 hv
  have h' : Seen enc Tryz.prog w true 28 l := h
  obtain ⟨hl, hf⟩ := seen_struct Tryz.underlying28 h'
  match l, (show l.length = 6 from hl) with
  | [v0, v1, v2, v3, v4, v5], _ =>
    obtain ⟨A0, n0, c0, x0, e0, z0, k0, _, b0, r0, o0⟩ := seen_list cE_len (by omega) Tryz.underlying22 (by kernel_rfl) (fun vs => seen_instr) (hf 0 _ rfl)
    obtain ⟨A1, n1, c1, x1, e1, k1, _, b1, r1, o1⟩ := seen_ints Tryz.underlying23 Tryz.underlying25 (by kernel_rfl) (hf 1 _ rfl)
    obtain ⟨A2, n2, c2, x2, e2, k2, _, b2, r2, o2⟩ := seen_ints Tryz.underlying24 Tryz.underlying5 (by kernel_rfl) (hf 2 _ rfl)
    obtain ⟨a3, e3, w3⟩ := seen_int Tryz.underlying25 (hf 3 _ rfl)
    obtain ⟨a4, e4, w4⟩ := seen_int Tryz.underlying25 (hf 4 _ rfl)
    obtain ⟨A5, n5, c5, x5, e5, z5, k5, _, b5, r5, o5⟩ := seen_list xE_len (by omega) Tryz.underlying26 (by kernel_rfl) (fun vs => seen_exp) (hf 5 _ rfl)
    have z1 : x1.length = n1 := by simpa using r1.1
    have z2 : x2.length = n2 := by simpa using r2.1
    obtain rfl := sing (show [v0] = [Value.slice A0 n0 c0] from e0)
    obtain rfl := sing (show [v1] = [Value.slice A1 n1 c1] from e1)
    obtain rfl := sing (show [v2] = [Value.slice A2 n2 c2] from e2)
    obtain rfl := sing (show [v3] = [Value.int .u32 a3] from e3)
    obtain rfl := sing (show [v4] = [Value.int .u32 a4] from e4)
    obtain rfl := sing (show [v5] = [Value.slice A5 n5 c5] from e5)
    subst z0
    subst z1
    subst z2
    subst z5
    rw [show Tryz.prog.bytesOf 66 = 8 by kernel_rfl] at b0
    rw [show Tryz.prog.bytesOf 25 = 4 by kernel_rfl] at b1
    rw [show Tryz.prog.bytesOf 5 = 1 by kernel_rfl] at b2
    rw [show Tryz.prog.bytesOf 44 = 24 by kernel_rfl] at b5
    simp only [reachBytes] at b0 b1 b2 b5
    exact ⟨⟨x0, x1, x2, a3, a4, x5⟩, ⟨⟨A0, c0⟩, ⟨A1, c1⟩, ⟨A2, c2⟩, ⟨A5, c5⟩⟩, rfl,
      ⟨o0, fun b hb => u32_wf (o1 b hb), fun b hb => u8_wf (o2 b hb), u32_wf w3, u32_wf w4, o5, by dsimp only; omega, by dsimp only; omega, by dsimp only; omega, by dsimp only; omega⟩,
      ⟨by dsimp only; omega, by dsimp only; omega, by dsimp only; omega, by dsimp only; omega⟩,
      ⟨r0, r1, r2, r5, k0, k1, k2, k5⟩⟩
end
theorem ListObjects_raw {H : Type} {enc : TypeId × Value → H} {base : Nat} (v : Value) (w : World) (hv : Value.okWide Tryz.prog w .any base 28 v) (h : Seen enc Tryz.prog w true 28 v.cells.toList) (hT : TabOk w) :
    Calls Tryz.prog 3 #[v] w fun e w' => e = .returned (.bool true) ∧ Below w.heap.size w w' := by
  obtain ⟨x, s, rfl, h1, h2, h3⟩ := img_arg hv h
  exact ListObjects_any x s w h1 h2 h3 hT
end Go.Proofs.YtikbegmodacopaaGreatDoor
