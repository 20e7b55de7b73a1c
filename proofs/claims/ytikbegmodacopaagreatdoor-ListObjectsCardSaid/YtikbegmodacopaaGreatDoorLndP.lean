/-
  An image in lists with marks behind them: the rows.
-/
import Derived.Test.YtikbegmodacopaaGreatDoorObK
import Derived.Test.YtikbegmodacopaaGreatDoorLtW
namespace Go.Proofs.YtikbegmodacopaaGreatDoor
open Go.RowKit Go.PlainAid Go.BigFrame
set_option linter.unusedSimpArgs false
set_option linter.unusedVariables false
set_option maxRecDepth 100000
theorem cx_info : (Tryz.prog.info? 44).map (fun i => (i.zero, i.size, i.bytes)) = some (some (.agg #[.string ByteArray.empty, .int .u32 0]), 2, 24) := by kernel_rfl
def mkX : ExpV := ⟨⟨#[109, 97, 114, 107]⟩, 77⟩
theorem takeX_at {α : Type} {l : List α} {k : Nat} {t : α} (h : l[k]? = some t) : l.take (k + 1) = l.take k ++ [t] := by
  rw [List.take_add_one, h]; simp
/-- the whole lists, with their marks -/
noncomputable def lRows (x : ImgV) (s : ImgS) : List Ro := [⟨66, 2, .slice s.c.A (x.code.length + 64) s.c.c, x.code.length + 64, (x.code ++ marksC 64).flatMap cE⟩, ⟨25, 1, .slice s.j.A (x.jumps.length + 64) s.j.c, x.jumps.length + 64, u32s (x.jumps ++ marksW 64)⟩,
  ⟨5, 1, .slice s.d.A (x.data.length + 64) s.d.c, x.data.length + 64, u8s (x.data ++ marks8 0 0 64)⟩, ⟨44, 2, .slice s.n.A (x.names.length + 1) s.n.c, x.names.length + 1, (x.names ++ [mkX]).flatMap xE⟩]
def lendV (x : ImgV) (s : ImgS) : Value := .tuple #[.agg (imgV x s), .slice s.c.A (x.code.length + 64) s.c.c, .slice s.j.A (x.jumps.length + 64) s.j.c, .slice s.d.A (x.data.length + 64) s.d.c, .slice s.n.A (x.names.length + 1) s.n.c]
def LendPost (x : ImgV) (w : World) (e : Ending) (w' : World) : Prop := ∃ s, e = .returned (lendV x s) ∧ Owns w' w.heap.size (lRows x s) ∧ Below w.heap.size w w'
end Go.Proofs.YtikbegmodacopaaGreatDoor
