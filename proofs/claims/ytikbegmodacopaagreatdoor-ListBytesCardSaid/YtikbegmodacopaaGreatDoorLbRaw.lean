/-
  ListBytes of whatever bytes.
-/
import Derived.Test.YtikbegmodacopaaGreatDoorLbl
import Derived.Test.YtikbegmodacopaaGreatDoorDmpRaw
namespace Go.Proofs.YtikbegmodacopaaGreatDoor
open Go.RowKit Go.PlainAid Go.BigFrame Go.Shelf
set_option maxRecDepth 100000
theorem ListBytes_raw {H : Type} {enc : TypeId × Value → H} {base : Nat} (v : Value) (w : World) (hv : Value.okWide Tryz.prog w .any base 24 v) (h : Seen enc Tryz.prog w true 24 v.cells.toList) (hT : TabOk w) (hU : BruOk w) :
    Calls Tryz.prog 8 #[v] w fun e w' => e = .returned (.bool true) ∧ Below w.heap.size w w' := by
  obtain ⟨A, n, c, xs, rfl, h1, h2, h3, h4⟩ := bytes_arg hv h
  exact ListBytes_any A n c xs w h2 h1 h3 hT hU
end Go.Proofs.YtikbegmodacopaaGreatDoor
