/-
  The walk of TextWhole with all the facts that the row hands over.
-/
import Derived.Test.YtohpnalklbjkoaaWholeLaw
namespace Go.Proofs.Ytohpnalklbjkoaa
open Go.RowKit
theorem TextWhole_all (A : Option Addr) (n c : Nat) (xs : List Int) (w : World) (ha : Reads w w.heap.size 1 A n (xs.map (Value.int .i32))) (_h : ∀ x ∈ xs, (Lit.int .i32 x).wf = true) (h1 : n ≤ c) (h2 : c ≤ 1048576) :
    Calls Try.prog 5 #[.slice A n c] w fun e w' => e = .returned (.bool true) ∧ Below w.heap.size w w' := TextWhole_walk A n c xs w ha (by omega)
end Go.Proofs.Ytohpnalklbjkoaa
