/-
  No cell of these rows narrows 'for every input' (looked for: loops, veiled, ifaces, maps, wideKeys, modest, calm, conditions, laid).
  DERIVED. THE GIVEN ROWS OF THIS SEAT. 17 by the template 'for every input the law returns true; each argument reads behind the call as it read before'; 0 by the template 'total and deterministic' (their statements: YtgppbdcnpailaaaTotals.lean).
  GIVEN WITH THE SEED: the statements are not yours to turn. If you find one false, say at which input.
  Laid BY PROGRAM, IN A SANDBOX (cutbox-rows.mjs): the forced cells as the released guide's own fill.sh prints them over the translation 0749227f6b8cd291… (all of the seat's roots in one cut). By AI agents, Wed Nov 11 2026. No macro, syntax, notation, axiom, sorry.
-/
import Derived.Test.YtgppbdcnpailaaaChecked
import GoSem.Claim
import GoSem.ClaimJoined
import GoSem.ClaimMapViews
import Derived.JoinedTies
import Derived.KernelRfl
namespace Go.Proofs.Ytgppbdcnpailaaa
/- THE CELL 'sum', in the pinned program and in every row, IS THE sha256 OF THE DUMP (.gsa) THAT YtgppbdcnpailaaaProg.lean LOADS. Nothing in Lean hashes anything: it is a label: what it is worth is what the hold of that sum in a sandbox is worth. -/
noncomputable def Try.pinned : Pinned := { name := "ytgppbdcnpailaaa", sum := "0749227f6b8cd291b7e69e5ef922cb0796c5c3dee238c308631711de9fe83a15", checked := Try.checked }
namespace Rows
def none {H : Type} : Left H := { results := [], args := [] }

/-- 'playpenlaw11.LinkNames': WHATEVER THE INPUT: true; the input reads as it did. -/
def linkNamesSpec : ChangeSpec := { name := "linkNames", fn := fun _ => fun
  | [] => { results := [.lit (.bool true)], args := [] }
  | _ => none }
def linkNamesRow : OpenClaim := { program := "ytgppbdcnpailaaa", sum := "0749227f6b8cd291b7e69e5ef922cb0796c5c3dee238c308631711de9fe83a15", func := "playpen/playpenlaw11.LinkNames", spec := "linkNames", apart := false }
def LinkNamesSaid : Prop := linkNamesRow.holds Try.pinned (OpenSpec.ofChange linkNamesSpec)

/-- ITS FALSE NEIGHBOUR: 'it returns false'. Refute it at one input. -/
def linkNamesWrong : ChangeSpec := { name := "linkNames", fn := fun _ => fun
  | [] => { results := [.lit (.bool false)], args := [] }
  | _ => none }
def LinkNamesWrongFalsely : Prop := linkNamesRow.holds Try.pinned (OpenSpec.ofChange linkNamesWrong)

/-- 'playpenlaw16.GateNumber': WHATEVER THE INPUT: true; the input reads as it did. -/
def gateNumberSpec : ChangeSpec := { name := "gateNumber", fn := fun _ => fun
  | [d] => { results := [.lit (.bool true)], args := [d] }
  | _ => none }
def gateNumberRow : OpenClaim := { program := "ytgppbdcnpailaaa", sum := "0749227f6b8cd291b7e69e5ef922cb0796c5c3dee238c308631711de9fe83a15", func := "playpen/playpenlaw16.GateNumber", spec := "gateNumber", apart := false }
def GateNumberSaid : Prop := gateNumberRow.holds Try.pinned (OpenSpec.ofChange gateNumberSpec)

/-- ITS FALSE NEIGHBOUR: 'it returns false'. Refute it at one input. -/
def gateNumberWrong : ChangeSpec := { name := "gateNumber", fn := fun _ => fun
  | [d] => { results := [.lit (.bool false)], args := [d] }
  | _ => none }
def GateNumberWrongFalsely : Prop := gateNumberRow.holds Try.pinned (OpenSpec.ofChange gateNumberWrong)

/-- 'playpenlaw16.GateTurn': WHATEVER THE INPUT: true; the input reads as it did. -/
def gateTurnSpec : ChangeSpec := { name := "gateTurn", fn := fun _ => fun
  | [d] => { results := [.lit (.bool true)], args := [d] }
  | _ => none }
def gateTurnRow : OpenClaim := { program := "ytgppbdcnpailaaa", sum := "0749227f6b8cd291b7e69e5ef922cb0796c5c3dee238c308631711de9fe83a15", func := "playpen/playpenlaw16.GateTurn", spec := "gateTurn", apart := false }
def GateTurnSaid : Prop := gateTurnRow.holds Try.pinned (OpenSpec.ofChange gateTurnSpec)

/-- ITS FALSE NEIGHBOUR: 'it returns false'. Refute it at one input. -/
def gateTurnWrong : ChangeSpec := { name := "gateTurn", fn := fun _ => fun
  | [d] => { results := [.lit (.bool false)], args := [d] }
  | _ => none }
def GateTurnWrongFalsely : Prop := gateTurnRow.holds Try.pinned (OpenSpec.ofChange gateTurnWrong)

/-- 'playpenlaw16.GateFits': WHATEVER THE INPUT: true; the input reads as it did. -/
def gateFitsSpec : ChangeSpec := { name := "gateFits", fn := fun _ => fun
  | [d] => { results := [.lit (.bool true)], args := [d] }
  | _ => none }
def gateFitsRow : OpenClaim := { program := "ytgppbdcnpailaaa", sum := "0749227f6b8cd291b7e69e5ef922cb0796c5c3dee238c308631711de9fe83a15", func := "playpen/playpenlaw16.GateFits", spec := "gateFits", apart := false }
def GateFitsSaid : Prop := gateFitsRow.holds Try.pinned (OpenSpec.ofChange gateFitsSpec)

/-- ITS FALSE NEIGHBOUR: 'it returns false'. Refute it at one input. -/
def gateFitsWrong : ChangeSpec := { name := "gateFits", fn := fun _ => fun
  | [d] => { results := [.lit (.bool false)], args := [d] }
  | _ => none }
def GateFitsWrongFalsely : Prop := gateFitsRow.holds Try.pinned (OpenSpec.ofChange gateFitsWrong)

/-- 'playpenlaw16.GateThrough': WHATEVER THE INPUT: true; the input reads as it did. -/
def gateThroughSpec : ChangeSpec := { name := "gateThrough", fn := fun _ => fun
  | [d1, d2, d3] => { results := [.lit (.bool true)], args := [d1, d2, d3] }
  | _ => none }
def gateThroughRow : OpenClaim := { program := "ytgppbdcnpailaaa", sum := "0749227f6b8cd291b7e69e5ef922cb0796c5c3dee238c308631711de9fe83a15", func := "playpen/playpenlaw16.GateThrough", spec := "gateThrough", inPlace := ["maps.clone"], apart := false }
def GateThroughSaid : Prop := gateThroughRow.holds Try.pinned (OpenSpec.ofChange gateThroughSpec)

/-- ITS FALSE NEIGHBOUR: 'it returns false'. Refute it at one input. -/
def gateThroughWrong : ChangeSpec := { name := "gateThrough", fn := fun _ => fun
  | [d1, d2, d3] => { results := [.lit (.bool false)], args := [d1, d2, d3] }
  | _ => none }
def GateThroughWrongFalsely : Prop := gateThroughRow.holds Try.pinned (OpenSpec.ofChange gateThroughWrong)

/-- 'playpenlaw16.GateWrites': WHATEVER THE INPUT: true; the input reads as it did. -/
def gateWritesSpec : ChangeSpec := { name := "gateWrites", fn := fun _ => fun
  | [d1, d2, d3] => { results := [.lit (.bool true)], args := [d1, d2, d3] }
  | _ => none }
def gateWritesRow : OpenClaim := { program := "ytgppbdcnpailaaa", sum := "0749227f6b8cd291b7e69e5ef922cb0796c5c3dee238c308631711de9fe83a15", func := "playpen/playpenlaw16.GateWrites", spec := "gateWrites", unfollowed := true, recurses := true, apart := false }
def GateWritesSaid : Prop := gateWritesRow.holds Try.pinned (OpenSpec.ofChange gateWritesSpec)

/-- ITS FALSE NEIGHBOUR: 'it returns false'. Refute it at one input. -/
def gateWritesWrong : ChangeSpec := { name := "gateWrites", fn := fun _ => fun
  | [d1, d2, d3] => { results := [.lit (.bool false)], args := [d1, d2, d3] }
  | _ => none }
def GateWritesWrongFalsely : Prop := gateWritesRow.holds Try.pinned (OpenSpec.ofChange gateWritesWrong)

/-- 'playpenlaw09.MemBack': WHATEVER THE INPUT: true; the input reads as it did. -/
def memBackSpec : ChangeSpec := { name := "memBack", fn := fun _ => fun
  | [d] => { results := [.lit (.bool true)], args := [d] }
  | _ => none }
def memBackRow : OpenClaim := { program := "ytgppbdcnpailaaa", sum := "0749227f6b8cd291b7e69e5ef922cb0796c5c3dee238c308631711de9fe83a15", func := "playpen/playpenlaw09.MemBack", spec := "memBack", unfollowed := true, recurses := true, apart := false }
def MemBackSaid : Prop := memBackRow.holds Try.pinned (OpenSpec.ofChange memBackSpec)

/-- ITS FALSE NEIGHBOUR: 'it returns false'. Refute it at one input. -/
def memBackWrong : ChangeSpec := { name := "memBack", fn := fun _ => fun
  | [d] => { results := [.lit (.bool false)], args := [d] }
  | _ => none }
def MemBackWrongFalsely : Prop := memBackRow.holds Try.pinned (OpenSpec.ofChange memBackWrong)

/-- 'playpenlaw09.MemNames': WHATEVER THE INPUT: true; the input reads as it did. -/
def memNamesSpec : ChangeSpec := { name := "memNames", fn := fun _ => fun
  | [] => { results := [.lit (.bool true)], args := [] }
  | _ => none }
def memNamesRow : OpenClaim := { program := "ytgppbdcnpailaaa", sum := "0749227f6b8cd291b7e69e5ef922cb0796c5c3dee238c308631711de9fe83a15", func := "playpen/playpenlaw09.MemNames", spec := "memNames", unfollowed := true, recurses := true, apart := false }
def MemNamesSaid : Prop := memNamesRow.holds Try.pinned (OpenSpec.ofChange memNamesSpec)

/-- ITS FALSE NEIGHBOUR: 'it returns false'. Refute it at one input. -/
def memNamesWrong : ChangeSpec := { name := "memNames", fn := fun _ => fun
  | [] => { results := [.lit (.bool false)], args := [] }
  | _ => none }
def MemNamesWrongFalsely : Prop := memNamesRow.holds Try.pinned (OpenSpec.ofChange memNamesWrong)

/-- 'playpenlaw09.MemCopies': WHATEVER THE INPUT: true; the input reads as it did. -/
def memCopiesSpec : ChangeSpec := { name := "memCopies", fn := fun _ => fun
  | [d] => { results := [.lit (.bool true)], args := [d] }
  | _ => none }
def memCopiesRow : OpenClaim := { program := "ytgppbdcnpailaaa", sum := "0749227f6b8cd291b7e69e5ef922cb0796c5c3dee238c308631711de9fe83a15", func := "playpen/playpenlaw09.MemCopies", spec := "memCopies", unfollowed := true, recurses := true, apart := false }
def MemCopiesSaid : Prop := memCopiesRow.holds Try.pinned (OpenSpec.ofChange memCopiesSpec)

/-- ITS FALSE NEIGHBOUR: 'it returns false'. Refute it at one input. -/
def memCopiesWrong : ChangeSpec := { name := "memCopies", fn := fun _ => fun
  | [d] => { results := [.lit (.bool false)], args := [d] }
  | _ => none }
def MemCopiesWrongFalsely : Prop := memCopiesRow.holds Try.pinned (OpenSpec.ofChange memCopiesWrong)

/-- 'playpenlaw09.MemWithin': WHATEVER THE INPUT: true; the input reads as it did. -/
def memWithinSpec : ChangeSpec := { name := "memWithin", fn := fun _ => fun
  | [d1, d2, d3] => { results := [.lit (.bool true)], args := [d1, d2, d3] }
  | _ => none }
def memWithinRow : OpenClaim := { program := "ytgppbdcnpailaaa", sum := "0749227f6b8cd291b7e69e5ef922cb0796c5c3dee238c308631711de9fe83a15", func := "playpen/playpenlaw09.MemWithin", spec := "memWithin", unfollowed := true, recurses := true, apart := false }
def MemWithinSaid : Prop := memWithinRow.holds Try.pinned (OpenSpec.ofChange memWithinSpec)

/-- ITS FALSE NEIGHBOUR: 'it returns false'. Refute it at one input. -/
def memWithinWrong : ChangeSpec := { name := "memWithin", fn := fun _ => fun
  | [d1, d2, d3] => { results := [.lit (.bool false)], args := [d1, d2, d3] }
  | _ => none }
def MemWithinWrongFalsely : Prop := memWithinRow.holds Try.pinned (OpenSpec.ofChange memWithinWrong)

/-- 'playpenlaw09.MemNil': WHATEVER THE INPUT: true; the input reads as it did. -/
def memNilSpec : ChangeSpec := { name := "memNil", fn := fun _ => fun
  | [] => { results := [.lit (.bool true)], args := [] }
  | _ => none }
def memNilRow : OpenClaim := { program := "ytgppbdcnpailaaa", sum := "0749227f6b8cd291b7e69e5ef922cb0796c5c3dee238c308631711de9fe83a15", func := "playpen/playpenlaw09.MemNil", spec := "memNil", unfollowed := true, recurses := true, apart := false }
def MemNilSaid : Prop := memNilRow.holds Try.pinned (OpenSpec.ofChange memNilSpec)

/-- ITS FALSE NEIGHBOUR: 'it returns false'. Refute it at one input. -/
def memNilWrong : ChangeSpec := { name := "memNil", fn := fun _ => fun
  | [] => { results := [.lit (.bool false)], args := [] }
  | _ => none }
def MemNilWrongFalsely : Prop := memNilRow.holds Try.pinned (OpenSpec.ofChange memNilWrong)

/-- 'playpenlaw09.MemPlays': WHATEVER THE INPUT: true; the input reads as it did. -/
def memPlaysSpec : ChangeSpec := { name := "memPlays", fn := fun _ => fun
  | [d] => { results := [.lit (.bool true)], args := [d] }
  | _ => none }
def memPlaysRow : OpenClaim := { program := "ytgppbdcnpailaaa", sum := "0749227f6b8cd291b7e69e5ef922cb0796c5c3dee238c308631711de9fe83a15", func := "playpen/playpenlaw09.MemPlays", spec := "memPlays", unfollowed := true, recurses := true, apart := false }
def MemPlaysSaid : Prop := memPlaysRow.holds Try.pinned (OpenSpec.ofChange memPlaysSpec)

/-- ITS FALSE NEIGHBOUR: 'it returns false'. Refute it at one input. -/
def memPlaysWrong : ChangeSpec := { name := "memPlays", fn := fun _ => fun
  | [d] => { results := [.lit (.bool false)], args := [d] }
  | _ => none }
def MemPlaysWrongFalsely : Prop := memPlaysRow.holds Try.pinned (OpenSpec.ofChange memPlaysWrong)

/-- 'playpenlaw09.MemLogs': WHATEVER THE INPUT: true; the input reads as it did. -/
def memLogsSpec : ChangeSpec := { name := "memLogs", fn := fun _ => fun
  | [d] => { results := [.lit (.bool true)], args := [d] }
  | _ => none }
def memLogsRow : OpenClaim := { program := "ytgppbdcnpailaaa", sum := "0749227f6b8cd291b7e69e5ef922cb0796c5c3dee238c308631711de9fe83a15", func := "playpen/playpenlaw09.MemLogs", spec := "memLogs", unfollowed := true, recurses := true, apart := false }
def MemLogsSaid : Prop := memLogsRow.holds Try.pinned (OpenSpec.ofChange memLogsSpec)

/-- ITS FALSE NEIGHBOUR: 'it returns false'. Refute it at one input. -/
def memLogsWrong : ChangeSpec := { name := "memLogs", fn := fun _ => fun
  | [d] => { results := [.lit (.bool false)], args := [d] }
  | _ => none }
def MemLogsWrongFalsely : Prop := memLogsRow.holds Try.pinned (OpenSpec.ofChange memLogsWrong)

/-- 'playpenlaw16.GateLess': WHATEVER THE INPUT: true; the input reads as it did. -/
def gateLessSpec : ChangeSpec := { name := "gateLess", fn := fun _ => fun
  | [d1, d2] => { results := [.lit (.bool true)], args := [d1, d2] }
  | _ => none }
def gateLessRow : OpenClaim := { program := "ytgppbdcnpailaaa", sum := "0749227f6b8cd291b7e69e5ef922cb0796c5c3dee238c308631711de9fe83a15", func := "playpen/playpenlaw16.GateLess", spec := "gateLess", inPlace := ["maps.clone"], unfollowed := true, recurses := true, apart := false }
def GateLessSaid : Prop := gateLessRow.holds Try.pinned (OpenSpec.ofChange gateLessSpec)

/-- ITS FALSE NEIGHBOUR: 'it returns false'. Refute it at one input. -/
def gateLessWrong : ChangeSpec := { name := "gateLess", fn := fun _ => fun
  | [d1, d2] => { results := [.lit (.bool false)], args := [d1, d2] }
  | _ => none }
def GateLessWrongFalsely : Prop := gateLessRow.holds Try.pinned (OpenSpec.ofChange gateLessWrong)

/-- 'playpenlaw16.GateNone': WHATEVER THE INPUT: true; the input reads as it did. -/
def gateNoneSpec : ChangeSpec := { name := "gateNone", fn := fun _ => fun
  | [d1, d2, d3, d4] => { results := [.lit (.bool true)], args := [d1, d2, d3, d4] }
  | _ => none }
def gateNoneRow : OpenClaim := { program := "ytgppbdcnpailaaa", sum := "0749227f6b8cd291b7e69e5ef922cb0796c5c3dee238c308631711de9fe83a15", func := "playpen/playpenlaw16.GateNone", spec := "gateNone", inPlace := ["maps.clone"], unfollowed := true, recurses := true, apart := false }
def GateNoneSaid : Prop := gateNoneRow.holds Try.pinned (OpenSpec.ofChange gateNoneSpec)

/-- ITS FALSE NEIGHBOUR: 'it returns false'. Refute it at one input. -/
def gateNoneWrong : ChangeSpec := { name := "gateNone", fn := fun _ => fun
  | [d1, d2, d3, d4] => { results := [.lit (.bool false)], args := [d1, d2, d3, d4] }
  | _ => none }
def GateNoneWrongFalsely : Prop := gateNoneRow.holds Try.pinned (OpenSpec.ofChange gateNoneWrong)

/-- 'playpenlaw16.GateKnown': WHATEVER THE INPUT: true; the input reads as it did. -/
def gateKnownSpec : ChangeSpec := { name := "gateKnown", fn := fun _ => fun
  | [] => { results := [.lit (.bool true)], args := [] }
  | _ => none }
def gateKnownRow : OpenClaim := { program := "ytgppbdcnpailaaa", sum := "0749227f6b8cd291b7e69e5ef922cb0796c5c3dee238c308631711de9fe83a15", func := "playpen/playpenlaw16.GateKnown", spec := "gateKnown", inPlace := ["maps.clone"], unfollowed := true, recurses := true, apart := false }
def GateKnownSaid : Prop := gateKnownRow.holds Try.pinned (OpenSpec.ofChange gateKnownSpec)

/-- ITS FALSE NEIGHBOUR: 'it returns false'. Refute it at one input. -/
def gateKnownWrong : ChangeSpec := { name := "gateKnown", fn := fun _ => fun
  | [] => { results := [.lit (.bool false)], args := [] }
  | _ => none }
def GateKnownWrongFalsely : Prop := gateKnownRow.holds Try.pinned (OpenSpec.ofChange gateKnownWrong)

/-- 'playpenlaw16.GatePlays': WHATEVER THE INPUT: true; the input reads as it did. -/
def gatePlaysSpec : ChangeSpec := { name := "gatePlays", fn := fun _ => fun
  | [d1, d2, d3, d4] => { results := [.lit (.bool true)], args := [d1, d2, d3, d4] }
  | _ => none }
def gatePlaysRow : OpenClaim := { program := "ytgppbdcnpailaaa", sum := "0749227f6b8cd291b7e69e5ef922cb0796c5c3dee238c308631711de9fe83a15", func := "playpen/playpenlaw16.GatePlays", spec := "gatePlays", inPlace := ["maps.clone"], unfollowed := true, recurses := true, apart := false }
def GatePlaysSaid : Prop := gatePlaysRow.holds Try.pinned (OpenSpec.ofChange gatePlaysSpec)

/-- ITS FALSE NEIGHBOUR: 'it returns false'. Refute it at one input. -/
def gatePlaysWrong : ChangeSpec := { name := "gatePlays", fn := fun _ => fun
  | [d1, d2, d3, d4] => { results := [.lit (.bool false)], args := [d1, d2, d3, d4] }
  | _ => none }
def GatePlaysWrongFalsely : Prop := gatePlaysRow.holds Try.pinned (OpenSpec.ofChange gatePlaysWrong)

/- THE SECOND FORM. 'bulk': how many values and letters a reading holds, each counted each time it is reached (what is shared counts as often as it is met; a slice's spare places count too). A statement '..UptoSaid' is the law's where the arguments, and the package variables that the reading takes, are together of bulk at most 1048576: NARROWER than '..Said'. Prove '..Said' where nothing that the law and all that it calls make is longer than what came in: it says more and counts as full. Else prove '..UptoSaid'. A law counts once. -/
mutual
def uptoBulk {H : Type} : DataW H → Nat
  | .lit (.string bytes) => bytes.length + 1
  | .lit _ => 1
  | .nil => 1
  | .ptr d => uptoBulk d + 1
  | .slice elems spare => uptoBulkAll elems + uptoBulkAll spare + 1
  | .agg parts => uptoBulkAll parts + 1
  | .iface _ d => uptoBulk d + 1
  | .map entries => uptoBulkEntries entries + 1
  | .held _ => 1
def uptoBulkAll {H : Type} : List (DataW H) → Nat
  | [] => 0
  | d :: r => uptoBulk d + uptoBulkAll r
def uptoBulkEntries {H : Type} : List (Lit × DataW H) → Nat
  | [] => 0
  | x :: r => uptoBulkEntry x + uptoBulkEntries r
def uptoBulkEntry {H : Type} : Lit × DataW H → Nat
  | (.string bytes, d) => bytes.length + uptoBulk d + 1
  | (_, d) => uptoBulk d + 1
 end
def uptoSmall : (H : Type) → List (DataW H) → Bool := fun _ ds => decide (uptoBulkAll ds ≤ 1048576)
def OpenSpec.upto (s : _root_.Go.ChangeSpec) : _root_.Go.OpenSpec := { _root_.Go.OpenSpec.ofChange s with cond := some uptoSmall }

/-- 'playpenlaw11.LinkNames', WHERE WHAT IT READS IS OF BULK AT MOST 1048576: true; the input reads as it did. -/
def linkNamesUptoRow : OpenClaim := { program := "ytgppbdcnpailaaa", sum := "0749227f6b8cd291b7e69e5ef922cb0796c5c3dee238c308631711de9fe83a15", func := "playpen/playpenlaw11.LinkNames", spec := "linkNames", apart := false, narrowed := true }
def LinkNamesUptoSaid : Prop := linkNamesUptoRow.holds Try.pinned (OpenSpec.upto linkNamesSpec)

/-- 'playpenlaw16.GateNumber', WHERE WHAT IT READS IS OF BULK AT MOST 1048576: true; the input reads as it did. -/
def gateNumberUptoRow : OpenClaim := { program := "ytgppbdcnpailaaa", sum := "0749227f6b8cd291b7e69e5ef922cb0796c5c3dee238c308631711de9fe83a15", func := "playpen/playpenlaw16.GateNumber", spec := "gateNumber", apart := false, narrowed := true }
def GateNumberUptoSaid : Prop := gateNumberUptoRow.holds Try.pinned (OpenSpec.upto gateNumberSpec)

/-- 'playpenlaw16.GateTurn', WHERE WHAT IT READS IS OF BULK AT MOST 1048576: true; the input reads as it did. -/
def gateTurnUptoRow : OpenClaim := { program := "ytgppbdcnpailaaa", sum := "0749227f6b8cd291b7e69e5ef922cb0796c5c3dee238c308631711de9fe83a15", func := "playpen/playpenlaw16.GateTurn", spec := "gateTurn", apart := false, narrowed := true }
def GateTurnUptoSaid : Prop := gateTurnUptoRow.holds Try.pinned (OpenSpec.upto gateTurnSpec)

/-- 'playpenlaw16.GateFits', WHERE WHAT IT READS IS OF BULK AT MOST 1048576: true; the input reads as it did. -/
def gateFitsUptoRow : OpenClaim := { program := "ytgppbdcnpailaaa", sum := "0749227f6b8cd291b7e69e5ef922cb0796c5c3dee238c308631711de9fe83a15", func := "playpen/playpenlaw16.GateFits", spec := "gateFits", apart := false, narrowed := true }
def GateFitsUptoSaid : Prop := gateFitsUptoRow.holds Try.pinned (OpenSpec.upto gateFitsSpec)

/-- 'playpenlaw16.GateThrough', WHERE WHAT IT READS IS OF BULK AT MOST 1048576: true; the input reads as it did. -/
def gateThroughUptoRow : OpenClaim := { program := "ytgppbdcnpailaaa", sum := "0749227f6b8cd291b7e69e5ef922cb0796c5c3dee238c308631711de9fe83a15", func := "playpen/playpenlaw16.GateThrough", spec := "gateThrough", inPlace := ["maps.clone"], apart := false, narrowed := true }
def GateThroughUptoSaid : Prop := gateThroughUptoRow.holds Try.pinned (OpenSpec.upto gateThroughSpec)

/-- 'playpenlaw16.GateWrites', WHERE WHAT IT READS IS OF BULK AT MOST 1048576: true; the input reads as it did. -/
def gateWritesUptoRow : OpenClaim := { program := "ytgppbdcnpailaaa", sum := "0749227f6b8cd291b7e69e5ef922cb0796c5c3dee238c308631711de9fe83a15", func := "playpen/playpenlaw16.GateWrites", spec := "gateWrites", unfollowed := true, recurses := true, apart := false, narrowed := true }
def GateWritesUptoSaid : Prop := gateWritesUptoRow.holds Try.pinned (OpenSpec.upto gateWritesSpec)

/-- 'playpenlaw09.MemBack', WHERE WHAT IT READS IS OF BULK AT MOST 1048576: true; the input reads as it did. -/
def memBackUptoRow : OpenClaim := { program := "ytgppbdcnpailaaa", sum := "0749227f6b8cd291b7e69e5ef922cb0796c5c3dee238c308631711de9fe83a15", func := "playpen/playpenlaw09.MemBack", spec := "memBack", unfollowed := true, recurses := true, apart := false, narrowed := true }
def MemBackUptoSaid : Prop := memBackUptoRow.holds Try.pinned (OpenSpec.upto memBackSpec)

/-- 'playpenlaw09.MemNames', WHERE WHAT IT READS IS OF BULK AT MOST 1048576: true; the input reads as it did. -/
def memNamesUptoRow : OpenClaim := { program := "ytgppbdcnpailaaa", sum := "0749227f6b8cd291b7e69e5ef922cb0796c5c3dee238c308631711de9fe83a15", func := "playpen/playpenlaw09.MemNames", spec := "memNames", unfollowed := true, recurses := true, apart := false, narrowed := true }
def MemNamesUptoSaid : Prop := memNamesUptoRow.holds Try.pinned (OpenSpec.upto memNamesSpec)

/-- 'playpenlaw09.MemCopies', WHERE WHAT IT READS IS OF BULK AT MOST 1048576: true; the input reads as it did. -/
def memCopiesUptoRow : OpenClaim := { program := "ytgppbdcnpailaaa", sum := "0749227f6b8cd291b7e69e5ef922cb0796c5c3dee238c308631711de9fe83a15", func := "playpen/playpenlaw09.MemCopies", spec := "memCopies", unfollowed := true, recurses := true, apart := false, narrowed := true }
def MemCopiesUptoSaid : Prop := memCopiesUptoRow.holds Try.pinned (OpenSpec.upto memCopiesSpec)

/-- 'playpenlaw09.MemWithin', WHERE WHAT IT READS IS OF BULK AT MOST 1048576: true; the input reads as it did. -/
def memWithinUptoRow : OpenClaim := { program := "ytgppbdcnpailaaa", sum := "0749227f6b8cd291b7e69e5ef922cb0796c5c3dee238c308631711de9fe83a15", func := "playpen/playpenlaw09.MemWithin", spec := "memWithin", unfollowed := true, recurses := true, apart := false, narrowed := true }
def MemWithinUptoSaid : Prop := memWithinUptoRow.holds Try.pinned (OpenSpec.upto memWithinSpec)

/-- 'playpenlaw09.MemNil', WHERE WHAT IT READS IS OF BULK AT MOST 1048576: true; the input reads as it did. -/
def memNilUptoRow : OpenClaim := { program := "ytgppbdcnpailaaa", sum := "0749227f6b8cd291b7e69e5ef922cb0796c5c3dee238c308631711de9fe83a15", func := "playpen/playpenlaw09.MemNil", spec := "memNil", unfollowed := true, recurses := true, apart := false, narrowed := true }
def MemNilUptoSaid : Prop := memNilUptoRow.holds Try.pinned (OpenSpec.upto memNilSpec)

/-- 'playpenlaw09.MemPlays', WHERE WHAT IT READS IS OF BULK AT MOST 1048576: true; the input reads as it did. -/
def memPlaysUptoRow : OpenClaim := { program := "ytgppbdcnpailaaa", sum := "0749227f6b8cd291b7e69e5ef922cb0796c5c3dee238c308631711de9fe83a15", func := "playpen/playpenlaw09.MemPlays", spec := "memPlays", unfollowed := true, recurses := true, apart := false, narrowed := true }
def MemPlaysUptoSaid : Prop := memPlaysUptoRow.holds Try.pinned (OpenSpec.upto memPlaysSpec)

/-- 'playpenlaw09.MemLogs', WHERE WHAT IT READS IS OF BULK AT MOST 1048576: true; the input reads as it did. -/
def memLogsUptoRow : OpenClaim := { program := "ytgppbdcnpailaaa", sum := "0749227f6b8cd291b7e69e5ef922cb0796c5c3dee238c308631711de9fe83a15", func := "playpen/playpenlaw09.MemLogs", spec := "memLogs", unfollowed := true, recurses := true, apart := false, narrowed := true }
def MemLogsUptoSaid : Prop := memLogsUptoRow.holds Try.pinned (OpenSpec.upto memLogsSpec)

/-- 'playpenlaw16.GateLess', WHERE WHAT IT READS IS OF BULK AT MOST 1048576: true; the input reads as it did. -/
def gateLessUptoRow : OpenClaim := { program := "ytgppbdcnpailaaa", sum := "0749227f6b8cd291b7e69e5ef922cb0796c5c3dee238c308631711de9fe83a15", func := "playpen/playpenlaw16.GateLess", spec := "gateLess", inPlace := ["maps.clone"], unfollowed := true, recurses := true, apart := false, narrowed := true }
def GateLessUptoSaid : Prop := gateLessUptoRow.holds Try.pinned (OpenSpec.upto gateLessSpec)

/-- 'playpenlaw16.GateNone', WHERE WHAT IT READS IS OF BULK AT MOST 1048576: true; the input reads as it did. -/
def gateNoneUptoRow : OpenClaim := { program := "ytgppbdcnpailaaa", sum := "0749227f6b8cd291b7e69e5ef922cb0796c5c3dee238c308631711de9fe83a15", func := "playpen/playpenlaw16.GateNone", spec := "gateNone", inPlace := ["maps.clone"], unfollowed := true, recurses := true, apart := false, narrowed := true }
def GateNoneUptoSaid : Prop := gateNoneUptoRow.holds Try.pinned (OpenSpec.upto gateNoneSpec)

/-- 'playpenlaw16.GateKnown', WHERE WHAT IT READS IS OF BULK AT MOST 1048576: true; the input reads as it did. -/
def gateKnownUptoRow : OpenClaim := { program := "ytgppbdcnpailaaa", sum := "0749227f6b8cd291b7e69e5ef922cb0796c5c3dee238c308631711de9fe83a15", func := "playpen/playpenlaw16.GateKnown", spec := "gateKnown", inPlace := ["maps.clone"], unfollowed := true, recurses := true, apart := false, narrowed := true }
def GateKnownUptoSaid : Prop := gateKnownUptoRow.holds Try.pinned (OpenSpec.upto gateKnownSpec)

/-- 'playpenlaw16.GatePlays', WHERE WHAT IT READS IS OF BULK AT MOST 1048576: true; the input reads as it did. -/
def gatePlaysUptoRow : OpenClaim := { program := "ytgppbdcnpailaaa", sum := "0749227f6b8cd291b7e69e5ef922cb0796c5c3dee238c308631711de9fe83a15", func := "playpen/playpenlaw16.GatePlays", spec := "gatePlays", inPlace := ["maps.clone"], unfollowed := true, recurses := true, apart := false, narrowed := true }
def GatePlaysUptoSaid : Prop := gatePlaysUptoRow.holds Try.pinned (OpenSpec.upto gatePlaysSpec)

end Rows
end Go.Proofs.Ytgppbdcnpailaaa
