/-
  DERIVED. GIVEN WITH THE SEED: THE CARDS: each row of YtnkfjileaonemaaGreatDoorRows.lean that lists a variable, with what it lists TIED to the program's text (the seventh form; the later family's looks); each row that meets fmt, with fmt's text TOLD by the authors' own Lean function (tested against real Go, not proved from fmt's source: count such statements apart). THE CARD IS WHAT COUNTS. Prove the row's statement (the work); the ties are given (YtnkfjileaonemaaGreatDoorTie.lean); close each card by the builder's one call (the guide's Derived/Test/ToyasCard.lean, 'card_holds'). Laid BY PROGRAM, IN A SANDBOX (cutbox-door.mjs). By AI agents, Wed Nov 11 2026. No macro, syntax, notation, axiom, sorry.
-/
import Derived.Test.YtnkfjileaonemaaGreatDoorRows
import GoSem.ClaimSeven
namespace Go.Proofs.YtnkfjileaonemaaGreatDoor
namespace Rows

/-- THE TIED CARD OF 'playpenlaw10.AsmCheck'. -/
def asmCheckCard : Claim7 := { stood := { row := asmCheckRow, standIns := [], harness := (true, "4e5e31a693bdbf49a4ebe934785bc53576299dd79f0c2854cd12b57b3866401d"), looks := false }, kinds := [], alts := [], laidByText := true, laidKinds := [.data, .pinned], laidTests := true, laidLooks := .later }
def AsmCheckCardSaid : Prop := Claim7.holds Tryz.pinned (.plain (OpenSpec.ofChange asmCheckSpec)) asmCheckCard

/-- THE TIED CARD OF 'playpenlaw10.AsmPrint'. -/
def asmPrintCard : Claim7 := { stood := { row := asmPrintRow, standIns := [], harness := (true, "4e5e31a693bdbf49a4ebe934785bc53576299dd79f0c2854cd12b57b3866401d"), looks := false }, kinds := [], alts := [], laidByText := true, laidKinds := [.data, .data, .data, .data, .pinned], laidTests := true, laidLooks := .later }
def AsmPrintCardSaid : Prop := Claim7.holds Tryz.pinned (.plain (OpenSpec.ofChange asmPrintSpec)) asmPrintCard

/-- THE SECOND FORM's CARD OF 'playpenlaw10.AsmCheck'. -/
def asmCheckUptoCard : Claim7 := { stood := { row := asmCheckUptoRow, standIns := [], harness := (true, "4e5e31a693bdbf49a4ebe934785bc53576299dd79f0c2854cd12b57b3866401d"), looks := false }, kinds := [], alts := [], laidByText := true, laidKinds := [.data, .pinned], laidTests := true, laidLooks := .later }
def AsmCheckUptoCardSaid : Prop := Claim7.holds Tryz.pinned (.plain (OpenSpec.upto asmCheckSpec)) asmCheckUptoCard

/-- THE SECOND FORM's CARD OF 'playpenlaw10.AsmPrint'. -/
def asmPrintUptoCard : Claim7 := { stood := { row := asmPrintUptoRow, standIns := [], harness := (true, "4e5e31a693bdbf49a4ebe934785bc53576299dd79f0c2854cd12b57b3866401d"), looks := false }, kinds := [], alts := [], laidByText := true, laidKinds := [.data, .data, .data, .data, .pinned], laidTests := true, laidLooks := .later }
def AsmPrintUptoCardSaid : Prop := Claim7.holds Tryz.pinned (.plain (OpenSpec.upto asmPrintSpec)) asmPrintUptoCard
end Rows
end Go.Proofs.YtnkfjileaonemaaGreatDoor
