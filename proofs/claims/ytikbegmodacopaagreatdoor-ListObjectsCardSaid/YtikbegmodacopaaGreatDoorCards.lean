/-
  DERIVED. GIVEN WITH THE SEED: THE CARDS: each row of YtikbegmodacopaaGreatDoorRows.lean that lists a variable, with what it lists TIED to the program's text (the seventh form; the later family's looks); each row that meets fmt, with fmt's text TOLD by the authors' own Lean function (tested against real Go, not proved from fmt's source: count such statements apart). THE CARD IS WHAT COUNTS. Prove the row's statement (the work); the ties are given (YtikbegmodacopaaGreatDoorTie.lean); close each card by the builder's one call (the guide's Derived/Test/ToyasCard.lean, 'card_holds'). Laid BY PROGRAM, IN A SANDBOX (cutbox-door.mjs). By AI agents, Wed Nov 11 2026. No macro, syntax, notation, axiom, sorry.
-/
import Derived.Test.YtikbegmodacopaaGreatDoorRows
import GoSem.ClaimSeven
namespace Go.Proofs.YtikbegmodacopaaGreatDoor
namespace Rows

/-- THE TIED CARD OF 'playpenlaw12.ListObjects'. -/
def listObjectsCard : Claim7 := { stood := { row := listObjectsRow, standIns := [], harness := (true, "3dfc20f9591f8bd351650c688c886435c9ffa0924395a3d8792cc735ae645488"), looks := false }, kinds := [], alts := [], laidByText := true, laidKinds := [.data, .data, .data, .data, .pinned], laidTests := true, laidLooks := .later }
def ListObjectsCardSaid : Prop := Claim7.holds Tryz.pinned (.plain (OpenSpec.ofChange listObjectsSpec)) listObjectsCard

/-- THE TIED CARD OF 'playpenlaw12.ListTexts'. -/
def listTextsCard : Claim7 := { stood := { row := listTextsRow, standIns := [], harness := (true, "3dfc20f9591f8bd351650c688c886435c9ffa0924395a3d8792cc735ae645488"), looks := false }, kinds := [], alts := [], laidByText := true, laidKinds := [.data, .data, .data, .data, .pinned], laidTests := true, laidLooks := .later }
def ListTextsCardSaid : Prop := Claim7.holds Tryz.pinned (.plain (OpenSpec.ofChange listTextsSpec)) listTextsCard

/-- THE TIED CARD OF 'playpenlaw12.ListApart'. -/
def listApartCard : Claim7 := { stood := { row := listApartRow, standIns := [], harness := (true, "3dfc20f9591f8bd351650c688c886435c9ffa0924395a3d8792cc735ae645488"), looks := false }, kinds := [], alts := [], laidByText := true, laidKinds := [.data, .data, .data, .data, .pinned], laidTests := true, laidLooks := .later }
def ListApartCardSaid : Prop := Claim7.holds Tryz.pinned (.plain (OpenSpec.ofChange listApartSpec)) listApartCard

/-- THE TIED CARD OF 'playpenlaw12.ListDumps'. -/
def listDumpsCard : Claim7 := { stood := { row := listDumpsRow, standIns := [], harness := (true, "3dfc20f9591f8bd351650c688c886435c9ffa0924395a3d8792cc735ae645488"), looks := false }, kinds := [], alts := [], laidByText := true, laidKinds := [.data, .data, .data, .data, .pinned], laidTests := true, laidLooks := .later }
def ListDumpsCardSaid : Prop := Claim7.holds Tryz.pinned (.plain (OpenSpec.ofChange listDumpsSpec)) listDumpsCard

/-- THE TIED CARD OF 'playpenlaw12.ListNames'. -/
def listNamesCard : Claim7 := { stood := { row := listNamesRow, standIns := [], harness := (true, "3dfc20f9591f8bd351650c688c886435c9ffa0924395a3d8792cc735ae645488"), looks := false }, kinds := [], alts := [], laidByText := true, laidKinds := [.data, .data, .data, .data, .pinned], laidTests := true, laidLooks := .later }
def ListNamesCardSaid : Prop := Claim7.holds Tryz.pinned (.plain (OpenSpec.ofChange listNamesSpec)) listNamesCard

/-- THE TIED CARD OF 'playpenlaw12.ListBytes'. -/
def listBytesCard : Claim7 := { stood := { row := listBytesRow, standIns := [], harness := (true, "3dfc20f9591f8bd351650c688c886435c9ffa0924395a3d8792cc735ae645488"), looks := false }, kinds := [], alts := [], laidByText := true, laidKinds := [.data, .data, .data, .data, .pinned], laidTests := true, laidLooks := .later }
def ListBytesCardSaid : Prop := Claim7.holds Tryz.pinned (.plain (OpenSpec.ofChange listBytesSpec)) listBytesCard

/-- THE SECOND FORM's CARD OF 'playpenlaw12.ListObjects'. -/
def listObjectsUptoCard : Claim7 := { stood := { row := listObjectsUptoRow, standIns := [], harness := (true, "3dfc20f9591f8bd351650c688c886435c9ffa0924395a3d8792cc735ae645488"), looks := false }, kinds := [], alts := [], laidByText := true, laidKinds := [.data, .data, .data, .data, .pinned], laidTests := true, laidLooks := .later }
def ListObjectsUptoCardSaid : Prop := Claim7.holds Tryz.pinned (.plain (OpenSpec.upto listObjectsSpec)) listObjectsUptoCard

/-- THE SECOND FORM's CARD OF 'playpenlaw12.ListTexts'. -/
def listTextsUptoCard : Claim7 := { stood := { row := listTextsUptoRow, standIns := [], harness := (true, "3dfc20f9591f8bd351650c688c886435c9ffa0924395a3d8792cc735ae645488"), looks := false }, kinds := [], alts := [], laidByText := true, laidKinds := [.data, .data, .data, .data, .pinned], laidTests := true, laidLooks := .later }
def ListTextsUptoCardSaid : Prop := Claim7.holds Tryz.pinned (.plain (OpenSpec.upto listTextsSpec)) listTextsUptoCard

/-- THE SECOND FORM's CARD OF 'playpenlaw12.ListApart'. -/
def listApartUptoCard : Claim7 := { stood := { row := listApartUptoRow, standIns := [], harness := (true, "3dfc20f9591f8bd351650c688c886435c9ffa0924395a3d8792cc735ae645488"), looks := false }, kinds := [], alts := [], laidByText := true, laidKinds := [.data, .data, .data, .data, .pinned], laidTests := true, laidLooks := .later }
def ListApartUptoCardSaid : Prop := Claim7.holds Tryz.pinned (.plain (OpenSpec.upto listApartSpec)) listApartUptoCard

/-- THE SECOND FORM's CARD OF 'playpenlaw12.ListDumps'. -/
def listDumpsUptoCard : Claim7 := { stood := { row := listDumpsUptoRow, standIns := [], harness := (true, "3dfc20f9591f8bd351650c688c886435c9ffa0924395a3d8792cc735ae645488"), looks := false }, kinds := [], alts := [], laidByText := true, laidKinds := [.data, .data, .data, .data, .pinned], laidTests := true, laidLooks := .later }
def ListDumpsUptoCardSaid : Prop := Claim7.holds Tryz.pinned (.plain (OpenSpec.upto listDumpsSpec)) listDumpsUptoCard

/-- THE SECOND FORM's CARD OF 'playpenlaw12.ListNames'. -/
def listNamesUptoCard : Claim7 := { stood := { row := listNamesUptoRow, standIns := [], harness := (true, "3dfc20f9591f8bd351650c688c886435c9ffa0924395a3d8792cc735ae645488"), looks := false }, kinds := [], alts := [], laidByText := true, laidKinds := [.data, .data, .data, .data, .pinned], laidTests := true, laidLooks := .later }
def ListNamesUptoCardSaid : Prop := Claim7.holds Tryz.pinned (.plain (OpenSpec.upto listNamesSpec)) listNamesUptoCard

/-- THE SECOND FORM's CARD OF 'playpenlaw12.ListBytes'. -/
def listBytesUptoCard : Claim7 := { stood := { row := listBytesUptoRow, standIns := [], harness := (true, "3dfc20f9591f8bd351650c688c886435c9ffa0924395a3d8792cc735ae645488"), looks := false }, kinds := [], alts := [], laidByText := true, laidKinds := [.data, .data, .data, .data, .pinned], laidTests := true, laidLooks := .later }
def ListBytesUptoCardSaid : Prop := Claim7.holds Tryz.pinned (.plain (OpenSpec.upto listBytesSpec)) listBytesUptoCard
end Rows
end Go.Proofs.YtikbegmodacopaaGreatDoor
