/-
  DERIVED. GIVEN WITH THE SEED: THE CARDS: each row of YtmbofpeedjlfhaaDoorRows.lean that lists a variable, with what it lists TIED to the program's text (the seventh form; the later family's looks); each row that meets fmt, with fmt's text TOLD by the authors' own Lean function (tested against real Go, not proved from fmt's source: count such statements apart). THE CARD IS WHAT COUNTS. Prove the row's statement (the work); the ties are given (YtmbofpeedjlfhaaDoorTie.lean); close each card by the builder's one call (the guide's Derived/Test/ToyasCard.lean, 'card_holds'). Laid BY PROGRAM, IN A SANDBOX (cutbox-door.mjs). By AI agents, Wed Nov 11 2026. No macro, syntax, notation, axiom, sorry.
-/
import Derived.Test.YtmbofpeedjlfhaaDoorRows
import GoSem.ClaimSeven
namespace Go.Proofs.YtmbofpeedjlfhaaDoor
namespace Rows

/-- THE TIED CARD OF 'playpenlaw01.TextTokens'. -/
def textTokensCard : Claim7 := { stood := { row := textTokensRow, standIns := [], harness := (true, "57a00044f2de789cf469bfff59459a2537b41f692698c304582b85c44d2b5668"), looks := false }, kinds := [], alts := [], laidByText := true, laidKinds := [.data, .pinned], laidTests := true, laidLooks := .later }
def TextTokensCardSaid : Prop := Claim7.holds Tryd.pinned (.plain (OpenSpec.ofChange textTokensSpec)) textTokensCard

/-- THE TIED CARD OF 'playpenlaw01.TextStands'. -/
def textStandsCard : Claim7 := { stood := { row := textStandsRow, standIns := [], harness := (true, "57a00044f2de789cf469bfff59459a2537b41f692698c304582b85c44d2b5668"), looks := false }, kinds := [], alts := [], laidByText := true, laidKinds := [.data, .pinned], laidTests := true, laidLooks := .later }
def TextStandsCardSaid : Prop := Claim7.holds Tryd.pinned (.plain (OpenSpec.ofChange textStandsSpec)) textStandsCard

/-- THE TIED CARD OF 'playpenlaw01.TextGlue'. -/
def textGlueCard : Claim7 := { stood := { row := textGlueRow, standIns := [], harness := (true, "57a00044f2de789cf469bfff59459a2537b41f692698c304582b85c44d2b5668"), looks := false }, kinds := [], alts := [], laidByText := true, laidKinds := [.data, .pinned], laidTests := true, laidLooks := .later }
def TextGlueCardSaid : Prop := Claim7.holds Tryd.pinned (.plain (OpenSpec.ofChange textGlueSpec)) textGlueCard

/-- THE TIED CARD OF 'playpenlaw01.TextGlued'. -/
def textGluedCard : Claim7 := { stood := { row := textGluedRow, standIns := [], harness := (true, "57a00044f2de789cf469bfff59459a2537b41f692698c304582b85c44d2b5668"), looks := false }, kinds := [], alts := [], laidByText := true, laidKinds := [.data, .pinned], laidTests := true, laidLooks := .later }
def TextGluedCardSaid : Prop := Claim7.holds Tryd.pinned (.plain (OpenSpec.ofChange textGluedSpec)) textGluedCard

/-- THE TIED CARD OF 'playpenlaw01.TextKnown'. -/
def textKnownCard : Claim7 := { stood := { row := textKnownRow, standIns := [], harness := (true, "57a00044f2de789cf469bfff59459a2537b41f692698c304582b85c44d2b5668"), looks := false }, kinds := [], alts := [], laidByText := true, laidKinds := [.data, .pinned], laidTests := true, laidLooks := .later }
def TextKnownCardSaid : Prop := Claim7.holds Tryd.pinned (.plain (OpenSpec.ofChange textKnownSpec)) textKnownCard

/-- THE SECOND FORM's CARD OF 'playpenlaw01.TextTokens'. -/
def textTokensUptoCard : Claim7 := { stood := { row := textTokensUptoRow, standIns := [], harness := (true, "57a00044f2de789cf469bfff59459a2537b41f692698c304582b85c44d2b5668"), looks := false }, kinds := [], alts := [], laidByText := true, laidKinds := [.data, .pinned], laidTests := true, laidLooks := .later }
def TextTokensUptoCardSaid : Prop := Claim7.holds Tryd.pinned (.plain (OpenSpec.upto textTokensSpec)) textTokensUptoCard

/-- THE SECOND FORM's CARD OF 'playpenlaw01.TextStands'. -/
def textStandsUptoCard : Claim7 := { stood := { row := textStandsUptoRow, standIns := [], harness := (true, "57a00044f2de789cf469bfff59459a2537b41f692698c304582b85c44d2b5668"), looks := false }, kinds := [], alts := [], laidByText := true, laidKinds := [.data, .pinned], laidTests := true, laidLooks := .later }
def TextStandsUptoCardSaid : Prop := Claim7.holds Tryd.pinned (.plain (OpenSpec.upto textStandsSpec)) textStandsUptoCard

/-- THE SECOND FORM's CARD OF 'playpenlaw01.TextGlue'. -/
def textGlueUptoCard : Claim7 := { stood := { row := textGlueUptoRow, standIns := [], harness := (true, "57a00044f2de789cf469bfff59459a2537b41f692698c304582b85c44d2b5668"), looks := false }, kinds := [], alts := [], laidByText := true, laidKinds := [.data, .pinned], laidTests := true, laidLooks := .later }
def TextGlueUptoCardSaid : Prop := Claim7.holds Tryd.pinned (.plain (OpenSpec.upto textGlueSpec)) textGlueUptoCard

/-- THE SECOND FORM's CARD OF 'playpenlaw01.TextGlued'. -/
def textGluedUptoCard : Claim7 := { stood := { row := textGluedUptoRow, standIns := [], harness := (true, "57a00044f2de789cf469bfff59459a2537b41f692698c304582b85c44d2b5668"), looks := false }, kinds := [], alts := [], laidByText := true, laidKinds := [.data, .pinned], laidTests := true, laidLooks := .later }
def TextGluedUptoCardSaid : Prop := Claim7.holds Tryd.pinned (.plain (OpenSpec.upto textGluedSpec)) textGluedUptoCard

/-- THE SECOND FORM's CARD OF 'playpenlaw01.TextKnown'. -/
def textKnownUptoCard : Claim7 := { stood := { row := textKnownUptoRow, standIns := [], harness := (true, "57a00044f2de789cf469bfff59459a2537b41f692698c304582b85c44d2b5668"), looks := false }, kinds := [], alts := [], laidByText := true, laidKinds := [.data, .pinned], laidTests := true, laidLooks := .later }
def TextKnownUptoCardSaid : Prop := Claim7.holds Tryd.pinned (.plain (OpenSpec.upto textKnownSpec)) textKnownUptoCard
end Rows
end Go.Proofs.YtmbofpeedjlfhaaDoor
