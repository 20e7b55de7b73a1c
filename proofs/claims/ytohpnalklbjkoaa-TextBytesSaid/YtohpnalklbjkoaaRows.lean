/-
  No cell of these rows narrows 'for every input' (looked for: loops, veiled, ifaces, maps, wideKeys, modest, calm, conditions, laid).
  DERIVED. THE GIVEN ROWS OF THIS SEAT. 11 by the template 'for every input the law returns true; each argument reads behind the call as it read before'; 0 by the template 'total and deterministic' (their statements: YtohpnalklbjkoaaTotals.lean).
  GIVEN WITH THE SEED: the statements are not yours to turn. If you find one false, say at which input.
  Laid BY PROGRAM, IN A SANDBOX (cutbox-rows.mjs): the forced cells as the released guide's own fill.sh prints them over the translation 82b90c8f888b9bca… (all of the seat's roots in one cut). By AI agents, Wed Nov 11 2026. No macro, syntax, notation, axiom, sorry.
-/
import Derived.Test.YtohpnalklbjkoaaChecked
import GoSem.Claim
import GoSem.ClaimJoined
import GoSem.ClaimMapViews
import Derived.JoinedTies
import Derived.KernelRfl
namespace Go.Proofs.Ytohpnalklbjkoaa
/- THE CELL 'sum', in the pinned program and in every row, IS THE sha256 OF THE DUMP (.gsa) THAT YtohpnalklbjkoaaProg.lean LOADS. Nothing in Lean hashes anything: it is a label: what it is worth is what the hold of that sum in a sandbox is worth. -/
noncomputable def Try.pinned : Pinned := { name := "ytohpnalklbjkoaa", sum := "82b90c8f888b9bca138fda18667dd8cd2d9d5593820fb22a1aeb5770811aef69", checked := Try.checked }
namespace Rows
def none {H : Type} : Left H := { results := [], args := [] }

/-- 'playpenlaw01.TextRunes': WHATEVER THE INPUT: true; the input reads as it did. -/
def textRunesSpec : ChangeSpec := { name := "textRunes", fn := fun _ => fun
  | [d1, d2] => { results := [.lit (.bool true)], args := [d1, d2] }
  | _ => none }
def textRunesRow : OpenClaim := { program := "ytohpnalklbjkoaa", sum := "82b90c8f888b9bca138fda18667dd8cd2d9d5593820fb22a1aeb5770811aef69", func := "playpen/playpenlaw01.TextRunes", spec := "textRunes", unfollowed := true, recurses := true, apart := false }
def TextRunesSaid : Prop := textRunesRow.holds Try.pinned (OpenSpec.ofChange textRunesSpec)

/-- ITS FALSE NEIGHBOUR: 'it returns false'. Refute it at one input. -/
def textRunesWrong : ChangeSpec := { name := "textRunes", fn := fun _ => fun
  | [d1, d2] => { results := [.lit (.bool false)], args := [d1, d2] }
  | _ => none }
def TextRunesWrongFalsely : Prop := textRunesRow.holds Try.pinned (OpenSpec.ofChange textRunesWrong)

/-- 'playpenlaw01.TextCoded': WHATEVER THE INPUT: true; the input reads as it did. -/
def textCodedSpec : ChangeSpec := { name := "textCoded", fn := fun _ => fun
  | [d] => { results := [.lit (.bool true)], args := [d] }
  | _ => none }
def textCodedRow : OpenClaim := { program := "ytohpnalklbjkoaa", sum := "82b90c8f888b9bca138fda18667dd8cd2d9d5593820fb22a1aeb5770811aef69", func := "playpen/playpenlaw01.TextCoded", spec := "textCoded", unfollowed := true, recurses := true, apart := false }
def TextCodedSaid : Prop := textCodedRow.holds Try.pinned (OpenSpec.ofChange textCodedSpec)

/-- ITS FALSE NEIGHBOUR: 'it returns false'. Refute it at one input. -/
def textCodedWrong : ChangeSpec := { name := "textCoded", fn := fun _ => fun
  | [d] => { results := [.lit (.bool false)], args := [d] }
  | _ => none }
def TextCodedWrongFalsely : Prop := textCodedRow.holds Try.pinned (OpenSpec.ofChange textCodedWrong)

/-- 'playpenlaw01.TextWhole': WHATEVER THE INPUT: true; the input reads as it did. -/
def textWholeSpec : ChangeSpec := { name := "textWhole", fn := fun _ => fun
  | [d] => { results := [.lit (.bool true)], args := [d] }
  | _ => none }
def textWholeRow : OpenClaim := { program := "ytohpnalklbjkoaa", sum := "82b90c8f888b9bca138fda18667dd8cd2d9d5593820fb22a1aeb5770811aef69", func := "playpen/playpenlaw01.TextWhole", spec := "textWhole", unfollowed := true, recurses := true, apart := false }
def TextWholeSaid : Prop := textWholeRow.holds Try.pinned (OpenSpec.ofChange textWholeSpec)

/-- ITS FALSE NEIGHBOUR: 'it returns false'. Refute it at one input. -/
def textWholeWrong : ChangeSpec := { name := "textWhole", fn := fun _ => fun
  | [d] => { results := [.lit (.bool false)], args := [d] }
  | _ => none }
def TextWholeWrongFalsely : Prop := textWholeRow.holds Try.pinned (OpenSpec.ofChange textWholeWrong)

/-- 'playpenlaw01.TextShow': WHATEVER THE INPUT: true; the input reads as it did. -/
def textShowSpec : ChangeSpec := { name := "textShow", fn := fun _ => fun
  | [d] => { results := [.lit (.bool true)], args := [d] }
  | _ => none }
def textShowRow : OpenClaim := { program := "ytohpnalklbjkoaa", sum := "82b90c8f888b9bca138fda18667dd8cd2d9d5593820fb22a1aeb5770811aef69", func := "playpen/playpenlaw01.TextShow", spec := "textShow", inPlace := ["internal/abi.NoEscape"], apart := false }
def TextShowSaid : Prop := textShowRow.holds Try.pinned (OpenSpec.ofChange textShowSpec)

/-- ITS FALSE NEIGHBOUR: 'it returns false'. Refute it at one input. -/
def textShowWrong : ChangeSpec := { name := "textShow", fn := fun _ => fun
  | [d] => { results := [.lit (.bool false)], args := [d] }
  | _ => none }
def TextShowWrongFalsely : Prop := textShowRow.holds Try.pinned (OpenSpec.ofChange textShowWrong)

/-- 'playpenlaw01.TextRune': WHATEVER THE INPUT: true; the input reads as it did. -/
def textRuneSpec : ChangeSpec := { name := "textRune", fn := fun _ => fun
  | [d] => { results := [.lit (.bool true)], args := [d] }
  | _ => none }
def textRuneRow : OpenClaim := { program := "ytohpnalklbjkoaa", sum := "82b90c8f888b9bca138fda18667dd8cd2d9d5593820fb22a1aeb5770811aef69", func := "playpen/playpenlaw01.TextRune", spec := "textRune", unfollowed := true, recurses := true, apart := false }
def TextRuneSaid : Prop := textRuneRow.holds Try.pinned (OpenSpec.ofChange textRuneSpec)

/-- ITS FALSE NEIGHBOUR: 'it returns false'. Refute it at one input. -/
def textRuneWrong : ChangeSpec := { name := "textRune", fn := fun _ => fun
  | [d] => { results := [.lit (.bool false)], args := [d] }
  | _ => none }
def TextRuneWrongFalsely : Prop := textRuneRow.holds Try.pinned (OpenSpec.ofChange textRuneWrong)

/-- 'playpenlaw01.TextBytes': WHATEVER THE INPUT: true; the input reads as it did. -/
def textBytesSpec : ChangeSpec := { name := "textBytes", fn := fun _ => fun
  | [d1, d2] => { results := [.lit (.bool true)], args := [d1, d2] }
  | _ => none }
def textBytesRow : OpenClaim := { program := "ytohpnalklbjkoaa", sum := "82b90c8f888b9bca138fda18667dd8cd2d9d5593820fb22a1aeb5770811aef69", func := "playpen/playpenlaw01.TextBytes", spec := "textBytes", unfollowed := true, recurses := true, apart := false }
def TextBytesSaid : Prop := textBytesRow.holds Try.pinned (OpenSpec.ofChange textBytesSpec)

/-- ITS FALSE NEIGHBOUR: 'it returns false'. Refute it at one input. -/
def textBytesWrong : ChangeSpec := { name := "textBytes", fn := fun _ => fun
  | [d1, d2] => { results := [.lit (.bool false)], args := [d1, d2] }
  | _ => none }
def TextBytesWrongFalsely : Prop := textBytesRow.holds Try.pinned (OpenSpec.ofChange textBytesWrong)

/-- 'playpenlaw01.TextWhere': WHATEVER THE INPUT: true; the input reads as it did. -/
def textWhereSpec : ChangeSpec := { name := "textWhere", fn := fun _ => fun
  | [d1, d2] => { results := [.lit (.bool true)], args := [d1, d2] }
  | _ => none }
def textWhereRow : OpenClaim := { program := "ytohpnalklbjkoaa", sum := "82b90c8f888b9bca138fda18667dd8cd2d9d5593820fb22a1aeb5770811aef69", func := "playpen/playpenlaw01.TextWhere", spec := "textWhere", inPlace := ["internal/bytealg.CountString", "internal/bytealg.IndexByteString", "internal/bytealg.IndexString"], unfollowed := true, recurses := true, named := ["internal/bytealg.MaxLen"], apart := false }
def TextWhereSaid : Prop := textWhereRow.holds Try.pinned (OpenSpec.ofChange textWhereSpec)

/-- ITS FALSE NEIGHBOUR: 'it returns false'. Refute it at one input. -/
def textWhereWrong : ChangeSpec := { name := "textWhere", fn := fun _ => fun
  | [d1, d2] => { results := [.lit (.bool false)], args := [d1, d2] }
  | _ => none }
def TextWhereWrongFalsely : Prop := textWhereRow.holds Try.pinned (OpenSpec.ofChange textWhereWrong)

/-- 'playpenlaw01.TextLines': WHATEVER THE INPUT: true; the input reads as it did. -/
def textLinesSpec : ChangeSpec := { name := "textLines", fn := fun _ => fun
  | [d1, d2] => { results := [.lit (.bool true)], args := [d1, d2] }
  | _ => none }
def textLinesRow : OpenClaim := { program := "ytohpnalklbjkoaa", sum := "82b90c8f888b9bca138fda18667dd8cd2d9d5593820fb22a1aeb5770811aef69", func := "playpen/playpenlaw01.TextLines", spec := "textLines", inPlace := ["internal/bytealg.CountString", "internal/bytealg.IndexByteString", "internal/bytealg.IndexString"], unfollowed := true, recurses := true, named := ["internal/bytealg.MaxLen"], apart := false }
def TextLinesSaid : Prop := textLinesRow.holds Try.pinned (OpenSpec.ofChange textLinesSpec)

/-- ITS FALSE NEIGHBOUR: 'it returns false'. Refute it at one input. -/
def textLinesWrong : ChangeSpec := { name := "textLines", fn := fun _ => fun
  | [d1, d2] => { results := [.lit (.bool false)], args := [d1, d2] }
  | _ => none }
def TextLinesWrongFalsely : Prop := textLinesRow.holds Try.pinned (OpenSpec.ofChange textLinesWrong)

/-- 'playpenlaw01.TextGuest': WHATEVER THE INPUT: true; the input reads as it did. -/
def textGuestSpec : ChangeSpec := { name := "textGuest", fn := fun _ => fun
  | [d] => { results := [.lit (.bool true)], args := [d] }
  | _ => none }
def textGuestRow : OpenClaim := { program := "ytohpnalklbjkoaa", sum := "82b90c8f888b9bca138fda18667dd8cd2d9d5593820fb22a1aeb5770811aef69", func := "playpen/playpenlaw01.TextGuest", spec := "textGuest", inPlace := ["internal/bytealg.IndexByteString", "internal/bytealg.IndexString", "internal/abi.NoEscape"], unfollowed := true, recurses := true, named := ["internal/bytealg.MaxLen"], apart := false }
def TextGuestSaid : Prop := textGuestRow.holds Try.pinned (OpenSpec.ofChange textGuestSpec)

/-- ITS FALSE NEIGHBOUR: 'it returns false'. Refute it at one input. -/
def textGuestWrong : ChangeSpec := { name := "textGuest", fn := fun _ => fun
  | [d] => { results := [.lit (.bool false)], args := [d] }
  | _ => none }
def TextGuestWrongFalsely : Prop := textGuestRow.holds Try.pinned (OpenSpec.ofChange textGuestWrong)

/-- 'playpenlaw01.TextGuests': WHATEVER THE INPUT: true; the input reads as it did. -/
def textGuestsSpec : ChangeSpec := { name := "textGuests", fn := fun _ => fun
  | [d] => { results := [.lit (.bool true)], args := [d] }
  | _ => none }
def textGuestsRow : OpenClaim := { program := "ytohpnalklbjkoaa", sum := "82b90c8f888b9bca138fda18667dd8cd2d9d5593820fb22a1aeb5770811aef69", func := "playpen/playpenlaw01.TextGuests", spec := "textGuests", inPlace := ["internal/bytealg.IndexByteString", "internal/bytealg.IndexString", "internal/abi.NoEscape"], unfollowed := true, recurses := true, named := ["internal/bytealg.MaxLen"], apart := false }
def TextGuestsSaid : Prop := textGuestsRow.holds Try.pinned (OpenSpec.ofChange textGuestsSpec)

/-- ITS FALSE NEIGHBOUR: 'it returns false'. Refute it at one input. -/
def textGuestsWrong : ChangeSpec := { name := "textGuests", fn := fun _ => fun
  | [d] => { results := [.lit (.bool false)], args := [d] }
  | _ => none }
def TextGuestsWrongFalsely : Prop := textGuestsRow.holds Try.pinned (OpenSpec.ofChange textGuestsWrong)

/-- 'playpenlaw01.TextBack': WHATEVER THE INPUT: true; the input reads as it did. -/
def textBackSpec : ChangeSpec := { name := "textBack", fn := fun _ => fun
  | [d] => { results := [.lit (.bool true)], args := [d] }
  | _ => none }
def textBackRow : OpenClaim := { program := "ytohpnalklbjkoaa", sum := "82b90c8f888b9bca138fda18667dd8cd2d9d5593820fb22a1aeb5770811aef69", func := "playpen/playpenlaw01.TextBack", spec := "textBack", inPlace := ["internal/abi.NoEscape"], unfollowed := true, recurses := true, apart := false }
def TextBackSaid : Prop := textBackRow.holds Try.pinned (OpenSpec.ofChange textBackSpec)

/-- ITS FALSE NEIGHBOUR: 'it returns false'. Refute it at one input. -/
def textBackWrong : ChangeSpec := { name := "textBack", fn := fun _ => fun
  | [d] => { results := [.lit (.bool false)], args := [d] }
  | _ => none }
def TextBackWrongFalsely : Prop := textBackRow.holds Try.pinned (OpenSpec.ofChange textBackWrong)

/- THE SECOND FORM. 'bulk': how many values and letters a reading holds, each counted each time it is reached (what is shared counts as often as it is met; a slice's spare places count too). A statement '..UptoSaid' is the law's where the arguments, and the package variables that the reading takes, are together of bulk at most 1048576: NARROWER than '..Said'. Prove '..Said' where nothing that the law and all that it calls make is longer than what came in: it says more and counts as full. Else prove '..UptoSaid'. A law counts once. -/
mutual
def uptoBulk {H : Type} : DataW H → Nat
  | .lit (.string bytes) => bytes.length + 1
  | .lit _ => 1
  | .nil => 1
  | .ptr d => uptoBulk d + 1
  | .slice elems spare => uptoBulkAll elems + uptoBulkAll spare + 1
  | .agg parts => uptoBulkAll parts + 1
  | .iface _ d => uptoBulk d + 1
  | .map entries => uptoBulkEntries entries + 1
  | .held _ => 1
def uptoBulkAll {H : Type} : List (DataW H) → Nat
  | [] => 0
  | d :: r => uptoBulk d + uptoBulkAll r
def uptoBulkEntries {H : Type} : List (Lit × DataW H) → Nat
  | [] => 0
  | x :: r => uptoBulkEntry x + uptoBulkEntries r
def uptoBulkEntry {H : Type} : Lit × DataW H → Nat
  | (.string bytes, d) => bytes.length + uptoBulk d + 1
  | (_, d) => uptoBulk d + 1
 end
def uptoSmall : (H : Type) → List (DataW H) → Bool := fun _ ds => decide (uptoBulkAll ds ≤ 1048576)
def OpenSpec.upto (s : _root_.Go.ChangeSpec) : _root_.Go.OpenSpec := { _root_.Go.OpenSpec.ofChange s with cond := some uptoSmall }

/-- 'playpenlaw01.TextRunes', WHERE WHAT IT READS IS OF BULK AT MOST 1048576: true; the input reads as it did. -/
def textRunesUptoRow : OpenClaim := { program := "ytohpnalklbjkoaa", sum := "82b90c8f888b9bca138fda18667dd8cd2d9d5593820fb22a1aeb5770811aef69", func := "playpen/playpenlaw01.TextRunes", spec := "textRunes", unfollowed := true, recurses := true, apart := false, narrowed := true }
def TextRunesUptoSaid : Prop := textRunesUptoRow.holds Try.pinned (OpenSpec.upto textRunesSpec)

/-- 'playpenlaw01.TextCoded', WHERE WHAT IT READS IS OF BULK AT MOST 1048576: true; the input reads as it did. -/
def textCodedUptoRow : OpenClaim := { program := "ytohpnalklbjkoaa", sum := "82b90c8f888b9bca138fda18667dd8cd2d9d5593820fb22a1aeb5770811aef69", func := "playpen/playpenlaw01.TextCoded", spec := "textCoded", unfollowed := true, recurses := true, apart := false, narrowed := true }
def TextCodedUptoSaid : Prop := textCodedUptoRow.holds Try.pinned (OpenSpec.upto textCodedSpec)

/-- 'playpenlaw01.TextWhole', WHERE WHAT IT READS IS OF BULK AT MOST 1048576: true; the input reads as it did. -/
def textWholeUptoRow : OpenClaim := { program := "ytohpnalklbjkoaa", sum := "82b90c8f888b9bca138fda18667dd8cd2d9d5593820fb22a1aeb5770811aef69", func := "playpen/playpenlaw01.TextWhole", spec := "textWhole", unfollowed := true, recurses := true, apart := false, narrowed := true }
def TextWholeUptoSaid : Prop := textWholeUptoRow.holds Try.pinned (OpenSpec.upto textWholeSpec)

/-- 'playpenlaw01.TextShow', WHERE WHAT IT READS IS OF BULK AT MOST 1048576: true; the input reads as it did. -/
def textShowUptoRow : OpenClaim := { program := "ytohpnalklbjkoaa", sum := "82b90c8f888b9bca138fda18667dd8cd2d9d5593820fb22a1aeb5770811aef69", func := "playpen/playpenlaw01.TextShow", spec := "textShow", inPlace := ["internal/abi.NoEscape"], apart := false, narrowed := true }
def TextShowUptoSaid : Prop := textShowUptoRow.holds Try.pinned (OpenSpec.upto textShowSpec)

/-- 'playpenlaw01.TextRune', WHERE WHAT IT READS IS OF BULK AT MOST 1048576: true; the input reads as it did. -/
def textRuneUptoRow : OpenClaim := { program := "ytohpnalklbjkoaa", sum := "82b90c8f888b9bca138fda18667dd8cd2d9d5593820fb22a1aeb5770811aef69", func := "playpen/playpenlaw01.TextRune", spec := "textRune", unfollowed := true, recurses := true, apart := false, narrowed := true }
def TextRuneUptoSaid : Prop := textRuneUptoRow.holds Try.pinned (OpenSpec.upto textRuneSpec)

/-- 'playpenlaw01.TextBytes', WHERE WHAT IT READS IS OF BULK AT MOST 1048576: true; the input reads as it did. -/
def textBytesUptoRow : OpenClaim := { program := "ytohpnalklbjkoaa", sum := "82b90c8f888b9bca138fda18667dd8cd2d9d5593820fb22a1aeb5770811aef69", func := "playpen/playpenlaw01.TextBytes", spec := "textBytes", unfollowed := true, recurses := true, apart := false, narrowed := true }
def TextBytesUptoSaid : Prop := textBytesUptoRow.holds Try.pinned (OpenSpec.upto textBytesSpec)

/-- 'playpenlaw01.TextWhere', WHERE WHAT IT READS IS OF BULK AT MOST 1048576: true; the input reads as it did. -/
def textWhereUptoRow : OpenClaim := { program := "ytohpnalklbjkoaa", sum := "82b90c8f888b9bca138fda18667dd8cd2d9d5593820fb22a1aeb5770811aef69", func := "playpen/playpenlaw01.TextWhere", spec := "textWhere", inPlace := ["internal/bytealg.CountString", "internal/bytealg.IndexByteString", "internal/bytealg.IndexString"], unfollowed := true, recurses := true, named := ["internal/bytealg.MaxLen"], apart := false, narrowed := true }
def TextWhereUptoSaid : Prop := textWhereUptoRow.holds Try.pinned (OpenSpec.upto textWhereSpec)

/-- 'playpenlaw01.TextLines', WHERE WHAT IT READS IS OF BULK AT MOST 1048576: true; the input reads as it did. -/
def textLinesUptoRow : OpenClaim := { program := "ytohpnalklbjkoaa", sum := "82b90c8f888b9bca138fda18667dd8cd2d9d5593820fb22a1aeb5770811aef69", func := "playpen/playpenlaw01.TextLines", spec := "textLines", inPlace := ["internal/bytealg.CountString", "internal/bytealg.IndexByteString", "internal/bytealg.IndexString"], unfollowed := true, recurses := true, named := ["internal/bytealg.MaxLen"], apart := false, narrowed := true }
def TextLinesUptoSaid : Prop := textLinesUptoRow.holds Try.pinned (OpenSpec.upto textLinesSpec)

/-- 'playpenlaw01.TextGuest', WHERE WHAT IT READS IS OF BULK AT MOST 1048576: true; the input reads as it did. -/
def textGuestUptoRow : OpenClaim := { program := "ytohpnalklbjkoaa", sum := "82b90c8f888b9bca138fda18667dd8cd2d9d5593820fb22a1aeb5770811aef69", func := "playpen/playpenlaw01.TextGuest", spec := "textGuest", inPlace := ["internal/bytealg.IndexByteString", "internal/bytealg.IndexString", "internal/abi.NoEscape"], unfollowed := true, recurses := true, named := ["internal/bytealg.MaxLen"], apart := false, narrowed := true }
def TextGuestUptoSaid : Prop := textGuestUptoRow.holds Try.pinned (OpenSpec.upto textGuestSpec)

/-- 'playpenlaw01.TextGuests', WHERE WHAT IT READS IS OF BULK AT MOST 1048576: true; the input reads as it did. -/
def textGuestsUptoRow : OpenClaim := { program := "ytohpnalklbjkoaa", sum := "82b90c8f888b9bca138fda18667dd8cd2d9d5593820fb22a1aeb5770811aef69", func := "playpen/playpenlaw01.TextGuests", spec := "textGuests", inPlace := ["internal/bytealg.IndexByteString", "internal/bytealg.IndexString", "internal/abi.NoEscape"], unfollowed := true, recurses := true, named := ["internal/bytealg.MaxLen"], apart := false, narrowed := true }
def TextGuestsUptoSaid : Prop := textGuestsUptoRow.holds Try.pinned (OpenSpec.upto textGuestsSpec)

/-- 'playpenlaw01.TextBack', WHERE WHAT IT READS IS OF BULK AT MOST 1048576: true; the input reads as it did. -/
def textBackUptoRow : OpenClaim := { program := "ytohpnalklbjkoaa", sum := "82b90c8f888b9bca138fda18667dd8cd2d9d5593820fb22a1aeb5770811aef69", func := "playpen/playpenlaw01.TextBack", spec := "textBack", inPlace := ["internal/abi.NoEscape"], unfollowed := true, recurses := true, apart := false, narrowed := true }
def TextBackUptoSaid : Prop := textBackUptoRow.holds Try.pinned (OpenSpec.upto textBackSpec)

end Rows
end Go.Proofs.Ytohpnalklbjkoaa
