/-
  DERIVED. GIVEN WITH THE SEED: THE CARDS: each row of YtndlhdmpfnadcaaGreatDoorRows.lean that lists a variable, with what it lists TIED to the program's text (the seventh form; the later family's looks); each row that meets fmt, with fmt's text TOLD by the authors' own Lean function (tested against real Go, not proved from fmt's source: count such statements apart). THE CARD IS WHAT COUNTS. Prove the row's statement (the work); the ties are given (YtndlhdmpfnadcaaGreatDoorTie.lean); close each card by the builder's one call (the guide's Derived/Test/ToyasCard.lean, 'card_holds'). Laid BY PROGRAM, IN A SANDBOX (cutbox-door.mjs). By AI agents, Wed Nov 11 2026. No macro, syntax, notation, axiom, sorry.
-/
import Derived.Test.YtndlhdmpfnadcaaGreatDoorRows
import GoSem.ClaimSeven
namespace Go.Proofs.YtndlhdmpfnadcaaGreatDoor
namespace Rows

/-- THE TIED CARD OF 'laws.FnFormatDerivation'. -/
def fnFormatDerivationCard : Claim7 := { stood := { row := fnFormatDerivationRow, standIns := [], harness := (true, "82f27dcf7dd5a418daddba27ecd183b6cab1aae1b0dab543648c00d615bd4d54"), looks := false }, kinds := [], alts := [], laidByText := true, laidKinds := [.data, .data, .data], laidTests := true, laidLooks := .later }
def FnFormatDerivationCardSaid : Prop := Claim7.holds Tryz.pinned (.plain (OpenSpec.ofChange fnFormatDerivationSpec)) fnFormatDerivationCard

/-- THE SECOND FORM's CARD OF 'laws.FnFormatDerivation'. -/
def fnFormatDerivationUptoCard : Claim7 := { stood := { row := fnFormatDerivationUptoRow, standIns := [], harness := (true, "82f27dcf7dd5a418daddba27ecd183b6cab1aae1b0dab543648c00d615bd4d54"), looks := false }, kinds := [], alts := [], laidByText := true, laidKinds := [.data, .data, .data], laidTests := true, laidLooks := .later }
def FnFormatDerivationUptoCardSaid : Prop := Claim7.holds Tryz.pinned (.plain (OpenSpec.upto fnFormatDerivationSpec)) fnFormatDerivationUptoCard
end Rows
end Go.Proofs.YtndlhdmpfnadcaaGreatDoor
