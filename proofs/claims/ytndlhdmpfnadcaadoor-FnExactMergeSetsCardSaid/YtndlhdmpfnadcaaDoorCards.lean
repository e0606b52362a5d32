/-
  DERIVED. GIVEN WITH THE SEED: THE CARDS: each row of YtndlhdmpfnadcaaDoorRows.lean that lists a variable, with what it lists TIED to the program's text (the seventh form; the later family's looks); each row that meets fmt, with fmt's text TOLD by the authors' own Lean function (tested against real Go, not proved from fmt's source: count such statements apart). THE CARD IS WHAT COUNTS. Prove the row's statement (the work); the ties are given (YtndlhdmpfnadcaaDoorTie.lean); close each card by the builder's one call (the guide's Derived/Test/ToyasCard.lean, 'card_holds'). Laid BY PROGRAM, IN A SANDBOX (cutbox-door.mjs). By AI agents, Wed Nov 11 2026. No macro, syntax, notation, axiom, sorry.
-/
import Derived.Test.YtndlhdmpfnadcaaDoorRows
import GoSem.ClaimSeven
namespace Go.Proofs.YtndlhdmpfnadcaaDoor
namespace Rows

/-- THE TIED CARD OF 'laws.FnExactFormatDerivation'. -/
def fnExactFormatDerivationCard : Claim7 := { stood := { row := fnExactFormatDerivationRow, standIns := [], harness := (true, "600fe93392ed8d0d2a74fd9b7ab0f6ca3575eb4359a02592ae0a2f5448b480b0"), looks := false }, kinds := [], alts := [], laidByText := true, laidKinds := [.data, .data, .data], laidTests := true, laidLooks := .later }
def FnExactFormatDerivationCardSaid : Prop := Claim7.holds Tryd.pinned (.plain (OpenSpec.ofChange fnExactFormatDerivationSpec)) fnExactFormatDerivationCard

/-- THE TIED CARD OF 'laws.FnExactMergeSets'. -/
def fnExactMergeSetsCard : Claim7 := { stood := { row := fnExactMergeSetsRow, standIns := [], harness := (true, "600fe93392ed8d0d2a74fd9b7ab0f6ca3575eb4359a02592ae0a2f5448b480b0"), looks := false }, kinds := [], alts := [], laidByText := true, laidKinds := [.data, .pinned], laidTests := true, laidLooks := .later }
def FnExactMergeSetsCardSaid : Prop := Claim7.holds Tryd.pinned (.plain (OpenSpec.ofChange fnExactMergeSetsSpec)) fnExactMergeSetsCard

/-- THE SECOND FORM's CARD OF 'laws.FnExactFormatDerivation'. -/
def fnExactFormatDerivationUptoCard : Claim7 := { stood := { row := fnExactFormatDerivationUptoRow, standIns := [], harness := (true, "600fe93392ed8d0d2a74fd9b7ab0f6ca3575eb4359a02592ae0a2f5448b480b0"), looks := false }, kinds := [], alts := [], laidByText := true, laidKinds := [.data, .data, .data], laidTests := true, laidLooks := .later }
def FnExactFormatDerivationUptoCardSaid : Prop := Claim7.holds Tryd.pinned (.plain (OpenSpec.upto fnExactFormatDerivationSpec)) fnExactFormatDerivationUptoCard

/-- THE SECOND FORM's CARD OF 'laws.FnExactMergeSets'. -/
def fnExactMergeSetsUptoCard : Claim7 := { stood := { row := fnExactMergeSetsUptoRow, standIns := [], harness := (true, "600fe93392ed8d0d2a74fd9b7ab0f6ca3575eb4359a02592ae0a2f5448b480b0"), looks := false }, kinds := [], alts := [], laidByText := true, laidKinds := [.data, .pinned], laidTests := true, laidLooks := .later }
def FnExactMergeSetsUptoCardSaid : Prop := Claim7.holds Tryd.pinned (.plain (OpenSpec.upto fnExactMergeSetsSpec)) fnExactMergeSetsUptoCard
end Rows
end Go.Proofs.YtndlhdmpfnadcaaDoor
