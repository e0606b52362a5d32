/-
  DERIVED. GIVEN WITH THE SEED: THE CARDS: each row of YtonadnfbnpkneaaDoorRows.lean that lists a variable, with what it lists TIED to the program's text (the seventh form; the later family's looks); each row that meets fmt, with fmt's text TOLD by the authors' own Lean function (tested against real Go, not proved from fmt's source: count such statements apart). THE CARD IS WHAT COUNTS. Prove the row's statement (the work); the ties are given (YtonadnfbnpkneaaDoorTie.lean); close each card by the builder's one call (the guide's Derived/Test/ToyasCard.lean, 'card_holds'). Laid BY PROGRAM, IN A SANDBOX (cutbox-door.mjs). By AI agents, Wed Nov 11 2026. No macro, syntax, notation, axiom, sorry.
-/
import Derived.Test.YtonadnfbnpkneaaDoorRows
import GoSem.ClaimSeven
namespace Go.Proofs.YtonadnfbnpkneaaDoor
namespace Rows

/-- THE TIED CARD OF 'laws.FnSubstExpr'. -/
def fnSubstExprCard : Claim7 := { stood := { row := fnSubstExprRow, standIns := [], harness := (true, "f251e7e78ffa7345de65b41d0de3920dfb8637e3d5fe82d62f314918b865324c"), looks := false }, kinds := [], alts := [], laidByText := true, laidKinds := [.data, .pinned], laidTests := true, laidLooks := .later }
def FnSubstExprCardSaid : Prop := Claim7.holds Tryd.pinned (.plain (OpenSpec.ofChange fnSubstExprSpec)) fnSubstExprCard

/-- THE TIED CARD OF 'laws.FnSubstTest'. -/
def fnSubstTestCard : Claim7 := { stood := { row := fnSubstTestRow, standIns := [], harness := (true, "f251e7e78ffa7345de65b41d0de3920dfb8637e3d5fe82d62f314918b865324c"), looks := false }, kinds := [], alts := [], laidByText := true, laidKinds := [.data, .pinned], laidTests := true, laidLooks := .later }
def FnSubstTestCardSaid : Prop := Claim7.holds Tryd.pinned (.plain (OpenSpec.ofChange fnSubstTestSpec)) fnSubstTestCard

/-- THE SECOND FORM's CARD OF 'laws.FnSubstExpr'. -/
def fnSubstExprUptoCard : Claim7 := { stood := { row := fnSubstExprUptoRow, standIns := [], harness := (true, "f251e7e78ffa7345de65b41d0de3920dfb8637e3d5fe82d62f314918b865324c"), looks := false }, kinds := [], alts := [], laidByText := true, laidKinds := [.data, .pinned], laidTests := true, laidLooks := .later }
def FnSubstExprUptoCardSaid : Prop := Claim7.holds Tryd.pinned (.plain (OpenSpec.upto fnSubstExprSpec)) fnSubstExprUptoCard

/-- THE SECOND FORM's CARD OF 'laws.FnSubstTest'. -/
def fnSubstTestUptoCard : Claim7 := { stood := { row := fnSubstTestUptoRow, standIns := [], harness := (true, "f251e7e78ffa7345de65b41d0de3920dfb8637e3d5fe82d62f314918b865324c"), looks := false }, kinds := [], alts := [], laidByText := true, laidKinds := [.data, .pinned], laidTests := true, laidLooks := .later }
def FnSubstTestUptoCardSaid : Prop := Claim7.holds Tryd.pinned (.plain (OpenSpec.upto fnSubstTestSpec)) fnSubstTestUptoCard
end Rows
end Go.Proofs.YtonadnfbnpkneaaDoor
