/-
  DERIVED. GIVEN WITH THE SEED: THE CARDS: each row of YtccjmahhebiphaaDoorRows.lean that lists a variable, with what it lists TIED to the program's text (the seventh form; the later family's looks); each row that meets fmt, with fmt's text TOLD by the authors' own Lean function (tested against real Go, not proved from fmt's source: count such statements apart). THE CARD IS WHAT COUNTS. Prove the row's statement (the work); the ties are given (YtccjmahhebiphaaDoorTie.lean); close each card by the builder's one call (the guide's Derived/Test/ToyasCard.lean, 'card_holds'). Laid BY PROGRAM, IN A SANDBOX (cutbox-door.mjs). By AI agents, Wed Nov 11 2026. No macro, syntax, notation, axiom, sorry.
-/
import Derived.Test.YtccjmahhebiphaaDoorRows
import GoSem.ClaimSeven
namespace Go.Proofs.YtccjmahhebiphaaDoor
namespace Rows

/-- THE TIED CARD OF 'laws.FnPredVars'. -/
def fnPredVarsCard : Claim7 := { stood := { row := fnPredVarsRow, standIns := [], harness := (true, "75949ad021f7a417d70a9845069536dd4a3041a052e1cdfd183724720db22c54"), looks := false }, kinds := [], alts := [], laidByText := true, laidKinds := [.data], laidTests := true, laidLooks := .later }
def FnPredVarsCardSaid : Prop := Claim7.holds Tryd.pinned (.plain (OpenSpec.ofChange fnPredVarsSpec)) fnPredVarsCard

/-- THE TIED CARD OF 'laws.FnQuantPred'. -/
def fnQuantPredCard : Claim7 := { stood := { row := fnQuantPredRow, standIns := [], harness := (true, "75949ad021f7a417d70a9845069536dd4a3041a052e1cdfd183724720db22c54"), looks := false }, kinds := [], alts := [], laidByText := true, laidKinds := [.data], laidTests := true, laidLooks := .later }
def FnQuantPredCardSaid : Prop := Claim7.holds Tryd.pinned (.plain (OpenSpec.ofChange fnQuantPredSpec)) fnQuantPredCard

/-- THE TIED CARD OF 'laws.FnNotPred'. -/
def fnNotPredCard : Claim7 := { stood := { row := fnNotPredRow, standIns := [], harness := (true, "75949ad021f7a417d70a9845069536dd4a3041a052e1cdfd183724720db22c54"), looks := false }, kinds := [], alts := [], laidByText := true, laidKinds := [.data], laidTests := true, laidLooks := .later }
def FnNotPredCardSaid : Prop := Claim7.holds Tryd.pinned (.plain (OpenSpec.ofChange fnNotPredSpec)) fnNotPredCard

/-- THE TIED CARD OF 'laws.FnAssign'. -/
def fnAssignCard : Claim7 := { stood := { row := fnAssignRow, standIns := [], harness := (true, "75949ad021f7a417d70a9845069536dd4a3041a052e1cdfd183724720db22c54"), looks := false }, kinds := [], alts := [], laidByText := true, laidKinds := [.data], laidTests := true, laidLooks := .later }
def FnAssignCardSaid : Prop := Claim7.holds Tryd.pinned (.plain (OpenSpec.ofChange fnAssignSpec)) fnAssignCard

/-- THE TIED CARD OF 'laws.FnAssignPost'. -/
def fnAssignPostCard : Claim7 := { stood := { row := fnAssignPostRow, standIns := [], harness := (true, "75949ad021f7a417d70a9845069536dd4a3041a052e1cdfd183724720db22c54"), looks := false }, kinds := [], alts := [], laidByText := true, laidKinds := [.data], laidTests := true, laidLooks := .later }
def FnAssignPostCardSaid : Prop := Claim7.holds Tryd.pinned (.plain (OpenSpec.ofChange fnAssignPostSpec)) fnAssignPostCard

/-- THE TIED CARD OF 'laws.FnPredOf'. -/
def fnPredOfCard : Claim7 := { stood := { row := fnPredOfRow, standIns := [], harness := (true, "75949ad021f7a417d70a9845069536dd4a3041a052e1cdfd183724720db22c54"), looks := false }, kinds := [], alts := [], laidByText := true, laidKinds := [.data], laidTests := true, laidLooks := .later }
def FnPredOfCardSaid : Prop := Claim7.holds Tryd.pinned (.plain (OpenSpec.ofChange fnPredOfSpec)) fnPredOfCard

/-- THE TIED CARD OF 'laws.FnAgreeOn'. -/
def fnAgreeOnCard : Claim7 := { stood := { row := fnAgreeOnRow, standIns := [], harness := (true, "75949ad021f7a417d70a9845069536dd4a3041a052e1cdfd183724720db22c54"), looks := false }, kinds := [], alts := [], laidByText := true, laidKinds := [.data], laidTests := true, laidLooks := .later }
def FnAgreeOnCardSaid : Prop := Claim7.holds Tryd.pinned (.plain (OpenSpec.ofChange fnAgreeOnSpec)) fnAgreeOnCard

/-- THE TIED CARD OF 'laws.FnSubstPred'. -/
def fnSubstPredCard : Claim7 := { stood := { row := fnSubstPredRow, standIns := [], harness := (true, "75949ad021f7a417d70a9845069536dd4a3041a052e1cdfd183724720db22c54"), looks := false }, kinds := [], alts := [], laidByText := true, laidKinds := [.data, .data, .pinned], laidTests := true, laidLooks := .later }
def FnSubstPredCardSaid : Prop := Claim7.holds Tryd.pinned (.plain (OpenSpec.ofChange fnSubstPredSpec)) fnSubstPredCard

/-- THE SECOND FORM's CARD OF 'laws.FnPredVars'. -/
def fnPredVarsUptoCard : Claim7 := { stood := { row := fnPredVarsUptoRow, standIns := [], harness := (true, "75949ad021f7a417d70a9845069536dd4a3041a052e1cdfd183724720db22c54"), looks := false }, kinds := [], alts := [], laidByText := true, laidKinds := [.data], laidTests := true, laidLooks := .later }
def FnPredVarsUptoCardSaid : Prop := Claim7.holds Tryd.pinned (.plain (OpenSpec.upto fnPredVarsSpec)) fnPredVarsUptoCard

/-- THE SECOND FORM's CARD OF 'laws.FnQuantPred'. -/
def fnQuantPredUptoCard : Claim7 := { stood := { row := fnQuantPredUptoRow, standIns := [], harness := (true, "75949ad021f7a417d70a9845069536dd4a3041a052e1cdfd183724720db22c54"), looks := false }, kinds := [], alts := [], laidByText := true, laidKinds := [.data], laidTests := true, laidLooks := .later }
def FnQuantPredUptoCardSaid : Prop := Claim7.holds Tryd.pinned (.plain (OpenSpec.upto fnQuantPredSpec)) fnQuantPredUptoCard

/-- THE SECOND FORM's CARD OF 'laws.FnNotPred'. -/
def fnNotPredUptoCard : Claim7 := { stood := { row := fnNotPredUptoRow, standIns := [], harness := (true, "75949ad021f7a417d70a9845069536dd4a3041a052e1cdfd183724720db22c54"), looks := false }, kinds := [], alts := [], laidByText := true, laidKinds := [.data], laidTests := true, laidLooks := .later }
def FnNotPredUptoCardSaid : Prop := Claim7.holds Tryd.pinned (.plain (OpenSpec.upto fnNotPredSpec)) fnNotPredUptoCard

/-- THE SECOND FORM's CARD OF 'laws.FnAssign'. -/
def fnAssignUptoCard : Claim7 := { stood := { row := fnAssignUptoRow, standIns := [], harness := (true, "75949ad021f7a417d70a9845069536dd4a3041a052e1cdfd183724720db22c54"), looks := false }, kinds := [], alts := [], laidByText := true, laidKinds := [.data], laidTests := true, laidLooks := .later }
def FnAssignUptoCardSaid : Prop := Claim7.holds Tryd.pinned (.plain (OpenSpec.upto fnAssignSpec)) fnAssignUptoCard

/-- THE SECOND FORM's CARD OF 'laws.FnAssignPost'. -/
def fnAssignPostUptoCard : Claim7 := { stood := { row := fnAssignPostUptoRow, standIns := [], harness := (true, "75949ad021f7a417d70a9845069536dd4a3041a052e1cdfd183724720db22c54"), looks := false }, kinds := [], alts := [], laidByText := true, laidKinds := [.data], laidTests := true, laidLooks := .later }
def FnAssignPostUptoCardSaid : Prop := Claim7.holds Tryd.pinned (.plain (OpenSpec.upto fnAssignPostSpec)) fnAssignPostUptoCard

/-- THE SECOND FORM's CARD OF 'laws.FnPredOf'. -/
def fnPredOfUptoCard : Claim7 := { stood := { row := fnPredOfUptoRow, standIns := [], harness := (true, "75949ad021f7a417d70a9845069536dd4a3041a052e1cdfd183724720db22c54"), looks := false }, kinds := [], alts := [], laidByText := true, laidKinds := [.data], laidTests := true, laidLooks := .later }
def FnPredOfUptoCardSaid : Prop := Claim7.holds Tryd.pinned (.plain (OpenSpec.upto fnPredOfSpec)) fnPredOfUptoCard

/-- THE SECOND FORM's CARD OF 'laws.FnAgreeOn'. -/
def fnAgreeOnUptoCard : Claim7 := { stood := { row := fnAgreeOnUptoRow, standIns := [], harness := (true, "75949ad021f7a417d70a9845069536dd4a3041a052e1cdfd183724720db22c54"), looks := false }, kinds := [], alts := [], laidByText := true, laidKinds := [.data], laidTests := true, laidLooks := .later }
def FnAgreeOnUptoCardSaid : Prop := Claim7.holds Tryd.pinned (.plain (OpenSpec.upto fnAgreeOnSpec)) fnAgreeOnUptoCard

/-- THE SECOND FORM's CARD OF 'laws.FnSubstPred'. -/
def fnSubstPredUptoCard : Claim7 := { stood := { row := fnSubstPredUptoRow, standIns := [], harness := (true, "75949ad021f7a417d70a9845069536dd4a3041a052e1cdfd183724720db22c54"), looks := false }, kinds := [], alts := [], laidByText := true, laidKinds := [.data, .data, .pinned], laidTests := true, laidLooks := .later }
def FnSubstPredUptoCardSaid : Prop := Claim7.holds Tryd.pinned (.plain (OpenSpec.upto fnSubstPredSpec)) fnSubstPredUptoCard
end Rows
end Go.Proofs.YtccjmahhebiphaaDoor
