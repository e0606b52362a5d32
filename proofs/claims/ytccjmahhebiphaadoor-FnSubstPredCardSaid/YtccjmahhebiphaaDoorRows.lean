/-
  NARROWER THAN 'FOR EVERY INPUT', by the rows' own cells (each row's printed sentence says how): FnPredVars: laid · FnQuantPred: laid · FnNotPred: laid · FnAssign: laid · FnAssignPost: laid · FnPredOf: laid · FnAgreeOn: laid · FnSubstPred: laid.
  DERIVED. THE GIVEN ROWS OF THIS SEAT. 8 by the template 'for every input the law returns true; each argument reads behind the call as it read before'; 0 by the template 'total and deterministic' (their statements: YtccjmahhebiphaaDoorTotals.lean).
  GIVEN WITH THE SEED: the statements are not yours to turn. If you find one false, say at which input.
  Laid BY PROGRAM, IN A SANDBOX (cutbox-rows.mjs): the forced cells as the released guide's own fill.sh prints them over the translation dacf72fc416cabd0… (all of the seat's roots in one cut). By AI agents, Wed Nov 11 2026. No macro, syntax, notation, axiom, sorry.
-/
import Derived.Test.YtccjmahhebiphaaDoorChecked
import GoSem.PinnedTables
import GoSem.Claim
import GoSem.ClaimJoined
import GoSem.ClaimMapViews
import Derived.JoinedTies
import Derived.KernelRfl
namespace Go.Proofs.YtccjmahhebiphaaDoor
/- THE CELL 'sum', in the pinned program and in every row, IS THE sha256 OF THE DUMP (.gsa) THAT YtccjmahhebiphaaDoorProg.lean LOADS. Nothing in Lean hashes anything: it is a label: what it is worth is what the hold of that sum in a sandbox is worth. -/
noncomputable def Tryd.pinned : Pinned := { name := "ytccjmahhebiphaadoor", sum := "dacf72fc416cabd0b0b495aa6782bf4f3159ef42e923ec47842480b890fff002", checked := Tryd.checked }
namespace Rows
def none {H : Type} : Left H := { results := [], args := [] }

/- WHAT THE LISTED PACKAGE-LEVEL VARIABLES READ AS WHEN THE CALL BEGINS. Each datum BY PROGRAM (the guide's laid-datum.mjs) off the statement by which the dump's own 'gosem.cut.vars' lays the variable. In a bare row this is a premise. The card (YtccjmahhebiphaaDoorCards.lean) ties it to the program's text. -/
def laid_loop_example_productprograms_impl_strides {H : Type} : DataW H := .agg [.lit (.int .i64 1), .lit (.int .i64 3), .lit (.int .i64 9)]
def laid_unicode_utf8_acceptRanges {H : Type} : DataW H := .agg [.agg [.lit (.int .u8 128), .lit (.int .u8 191)], .agg [.lit (.int .u8 160), .lit (.int .u8 191)], .agg [.lit (.int .u8 128), .lit (.int .u8 159)], .agg [.lit (.int .u8 144), .lit (.int .u8 191)], .agg [.lit (.int .u8 128), .lit (.int .u8 143)], .agg [.lit (.int .u8 0), .lit (.int .u8 0)], .agg [.lit (.int .u8 0), .lit (.int .u8 0)], .agg [.lit (.int .u8 0), .lit (.int .u8 0)], .agg [.lit (.int .u8 0), .lit (.int .u8 0)], .agg [.lit (.int .u8 0), .lit (.int .u8 0)], .agg [.lit (.int .u8 0), .lit (.int .u8 0)], .agg [.lit (.int .u8 0), .lit (.int .u8 0)], .agg [.lit (.int .u8 0), .lit (.int .u8 0)], .agg [.lit (.int .u8 0), .lit (.int .u8 0)], .agg [.lit (.int .u8 0), .lit (.int .u8 0)], .agg [.lit (.int .u8 0), .lit (.int .u8 0)]]
/-- One of Go's own tables, pinned by name: the form's constant. -/
def laid_unicode_utf8_first : DataW Unit := Go.Pinned.utf8First

/-- 'laws.FnPredVars': WHATEVER THE INPUT: true; the input reads as it did. -/
def fnPredVarsSpec : ChangeSpec := { name := "fnPredVars", vars := ["loop.example/productprograms/impl.strides"], fn := fun _ => fun
  | [d, g1] => { results := [.lit (.bool true)], args := [d], vars := [g1] }
  | _ => none }
def fnPredVarsRow : OpenClaim := { program := "ytccjmahhebiphaadoor", sum := "dacf72fc416cabd0b0b495aa6782bf4f3159ef42e923ec47842480b890fff002", func := "loop.example/productprograms/laws.FnPredVars", spec := "fnPredVars", unfollowed := true, recurses := true, named := ["loop.example/productprograms/impl.strides"], apart := false, laid := [("loop.example/productprograms/impl.strides", laid_loop_example_productprograms_impl_strides)] }
def FnPredVarsSaid : Prop := fnPredVarsRow.holds Tryd.pinned (OpenSpec.ofChange fnPredVarsSpec)

/-- ITS FALSE NEIGHBOUR: 'it returns false'. Refute it at one input. -/
def fnPredVarsWrong : ChangeSpec := { name := "fnPredVars", vars := ["loop.example/productprograms/impl.strides"], fn := fun _ => fun
  | [d, g1] => { results := [.lit (.bool false)], args := [d], vars := [g1] }
  | _ => none }
def FnPredVarsWrongFalsely : Prop := fnPredVarsRow.holds Tryd.pinned (OpenSpec.ofChange fnPredVarsWrong)

/-- 'laws.FnQuantPred': WHATEVER THE INPUT: true; the input reads as it did. -/
def fnQuantPredSpec : ChangeSpec := { name := "fnQuantPred", vars := ["loop.example/productprograms/impl.strides"], fn := fun _ => fun
  | [d1, d2, g1] => { results := [.lit (.bool true)], args := [d1, d2], vars := [g1] }
  | _ => none }
def fnQuantPredRow : OpenClaim := { program := "ytccjmahhebiphaadoor", sum := "dacf72fc416cabd0b0b495aa6782bf4f3159ef42e923ec47842480b890fff002", func := "loop.example/productprograms/laws.FnQuantPred", spec := "fnQuantPred", unfollowed := true, recurses := true, named := ["loop.example/productprograms/impl.strides"], apart := false, laid := [("loop.example/productprograms/impl.strides", laid_loop_example_productprograms_impl_strides)] }
def FnQuantPredSaid : Prop := fnQuantPredRow.holds Tryd.pinned (OpenSpec.ofChange fnQuantPredSpec)

/-- ITS FALSE NEIGHBOUR: 'it returns false'. Refute it at one input. -/
def fnQuantPredWrong : ChangeSpec := { name := "fnQuantPred", vars := ["loop.example/productprograms/impl.strides"], fn := fun _ => fun
  | [d1, d2, g1] => { results := [.lit (.bool false)], args := [d1, d2], vars := [g1] }
  | _ => none }
def FnQuantPredWrongFalsely : Prop := fnQuantPredRow.holds Tryd.pinned (OpenSpec.ofChange fnQuantPredWrong)

/-- 'laws.FnNotPred': WHATEVER THE INPUT: true; the input reads as it did. -/
def fnNotPredSpec : ChangeSpec := { name := "fnNotPred", vars := ["loop.example/productprograms/impl.strides"], fn := fun _ => fun
  | [d, g1] => { results := [.lit (.bool true)], args := [d], vars := [g1] }
  | _ => none }
def fnNotPredRow : OpenClaim := { program := "ytccjmahhebiphaadoor", sum := "dacf72fc416cabd0b0b495aa6782bf4f3159ef42e923ec47842480b890fff002", func := "loop.example/productprograms/laws.FnNotPred", spec := "fnNotPred", inPlace := ["internal/bytealg.CountString", "internal/bytealg.IndexByteString", "internal/bytealg.IndexString"], unfollowed := true, recurses := true, named := ["internal/bytealg.MaxLen", "loop.example/productprograms/impl.strides"], apart := false, laid := [("loop.example/productprograms/impl.strides", laid_loop_example_productprograms_impl_strides)] }
def FnNotPredSaid : Prop := fnNotPredRow.holds Tryd.pinned (OpenSpec.ofChange fnNotPredSpec)

/-- ITS FALSE NEIGHBOUR: 'it returns false'. Refute it at one input. -/
def fnNotPredWrong : ChangeSpec := { name := "fnNotPred", vars := ["loop.example/productprograms/impl.strides"], fn := fun _ => fun
  | [d, g1] => { results := [.lit (.bool false)], args := [d], vars := [g1] }
  | _ => none }
def FnNotPredWrongFalsely : Prop := fnNotPredRow.holds Tryd.pinned (OpenSpec.ofChange fnNotPredWrong)

/-- 'laws.FnAssign': WHATEVER THE INPUT: true; the input reads as it did. -/
def fnAssignSpec : ChangeSpec := { name := "fnAssign", vars := ["loop.example/productprograms/impl.strides"], fn := fun _ => fun
  | [d, g1] => { results := [.lit (.bool true)], args := [d], vars := [g1] }
  | _ => none }
def fnAssignRow : OpenClaim := { program := "ytccjmahhebiphaadoor", sum := "dacf72fc416cabd0b0b495aa6782bf4f3159ef42e923ec47842480b890fff002", func := "loop.example/productprograms/laws.FnAssign", spec := "fnAssign", unfollowed := true, recurses := true, named := ["loop.example/productprograms/impl.strides"], apart := false, laid := [("loop.example/productprograms/impl.strides", laid_loop_example_productprograms_impl_strides)] }
def FnAssignSaid : Prop := fnAssignRow.holds Tryd.pinned (OpenSpec.ofChange fnAssignSpec)

/-- ITS FALSE NEIGHBOUR: 'it returns false'. Refute it at one input. -/
def fnAssignWrong : ChangeSpec := { name := "fnAssign", vars := ["loop.example/productprograms/impl.strides"], fn := fun _ => fun
  | [d, g1] => { results := [.lit (.bool false)], args := [d], vars := [g1] }
  | _ => none }
def FnAssignWrongFalsely : Prop := fnAssignRow.holds Tryd.pinned (OpenSpec.ofChange fnAssignWrong)

/-- 'laws.FnAssignPost': WHATEVER THE INPUT: true; the input reads as it did. -/
def fnAssignPostSpec : ChangeSpec := { name := "fnAssignPost", vars := ["loop.example/productprograms/impl.strides"], fn := fun _ => fun
  | [d1, d2, g1] => { results := [.lit (.bool true)], args := [d1, d2], vars := [g1] }
  | _ => none }
def fnAssignPostRow : OpenClaim := { program := "ytccjmahhebiphaadoor", sum := "dacf72fc416cabd0b0b495aa6782bf4f3159ef42e923ec47842480b890fff002", func := "loop.example/productprograms/laws.FnAssignPost", spec := "fnAssignPost", inPlace := ["internal/bytealg.CountString", "internal/bytealg.IndexByteString", "internal/bytealg.IndexString"], unfollowed := true, recurses := true, named := ["loop.example/productprograms/impl.strides", "internal/bytealg.MaxLen"], apart := false, laid := [("loop.example/productprograms/impl.strides", laid_loop_example_productprograms_impl_strides)] }
def FnAssignPostSaid : Prop := fnAssignPostRow.holds Tryd.pinned (OpenSpec.ofChange fnAssignPostSpec)

/-- ITS FALSE NEIGHBOUR: 'it returns false'. Refute it at one input. -/
def fnAssignPostWrong : ChangeSpec := { name := "fnAssignPost", vars := ["loop.example/productprograms/impl.strides"], fn := fun _ => fun
  | [d1, d2, g1] => { results := [.lit (.bool false)], args := [d1, d2], vars := [g1] }
  | _ => none }
def FnAssignPostWrongFalsely : Prop := fnAssignPostRow.holds Tryd.pinned (OpenSpec.ofChange fnAssignPostWrong)

/-- 'laws.FnPredOf': WHATEVER THE INPUT: true; the input reads as it did. -/
def fnPredOfSpec : ChangeSpec := { name := "fnPredOf", vars := ["loop.example/productprograms/impl.strides"], fn := fun _ => fun
  | [d, g1] => { results := [.lit (.bool true)], args := [d], vars := [g1] }
  | _ => none }
def fnPredOfRow : OpenClaim := { program := "ytccjmahhebiphaadoor", sum := "dacf72fc416cabd0b0b495aa6782bf4f3159ef42e923ec47842480b890fff002", func := "loop.example/productprograms/laws.FnPredOf", spec := "fnPredOf", inPlace := ["internal/bytealg.IndexByteString", "internal/bytealg.IndexString"], unfollowed := true, recurses := true, named := ["loop.example/productprograms/impl.strides", "internal/bytealg.MaxLen"], apart := false, laid := [("loop.example/productprograms/impl.strides", laid_loop_example_productprograms_impl_strides)] }
def FnPredOfSaid : Prop := fnPredOfRow.holds Tryd.pinned (OpenSpec.ofChange fnPredOfSpec)

/-- ITS FALSE NEIGHBOUR: 'it returns false'. Refute it at one input. -/
def fnPredOfWrong : ChangeSpec := { name := "fnPredOf", vars := ["loop.example/productprograms/impl.strides"], fn := fun _ => fun
  | [d, g1] => { results := [.lit (.bool false)], args := [d], vars := [g1] }
  | _ => none }
def FnPredOfWrongFalsely : Prop := fnPredOfRow.holds Tryd.pinned (OpenSpec.ofChange fnPredOfWrong)

/-- 'laws.FnAgreeOn': WHATEVER THE INPUT: true; the input reads as it did. -/
def fnAgreeOnSpec : ChangeSpec := { name := "fnAgreeOn", vars := ["loop.example/productprograms/impl.strides"], fn := fun _ => fun
  | [d, g1] => { results := [.lit (.bool true)], args := [d], vars := [g1] }
  | _ => none }
def fnAgreeOnRow : OpenClaim := { program := "ytccjmahhebiphaadoor", sum := "dacf72fc416cabd0b0b495aa6782bf4f3159ef42e923ec47842480b890fff002", func := "loop.example/productprograms/laws.FnAgreeOn", spec := "fnAgreeOn", unfollowed := true, recurses := true, named := ["loop.example/productprograms/impl.strides"], apart := false, laid := [("loop.example/productprograms/impl.strides", laid_loop_example_productprograms_impl_strides)] }
def FnAgreeOnSaid : Prop := fnAgreeOnRow.holds Tryd.pinned (OpenSpec.ofChange fnAgreeOnSpec)

/-- ITS FALSE NEIGHBOUR: 'it returns false'. Refute it at one input. -/
def fnAgreeOnWrong : ChangeSpec := { name := "fnAgreeOn", vars := ["loop.example/productprograms/impl.strides"], fn := fun _ => fun
  | [d, g1] => { results := [.lit (.bool false)], args := [d], vars := [g1] }
  | _ => none }
def FnAgreeOnWrongFalsely : Prop := fnAgreeOnRow.holds Tryd.pinned (OpenSpec.ofChange fnAgreeOnWrong)

/-- 'laws.FnSubstPred': WHATEVER THE INPUT: true; the input reads as it did. -/
def fnSubstPredSpec : ChangeSpec := { name := "fnSubstPred", vars := ["loop.example/productprograms/impl.strides"], fn := fun _ => fun
  | [d, g1] => { results := [.lit (.bool true)], args := [d], vars := [g1] }
  | _ => none }
def fnSubstPredRow : OpenClaim := { program := "ytccjmahhebiphaadoor", sum := "dacf72fc416cabd0b0b495aa6782bf4f3159ef42e923ec47842480b890fff002", func := "loop.example/productprograms/laws.FnSubstPred", spec := "fnSubstPred", inPlace := ["internal/bytealg.CountString", "internal/bytealg.IndexByteString", "internal/bytealg.IndexString", "internal/abi.NoEscape", "internal/bytealg.MakeNoZero"], unfollowed := true, recurses := true, named := ["internal/bytealg.MaxLen", "unicode/utf8.first", "unicode/utf8.acceptRanges", "loop.example/productprograms/impl.strides"], apart := false, laid := [("unicode/utf8.acceptRanges", laid_unicode_utf8_acceptRanges), ("loop.example/productprograms/impl.strides", laid_loop_example_productprograms_impl_strides), ("unicode/utf8.first", laid_unicode_utf8_first)] }
def FnSubstPredSaid : Prop := fnSubstPredRow.holds Tryd.pinned (OpenSpec.ofChange fnSubstPredSpec)

/-- ITS FALSE NEIGHBOUR: 'it returns false'. Refute it at one input. -/
def fnSubstPredWrong : ChangeSpec := { name := "fnSubstPred", vars := ["loop.example/productprograms/impl.strides"], fn := fun _ => fun
  | [d, g1] => { results := [.lit (.bool false)], args := [d], vars := [g1] }
  | _ => none }
def FnSubstPredWrongFalsely : Prop := fnSubstPredRow.holds Tryd.pinned (OpenSpec.ofChange fnSubstPredWrong)

/- THE SECOND FORM. 'bulk': how many values and letters a reading holds, each counted each time it is reached (what is shared counts as often as it is met; a slice's spare places count too). A statement '..UptoSaid' is the law's where the arguments, and the package variables that the reading takes, are together of bulk at most 1048576: NARROWER than '..Said'. Prove '..Said' where nothing that the law and all that it calls make is longer than what came in: it says more and counts as full. Else prove '..UptoSaid'. A law counts once. -/
mutual
def uptoBulk {H : Type} : DataW H → Nat
  | .lit (.string bytes) => bytes.length + 1
  | .lit _ => 1
  | .nil => 1
  | .ptr d => uptoBulk d + 1
  | .slice elems spare => uptoBulkAll elems + uptoBulkAll spare + 1
  | .agg parts => uptoBulkAll parts + 1
  | .iface _ d => uptoBulk d + 1
  | .map entries => uptoBulkEntries entries + 1
  | .held _ => 1
def uptoBulkAll {H : Type} : List (DataW H) → Nat
  | [] => 0
  | d :: r => uptoBulk d + uptoBulkAll r
def uptoBulkEntries {H : Type} : List (Lit × DataW H) → Nat
  | [] => 0
  | x :: r => uptoBulkEntry x + uptoBulkEntries r
def uptoBulkEntry {H : Type} : Lit × DataW H → Nat
  | (.string bytes, d) => bytes.length + uptoBulk d + 1
  | (_, d) => uptoBulk d + 1
 end
def uptoSmall : (H : Type) → List (DataW H) → Bool := fun _ ds => decide (uptoBulkAll ds ≤ 1048576)
def OpenSpec.upto (s : _root_.Go.ChangeSpec) : _root_.Go.OpenSpec := { _root_.Go.OpenSpec.ofChange s with cond := some uptoSmall }

/-- 'laws.FnPredVars', WHERE WHAT IT READS IS OF BULK AT MOST 1048576: true; the input reads as it did. -/
def fnPredVarsUptoRow : OpenClaim := { program := "ytccjmahhebiphaadoor", sum := "dacf72fc416cabd0b0b495aa6782bf4f3159ef42e923ec47842480b890fff002", func := "loop.example/productprograms/laws.FnPredVars", spec := "fnPredVars", unfollowed := true, recurses := true, named := ["loop.example/productprograms/impl.strides"], apart := false, laid := [("loop.example/productprograms/impl.strides", laid_loop_example_productprograms_impl_strides)], narrowed := true }
def FnPredVarsUptoSaid : Prop := fnPredVarsUptoRow.holds Tryd.pinned (OpenSpec.upto fnPredVarsSpec)

/-- 'laws.FnQuantPred', WHERE WHAT IT READS IS OF BULK AT MOST 1048576: true; the input reads as it did. -/
def fnQuantPredUptoRow : OpenClaim := { program := "ytccjmahhebiphaadoor", sum := "dacf72fc416cabd0b0b495aa6782bf4f3159ef42e923ec47842480b890fff002", func := "loop.example/productprograms/laws.FnQuantPred", spec := "fnQuantPred", unfollowed := true, recurses := true, named := ["loop.example/productprograms/impl.strides"], apart := false, laid := [("loop.example/productprograms/impl.strides", laid_loop_example_productprograms_impl_strides)], narrowed := true }
def FnQuantPredUptoSaid : Prop := fnQuantPredUptoRow.holds Tryd.pinned (OpenSpec.upto fnQuantPredSpec)

/-- 'laws.FnNotPred', WHERE WHAT IT READS IS OF BULK AT MOST 1048576: true; the input reads as it did. -/
def fnNotPredUptoRow : OpenClaim := { program := "ytccjmahhebiphaadoor", sum := "dacf72fc416cabd0b0b495aa6782bf4f3159ef42e923ec47842480b890fff002", func := "loop.example/productprograms/laws.FnNotPred", spec := "fnNotPred", inPlace := ["internal/bytealg.CountString", "internal/bytealg.IndexByteString", "internal/bytealg.IndexString"], unfollowed := true, recurses := true, named := ["internal/bytealg.MaxLen", "loop.example/productprograms/impl.strides"], apart := false, laid := [("loop.example/productprograms/impl.strides", laid_loop_example_productprograms_impl_strides)], narrowed := true }
def FnNotPredUptoSaid : Prop := fnNotPredUptoRow.holds Tryd.pinned (OpenSpec.upto fnNotPredSpec)

/-- 'laws.FnAssign', WHERE WHAT IT READS IS OF BULK AT MOST 1048576: true; the input reads as it did. -/
def fnAssignUptoRow : OpenClaim := { program := "ytccjmahhebiphaadoor", sum := "dacf72fc416cabd0b0b495aa6782bf4f3159ef42e923ec47842480b890fff002", func := "loop.example/productprograms/laws.FnAssign", spec := "fnAssign", unfollowed := true, recurses := true, named := ["loop.example/productprograms/impl.strides"], apart := false, laid := [("loop.example/productprograms/impl.strides", laid_loop_example_productprograms_impl_strides)], narrowed := true }
def FnAssignUptoSaid : Prop := fnAssignUptoRow.holds Tryd.pinned (OpenSpec.upto fnAssignSpec)

/-- 'laws.FnAssignPost', WHERE WHAT IT READS IS OF BULK AT MOST 1048576: true; the input reads as it did. -/
def fnAssignPostUptoRow : OpenClaim := { program := "ytccjmahhebiphaadoor", sum := "dacf72fc416cabd0b0b495aa6782bf4f3159ef42e923ec47842480b890fff002", func := "loop.example/productprograms/laws.FnAssignPost", spec := "fnAssignPost", inPlace := ["internal/bytealg.CountString", "internal/bytealg.IndexByteString", "internal/bytealg.IndexString"], unfollowed := true, recurses := true, named := ["loop.example/productprograms/impl.strides", "internal/bytealg.MaxLen"], apart := false, laid := [("loop.example/productprograms/impl.strides", laid_loop_example_productprograms_impl_strides)], narrowed := true }
def FnAssignPostUptoSaid : Prop := fnAssignPostUptoRow.holds Tryd.pinned (OpenSpec.upto fnAssignPostSpec)

/-- 'laws.FnPredOf', WHERE WHAT IT READS IS OF BULK AT MOST 1048576: true; the input reads as it did. -/
def fnPredOfUptoRow : OpenClaim := { program := "ytccjmahhebiphaadoor", sum := "dacf72fc416cabd0b0b495aa6782bf4f3159ef42e923ec47842480b890fff002", func := "loop.example/productprograms/laws.FnPredOf", spec := "fnPredOf", inPlace := ["internal/bytealg.IndexByteString", "internal/bytealg.IndexString"], unfollowed := true, recurses := true, named := ["loop.example/productprograms/impl.strides", "internal/bytealg.MaxLen"], apart := false, laid := [("loop.example/productprograms/impl.strides", laid_loop_example_productprograms_impl_strides)], narrowed := true }
def FnPredOfUptoSaid : Prop := fnPredOfUptoRow.holds Tryd.pinned (OpenSpec.upto fnPredOfSpec)

/-- 'laws.FnAgreeOn', WHERE WHAT IT READS IS OF BULK AT MOST 1048576: true; the input reads as it did. -/
def fnAgreeOnUptoRow : OpenClaim := { program := "ytccjmahhebiphaadoor", sum := "dacf72fc416cabd0b0b495aa6782bf4f3159ef42e923ec47842480b890fff002", func := "loop.example/productprograms/laws.FnAgreeOn", spec := "fnAgreeOn", unfollowed := true, recurses := true, named := ["loop.example/productprograms/impl.strides"], apart := false, laid := [("loop.example/productprograms/impl.strides", laid_loop_example_productprograms_impl_strides)], narrowed := true }
def FnAgreeOnUptoSaid : Prop := fnAgreeOnUptoRow.holds Tryd.pinned (OpenSpec.upto fnAgreeOnSpec)

/-- 'laws.FnSubstPred', WHERE WHAT IT READS IS OF BULK AT MOST 1048576: true; the input reads as it did. -/
def fnSubstPredUptoRow : OpenClaim := { program := "ytccjmahhebiphaadoor", sum := "dacf72fc416cabd0b0b495aa6782bf4f3159ef42e923ec47842480b890fff002", func := "loop.example/productprograms/laws.FnSubstPred", spec := "fnSubstPred", inPlace := ["internal/bytealg.CountString", "internal/bytealg.IndexByteString", "internal/bytealg.IndexString", "internal/abi.NoEscape", "internal/bytealg.MakeNoZero"], unfollowed := true, recurses := true, named := ["internal/bytealg.MaxLen", "unicode/utf8.first", "unicode/utf8.acceptRanges", "loop.example/productprograms/impl.strides"], apart := false, laid := [("unicode/utf8.acceptRanges", laid_unicode_utf8_acceptRanges), ("loop.example/productprograms/impl.strides", laid_loop_example_productprograms_impl_strides), ("unicode/utf8.first", laid_unicode_utf8_first)], narrowed := true }
def FnSubstPredUptoSaid : Prop := fnSubstPredUptoRow.holds Tryd.pinned (OpenSpec.upto fnSubstPredSpec)

end Rows
end Go.Proofs.YtccjmahhebiphaaDoor
