/-
  No cell of these rows narrows 'for every input' (looked for: loops, veiled, ifaces, maps, wideKeys, modest, calm, conditions, laid).
  DERIVED. THE GIVEN ROWS OF THIS SEAT. 11 by the template 'for every input the law returns true; each argument reads behind the call as it read before'; 0 by the template 'total and deterministic' (their statements: YtppcghklkldnaaaTotals.lean).
  GIVEN WITH THE SEED: the statements are not yours to turn. If you find one false, say at which input.
  Laid BY PROGRAM, IN A SANDBOX (cutbox-rows.mjs): the forced cells as the released guide's own fill.sh prints them over the translation 68748d3debffc204… (all of the seat's roots in one cut). By AI agents, Wed Nov 11 2026. No macro, syntax, notation, axiom, sorry.
-/
import Derived.Test.YtppcghklkldnaaaChecked
import GoSem.Claim
import GoSem.ClaimJoined
import GoSem.ClaimMapViews
import Derived.JoinedTies
import Derived.KernelRfl
namespace Go.Proofs.Ytppcghklkldnaaa
/- THE CELL 'sum', in the pinned program and in every row, IS THE sha256 OF THE DUMP (.gsa) THAT YtppcghklkldnaaaProg.lean LOADS. Nothing in Lean hashes anything: it is a label: what it is worth is what the hold of that sum in a sandbox is worth. -/
noncomputable def Try.pinned : Pinned := { name := "ytppcghklkldnaaa", sum := "68748d3debffc204e708fdadbcc0b55815cfb4708b105a73d76728514f283ee3", checked := Try.checked }
namespace Rows
def none {H : Type} : Left H := { results := [], args := [] }

/-- 'laws.FnExactFoldProgram': WHATEVER THE INPUT: true; the input reads as it did. -/
def fnExactFoldProgramSpec : ChangeSpec := { name := "fnExactFoldProgram", fn := fun _ => fun
  | [d] => { results := [.lit (.bool true)], args := [d] }
  | _ => none }
def fnExactFoldProgramRow : OpenClaim := { program := "ytppcghklkldnaaa", sum := "68748d3debffc204e708fdadbcc0b55815cfb4708b105a73d76728514f283ee3", func := "loop.example/productprograms/laws.FnExactFoldProgram", spec := "fnExactFoldProgram", unfollowed := true, recurses := true, apart := false }
def FnExactFoldProgramSaid : Prop := fnExactFoldProgramRow.holds Try.pinned (OpenSpec.ofChange fnExactFoldProgramSpec)

/-- ITS FALSE NEIGHBOUR: 'it returns false'. Refute it at one input. -/
def fnExactFoldProgramWrong : ChangeSpec := { name := "fnExactFoldProgram", fn := fun _ => fun
  | [d] => { results := [.lit (.bool false)], args := [d] }
  | _ => none }
def FnExactFoldProgramWrongFalsely : Prop := fnExactFoldProgramRow.holds Try.pinned (OpenSpec.ofChange fnExactFoldProgramWrong)

/-- 'laws.FnProgramParts': WHATEVER THE INPUT: true; the input reads as it did. -/
def fnProgramPartsSpec : ChangeSpec := { name := "fnProgramParts", fn := fun _ => fun
  | [d] => { results := [.lit (.bool true)], args := [d] }
  | _ => none }
def fnProgramPartsRow : OpenClaim := { program := "ytppcghklkldnaaa", sum := "68748d3debffc204e708fdadbcc0b55815cfb4708b105a73d76728514f283ee3", func := "loop.example/productprograms/laws.FnProgramParts", spec := "fnProgramParts", recurses := true, apart := false }
def FnProgramPartsSaid : Prop := fnProgramPartsRow.holds Try.pinned (OpenSpec.ofChange fnProgramPartsSpec)

/-- ITS FALSE NEIGHBOUR: 'it returns false'. Refute it at one input. -/
def fnProgramPartsWrong : ChangeSpec := { name := "fnProgramParts", fn := fun _ => fun
  | [d] => { results := [.lit (.bool false)], args := [d] }
  | _ => none }
def FnProgramPartsWrongFalsely : Prop := fnProgramPartsRow.holds Try.pinned (OpenSpec.ofChange fnProgramPartsWrong)

/-- 'laws.FnPlain': WHATEVER THE INPUT: true; the input reads as it did. -/
def fnPlainSpec : ChangeSpec := { name := "fnPlain", fn := fun _ => fun
  | [d] => { results := [.lit (.bool true)], args := [d] }
  | _ => none }
def fnPlainRow : OpenClaim := { program := "ytppcghklkldnaaa", sum := "68748d3debffc204e708fdadbcc0b55815cfb4708b105a73d76728514f283ee3", func := "loop.example/productprograms/laws.FnPlain", spec := "fnPlain", inPlace := ["internal/bytealg.IndexByteString"], unfollowed := true, recurses := true, apart := false }
def FnPlainSaid : Prop := fnPlainRow.holds Try.pinned (OpenSpec.ofChange fnPlainSpec)

/-- ITS FALSE NEIGHBOUR: 'it returns false'. Refute it at one input. -/
def fnPlainWrong : ChangeSpec := { name := "fnPlain", fn := fun _ => fun
  | [d] => { results := [.lit (.bool false)], args := [d] }
  | _ => none }
def FnPlainWrongFalsely : Prop := fnPlainRow.holds Try.pinned (OpenSpec.ofChange fnPlainWrong)

/-- 'laws.FnJoinPrograms': WHATEVER THE INPUT: true; the input reads as it did. -/
def fnJoinProgramsSpec : ChangeSpec := { name := "fnJoinPrograms", fn := fun _ => fun
  | [d] => { results := [.lit (.bool true)], args := [d] }
  | _ => none }
def fnJoinProgramsRow : OpenClaim := { program := "ytppcghklkldnaaa", sum := "68748d3debffc204e708fdadbcc0b55815cfb4708b105a73d76728514f283ee3", func := "loop.example/productprograms/laws.FnJoinPrograms", spec := "fnJoinPrograms", unfollowed := true, recurses := true, apart := false }
def FnJoinProgramsSaid : Prop := fnJoinProgramsRow.holds Try.pinned (OpenSpec.ofChange fnJoinProgramsSpec)

/-- ITS FALSE NEIGHBOUR: 'it returns false'. Refute it at one input. -/
def fnJoinProgramsWrong : ChangeSpec := { name := "fnJoinPrograms", fn := fun _ => fun
  | [d] => { results := [.lit (.bool false)], args := [d] }
  | _ => none }
def FnJoinProgramsWrongFalsely : Prop := fnJoinProgramsRow.holds Try.pinned (OpenSpec.ofChange fnJoinProgramsWrong)

/-- 'laws.FnShowProgram': WHATEVER THE INPUT: true; the input reads as it did. -/
def fnShowProgramSpec : ChangeSpec := { name := "fnShowProgram", fn := fun _ => fun
  | [d] => { results := [.lit (.bool true)], args := [d] }
  | _ => none }
def fnShowProgramRow : OpenClaim := { program := "ytppcghklkldnaaa", sum := "68748d3debffc204e708fdadbcc0b55815cfb4708b105a73d76728514f283ee3", func := "loop.example/productprograms/laws.FnShowProgram", spec := "fnShowProgram", recurses := true, apart := false }
def FnShowProgramSaid : Prop := fnShowProgramRow.holds Try.pinned (OpenSpec.ofChange fnShowProgramSpec)

/-- ITS FALSE NEIGHBOUR: 'it returns false'. Refute it at one input. -/
def fnShowProgramWrong : ChangeSpec := { name := "fnShowProgram", fn := fun _ => fun
  | [d] => { results := [.lit (.bool false)], args := [d] }
  | _ => none }
def FnShowProgramWrongFalsely : Prop := fnShowProgramRow.holds Try.pinned (OpenSpec.ofChange fnShowProgramWrong)

/-- 'laws.FnSizes': WHATEVER THE INPUT: true; the input reads as it did. -/
def fnSizesSpec : ChangeSpec := { name := "fnSizes", fn := fun _ => fun
  | [d] => { results := [.lit (.bool true)], args := [d] }
  | _ => none }
def fnSizesRow : OpenClaim := { program := "ytppcghklkldnaaa", sum := "68748d3debffc204e708fdadbcc0b55815cfb4708b105a73d76728514f283ee3", func := "loop.example/productprograms/laws.FnSizes", spec := "fnSizes", inPlace := ["internal/bytealg.IndexByteString"], unfollowed := true, recurses := true, apart := false }
def FnSizesSaid : Prop := fnSizesRow.holds Try.pinned (OpenSpec.ofChange fnSizesSpec)

/-- ITS FALSE NEIGHBOUR: 'it returns false'. Refute it at one input. -/
def fnSizesWrong : ChangeSpec := { name := "fnSizes", fn := fun _ => fun
  | [d] => { results := [.lit (.bool false)], args := [d] }
  | _ => none }
def FnSizesWrongFalsely : Prop := fnSizesRow.holds Try.pinned (OpenSpec.ofChange fnSizesWrong)

/-- 'laws.FnReadsWrites': WHATEVER THE INPUT: true; the input reads as it did. -/
def fnReadsWritesSpec : ChangeSpec := { name := "fnReadsWrites", fn := fun _ => fun
  | [d] => { results := [.lit (.bool true)], args := [d] }
  | _ => none }
def fnReadsWritesRow : OpenClaim := { program := "ytppcghklkldnaaa", sum := "68748d3debffc204e708fdadbcc0b55815cfb4708b105a73d76728514f283ee3", func := "loop.example/productprograms/laws.FnReadsWrites", spec := "fnReadsWrites", inPlace := ["internal/bytealg.IndexByteString", "internal/bytealg.IndexString"], unfollowed := true, recurses := true, named := ["internal/bytealg.MaxLen"], apart := false }
def FnReadsWritesSaid : Prop := fnReadsWritesRow.holds Try.pinned (OpenSpec.ofChange fnReadsWritesSpec)

/-- ITS FALSE NEIGHBOUR: 'it returns false'. Refute it at one input. -/
def fnReadsWritesWrong : ChangeSpec := { name := "fnReadsWrites", fn := fun _ => fun
  | [d] => { results := [.lit (.bool false)], args := [d] }
  | _ => none }
def FnReadsWritesWrongFalsely : Prop := fnReadsWritesRow.holds Try.pinned (OpenSpec.ofChange fnReadsWritesWrong)

/-- 'laws.FnSwapProgram': WHATEVER THE INPUT: true; the input reads as it did. -/
def fnSwapProgramSpec : ChangeSpec := { name := "fnSwapProgram", fn := fun _ => fun
  | [d] => { results := [.lit (.bool true)], args := [d] }
  | _ => none }
def fnSwapProgramRow : OpenClaim := { program := "ytppcghklkldnaaa", sum := "68748d3debffc204e708fdadbcc0b55815cfb4708b105a73d76728514f283ee3", func := "loop.example/productprograms/laws.FnSwapProgram", spec := "fnSwapProgram", inPlace := ["internal/bytealg.IndexByteString", "internal/bytealg.IndexString"], unfollowed := true, recurses := true, named := ["internal/bytealg.MaxLen"], apart := false }
def FnSwapProgramSaid : Prop := fnSwapProgramRow.holds Try.pinned (OpenSpec.ofChange fnSwapProgramSpec)

/-- ITS FALSE NEIGHBOUR: 'it returns false'. Refute it at one input. -/
def fnSwapProgramWrong : ChangeSpec := { name := "fnSwapProgram", fn := fun _ => fun
  | [d] => { results := [.lit (.bool false)], args := [d] }
  | _ => none }
def FnSwapProgramWrongFalsely : Prop := fnSwapProgramRow.holds Try.pinned (OpenSpec.ofChange fnSwapProgramWrong)

/-- 'laws.FnExactFormatStates': WHATEVER THE INPUT: true; the input reads as it did. -/
def fnExactFormatStatesSpec : ChangeSpec := { name := "fnExactFormatStates", fn := fun _ => fun
  | [d] => { results := [.lit (.bool true)], args := [d] }
  | _ => none }
def fnExactFormatStatesRow : OpenClaim := { program := "ytppcghklkldnaaa", sum := "68748d3debffc204e708fdadbcc0b55815cfb4708b105a73d76728514f283ee3", func := "loop.example/productprograms/laws.FnExactFormatStates", spec := "fnExactFormatStates", inPlace := ["internal/abi.NoEscape", "internal/bytealg.MakeNoZero"], unfollowed := true, recurses := true, apart := false }
def FnExactFormatStatesSaid : Prop := fnExactFormatStatesRow.holds Try.pinned (OpenSpec.ofChange fnExactFormatStatesSpec)

/-- ITS FALSE NEIGHBOUR: 'it returns false'. Refute it at one input. -/
def fnExactFormatStatesWrong : ChangeSpec := { name := "fnExactFormatStates", fn := fun _ => fun
  | [d] => { results := [.lit (.bool false)], args := [d] }
  | _ => none }
def FnExactFormatStatesWrongFalsely : Prop := fnExactFormatStatesRow.holds Try.pinned (OpenSpec.ofChange fnExactFormatStatesWrong)

/-- 'laws.FnStateText': WHATEVER THE INPUT: true; the input reads as it did. -/
def fnStateTextSpec : ChangeSpec := { name := "fnStateText", fn := fun _ => fun
  | [d1, d2] => { results := [.lit (.bool true)], args := [d1, d2] }
  | _ => none }
def fnStateTextRow : OpenClaim := { program := "ytppcghklkldnaaa", sum := "68748d3debffc204e708fdadbcc0b55815cfb4708b105a73d76728514f283ee3", func := "loop.example/productprograms/laws.FnStateText", spec := "fnStateText", unfollowed := true, recurses := true, apart := false }
def FnStateTextSaid : Prop := fnStateTextRow.holds Try.pinned (OpenSpec.ofChange fnStateTextSpec)

/-- ITS FALSE NEIGHBOUR: 'it returns false'. Refute it at one input. -/
def fnStateTextWrong : ChangeSpec := { name := "fnStateText", fn := fun _ => fun
  | [d1, d2] => { results := [.lit (.bool false)], args := [d1, d2] }
  | _ => none }
def FnStateTextWrongFalsely : Prop := fnStateTextRow.holds Try.pinned (OpenSpec.ofChange fnStateTextWrong)

/-- 'laws.FnExactRelOf': WHATEVER THE INPUT: true; the input reads as it did. -/
def fnExactRelOfSpec : ChangeSpec := { name := "fnExactRelOf", fn := fun _ => fun
  | [d] => { results := [.lit (.bool true)], args := [d] }
  | _ => none }
def fnExactRelOfRow : OpenClaim := { program := "ytppcghklkldnaaa", sum := "68748d3debffc204e708fdadbcc0b55815cfb4708b105a73d76728514f283ee3", func := "loop.example/productprograms/laws.FnExactRelOf", spec := "fnExactRelOf", unfollowed := true, recurses := true, apart := false }
def FnExactRelOfSaid : Prop := fnExactRelOfRow.holds Try.pinned (OpenSpec.ofChange fnExactRelOfSpec)

/-- ITS FALSE NEIGHBOUR: 'it returns false'. Refute it at one input. -/
def fnExactRelOfWrong : ChangeSpec := { name := "fnExactRelOf", fn := fun _ => fun
  | [d] => { results := [.lit (.bool false)], args := [d] }
  | _ => none }
def FnExactRelOfWrongFalsely : Prop := fnExactRelOfRow.holds Try.pinned (OpenSpec.ofChange fnExactRelOfWrong)

/- THE SECOND FORM. 'bulk': how many values and letters a reading holds, each counted each time it is reached (what is shared counts as often as it is met; a slice's spare places count too). A statement '..UptoSaid' is the law's where the arguments, and the package variables that the reading takes, are together of bulk at most 1048576: NARROWER than '..Said'. Prove '..Said' where nothing that the law and all that it calls make is longer than what came in: it says more and counts as full. Else prove '..UptoSaid'. A law counts once. -/
mutual
def uptoBulk {H : Type} : DataW H → Nat
  | .lit (.string bytes) => bytes.length + 1
  | .lit _ => 1
  | .nil => 1
  | .ptr d => uptoBulk d + 1
  | .slice elems spare => uptoBulkAll elems + uptoBulkAll spare + 1
  | .agg parts => uptoBulkAll parts + 1
  | .iface _ d => uptoBulk d + 1
  | .map entries => uptoBulkEntries entries + 1
  | .held _ => 1
def uptoBulkAll {H : Type} : List (DataW H) → Nat
  | [] => 0
  | d :: r => uptoBulk d + uptoBulkAll r
def uptoBulkEntries {H : Type} : List (Lit × DataW H) → Nat
  | [] => 0
  | x :: r => uptoBulkEntry x + uptoBulkEntries r
def uptoBulkEntry {H : Type} : Lit × DataW H → Nat
  | (.string bytes, d) => bytes.length + uptoBulk d + 1
  | (_, d) => uptoBulk d + 1
 end
def uptoSmall : (H : Type) → List (DataW H) → Bool := fun _ ds => decide (uptoBulkAll ds ≤ 1048576)
def OpenSpec.upto (s : _root_.Go.ChangeSpec) : _root_.Go.OpenSpec := { _root_.Go.OpenSpec.ofChange s with cond := some uptoSmall }

/-- 'laws.FnExactFoldProgram', WHERE WHAT IT READS IS OF BULK AT MOST 1048576: true; the input reads as it did. -/
def fnExactFoldProgramUptoRow : OpenClaim := { program := "ytppcghklkldnaaa", sum := "68748d3debffc204e708fdadbcc0b55815cfb4708b105a73d76728514f283ee3", func := "loop.example/productprograms/laws.FnExactFoldProgram", spec := "fnExactFoldProgram", unfollowed := true, recurses := true, apart := false, narrowed := true }
def FnExactFoldProgramUptoSaid : Prop := fnExactFoldProgramUptoRow.holds Try.pinned (OpenSpec.upto fnExactFoldProgramSpec)

/-- 'laws.FnProgramParts', WHERE WHAT IT READS IS OF BULK AT MOST 1048576: true; the input reads as it did. -/
def fnProgramPartsUptoRow : OpenClaim := { program := "ytppcghklkldnaaa", sum := "68748d3debffc204e708fdadbcc0b55815cfb4708b105a73d76728514f283ee3", func := "loop.example/productprograms/laws.FnProgramParts", spec := "fnProgramParts", recurses := true, apart := false, narrowed := true }
def FnProgramPartsUptoSaid : Prop := fnProgramPartsUptoRow.holds Try.pinned (OpenSpec.upto fnProgramPartsSpec)

/-- 'laws.FnPlain', WHERE WHAT IT READS IS OF BULK AT MOST 1048576: true; the input reads as it did. -/
def fnPlainUptoRow : OpenClaim := { program := "ytppcghklkldnaaa", sum := "68748d3debffc204e708fdadbcc0b55815cfb4708b105a73d76728514f283ee3", func := "loop.example/productprograms/laws.FnPlain", spec := "fnPlain", inPlace := ["internal/bytealg.IndexByteString"], unfollowed := true, recurses := true, apart := false, narrowed := true }
def FnPlainUptoSaid : Prop := fnPlainUptoRow.holds Try.pinned (OpenSpec.upto fnPlainSpec)

/-- 'laws.FnJoinPrograms', WHERE WHAT IT READS IS OF BULK AT MOST 1048576: true; the input reads as it did. -/
def fnJoinProgramsUptoRow : OpenClaim := { program := "ytppcghklkldnaaa", sum := "68748d3debffc204e708fdadbcc0b55815cfb4708b105a73d76728514f283ee3", func := "loop.example/productprograms/laws.FnJoinPrograms", spec := "fnJoinPrograms", unfollowed := true, recurses := true, apart := false, narrowed := true }
def FnJoinProgramsUptoSaid : Prop := fnJoinProgramsUptoRow.holds Try.pinned (OpenSpec.upto fnJoinProgramsSpec)

/-- 'laws.FnShowProgram', WHERE WHAT IT READS IS OF BULK AT MOST 1048576: true; the input reads as it did. -/
def fnShowProgramUptoRow : OpenClaim := { program := "ytppcghklkldnaaa", sum := "68748d3debffc204e708fdadbcc0b55815cfb4708b105a73d76728514f283ee3", func := "loop.example/productprograms/laws.FnShowProgram", spec := "fnShowProgram", recurses := true, apart := false, narrowed := true }
def FnShowProgramUptoSaid : Prop := fnShowProgramUptoRow.holds Try.pinned (OpenSpec.upto fnShowProgramSpec)

/-- 'laws.FnSizes', WHERE WHAT IT READS IS OF BULK AT MOST 1048576: true; the input reads as it did. -/
def fnSizesUptoRow : OpenClaim := { program := "ytppcghklkldnaaa", sum := "68748d3debffc204e708fdadbcc0b55815cfb4708b105a73d76728514f283ee3", func := "loop.example/productprograms/laws.FnSizes", spec := "fnSizes", inPlace := ["internal/bytealg.IndexByteString"], unfollowed := true, recurses := true, apart := false, narrowed := true }
def FnSizesUptoSaid : Prop := fnSizesUptoRow.holds Try.pinned (OpenSpec.upto fnSizesSpec)

/-- 'laws.FnReadsWrites', WHERE WHAT IT READS IS OF BULK AT MOST 1048576: true; the input reads as it did. -/
def fnReadsWritesUptoRow : OpenClaim := { program := "ytppcghklkldnaaa", sum := "68748d3debffc204e708fdadbcc0b55815cfb4708b105a73d76728514f283ee3", func := "loop.example/productprograms/laws.FnReadsWrites", spec := "fnReadsWrites", inPlace := ["internal/bytealg.IndexByteString", "internal/bytealg.IndexString"], unfollowed := true, recurses := true, named := ["internal/bytealg.MaxLen"], apart := false, narrowed := true }
def FnReadsWritesUptoSaid : Prop := fnReadsWritesUptoRow.holds Try.pinned (OpenSpec.upto fnReadsWritesSpec)

/-- 'laws.FnSwapProgram', WHERE WHAT IT READS IS OF BULK AT MOST 1048576: true; the input reads as it did. -/
def fnSwapProgramUptoRow : OpenClaim := { program := "ytppcghklkldnaaa", sum := "68748d3debffc204e708fdadbcc0b55815cfb4708b105a73d76728514f283ee3", func := "loop.example/productprograms/laws.FnSwapProgram", spec := "fnSwapProgram", inPlace := ["internal/bytealg.IndexByteString", "internal/bytealg.IndexString"], unfollowed := true, recurses := true, named := ["internal/bytealg.MaxLen"], apart := false, narrowed := true }
def FnSwapProgramUptoSaid : Prop := fnSwapProgramUptoRow.holds Try.pinned (OpenSpec.upto fnSwapProgramSpec)

/-- 'laws.FnExactFormatStates', WHERE WHAT IT READS IS OF BULK AT MOST 1048576: true; the input reads as it did. -/
def fnExactFormatStatesUptoRow : OpenClaim := { program := "ytppcghklkldnaaa", sum := "68748d3debffc204e708fdadbcc0b55815cfb4708b105a73d76728514f283ee3", func := "loop.example/productprograms/laws.FnExactFormatStates", spec := "fnExactFormatStates", inPlace := ["internal/abi.NoEscape", "internal/bytealg.MakeNoZero"], unfollowed := true, recurses := true, apart := false, narrowed := true }
def FnExactFormatStatesUptoSaid : Prop := fnExactFormatStatesUptoRow.holds Try.pinned (OpenSpec.upto fnExactFormatStatesSpec)

/-- 'laws.FnStateText', WHERE WHAT IT READS IS OF BULK AT MOST 1048576: true; the input reads as it did. -/
def fnStateTextUptoRow : OpenClaim := { program := "ytppcghklkldnaaa", sum := "68748d3debffc204e708fdadbcc0b55815cfb4708b105a73d76728514f283ee3", func := "loop.example/productprograms/laws.FnStateText", spec := "fnStateText", unfollowed := true, recurses := true, apart := false, narrowed := true }
def FnStateTextUptoSaid : Prop := fnStateTextUptoRow.holds Try.pinned (OpenSpec.upto fnStateTextSpec)

/-- 'laws.FnExactRelOf', WHERE WHAT IT READS IS OF BULK AT MOST 1048576: true; the input reads as it did. -/
def fnExactRelOfUptoRow : OpenClaim := { program := "ytppcghklkldnaaa", sum := "68748d3debffc204e708fdadbcc0b55815cfb4708b105a73d76728514f283ee3", func := "loop.example/productprograms/laws.FnExactRelOf", spec := "fnExactRelOf", unfollowed := true, recurses := true, apart := false, narrowed := true }
def FnExactRelOfUptoSaid : Prop := fnExactRelOfUptoRow.holds Try.pinned (OpenSpec.upto fnExactRelOfSpec)

end Rows
end Go.Proofs.Ytppcghklkldnaaa
