/-
  No cell of these rows narrows 'for every input' (looked for: loops, veiled, ifaces, maps, wideKeys, modest, calm, conditions, laid).
  DERIVED. THE GIVEN ROWS OF THIS SEAT. 9 by the template 'for every input the law returns true; each argument reads behind the call as it read before'; 0 by the template 'total and deterministic' (their statements: YtelnigihmdlfiaaTotals.lean).
  GIVEN WITH THE SEED: the statements are not yours to turn. If you find one false, say at which input.
  Laid BY PROGRAM, IN A SANDBOX (cutbox-rows.mjs): the forced cells as the released guide's own fill.sh prints them over the translation 82a62bae9d5646c7… (all of the seat's roots in one cut). By AI agents, Wed Nov 11 2026. No macro, syntax, notation, axiom, sorry.
-/
import Derived.Test.YtelnigihmdlfiaaChecked
import GoSem.Claim
import GoSem.ClaimJoined
import GoSem.ClaimMapViews
import Derived.JoinedTies
import Derived.KernelRfl
namespace Go.Proofs.Ytelnigihmdlfiaa
/- THE CELL 'sum', in the pinned program and in every row, IS THE sha256 OF THE DUMP (.gsa) THAT YtelnigihmdlfiaaProg.lean LOADS. Nothing in Lean hashes anything: it is a label: what it is worth is what the hold of that sum in a sandbox is worth. -/
noncomputable def Try.pinned : Pinned := { name := "ytelnigihmdlfiaa", sum := "82a62bae9d5646c7a18c79d1b0df9c48c4d495fa91c7f0d0f9f857b46df93066", checked := Try.checked }
namespace Rows
def none {H : Type} : Left H := { results := [], args := [] }

/-- 'laws.FnExactSwapBranches': WHATEVER THE INPUT: true; the input reads as it did. -/
def fnExactSwapBranchesSpec : ChangeSpec := { name := "fnExactSwapBranches", fn := fun _ => fun
  | [d] => { results := [.lit (.bool true)], args := [d] }
  | _ => none }
def fnExactSwapBranchesRow : OpenClaim := { program := "ytelnigihmdlfiaa", sum := "82a62bae9d5646c7a18c79d1b0df9c48c4d495fa91c7f0d0f9f857b46df93066", func := "loop.example/productprograms/laws.FnExactSwapBranches", spec := "fnExactSwapBranches", unfollowed := true, recurses := true, apart := false }
def FnExactSwapBranchesSaid : Prop := fnExactSwapBranchesRow.holds Try.pinned (OpenSpec.ofChange fnExactSwapBranchesSpec)

/-- ITS FALSE NEIGHBOUR: 'it returns false'. Refute it at one input. -/
def fnExactSwapBranchesWrong : ChangeSpec := { name := "fnExactSwapBranches", fn := fun _ => fun
  | [d] => { results := [.lit (.bool false)], args := [d] }
  | _ => none }
def FnExactSwapBranchesWrongFalsely : Prop := fnExactSwapBranchesRow.holds Try.pinned (OpenSpec.ofChange fnExactSwapBranchesWrong)

/-- 'laws.FnExactUnrollLoop': WHATEVER THE INPUT: true; the input reads as it did. -/
def fnExactUnrollLoopSpec : ChangeSpec := { name := "fnExactUnrollLoop", fn := fun _ => fun
  | [d] => { results := [.lit (.bool true)], args := [d] }
  | _ => none }
def fnExactUnrollLoopRow : OpenClaim := { program := "ytelnigihmdlfiaa", sum := "82a62bae9d5646c7a18c79d1b0df9c48c4d495fa91c7f0d0f9f857b46df93066", func := "loop.example/productprograms/laws.FnExactUnrollLoop", spec := "fnExactUnrollLoop", unfollowed := true, recurses := true, apart := false }
def FnExactUnrollLoopSaid : Prop := fnExactUnrollLoopRow.holds Try.pinned (OpenSpec.ofChange fnExactUnrollLoopSpec)

/-- ITS FALSE NEIGHBOUR: 'it returns false'. Refute it at one input. -/
def fnExactUnrollLoopWrong : ChangeSpec := { name := "fnExactUnrollLoop", fn := fun _ => fun
  | [d] => { results := [.lit (.bool false)], args := [d] }
  | _ => none }
def FnExactUnrollLoopWrongFalsely : Prop := fnExactUnrollLoopRow.holds Try.pinned (OpenSpec.ofChange fnExactUnrollLoopWrong)

/-- 'laws.FnExactPushAfter': WHATEVER THE INPUT: true; the input reads as it did. -/
def fnExactPushAfterSpec : ChangeSpec := { name := "fnExactPushAfter", fn := fun _ => fun
  | [d] => { results := [.lit (.bool true)], args := [d] }
  | _ => none }
def fnExactPushAfterRow : OpenClaim := { program := "ytelnigihmdlfiaa", sum := "82a62bae9d5646c7a18c79d1b0df9c48c4d495fa91c7f0d0f9f857b46df93066", func := "loop.example/productprograms/laws.FnExactPushAfter", spec := "fnExactPushAfter", unfollowed := true, recurses := true, apart := false }
def FnExactPushAfterSaid : Prop := fnExactPushAfterRow.holds Try.pinned (OpenSpec.ofChange fnExactPushAfterSpec)

/-- ITS FALSE NEIGHBOUR: 'it returns false'. Refute it at one input. -/
def fnExactPushAfterWrong : ChangeSpec := { name := "fnExactPushAfter", fn := fun _ => fun
  | [d] => { results := [.lit (.bool false)], args := [d] }
  | _ => none }
def FnExactPushAfterWrongFalsely : Prop := fnExactPushAfterRow.holds Try.pinned (OpenSpec.ofChange fnExactPushAfterWrong)

/-- 'laws.FnExactFormatStates': WHATEVER THE INPUT: true; the input reads as it did. -/
def fnExactFormatStatesSpec : ChangeSpec := { name := "fnExactFormatStates", fn := fun _ => fun
  | [d] => { results := [.lit (.bool true)], args := [d] }
  | _ => none }
def fnExactFormatStatesRow : OpenClaim := { program := "ytelnigihmdlfiaa", sum := "82a62bae9d5646c7a18c79d1b0df9c48c4d495fa91c7f0d0f9f857b46df93066", func := "loop.example/productprograms/laws.FnExactFormatStates", spec := "fnExactFormatStates", inPlace := ["internal/abi.NoEscape", "internal/bytealg.MakeNoZero"], unfollowed := true, recurses := true, apart := false }
def FnExactFormatStatesSaid : Prop := fnExactFormatStatesRow.holds Try.pinned (OpenSpec.ofChange fnExactFormatStatesSpec)

/-- ITS FALSE NEIGHBOUR: 'it returns false'. Refute it at one input. -/
def fnExactFormatStatesWrong : ChangeSpec := { name := "fnExactFormatStates", fn := fun _ => fun
  | [d] => { results := [.lit (.bool false)], args := [d] }
  | _ => none }
def FnExactFormatStatesWrongFalsely : Prop := fnExactFormatStatesRow.holds Try.pinned (OpenSpec.ofChange fnExactFormatStatesWrong)

/-- 'laws.FnStateText': WHATEVER THE INPUT: true; the input reads as it did. -/
def fnStateTextSpec : ChangeSpec := { name := "fnStateText", fn := fun _ => fun
  | [d1, d2] => { results := [.lit (.bool true)], args := [d1, d2] }
  | _ => none }
def fnStateTextRow : OpenClaim := { program := "ytelnigihmdlfiaa", sum := "82a62bae9d5646c7a18c79d1b0df9c48c4d495fa91c7f0d0f9f857b46df93066", func := "loop.example/productprograms/laws.FnStateText", spec := "fnStateText", unfollowed := true, recurses := true, apart := false }
def FnStateTextSaid : Prop := fnStateTextRow.holds Try.pinned (OpenSpec.ofChange fnStateTextSpec)

/-- ITS FALSE NEIGHBOUR: 'it returns false'. Refute it at one input. -/
def fnStateTextWrong : ChangeSpec := { name := "fnStateText", fn := fun _ => fun
  | [d1, d2] => { results := [.lit (.bool false)], args := [d1, d2] }
  | _ => none }
def FnStateTextWrongFalsely : Prop := fnStateTextRow.holds Try.pinned (OpenSpec.ofChange fnStateTextWrong)

/-- 'laws.FnExactPredOf': WHATEVER THE INPUT: true; the input reads as it did. -/
def fnExactPredOfSpec : ChangeSpec := { name := "fnExactPredOf", fn := fun _ => fun
  | [d] => { results := [.lit (.bool true)], args := [d] }
  | _ => none }
def fnExactPredOfRow : OpenClaim := { program := "ytelnigihmdlfiaa", sum := "82a62bae9d5646c7a18c79d1b0df9c48c4d495fa91c7f0d0f9f857b46df93066", func := "loop.example/productprograms/laws.FnExactPredOf", spec := "fnExactPredOf", unfollowed := true, recurses := true, apart := false }
def FnExactPredOfSaid : Prop := fnExactPredOfRow.holds Try.pinned (OpenSpec.ofChange fnExactPredOfSpec)

/-- ITS FALSE NEIGHBOUR: 'it returns false'. Refute it at one input. -/
def fnExactPredOfWrong : ChangeSpec := { name := "fnExactPredOf", fn := fun _ => fun
  | [d] => { results := [.lit (.bool false)], args := [d] }
  | _ => none }
def FnExactPredOfWrongFalsely : Prop := fnExactPredOfRow.holds Try.pinned (OpenSpec.ofChange fnExactPredOfWrong)

/-- 'laws.FnExactRelOf': WHATEVER THE INPUT: true; the input reads as it did. -/
def fnExactRelOfSpec : ChangeSpec := { name := "fnExactRelOf", fn := fun _ => fun
  | [d] => { results := [.lit (.bool true)], args := [d] }
  | _ => none }
def fnExactRelOfRow : OpenClaim := { program := "ytelnigihmdlfiaa", sum := "82a62bae9d5646c7a18c79d1b0df9c48c4d495fa91c7f0d0f9f857b46df93066", func := "loop.example/productprograms/laws.FnExactRelOf", spec := "fnExactRelOf", unfollowed := true, recurses := true, apart := false }
def FnExactRelOfSaid : Prop := fnExactRelOfRow.holds Try.pinned (OpenSpec.ofChange fnExactRelOfSpec)

/-- ITS FALSE NEIGHBOUR: 'it returns false'. Refute it at one input. -/
def fnExactRelOfWrong : ChangeSpec := { name := "fnExactRelOf", fn := fun _ => fun
  | [d] => { results := [.lit (.bool false)], args := [d] }
  | _ => none }
def FnExactRelOfWrongFalsely : Prop := fnExactRelOfRow.holds Try.pinned (OpenSpec.ofChange fnExactRelOfWrong)

/-- 'laws.FnExactFoldTest': WHATEVER THE INPUT: true; the input reads as it did. -/
def fnExactFoldTestSpec : ChangeSpec := { name := "fnExactFoldTest", fn := fun _ => fun
  | [d] => { results := [.lit (.bool true)], args := [d] }
  | _ => none }
def fnExactFoldTestRow : OpenClaim := { program := "ytelnigihmdlfiaa", sum := "82a62bae9d5646c7a18c79d1b0df9c48c4d495fa91c7f0d0f9f857b46df93066", func := "loop.example/productprograms/laws.FnExactFoldTest", spec := "fnExactFoldTest", unfollowed := true, recurses := true, apart := false }
def FnExactFoldTestSaid : Prop := fnExactFoldTestRow.holds Try.pinned (OpenSpec.ofChange fnExactFoldTestSpec)

/-- ITS FALSE NEIGHBOUR: 'it returns false'. Refute it at one input. -/
def fnExactFoldTestWrong : ChangeSpec := { name := "fnExactFoldTest", fn := fun _ => fun
  | [d] => { results := [.lit (.bool false)], args := [d] }
  | _ => none }
def FnExactFoldTestWrongFalsely : Prop := fnExactFoldTestRow.holds Try.pinned (OpenSpec.ofChange fnExactFoldTestWrong)

/-- 'laws.FnExactFoldProgram': WHATEVER THE INPUT: true; the input reads as it did. -/
def fnExactFoldProgramSpec : ChangeSpec := { name := "fnExactFoldProgram", fn := fun _ => fun
  | [d] => { results := [.lit (.bool true)], args := [d] }
  | _ => none }
def fnExactFoldProgramRow : OpenClaim := { program := "ytelnigihmdlfiaa", sum := "82a62bae9d5646c7a18c79d1b0df9c48c4d495fa91c7f0d0f9f857b46df93066", func := "loop.example/productprograms/laws.FnExactFoldProgram", spec := "fnExactFoldProgram", unfollowed := true, recurses := true, apart := false }
def FnExactFoldProgramSaid : Prop := fnExactFoldProgramRow.holds Try.pinned (OpenSpec.ofChange fnExactFoldProgramSpec)

/-- ITS FALSE NEIGHBOUR: 'it returns false'. Refute it at one input. -/
def fnExactFoldProgramWrong : ChangeSpec := { name := "fnExactFoldProgram", fn := fun _ => fun
  | [d] => { results := [.lit (.bool false)], args := [d] }
  | _ => none }
def FnExactFoldProgramWrongFalsely : Prop := fnExactFoldProgramRow.holds Try.pinned (OpenSpec.ofChange fnExactFoldProgramWrong)

/- THE SECOND FORM. 'bulk': how many values and letters a reading holds, each counted each time it is reached (what is shared counts as often as it is met; a slice's spare places count too). A statement '..UptoSaid' is the law's where the arguments, and the package variables that the reading takes, are together of bulk at most 1048576: NARROWER than '..Said'. Prove '..Said' where nothing that the law and all that it calls make is longer than what came in: it says more and counts as full. Else prove '..UptoSaid'. A law counts once. -/
mutual
def uptoBulk {H : Type} : DataW H → Nat
  | .lit (.string bytes) => bytes.length + 1
  | .lit _ => 1
  | .nil => 1
  | .ptr d => uptoBulk d + 1
  | .slice elems spare => uptoBulkAll elems + uptoBulkAll spare + 1
  | .agg parts => uptoBulkAll parts + 1
  | .iface _ d => uptoBulk d + 1
  | .map entries => uptoBulkEntries entries + 1
  | .held _ => 1
def uptoBulkAll {H : Type} : List (DataW H) → Nat
  | [] => 0
  | d :: r => uptoBulk d + uptoBulkAll r
def uptoBulkEntries {H : Type} : List (Lit × DataW H) → Nat
  | [] => 0
  | x :: r => uptoBulkEntry x + uptoBulkEntries r
def uptoBulkEntry {H : Type} : Lit × DataW H → Nat
  | (.string bytes, d) => bytes.length + uptoBulk d + 1
  | (_, d) => uptoBulk d + 1
 end
def uptoSmall : (H : Type) → List (DataW H) → Bool := fun _ ds => decide (uptoBulkAll ds ≤ 1048576)
def OpenSpec.upto (s : _root_.Go.ChangeSpec) : _root_.Go.OpenSpec := { _root_.Go.OpenSpec.ofChange s with cond := some uptoSmall }

/-- 'laws.FnExactSwapBranches', WHERE WHAT IT READS IS OF BULK AT MOST 1048576: true; the input reads as it did. -/
def fnExactSwapBranchesUptoRow : OpenClaim := { program := "ytelnigihmdlfiaa", sum := "82a62bae9d5646c7a18c79d1b0df9c48c4d495fa91c7f0d0f9f857b46df93066", func := "loop.example/productprograms/laws.FnExactSwapBranches", spec := "fnExactSwapBranches", unfollowed := true, recurses := true, apart := false, narrowed := true }
def FnExactSwapBranchesUptoSaid : Prop := fnExactSwapBranchesUptoRow.holds Try.pinned (OpenSpec.upto fnExactSwapBranchesSpec)

/-- 'laws.FnExactUnrollLoop', WHERE WHAT IT READS IS OF BULK AT MOST 1048576: true; the input reads as it did. -/
def fnExactUnrollLoopUptoRow : OpenClaim := { program := "ytelnigihmdlfiaa", sum := "82a62bae9d5646c7a18c79d1b0df9c48c4d495fa91c7f0d0f9f857b46df93066", func := "loop.example/productprograms/laws.FnExactUnrollLoop", spec := "fnExactUnrollLoop", unfollowed := true, recurses := true, apart := false, narrowed := true }
def FnExactUnrollLoopUptoSaid : Prop := fnExactUnrollLoopUptoRow.holds Try.pinned (OpenSpec.upto fnExactUnrollLoopSpec)

/-- 'laws.FnExactPushAfter', WHERE WHAT IT READS IS OF BULK AT MOST 1048576: true; the input reads as it did. -/
def fnExactPushAfterUptoRow : OpenClaim := { program := "ytelnigihmdlfiaa", sum := "82a62bae9d5646c7a18c79d1b0df9c48c4d495fa91c7f0d0f9f857b46df93066", func := "loop.example/productprograms/laws.FnExactPushAfter", spec := "fnExactPushAfter", unfollowed := true, recurses := true, apart := false, narrowed := true }
def FnExactPushAfterUptoSaid : Prop := fnExactPushAfterUptoRow.holds Try.pinned (OpenSpec.upto fnExactPushAfterSpec)

/-- 'laws.FnExactFormatStates', WHERE WHAT IT READS IS OF BULK AT MOST 1048576: true; the input reads as it did. -/
def fnExactFormatStatesUptoRow : OpenClaim := { program := "ytelnigihmdlfiaa", sum := "82a62bae9d5646c7a18c79d1b0df9c48c4d495fa91c7f0d0f9f857b46df93066", func := "loop.example/productprograms/laws.FnExactFormatStates", spec := "fnExactFormatStates", inPlace := ["internal/abi.NoEscape", "internal/bytealg.MakeNoZero"], unfollowed := true, recurses := true, apart := false, narrowed := true }
def FnExactFormatStatesUptoSaid : Prop := fnExactFormatStatesUptoRow.holds Try.pinned (OpenSpec.upto fnExactFormatStatesSpec)

/-- 'laws.FnStateText', WHERE WHAT IT READS IS OF BULK AT MOST 1048576: true; the input reads as it did. -/
def fnStateTextUptoRow : OpenClaim := { program := "ytelnigihmdlfiaa", sum := "82a62bae9d5646c7a18c79d1b0df9c48c4d495fa91c7f0d0f9f857b46df93066", func := "loop.example/productprograms/laws.FnStateText", spec := "fnStateText", unfollowed := true, recurses := true, apart := false, narrowed := true }
def FnStateTextUptoSaid : Prop := fnStateTextUptoRow.holds Try.pinned (OpenSpec.upto fnStateTextSpec)

/-- 'laws.FnExactPredOf', WHERE WHAT IT READS IS OF BULK AT MOST 1048576: true; the input reads as it did. -/
def fnExactPredOfUptoRow : OpenClaim := { program := "ytelnigihmdlfiaa", sum := "82a62bae9d5646c7a18c79d1b0df9c48c4d495fa91c7f0d0f9f857b46df93066", func := "loop.example/productprograms/laws.FnExactPredOf", spec := "fnExactPredOf", unfollowed := true, recurses := true, apart := false, narrowed := true }
def FnExactPredOfUptoSaid : Prop := fnExactPredOfUptoRow.holds Try.pinned (OpenSpec.upto fnExactPredOfSpec)

/-- 'laws.FnExactRelOf', WHERE WHAT IT READS IS OF BULK AT MOST 1048576: true; the input reads as it did. -/
def fnExactRelOfUptoRow : OpenClaim := { program := "ytelnigihmdlfiaa", sum := "82a62bae9d5646c7a18c79d1b0df9c48c4d495fa91c7f0d0f9f857b46df93066", func := "loop.example/productprograms/laws.FnExactRelOf", spec := "fnExactRelOf", unfollowed := true, recurses := true, apart := false, narrowed := true }
def FnExactRelOfUptoSaid : Prop := fnExactRelOfUptoRow.holds Try.pinned (OpenSpec.upto fnExactRelOfSpec)

/-- 'laws.FnExactFoldTest', WHERE WHAT IT READS IS OF BULK AT MOST 1048576: true; the input reads as it did. -/
def fnExactFoldTestUptoRow : OpenClaim := { program := "ytelnigihmdlfiaa", sum := "82a62bae9d5646c7a18c79d1b0df9c48c4d495fa91c7f0d0f9f857b46df93066", func := "loop.example/productprograms/laws.FnExactFoldTest", spec := "fnExactFoldTest", unfollowed := true, recurses := true, apart := false, narrowed := true }
def FnExactFoldTestUptoSaid : Prop := fnExactFoldTestUptoRow.holds Try.pinned (OpenSpec.upto fnExactFoldTestSpec)

/-- 'laws.FnExactFoldProgram', WHERE WHAT IT READS IS OF BULK AT MOST 1048576: true; the input reads as it did. -/
def fnExactFoldProgramUptoRow : OpenClaim := { program := "ytelnigihmdlfiaa", sum := "82a62bae9d5646c7a18c79d1b0df9c48c4d495fa91c7f0d0f9f857b46df93066", func := "loop.example/productprograms/laws.FnExactFoldProgram", spec := "fnExactFoldProgram", unfollowed := true, recurses := true, apart := false, narrowed := true }
def FnExactFoldProgramUptoSaid : Prop := fnExactFoldProgramUptoRow.holds Try.pinned (OpenSpec.upto fnExactFoldProgramSpec)

end Rows
end Go.Proofs.Ytelnigihmdlfiaa
