/-
  No cell of these rows narrows 'for every input' (looked for: loops, veiled, ifaces, maps, wideKeys, modest, calm, conditions, laid).
  DERIVED. THE GIVEN ROWS OF THIS SEAT. 7 by the template 'for every input the law returns true; each argument reads behind the call as it read before'; 0 by the template 'total and deterministic' (their statements: YtppcghklkldnaabTotals.lean).
  GIVEN WITH THE SEED: the statements are not yours to turn. If you find one false, say at which input.
  Laid BY PROGRAM, IN A SANDBOX (cutbox-rows.mjs): the forced cells as the released guide's own fill.sh prints them over the translation b362ff22cef4e536… (all of the seat's roots in one cut). By AI agents, Wed Nov 11 2026. No macro, syntax, notation, axiom, sorry.
-/
import Derived.Test.YtppcghklkldnaabChecked
import GoSem.Claim
import GoSem.ClaimJoined
import GoSem.ClaimMapViews
import Derived.JoinedTies
import Derived.KernelRfl
namespace Go.Proofs.Ytppcghklkldnaab
/- THE CELL 'sum', in the pinned program and in every row, IS THE sha256 OF THE DUMP (.gsa) THAT YtppcghklkldnaabProg.lean LOADS. Nothing in Lean hashes anything: it is a label: what it is worth is what the hold of that sum in a sandbox is worth. -/
noncomputable def Try.pinned : Pinned := { name := "ytppcghklkldnaab", sum := "b362ff22cef4e5361947112fb47f00e4d8202a57244a5f848633310900b4d291", checked := Try.checked }
namespace Rows
def none {H : Type} : Left H := { results := [], args := [] }

/-- 'laws.FnFirst': WHATEVER THE INPUT: true; the input reads as it did. -/
def fnFirstSpec : ChangeSpec := { name := "fnFirst", fn := fun _ => fun
  | [d] => { results := [.lit (.bool true)], args := [d] }
  | _ => none }
def fnFirstRow : OpenClaim := { program := "ytppcghklkldnaab", sum := "b362ff22cef4e5361947112fb47f00e4d8202a57244a5f848633310900b4d291", func := "loop.example/productprograms/laws.FnFirst", spec := "fnFirst", inPlace := ["internal/bytealg.IndexByteString", "internal/bytealg.CountString", "internal/bytealg.IndexString"], unfollowed := true, recurses := true, named := ["internal/bytealg.MaxLen"], apart := false }
def FnFirstSaid : Prop := fnFirstRow.holds Try.pinned (OpenSpec.ofChange fnFirstSpec)

/-- ITS FALSE NEIGHBOUR: 'it returns false'. Refute it at one input. -/
def fnFirstWrong : ChangeSpec := { name := "fnFirst", fn := fun _ => fun
  | [d] => { results := [.lit (.bool false)], args := [d] }
  | _ => none }
def FnFirstWrongFalsely : Prop := fnFirstRow.holds Try.pinned (OpenSpec.ofChange fnFirstWrong)

/-- 'laws.FnWithin': WHATEVER THE INPUT: true; the input reads as it did. -/
def fnWithinSpec : ChangeSpec := { name := "fnWithin", fn := fun _ => fun
  | [d] => { results := [.lit (.bool true)], args := [d] }
  | _ => none }
def fnWithinRow : OpenClaim := { program := "ytppcghklkldnaab", sum := "b362ff22cef4e5361947112fb47f00e4d8202a57244a5f848633310900b4d291", func := "loop.example/productprograms/laws.FnWithin", spec := "fnWithin", inPlace := ["internal/bytealg.CountString", "internal/bytealg.IndexByteString", "internal/bytealg.IndexString"], unfollowed := true, recurses := true, named := ["internal/bytealg.MaxLen"], apart := false }
def FnWithinSaid : Prop := fnWithinRow.holds Try.pinned (OpenSpec.ofChange fnWithinSpec)

/-- ITS FALSE NEIGHBOUR: 'it returns false'. Refute it at one input. -/
def fnWithinWrong : ChangeSpec := { name := "fnWithin", fn := fun _ => fun
  | [d] => { results := [.lit (.bool false)], args := [d] }
  | _ => none }
def FnWithinWrongFalsely : Prop := fnWithinRow.holds Try.pinned (OpenSpec.ofChange fnWithinWrong)

/-- 'laws.FnAndOr': WHATEVER THE INPUT: true; the input reads as it did. -/
def fnAndOrSpec : ChangeSpec := { name := "fnAndOr", fn := fun _ => fun
  | [d] => { results := [.lit (.bool true)], args := [d] }
  | _ => none }
def fnAndOrRow : OpenClaim := { program := "ytppcghklkldnaab", sum := "b362ff22cef4e5361947112fb47f00e4d8202a57244a5f848633310900b4d291", func := "loop.example/productprograms/laws.FnAndOr", spec := "fnAndOr", inPlace := ["internal/bytealg.CountString", "internal/bytealg.IndexByteString", "internal/bytealg.IndexString"], unfollowed := true, recurses := true, named := ["internal/bytealg.MaxLen"], apart := false }
def FnAndOrSaid : Prop := fnAndOrRow.holds Try.pinned (OpenSpec.ofChange fnAndOrSpec)

/-- ITS FALSE NEIGHBOUR: 'it returns false'. Refute it at one input. -/
def fnAndOrWrong : ChangeSpec := { name := "fnAndOr", fn := fun _ => fun
  | [d] => { results := [.lit (.bool false)], args := [d] }
  | _ => none }
def FnAndOrWrongFalsely : Prop := fnAndOrRow.holds Try.pinned (OpenSpec.ofChange fnAndOrWrong)

/-- 'laws.FnFormatStates': WHATEVER THE INPUT: true; the input reads as it did. -/
def fnFormatStatesSpec : ChangeSpec := { name := "fnFormatStates", fn := fun _ => fun
  | [d] => { results := [.lit (.bool true)], args := [d] }
  | _ => none }
def fnFormatStatesRow : OpenClaim := { program := "ytppcghklkldnaab", sum := "b362ff22cef4e5361947112fb47f00e4d8202a57244a5f848633310900b4d291", func := "loop.example/productprograms/laws.FnFormatStates", spec := "fnFormatStates", inPlace := ["internal/abi.NoEscape", "internal/bytealg.MakeNoZero", "internal/bytealg.CountString", "internal/bytealg.IndexByteString", "internal/bytealg.IndexString"], unfollowed := true, recurses := true, named := ["internal/bytealg.MaxLen"], apart := false }
def FnFormatStatesSaid : Prop := fnFormatStatesRow.holds Try.pinned (OpenSpec.ofChange fnFormatStatesSpec)

/-- ITS FALSE NEIGHBOUR: 'it returns false'. Refute it at one input. -/
def fnFormatStatesWrong : ChangeSpec := { name := "fnFormatStates", fn := fun _ => fun
  | [d] => { results := [.lit (.bool false)], args := [d] }
  | _ => none }
def FnFormatStatesWrongFalsely : Prop := fnFormatStatesRow.holds Try.pinned (OpenSpec.ofChange fnFormatStatesWrong)

/-- 'laws.FnFoldTest': WHATEVER THE INPUT: true; the input reads as it did. -/
def fnFoldTestSpec : ChangeSpec := { name := "fnFoldTest", fn := fun _ => fun
  | [d] => { results := [.lit (.bool true)], args := [d] }
  | _ => none }
def fnFoldTestRow : OpenClaim := { program := "ytppcghklkldnaab", sum := "b362ff22cef4e5361947112fb47f00e4d8202a57244a5f848633310900b4d291", func := "loop.example/productprograms/laws.FnFoldTest", spec := "fnFoldTest", inPlace := ["internal/bytealg.IndexByteString", "internal/bytealg.IndexString"], unfollowed := true, recurses := true, named := ["internal/bytealg.MaxLen"], apart := false }
def FnFoldTestSaid : Prop := fnFoldTestRow.holds Try.pinned (OpenSpec.ofChange fnFoldTestSpec)

/-- ITS FALSE NEIGHBOUR: 'it returns false'. Refute it at one input. -/
def fnFoldTestWrong : ChangeSpec := { name := "fnFoldTest", fn := fun _ => fun
  | [d] => { results := [.lit (.bool false)], args := [d] }
  | _ => none }
def FnFoldTestWrongFalsely : Prop := fnFoldTestRow.holds Try.pinned (OpenSpec.ofChange fnFoldTestWrong)

/-- 'laws.FnExactCountRules': WHATEVER THE INPUT: true; the input reads as it did. -/
def fnExactCountRulesSpec : ChangeSpec := { name := "fnExactCountRules", fn := fun _ => fun
  | [d1, d2] => { results := [.lit (.bool true)], args := [d1, d2] }
  | _ => none }
def fnExactCountRulesRow : OpenClaim := { program := "ytppcghklkldnaab", sum := "b362ff22cef4e5361947112fb47f00e4d8202a57244a5f848633310900b4d291", func := "loop.example/productprograms/laws.FnExactCountRules", spec := "fnExactCountRules", apart := false }
def FnExactCountRulesSaid : Prop := fnExactCountRulesRow.holds Try.pinned (OpenSpec.ofChange fnExactCountRulesSpec)

/-- ITS FALSE NEIGHBOUR: 'it returns false'. Refute it at one input. -/
def fnExactCountRulesWrong : ChangeSpec := { name := "fnExactCountRules", fn := fun _ => fun
  | [d1, d2] => { results := [.lit (.bool false)], args := [d1, d2] }
  | _ => none }
def FnExactCountRulesWrongFalsely : Prop := fnExactCountRulesRow.holds Try.pinned (OpenSpec.ofChange fnExactCountRulesWrong)

/-- 'laws.FnExactLineValid': WHATEVER THE INPUT: true; the input reads as it did. -/
def fnExactLineValidSpec : ChangeSpec := { name := "fnExactLineValid", fn := fun _ => fun
  | [d] => { results := [.lit (.bool true)], args := [d] }
  | _ => none }
def fnExactLineValidRow : OpenClaim := { program := "ytppcghklkldnaab", sum := "b362ff22cef4e5361947112fb47f00e4d8202a57244a5f848633310900b4d291", func := "loop.example/productprograms/laws.FnExactLineValid", spec := "fnExactLineValid", recurses := true, apart := false }
def FnExactLineValidSaid : Prop := fnExactLineValidRow.holds Try.pinned (OpenSpec.ofChange fnExactLineValidSpec)

/-- ITS FALSE NEIGHBOUR: 'it returns false'. Refute it at one input. -/
def fnExactLineValidWrong : ChangeSpec := { name := "fnExactLineValid", fn := fun _ => fun
  | [d] => { results := [.lit (.bool false)], args := [d] }
  | _ => none }
def FnExactLineValidWrongFalsely : Prop := fnExactLineValidRow.holds Try.pinned (OpenSpec.ofChange fnExactLineValidWrong)

/- THE SECOND FORM. 'bulk': how many values and letters a reading holds, each counted each time it is reached (what is shared counts as often as it is met; a slice's spare places count too). A statement '..UptoSaid' is the law's where the arguments, and the package variables that the reading takes, are together of bulk at most 1048576: NARROWER than '..Said'. Prove '..Said' where nothing that the law and all that it calls make is longer than what came in: it says more and counts as full. Else prove '..UptoSaid'. A law counts once. -/
mutual
def uptoBulk {H : Type} : DataW H → Nat
  | .lit (.string bytes) => bytes.length + 1
  | .lit _ => 1
  | .nil => 1
  | .ptr d => uptoBulk d + 1
  | .slice elems spare => uptoBulkAll elems + uptoBulkAll spare + 1
  | .agg parts => uptoBulkAll parts + 1
  | .iface _ d => uptoBulk d + 1
  | .map entries => uptoBulkEntries entries + 1
  | .held _ => 1
def uptoBulkAll {H : Type} : List (DataW H) → Nat
  | [] => 0
  | d :: r => uptoBulk d + uptoBulkAll r
def uptoBulkEntries {H : Type} : List (Lit × DataW H) → Nat
  | [] => 0
  | x :: r => uptoBulkEntry x + uptoBulkEntries r
def uptoBulkEntry {H : Type} : Lit × DataW H → Nat
  | (.string bytes, d) => bytes.length + uptoBulk d + 1
  | (_, d) => uptoBulk d + 1
 end
def uptoSmall : (H : Type) → List (DataW H) → Bool := fun _ ds => decide (uptoBulkAll ds ≤ 1048576)
def OpenSpec.upto (s : _root_.Go.ChangeSpec) : _root_.Go.OpenSpec := { _root_.Go.OpenSpec.ofChange s with cond := some uptoSmall }

/-- 'laws.FnFirst', WHERE WHAT IT READS IS OF BULK AT MOST 1048576: true; the input reads as it did. -/
def fnFirstUptoRow : OpenClaim := { program := "ytppcghklkldnaab", sum := "b362ff22cef4e5361947112fb47f00e4d8202a57244a5f848633310900b4d291", func := "loop.example/productprograms/laws.FnFirst", spec := "fnFirst", inPlace := ["internal/bytealg.IndexByteString", "internal/bytealg.CountString", "internal/bytealg.IndexString"], unfollowed := true, recurses := true, named := ["internal/bytealg.MaxLen"], apart := false, narrowed := true }
def FnFirstUptoSaid : Prop := fnFirstUptoRow.holds Try.pinned (OpenSpec.upto fnFirstSpec)

/-- 'laws.FnWithin', WHERE WHAT IT READS IS OF BULK AT MOST 1048576: true; the input reads as it did. -/
def fnWithinUptoRow : OpenClaim := { program := "ytppcghklkldnaab", sum := "b362ff22cef4e5361947112fb47f00e4d8202a57244a5f848633310900b4d291", func := "loop.example/productprograms/laws.FnWithin", spec := "fnWithin", inPlace := ["internal/bytealg.CountString", "internal/bytealg.IndexByteString", "internal/bytealg.IndexString"], unfollowed := true, recurses := true, named := ["internal/bytealg.MaxLen"], apart := false, narrowed := true }
def FnWithinUptoSaid : Prop := fnWithinUptoRow.holds Try.pinned (OpenSpec.upto fnWithinSpec)

/-- 'laws.FnAndOr', WHERE WHAT IT READS IS OF BULK AT MOST 1048576: true; the input reads as it did. -/
def fnAndOrUptoRow : OpenClaim := { program := "ytppcghklkldnaab", sum := "b362ff22cef4e5361947112fb47f00e4d8202a57244a5f848633310900b4d291", func := "loop.example/productprograms/laws.FnAndOr", spec := "fnAndOr", inPlace := ["internal/bytealg.CountString", "internal/bytealg.IndexByteString", "internal/bytealg.IndexString"], unfollowed := true, recurses := true, named := ["internal/bytealg.MaxLen"], apart := false, narrowed := true }
def FnAndOrUptoSaid : Prop := fnAndOrUptoRow.holds Try.pinned (OpenSpec.upto fnAndOrSpec)

/-- 'laws.FnFormatStates', WHERE WHAT IT READS IS OF BULK AT MOST 1048576: true; the input reads as it did. -/
def fnFormatStatesUptoRow : OpenClaim := { program := "ytppcghklkldnaab", sum := "b362ff22cef4e5361947112fb47f00e4d8202a57244a5f848633310900b4d291", func := "loop.example/productprograms/laws.FnFormatStates", spec := "fnFormatStates", inPlace := ["internal/abi.NoEscape", "internal/bytealg.MakeNoZero", "internal/bytealg.CountString", "internal/bytealg.IndexByteString", "internal/bytealg.IndexString"], unfollowed := true, recurses := true, named := ["internal/bytealg.MaxLen"], apart := false, narrowed := true }
def FnFormatStatesUptoSaid : Prop := fnFormatStatesUptoRow.holds Try.pinned (OpenSpec.upto fnFormatStatesSpec)

/-- 'laws.FnFoldTest', WHERE WHAT IT READS IS OF BULK AT MOST 1048576: true; the input reads as it did. -/
def fnFoldTestUptoRow : OpenClaim := { program := "ytppcghklkldnaab", sum := "b362ff22cef4e5361947112fb47f00e4d8202a57244a5f848633310900b4d291", func := "loop.example/productprograms/laws.FnFoldTest", spec := "fnFoldTest", inPlace := ["internal/bytealg.IndexByteString", "internal/bytealg.IndexString"], unfollowed := true, recurses := true, named := ["internal/bytealg.MaxLen"], apart := false, narrowed := true }
def FnFoldTestUptoSaid : Prop := fnFoldTestUptoRow.holds Try.pinned (OpenSpec.upto fnFoldTestSpec)

/-- 'laws.FnExactCountRules', WHERE WHAT IT READS IS OF BULK AT MOST 1048576: true; the input reads as it did. -/
def fnExactCountRulesUptoRow : OpenClaim := { program := "ytppcghklkldnaab", sum := "b362ff22cef4e5361947112fb47f00e4d8202a57244a5f848633310900b4d291", func := "loop.example/productprograms/laws.FnExactCountRules", spec := "fnExactCountRules", apart := false, narrowed := true }
def FnExactCountRulesUptoSaid : Prop := fnExactCountRulesUptoRow.holds Try.pinned (OpenSpec.upto fnExactCountRulesSpec)

/-- 'laws.FnExactLineValid', WHERE WHAT IT READS IS OF BULK AT MOST 1048576: true; the input reads as it did. -/
def fnExactLineValidUptoRow : OpenClaim := { program := "ytppcghklkldnaab", sum := "b362ff22cef4e5361947112fb47f00e4d8202a57244a5f848633310900b4d291", func := "loop.example/productprograms/laws.FnExactLineValid", spec := "fnExactLineValid", recurses := true, apart := false, narrowed := true }
def FnExactLineValidUptoSaid : Prop := fnExactLineValidUptoRow.holds Try.pinned (OpenSpec.upto fnExactLineValidSpec)

end Rows
end Go.Proofs.Ytppcghklkldnaab
