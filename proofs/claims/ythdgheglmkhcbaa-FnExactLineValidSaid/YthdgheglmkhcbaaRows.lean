/-
  No cell of these rows narrows 'for every input' (looked for: loops, veiled, ifaces, maps, wideKeys, modest, calm, conditions, laid).
  DERIVED. THE GIVEN ROWS OF THIS SEAT. 12 by the template 'for every input the law returns true; each argument reads behind the call as it read before'; 0 by the template 'total and deterministic' (their statements: YthdgheglmkhcbaaTotals.lean).
  GIVEN WITH THE SEED: the statements are not yours to turn. If you find one false, say at which input.
  Laid BY PROGRAM, IN A SANDBOX (cutbox-rows.mjs): the forced cells as the released guide's own fill.sh prints them over the translation dbd3b0a019bc4597… (all of the seat's roots in one cut). By AI agents, Wed Nov 11 2026. No macro, syntax, notation, axiom, sorry.
-/
import Derived.Test.YthdgheglmkhcbaaChecked
import GoSem.Claim
import GoSem.ClaimJoined
import GoSem.ClaimMapViews
import Derived.JoinedTies
import Derived.KernelRfl
namespace Go.Proofs.Ythdgheglmkhcbaa
/- THE CELL 'sum', in the pinned program and in every row, IS THE sha256 OF THE DUMP (.gsa) THAT YthdgheglmkhcbaaProg.lean LOADS. Nothing in Lean hashes anything: it is a label: what it is worth is what the hold of that sum in a sandbox is worth. -/
noncomputable def Try.pinned : Pinned := { name := "ythdgheglmkhcbaa", sum := "dbd3b0a019bc4597f6cd69927f7fb4d52fc8afe35b942213e1c03ad8f4ae23ca", checked := Try.checked }
namespace Rows
def none {H : Type} : Left H := { results := [], args := [] }

/-- 'laws.FnRelOf': WHATEVER THE INPUT: true; the input reads as it did. -/
def fnRelOfSpec : ChangeSpec := { name := "fnRelOf", fn := fun _ => fun
  | [d] => { results := [.lit (.bool true)], args := [d] }
  | _ => none }
def fnRelOfRow : OpenClaim := { program := "ythdgheglmkhcbaa", sum := "dbd3b0a019bc4597f6cd69927f7fb4d52fc8afe35b942213e1c03ad8f4ae23ca", func := "loop.example/productprograms/laws.FnRelOf", spec := "fnRelOf", unfollowed := true, recurses := true, apart := false }
def FnRelOfSaid : Prop := fnRelOfRow.holds Try.pinned (OpenSpec.ofChange fnRelOfSpec)

/-- ITS FALSE NEIGHBOUR: 'it returns false'. Refute it at one input. -/
def fnRelOfWrong : ChangeSpec := { name := "fnRelOf", fn := fun _ => fun
  | [d] => { results := [.lit (.bool false)], args := [d] }
  | _ => none }
def FnRelOfWrongFalsely : Prop := fnRelOfRow.holds Try.pinned (OpenSpec.ofChange fnRelOfWrong)

/-- 'laws.FnNotRel': WHATEVER THE INPUT: true; the input reads as it did. -/
def fnNotRelSpec : ChangeSpec := { name := "fnNotRel", fn := fun _ => fun
  | [d] => { results := [.lit (.bool true)], args := [d] }
  | _ => none }
def fnNotRelRow : OpenClaim := { program := "ythdgheglmkhcbaa", sum := "dbd3b0a019bc4597f6cd69927f7fb4d52fc8afe35b942213e1c03ad8f4ae23ca", func := "loop.example/productprograms/laws.FnNotRel", spec := "fnNotRel", inPlace := ["internal/bytealg.CountString", "internal/bytealg.IndexByteString", "internal/bytealg.IndexString"], unfollowed := true, recurses := true, named := ["internal/bytealg.MaxLen"], apart := false }
def FnNotRelSaid : Prop := fnNotRelRow.holds Try.pinned (OpenSpec.ofChange fnNotRelSpec)

/-- ITS FALSE NEIGHBOUR: 'it returns false'. Refute it at one input. -/
def fnNotRelWrong : ChangeSpec := { name := "fnNotRel", fn := fun _ => fun
  | [d] => { results := [.lit (.bool false)], args := [d] }
  | _ => none }
def FnNotRelWrongFalsely : Prop := fnNotRelRow.holds Try.pinned (OpenSpec.ofChange fnNotRelWrong)

/-- 'laws.FnFirstPair': WHATEVER THE INPUT: true; the input reads as it did. -/
def fnFirstPairSpec : ChangeSpec := { name := "fnFirstPair", fn := fun _ => fun
  | [d] => { results := [.lit (.bool true)], args := [d] }
  | _ => none }
def fnFirstPairRow : OpenClaim := { program := "ythdgheglmkhcbaa", sum := "dbd3b0a019bc4597f6cd69927f7fb4d52fc8afe35b942213e1c03ad8f4ae23ca", func := "loop.example/productprograms/laws.FnFirstPair", spec := "fnFirstPair", inPlace := ["internal/bytealg.IndexByteString", "internal/bytealg.CountString", "internal/bytealg.IndexString"], unfollowed := true, recurses := true, named := ["internal/bytealg.MaxLen"], apart := false }
def FnFirstPairSaid : Prop := fnFirstPairRow.holds Try.pinned (OpenSpec.ofChange fnFirstPairSpec)

/-- ITS FALSE NEIGHBOUR: 'it returns false'. Refute it at one input. -/
def fnFirstPairWrong : ChangeSpec := { name := "fnFirstPair", fn := fun _ => fun
  | [d] => { results := [.lit (.bool false)], args := [d] }
  | _ => none }
def FnFirstPairWrongFalsely : Prop := fnFirstPairRow.holds Try.pinned (OpenSpec.ofChange fnFirstPairWrong)

/-- 'laws.FnRelWithin': WHATEVER THE INPUT: true; the input reads as it did. -/
def fnRelWithinSpec : ChangeSpec := { name := "fnRelWithin", fn := fun _ => fun
  | [d] => { results := [.lit (.bool true)], args := [d] }
  | _ => none }
def fnRelWithinRow : OpenClaim := { program := "ythdgheglmkhcbaa", sum := "dbd3b0a019bc4597f6cd69927f7fb4d52fc8afe35b942213e1c03ad8f4ae23ca", func := "loop.example/productprograms/laws.FnRelWithin", spec := "fnRelWithin", inPlace := ["internal/bytealg.CountString", "internal/bytealg.IndexByteString", "internal/bytealg.IndexString"], unfollowed := true, recurses := true, named := ["internal/bytealg.MaxLen"], apart := false }
def FnRelWithinSaid : Prop := fnRelWithinRow.holds Try.pinned (OpenSpec.ofChange fnRelWithinSpec)

/-- ITS FALSE NEIGHBOUR: 'it returns false'. Refute it at one input. -/
def fnRelWithinWrong : ChangeSpec := { name := "fnRelWithin", fn := fun _ => fun
  | [d] => { results := [.lit (.bool false)], args := [d] }
  | _ => none }
def FnRelWithinWrongFalsely : Prop := fnRelWithinRow.holds Try.pinned (OpenSpec.ofChange fnRelWithinWrong)

/-- 'laws.FnRelSets': WHATEVER THE INPUT: true; the input reads as it did. -/
def fnRelSetsSpec : ChangeSpec := { name := "fnRelSets", fn := fun _ => fun
  | [d] => { results := [.lit (.bool true)], args := [d] }
  | _ => none }
def fnRelSetsRow : OpenClaim := { program := "ythdgheglmkhcbaa", sum := "dbd3b0a019bc4597f6cd69927f7fb4d52fc8afe35b942213e1c03ad8f4ae23ca", func := "loop.example/productprograms/laws.FnRelSets", spec := "fnRelSets", inPlace := ["internal/bytealg.CountString", "internal/bytealg.IndexByteString", "internal/bytealg.IndexString"], unfollowed := true, recurses := true, named := ["internal/bytealg.MaxLen"], apart := false }
def FnRelSetsSaid : Prop := fnRelSetsRow.holds Try.pinned (OpenSpec.ofChange fnRelSetsSpec)

/-- ITS FALSE NEIGHBOUR: 'it returns false'. Refute it at one input. -/
def fnRelSetsWrong : ChangeSpec := { name := "fnRelSets", fn := fun _ => fun
  | [d] => { results := [.lit (.bool false)], args := [d] }
  | _ => none }
def FnRelSetsWrongFalsely : Prop := fnRelSetsRow.holds Try.pinned (OpenSpec.ofChange fnRelSetsWrong)

/-- 'laws.FnTurnRel': WHATEVER THE INPUT: true; the input reads as it did. -/
def fnTurnRelSpec : ChangeSpec := { name := "fnTurnRel", fn := fun _ => fun
  | [d] => { results := [.lit (.bool true)], args := [d] }
  | _ => none }
def fnTurnRelRow : OpenClaim := { program := "ythdgheglmkhcbaa", sum := "dbd3b0a019bc4597f6cd69927f7fb4d52fc8afe35b942213e1c03ad8f4ae23ca", func := "loop.example/productprograms/laws.FnTurnRel", spec := "fnTurnRel", inPlace := ["internal/bytealg.CountString", "internal/bytealg.IndexByteString", "internal/bytealg.IndexString"], unfollowed := true, recurses := true, named := ["internal/bytealg.MaxLen"], apart := false }
def FnTurnRelSaid : Prop := fnTurnRelRow.holds Try.pinned (OpenSpec.ofChange fnTurnRelSpec)

/-- ITS FALSE NEIGHBOUR: 'it returns false'. Refute it at one input. -/
def fnTurnRelWrong : ChangeSpec := { name := "fnTurnRel", fn := fun _ => fun
  | [d] => { results := [.lit (.bool false)], args := [d] }
  | _ => none }
def FnTurnRelWrongFalsely : Prop := fnTurnRelRow.holds Try.pinned (OpenSpec.ofChange fnTurnRelWrong)

/-- 'laws.FnCompose': WHATEVER THE INPUT: true; the input reads as it did. -/
def fnComposeSpec : ChangeSpec := { name := "fnCompose", fn := fun _ => fun
  | [d1, d2] => { results := [.lit (.bool true)], args := [d1, d2] }
  | _ => none }
def fnComposeRow : OpenClaim := { program := "ythdgheglmkhcbaa", sum := "dbd3b0a019bc4597f6cd69927f7fb4d52fc8afe35b942213e1c03ad8f4ae23ca", func := "loop.example/productprograms/laws.FnCompose", spec := "fnCompose", unfollowed := true, recurses := true, apart := false }
def FnComposeSaid : Prop := fnComposeRow.holds Try.pinned (OpenSpec.ofChange fnComposeSpec)

/-- ITS FALSE NEIGHBOUR: 'it returns false'. Refute it at one input. -/
def fnComposeWrong : ChangeSpec := { name := "fnCompose", fn := fun _ => fun
  | [d1, d2] => { results := [.lit (.bool false)], args := [d1, d2] }
  | _ => none }
def FnComposeWrongFalsely : Prop := fnComposeRow.holds Try.pinned (OpenSpec.ofChange fnComposeWrong)

/-- 'laws.FnCloseRel': WHATEVER THE INPUT: true; the input reads as it did. -/
def fnCloseRelSpec : ChangeSpec := { name := "fnCloseRel", fn := fun _ => fun
  | [d] => { results := [.lit (.bool true)], args := [d] }
  | _ => none }
def fnCloseRelRow : OpenClaim := { program := "ythdgheglmkhcbaa", sum := "dbd3b0a019bc4597f6cd69927f7fb4d52fc8afe35b942213e1c03ad8f4ae23ca", func := "loop.example/productprograms/laws.FnCloseRel", spec := "fnCloseRel", unfollowed := true, recurses := true, apart := false }
def FnCloseRelSaid : Prop := fnCloseRelRow.holds Try.pinned (OpenSpec.ofChange fnCloseRelSpec)

/-- ITS FALSE NEIGHBOUR: 'it returns false'. Refute it at one input. -/
def fnCloseRelWrong : ChangeSpec := { name := "fnCloseRel", fn := fun _ => fun
  | [d] => { results := [.lit (.bool false)], args := [d] }
  | _ => none }
def FnCloseRelWrongFalsely : Prop := fnCloseRelRow.holds Try.pinned (OpenSpec.ofChange fnCloseRelWrong)

/-- 'laws.FnEquivalence': WHATEVER THE INPUT: true; the input reads as it did. -/
def fnEquivalenceSpec : ChangeSpec := { name := "fnEquivalence", fn := fun _ => fun
  | [d] => { results := [.lit (.bool true)], args := [d] }
  | _ => none }
def fnEquivalenceRow : OpenClaim := { program := "ythdgheglmkhcbaa", sum := "dbd3b0a019bc4597f6cd69927f7fb4d52fc8afe35b942213e1c03ad8f4ae23ca", func := "loop.example/productprograms/laws.FnEquivalence", spec := "fnEquivalence", unfollowed := true, recurses := true, apart := false }
def FnEquivalenceSaid : Prop := fnEquivalenceRow.holds Try.pinned (OpenSpec.ofChange fnEquivalenceSpec)

/-- ITS FALSE NEIGHBOUR: 'it returns false'. Refute it at one input. -/
def fnEquivalenceWrong : ChangeSpec := { name := "fnEquivalence", fn := fun _ => fun
  | [d] => { results := [.lit (.bool false)], args := [d] }
  | _ => none }
def FnEquivalenceWrongFalsely : Prop := fnEquivalenceRow.holds Try.pinned (OpenSpec.ofChange fnEquivalenceWrong)

/-- 'laws.FnImages': WHATEVER THE INPUT: true; the input reads as it did. -/
def fnImagesSpec : ChangeSpec := { name := "fnImages", fn := fun _ => fun
  | [d1, d2] => { results := [.lit (.bool true)], args := [d1, d2] }
  | _ => none }
def fnImagesRow : OpenClaim := { program := "ythdgheglmkhcbaa", sum := "dbd3b0a019bc4597f6cd69927f7fb4d52fc8afe35b942213e1c03ad8f4ae23ca", func := "loop.example/productprograms/laws.FnImages", spec := "fnImages", unfollowed := true, recurses := true, apart := false }
def FnImagesSaid : Prop := fnImagesRow.holds Try.pinned (OpenSpec.ofChange fnImagesSpec)

/-- ITS FALSE NEIGHBOUR: 'it returns false'. Refute it at one input. -/
def fnImagesWrong : ChangeSpec := { name := "fnImages", fn := fun _ => fun
  | [d1, d2] => { results := [.lit (.bool false)], args := [d1, d2] }
  | _ => none }
def FnImagesWrongFalsely : Prop := fnImagesRow.holds Try.pinned (OpenSpec.ofChange fnImagesWrong)

/-- 'laws.FnExactCountRules': WHATEVER THE INPUT: true; the input reads as it did. -/
def fnExactCountRulesSpec : ChangeSpec := { name := "fnExactCountRules", fn := fun _ => fun
  | [d1, d2] => { results := [.lit (.bool true)], args := [d1, d2] }
  | _ => none }
def fnExactCountRulesRow : OpenClaim := { program := "ythdgheglmkhcbaa", sum := "dbd3b0a019bc4597f6cd69927f7fb4d52fc8afe35b942213e1c03ad8f4ae23ca", func := "loop.example/productprograms/laws.FnExactCountRules", spec := "fnExactCountRules", apart := false }
def FnExactCountRulesSaid : Prop := fnExactCountRulesRow.holds Try.pinned (OpenSpec.ofChange fnExactCountRulesSpec)

/-- ITS FALSE NEIGHBOUR: 'it returns false'. Refute it at one input. -/
def fnExactCountRulesWrong : ChangeSpec := { name := "fnExactCountRules", fn := fun _ => fun
  | [d1, d2] => { results := [.lit (.bool false)], args := [d1, d2] }
  | _ => none }
def FnExactCountRulesWrongFalsely : Prop := fnExactCountRulesRow.holds Try.pinned (OpenSpec.ofChange fnExactCountRulesWrong)

/-- 'laws.FnExactLineValid': WHATEVER THE INPUT: true; the input reads as it did. -/
def fnExactLineValidSpec : ChangeSpec := { name := "fnExactLineValid", fn := fun _ => fun
  | [d] => { results := [.lit (.bool true)], args := [d] }
  | _ => none }
def fnExactLineValidRow : OpenClaim := { program := "ythdgheglmkhcbaa", sum := "dbd3b0a019bc4597f6cd69927f7fb4d52fc8afe35b942213e1c03ad8f4ae23ca", func := "loop.example/productprograms/laws.FnExactLineValid", spec := "fnExactLineValid", recurses := true, apart := false }
def FnExactLineValidSaid : Prop := fnExactLineValidRow.holds Try.pinned (OpenSpec.ofChange fnExactLineValidSpec)

/-- ITS FALSE NEIGHBOUR: 'it returns false'. Refute it at one input. -/
def fnExactLineValidWrong : ChangeSpec := { name := "fnExactLineValid", fn := fun _ => fun
  | [d] => { results := [.lit (.bool false)], args := [d] }
  | _ => none }
def FnExactLineValidWrongFalsely : Prop := fnExactLineValidRow.holds Try.pinned (OpenSpec.ofChange fnExactLineValidWrong)

/- THE SECOND FORM. 'bulk': how many values and letters a reading holds, each counted each time it is reached (what is shared counts as often as it is met; a slice's spare places count too). A statement '..UptoSaid' is the law's where the arguments, and the package variables that the reading takes, are together of bulk at most 1048576: NARROWER than '..Said'. Prove '..Said' where nothing that the law and all that it calls make is longer than what came in: it says more and counts as full. Else prove '..UptoSaid'. A law counts once. -/
mutual
def uptoBulk {H : Type} : DataW H → Nat
  | .lit (.string bytes) => bytes.length + 1
  | .lit _ => 1
  | .nil => 1
  | .ptr d => uptoBulk d + 1
  | .slice elems spare => uptoBulkAll elems + uptoBulkAll spare + 1
  | .agg parts => uptoBulkAll parts + 1
  | .iface _ d => uptoBulk d + 1
  | .map entries => uptoBulkEntries entries + 1
  | .held _ => 1
def uptoBulkAll {H : Type} : List (DataW H) → Nat
  | [] => 0
  | d :: r => uptoBulk d + uptoBulkAll r
def uptoBulkEntries {H : Type} : List (Lit × DataW H) → Nat
  | [] => 0
  | x :: r => uptoBulkEntry x + uptoBulkEntries r
def uptoBulkEntry {H : Type} : Lit × DataW H → Nat
  | (.string bytes, d) => bytes.length + uptoBulk d + 1
  | (_, d) => uptoBulk d + 1
 end
def uptoSmall : (H : Type) → List (DataW H) → Bool := fun _ ds => decide (uptoBulkAll ds ≤ 1048576)
def OpenSpec.upto (s : _root_.Go.ChangeSpec) : _root_.Go.OpenSpec := { _root_.Go.OpenSpec.ofChange s with cond := some uptoSmall }

/-- 'laws.FnRelOf', WHERE WHAT IT READS IS OF BULK AT MOST 1048576: true; the input reads as it did. -/
def fnRelOfUptoRow : OpenClaim := { program := "ythdgheglmkhcbaa", sum := "dbd3b0a019bc4597f6cd69927f7fb4d52fc8afe35b942213e1c03ad8f4ae23ca", func := "loop.example/productprograms/laws.FnRelOf", spec := "fnRelOf", unfollowed := true, recurses := true, apart := false, narrowed := true }
def FnRelOfUptoSaid : Prop := fnRelOfUptoRow.holds Try.pinned (OpenSpec.upto fnRelOfSpec)

/-- 'laws.FnNotRel', WHERE WHAT IT READS IS OF BULK AT MOST 1048576: true; the input reads as it did. -/
def fnNotRelUptoRow : OpenClaim := { program := "ythdgheglmkhcbaa", sum := "dbd3b0a019bc4597f6cd69927f7fb4d52fc8afe35b942213e1c03ad8f4ae23ca", func := "loop.example/productprograms/laws.FnNotRel", spec := "fnNotRel", inPlace := ["internal/bytealg.CountString", "internal/bytealg.IndexByteString", "internal/bytealg.IndexString"], unfollowed := true, recurses := true, named := ["internal/bytealg.MaxLen"], apart := false, narrowed := true }
def FnNotRelUptoSaid : Prop := fnNotRelUptoRow.holds Try.pinned (OpenSpec.upto fnNotRelSpec)

/-- 'laws.FnFirstPair', WHERE WHAT IT READS IS OF BULK AT MOST 1048576: true; the input reads as it did. -/
def fnFirstPairUptoRow : OpenClaim := { program := "ythdgheglmkhcbaa", sum := "dbd3b0a019bc4597f6cd69927f7fb4d52fc8afe35b942213e1c03ad8f4ae23ca", func := "loop.example/productprograms/laws.FnFirstPair", spec := "fnFirstPair", inPlace := ["internal/bytealg.IndexByteString", "internal/bytealg.CountString", "internal/bytealg.IndexString"], unfollowed := true, recurses := true, named := ["internal/bytealg.MaxLen"], apart := false, narrowed := true }
def FnFirstPairUptoSaid : Prop := fnFirstPairUptoRow.holds Try.pinned (OpenSpec.upto fnFirstPairSpec)

/-- 'laws.FnRelWithin', WHERE WHAT IT READS IS OF BULK AT MOST 1048576: true; the input reads as it did. -/
def fnRelWithinUptoRow : OpenClaim := { program := "ythdgheglmkhcbaa", sum := "dbd3b0a019bc4597f6cd69927f7fb4d52fc8afe35b942213e1c03ad8f4ae23ca", func := "loop.example/productprograms/laws.FnRelWithin", spec := "fnRelWithin", inPlace := ["internal/bytealg.CountString", "internal/bytealg.IndexByteString", "internal/bytealg.IndexString"], unfollowed := true, recurses := true, named := ["internal/bytealg.MaxLen"], apart := false, narrowed := true }
def FnRelWithinUptoSaid : Prop := fnRelWithinUptoRow.holds Try.pinned (OpenSpec.upto fnRelWithinSpec)

/-- 'laws.FnRelSets', WHERE WHAT IT READS IS OF BULK AT MOST 1048576: true; the input reads as it did. -/
def fnRelSetsUptoRow : OpenClaim := { program := "ythdgheglmkhcbaa", sum := "dbd3b0a019bc4597f6cd69927f7fb4d52fc8afe35b942213e1c03ad8f4ae23ca", func := "loop.example/productprograms/laws.FnRelSets", spec := "fnRelSets", inPlace := ["internal/bytealg.CountString", "internal/bytealg.IndexByteString", "internal/bytealg.IndexString"], unfollowed := true, recurses := true, named := ["internal/bytealg.MaxLen"], apart := false, narrowed := true }
def FnRelSetsUptoSaid : Prop := fnRelSetsUptoRow.holds Try.pinned (OpenSpec.upto fnRelSetsSpec)

/-- 'laws.FnTurnRel', WHERE WHAT IT READS IS OF BULK AT MOST 1048576: true; the input reads as it did. -/
def fnTurnRelUptoRow : OpenClaim := { program := "ythdgheglmkhcbaa", sum := "dbd3b0a019bc4597f6cd69927f7fb4d52fc8afe35b942213e1c03ad8f4ae23ca", func := "loop.example/productprograms/laws.FnTurnRel", spec := "fnTurnRel", inPlace := ["internal/bytealg.CountString", "internal/bytealg.IndexByteString", "internal/bytealg.IndexString"], unfollowed := true, recurses := true, named := ["internal/bytealg.MaxLen"], apart := false, narrowed := true }
def FnTurnRelUptoSaid : Prop := fnTurnRelUptoRow.holds Try.pinned (OpenSpec.upto fnTurnRelSpec)

/-- 'laws.FnCompose', WHERE WHAT IT READS IS OF BULK AT MOST 1048576: true; the input reads as it did. -/
def fnComposeUptoRow : OpenClaim := { program := "ythdgheglmkhcbaa", sum := "dbd3b0a019bc4597f6cd69927f7fb4d52fc8afe35b942213e1c03ad8f4ae23ca", func := "loop.example/productprograms/laws.FnCompose", spec := "fnCompose", unfollowed := true, recurses := true, apart := false, narrowed := true }
def FnComposeUptoSaid : Prop := fnComposeUptoRow.holds Try.pinned (OpenSpec.upto fnComposeSpec)

/-- 'laws.FnCloseRel', WHERE WHAT IT READS IS OF BULK AT MOST 1048576: true; the input reads as it did. -/
def fnCloseRelUptoRow : OpenClaim := { program := "ythdgheglmkhcbaa", sum := "dbd3b0a019bc4597f6cd69927f7fb4d52fc8afe35b942213e1c03ad8f4ae23ca", func := "loop.example/productprograms/laws.FnCloseRel", spec := "fnCloseRel", unfollowed := true, recurses := true, apart := false, narrowed := true }
def FnCloseRelUptoSaid : Prop := fnCloseRelUptoRow.holds Try.pinned (OpenSpec.upto fnCloseRelSpec)

/-- 'laws.FnEquivalence', WHERE WHAT IT READS IS OF BULK AT MOST 1048576: true; the input reads as it did. -/
def fnEquivalenceUptoRow : OpenClaim := { program := "ythdgheglmkhcbaa", sum := "dbd3b0a019bc4597f6cd69927f7fb4d52fc8afe35b942213e1c03ad8f4ae23ca", func := "loop.example/productprograms/laws.FnEquivalence", spec := "fnEquivalence", unfollowed := true, recurses := true, apart := false, narrowed := true }
def FnEquivalenceUptoSaid : Prop := fnEquivalenceUptoRow.holds Try.pinned (OpenSpec.upto fnEquivalenceSpec)

/-- 'laws.FnImages', WHERE WHAT IT READS IS OF BULK AT MOST 1048576: true; the input reads as it did. -/
def fnImagesUptoRow : OpenClaim := { program := "ythdgheglmkhcbaa", sum := "dbd3b0a019bc4597f6cd69927f7fb4d52fc8afe35b942213e1c03ad8f4ae23ca", func := "loop.example/productprograms/laws.FnImages", spec := "fnImages", unfollowed := true, recurses := true, apart := false, narrowed := true }
def FnImagesUptoSaid : Prop := fnImagesUptoRow.holds Try.pinned (OpenSpec.upto fnImagesSpec)

/-- 'laws.FnExactCountRules', WHERE WHAT IT READS IS OF BULK AT MOST 1048576: true; the input reads as it did. -/
def fnExactCountRulesUptoRow : OpenClaim := { program := "ythdgheglmkhcbaa", sum := "dbd3b0a019bc4597f6cd69927f7fb4d52fc8afe35b942213e1c03ad8f4ae23ca", func := "loop.example/productprograms/laws.FnExactCountRules", spec := "fnExactCountRules", apart := false, narrowed := true }
def FnExactCountRulesUptoSaid : Prop := fnExactCountRulesUptoRow.holds Try.pinned (OpenSpec.upto fnExactCountRulesSpec)

/-- 'laws.FnExactLineValid', WHERE WHAT IT READS IS OF BULK AT MOST 1048576: true; the input reads as it did. -/
def fnExactLineValidUptoRow : OpenClaim := { program := "ythdgheglmkhcbaa", sum := "dbd3b0a019bc4597f6cd69927f7fb4d52fc8afe35b942213e1c03ad8f4ae23ca", func := "loop.example/productprograms/laws.FnExactLineValid", spec := "fnExactLineValid", recurses := true, apart := false, narrowed := true }
def FnExactLineValidUptoSaid : Prop := fnExactLineValidUptoRow.holds Try.pinned (OpenSpec.upto fnExactLineValidSpec)

end Rows
end Go.Proofs.Ythdgheglmkhcbaa
