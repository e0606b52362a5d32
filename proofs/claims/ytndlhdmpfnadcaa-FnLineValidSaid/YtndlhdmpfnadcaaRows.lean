/-
  No cell of these rows narrows 'for every input' (looked for: loops, veiled, ifaces, maps, wideKeys, modest, calm, conditions, laid).
  DERIVED. THE GIVEN ROWS OF THIS SEAT. 3 by the template 'for every input the law returns true; each argument reads behind the call as it read before'; 0 by the template 'total and deterministic' (their statements: YtndlhdmpfnadcaaTotals.lean).
  GIVEN WITH THE SEED: the statements are not yours to turn. If you find one false, say at which input.
  Laid BY PROGRAM, IN A SANDBOX (cutbox-rows.mjs): the forced cells as the released guide's own fill.sh prints them over the translation 2b67ec3b592d6da9… (all of the seat's roots in one cut). By AI agents, Wed Nov 11 2026. No macro, syntax, notation, axiom, sorry.
-/
import Derived.Test.YtndlhdmpfnadcaaChecked
import GoSem.Claim
import GoSem.ClaimJoined
import GoSem.ClaimMapViews
import Derived.JoinedTies
import Derived.KernelRfl
namespace Go.Proofs.Ytndlhdmpfnadcaa
/- THE CELL 'sum', in the pinned program and in every row, IS THE sha256 OF THE DUMP (.gsa) THAT YtndlhdmpfnadcaaProg.lean LOADS. Nothing in Lean hashes anything: it is a label: what it is worth is what the hold of that sum in a sandbox is worth. -/
noncomputable def Try.pinned : Pinned := { name := "ytndlhdmpfnadcaa", sum := "2b67ec3b592d6da91b1570f4c4a3db0fdfafdc8b8caf0661fcbb6e7bca1ac9fa", checked := Try.checked }
namespace Rows
def none {H : Type} : Left H := { results := [], args := [] }

/-- 'laws.FnExactCountRules': WHATEVER THE INPUT: true; the input reads as it did. -/
def fnExactCountRulesSpec : ChangeSpec := { name := "fnExactCountRules", fn := fun _ => fun
  | [d1, d2] => { results := [.lit (.bool true)], args := [d1, d2] }
  | _ => none }
def fnExactCountRulesRow : OpenClaim := { program := "ytndlhdmpfnadcaa", sum := "2b67ec3b592d6da91b1570f4c4a3db0fdfafdc8b8caf0661fcbb6e7bca1ac9fa", func := "loop.example/productprograms/laws.FnExactCountRules", spec := "fnExactCountRules", apart := false }
def FnExactCountRulesSaid : Prop := fnExactCountRulesRow.holds Try.pinned (OpenSpec.ofChange fnExactCountRulesSpec)

/-- ITS FALSE NEIGHBOUR: 'it returns false'. Refute it at one input. -/
def fnExactCountRulesWrong : ChangeSpec := { name := "fnExactCountRules", fn := fun _ => fun
  | [d1, d2] => { results := [.lit (.bool false)], args := [d1, d2] }
  | _ => none }
def FnExactCountRulesWrongFalsely : Prop := fnExactCountRulesRow.holds Try.pinned (OpenSpec.ofChange fnExactCountRulesWrong)

/-- 'laws.FnCountRules': WHATEVER THE INPUT: true; the input reads as it did. -/
def fnCountRulesSpec : ChangeSpec := { name := "fnCountRules", fn := fun _ => fun
  | [d] => { results := [.lit (.bool true)], args := [d] }
  | _ => none }
def fnCountRulesRow : OpenClaim := { program := "ytndlhdmpfnadcaa", sum := "2b67ec3b592d6da91b1570f4c4a3db0fdfafdc8b8caf0661fcbb6e7bca1ac9fa", func := "loop.example/productprograms/laws.FnCountRules", spec := "fnCountRules", recurses := true, apart := false }
def FnCountRulesSaid : Prop := fnCountRulesRow.holds Try.pinned (OpenSpec.ofChange fnCountRulesSpec)

/-- ITS FALSE NEIGHBOUR: 'it returns false'. Refute it at one input. -/
def fnCountRulesWrong : ChangeSpec := { name := "fnCountRules", fn := fun _ => fun
  | [d] => { results := [.lit (.bool false)], args := [d] }
  | _ => none }
def FnCountRulesWrongFalsely : Prop := fnCountRulesRow.holds Try.pinned (OpenSpec.ofChange fnCountRulesWrong)

/-- 'laws.FnLineValid': WHATEVER THE INPUT: true; the input reads as it did. -/
def fnLineValidSpec : ChangeSpec := { name := "fnLineValid", fn := fun _ => fun
  | [d] => { results := [.lit (.bool true)], args := [d] }
  | _ => none }
def fnLineValidRow : OpenClaim := { program := "ytndlhdmpfnadcaa", sum := "2b67ec3b592d6da91b1570f4c4a3db0fdfafdc8b8caf0661fcbb6e7bca1ac9fa", func := "loop.example/productprograms/laws.FnLineValid", spec := "fnLineValid", recurses := true, apart := false }
def FnLineValidSaid : Prop := fnLineValidRow.holds Try.pinned (OpenSpec.ofChange fnLineValidSpec)

/-- ITS FALSE NEIGHBOUR: 'it returns false'. Refute it at one input. -/
def fnLineValidWrong : ChangeSpec := { name := "fnLineValid", fn := fun _ => fun
  | [d] => { results := [.lit (.bool false)], args := [d] }
  | _ => none }
def FnLineValidWrongFalsely : Prop := fnLineValidRow.holds Try.pinned (OpenSpec.ofChange fnLineValidWrong)

/- THE SECOND FORM. 'bulk': how many values and letters a reading holds, each counted each time it is reached (what is shared counts as often as it is met; a slice's spare places count too). A statement '..UptoSaid' is the law's where the arguments, and the package variables that the reading takes, are together of bulk at most 1048576: NARROWER than '..Said'. Prove '..Said' where nothing that the law and all that it calls make is longer than what came in: it says more and counts as full. Else prove '..UptoSaid'. A law counts once. -/
mutual
def uptoBulk {H : Type} : DataW H → Nat
  | .lit (.string bytes) => bytes.length + 1
  | .lit _ => 1
  | .nil => 1
  | .ptr d => uptoBulk d + 1
  | .slice elems spare => uptoBulkAll elems + uptoBulkAll spare + 1
  | .agg parts => uptoBulkAll parts + 1
  | .iface _ d => uptoBulk d + 1
  | .map entries => uptoBulkEntries entries + 1
  | .held _ => 1
def uptoBulkAll {H : Type} : List (DataW H) → Nat
  | [] => 0
  | d :: r => uptoBulk d + uptoBulkAll r
def uptoBulkEntries {H : Type} : List (Lit × DataW H) → Nat
  | [] => 0
  | x :: r => uptoBulkEntry x + uptoBulkEntries r
def uptoBulkEntry {H : Type} : Lit × DataW H → Nat
  | (.string bytes, d) => bytes.length + uptoBulk d + 1
  | (_, d) => uptoBulk d + 1
 end
def uptoSmall : (H : Type) → List (DataW H) → Bool := fun _ ds => decide (uptoBulkAll ds ≤ 1048576)
def OpenSpec.upto (s : _root_.Go.ChangeSpec) : _root_.Go.OpenSpec := { _root_.Go.OpenSpec.ofChange s with cond := some uptoSmall }

/-- 'laws.FnExactCountRules', WHERE WHAT IT READS IS OF BULK AT MOST 1048576: true; the input reads as it did. -/
def fnExactCountRulesUptoRow : OpenClaim := { program := "ytndlhdmpfnadcaa", sum := "2b67ec3b592d6da91b1570f4c4a3db0fdfafdc8b8caf0661fcbb6e7bca1ac9fa", func := "loop.example/productprograms/laws.FnExactCountRules", spec := "fnExactCountRules", apart := false, narrowed := true }
def FnExactCountRulesUptoSaid : Prop := fnExactCountRulesUptoRow.holds Try.pinned (OpenSpec.upto fnExactCountRulesSpec)

/-- 'laws.FnCountRules', WHERE WHAT IT READS IS OF BULK AT MOST 1048576: true; the input reads as it did. -/
def fnCountRulesUptoRow : OpenClaim := { program := "ytndlhdmpfnadcaa", sum := "2b67ec3b592d6da91b1570f4c4a3db0fdfafdc8b8caf0661fcbb6e7bca1ac9fa", func := "loop.example/productprograms/laws.FnCountRules", spec := "fnCountRules", recurses := true, apart := false, narrowed := true }
def FnCountRulesUptoSaid : Prop := fnCountRulesUptoRow.holds Try.pinned (OpenSpec.upto fnCountRulesSpec)

/-- 'laws.FnLineValid', WHERE WHAT IT READS IS OF BULK AT MOST 1048576: true; the input reads as it did. -/
def fnLineValidUptoRow : OpenClaim := { program := "ytndlhdmpfnadcaa", sum := "2b67ec3b592d6da91b1570f4c4a3db0fdfafdc8b8caf0661fcbb6e7bca1ac9fa", func := "loop.example/productprograms/laws.FnLineValid", spec := "fnLineValid", recurses := true, apart := false, narrowed := true }
def FnLineValidUptoSaid : Prop := fnLineValidUptoRow.holds Try.pinned (OpenSpec.upto fnLineValidSpec)

end Rows
end Go.Proofs.Ytndlhdmpfnadcaa
