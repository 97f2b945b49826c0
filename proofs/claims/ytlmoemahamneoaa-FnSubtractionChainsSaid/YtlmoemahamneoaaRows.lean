/-
  No cell of these rows narrows 'for every input' (looked for: loops, veiled, ifaces, maps, wideKeys, modest, calm, conditions, laid).
  DERIVED. THE GIVEN ROWS OF THIS SEAT. 11 by the template 'for every input the law returns true; each argument reads behind the call as it read before'; 0 by the template 'total and deterministic' (their statements: YtlmoemahamneoaaTotals.lean).
  GIVEN WITH THE SEED: the statements are not yours to turn. If you find one false, say at which input.
  Laid BY PROGRAM, IN A SANDBOX (cutbox-rows.mjs): the forced cells as the released guide's own fill.sh prints them over the translation 118c95e5a20ae337… (all of the seat's roots in one cut). By AI agents, Wed Nov 11 2026. No macro, syntax, notation, axiom, sorry.
-/
import Derived.Test.YtlmoemahamneoaaChecked
import GoSem.Claim
import GoSem.ClaimJoined
import GoSem.ClaimMapViews
import Derived.JoinedTies
import Derived.KernelRfl
namespace Go.Proofs.Ytlmoemahamneoaa
/- THE CELL 'sum', in the pinned program and in every row, IS THE sha256 OF THE DUMP (.gsa) THAT YtlmoemahamneoaaProg.lean LOADS. Nothing in Lean hashes anything: it is a label: what it is worth is what the hold of that sum in a sandbox is worth. -/
noncomputable def Try.pinned : Pinned := { name := "ytlmoemahamneoaa", sum := "118c95e5a20ae337eaf03fb92b2a6435cad83e7dbf8d3e51b93a04ed54b53186", checked := Try.checked }
namespace Rows
def none {H : Type} : Left H := { results := [], args := [] }

/-- 'laws.FnGiantStepsCount': WHATEVER THE INPUT: true; the input reads as it did. -/
def fnGiantStepsCountSpec : ChangeSpec := { name := "fnGiantStepsCount", fn := fun _ => fun
  | [d1, d2] => { results := [.lit (.bool true)], args := [d1, d2] }
  | _ => none }
def fnGiantStepsCountRow : OpenClaim := { program := "ytlmoemahamneoaa", sum := "118c95e5a20ae337eaf03fb92b2a6435cad83e7dbf8d3e51b93a04ed54b53186", func := "loop.example/g01098/laws.FnGiantStepsCount", spec := "fnGiantStepsCount", unfollowed := true, recurses := true, apart := false }
def FnGiantStepsCountSaid : Prop := fnGiantStepsCountRow.holds Try.pinned (OpenSpec.ofChange fnGiantStepsCountSpec)

/-- ITS FALSE NEIGHBOUR: 'it returns false'. Refute it at one input. -/
def fnGiantStepsCountWrong : ChangeSpec := { name := "fnGiantStepsCount", fn := fun _ => fun
  | [d1, d2] => { results := [.lit (.bool false)], args := [d1, d2] }
  | _ => none }
def FnGiantStepsCountWrongFalsely : Prop := fnGiantStepsCountRow.holds Try.pinned (OpenSpec.ofChange fnGiantStepsCountWrong)

/-- 'laws.FnExactGiantCode': WHATEVER THE INPUT: true; the input reads as it did. -/
def fnExactGiantCodeSpec : ChangeSpec := { name := "fnExactGiantCode", fn := fun _ => fun
  | [d1, d2] => { results := [.lit (.bool true)], args := [d1, d2] }
  | _ => none }
def fnExactGiantCodeRow : OpenClaim := { program := "ytlmoemahamneoaa", sum := "118c95e5a20ae337eaf03fb92b2a6435cad83e7dbf8d3e51b93a04ed54b53186", func := "loop.example/g01098/laws.FnExactGiantCode", spec := "fnExactGiantCode", unfollowed := true, recurses := true, apart := false }
def FnExactGiantCodeSaid : Prop := fnExactGiantCodeRow.holds Try.pinned (OpenSpec.ofChange fnExactGiantCodeSpec)

/-- ITS FALSE NEIGHBOUR: 'it returns false'. Refute it at one input. -/
def fnExactGiantCodeWrong : ChangeSpec := { name := "fnExactGiantCode", fn := fun _ => fun
  | [d1, d2] => { results := [.lit (.bool false)], args := [d1, d2] }
  | _ => none }
def FnExactGiantCodeWrongFalsely : Prop := fnExactGiantCodeRow.holds Try.pinned (OpenSpec.ofChange fnExactGiantCodeWrong)

/-- 'laws.FnExactTrimCode': WHATEVER THE INPUT: true; the input reads as it did. -/
def fnExactTrimCodeSpec : ChangeSpec := { name := "fnExactTrimCode", fn := fun _ => fun
  | [d] => { results := [.lit (.bool true)], args := [d] }
  | _ => none }
def fnExactTrimCodeRow : OpenClaim := { program := "ytlmoemahamneoaa", sum := "118c95e5a20ae337eaf03fb92b2a6435cad83e7dbf8d3e51b93a04ed54b53186", func := "loop.example/g01098/laws.FnExactTrimCode", spec := "fnExactTrimCode", unfollowed := true, recurses := true, apart := false }
def FnExactTrimCodeSaid : Prop := fnExactTrimCodeRow.holds Try.pinned (OpenSpec.ofChange fnExactTrimCodeSpec)

/-- ITS FALSE NEIGHBOUR: 'it returns false'. Refute it at one input. -/
def fnExactTrimCodeWrong : ChangeSpec := { name := "fnExactTrimCode", fn := fun _ => fun
  | [d] => { results := [.lit (.bool false)], args := [d] }
  | _ => none }
def FnExactTrimCodeWrongFalsely : Prop := fnExactTrimCodeRow.holds Try.pinned (OpenSpec.ofChange fnExactTrimCodeWrong)

/-- 'laws.FnExactCodeOfPlan': WHATEVER THE INPUT: true; the input reads as it did. -/
def fnExactCodeOfPlanSpec : ChangeSpec := { name := "fnExactCodeOfPlan", fn := fun _ => fun
  | [d] => { results := [.lit (.bool true)], args := [d] }
  | _ => none }
def fnExactCodeOfPlanRow : OpenClaim := { program := "ytlmoemahamneoaa", sum := "118c95e5a20ae337eaf03fb92b2a6435cad83e7dbf8d3e51b93a04ed54b53186", func := "loop.example/g01098/laws.FnExactCodeOfPlan", spec := "fnExactCodeOfPlan", unfollowed := true, recurses := true, apart := false }
def FnExactCodeOfPlanSaid : Prop := fnExactCodeOfPlanRow.holds Try.pinned (OpenSpec.ofChange fnExactCodeOfPlanSpec)

/-- ITS FALSE NEIGHBOUR: 'it returns false'. Refute it at one input. -/
def fnExactCodeOfPlanWrong : ChangeSpec := { name := "fnExactCodeOfPlan", fn := fun _ => fun
  | [d] => { results := [.lit (.bool false)], args := [d] }
  | _ => none }
def FnExactCodeOfPlanWrongFalsely : Prop := fnExactCodeOfPlanRow.holds Try.pinned (OpenSpec.ofChange fnExactCodeOfPlanWrong)

/-- 'laws.FnSchemesAgree': WHATEVER THE INPUT: true; the input reads as it did. -/
def fnSchemesAgreeSpec : ChangeSpec := { name := "fnSchemesAgree", fn := fun _ => fun
  | [d1, d2] => { results := [.lit (.bool true)], args := [d1, d2] }
  | _ => none }
def fnSchemesAgreeRow : OpenClaim := { program := "ytlmoemahamneoaa", sum := "118c95e5a20ae337eaf03fb92b2a6435cad83e7dbf8d3e51b93a04ed54b53186", func := "loop.example/g01098/laws.FnSchemesAgree", spec := "fnSchemesAgree", unfollowed := true, recurses := true, apart := false }
def FnSchemesAgreeSaid : Prop := fnSchemesAgreeRow.holds Try.pinned (OpenSpec.ofChange fnSchemesAgreeSpec)

/-- ITS FALSE NEIGHBOUR: 'it returns false'. Refute it at one input. -/
def fnSchemesAgreeWrong : ChangeSpec := { name := "fnSchemesAgree", fn := fun _ => fun
  | [d1, d2] => { results := [.lit (.bool false)], args := [d1, d2] }
  | _ => none }
def FnSchemesAgreeWrongFalsely : Prop := fnSchemesAgreeRow.holds Try.pinned (OpenSpec.ofChange fnSchemesAgreeWrong)

/-- 'laws.FnCodesRunAsPolynomials': WHATEVER THE INPUT: true; the input reads as it did. -/
def fnCodesRunAsPolynomialsSpec : ChangeSpec := { name := "fnCodesRunAsPolynomials", fn := fun _ => fun
  | [d1, d2] => { results := [.lit (.bool true)], args := [d1, d2] }
  | _ => none }
def fnCodesRunAsPolynomialsRow : OpenClaim := { program := "ytlmoemahamneoaa", sum := "118c95e5a20ae337eaf03fb92b2a6435cad83e7dbf8d3e51b93a04ed54b53186", func := "loop.example/g01098/laws.FnCodesRunAsPolynomials", spec := "fnCodesRunAsPolynomials", unfollowed := true, recurses := true, apart := false }
def FnCodesRunAsPolynomialsSaid : Prop := fnCodesRunAsPolynomialsRow.holds Try.pinned (OpenSpec.ofChange fnCodesRunAsPolynomialsSpec)

/-- ITS FALSE NEIGHBOUR: 'it returns false'. Refute it at one input. -/
def fnCodesRunAsPolynomialsWrong : ChangeSpec := { name := "fnCodesRunAsPolynomials", fn := fun _ => fun
  | [d1, d2] => { results := [.lit (.bool false)], args := [d1, d2] }
  | _ => none }
def FnCodesRunAsPolynomialsWrongFalsely : Prop := fnCodesRunAsPolynomialsRow.holds Try.pinned (OpenSpec.ofChange fnCodesRunAsPolynomialsWrong)

/-- 'laws.FnCodesBehindCodes': WHATEVER THE INPUT: true; the input reads as it did. -/
def fnCodesBehindCodesSpec : ChangeSpec := { name := "fnCodesBehindCodes", fn := fun _ => fun
  | [d1, d2] => { results := [.lit (.bool true)], args := [d1, d2] }
  | _ => none }
def fnCodesBehindCodesRow : OpenClaim := { program := "ytlmoemahamneoaa", sum := "118c95e5a20ae337eaf03fb92b2a6435cad83e7dbf8d3e51b93a04ed54b53186", func := "loop.example/g01098/laws.FnCodesBehindCodes", spec := "fnCodesBehindCodes", unfollowed := true, recurses := true, apart := false }
def FnCodesBehindCodesSaid : Prop := fnCodesBehindCodesRow.holds Try.pinned (OpenSpec.ofChange fnCodesBehindCodesSpec)

/-- ITS FALSE NEIGHBOUR: 'it returns false'. Refute it at one input. -/
def fnCodesBehindCodesWrong : ChangeSpec := { name := "fnCodesBehindCodes", fn := fun _ => fun
  | [d1, d2] => { results := [.lit (.bool false)], args := [d1, d2] }
  | _ => none }
def FnCodesBehindCodesWrongFalsely : Prop := fnCodesBehindCodesRow.holds Try.pinned (OpenSpec.ofChange fnCodesBehindCodesWrong)

/-- 'laws.FnPowersTogether': WHATEVER THE INPUT: true; the input reads as it did. -/
def fnPowersTogetherSpec : ChangeSpec := { name := "fnPowersTogether", fn := fun _ => fun
  | [d1, d2] => { results := [.lit (.bool true)], args := [d1, d2] }
  | _ => none }
def fnPowersTogetherRow : OpenClaim := { program := "ytlmoemahamneoaa", sum := "118c95e5a20ae337eaf03fb92b2a6435cad83e7dbf8d3e51b93a04ed54b53186", func := "loop.example/g01098/laws.FnPowersTogether", spec := "fnPowersTogether", unfollowed := true, recurses := true, apart := false }
def FnPowersTogetherSaid : Prop := fnPowersTogetherRow.holds Try.pinned (OpenSpec.ofChange fnPowersTogetherSpec)

/-- ITS FALSE NEIGHBOUR: 'it returns false'. Refute it at one input. -/
def fnPowersTogetherWrong : ChangeSpec := { name := "fnPowersTogether", fn := fun _ => fun
  | [d1, d2] => { results := [.lit (.bool false)], args := [d1, d2] }
  | _ => none }
def FnPowersTogetherWrongFalsely : Prop := fnPowersTogetherRow.holds Try.pinned (OpenSpec.ofChange fnPowersTogetherWrong)

/-- 'laws.FnSquaresAreShared': WHATEVER THE INPUT: true; the input reads as it did. -/
def fnSquaresAreSharedSpec : ChangeSpec := { name := "fnSquaresAreShared", fn := fun _ => fun
  | [d1, d2] => { results := [.lit (.bool true)], args := [d1, d2] }
  | _ => none }
def fnSquaresAreSharedRow : OpenClaim := { program := "ytlmoemahamneoaa", sum := "118c95e5a20ae337eaf03fb92b2a6435cad83e7dbf8d3e51b93a04ed54b53186", func := "loop.example/g01098/laws.FnSquaresAreShared", spec := "fnSquaresAreShared", unfollowed := true, recurses := true, apart := false }
def FnSquaresAreSharedSaid : Prop := fnSquaresAreSharedRow.holds Try.pinned (OpenSpec.ofChange fnSquaresAreSharedSpec)

/-- ITS FALSE NEIGHBOUR: 'it returns false'. Refute it at one input. -/
def fnSquaresAreSharedWrong : ChangeSpec := { name := "fnSquaresAreShared", fn := fun _ => fun
  | [d1, d2] => { results := [.lit (.bool false)], args := [d1, d2] }
  | _ => none }
def FnSquaresAreSharedWrongFalsely : Prop := fnSquaresAreSharedRow.holds Try.pinned (OpenSpec.ofChange fnSquaresAreSharedWrong)

/-- 'laws.FnVectors': WHATEVER THE INPUT: true; the input reads as it did. -/
def fnVectorsSpec : ChangeSpec := { name := "fnVectors", fn := fun _ => fun
  | [d1, d2] => { results := [.lit (.bool true)], args := [d1, d2] }
  | _ => none }
def fnVectorsRow : OpenClaim := { program := "ytlmoemahamneoaa", sum := "118c95e5a20ae337eaf03fb92b2a6435cad83e7dbf8d3e51b93a04ed54b53186", func := "loop.example/g01098/laws.FnVectors", spec := "fnVectors", unfollowed := true, recurses := true, apart := false }
def FnVectorsSaid : Prop := fnVectorsRow.holds Try.pinned (OpenSpec.ofChange fnVectorsSpec)

/-- ITS FALSE NEIGHBOUR: 'it returns false'. Refute it at one input. -/
def fnVectorsWrong : ChangeSpec := { name := "fnVectors", fn := fun _ => fun
  | [d1, d2] => { results := [.lit (.bool false)], args := [d1, d2] }
  | _ => none }
def FnVectorsWrongFalsely : Prop := fnVectorsRow.holds Try.pinned (OpenSpec.ofChange fnVectorsWrong)

/-- 'laws.FnSubtractionChains': WHATEVER THE INPUT: true; the input reads as it did. -/
def fnSubtractionChainsSpec : ChangeSpec := { name := "fnSubtractionChains", fn := fun _ => fun
  | [d1, d2] => { results := [.lit (.bool true)], args := [d1, d2] }
  | _ => none }
def fnSubtractionChainsRow : OpenClaim := { program := "ytlmoemahamneoaa", sum := "118c95e5a20ae337eaf03fb92b2a6435cad83e7dbf8d3e51b93a04ed54b53186", func := "loop.example/g01098/laws.FnSubtractionChains", spec := "fnSubtractionChains", unfollowed := true, recurses := true, apart := false }
def FnSubtractionChainsSaid : Prop := fnSubtractionChainsRow.holds Try.pinned (OpenSpec.ofChange fnSubtractionChainsSpec)

/-- ITS FALSE NEIGHBOUR: 'it returns false'. Refute it at one input. -/
def fnSubtractionChainsWrong : ChangeSpec := { name := "fnSubtractionChains", fn := fun _ => fun
  | [d1, d2] => { results := [.lit (.bool false)], args := [d1, d2] }
  | _ => none }
def FnSubtractionChainsWrongFalsely : Prop := fnSubtractionChainsRow.holds Try.pinned (OpenSpec.ofChange fnSubtractionChainsWrong)

/- THE SECOND FORM. 'bulk': how many values and letters a reading holds, each counted each time it is reached (what is shared counts as often as it is met; a slice's spare places count too). A statement '..UptoSaid' is the law's where the arguments, and the package variables that the reading takes, are together of bulk at most 1048576: NARROWER than '..Said'. Prove '..Said' where nothing that the law and all that it calls make is longer than what came in: it says more and counts as full. Else prove '..UptoSaid'. A law counts once. -/
mutual
def uptoBulk {H : Type} : DataW H → Nat
  | .lit (.string bytes) => bytes.length + 1
  | .lit _ => 1
  | .nil => 1
  | .ptr d => uptoBulk d + 1
  | .slice elems spare => uptoBulkAll elems + uptoBulkAll spare + 1
  | .agg parts => uptoBulkAll parts + 1
  | .iface _ d => uptoBulk d + 1
  | .map entries => uptoBulkEntries entries + 1
  | .held _ => 1
def uptoBulkAll {H : Type} : List (DataW H) → Nat
  | [] => 0
  | d :: r => uptoBulk d + uptoBulkAll r
def uptoBulkEntries {H : Type} : List (Lit × DataW H) → Nat
  | [] => 0
  | x :: r => uptoBulkEntry x + uptoBulkEntries r
def uptoBulkEntry {H : Type} : Lit × DataW H → Nat
  | (.string bytes, d) => bytes.length + uptoBulk d + 1
  | (_, d) => uptoBulk d + 1
 end
def uptoSmall : (H : Type) → List (DataW H) → Bool := fun _ ds => decide (uptoBulkAll ds ≤ 1048576)
def OpenSpec.upto (s : _root_.Go.ChangeSpec) : _root_.Go.OpenSpec := { _root_.Go.OpenSpec.ofChange s with cond := some uptoSmall }

/-- 'laws.FnGiantStepsCount', WHERE WHAT IT READS IS OF BULK AT MOST 1048576: true; the input reads as it did. -/
def fnGiantStepsCountUptoRow : OpenClaim := { program := "ytlmoemahamneoaa", sum := "118c95e5a20ae337eaf03fb92b2a6435cad83e7dbf8d3e51b93a04ed54b53186", func := "loop.example/g01098/laws.FnGiantStepsCount", spec := "fnGiantStepsCount", unfollowed := true, recurses := true, apart := false, narrowed := true }
def FnGiantStepsCountUptoSaid : Prop := fnGiantStepsCountUptoRow.holds Try.pinned (OpenSpec.upto fnGiantStepsCountSpec)

/-- 'laws.FnExactGiantCode', WHERE WHAT IT READS IS OF BULK AT MOST 1048576: true; the input reads as it did. -/
def fnExactGiantCodeUptoRow : OpenClaim := { program := "ytlmoemahamneoaa", sum := "118c95e5a20ae337eaf03fb92b2a6435cad83e7dbf8d3e51b93a04ed54b53186", func := "loop.example/g01098/laws.FnExactGiantCode", spec := "fnExactGiantCode", unfollowed := true, recurses := true, apart := false, narrowed := true }
def FnExactGiantCodeUptoSaid : Prop := fnExactGiantCodeUptoRow.holds Try.pinned (OpenSpec.upto fnExactGiantCodeSpec)

/-- 'laws.FnExactTrimCode', WHERE WHAT IT READS IS OF BULK AT MOST 1048576: true; the input reads as it did. -/
def fnExactTrimCodeUptoRow : OpenClaim := { program := "ytlmoemahamneoaa", sum := "118c95e5a20ae337eaf03fb92b2a6435cad83e7dbf8d3e51b93a04ed54b53186", func := "loop.example/g01098/laws.FnExactTrimCode", spec := "fnExactTrimCode", unfollowed := true, recurses := true, apart := false, narrowed := true }
def FnExactTrimCodeUptoSaid : Prop := fnExactTrimCodeUptoRow.holds Try.pinned (OpenSpec.upto fnExactTrimCodeSpec)

/-- 'laws.FnExactCodeOfPlan', WHERE WHAT IT READS IS OF BULK AT MOST 1048576: true; the input reads as it did. -/
def fnExactCodeOfPlanUptoRow : OpenClaim := { program := "ytlmoemahamneoaa", sum := "118c95e5a20ae337eaf03fb92b2a6435cad83e7dbf8d3e51b93a04ed54b53186", func := "loop.example/g01098/laws.FnExactCodeOfPlan", spec := "fnExactCodeOfPlan", unfollowed := true, recurses := true, apart := false, narrowed := true }
def FnExactCodeOfPlanUptoSaid : Prop := fnExactCodeOfPlanUptoRow.holds Try.pinned (OpenSpec.upto fnExactCodeOfPlanSpec)

/-- 'laws.FnSchemesAgree', WHERE WHAT IT READS IS OF BULK AT MOST 1048576: true; the input reads as it did. -/
def fnSchemesAgreeUptoRow : OpenClaim := { program := "ytlmoemahamneoaa", sum := "118c95e5a20ae337eaf03fb92b2a6435cad83e7dbf8d3e51b93a04ed54b53186", func := "loop.example/g01098/laws.FnSchemesAgree", spec := "fnSchemesAgree", unfollowed := true, recurses := true, apart := false, narrowed := true }
def FnSchemesAgreeUptoSaid : Prop := fnSchemesAgreeUptoRow.holds Try.pinned (OpenSpec.upto fnSchemesAgreeSpec)

/-- 'laws.FnCodesRunAsPolynomials', WHERE WHAT IT READS IS OF BULK AT MOST 1048576: true; the input reads as it did. -/
def fnCodesRunAsPolynomialsUptoRow : OpenClaim := { program := "ytlmoemahamneoaa", sum := "118c95e5a20ae337eaf03fb92b2a6435cad83e7dbf8d3e51b93a04ed54b53186", func := "loop.example/g01098/laws.FnCodesRunAsPolynomials", spec := "fnCodesRunAsPolynomials", unfollowed := true, recurses := true, apart := false, narrowed := true }
def FnCodesRunAsPolynomialsUptoSaid : Prop := fnCodesRunAsPolynomialsUptoRow.holds Try.pinned (OpenSpec.upto fnCodesRunAsPolynomialsSpec)

/-- 'laws.FnCodesBehindCodes', WHERE WHAT IT READS IS OF BULK AT MOST 1048576: true; the input reads as it did. -/
def fnCodesBehindCodesUptoRow : OpenClaim := { program := "ytlmoemahamneoaa", sum := "118c95e5a20ae337eaf03fb92b2a6435cad83e7dbf8d3e51b93a04ed54b53186", func := "loop.example/g01098/laws.FnCodesBehindCodes", spec := "fnCodesBehindCodes", unfollowed := true, recurses := true, apart := false, narrowed := true }
def FnCodesBehindCodesUptoSaid : Prop := fnCodesBehindCodesUptoRow.holds Try.pinned (OpenSpec.upto fnCodesBehindCodesSpec)

/-- 'laws.FnPowersTogether', WHERE WHAT IT READS IS OF BULK AT MOST 1048576: true; the input reads as it did. -/
def fnPowersTogetherUptoRow : OpenClaim := { program := "ytlmoemahamneoaa", sum := "118c95e5a20ae337eaf03fb92b2a6435cad83e7dbf8d3e51b93a04ed54b53186", func := "loop.example/g01098/laws.FnPowersTogether", spec := "fnPowersTogether", unfollowed := true, recurses := true, apart := false, narrowed := true }
def FnPowersTogetherUptoSaid : Prop := fnPowersTogetherUptoRow.holds Try.pinned (OpenSpec.upto fnPowersTogetherSpec)

/-- 'laws.FnSquaresAreShared', WHERE WHAT IT READS IS OF BULK AT MOST 1048576: true; the input reads as it did. -/
def fnSquaresAreSharedUptoRow : OpenClaim := { program := "ytlmoemahamneoaa", sum := "118c95e5a20ae337eaf03fb92b2a6435cad83e7dbf8d3e51b93a04ed54b53186", func := "loop.example/g01098/laws.FnSquaresAreShared", spec := "fnSquaresAreShared", unfollowed := true, recurses := true, apart := false, narrowed := true }
def FnSquaresAreSharedUptoSaid : Prop := fnSquaresAreSharedUptoRow.holds Try.pinned (OpenSpec.upto fnSquaresAreSharedSpec)

/-- 'laws.FnVectors', WHERE WHAT IT READS IS OF BULK AT MOST 1048576: true; the input reads as it did. -/
def fnVectorsUptoRow : OpenClaim := { program := "ytlmoemahamneoaa", sum := "118c95e5a20ae337eaf03fb92b2a6435cad83e7dbf8d3e51b93a04ed54b53186", func := "loop.example/g01098/laws.FnVectors", spec := "fnVectors", unfollowed := true, recurses := true, apart := false, narrowed := true }
def FnVectorsUptoSaid : Prop := fnVectorsUptoRow.holds Try.pinned (OpenSpec.upto fnVectorsSpec)

/-- 'laws.FnSubtractionChains', WHERE WHAT IT READS IS OF BULK AT MOST 1048576: true; the input reads as it did. -/
def fnSubtractionChainsUptoRow : OpenClaim := { program := "ytlmoemahamneoaa", sum := "118c95e5a20ae337eaf03fb92b2a6435cad83e7dbf8d3e51b93a04ed54b53186", func := "loop.example/g01098/laws.FnSubtractionChains", spec := "fnSubtractionChains", unfollowed := true, recurses := true, apart := false, narrowed := true }
def FnSubtractionChainsUptoSaid : Prop := fnSubtractionChainsUptoRow.holds Try.pinned (OpenSpec.upto fnSubtractionChainsSpec)

end Rows
end Go.Proofs.Ytlmoemahamneoaa
