/-
  No cell of these rows narrows 'for every input' (looked for: loops, veiled, ifaces, maps, wideKeys, modest, calm, conditions, laid).
  DERIVED. THE GIVEN ROWS OF THIS SEAT. 4 by the template 'for every input the law returns true; each argument reads behind the call as it read before'; 0 by the template 'total and deterministic' (their statements: YtoiamgeaieefmaaTotals.lean).
  GIVEN WITH THE SEED: the statements are not yours to turn. If you find one false, say at which input.
  Laid BY PROGRAM, IN A SANDBOX (cutbox-rows.mjs): the forced cells as the released guide's own fill.sh prints them over the translation b7d2016a1af7cbc9… (all of the seat's roots in one cut). By AI agents, Wed Nov 11 2026. No macro, syntax, notation, axiom, sorry.
-/
import Derived.Test.YtoiamgeaieefmaaChecked
import GoSem.Claim
import GoSem.ClaimJoined
import GoSem.ClaimMapViews
import Derived.JoinedTies
import Derived.KernelRfl
namespace Go.Proofs.Ytoiamgeaieefmaa
/- THE CELL 'sum', in the pinned program and in every row, IS THE sha256 OF THE DUMP (.gsa) THAT YtoiamgeaieefmaaProg.lean LOADS. Nothing in Lean hashes anything: it is a label: what it is worth is what the hold of that sum in a sandbox is worth. -/
noncomputable def Try.pinned : Pinned := { name := "ytoiamgeaieefmaa", sum := "b7d2016a1af7cbc951f217e7e4cbcdf7969d3584744e97cfb2849569ad99ee9d", checked := Try.checked }
namespace Rows
def none {H : Type} : Left H := { results := [], args := [] }

/-- 'laws.FnPowersTogether': WHATEVER THE INPUT: true; the input reads as it did. -/
def fnPowersTogetherSpec : ChangeSpec := { name := "fnPowersTogether", fn := fun _ => fun
  | [d1, d2] => { results := [.lit (.bool true)], args := [d1, d2] }
  | _ => none }
def fnPowersTogetherRow : OpenClaim := { program := "ytoiamgeaieefmaa", sum := "b7d2016a1af7cbc951f217e7e4cbcdf7969d3584744e97cfb2849569ad99ee9d", func := "loop.example/g01098/laws.FnPowersTogether", spec := "fnPowersTogether", unfollowed := true, recurses := true, apart := false }
def FnPowersTogetherSaid : Prop := fnPowersTogetherRow.holds Try.pinned (OpenSpec.ofChange fnPowersTogetherSpec)

/-- ITS FALSE NEIGHBOUR: 'it returns false'. Refute it at one input. -/
def fnPowersTogetherWrong : ChangeSpec := { name := "fnPowersTogether", fn := fun _ => fun
  | [d1, d2] => { results := [.lit (.bool false)], args := [d1, d2] }
  | _ => none }
def FnPowersTogetherWrongFalsely : Prop := fnPowersTogetherRow.holds Try.pinned (OpenSpec.ofChange fnPowersTogetherWrong)

/-- 'laws.FnSquaresAreShared': WHATEVER THE INPUT: true; the input reads as it did. -/
def fnSquaresAreSharedSpec : ChangeSpec := { name := "fnSquaresAreShared", fn := fun _ => fun
  | [d1, d2] => { results := [.lit (.bool true)], args := [d1, d2] }
  | _ => none }
def fnSquaresAreSharedRow : OpenClaim := { program := "ytoiamgeaieefmaa", sum := "b7d2016a1af7cbc951f217e7e4cbcdf7969d3584744e97cfb2849569ad99ee9d", func := "loop.example/g01098/laws.FnSquaresAreShared", spec := "fnSquaresAreShared", unfollowed := true, recurses := true, apart := false }
def FnSquaresAreSharedSaid : Prop := fnSquaresAreSharedRow.holds Try.pinned (OpenSpec.ofChange fnSquaresAreSharedSpec)

/-- ITS FALSE NEIGHBOUR: 'it returns false'. Refute it at one input. -/
def fnSquaresAreSharedWrong : ChangeSpec := { name := "fnSquaresAreShared", fn := fun _ => fun
  | [d1, d2] => { results := [.lit (.bool false)], args := [d1, d2] }
  | _ => none }
def FnSquaresAreSharedWrongFalsely : Prop := fnSquaresAreSharedRow.holds Try.pinned (OpenSpec.ofChange fnSquaresAreSharedWrong)

/-- 'laws.FnVectors': WHATEVER THE INPUT: true; the input reads as it did. -/
def fnVectorsSpec : ChangeSpec := { name := "fnVectors", fn := fun _ => fun
  | [d1, d2] => { results := [.lit (.bool true)], args := [d1, d2] }
  | _ => none }
def fnVectorsRow : OpenClaim := { program := "ytoiamgeaieefmaa", sum := "b7d2016a1af7cbc951f217e7e4cbcdf7969d3584744e97cfb2849569ad99ee9d", func := "loop.example/g01098/laws.FnVectors", spec := "fnVectors", unfollowed := true, recurses := true, apart := false }
def FnVectorsSaid : Prop := fnVectorsRow.holds Try.pinned (OpenSpec.ofChange fnVectorsSpec)

/-- ITS FALSE NEIGHBOUR: 'it returns false'. Refute it at one input. -/
def fnVectorsWrong : ChangeSpec := { name := "fnVectors", fn := fun _ => fun
  | [d1, d2] => { results := [.lit (.bool false)], args := [d1, d2] }
  | _ => none }
def FnVectorsWrongFalsely : Prop := fnVectorsRow.holds Try.pinned (OpenSpec.ofChange fnVectorsWrong)

/-- 'laws.FnExactLucasPlanCosts': WHATEVER THE INPUT: true; the input reads as it did. -/
def fnExactLucasPlanCostsSpec : ChangeSpec := { name := "fnExactLucasPlanCosts", fn := fun _ => fun
  | [d] => { results := [.lit (.bool true)], args := [d] }
  | _ => none }
def fnExactLucasPlanCostsRow : OpenClaim := { program := "ytoiamgeaieefmaa", sum := "b7d2016a1af7cbc951f217e7e4cbcdf7969d3584744e97cfb2849569ad99ee9d", func := "loop.example/g01098/laws.FnExactLucasPlanCosts", spec := "fnExactLucasPlanCosts", unfollowed := true, recurses := true, apart := false }
def FnExactLucasPlanCostsSaid : Prop := fnExactLucasPlanCostsRow.holds Try.pinned (OpenSpec.ofChange fnExactLucasPlanCostsSpec)

/-- ITS FALSE NEIGHBOUR: 'it returns false'. Refute it at one input. -/
def fnExactLucasPlanCostsWrong : ChangeSpec := { name := "fnExactLucasPlanCosts", fn := fun _ => fun
  | [d] => { results := [.lit (.bool false)], args := [d] }
  | _ => none }
def FnExactLucasPlanCostsWrongFalsely : Prop := fnExactLucasPlanCostsRow.holds Try.pinned (OpenSpec.ofChange fnExactLucasPlanCostsWrong)

/- THE SECOND FORM. 'bulk': how many values and letters a reading holds, each counted each time it is reached (what is shared counts as often as it is met; a slice's spare places count too). A statement '..UptoSaid' is the law's where the arguments, and the package variables that the reading takes, are together of bulk at most 1048576: NARROWER than '..Said'. Prove '..Said' where nothing that the law and all that it calls make is longer than what came in: it says more and counts as full. Else prove '..UptoSaid'. A law counts once. -/
mutual
def uptoBulk {H : Type} : DataW H → Nat
  | .lit (.string bytes) => bytes.length + 1
  | .lit _ => 1
  | .nil => 1
  | .ptr d => uptoBulk d + 1
  | .slice elems spare => uptoBulkAll elems + uptoBulkAll spare + 1
  | .agg parts => uptoBulkAll parts + 1
  | .iface _ d => uptoBulk d + 1
  | .map entries => uptoBulkEntries entries + 1
  | .held _ => 1
def uptoBulkAll {H : Type} : List (DataW H) → Nat
  | [] => 0
  | d :: r => uptoBulk d + uptoBulkAll r
def uptoBulkEntries {H : Type} : List (Lit × DataW H) → Nat
  | [] => 0
  | x :: r => uptoBulkEntry x + uptoBulkEntries r
def uptoBulkEntry {H : Type} : Lit × DataW H → Nat
  | (.string bytes, d) => bytes.length + uptoBulk d + 1
  | (_, d) => uptoBulk d + 1
 end
def uptoSmall : (H : Type) → List (DataW H) → Bool := fun _ ds => decide (uptoBulkAll ds ≤ 1048576)
def OpenSpec.upto (s : _root_.Go.ChangeSpec) : _root_.Go.OpenSpec := { _root_.Go.OpenSpec.ofChange s with cond := some uptoSmall }

/-- 'laws.FnPowersTogether', WHERE WHAT IT READS IS OF BULK AT MOST 1048576: true; the input reads as it did. -/
def fnPowersTogetherUptoRow : OpenClaim := { program := "ytoiamgeaieefmaa", sum := "b7d2016a1af7cbc951f217e7e4cbcdf7969d3584744e97cfb2849569ad99ee9d", func := "loop.example/g01098/laws.FnPowersTogether", spec := "fnPowersTogether", unfollowed := true, recurses := true, apart := false, narrowed := true }
def FnPowersTogetherUptoSaid : Prop := fnPowersTogetherUptoRow.holds Try.pinned (OpenSpec.upto fnPowersTogetherSpec)

/-- 'laws.FnSquaresAreShared', WHERE WHAT IT READS IS OF BULK AT MOST 1048576: true; the input reads as it did. -/
def fnSquaresAreSharedUptoRow : OpenClaim := { program := "ytoiamgeaieefmaa", sum := "b7d2016a1af7cbc951f217e7e4cbcdf7969d3584744e97cfb2849569ad99ee9d", func := "loop.example/g01098/laws.FnSquaresAreShared", spec := "fnSquaresAreShared", unfollowed := true, recurses := true, apart := false, narrowed := true }
def FnSquaresAreSharedUptoSaid : Prop := fnSquaresAreSharedUptoRow.holds Try.pinned (OpenSpec.upto fnSquaresAreSharedSpec)

/-- 'laws.FnVectors', WHERE WHAT IT READS IS OF BULK AT MOST 1048576: true; the input reads as it did. -/
def fnVectorsUptoRow : OpenClaim := { program := "ytoiamgeaieefmaa", sum := "b7d2016a1af7cbc951f217e7e4cbcdf7969d3584744e97cfb2849569ad99ee9d", func := "loop.example/g01098/laws.FnVectors", spec := "fnVectors", unfollowed := true, recurses := true, apart := false, narrowed := true }
def FnVectorsUptoSaid : Prop := fnVectorsUptoRow.holds Try.pinned (OpenSpec.upto fnVectorsSpec)

/-- 'laws.FnExactLucasPlanCosts', WHERE WHAT IT READS IS OF BULK AT MOST 1048576: true; the input reads as it did. -/
def fnExactLucasPlanCostsUptoRow : OpenClaim := { program := "ytoiamgeaieefmaa", sum := "b7d2016a1af7cbc951f217e7e4cbcdf7969d3584744e97cfb2849569ad99ee9d", func := "loop.example/g01098/laws.FnExactLucasPlanCosts", spec := "fnExactLucasPlanCosts", unfollowed := true, recurses := true, apart := false, narrowed := true }
def FnExactLucasPlanCostsUptoSaid : Prop := fnExactLucasPlanCostsUptoRow.holds Try.pinned (OpenSpec.upto fnExactLucasPlanCostsSpec)

end Rows
end Go.Proofs.Ytoiamgeaieefmaa
