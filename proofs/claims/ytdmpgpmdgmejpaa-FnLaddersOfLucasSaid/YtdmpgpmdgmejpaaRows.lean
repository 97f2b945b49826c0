/-
  No cell of these rows narrows 'for every input' (looked for: loops, veiled, ifaces, maps, wideKeys, modest, calm, conditions, laid).
  DERIVED. THE GIVEN ROWS OF THIS SEAT. 12 by the template 'for every input the law returns true; each argument reads behind the call as it read before'; 0 by the template 'total and deterministic' (their statements: YtdmpgpmdgmejpaaTotals.lean).
  GIVEN WITH THE SEED: the statements are not yours to turn. If you find one false, say at which input.
  Laid BY PROGRAM, IN A SANDBOX (cutbox-rows.mjs): the forced cells as the released guide's own fill.sh prints them over the translation 7e884ade515455fd… (all of the seat's roots in one cut). By AI agents, Wed Nov 11 2026. No macro, syntax, notation, axiom, sorry.
-/
import Derived.Test.YtdmpgpmdgmejpaaChecked
import GoSem.Claim
import GoSem.ClaimJoined
import GoSem.ClaimMapViews
import Derived.JoinedTies
import Derived.KernelRfl
namespace Go.Proofs.Ytdmpgpmdgmejpaa
/- THE CELL 'sum', in the pinned program and in every row, IS THE sha256 OF THE DUMP (.gsa) THAT YtdmpgpmdgmejpaaProg.lean LOADS. Nothing in Lean hashes anything: it is a label: what it is worth is what the hold of that sum in a sandbox is worth. -/
noncomputable def Try.pinned : Pinned := { name := "ytdmpgpmdgmejpaa", sum := "7e884ade515455fd3e549440006c436c47efc7ae15724036e67adfceb59c178c", checked := Try.checked }
namespace Rows
def none {H : Type} : Left H := { results := [], args := [] }

/-- 'laws.FnExactLucasByRule': WHATEVER THE INPUT: true; the input reads as it did. -/
def fnExactLucasByRuleSpec : ChangeSpec := { name := "fnExactLucasByRule", fn := fun _ => fun
  | [d1, d2, d3] => { results := [.lit (.bool true)], args := [d1, d2, d3] }
  | _ => none }
def fnExactLucasByRuleRow : OpenClaim := { program := "ytdmpgpmdgmejpaa", sum := "7e884ade515455fd3e549440006c436c47efc7ae15724036e67adfceb59c178c", func := "loop.example/g01098/laws.FnExactLucasByRule", spec := "fnExactLucasByRule", apart := false }
def FnExactLucasByRuleSaid : Prop := fnExactLucasByRuleRow.holds Try.pinned (OpenSpec.ofChange fnExactLucasByRuleSpec)

/-- ITS FALSE NEIGHBOUR: 'it returns false'. Refute it at one input. -/
def fnExactLucasByRuleWrong : ChangeSpec := { name := "fnExactLucasByRule", fn := fun _ => fun
  | [d1, d2, d3] => { results := [.lit (.bool false)], args := [d1, d2, d3] }
  | _ => none }
def FnExactLucasByRuleWrongFalsely : Prop := fnExactLucasByRuleRow.holds Try.pinned (OpenSpec.ofChange fnExactLucasByRuleWrong)

/-- 'laws.FnExactFibonacciPair': WHATEVER THE INPUT: true; the input reads as it did. -/
def fnExactFibonacciPairSpec : ChangeSpec := { name := "fnExactFibonacciPair", fn := fun _ => fun
  | [d1, d2] => { results := [.lit (.bool true)], args := [d1, d2] }
  | _ => none }
def fnExactFibonacciPairRow : OpenClaim := { program := "ytdmpgpmdgmejpaa", sum := "7e884ade515455fd3e549440006c436c47efc7ae15724036e67adfceb59c178c", func := "loop.example/g01098/laws.FnExactFibonacciPair", spec := "fnExactFibonacciPair", apart := false }
def FnExactFibonacciPairSaid : Prop := fnExactFibonacciPairRow.holds Try.pinned (OpenSpec.ofChange fnExactFibonacciPairSpec)

/-- ITS FALSE NEIGHBOUR: 'it returns false'. Refute it at one input. -/
def fnExactFibonacciPairWrong : ChangeSpec := { name := "fnExactFibonacciPair", fn := fun _ => fun
  | [d1, d2] => { results := [.lit (.bool false)], args := [d1, d2] }
  | _ => none }
def FnExactFibonacciPairWrongFalsely : Prop := fnExactFibonacciPairRow.holds Try.pinned (OpenSpec.ofChange fnExactFibonacciPairWrong)

/-- 'laws.FnExactLucasByLadder': WHATEVER THE INPUT: true; the input reads as it did. -/
def fnExactLucasByLadderSpec : ChangeSpec := { name := "fnExactLucasByLadder", fn := fun _ => fun
  | [d1, d2, d3] => { results := [.lit (.bool true)], args := [d1, d2, d3] }
  | _ => none }
def fnExactLucasByLadderRow : OpenClaim := { program := "ytdmpgpmdgmejpaa", sum := "7e884ade515455fd3e549440006c436c47efc7ae15724036e67adfceb59c178c", func := "loop.example/g01098/laws.FnExactLucasByLadder", spec := "fnExactLucasByLadder", apart := false }
def FnExactLucasByLadderSaid : Prop := fnExactLucasByLadderRow.holds Try.pinned (OpenSpec.ofChange fnExactLucasByLadderSpec)

/-- ITS FALSE NEIGHBOUR: 'it returns false'. Refute it at one input. -/
def fnExactLucasByLadderWrong : ChangeSpec := { name := "fnExactLucasByLadder", fn := fun _ => fun
  | [d1, d2, d3] => { results := [.lit (.bool false)], args := [d1, d2, d3] }
  | _ => none }
def FnExactLucasByLadderWrongFalsely : Prop := fnExactLucasByLadderRow.holds Try.pinned (OpenSpec.ofChange fnExactLucasByLadderWrong)

/-- 'laws.FnExactLadderOf': WHATEVER THE INPUT: true; the input reads as it did. -/
def fnExactLadderOfSpec : ChangeSpec := { name := "fnExactLadderOf", fn := fun _ => fun
  | [d] => { results := [.lit (.bool true)], args := [d] }
  | _ => none }
def fnExactLadderOfRow : OpenClaim := { program := "ytdmpgpmdgmejpaa", sum := "7e884ade515455fd3e549440006c436c47efc7ae15724036e67adfceb59c178c", func := "loop.example/g01098/laws.FnExactLadderOf", spec := "fnExactLadderOf", apart := false }
def FnExactLadderOfSaid : Prop := fnExactLadderOfRow.holds Try.pinned (OpenSpec.ofChange fnExactLadderOfSpec)

/-- ITS FALSE NEIGHBOUR: 'it returns false'. Refute it at one input. -/
def fnExactLadderOfWrong : ChangeSpec := { name := "fnExactLadderOf", fn := fun _ => fun
  | [d] => { results := [.lit (.bool false)], args := [d] }
  | _ => none }
def FnExactLadderOfWrongFalsely : Prop := fnExactLadderOfRow.holds Try.pinned (OpenSpec.ofChange fnExactLadderOfWrong)

/-- 'laws.FnExactFirstPlan': WHATEVER THE INPUT: true; the input reads as it did. -/
def fnExactFirstPlanSpec : ChangeSpec := { name := "fnExactFirstPlan", fn := fun _ => fun
  | [] => { results := [.lit (.bool true)], args := [] }
  | _ => none }
def fnExactFirstPlanRow : OpenClaim := { program := "ytdmpgpmdgmejpaa", sum := "7e884ade515455fd3e549440006c436c47efc7ae15724036e67adfceb59c178c", func := "loop.example/g01098/laws.FnExactFirstPlan", spec := "fnExactFirstPlan", apart := false }
def FnExactFirstPlanSaid : Prop := fnExactFirstPlanRow.holds Try.pinned (OpenSpec.ofChange fnExactFirstPlanSpec)

/-- ITS FALSE NEIGHBOUR: 'it returns false'. Refute it at one input. -/
def fnExactFirstPlanWrong : ChangeSpec := { name := "fnExactFirstPlan", fn := fun _ => fun
  | [] => { results := [.lit (.bool false)], args := [] }
  | _ => none }
def FnExactFirstPlanWrongFalsely : Prop := fnExactFirstPlanRow.holds Try.pinned (OpenSpec.ofChange fnExactFirstPlanWrong)

/-- 'laws.FnFibonacciAndLucas': WHATEVER THE INPUT: true; the input reads as it did. -/
def fnFibonacciAndLucasSpec : ChangeSpec := { name := "fnFibonacciAndLucas", fn := fun _ => fun
  | [d1, d2] => { results := [.lit (.bool true)], args := [d1, d2] }
  | _ => none }
def fnFibonacciAndLucasRow : OpenClaim := { program := "ytdmpgpmdgmejpaa", sum := "7e884ade515455fd3e549440006c436c47efc7ae15724036e67adfceb59c178c", func := "loop.example/g01098/laws.FnFibonacciAndLucas", spec := "fnFibonacciAndLucas", apart := false }
def FnFibonacciAndLucasSaid : Prop := fnFibonacciAndLucasRow.holds Try.pinned (OpenSpec.ofChange fnFibonacciAndLucasSpec)

/-- ITS FALSE NEIGHBOUR: 'it returns false'. Refute it at one input. -/
def fnFibonacciAndLucasWrong : ChangeSpec := { name := "fnFibonacciAndLucas", fn := fun _ => fun
  | [d1, d2] => { results := [.lit (.bool false)], args := [d1, d2] }
  | _ => none }
def FnFibonacciAndLucasWrongFalsely : Prop := fnFibonacciAndLucasRow.holds Try.pinned (OpenSpec.ofChange fnFibonacciAndLucasWrong)

/-- 'laws.FnExactIsLucasChain': WHATEVER THE INPUT: true; the input reads as it did. -/
def fnExactIsLucasChainSpec : ChangeSpec := { name := "fnExactIsLucasChain", fn := fun _ => fun
  | [d] => { results := [.lit (.bool true)], args := [d] }
  | _ => none }
def fnExactIsLucasChainRow : OpenClaim := { program := "ytdmpgpmdgmejpaa", sum := "7e884ade515455fd3e549440006c436c47efc7ae15724036e67adfceb59c178c", func := "loop.example/g01098/laws.FnExactIsLucasChain", spec := "fnExactIsLucasChain", unfollowed := true, recurses := true, apart := false }
def FnExactIsLucasChainSaid : Prop := fnExactIsLucasChainRow.holds Try.pinned (OpenSpec.ofChange fnExactIsLucasChainSpec)

/-- ITS FALSE NEIGHBOUR: 'it returns false'. Refute it at one input. -/
def fnExactIsLucasChainWrong : ChangeSpec := { name := "fnExactIsLucasChain", fn := fun _ => fun
  | [d] => { results := [.lit (.bool false)], args := [d] }
  | _ => none }
def FnExactIsLucasChainWrongFalsely : Prop := fnExactIsLucasChainRow.holds Try.pinned (OpenSpec.ofChange fnExactIsLucasChainWrong)

/-- 'laws.FnLaddersOfLucas': WHATEVER THE INPUT: true; the input reads as it did. -/
def fnLaddersOfLucasSpec : ChangeSpec := { name := "fnLaddersOfLucas", fn := fun _ => fun
  | [d1, d2] => { results := [.lit (.bool true)], args := [d1, d2] }
  | _ => none }
def fnLaddersOfLucasRow : OpenClaim := { program := "ytdmpgpmdgmejpaa", sum := "7e884ade515455fd3e549440006c436c47efc7ae15724036e67adfceb59c178c", func := "loop.example/g01098/laws.FnLaddersOfLucas", spec := "fnLaddersOfLucas", apart := false }
def FnLaddersOfLucasSaid : Prop := fnLaddersOfLucasRow.holds Try.pinned (OpenSpec.ofChange fnLaddersOfLucasSpec)

/-- ITS FALSE NEIGHBOUR: 'it returns false'. Refute it at one input. -/
def fnLaddersOfLucasWrong : ChangeSpec := { name := "fnLaddersOfLucas", fn := fun _ => fun
  | [d1, d2] => { results := [.lit (.bool false)], args := [d1, d2] }
  | _ => none }
def FnLaddersOfLucasWrongFalsely : Prop := fnLaddersOfLucasRow.holds Try.pinned (OpenSpec.ofChange fnLaddersOfLucasWrong)

/-- 'laws.FnExactRunLucas': WHATEVER THE INPUT: true; the input reads as it did. -/
def fnExactRunLucasSpec : ChangeSpec := { name := "fnExactRunLucas", fn := fun _ => fun
  | [d1, d2, d3] => { results := [.lit (.bool true)], args := [d1, d2, d3] }
  | _ => none }
def fnExactRunLucasRow : OpenClaim := { program := "ytdmpgpmdgmejpaa", sum := "7e884ade515455fd3e549440006c436c47efc7ae15724036e67adfceb59c178c", func := "loop.example/g01098/laws.FnExactRunLucas", spec := "fnExactRunLucas", unfollowed := true, recurses := true, apart := false }
def FnExactRunLucasSaid : Prop := fnExactRunLucasRow.holds Try.pinned (OpenSpec.ofChange fnExactRunLucasSpec)

/-- ITS FALSE NEIGHBOUR: 'it returns false'. Refute it at one input. -/
def fnExactRunLucasWrong : ChangeSpec := { name := "fnExactRunLucas", fn := fun _ => fun
  | [d1, d2, d3] => { results := [.lit (.bool false)], args := [d1, d2, d3] }
  | _ => none }
def FnExactRunLucasWrongFalsely : Prop := fnExactRunLucasRow.holds Try.pinned (OpenSpec.ofChange fnExactRunLucasWrong)

/-- 'laws.FnExactLucasSteps': WHATEVER THE INPUT: true; the input reads as it did. -/
def fnExactLucasStepsSpec : ChangeSpec := { name := "fnExactLucasSteps", fn := fun _ => fun
  | [d] => { results := [.lit (.bool true)], args := [d] }
  | _ => none }
def fnExactLucasStepsRow : OpenClaim := { program := "ytdmpgpmdgmejpaa", sum := "7e884ade515455fd3e549440006c436c47efc7ae15724036e67adfceb59c178c", func := "loop.example/g01098/laws.FnExactLucasSteps", spec := "fnExactLucasSteps", unfollowed := true, recurses := true, apart := false }
def FnExactLucasStepsSaid : Prop := fnExactLucasStepsRow.holds Try.pinned (OpenSpec.ofChange fnExactLucasStepsSpec)

/-- ITS FALSE NEIGHBOUR: 'it returns false'. Refute it at one input. -/
def fnExactLucasStepsWrong : ChangeSpec := { name := "fnExactLucasSteps", fn := fun _ => fun
  | [d] => { results := [.lit (.bool false)], args := [d] }
  | _ => none }
def FnExactLucasStepsWrongFalsely : Prop := fnExactLucasStepsRow.holds Try.pinned (OpenSpec.ofChange fnExactLucasStepsWrong)

/-- 'laws.FnExactLadderChain': WHATEVER THE INPUT: true; the input reads as it did. -/
def fnExactLadderChainSpec : ChangeSpec := { name := "fnExactLadderChain", fn := fun _ => fun
  | [d] => { results := [.lit (.bool true)], args := [d] }
  | _ => none }
def fnExactLadderChainRow : OpenClaim := { program := "ytdmpgpmdgmejpaa", sum := "7e884ade515455fd3e549440006c436c47efc7ae15724036e67adfceb59c178c", func := "loop.example/g01098/laws.FnExactLadderChain", spec := "fnExactLadderChain", recurses := true, apart := false }
def FnExactLadderChainSaid : Prop := fnExactLadderChainRow.holds Try.pinned (OpenSpec.ofChange fnExactLadderChainSpec)

/-- ITS FALSE NEIGHBOUR: 'it returns false'. Refute it at one input. -/
def fnExactLadderChainWrong : ChangeSpec := { name := "fnExactLadderChain", fn := fun _ => fun
  | [d] => { results := [.lit (.bool false)], args := [d] }
  | _ => none }
def FnExactLadderChainWrongFalsely : Prop := fnExactLadderChainRow.holds Try.pinned (OpenSpec.ofChange fnExactLadderChainWrong)

/-- 'laws.FnExactLucasPlanCosts': WHATEVER THE INPUT: true; the input reads as it did. -/
def fnExactLucasPlanCostsSpec : ChangeSpec := { name := "fnExactLucasPlanCosts", fn := fun _ => fun
  | [d] => { results := [.lit (.bool true)], args := [d] }
  | _ => none }
def fnExactLucasPlanCostsRow : OpenClaim := { program := "ytdmpgpmdgmejpaa", sum := "7e884ade515455fd3e549440006c436c47efc7ae15724036e67adfceb59c178c", func := "loop.example/g01098/laws.FnExactLucasPlanCosts", spec := "fnExactLucasPlanCosts", unfollowed := true, recurses := true, apart := false }
def FnExactLucasPlanCostsSaid : Prop := fnExactLucasPlanCostsRow.holds Try.pinned (OpenSpec.ofChange fnExactLucasPlanCostsSpec)

/-- ITS FALSE NEIGHBOUR: 'it returns false'. Refute it at one input. -/
def fnExactLucasPlanCostsWrong : ChangeSpec := { name := "fnExactLucasPlanCosts", fn := fun _ => fun
  | [d] => { results := [.lit (.bool false)], args := [d] }
  | _ => none }
def FnExactLucasPlanCostsWrongFalsely : Prop := fnExactLucasPlanCostsRow.holds Try.pinned (OpenSpec.ofChange fnExactLucasPlanCostsWrong)

/- THE SECOND FORM. 'bulk': how many values and letters a reading holds, each counted each time it is reached (what is shared counts as often as it is met; a slice's spare places count too). A statement '..UptoSaid' is the law's where the arguments, and the package variables that the reading takes, are together of bulk at most 1048576: NARROWER than '..Said'. Prove '..Said' where nothing that the law and all that it calls make is longer than what came in: it says more and counts as full. Else prove '..UptoSaid'. A law counts once. -/
mutual
def uptoBulk {H : Type} : DataW H → Nat
  | .lit (.string bytes) => bytes.length + 1
  | .lit _ => 1
  | .nil => 1
  | .ptr d => uptoBulk d + 1
  | .slice elems spare => uptoBulkAll elems + uptoBulkAll spare + 1
  | .agg parts => uptoBulkAll parts + 1
  | .iface _ d => uptoBulk d + 1
  | .map entries => uptoBulkEntries entries + 1
  | .held _ => 1
def uptoBulkAll {H : Type} : List (DataW H) → Nat
  | [] => 0
  | d :: r => uptoBulk d + uptoBulkAll r
def uptoBulkEntries {H : Type} : List (Lit × DataW H) → Nat
  | [] => 0
  | x :: r => uptoBulkEntry x + uptoBulkEntries r
def uptoBulkEntry {H : Type} : Lit × DataW H → Nat
  | (.string bytes, d) => bytes.length + uptoBulk d + 1
  | (_, d) => uptoBulk d + 1
 end
def uptoSmall : (H : Type) → List (DataW H) → Bool := fun _ ds => decide (uptoBulkAll ds ≤ 1048576)
def OpenSpec.upto (s : _root_.Go.ChangeSpec) : _root_.Go.OpenSpec := { _root_.Go.OpenSpec.ofChange s with cond := some uptoSmall }

/-- 'laws.FnExactLucasByRule', WHERE WHAT IT READS IS OF BULK AT MOST 1048576: true; the input reads as it did. -/
def fnExactLucasByRuleUptoRow : OpenClaim := { program := "ytdmpgpmdgmejpaa", sum := "7e884ade515455fd3e549440006c436c47efc7ae15724036e67adfceb59c178c", func := "loop.example/g01098/laws.FnExactLucasByRule", spec := "fnExactLucasByRule", apart := false, narrowed := true }
def FnExactLucasByRuleUptoSaid : Prop := fnExactLucasByRuleUptoRow.holds Try.pinned (OpenSpec.upto fnExactLucasByRuleSpec)

/-- 'laws.FnExactFibonacciPair', WHERE WHAT IT READS IS OF BULK AT MOST 1048576: true; the input reads as it did. -/
def fnExactFibonacciPairUptoRow : OpenClaim := { program := "ytdmpgpmdgmejpaa", sum := "7e884ade515455fd3e549440006c436c47efc7ae15724036e67adfceb59c178c", func := "loop.example/g01098/laws.FnExactFibonacciPair", spec := "fnExactFibonacciPair", apart := false, narrowed := true }
def FnExactFibonacciPairUptoSaid : Prop := fnExactFibonacciPairUptoRow.holds Try.pinned (OpenSpec.upto fnExactFibonacciPairSpec)

/-- 'laws.FnExactLucasByLadder', WHERE WHAT IT READS IS OF BULK AT MOST 1048576: true; the input reads as it did. -/
def fnExactLucasByLadderUptoRow : OpenClaim := { program := "ytdmpgpmdgmejpaa", sum := "7e884ade515455fd3e549440006c436c47efc7ae15724036e67adfceb59c178c", func := "loop.example/g01098/laws.FnExactLucasByLadder", spec := "fnExactLucasByLadder", apart := false, narrowed := true }
def FnExactLucasByLadderUptoSaid : Prop := fnExactLucasByLadderUptoRow.holds Try.pinned (OpenSpec.upto fnExactLucasByLadderSpec)

/-- 'laws.FnExactLadderOf', WHERE WHAT IT READS IS OF BULK AT MOST 1048576: true; the input reads as it did. -/
def fnExactLadderOfUptoRow : OpenClaim := { program := "ytdmpgpmdgmejpaa", sum := "7e884ade515455fd3e549440006c436c47efc7ae15724036e67adfceb59c178c", func := "loop.example/g01098/laws.FnExactLadderOf", spec := "fnExactLadderOf", apart := false, narrowed := true }
def FnExactLadderOfUptoSaid : Prop := fnExactLadderOfUptoRow.holds Try.pinned (OpenSpec.upto fnExactLadderOfSpec)

/-- 'laws.FnExactFirstPlan', WHERE WHAT IT READS IS OF BULK AT MOST 1048576: true; the input reads as it did. -/
def fnExactFirstPlanUptoRow : OpenClaim := { program := "ytdmpgpmdgmejpaa", sum := "7e884ade515455fd3e549440006c436c47efc7ae15724036e67adfceb59c178c", func := "loop.example/g01098/laws.FnExactFirstPlan", spec := "fnExactFirstPlan", apart := false, narrowed := true }
def FnExactFirstPlanUptoSaid : Prop := fnExactFirstPlanUptoRow.holds Try.pinned (OpenSpec.upto fnExactFirstPlanSpec)

/-- 'laws.FnFibonacciAndLucas', WHERE WHAT IT READS IS OF BULK AT MOST 1048576: true; the input reads as it did. -/
def fnFibonacciAndLucasUptoRow : OpenClaim := { program := "ytdmpgpmdgmejpaa", sum := "7e884ade515455fd3e549440006c436c47efc7ae15724036e67adfceb59c178c", func := "loop.example/g01098/laws.FnFibonacciAndLucas", spec := "fnFibonacciAndLucas", apart := false, narrowed := true }
def FnFibonacciAndLucasUptoSaid : Prop := fnFibonacciAndLucasUptoRow.holds Try.pinned (OpenSpec.upto fnFibonacciAndLucasSpec)

/-- 'laws.FnExactIsLucasChain', WHERE WHAT IT READS IS OF BULK AT MOST 1048576: true; the input reads as it did. -/
def fnExactIsLucasChainUptoRow : OpenClaim := { program := "ytdmpgpmdgmejpaa", sum := "7e884ade515455fd3e549440006c436c47efc7ae15724036e67adfceb59c178c", func := "loop.example/g01098/laws.FnExactIsLucasChain", spec := "fnExactIsLucasChain", unfollowed := true, recurses := true, apart := false, narrowed := true }
def FnExactIsLucasChainUptoSaid : Prop := fnExactIsLucasChainUptoRow.holds Try.pinned (OpenSpec.upto fnExactIsLucasChainSpec)

/-- 'laws.FnLaddersOfLucas', WHERE WHAT IT READS IS OF BULK AT MOST 1048576: true; the input reads as it did. -/
def fnLaddersOfLucasUptoRow : OpenClaim := { program := "ytdmpgpmdgmejpaa", sum := "7e884ade515455fd3e549440006c436c47efc7ae15724036e67adfceb59c178c", func := "loop.example/g01098/laws.FnLaddersOfLucas", spec := "fnLaddersOfLucas", apart := false, narrowed := true }
def FnLaddersOfLucasUptoSaid : Prop := fnLaddersOfLucasUptoRow.holds Try.pinned (OpenSpec.upto fnLaddersOfLucasSpec)

/-- 'laws.FnExactRunLucas', WHERE WHAT IT READS IS OF BULK AT MOST 1048576: true; the input reads as it did. -/
def fnExactRunLucasUptoRow : OpenClaim := { program := "ytdmpgpmdgmejpaa", sum := "7e884ade515455fd3e549440006c436c47efc7ae15724036e67adfceb59c178c", func := "loop.example/g01098/laws.FnExactRunLucas", spec := "fnExactRunLucas", unfollowed := true, recurses := true, apart := false, narrowed := true }
def FnExactRunLucasUptoSaid : Prop := fnExactRunLucasUptoRow.holds Try.pinned (OpenSpec.upto fnExactRunLucasSpec)

/-- 'laws.FnExactLucasSteps', WHERE WHAT IT READS IS OF BULK AT MOST 1048576: true; the input reads as it did. -/
def fnExactLucasStepsUptoRow : OpenClaim := { program := "ytdmpgpmdgmejpaa", sum := "7e884ade515455fd3e549440006c436c47efc7ae15724036e67adfceb59c178c", func := "loop.example/g01098/laws.FnExactLucasSteps", spec := "fnExactLucasSteps", unfollowed := true, recurses := true, apart := false, narrowed := true }
def FnExactLucasStepsUptoSaid : Prop := fnExactLucasStepsUptoRow.holds Try.pinned (OpenSpec.upto fnExactLucasStepsSpec)

/-- 'laws.FnExactLadderChain', WHERE WHAT IT READS IS OF BULK AT MOST 1048576: true; the input reads as it did. -/
def fnExactLadderChainUptoRow : OpenClaim := { program := "ytdmpgpmdgmejpaa", sum := "7e884ade515455fd3e549440006c436c47efc7ae15724036e67adfceb59c178c", func := "loop.example/g01098/laws.FnExactLadderChain", spec := "fnExactLadderChain", recurses := true, apart := false, narrowed := true }
def FnExactLadderChainUptoSaid : Prop := fnExactLadderChainUptoRow.holds Try.pinned (OpenSpec.upto fnExactLadderChainSpec)

/-- 'laws.FnExactLucasPlanCosts', WHERE WHAT IT READS IS OF BULK AT MOST 1048576: true; the input reads as it did. -/
def fnExactLucasPlanCostsUptoRow : OpenClaim := { program := "ytdmpgpmdgmejpaa", sum := "7e884ade515455fd3e549440006c436c47efc7ae15724036e67adfceb59c178c", func := "loop.example/g01098/laws.FnExactLucasPlanCosts", spec := "fnExactLucasPlanCosts", unfollowed := true, recurses := true, apart := false, narrowed := true }
def FnExactLucasPlanCostsUptoSaid : Prop := fnExactLucasPlanCostsUptoRow.holds Try.pinned (OpenSpec.upto fnExactLucasPlanCostsSpec)

end Rows
end Go.Proofs.Ytdmpgpmdgmejpaa
