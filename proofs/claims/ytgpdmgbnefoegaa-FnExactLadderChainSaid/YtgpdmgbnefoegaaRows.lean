/-
  No cell of these rows narrows 'for every input' (looked for: loops, veiled, ifaces, maps, wideKeys, modest, calm, conditions, laid).
  DERIVED. THE GIVEN ROWS OF THIS SEAT. 4 by the template 'for every input the law returns true; each argument reads behind the call as it read before'; 0 by the template 'total and deterministic' (their statements: YtgpdmgbnefoegaaTotals.lean).
  GIVEN WITH THE SEED: the statements are not yours to turn. If you find one false, say at which input.
  Laid BY PROGRAM, IN A SANDBOX (cutbox-rows.mjs): the forced cells as the released guide's own fill.sh prints them over the translation a8f96a35e669407f… (all of the seat's roots in one cut). By AI agents, Wed Nov 11 2026. No macro, syntax, notation, axiom, sorry.
-/
import Derived.Test.YtgpdmgbnefoegaaChecked
import GoSem.Claim
import GoSem.ClaimJoined
import GoSem.ClaimMapViews
import Derived.JoinedTies
import Derived.KernelRfl
namespace Go.Proofs.Ytgpdmgbnefoegaa
/- THE CELL 'sum', in the pinned program and in every row, IS THE sha256 OF THE DUMP (.gsa) THAT YtgpdmgbnefoegaaProg.lean LOADS. Nothing in Lean hashes anything: it is a label: what it is worth is what the hold of that sum in a sandbox is worth. -/
noncomputable def Try.pinned : Pinned := { name := "ytgpdmgbnefoegaa", sum := "a8f96a35e669407f7c3d58a16ffb8f45b1236be08ea5140b3a08f6700438659a", checked := Try.checked }
namespace Rows
def none {H : Type} : Left H := { results := [], args := [] }

/-- 'laws.FnExactIsLucasChain': WHATEVER THE INPUT: true; the input reads as it did. -/
def fnExactIsLucasChainSpec : ChangeSpec := { name := "fnExactIsLucasChain", fn := fun _ => fun
  | [d] => { results := [.lit (.bool true)], args := [d] }
  | _ => none }
def fnExactIsLucasChainRow : OpenClaim := { program := "ytgpdmgbnefoegaa", sum := "a8f96a35e669407f7c3d58a16ffb8f45b1236be08ea5140b3a08f6700438659a", func := "loop.example/g01098/laws.FnExactIsLucasChain", spec := "fnExactIsLucasChain", unfollowed := true, recurses := true, apart := false }
def FnExactIsLucasChainSaid : Prop := fnExactIsLucasChainRow.holds Try.pinned (OpenSpec.ofChange fnExactIsLucasChainSpec)

/-- ITS FALSE NEIGHBOUR: 'it returns false'. Refute it at one input. -/
def fnExactIsLucasChainWrong : ChangeSpec := { name := "fnExactIsLucasChain", fn := fun _ => fun
  | [d] => { results := [.lit (.bool false)], args := [d] }
  | _ => none }
def FnExactIsLucasChainWrongFalsely : Prop := fnExactIsLucasChainRow.holds Try.pinned (OpenSpec.ofChange fnExactIsLucasChainWrong)

/-- 'laws.FnExactRunLucas': WHATEVER THE INPUT: true; the input reads as it did. -/
def fnExactRunLucasSpec : ChangeSpec := { name := "fnExactRunLucas", fn := fun _ => fun
  | [d1, d2, d3] => { results := [.lit (.bool true)], args := [d1, d2, d3] }
  | _ => none }
def fnExactRunLucasRow : OpenClaim := { program := "ytgpdmgbnefoegaa", sum := "a8f96a35e669407f7c3d58a16ffb8f45b1236be08ea5140b3a08f6700438659a", func := "loop.example/g01098/laws.FnExactRunLucas", spec := "fnExactRunLucas", unfollowed := true, recurses := true, apart := false }
def FnExactRunLucasSaid : Prop := fnExactRunLucasRow.holds Try.pinned (OpenSpec.ofChange fnExactRunLucasSpec)

/-- ITS FALSE NEIGHBOUR: 'it returns false'. Refute it at one input. -/
def fnExactRunLucasWrong : ChangeSpec := { name := "fnExactRunLucas", fn := fun _ => fun
  | [d1, d2, d3] => { results := [.lit (.bool false)], args := [d1, d2, d3] }
  | _ => none }
def FnExactRunLucasWrongFalsely : Prop := fnExactRunLucasRow.holds Try.pinned (OpenSpec.ofChange fnExactRunLucasWrong)

/-- 'laws.FnExactLucasSteps': WHATEVER THE INPUT: true; the input reads as it did. -/
def fnExactLucasStepsSpec : ChangeSpec := { name := "fnExactLucasSteps", fn := fun _ => fun
  | [d] => { results := [.lit (.bool true)], args := [d] }
  | _ => none }
def fnExactLucasStepsRow : OpenClaim := { program := "ytgpdmgbnefoegaa", sum := "a8f96a35e669407f7c3d58a16ffb8f45b1236be08ea5140b3a08f6700438659a", func := "loop.example/g01098/laws.FnExactLucasSteps", spec := "fnExactLucasSteps", unfollowed := true, recurses := true, apart := false }
def FnExactLucasStepsSaid : Prop := fnExactLucasStepsRow.holds Try.pinned (OpenSpec.ofChange fnExactLucasStepsSpec)

/-- ITS FALSE NEIGHBOUR: 'it returns false'. Refute it at one input. -/
def fnExactLucasStepsWrong : ChangeSpec := { name := "fnExactLucasSteps", fn := fun _ => fun
  | [d] => { results := [.lit (.bool false)], args := [d] }
  | _ => none }
def FnExactLucasStepsWrongFalsely : Prop := fnExactLucasStepsRow.holds Try.pinned (OpenSpec.ofChange fnExactLucasStepsWrong)

/-- 'laws.FnExactLadderChain': WHATEVER THE INPUT: true; the input reads as it did. -/
def fnExactLadderChainSpec : ChangeSpec := { name := "fnExactLadderChain", fn := fun _ => fun
  | [d] => { results := [.lit (.bool true)], args := [d] }
  | _ => none }
def fnExactLadderChainRow : OpenClaim := { program := "ytgpdmgbnefoegaa", sum := "a8f96a35e669407f7c3d58a16ffb8f45b1236be08ea5140b3a08f6700438659a", func := "loop.example/g01098/laws.FnExactLadderChain", spec := "fnExactLadderChain", recurses := true, apart := false }
def FnExactLadderChainSaid : Prop := fnExactLadderChainRow.holds Try.pinned (OpenSpec.ofChange fnExactLadderChainSpec)

/-- ITS FALSE NEIGHBOUR: 'it returns false'. Refute it at one input. -/
def fnExactLadderChainWrong : ChangeSpec := { name := "fnExactLadderChain", fn := fun _ => fun
  | [d] => { results := [.lit (.bool false)], args := [d] }
  | _ => none }
def FnExactLadderChainWrongFalsely : Prop := fnExactLadderChainRow.holds Try.pinned (OpenSpec.ofChange fnExactLadderChainWrong)

/- THE SECOND FORM. 'bulk': how many values and letters a reading holds, each counted each time it is reached (what is shared counts as often as it is met; a slice's spare places count too). A statement '..UptoSaid' is the law's where the arguments, and the package variables that the reading takes, are together of bulk at most 1048576: NARROWER than '..Said'. Prove '..Said' where nothing that the law and all that it calls make is longer than what came in: it says more and counts as full. Else prove '..UptoSaid'. A law counts once. -/
mutual
def uptoBulk {H : Type} : DataW H → Nat
  | .lit (.string bytes) => bytes.length + 1
  | .lit _ => 1
  | .nil => 1
  | .ptr d => uptoBulk d + 1
  | .slice elems spare => uptoBulkAll elems + uptoBulkAll spare + 1
  | .agg parts => uptoBulkAll parts + 1
  | .iface _ d => uptoBulk d + 1
  | .map entries => uptoBulkEntries entries + 1
  | .held _ => 1
def uptoBulkAll {H : Type} : List (DataW H) → Nat
  | [] => 0
  | d :: r => uptoBulk d + uptoBulkAll r
def uptoBulkEntries {H : Type} : List (Lit × DataW H) → Nat
  | [] => 0
  | x :: r => uptoBulkEntry x + uptoBulkEntries r
def uptoBulkEntry {H : Type} : Lit × DataW H → Nat
  | (.string bytes, d) => bytes.length + uptoBulk d + 1
  | (_, d) => uptoBulk d + 1
 end
def uptoSmall : (H : Type) → List (DataW H) → Bool := fun _ ds => decide (uptoBulkAll ds ≤ 1048576)
def OpenSpec.upto (s : _root_.Go.ChangeSpec) : _root_.Go.OpenSpec := { _root_.Go.OpenSpec.ofChange s with cond := some uptoSmall }

/-- 'laws.FnExactIsLucasChain', WHERE WHAT IT READS IS OF BULK AT MOST 1048576: true; the input reads as it did. -/
def fnExactIsLucasChainUptoRow : OpenClaim := { program := "ytgpdmgbnefoegaa", sum := "a8f96a35e669407f7c3d58a16ffb8f45b1236be08ea5140b3a08f6700438659a", func := "loop.example/g01098/laws.FnExactIsLucasChain", spec := "fnExactIsLucasChain", unfollowed := true, recurses := true, apart := false, narrowed := true }
def FnExactIsLucasChainUptoSaid : Prop := fnExactIsLucasChainUptoRow.holds Try.pinned (OpenSpec.upto fnExactIsLucasChainSpec)

/-- 'laws.FnExactRunLucas', WHERE WHAT IT READS IS OF BULK AT MOST 1048576: true; the input reads as it did. -/
def fnExactRunLucasUptoRow : OpenClaim := { program := "ytgpdmgbnefoegaa", sum := "a8f96a35e669407f7c3d58a16ffb8f45b1236be08ea5140b3a08f6700438659a", func := "loop.example/g01098/laws.FnExactRunLucas", spec := "fnExactRunLucas", unfollowed := true, recurses := true, apart := false, narrowed := true }
def FnExactRunLucasUptoSaid : Prop := fnExactRunLucasUptoRow.holds Try.pinned (OpenSpec.upto fnExactRunLucasSpec)

/-- 'laws.FnExactLucasSteps', WHERE WHAT IT READS IS OF BULK AT MOST 1048576: true; the input reads as it did. -/
def fnExactLucasStepsUptoRow : OpenClaim := { program := "ytgpdmgbnefoegaa", sum := "a8f96a35e669407f7c3d58a16ffb8f45b1236be08ea5140b3a08f6700438659a", func := "loop.example/g01098/laws.FnExactLucasSteps", spec := "fnExactLucasSteps", unfollowed := true, recurses := true, apart := false, narrowed := true }
def FnExactLucasStepsUptoSaid : Prop := fnExactLucasStepsUptoRow.holds Try.pinned (OpenSpec.upto fnExactLucasStepsSpec)

/-- 'laws.FnExactLadderChain', WHERE WHAT IT READS IS OF BULK AT MOST 1048576: true; the input reads as it did. -/
def fnExactLadderChainUptoRow : OpenClaim := { program := "ytgpdmgbnefoegaa", sum := "a8f96a35e669407f7c3d58a16ffb8f45b1236be08ea5140b3a08f6700438659a", func := "loop.example/g01098/laws.FnExactLadderChain", spec := "fnExactLadderChain", recurses := true, apart := false, narrowed := true }
def FnExactLadderChainUptoSaid : Prop := fnExactLadderChainUptoRow.holds Try.pinned (OpenSpec.upto fnExactLadderChainSpec)

end Rows
end Go.Proofs.Ytgpdmgbnefoegaa
