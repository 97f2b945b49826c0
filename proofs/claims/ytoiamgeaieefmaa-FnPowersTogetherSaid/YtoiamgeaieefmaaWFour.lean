-- Of the print's words and parts, pruned by prune.py, a program of this session: what nothing of this claim names is left out.
import Derived.Test.YtoiamgeaieefmaaWTab
/-! ### 56. Four, five, six operations that may come up next, in any order -/
namespace Go.Proofs.YtoiamgeaieefmaaW.PrintLast
section
variable {P : Program} {ops : Array Oper} {Q : Exit → Act → World → Prop} {md : Region.Mode} {S : World → Prop} {ds : List Nat} {T : Bool × List (List Nat × List Nat)}
end
end Go.Proofs.YtoiamgeaieefmaaW.PrintLast
