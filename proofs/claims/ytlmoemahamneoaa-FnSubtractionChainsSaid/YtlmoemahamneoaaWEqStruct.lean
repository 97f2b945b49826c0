-- Of the print's words and parts, pruned by prune.py, a program of this session: what nothing of this claim names is left out.
import Derived.Test.YtlmoemahamneoaaWWords
import Derived.Laws.StructEq
/-! ### 53. '==' of structs as_ one Bool -/
namespace Go.Proofs.YtlmoemahamneoaaW.PrintWords
open Go.RowKit
section
variable {P : Program} {d : Nat} {xs ys : Array Value} {f : Field} {fs : List Field} {a b : Value} {r s : Bool} {w : World}
end
end Go.Proofs.YtlmoemahamneoaaW.PrintWords
