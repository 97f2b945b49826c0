-- Of the print's words and parts, pruned by prune.py, a program of this session: what nothing of this claim names is left out.
import Derived.Test.YtlmoemahamneoaaWInv
import Derived.Test.YtlmoemahamneoaaWFootNe
namespace Go.Proofs.YtlmoemahamneoaaW.PrintWords
open Go.RowKit
end Go.Proofs.YtlmoemahamneoaaW.PrintWords
namespace Go.Proofs.YtlmoemahamneoaaW.PrintLast
section
variable {ops : Array Oper} {a : Act} {o og : Oper} {g : Nat} {t : Tmp} {u : Bool}
end
end Go.Proofs.YtlmoemahamneoaaW.PrintLast
