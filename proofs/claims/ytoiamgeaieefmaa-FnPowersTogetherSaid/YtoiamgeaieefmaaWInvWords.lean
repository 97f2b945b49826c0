-- Of the print's words and parts, pruned by prune.py, a program of this session: what nothing of this claim names is left out.
import Derived.Test.YtoiamgeaieefmaaWInv
import Derived.Test.YtoiamgeaieefmaaWFootNe
namespace Go.Proofs.YtoiamgeaieefmaaW.PrintWords
open Go.RowKit
end Go.Proofs.YtoiamgeaieefmaaW.PrintWords
namespace Go.Proofs.YtoiamgeaieefmaaW.PrintLast
section
variable {ops : Array Oper} {a : Act} {o og : Oper} {g : Nat} {t : Tmp} {u : Bool}
end
end Go.Proofs.YtoiamgeaieefmaaW.PrintLast
