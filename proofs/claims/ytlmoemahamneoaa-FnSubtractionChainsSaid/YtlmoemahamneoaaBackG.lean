/- The same, where what comes is known to be of a kind (a type of its own, dec: its pair). -/
import Derived.Test.YtlmoemahamneoaaBack
namespace Go.Proofs.YtlmoemahamneoaaBack
open Go.RowKit Go.Shelf Go.Proofs.YtlmoemahamneoaaW.PrintWords
attribute [local go_sem] Oper.semAt_some
end Go.Proofs.YtlmoemahamneoaaBack
