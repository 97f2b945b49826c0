-- Of the print's words and parts, pruned by prune.py, a program of this session: what nothing of this claim names is left out.
import Derived.Test.YtlmoemahamneoaaProg
import Derived.Below
import Derived.Deep.Draws
import Derived.Deep.AppendLies
import Derived.Maps.AppendAt
import Derived.OwnWalk
import Derived.Laws.BytesArg
import Derived.Laws.MakeOwn
import Derived.Laws.OwnMore
import Derived.Deep.OwnRows
import Derived.Tactics
import Derived.Lib.ConvBytes
import Derived.Laws.Slices
import Derived.WalkKit
import Derived.KernelRfl
import Derived.RowKit3
import Derived.Deep.LoopGhost
import Derived.Deep.QuietTactic
import Derived.BigQuiet
import Derived.WideLaws
import Derived.Deep.DeepCutAuto
import Derived.Deep.CutBlock
import Derived.Deep.RegionHeld3
import Derived.Laws.Rows
import Derived.Lib.AppendStr
import Derived.ArgAppend
import Derived.Laws.IdiomCopy
import Derived.OrdersHeld
import Derived.Laws.BitsLemmas
import Derived.RowKit
import Derived.Test.YtlmoemahamneoaaHand
import Derived.Test.YtlmoemahamneoaaBackG
import Derived.Test.YtlmoemahamneoaaInc
import Derived.Lib.Hide
import Derived.ArgAppend
import Derived.Lib.SliceRun
import Derived.Carry
import Derived.Test.YtlmoemahamneoaaWWords
import Derived.Test.YtlmoemahamneoaaWLast
import Derived.Test.YtlmoemahamneoaaWTab
import Derived.Test.YtlmoemahamneoaaWFour
import Derived.Test.YtlmoemahamneoaaWQPut
import Derived.Test.YtlmoemahamneoaaWApart
import Derived.Test.YtlmoemahamneoaaWArr
import Derived.Test.YtlmoemahamneoaaWZeros
import Derived.Test.YtlmoemahamneoaaWFoot
import Derived.Test.YtlmoemahamneoaaWKept
import Derived.Test.YtlmoemahamneoaaWShare
import Derived.Test.YtlmoemahamneoaaWN
import Derived.Test.YtlmoemahamneoaaWFootNe
import Derived.Test.YtlmoemahamneoaaWAt
import Derived.Test.YtlmoemahamneoaaWEqStruct
import Derived.Test.YtlmoemahamneoaaWRepsOne
import Derived.Test.YtlmoemahamneoaaWInv
import Derived.Test.YtlmoemahamneoaaWInvWords
import Derived.Test.YtlmoemahamneoaaWGuard
import Derived.Test.YtlmoemahamneoaaWNEv
import Derived.Test.YtlmoemahamneoaaWMore
namespace Go.Proofs.Ytlmoemahamneoaa.PFnSubtractionChains
open Go.RowKit Go.Proofs.YtlmoemahamneoaaW.PrintWords Go.Proofs.YtlmoemahamneoaaW.PrintLast Go.Proofs.YtlmoemahamneoaaW.PrintMore
attribute [local go_sem] max2_int min2_int max_two min_two max_three min_three max_four min_four   -- for this text's walks alone
set_option linter.unusedVariables false
set_option linter.unusedSimpArgs false



def errW : Option Int → Value
  | none => .nilIface
  | some c => .iface 0 (.int .i64 c)
theorem errW_none : errW none = .nilIface := rfl
theorem errW_some (c : Int) : errW (some c) = .iface 0 (.int .i64 c) := rfl

theorem info3 : (Try.prog.info? 3).map (fun i => (i.zero, i.size, i.bytes)) = some (some (.int .i64 0), 1, 8) := by kernel_rfl
-- the values' own types
end Go.Proofs.Ytlmoemahamneoaa.PFnSubtractionChains
