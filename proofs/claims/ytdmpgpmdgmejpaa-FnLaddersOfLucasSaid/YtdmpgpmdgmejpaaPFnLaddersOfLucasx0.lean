-- Written by gprint.py, a program of this session, out of the translation (a changed print).
import Derived.Test.YtdmpgpmdgmejpaaProg
import Derived.Below
import Derived.Deep.Draws
import Derived.Deep.AppendLies
import Derived.Maps.AppendAt
import Derived.OwnWalk
import Derived.Laws.BytesArg
import Derived.Laws.MakeOwn
import Derived.Laws.OwnMore
import Derived.Deep.OwnRows
import Derived.Tactics
import Derived.Lib.ConvBytes
import Derived.Laws.Slices
import Derived.WalkKit
import Derived.KernelRfl
import Derived.RowKit3
import Derived.Deep.LoopGhost
import Derived.Deep.QuietTactic
import Derived.BigQuiet
import Derived.WideLaws
import Derived.Deep.DeepCutAuto
import Derived.Deep.CutBlock
import Derived.Deep.RegionHeld3
import Derived.Laws.Rows
import Derived.Lib.AppendStr
import Derived.ArgAppend
import Derived.Laws.IdiomCopy
import Derived.OrdersHeld
import Derived.Laws.BitsLemmas
import Derived.RowKit
import Derived.Test.YtdmpgpmdgmejpaaShelf
import Derived.Test.YtdmpgpmdgmejpaaWWords
import Derived.Test.YtdmpgpmdgmejpaaWLast
import Derived.Test.YtdmpgpmdgmejpaaWTab
import Derived.Test.YtdmpgpmdgmejpaaWFour
import Derived.Test.YtdmpgpmdgmejpaaWQPut
import Derived.Test.YtdmpgpmdgmejpaaWApart
import Derived.Test.YtdmpgpmdgmejpaaWArr
import Derived.Test.YtdmpgpmdgmejpaaWZeros
import Derived.Test.YtdmpgpmdgmejpaaWFoot
import Derived.Test.YtdmpgpmdgmejpaaWKept
import Derived.Test.YtdmpgpmdgmejpaaWShare
import Derived.Test.YtdmpgpmdgmejpaaWN
import Derived.Test.YtdmpgpmdgmejpaaWFootNe
import Derived.Test.YtdmpgpmdgmejpaaWAt
import Derived.Test.YtdmpgpmdgmejpaaWEqStruct
import Derived.Test.YtdmpgpmdgmejpaaWRepsOne
import Derived.Test.YtdmpgpmdgmejpaaWInv
import Derived.Test.YtdmpgpmdgmejpaaWInvWords
import Derived.Test.YtdmpgpmdgmejpaaWGuard
import Derived.Test.YtdmpgpmdgmejpaaWNEv
import Derived.Test.YtdmpgpmdgmejpaaWMore
namespace Go.Proofs.Ytdmpgpmdgmejpaa.PFnLaddersOfLucas
open Go.RowKit Go.Proofs.YtdmpgpmdgmejpaaW.PrintWords Go.Proofs.YtdmpgpmdgmejpaaW.PrintLast Go.Proofs.YtdmpgpmdgmejpaaW.PrintMore
attribute [local go_sem] max2_int min2_int max_two min_two max_three min_three max_four min_four   -- for this text's walks alone
set_option linter.unusedVariables false
set_option linter.unusedSimpArgs false



def errW : Option Int → Value
  | none => .nilIface
  | some c => .iface 0 (.int .i64 c)
theorem errW_none : errW none = .nilIface := rfl
theorem errW_some (c : Int) : errW (some c) = .iface 0 (.int .i64 c) := rfl

theorem info3 : (Try.prog.info? 3).map (fun i => (i.zero, i.size, i.bytes)) = some (some (.int .i64 0), 1, 8) := by kernel_rfl
-- the values' own types

end Go.Proofs.Ytdmpgpmdgmejpaa.PFnLaddersOfLucas
