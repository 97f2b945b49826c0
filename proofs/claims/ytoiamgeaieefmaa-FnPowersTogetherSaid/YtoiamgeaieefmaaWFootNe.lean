-- Of the print's words and parts, pruned by prune.py, a program of this session: what nothing of this claim names is left out.
import Derived.Test.YtoiamgeaieefmaaWN
/-! ### 52. A row that stays read whatever happens to a block (a set of blocks) doesn't lie there -/
namespace Go.Proofs.YtoiamgeaieefmaaW.PrintWords
open Go.RowKit
namespace Kd
section
variable {α : Type} {d : Kd α} {W : World} {g n : Nat} {S ok : Nat → Prop} {A : Option Addr} {ad : Addr} {xs : List α}
end
end Kd
end Go.Proofs.YtoiamgeaieefmaaW.PrintWords
