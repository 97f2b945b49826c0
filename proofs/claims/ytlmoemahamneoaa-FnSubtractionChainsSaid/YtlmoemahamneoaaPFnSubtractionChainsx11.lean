-- shortEnum: lists that are tried, for the search with subtractions (a text of our own)
import Derived.Test.YtlmoemahamneoaaPFnSubtractionChainsx5
namespace Go.Proofs.Ytlmoemahamneoaa.PFnSubtractionChains
open Go.RowKit Go.Proofs.YtlmoemahamneoaaW.PrintWords Go.Proofs.YtlmoemahamneoaaW.PrintLast Go.Proofs.YtlmoemahamneoaaW.PrintMore
set_option linter.unusedVariables false
def ssR2 (nn : List Int) (x : Int) : Bool := !(nn.contains x) && (nn.contains (x - ssLast nn) || nn.contains (ssLast nn - x))
def ssR3 (nn : List Int) (x : Int) : Bool := !(nn.contains x) && (nn.contains (x - ssLast nn) || nn.contains (ssLast nn - x) || nn.contains (x + ssLast nn))
def ssChk (nn : List Int) : Bool := nn.all fun a => !(decide (1 ≤ a - ssLast nn) && decide (a - ssLast nn ≤ 64)) || nn.contains (a - ssLast nn) || nn.contains (a - ssLast nn - ssLast nn) || nn.contains (ssLast nn - (a - ssLast nn))
/-- Of all lists that begin so, none is gone on by the third rule alone. -/
def ssEnum : Nat → List Int → Bool
  | 0, nn => ssChk nn
  | k + 1, nn => ssChk nn && (ssNexts (ssLast nn) nn).all fun x => !(decide (1 ≤ x) && decide (x ≤ 64) && !(nn.contains x)) || ssEnum k (nn ++ [x])
theorem enum_one : ∀ l, l < 6 → ssEnum l [1] = true := by decide +kernel
end Go.Proofs.Ytlmoemahamneoaa.PFnSubtractionChains
