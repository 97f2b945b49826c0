-- Written by facts.py, a program of this session: the row's own check, in parts.
import Derived.Test.YtlmoemahamneoaaRows
import Derived.WalkKit
import Derived.ProofKit
import Derived.OpenShut
import Derived.SizedLaws
namespace Go.Proofs.Ytlmoemahamneoaa.fnExactCodeOfPlan
open Go.ChangeShapes Go.WideShapes Go.ChangeAt Go.RowKit
theorem facts1 : (Rows.fnExactCodeOfPlanRow.inPlace == Try.pinned.checked.prog.inPlace 6) = true := by kernel_rfl
theorem facts2 : (Rows.fnExactCodeOfPlanRow.unfollowed == Try.pinned.checked.prog.unfollowed 6) = true := by kernel_rfl
theorem facts3 : (Rows.fnExactCodeOfPlanRow.recurses == Try.pinned.checked.prog.recurses 6) = true := by kernel_rfl
theorem facts4 : (Rows.fnExactCodeOfPlanRow.named == Try.pinned.checked.prog.varsNamed 6) = true := by kernel_rfl
theorem facts : joinedFacts Try.pinned.checked.prog 6 Try.f6 Rows.fnExactCodeOfPlanSpec Rows.fnExactCodeOfPlanRow = true := by
  unfold joinedFacts
  rw [facts1, facts2, facts3, facts4]
  kernel_rfl
end Go.Proofs.Ytlmoemahamneoaa.fnExactCodeOfPlan
