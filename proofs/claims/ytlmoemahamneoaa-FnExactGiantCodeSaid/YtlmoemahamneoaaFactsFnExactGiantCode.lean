-- Written by facts.py, a program of this session: the row's own check, in parts.
import Derived.Test.YtlmoemahamneoaaRows
import Derived.WalkKit
import Derived.ProofKit
import Derived.OpenShut
import Derived.SizedLaws
namespace Go.Proofs.Ytlmoemahamneoaa.fnExactGiantCode
open Go.ChangeShapes Go.WideShapes Go.ChangeAt Go.RowKit
theorem facts1 : (Rows.fnExactGiantCodeRow.inPlace == Try.pinned.checked.prog.inPlace 4) = true := by kernel_rfl
theorem facts2 : (Rows.fnExactGiantCodeRow.unfollowed == Try.pinned.checked.prog.unfollowed 4) = true := by kernel_rfl
theorem facts3 : (Rows.fnExactGiantCodeRow.recurses == Try.pinned.checked.prog.recurses 4) = true := by kernel_rfl
theorem facts4 : (Rows.fnExactGiantCodeRow.named == Try.pinned.checked.prog.varsNamed 4) = true := by kernel_rfl
theorem facts : joinedFacts Try.pinned.checked.prog 4 Try.f4 Rows.fnExactGiantCodeSpec Rows.fnExactGiantCodeRow = true := by
  unfold joinedFacts
  rw [facts1, facts2, facts3, facts4]
  kernel_rfl
end Go.Proofs.Ytlmoemahamneoaa.fnExactGiantCode
