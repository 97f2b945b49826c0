-- Written by facts.py, a program of this session: the row's own check, in parts.
import Derived.Test.YtlmoemahamneoaaRows
import Derived.WalkKit
import Derived.ProofKit
import Derived.OpenShut
import Derived.SizedLaws
namespace Go.Proofs.Ytlmoemahamneoaa.fnSchemesAgree
open Go.ChangeShapes Go.WideShapes Go.ChangeAt Go.RowKit
theorem facts1 : (Rows.fnSchemesAgreeRow.inPlace == Try.pinned.checked.prog.inPlace 7) = true := by kernel_rfl
theorem facts2 : (Rows.fnSchemesAgreeRow.unfollowed == Try.pinned.checked.prog.unfollowed 7) = true := by kernel_rfl
theorem facts3 : (Rows.fnSchemesAgreeRow.recurses == Try.pinned.checked.prog.recurses 7) = true := by kernel_rfl
theorem facts4 : (Rows.fnSchemesAgreeRow.named == Try.pinned.checked.prog.varsNamed 7) = true := by kernel_rfl
theorem facts : joinedFacts Try.pinned.checked.prog 7 Try.f7 Rows.fnSchemesAgreeSpec Rows.fnSchemesAgreeRow = true := by
  unfold joinedFacts
  rw [facts1, facts2, facts3, facts4]
  kernel_rfl
end Go.Proofs.Ytlmoemahamneoaa.fnSchemesAgree
