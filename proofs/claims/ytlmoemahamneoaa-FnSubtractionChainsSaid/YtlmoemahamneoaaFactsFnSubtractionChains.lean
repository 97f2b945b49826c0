-- Written by facts.py, a program of this session: the row's own check, in parts.
import Derived.Test.YtlmoemahamneoaaRows
import Derived.WalkKit
import Derived.ProofKit
import Derived.OpenShut
import Derived.SizedLaws
namespace Go.Proofs.Ytlmoemahamneoaa.fnSubtractionChains
open Go.ChangeShapes Go.WideShapes Go.ChangeAt Go.RowKit
theorem facts1 : (Rows.fnSubtractionChainsRow.inPlace == Try.pinned.checked.prog.inPlace 13) = true := by kernel_rfl
theorem facts2 : (Rows.fnSubtractionChainsRow.unfollowed == Try.pinned.checked.prog.unfollowed 13) = true := by kernel_rfl
theorem facts3 : (Rows.fnSubtractionChainsRow.recurses == Try.pinned.checked.prog.recurses 13) = true := by kernel_rfl
theorem facts4 : (Rows.fnSubtractionChainsRow.named == Try.pinned.checked.prog.varsNamed 13) = true := by kernel_rfl
theorem facts : joinedFacts Try.pinned.checked.prog 13 Try.f13 Rows.fnSubtractionChainsSpec Rows.fnSubtractionChainsRow = true := by
  unfold joinedFacts
  rw [facts1, facts2, facts3, facts4]
  kernel_rfl
end Go.Proofs.Ytlmoemahamneoaa.fnSubtractionChains
