/- The program's FirstPlan returns what the reference's FirstPlan returns; there are no arguments and no conditions. -/
import Derived.Test.YtdmpgpmdgmejpaaPFnExactFirstPlanx1
import Derived.Test.YtdmpgpmdgmejpaaPFnExactFirstPlanx2
import Derived.Test.YtdmpgpmdgmejpaaPFnExactFirstPlanx3
set_option linter.unusedVariables false
set_option linter.unusedSimpArgs false
namespace Go.Proofs.Ytdmpgpmdgmejpaa.PureFnExactFirstPlanL
open Go.RowKit Go.Proofs.Ytdmpgpmdgmejpaa.PFnExactFirstPlan Go.Proofs.YtdmpgpmdgmejpaaW.PrintWords Go.Proofs.YtdmpgpmdgmejpaaW.PrintLast Go.Proofs.YtdmpgpmdgmejpaaW.PrintMore
theorem up {α : Type} {g : Nat → Option α} {r : α} (h : Ev (fun k => g (k + 1)) r) : Ev g r := by
  obtain ⟨K, h⟩ := h
  refine ⟨K + 1, fun k hk => ?_⟩
  obtain ⟨m, rfl⟩ : ∃ m, k = m + 1 := ⟨k - 1, by omega⟩
  exact h m (by omega)
theorem wid {x : Int} (h0 : -9223372036854775808 ≤ x) (h1 : x ≤ 9223372036854775807) : wrap64 x = x := by unfold wrap64; omega
theorem ite_yes {α : Type} {c : Prop} [Decidable c] {a b : α} (h : c) : (if c then a else b) = a := if_pos h
theorem ite_no {α : Type} {c : Prop} [Decidable c] {a b : α} (h : ¬ c) : (if c then a else b) = b := if_neg h
theorem evsome {α β : Type} {x : Option α} {a : α} {f : Nat → α → Option β} {r : β} (hx : x = some a) (h : Ev (fun k => f k a) r) : Ev (fun k => x.bind (f k)) r := by subst hx; exact h
theorem main : laws_FnExactFirstPlan.Pure := by
  have w1 : wrap64 1 = 1 := wid (by decide) (by decide)
  have w2 : wrap64 2 = 2 := wid (by decide) (by decide)
  refine ⟨4, ?_⟩
  simp [laws_FnExactFirstPlan.f, spec_FirstPlan.f, impl_FirstPlan.f, laws_eqPlan.f, laws_eqStepS.f, laws_eqStepS.l0, laws_eqIntS.f, laws_eqIntS.l0, laws_markPlan.f, laws_markStepS.f, laws_markStepS.l0, laws_markIntS.f, laws_markIntS.l0, laws_heldPlan.f, laws_heldStepS.f, laws_heldStepS.l0, laws_heldIntS.f, laws_heldIntS.l0, rd, w1, w2]
end Go.Proofs.Ytdmpgpmdgmejpaa.PureFnExactFirstPlanL
namespace Go.Proofs.Ytdmpgpmdgmejpaa.Pure
open Go.Proofs.Ytdmpgpmdgmejpaa.PFnExactFirstPlan
theorem FnExactFirstPlan : laws_FnExactFirstPlan.Pure := PureFnExactFirstPlanL.main
end Go.Proofs.Ytdmpgpmdgmejpaa.Pure
