-- Written by gprint.py, a program of this session, out of the translation (a changed print).
import Derived.Test.YtlmoemahamneoaaRows
import Derived.Test.YtlmoemahamneoaaFactsFnExactCodeOfPlan
import Derived.Test.YtlmoemahamneoaaPFnExactCodeOfPlanx14
import Derived.Test.YtlmoemahamneoaaPureFnExactCodeOfPlan
import Derived.Test.YtlmoemahamneoaaOpen
import Derived.WalkKit
import Derived.ProofKit
import Derived.OpenShut
import Derived.ShutString
import Derived.ChangeOld
import Derived.Below
import Derived.SizedLaws
import Derived.Test.YtlmoemahamneoaaWSized
namespace Go.Proofs.Ytlmoemahamneoaa.fnExactCodeOfPlan
open Go.ChangeShapes Go.WideShapes Go.ChangeAt Go.RowKit
open Go.ChangeMaps (open_string shut_string)
set_option linter.unusedVariables false
theorem own : ownKnob Try.prog.godebug = none := by kernel_rfl
theorem laidOut : laidOutB Try.prog = true := by kernel_rfl
def IsRow (k : IntKind) (w : World) (a : Option Addr) (len cap : Nat) (zs : List Int) : Prop :=
  (a = none ∧ len = 0 ∧ cap = 0 ∧ zs = []) ∨
  ∃ x, a = some x ∧ len ≤ cap ∧ cap ≤ maxLen ∧ zs.length = cap ∧ (∀ i, i < zs.length → w.cell? (x.add i) = some (.int k (zs.getD i 0))) ∧ ∀ n ∈ zs, (Lit.int k n).wf = true
theorem opensS170 : Open.Opens Try.prog 170 PFnExactCodeOfPlan.k170 (fun x => (Lit.int .i64 x.f0).wf = true ∧ (Lit.int .i64 x.f1).wf = true) := fun H enc w base spare held fuel cs x h hz => by
  have hl := Open.struct_len Try.underlying170 h (s := 2) (by kernel_rfl)
  obtain ⟨c0, c1, rfl⟩ : ∃ c0 c1, cs = [c0, c1] := by
    match cs, hl with | [c0, c1], _ => exact ⟨_, _, rfl⟩
  obtain ⟨y0, k0, g0⟩ := Open.opens_field Try.underlying170 h hz 0 rfl rfl rfl (s := 1) (by kernel_rfl) (Open.opens_int Try.underlying3)
  obtain ⟨y1, k1, g1⟩ := Open.opens_field Try.underlying170 h hz 1 rfl rfl rfl (s := 1) (by kernel_rfl) (Open.opens_int Try.underlying3)
  exact ⟨⟨y0, y1⟩, ⟨[c0], [c1], rfl, k0, k1⟩, g0, g1⟩
set_option maxRecDepth 100000 in
theorem lifted (os : Os) (started : os.Started) (H : Type) (enc : TypeId × Value → H) :
    ReturnsInHanded {} Try.checked os 6 .any (Rows.fnExactCodeOfPlanSpec.pre6 enc Try.prog Try.f6 Rows.fnExactCodeOfPlanRow.domain false) (Rows.fnExactCodeOfPlanSpec.post enc Try.prog Try.f6 false true false false) := by
  refine returnsInHanded_of_change_sized (C := Try.checked) own started (by kernel_rfl) Try.func6
    (ChangeSpec.witness6 (enc := enc) (C := Try.checked) false ⟨#[], #[.agg #[(.int .i64 0), (.slice none 0 0), (.slice none 0 0)]], []⟩ 8 (by kernel_rfl) (by kernel_rfl) (by kernel_rfl) (by kernel_rfl)) ?_
  intro W base args ds gs before hval0 hW hcnd hsz0 _
  have hsz : (DataW.weightsEach Try.prog (Try.f6.params.toList ++ Rows.fnExactCodeOfPlanSpec.plain.varTypes Try.prog) (ds ++ gs)).all (· ≤ reachBytes) = true := hsz0
  have hval : ∀ (j : Nat) t v, Try.f6.params[j]? = some t → args[j]? = some v → Value.okWide Try.prog W .any base t v := hval0
  have hW' := hW
  obtain ⟨p, q, hA0, hV, rfl, hfz, hnd⟩ := hW
  have hA : DataW.TrodAll enc Try.prog W 0 (fun _ => true) true Try.f6.params.toList args.toList ds p := hA0
  rw [Try.params6] at hA hval hsz
  obtain ⟨v0, vs0, d0, ds0, p0, q0, hargs, rfl, rfl, h0, r0⟩ := trodAll_cons hA
  obtain ⟨rfl, rfl, rfl⟩ := trodAll_nil r0
  obtain rfl : args = #[v0] := by cases args; simp_all
  obtain ⟨rfl, rfl⟩ := trodVars_none hV
  have k0 := h0
  have lt0 : ∀ x ∈ p0, x.block < W.heap.size := by obtain ⟨m, hm⟩ := k0; exact DataW.trod_lt m _ _ _ hm
  obtain ⟨cs0, rfl, hs0⟩ := okWide_struct Try.underlying54 (hval 0 54 v0 rfl rfl)
  obtain ⟨fuel0, hf0⟩ := h0
  have hz0 := Open.sized_of hsz (j := 0) (t := 54) rfl rfl
  have hl0 : cs0.toList.length = 3 := Open.struct_len Try.underlying54 hf0 (by kernel_rfl)
  simp only [Value.cells] at hf0
  obtain ⟨e0_0, e0_1, e0_2, hcs0⟩ : ∃ e0_0 e0_1 e0_2, cs0.toList = [e0_0, e0_1, e0_2] := by
    revert hl0; generalize cs0.toList = cz; intro hl; match cz, hl with | [x0, x1, x2], _ => exact ⟨_, _, _, rfl⟩
  obtain rfl : cs0 = #[e0_0, e0_1, e0_2] := by cases cs0; simp_all
  clear hcs0 hl0
  obtain ⟨a0_0, hq0_0, w0_0⟩ := Open.opens_field Try.underlying54 hf0 hz0 0 rfl rfl rfl (s := 1) (by kernel_rfl) (Open.opens_int Try.underlying3)
  obtain rfl : e0_0 = _ := (List.cons.inj (show [e0_0] = [_] from hq0_0)).1
  obtain ⟨l0_1, ⟨A0_1, c0_1, hq0_1, hc0_1, hr0_1⟩, m0_1, y0_1, w0_1⟩ := Open.opens_field Try.underlying54 hf0 hz0 1 rfl rfl rfl (s := 1) (by kernel_rfl) (Open.opens_slice (d := PFnExactCodeOfPlan.k170) PFnExactCodeOfPlan.z170 Try.underlying52 (by kernel_rfl) (B := 16) (by kernel_rfl) opensS170)
  obtain rfl : e0_1 = _ := (List.cons.inj (show [e0_1] = [_] from hq0_1)).1
  obtain ⟨l0_2, ⟨A0_2, c0_2, hq0_2, hc0_2, hr0_2⟩, m0_2, y0_2, w0_2⟩ := Open.opens_field Try.underlying54 hf0 hz0 2 rfl rfl rfl (s := 1) (by kernel_rfl) (Open.opens_slice (d := (Go.Proofs.YtlmoemahamneoaaW.PrintWords.Kd.int .i64)) (0 : Int) Try.underlying29 (by kernel_rfl) (B := 8) (by kernel_rfl) (Open.opens_int Try.underlying3))
  obtain rfl : e0_2 = _ := (List.cons.inj (show [e0_2] = [_] from hq0_2)).1
  clear hA0 hval0 hsz0 hsz
  refine (PFnExactCodeOfPlan.laws_FnExactCodeOfPlan.walk Pure.FnExactCodeOfPlan a0_0 _ _ l0_1 _ _ l0_2 W w0_0 hr0_1 hc0_1 m0_1 y0_1 w0_1 hr0_2 hc0_2 m0_2 y0_2 w0_2).mono fun e W' ⟨he, bel⟩ => ?_
  subst he
  exact ⟨_, rfl, _, _, _, [], _, [], hW', trodAll_mk1 (shut_bool Try.underlying4 _), (trodAll_cons_mk (Below.trod laidOut (by kernel_rfl) (of_decide_eq_true (by kernel_rfl)) k0 bel lt0) trodAll_mk0), rfl, bel.frame _, fun h => by cases h⟩
theorem over : Rows.fnExactCodeOfPlanRow.holds Try.pinned (OpenSpec.ofChange Rows.fnExactCodeOfPlanSpec) :=
  OpenClaim.holds_of_wide 6 Try.f6 rfl rfl rfl rfl rfl rfl rfl ⟨rfl, rfl, rfl, rfl, rfl⟩ rfl rfl rfl rfl rfl (by kernel_rfl) Try.func6 facts
    (of_decide_eq_true (by kernel_rfl)) (by unfold Func.isWrapper; first | (rw [if_pos (by decide +kernel)]; kernel_rfl) | (rw [if_neg (by decide +kernel)]; exact ⟨rfl, rfl⟩))
    (fun os started H enc _ => lifted os started H enc)
theorem proved : Rows.FnExactCodeOfPlanSaid := over
#print axioms proved
end Go.Proofs.Ytlmoemahamneoaa.fnExactCodeOfPlan
namespace Go.Proofs.Ytlmoemahamneoaa
/-- The row, under a short name, for the claim. -/
theorem fnExactCodeOfPlan_holds : Rows.FnExactCodeOfPlanSaid := fnExactCodeOfPlan.proved
end Go.Proofs.Ytlmoemahamneoaa
