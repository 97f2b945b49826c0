-- Written by gprint.py, a program of this session, out of the translation (a changed print).
import Derived.Test.YtlmoemahamneoaaRows
import Derived.Test.YtlmoemahamneoaaPFnExactTrimCodex10
import Derived.Test.YtlmoemahamneoaaPureFnExactTrimCode
import Derived.Test.YtlmoemahamneoaaOpen
import Derived.WalkKit
import Derived.ProofKit
import Derived.OpenShut
import Derived.ShutString
import Derived.ChangeOld
import Derived.Below
import Derived.SizedLaws
import Derived.Test.YtlmoemahamneoaaWSized
namespace Go.Proofs.Ytlmoemahamneoaa.fnExactTrimCode
open Go.ChangeShapes Go.WideShapes Go.ChangeAt Go.RowKit
open Go.ChangeMaps (open_string shut_string)
set_option linter.unusedVariables false
theorem own : ownKnob Try.prog.godebug = none := by kernel_rfl
theorem laidOut : laidOutB Try.prog = true := by kernel_rfl
def IsRow (k : IntKind) (w : World) (a : Option Addr) (len cap : Nat) (zs : List Int) : Prop :=
  (a = none ∧ len = 0 ∧ cap = 0 ∧ zs = []) ∨
  ∃ x, a = some x ∧ len ≤ cap ∧ cap ≤ maxLen ∧ zs.length = cap ∧ (∀ i, i < zs.length → w.cell? (x.add i) = some (.int k (zs.getD i 0))) ∧ ∀ n ∈ zs, (Lit.int k n).wf = true
theorem opensS166 : Open.Opens Try.prog 166 PFnExactTrimCode.k166 (fun x => (Lit.int .i64 x.f0).wf = true ∧ (Lit.int .i64 x.f1).wf = true ∧ (Lit.int .i64 x.f2).wf = true) := fun H enc w base spare held fuel cs x h hz => by
  have hl := Open.struct_len Try.underlying166 h (s := 3) (by kernel_rfl)
  obtain ⟨c0, c1, c2, rfl⟩ : ∃ c0 c1 c2, cs = [c0, c1, c2] := by
    match cs, hl with | [c0, c1, c2], _ => exact ⟨_, _, _, rfl⟩
  obtain ⟨y0, k0, g0⟩ := Open.opens_field Try.underlying166 h hz 0 rfl rfl rfl (s := 1) (by kernel_rfl) (Open.opens_int Try.underlying3)
  obtain ⟨y1, k1, g1⟩ := Open.opens_field Try.underlying166 h hz 1 rfl rfl rfl (s := 1) (by kernel_rfl) (Open.opens_int Try.underlying3)
  obtain ⟨y2, k2, g2⟩ := Open.opens_field Try.underlying166 h hz 2 rfl rfl rfl (s := 1) (by kernel_rfl) (Open.opens_int Try.underlying3)
  exact ⟨⟨y0, y1, y2⟩, ⟨[c0], [c1, c2], rfl, k0, ⟨[c1], [c2], rfl, k1, k2⟩⟩, g0, g1, g2⟩
set_option maxRecDepth 100000 in
theorem lifted (os : Os) (started : os.Started) (H : Type) (enc : TypeId × Value → H) :
    ReturnsInHanded {} Try.checked os 5 .any (Rows.fnExactTrimCodeSpec.pre6 enc Try.prog Try.f5 Rows.fnExactTrimCodeRow.domain false) (Rows.fnExactTrimCodeSpec.post enc Try.prog Try.f5 false true false false) := by
  refine returnsInHanded_of_change_sized (C := Try.checked) own started (by kernel_rfl) Try.func5
    (ChangeSpec.witness6 (enc := enc) (C := Try.checked) false ⟨#[], #[.agg #[(.slice none 0 0), (.int .i64 0)]], []⟩ 8 (by kernel_rfl) (by kernel_rfl) (by kernel_rfl) (by kernel_rfl)) ?_
  intro W base args ds gs before hval0 hW hcnd hsz0 _
  have hsz : (DataW.weightsEach Try.prog (Try.f5.params.toList ++ Rows.fnExactTrimCodeSpec.plain.varTypes Try.prog) (ds ++ gs)).all (· ≤ reachBytes) = true := hsz0
  have hval : ∀ (j : Nat) t v, Try.f5.params[j]? = some t → args[j]? = some v → Value.okWide Try.prog W .any base t v := hval0
  have hW' := hW
  obtain ⟨p, q, hA0, hV, rfl, hfz, hnd⟩ := hW
  have hA : DataW.TrodAll enc Try.prog W 0 (fun _ => true) true Try.f5.params.toList args.toList ds p := hA0
  rw [Try.params5] at hA hval hsz
  obtain ⟨v0, vs0, d0, ds0, p0, q0, hargs, rfl, rfl, h0, r0⟩ := trodAll_cons hA
  obtain ⟨rfl, rfl, rfl⟩ := trodAll_nil r0
  obtain rfl : args = #[v0] := by cases args; simp_all
  obtain ⟨rfl, rfl⟩ := trodVars_none hV
  have k0 := h0
  have lt0 : ∀ x ∈ p0, x.block < W.heap.size := by obtain ⟨m, hm⟩ := k0; exact DataW.trod_lt m _ _ _ hm
  obtain ⟨cs0, rfl, hs0⟩ := okWide_struct Try.underlying47 (hval 0 47 v0 rfl rfl)
  obtain ⟨fuel0, hf0⟩ := h0
  have hz0 := Open.sized_of hsz (j := 0) (t := 47) rfl rfl
  have hl0 : cs0.toList.length = 2 := Open.struct_len Try.underlying47 hf0 (by kernel_rfl)
  simp only [Value.cells] at hf0
  obtain ⟨e0_0, e0_1, hcs0⟩ : ∃ e0_0 e0_1, cs0.toList = [e0_0, e0_1] := by
    revert hl0; generalize cs0.toList = cz; intro hl; match cz, hl with | [x0, x1], _ => exact ⟨_, _, rfl⟩
  obtain rfl : cs0 = #[e0_0, e0_1] := by cases cs0; simp_all
  clear hcs0 hl0
  obtain ⟨l0_0, ⟨A0_0, c0_0, hq0_0, hc0_0, hr0_0⟩, m0_0, y0_0, w0_0⟩ := Open.opens_field Try.underlying47 hf0 hz0 0 rfl rfl rfl (s := 1) (by kernel_rfl) (Open.opens_slice (d := PFnExactTrimCode.k166) PFnExactTrimCode.z166 Try.underlying45 (by kernel_rfl) (B := 24) (by kernel_rfl) opensS166)
  obtain rfl : e0_0 = _ := (List.cons.inj (show [e0_0] = [_] from hq0_0)).1
  obtain ⟨a0_1, hq0_1, w0_1⟩ := Open.opens_field Try.underlying47 hf0 hz0 1 rfl rfl rfl (s := 1) (by kernel_rfl) (Open.opens_int Try.underlying3)
  obtain rfl : e0_1 = _ := (List.cons.inj (show [e0_1] = [_] from hq0_1)).1
  clear hA0 hval0 hsz0 hsz
  refine (PFnExactTrimCode.laws_FnExactTrimCode.walk Pure.FnExactTrimCode _ _ l0_0 a0_1 W hr0_0 hc0_0 m0_0 y0_0 w0_0 w0_1).mono fun e W' ⟨he, bel⟩ => ?_
  subst he
  exact ⟨_, rfl, _, _, _, [], _, [], hW', trodAll_mk1 (shut_bool Try.underlying4 _), (trodAll_cons_mk (Below.trod laidOut (by kernel_rfl) (of_decide_eq_true (by kernel_rfl)) k0 bel lt0) trodAll_mk0), rfl, bel.frame _, fun h => by cases h⟩
theorem over : Rows.fnExactTrimCodeRow.holds Try.pinned (OpenSpec.ofChange Rows.fnExactTrimCodeSpec) :=
  OpenClaim.holds_of_wide 5 Try.f5 rfl rfl rfl rfl rfl rfl rfl ⟨rfl, rfl, rfl, rfl, rfl⟩ rfl rfl rfl rfl rfl (by kernel_rfl) Try.func5 (by kernel_rfl)
    (of_decide_eq_true (by kernel_rfl)) (by unfold Func.isWrapper; first | (rw [if_pos (by decide +kernel)]; kernel_rfl) | (rw [if_neg (by decide +kernel)]; exact ⟨rfl, rfl⟩))
    (fun os started H enc _ => lifted os started H enc)
theorem proved : Rows.FnExactTrimCodeSaid := over
#print axioms proved
end Go.Proofs.Ytlmoemahamneoaa.fnExactTrimCode
namespace Go.Proofs.Ytlmoemahamneoaa
/-- The row, under a short name, for the claim. -/
theorem fnExactTrimCode_holds : Rows.FnExactTrimCodeSaid := fnExactTrimCode.proved
end Go.Proofs.Ytlmoemahamneoaa
