-- Written by gprint.py, a program of this session, out of the translation (a changed print).
import Derived.Test.YtafnnnpcochnnaaRows
import Derived.Test.YtafnnnpcochnnaaPFnExactRunAddersx5
import Derived.Test.YtafnnnpcochnnaaPureFnExactRunAdders
import Derived.Test.YtafnnnpcochnnaaOpen
import Derived.WalkKit
import Derived.ProofKit
import Derived.OpenShut
import Derived.ShutString
import Derived.ChangeOld
import Derived.Below
import Derived.SizedLaws
import Derived.Test.YtafnnnpcochnnaaWSized
namespace Go.Proofs.Ytafnnnpcochnnaa.fnExactRunAdders
open Go.ChangeShapes Go.WideShapes Go.ChangeAt Go.RowKit
open Go.ChangeMaps (open_string shut_string)
set_option linter.unusedVariables false
theorem own : ownKnob Try.prog.godebug = none := by kernel_rfl
theorem laidOut : laidOutB Try.prog = true := by kernel_rfl
def IsRow (k : IntKind) (w : World) (a : Option Addr) (len cap : Nat) (zs : List Int) : Prop :=
  (a = none ∧ len = 0 ∧ cap = 0 ∧ zs = []) ∨
  ∃ x, a = some x ∧ len ≤ cap ∧ cap ≤ maxLen ∧ zs.length = cap ∧ (∀ i, i < zs.length → w.cell? (x.add i) = some (.int k (zs.getD i 0))) ∧ ∀ n ∈ zs, (Lit.int k n).wf = true
theorem opensS88 : Open.Opens Try.prog 88 PFnExactRunAdders.k88 (fun x => (Lit.int .i64 x.f0).wf = true ∧ (Lit.int .i64 x.f1).wf = true ∧ (Lit.int .i64 x.f2).wf = true ∧ (Lit.int .i64 x.f3).wf = true) := fun H enc w base spare held fuel cs x h hz => by
  have hl := Open.struct_len Try.underlying88 h (s := 5) (by kernel_rfl)
  obtain ⟨c0, c1, c2, c3, c4, rfl⟩ : ∃ c0 c1 c2 c3 c4, cs = [c0, c1, c2, c3, c4] := by
    match cs, hl with | [c0, c1, c2, c3, c4], _ => exact ⟨_, _, _, _, _, rfl⟩
  obtain ⟨y0, k0, g0⟩ := Open.opens_field Try.underlying88 h hz 0 rfl rfl rfl (s := 1) (by kernel_rfl) (Open.opens_int Try.underlying3)
  obtain ⟨y1, k1, g1⟩ := Open.opens_field Try.underlying88 h hz 1 rfl rfl rfl (s := 1) (by kernel_rfl) (Open.opens_int Try.underlying3)
  obtain ⟨y2, k2, g2⟩ := Open.opens_field Try.underlying88 h hz 2 rfl rfl rfl (s := 1) (by kernel_rfl) (Open.opens_int Try.underlying3)
  obtain ⟨y3, k3, g3⟩ := Open.opens_field Try.underlying88 h hz 3 rfl rfl rfl (s := 1) (by kernel_rfl) (Open.opens_int Try.underlying3)
  obtain ⟨y4, k4, g4⟩ := Open.opens_field Try.underlying88 h hz 4 rfl rfl rfl (s := 1) (by kernel_rfl) (Open.opens_bool Try.underlying4)
  exact ⟨⟨y0, y1, y2, y3, y4⟩, ⟨[c0], [c1, c2, c3, c4], rfl, k0, ⟨[c1], [c2, c3, c4], rfl, k1, ⟨[c2], [c3, c4], rfl, k2, ⟨[c3], [c4], rfl, k3, k4⟩⟩⟩⟩, g0, g1, g2, g3⟩
set_option maxRecDepth 100000 in
theorem lifted (os : Os) (started : os.Started) (H : Type) (enc : TypeId × Value → H) :
    ReturnsInHanded {} Try.checked os 6 .any (Rows.fnExactRunAddersSpec.pre6 enc Try.prog Try.f6 Rows.fnExactRunAddersRow.domain false) (Rows.fnExactRunAddersSpec.post enc Try.prog Try.f6 false true false false) := by
  refine returnsInHanded_of_change_sized (C := Try.checked) own started (by kernel_rfl) Try.func6
    (ChangeSpec.witness6 (enc := enc) (C := Try.checked) false ⟨#[], #[.slice none 0 0, .int .i64 0], []⟩ 8 (by kernel_rfl) (by kernel_rfl) (by kernel_rfl) (by kernel_rfl)) ?_
  intro W base args ds gs before hval0 hW hcnd hsz0 _
  have hsz : (DataW.weightsEach Try.prog (Try.f6.params.toList ++ Rows.fnExactRunAddersSpec.plain.varTypes Try.prog) (ds ++ gs)).all (· ≤ reachBytes) = true := hsz0
  have hval : ∀ (j : Nat) t v, Try.f6.params[j]? = some t → args[j]? = some v → Value.okWide Try.prog W .any base t v := hval0
  have hW' := hW
  obtain ⟨p, q, hA0, hV, rfl, hfz, hnd⟩ := hW
  have hA : DataW.TrodAll enc Try.prog W 0 (fun _ => true) true Try.f6.params.toList args.toList ds p := hA0
  rw [Try.params6] at hA hval hsz
  obtain ⟨v0, vs0, d0, ds0, p0, q0, hargs, rfl, rfl, h0, r0⟩ := trodAll_cons hA
  obtain ⟨v1, vs1, d1, ds1, p1, q1, rfl, rfl, rfl, h1, r1⟩ := trodAll_cons r0
  obtain ⟨rfl, rfl, rfl⟩ := trodAll_nil r1
  obtain rfl : args = #[v0, v1] := by cases args; simp_all
  obtain ⟨rfl, rfl⟩ := trodVars_none hV
  obtain ⟨a0, len0, cap0, rfl⟩ := okWide_slice Try.underlying38 (hval 0 38 v0 rfl rfl)
  have k0 := h0
  have lt0 : ∀ x ∈ p0, x.block < W.heap.size := by obtain ⟨m, hm⟩ := k0; exact DataW.trod_lt m _ _ _ hm
  obtain ⟨l0, rfl, hr0, hc0, m0, y0, w0⟩ := Open.opened_slice (Open.opens_slice (d := PFnExactRunAdders.k88) PFnExactRunAdders.z88 Try.underlying38 (by kernel_rfl) (B := 40) (by kernel_rfl) opensS88) h0 (Open.sized_of hsz (j := 0) (t := 38) rfl rfl)
  obtain ⟨a1, rfl, rfl, rfl, w1⟩ := open_int Try.underlying3 (hval 1 3 v1 rfl rfl) h1
  clear hA0 hval0 hsz0 hsz
  refine (PFnExactRunAdders.laws_FnExactRunAdders.walk Pure.FnExactRunAdders _ _ l0 a1 W hr0 hc0 m0 y0 w0 w1).mono fun e W' ⟨he, bel⟩ => ?_
  subst he
  exact ⟨_, rfl, _, _, _, [], _, [], hW', trodAll_mk1 (shut_bool Try.underlying4 _), (trodAll_cons_mk (Below.trod laidOut (by kernel_rfl) (of_decide_eq_true (by kernel_rfl)) k0 bel lt0) (trodAll_cons_mk (shut_int Try.underlying3 w1) trodAll_mk0)), rfl, bel.frame _, fun h => by cases h⟩
theorem over : Rows.fnExactRunAddersRow.holds Try.pinned (OpenSpec.ofChange Rows.fnExactRunAddersSpec) :=
  OpenClaim.holds_of_wide 6 Try.f6 rfl rfl rfl rfl rfl rfl rfl ⟨rfl, rfl, rfl, rfl, rfl⟩ rfl rfl rfl rfl rfl (by kernel_rfl) Try.func6 (by kernel_rfl)
    (of_decide_eq_true (by kernel_rfl)) (by unfold Func.isWrapper; first | (rw [if_pos (by decide +kernel)]; kernel_rfl) | (rw [if_neg (by decide +kernel)]; exact ⟨rfl, rfl⟩))
    (fun os started H enc _ => lifted os started H enc)
theorem proved : Rows.FnExactRunAddersSaid := over
#print axioms proved
end Go.Proofs.Ytafnnnpcochnnaa.fnExactRunAdders
namespace Go.Proofs.Ytafnnnpcochnnaa
/-- The row, under a short name, for the claim. -/
theorem fnExactRunAdders_holds : Rows.FnExactRunAddersSaid := fnExactRunAdders.proved
end Go.Proofs.Ytafnnnpcochnnaa
