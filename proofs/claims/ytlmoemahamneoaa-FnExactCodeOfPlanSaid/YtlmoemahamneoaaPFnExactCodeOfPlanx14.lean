-- Written by gprint.py, a program of this session, out of the translation (a changed print).
import Derived.Test.YtlmoemahamneoaaPFnExactCodeOfPlanx0
import Derived.Test.YtlmoemahamneoaaPFnExactCodeOfPlanx1
import Derived.Test.YtlmoemahamneoaaPFnExactCodeOfPlanx2
import Derived.Test.YtlmoemahamneoaaPFnExactCodeOfPlanx8
import Derived.Test.YtlmoemahamneoaaPFnExactCodeOfPlanx12
import Derived.Test.YtlmoemahamneoaaPFnExactCodeOfPlanx13
namespace Go.Proofs.Ytlmoemahamneoaa.PFnExactCodeOfPlan
open Go.RowKit Go.Proofs.YtlmoemahamneoaaW.PrintWords Go.Proofs.YtlmoemahamneoaaW.PrintLast Go.Proofs.YtlmoemahamneoaaW.PrintMore
-- shrunk
open Go.Proofs.YtlmoemahamneoaaW.PrintWords.Aside0 renaming mk → zz
open Go.Proofs.YtlmoemahamneoaaW.PrintWords renaming pw_below_drewN → zq, below_alloc → zj, below_drew1 → zw, below_set → zx, below_step → zk, below_size → zv, blk_alloc → qz, blk_drewN → qq, blk_drew → qj, blk_cell → qw, blk_frozen → qx, blk_put → qk, blk_below → qv, gate_callee → yv, gate_dst → vz, box_event → vq
open List renaming setIfInBounds_toArray → jz, set_cons_zero → yq, set_cons_succ → yj, map_toArray → yw, length_drop → yx, length_take → yk
open Go.Proofs.YtlmoemahamneoaaW.PrintWords.Kd renaming R_alloc → jq, R_drewN → jj, R_drew → jw, C_alloc → jx, C_drewN → jk, C_drew → jv, C_below → yz, R_mono → vj, R_below → vw, R_reads' → vx, R_slice → vk, R_apart' → kj, R_tight → kw
open Go.Proofs.YtlmoemahamneoaaW.PrintWords.LeO renaming bind → vv, refl → kz
open Go.Proofs.YtlmoemahamneoaaW.PrintLast renaming goesL_ → kx, i64_w → kk, i32_w → kv
attribute [local go_sem] max2_int min2_int max_two min_two max_three min_three max_four min_four   -- for this text's walks alone
set_option linter.unusedVariables false
set_option linter.unusedSimpArgs false

/-! ### laws_FnExactCodeOfPlan: function 6 -/
mutual
def laws_FnExactCodeOfPlan.j0 : Nat → Bool → Bool → Bool → Int → List (S170) → List Int → List (S109) → Int → Int → List (S133) → List Int → List (S109) → Int → Option (Bool)
 | 0, _, _, _, _, _, _, _, _, _, _, _, _, _ => none
 | k + 1, x5, x8, x40, x354000, x354001, x354002, x368000, x368001, x376000, x376001, x376002, x382000, x382001 => if x40 = true then (some false) else ((laws_toPlan.f k x354000 x354001 x354002).bind fun bt383 => ((laws_eqPlan.f k x376000 x376001 x376002 bt383.1 bt383.2.1 bt383.2.2).bind fun t390 => (if t390 = true then ((laws_markPlan.f k x376000 x376001 x376002 1).bind fun bt391 => (if bt391.1 < 0 then (laws_FnExactCodeOfPlan.j1 k x5 true x354000 x354001 x354002 x368000 x368001 x382000 x382001) else ((laws_eqCode.f k x382000 x382001 x368000 x368001).bind fun t394 => (if t394 = true then (laws_FnExactCodeOfPlan.j1 k x5 (x8 != x5) x354000 x354001 x354002 x368000 x368001 x382000 x382001) else (laws_FnExactCodeOfPlan.j1 k x5 true x354000 x354001 x354002 x368000 x368001 x382000 x382001))))) else (some false))))
def laws_FnExactCodeOfPlan.j1 : Nat → Bool → Bool → Int → List (S170) → List Int → List (S109) → Int → List (S109) → Int → Option (Bool)
 | 0, _, _, _, _, _, _, _, _, _ => none
 | k + 1, x5, x61, x354000, x354001, x354002, x368000, x368001, x382000, x382001 => if x61 = true then (some false) else ((laws_markCode.f k x382000 x382001 1).bind fun bt395 => ((laws_heldCode.f k bt395.2 x382001 1).bind fun t397 => (if t397 < 0 then (some false) else (if t397 = bt395.1 then ((laws_toPlan.f k x354000 x354001 x354002).bind fun bt398 => ((impl_CodeOfPlan.f k bt398.1 bt398.2.1 bt398.2.2).bind fun bt405 => ((laws_eqCode.f k bt405.1 bt405.2.1 x368000 x368001).bind fun t411 => (if t411 = true then (laws_FnExactCodeOfPlan.j2 k bt395.1 (bt405.2.2 != x5) bt395.2 x382001) else (laws_FnExactCodeOfPlan.j2 k bt395.1 true bt395.2 x382001))))) else (some false)))))
def laws_FnExactCodeOfPlan.j2 : Nat → Int → Bool → List (S109) → Int → Option (Bool)
 | 0, _, _, _, _ => none
 | k + 1, x10, x87, x382000, x382001 => if x87 = true then (some false) else ((laws_heldCode.f k x382000 x382001 1).bind fun t412 => (if t412 < 0 then (some false) else (if t412 = x10 then (some true) else (some false))))
end
def laws_FnExactCodeOfPlan.f (k : Nat) (a0_0 : Int) (l0_1 : List (S170)) (l0_2 : List Int) : Option (Bool) := (laws_szPlan.f a0_0 l0_1 l0_2 1048576).bind fun t354 => (if t354 < 0 then (some true) else ((laws_toPlan.f k a0_0 l0_1 l0_2).bind fun bt355 => ((spec_CodeOfPlan.f k bt355.1 bt355.2.1 bt355.2.2).bind fun bt362 => ((laws_toPlan.f k a0_0 l0_1 l0_2).bind fun bt368 => ((impl_CodeOfPlan.f k bt368.1 bt368.2.1 bt368.2.2).bind fun bt376 => ((laws_eqCode.f k bt376.1 bt376.2.1 bt362.1 bt362.2.1).bind fun t382 => (if t382 = true then (laws_FnExactCodeOfPlan.j0 k bt362.2.2 bt376.2.2 (bt376.2.2 != bt362.2.2) a0_0 l0_1 l0_2 bt362.1 bt362.2.1 bt368.1 bt368.2.1 bt368.2.2 bt376.1 bt376.2.1) else (laws_FnExactCodeOfPlan.j0 k bt362.2.2 bt376.2.2 true a0_0 l0_1 l0_2 bt362.1 bt362.2.1 bt368.1 bt368.2.1 bt368.2.2 bt376.1 bt376.2.1))))))))
theorem laws_FnExactCodeOfPlan.mono_l : ∀ k, (∀ y0 y1 y2 y3 y4 y5 y6 y7 y8 y9 y10 y11 y12, LeO (laws_FnExactCodeOfPlan.j0 k y0 y1 y2 y3 y4 y5 y6 y7 y8 y9 y10 y11 y12) (laws_FnExactCodeOfPlan.j0 (k + 1) y0 y1 y2 y3 y4 y5 y6 y7 y8 y9 y10 y11 y12)) ∧ (∀ y0 y1 y2 y3 y4 y5 y6 y7 y8, LeO (laws_FnExactCodeOfPlan.j1 k y0 y1 y2 y3 y4 y5 y6 y7 y8) (laws_FnExactCodeOfPlan.j1 (k + 1) y0 y1 y2 y3 y4 y5 y6 y7 y8)) ∧ (∀ y0 y1 y2 y3, LeO (laws_FnExactCodeOfPlan.j2 k y0 y1 y2 y3) (laws_FnExactCodeOfPlan.j2 (k + 1) y0 y1 y2 y3))
 | 0 => ⟨fun _ _ _ _ _ _ _ _ _ _ _ _ _ r h => by simp [laws_FnExactCodeOfPlan.j0] at h, fun _ _ _ _ _ _ _ _ _ r h => by simp [laws_FnExactCodeOfPlan.j1] at h, fun _ _ _ _ r h => by simp [laws_FnExactCodeOfPlan.j2] at h⟩
 | k + 1 => by
  obtain ⟨ih0, ih1, ih2⟩ := laws_FnExactCodeOfPlan.mono_l k
  refine ⟨?_, ?_, ?_⟩
  ·intro y0 y1 y2 y3 y4 y5 y6 y7 y8 y9 y10 y11 y12
   unfold laws_FnExactCodeOfPlan.j0
   repeat' first
   | (with_reducible exact ih0 _ _ _ _ _ _ _ _ _ _ _ _ _)
   | (with_reducible exact ih1 _ _ _ _ _ _ _ _ _)
   | (with_reducible exact ih2 _ _ _ _)
   | (with_reducible exact impl_CodeOfPlan.mono _ _ _ _)
   | (with_reducible exact laws_eqCode.mono _ _ _ _ _)
   | (with_reducible exact laws_eqPlan.mono _ _ _ _ _ _ _)
   | (with_reducible exact laws_heldCode.mono _ _ _ _)
   | (with_reducible exact laws_markCode.mono _ _ _ _)
   | (with_reducible exact laws_markPlan.mono _ _ _ _ _)
   | (with_reducible exact laws_toPlan.mono _ _ _ _)
   | (with_reducible exact spec_CodeOfPlan.mono _ _ _ _)
   | (with_reducible exact kz _)
   | (with_reducible exact LeO.none _)
   | (with_reducible refine LeO.ite ?_ ?_)
   | (with_reducible refine vv ?_ (fun _ => ?_))
   | exact ih0 _ _ _ _ _ _ _ _ _ _ _ _ _
   | exact ih1 _ _ _ _ _ _ _ _ _
   | exact ih2 _ _ _ _
   | exact impl_CodeOfPlan.mono _ _ _ _
   | exact laws_eqCode.mono _ _ _ _ _
   | exact laws_eqPlan.mono _ _ _ _ _ _ _
   | exact laws_heldCode.mono _ _ _ _
   | exact laws_markCode.mono _ _ _ _
   | exact laws_markPlan.mono _ _ _ _ _
   | exact laws_toPlan.mono _ _ _ _
   | exact spec_CodeOfPlan.mono _ _ _ _
   | exact LeO.none _
   | refine LeO.ite ?_ ?_
   | refine vv ?_ (fun _ => ?_)
  ·intro y0 y1 y2 y3 y4 y5 y6 y7 y8
   unfold laws_FnExactCodeOfPlan.j1
   repeat' first
   | (with_reducible exact ih0 _ _ _ _ _ _ _ _ _ _ _ _ _)
   | (with_reducible exact ih1 _ _ _ _ _ _ _ _ _)
   | (with_reducible exact ih2 _ _ _ _)
   | (with_reducible exact impl_CodeOfPlan.mono _ _ _ _)
   | (with_reducible exact laws_eqCode.mono _ _ _ _ _)
   | (with_reducible exact laws_eqPlan.mono _ _ _ _ _ _ _)
   | (with_reducible exact laws_heldCode.mono _ _ _ _)
   | (with_reducible exact laws_markCode.mono _ _ _ _)
   | (with_reducible exact laws_markPlan.mono _ _ _ _ _)
   | (with_reducible exact laws_toPlan.mono _ _ _ _)
   | (with_reducible exact spec_CodeOfPlan.mono _ _ _ _)
   | (with_reducible exact kz _)
   | (with_reducible exact LeO.none _)
   | (with_reducible refine LeO.ite ?_ ?_)
   | (with_reducible refine vv ?_ (fun _ => ?_))
   | exact ih0 _ _ _ _ _ _ _ _ _ _ _ _ _
   | exact ih1 _ _ _ _ _ _ _ _ _
   | exact ih2 _ _ _ _
   | exact impl_CodeOfPlan.mono _ _ _ _
   | exact laws_eqCode.mono _ _ _ _ _
   | exact laws_eqPlan.mono _ _ _ _ _ _ _
   | exact laws_heldCode.mono _ _ _ _
   | exact laws_markCode.mono _ _ _ _
   | exact laws_markPlan.mono _ _ _ _ _
   | exact laws_toPlan.mono _ _ _ _
   | exact spec_CodeOfPlan.mono _ _ _ _
   | exact LeO.none _
   | refine LeO.ite ?_ ?_
   | refine vv ?_ (fun _ => ?_)
  ·intro y0 y1 y2 y3
   unfold laws_FnExactCodeOfPlan.j2
   repeat' first
   | (with_reducible exact ih0 _ _ _ _ _ _ _ _ _ _ _ _ _)
   | (with_reducible exact ih1 _ _ _ _ _ _ _ _ _)
   | (with_reducible exact ih2 _ _ _ _)
   | (with_reducible exact impl_CodeOfPlan.mono _ _ _ _)
   | (with_reducible exact laws_eqCode.mono _ _ _ _ _)
   | (with_reducible exact laws_eqPlan.mono _ _ _ _ _ _ _)
   | (with_reducible exact laws_heldCode.mono _ _ _ _)
   | (with_reducible exact laws_markCode.mono _ _ _ _)
   | (with_reducible exact laws_markPlan.mono _ _ _ _ _)
   | (with_reducible exact laws_toPlan.mono _ _ _ _)
   | (with_reducible exact spec_CodeOfPlan.mono _ _ _ _)
   | (with_reducible exact kz _)
   | (with_reducible exact LeO.none _)
   | (with_reducible refine LeO.ite ?_ ?_)
   | (with_reducible refine vv ?_ (fun _ => ?_))
   | exact ih0 _ _ _ _ _ _ _ _ _ _ _ _ _
   | exact ih1 _ _ _ _ _ _ _ _ _
   | exact ih2 _ _ _ _
   | exact impl_CodeOfPlan.mono _ _ _ _
   | exact laws_eqCode.mono _ _ _ _ _
   | exact laws_eqPlan.mono _ _ _ _ _ _ _
   | exact laws_heldCode.mono _ _ _ _
   | exact laws_markCode.mono _ _ _ _
   | exact laws_markPlan.mono _ _ _ _ _
   | exact laws_toPlan.mono _ _ _ _
   | exact spec_CodeOfPlan.mono _ _ _ _
   | exact LeO.none _
   | refine LeO.ite ?_ ?_
   | refine vv ?_ (fun _ => ?_)
theorem laws_FnExactCodeOfPlan.mono : ∀ a0 a1 a2 k, LeO (laws_FnExactCodeOfPlan.f k a0 a1 a2) (laws_FnExactCodeOfPlan.f (k + 1) a0 a1 a2) := by
 intro a0 a1 a2 k
 obtain ⟨ih0, ih1, ih2⟩ := laws_FnExactCodeOfPlan.mono_l k
 unfold laws_FnExactCodeOfPlan.f
 repeat' first
   | (with_reducible exact ih0 _ _ _ _ _ _ _ _ _ _ _ _ _)
   | (with_reducible exact ih1 _ _ _ _ _ _ _ _ _)
   | (with_reducible exact ih2 _ _ _ _)
   | (with_reducible exact impl_CodeOfPlan.mono _ _ _ _)
   | (with_reducible exact laws_eqCode.mono _ _ _ _ _)
   | (with_reducible exact laws_eqPlan.mono _ _ _ _ _ _ _)
   | (with_reducible exact laws_heldCode.mono _ _ _ _)
   | (with_reducible exact laws_markCode.mono _ _ _ _)
   | (with_reducible exact laws_markPlan.mono _ _ _ _ _)
   | (with_reducible exact laws_toPlan.mono _ _ _ _)
   | (with_reducible exact spec_CodeOfPlan.mono _ _ _ _)
   | (with_reducible exact kz _)
   | (with_reducible exact LeO.none _)
   | (with_reducible refine LeO.ite ?_ ?_)
   | (with_reducible refine vv ?_ (fun _ => ?_))
   | exact ih0 _ _ _ _ _ _ _ _ _ _ _ _ _
   | exact ih1 _ _ _ _ _ _ _ _ _
   | exact ih2 _ _ _ _
   | exact impl_CodeOfPlan.mono _ _ _ _
   | exact laws_eqCode.mono _ _ _ _ _
   | exact laws_eqPlan.mono _ _ _ _ _ _ _
   | exact laws_heldCode.mono _ _ _ _
   | exact laws_markCode.mono _ _ _ _
   | exact laws_markPlan.mono _ _ _ _ _
   | exact laws_toPlan.mono _ _ _ _
   | exact spec_CodeOfPlan.mono _ _ _ _
   | exact LeO.none _
   | refine LeO.ite ?_ ?_
   | refine vv ?_ (fun _ => ?_)
set_option maxHeartbeats 8000000 in
set_option maxRecDepth 100000 in
theorem laws_FnExactCodeOfPlan.calls (k : Nat) (a0_0 : Int) (A0_1 : Option Addr) (c0_1 : Nat) (l0_1 : List (S170)) (A0_2 : Option Addr) (c0_2 : Nat) (l0_2 : List Int) (r : Bool) (w : World) (hr0_1 : Kd.C k170 w A0_1 l0_1.length l0_1) (hc0_1 : l0_1.length ≤ c0_1) (hr0_2 : Kd.C (Kd.int .i64) w A0_2 l0_2.length l0_2) (hc0_2 : l0_2.length ≤ c0_2) (h : laws_FnExactCodeOfPlan.f k a0_0 l0_1 l0_2 = some r) :
  Calls Try.prog 6 #[.agg #[.int .i64 a0_0, .slice A0_1 l0_1.length c0_1, .slice A0_2 l0_2.length c0_2]] w fun e w' => e = .returned (.bool r) ∧ Below w.heap.size w w' := by
 have hu54 := Try.underlying54
 have hu32 := Try.underlying32
 have hu59 := Try.underlying59
 have HR0_1 := zz hr0_1
 have HC0_1 := zz hc0_1
 clear hr0_1 hc0_1
 have HR0_2 := zz hr0_2
 have HC0_2 := zz hc0_2
 clear hr0_2 hc0_2
 have HB := zz (Below.refl w.heap.size w)
 have H : ((laws_szPlan.f a0_0 l0_1 l0_2 1048576).bind fun t354 => (if t354 < 0 then (some true) else ((laws_toPlan.f k a0_0 l0_1 l0_2).bind fun bt355 => ((spec_CodeOfPlan.f k bt355.1 bt355.2.1 bt355.2.2).bind fun bt362 => ((laws_toPlan.f k a0_0 l0_1 l0_2).bind fun bt368 => ((impl_CodeOfPlan.f k bt368.1 bt368.2.1 bt368.2.2).bind fun bt376 => ((laws_eqCode.f k bt376.1 bt376.2.1 bt362.1 bt362.2.1).bind fun t382 => (if t382 = true then (laws_FnExactCodeOfPlan.j0 k bt362.2.2 bt376.2.2 (bt376.2.2 != bt362.2.2) a0_0 l0_1 l0_2 bt362.1 bt362.2.1 bt368.1 bt368.2.1 bt368.2.2 bt376.1 bt376.2.1) else (laws_FnExactCodeOfPlan.j0 k bt362.2.2 bt376.2.2 true a0_0 l0_1 l0_2 bt362.1 bt362.2.1 bt368.1 bt368.2.1 bt368.2.2 bt376.1 bt376.2.1))))))))) = some r := h
 clear h
 replace H := Option.bind_eq_some_iff.mp H
 obtain ⟨t354, A20, H⟩ := H
 replace H : (if t354 < 0 then (some true) else ((laws_toPlan.f k a0_0 l0_1 l0_2).bind fun bt355 => ((spec_CodeOfPlan.f k bt355.1 bt355.2.1 bt355.2.2).bind fun bt362 => ((laws_toPlan.f k a0_0 l0_1 l0_2).bind fun bt368 => ((impl_CodeOfPlan.f k bt368.1 bt368.2.1 bt368.2.2).bind fun bt376 => ((laws_eqCode.f k bt376.1 bt376.2.1 bt362.1 bt362.2.1).bind fun t382 => (if t382 = true then (laws_FnExactCodeOfPlan.j0 k bt362.2.2 bt376.2.2 (bt376.2.2 != bt362.2.2) a0_0 l0_1 l0_2 bt362.1 bt362.2.1 bt368.1 bt368.2.1 bt368.2.2 bt376.1 bt376.2.1) else (laws_FnExactCodeOfPlan.j0 k bt362.2.2 bt376.2.2 true a0_0 l0_1 l0_2 bt362.1 bt362.2.1 bt368.1 bt368.2.1 bt368.2.2 bt376.1 bt376.2.1)))))))) = some r := H
 have A2 := zz A20
 clear A20
 by_cases c3 : t354 < 0
 ·rw [if_pos c3] at H
  have c3b0 : decide (t354 < 0) = true := decide_eq_true c3
  clear c3
  obtain rfl := Option.some.inj H
  go_enter Try.func6, Try.ntmps6
  go_wp2_with (first | ((with_reducible refine vz (N := 1) rfl ?_); refine vq ?hg (N := 1) ?hd (cs := #[.int .i64 a0_0, .slice A0_1 l0_1.length c0_1, .slice A0_2 l0_2.length c0_2]) (t := 54) ?hr ?_; (case hd => rfl); (case hg => rfl); (case hr => first | (go_simp; done) | (go_simp; rfl)); intro gb353 hg w4 hbox hb; have n0_ := zz (zk (by repeat (first | (with_reducible first | exact HB.out | apply zj | apply zq | apply zw) | exact HB.out)) hb); have n1_ := zz (hbox); have n2_ := zz ((by rw [hg]; exact (zv (by repeat (first | (with_reducible first | exact HB.out | apply zj | apply zq | apply zw) | exact HB.out))) : w.heap.size ≤ gb353)); have n3_ := zz ((by rw [hg]; exact (zv (by repeat (first | (with_reducible first | exact HB.out | apply zj | apply zq | apply zw) | exact HB.out))) : w.heap.size ≤ gb353)); clear HB; have HB := n0_; have BK353 := n1_; have GW353 := n2_; have GE353 := n3_; clear n0_ n1_ n2_ n3_; clear hb hbox hg; have hcz5_0 : w4.cell? ⟨gb353, 0, none⟩ = some (.int .i64 a0_0) := (qw BK353.out 0).trans rfl; have hcz5_1 : w4.cell? ⟨gb353, 1, none⟩ = some (.slice A0_1 l0_1.length c0_1) := (qw BK353.out 1).trans rfl; have hcz5_2 : w4.cell? ⟨gb353, 2, none⟩ = some (.slice A0_2 l0_2.length c0_2) := (qw BK353.out 2).trans rfl; have hfz5_0 := qx BK353.out 0; have hfz5_1 := qx BK353.out 1; have hfz5_2 := qx BK353.out 2) | ((with_reducible refine yv (f := 36) rfl ?_); refine kx (some 16) rfl rfl Try.func36 (by kernel_rfl) rfl #[.agg #[.int .i64 a0_0, .slice A0_1 l0_1.length c0_1, .slice A0_2 l0_2.length c0_2], .int .i64 1048576] rfl (by (try simp only [yw, List.map_cons, List.map_nil]); first | done | rfl | (simp only [yx, yk]; rfl)) ?_; (with_reducible refine (laws_szPlan.calls a0_0 _ _ l0_1 _ _ l0_2 1048576 t354 _ ?side1 ?side2 ?side3 ?side4 A2.out).mono ?_); (case side1 => repeat (first | exact (yz HR0_1.out HB.out) | (with_reducible refine jx ?_ _) | (with_reducible refine jk ?_ _) | (with_reducible refine jv ?_))); (case side2 => exact HC0_1.out); (case side3 => repeat (first | exact (yz HR0_2.out HB.out) | (with_reducible refine jx ?_ _) | (with_reducible refine jk ?_ _) | (with_reducible refine jv ?_))); (case side4 => exact HC0_2.out); rintro e w6 ⟨rfl, hb⟩; refine ⟨_, rfl, ?_⟩; have n0_ := zz (qv (g := gb353) (o := .cells #[.int .i64 a0_0, .slice A0_1 l0_1.length c0_1, .slice A0_2 l0_2.length c0_2] 54 (0, 0)) (by (with_reducible repeat (first | refine qq ?_ _ | refine qj ?_ | refine qz ?_ _)); exact BK353.out) hb); have n1_ := zz (zk (by repeat (first | (with_reducible first | exact HB.out | apply zj | apply zq | apply zw | refine zx ?_ GE353.out) | exact HB.out)) hb); clear BK353; clear HB; have BK353 := n0_; have HB := n1_; clear n0_ n1_; (try clear hb); (try clear hb2); (try clear hk); (try clear hi)))
  go_ret
  exact ⟨by first | rfl | (simp [errW_none, errW_some] <;> rfl) | (simp [*, errW_none, errW_some] <;> rfl), by repeat (first | (with_reducible first | exact HB.out | apply zj | apply zq | apply zw | refine zx ?_ GE353.out) | exact HB.out)⟩
 ·rw [if_neg c3] at H
  have c3b0 : decide (t354 < 0) = false := decide_eq_false c3
  clear c3
  replace H := Option.bind_eq_some_iff.mp H
  obtain ⟨⟨t355, t356, t359⟩, A70, H⟩ := H
  replace H : ((spec_CodeOfPlan.f k t355 t356 t359).bind fun bt362 => ((laws_toPlan.f k a0_0 l0_1 l0_2).bind fun bt368 => ((impl_CodeOfPlan.f k bt368.1 bt368.2.1 bt368.2.2).bind fun bt376 => ((laws_eqCode.f k bt376.1 bt376.2.1 bt362.1 bt362.2.1).bind fun t382 => (if t382 = true then (laws_FnExactCodeOfPlan.j0 k bt362.2.2 bt376.2.2 (bt376.2.2 != bt362.2.2) a0_0 l0_1 l0_2 bt362.1 bt362.2.1 bt368.1 bt368.2.1 bt368.2.2 bt376.1 bt376.2.1) else (laws_FnExactCodeOfPlan.j0 k bt362.2.2 bt376.2.2 true a0_0 l0_1 l0_2 bt362.1 bt362.2.1 bt368.1 bt368.2.1 bt368.2.2 bt376.1 bt376.2.1)))))) = some r := H
  have A7 := zz A70
  clear A70
  replace H := Option.bind_eq_some_iff.mp H
  obtain ⟨⟨t362, t365, t366⟩, A80, H⟩ := H
  replace H : ((laws_toPlan.f k a0_0 l0_1 l0_2).bind fun bt368 => ((impl_CodeOfPlan.f k bt368.1 bt368.2.1 bt368.2.2).bind fun bt376 => ((laws_eqCode.f k bt376.1 bt376.2.1 t362 t365).bind fun t382 => (if t382 = true then (laws_FnExactCodeOfPlan.j0 k t366 bt376.2.2 (bt376.2.2 != t366) a0_0 l0_1 l0_2 t362 t365 bt368.1 bt368.2.1 bt368.2.2 bt376.1 bt376.2.1) else (laws_FnExactCodeOfPlan.j0 k t366 bt376.2.2 true a0_0 l0_1 l0_2 t362 t365 bt368.1 bt368.2.1 bt368.2.2 bt376.1 bt376.2.1))))) = some r := H
  have A8 := zz A80
  clear A80
  replace H := Option.bind_eq_some_iff.mp H
  obtain ⟨⟨t368, t369, t372⟩, A90, H⟩ := H
  replace H : ((impl_CodeOfPlan.f k t368 t369 t372).bind fun bt376 => ((laws_eqCode.f k bt376.1 bt376.2.1 t362 t365).bind fun t382 => (if t382 = true then (laws_FnExactCodeOfPlan.j0 k t366 bt376.2.2 (bt376.2.2 != t366) a0_0 l0_1 l0_2 t362 t365 t368 t369 t372 bt376.1 bt376.2.1) else (laws_FnExactCodeOfPlan.j0 k t366 bt376.2.2 true a0_0 l0_1 l0_2 t362 t365 t368 t369 t372 bt376.1 bt376.2.1)))) = some r := H
  have A9 := zz A90
  clear A90
  replace H := Option.bind_eq_some_iff.mp H
  obtain ⟨⟨t376, t379, t380⟩, A100, H⟩ := H
  replace H : ((laws_eqCode.f k t376 t379 t362 t365).bind fun t382 => (if t382 = true then (laws_FnExactCodeOfPlan.j0 k t366 t380 (t380 != t366) a0_0 l0_1 l0_2 t362 t365 t368 t369 t372 t376 t379) else (laws_FnExactCodeOfPlan.j0 k t366 t380 true a0_0 l0_1 l0_2 t362 t365 t368 t369 t372 t376 t379))) = some r := H
  have A10 := zz A100
  clear A100
  have HC11 := zz H
  clear H
  go_enter Try.func6, Try.ntmps6
  go_upto_region 8 with (first | ((with_reducible refine vz (N := 1) rfl ?_); refine vq ?hg (N := 1) ?hd (cs := #[.int .i64 a0_0, .slice A0_1 l0_1.length c0_1, .slice A0_2 l0_2.length c0_2]) (t := 54) ?hr ?_; (case hd => rfl); (case hg => rfl); (case hr => first | (go_simp; done) | (go_simp; rfl)); intro gb353 hg w12 hbox hb; have n0_ := zz (zk (by repeat (first | (with_reducible first | exact HB.out | apply zj | apply zq | apply zw) | exact HB.out)) hb); have n1_ := zz (hbox); have n2_ := zz ((by rw [hg]; exact (zv (by repeat (first | (with_reducible first | exact HB.out | apply zj | apply zq | apply zw) | exact HB.out))) : w.heap.size ≤ gb353)); have n3_ := zz ((by rw [hg]; exact (zv (by repeat (first | (with_reducible first | exact HB.out | apply zj | apply zq | apply zw) | exact HB.out))) : w.heap.size ≤ gb353)); clear HB; have HB := n0_; have BK353 := n1_; have GW353 := n2_; have GE353 := n3_; clear n0_ n1_ n2_ n3_; clear hb hbox hg; have hcz13_0 : w12.cell? ⟨gb353, 0, none⟩ = some (.int .i64 a0_0) := (qw BK353.out 0).trans rfl; have hcz13_1 : w12.cell? ⟨gb353, 1, none⟩ = some (.slice A0_1 l0_1.length c0_1) := (qw BK353.out 1).trans rfl; have hcz13_2 : w12.cell? ⟨gb353, 2, none⟩ = some (.slice A0_2 l0_2.length c0_2) := (qw BK353.out 2).trans rfl; have hfz13_0 := qx BK353.out 0; have hfz13_1 := qx BK353.out 1; have hfz13_2 := qx BK353.out 2) | ((with_reducible refine yv (f := 36) rfl ?_); refine kx (some 16) rfl rfl Try.func36 (by kernel_rfl) rfl #[.agg #[.int .i64 a0_0, .slice A0_1 l0_1.length c0_1, .slice A0_2 l0_2.length c0_2], .int .i64 1048576] rfl (by (try simp only [yw, List.map_cons, List.map_nil]); first | done | rfl | (simp only [yx, yk]; rfl)) ?_; (with_reducible refine (laws_szPlan.calls a0_0 _ _ l0_1 _ _ l0_2 1048576 t354 _ ?side1 ?side2 ?side3 ?side4 A2.out).mono ?_); (case side1 => repeat (first | exact (yz HR0_1.out HB.out) | (with_reducible refine jx ?_ _) | (with_reducible refine jk ?_ _) | (with_reducible refine jv ?_))); (case side2 => exact HC0_1.out); (case side3 => repeat (first | exact (yz HR0_2.out HB.out) | (with_reducible refine jx ?_ _) | (with_reducible refine jk ?_ _) | (with_reducible refine jv ?_))); (case side4 => exact HC0_2.out); rintro e w14 ⟨rfl, hb⟩; refine ⟨_, rfl, ?_⟩; have n0_ := zz (qv (g := gb353) (o := .cells #[.int .i64 a0_0, .slice A0_1 l0_1.length c0_1, .slice A0_2 l0_2.length c0_2] 54 (0, 0)) (by (with_reducible repeat (first | refine qq ?_ _ | refine qj ?_ | refine qz ?_ _)); exact BK353.out) hb); have n1_ := zz (zk (by repeat (first | (with_reducible first | exact HB.out | apply zj | apply zq | apply zw | refine zx ?_ GE353.out) | exact HB.out)) hb); clear BK353; clear HB; have BK353 := n0_; have HB := n1_; clear n0_ n1_; (try clear hb); (try clear hb2); (try clear hk); (try clear hi); have hcz15_0 : w14.cell? ⟨gb353, 0, none⟩ = some (.int .i64 a0_0) := (qw BK353.out 0).trans rfl; have hcz15_1 : w14.cell? ⟨gb353, 1, none⟩ = some (.slice A0_1 l0_1.length c0_1) := (qw BK353.out 1).trans rfl; have hcz15_2 : w14.cell? ⟨gb353, 2, none⟩ = some (.slice A0_2 l0_2.length c0_2) := (qw BK353.out 2).trans rfl; have hfz15_0 := qx BK353.out 0; have hfz15_1 := qx BK353.out 1; have hfz15_2 := qx BK353.out 2) | ((with_reducible refine yv (f := 38) rfl ?_); refine kx (some 21) rfl rfl Try.func38 (by kernel_rfl) rfl #[.agg #[.int .i64 a0_0, .slice A0_1 l0_1.length c0_1, .slice A0_2 l0_2.length c0_2]] rfl (by (try simp only [yw, List.map_cons, List.map_nil]); first | done | rfl | (simp only [yx, yk]; rfl)) ?_; (with_reducible refine (laws_toPlan.calls k a0_0 _ _ l0_1 _ _ l0_2 t355 t356 t359 _ ?side1 ?side2 ?side3 ?side4 A7.out).mono ?_); (case side1 => repeat (first | exact (yz HR0_1.out HB.out) | (with_reducible refine jx ?_ _) | (with_reducible refine jk ?_ _) | (with_reducible refine jv ?_))); (case side2 => exact HC0_1.out); (case side3 => repeat (first | exact (yz HR0_2.out HB.out) | (with_reducible refine jx ?_ _) | (with_reducible refine jk ?_ _) | (with_reducible refine jv ?_))); (case side4 => exact HC0_2.out); rintro e w16 ⟨v357, v360, rfl, ho0, ho1, hb⟩; refine ⟨_, rfl, ?_⟩; have n0_ := zz (Kd.R_lower ho0 (zv (by repeat (first | (with_reducible first | exact HB.out | apply zj | apply zq | apply zw | refine zx ?_ GE353.out) | exact HB.out)))); have n1_ := zz (Kd.R_lower ho1 (zv (by repeat (first | (with_reducible first | exact HB.out | apply zj | apply zq | apply zw | refine zx ?_ GE353.out) | exact HB.out)))); have n2_ := zz (qv (g := gb353) (o := .cells #[.int .i64 a0_0, .slice A0_1 l0_1.length c0_1, .slice A0_2 l0_2.length c0_2] 54 (0, 0)) (by (with_reducible repeat (first | refine qq ?_ _ | refine qj ?_ | refine qz ?_ _)); exact BK353.out) hb); have n3_ := zz (zk (by repeat (first | (with_reducible first | exact HB.out | apply zj | apply zq | apply zw | refine zx ?_ GE353.out) | exact HB.out)) hb); clear BK353; clear HB; have HO358 := n0_; have HO361 := n1_; have BK353 := n2_; have HB := n3_; clear n0_ n1_ n2_ n3_; (try clear hb); (try clear hb2); (try clear hk); (try clear hi); (try clear ho0); (try clear ho1); obtain ⟨Ao17, co17, eo17⟩ := vk HO358.out; subst eo17; obtain ⟨Ao18, co18, eo18⟩ := vk HO361.out; subst eo18) | ((with_reducible refine yv (f := 37) rfl ?_); refine kx (some 22) rfl rfl Try.func37 (by kernel_rfl) rfl #[.agg #[.int .i64 t355, .slice Ao17 t356.length co17, .slice Ao18 t359.length co18]] rfl (by (try simp only [yw, List.map_cons, List.map_nil]); first | done | rfl | (simp only [yx, yk]; rfl)) ?_; (with_reducible refine (spec_CodeOfPlan.calls k t355 _ _ t356 _ _ t359 t362 t365 t366 _ ?side1 ?side2 ?side3 ?side4 A8.out).mono ?_); (case side1 => repeat (first | exact (vx HO358.out).2.2 | (with_reducible refine jx ?_ _) | (with_reducible refine jk ?_ _) | (with_reducible refine jv ?_))); (case side2 => exact (vx HO358.out).2.1); (case side3 => repeat (first | exact (vx HO361.out).2.2 | (with_reducible refine jx ?_ _) | (with_reducible refine jk ?_ _) | (with_reducible refine jv ?_))); (case side4 => exact (vx HO361.out).2.1); rintro e w19 ⟨v363, rfl, ho0, hb⟩; refine ⟨_, rfl, ?_⟩; have n0_ := zz (vw (by (with_reducible repeat (first | apply jq | apply jj | apply jw)); exact HO358.out) hb); have n1_ := zz (vw (by (with_reducible repeat (first | apply jq | apply jj | apply jw)); exact HO361.out) hb); have n2_ := zz (Kd.R_lower ho0 (zv (by repeat (first | (with_reducible first | exact HB.out | apply zj | apply zq | apply zw | refine zx ?_ GE353.out) | exact HB.out)))); have n3_ := zz (qv (g := gb353) (o := .cells #[.int .i64 a0_0, .slice A0_1 l0_1.length c0_1, .slice A0_2 l0_2.length c0_2] 54 (0, 0)) (by (with_reducible repeat (first | refine qq ?_ _ | refine qj ?_ | refine qz ?_ _)); exact BK353.out) hb); have n4_ := zz (zk (by repeat (first | (with_reducible first | exact HB.out | apply zj | apply zq | apply zw | refine zx ?_ GE353.out) | exact HB.out)) hb); clear HO358; clear HO361; clear BK353; clear HB; have HO358 := n0_; have HO361 := n1_; have HO364 := n2_; have BK353 := n3_; have HB := n4_; clear n0_ n1_ n2_ n3_ n4_; (try clear hb); (try clear hb2); (try clear hk); (try clear hi); (try clear ho0)) | ((with_reducible refine vz (N := 4) rfl ?_); refine vq ?hg (N := 4) ?hd (cs := #[.slice none 0 0, .int .i64 0]) (t := 32) ?hr ?_; (case hd => rfl); (case hg => rfl); (case hr => first | (go_simp; done) | (go_simp; rfl)); intro gb367 hg w20 hbox hb; have n0_ := zz (vw (by (with_reducible repeat (first | apply jq | apply jj | apply jw)); exact HO358.out) hb); have n1_ := zz (vw (by (with_reducible repeat (first | apply jq | apply jj | apply jw)); exact HO361.out) hb); have n2_ := zz (vw (by (with_reducible repeat (first | apply jq | apply jj | apply jw)); exact HO364.out) hb); have n3_ := zz (qv (g := gb353) (o := .cells #[.int .i64 a0_0, .slice A0_1 l0_1.length c0_1, .slice A0_2 l0_2.length c0_2] 54 (0, 0)) (by (with_reducible repeat (first | refine qq ?_ _ | refine qj ?_ | refine qz ?_ _)); exact BK353.out) hb); have n4_ := zz (zk (by repeat (first | (with_reducible first | exact HB.out | apply zj | apply zq | apply zw | refine zx ?_ GE353.out) | exact HB.out)) hb); have n5_ := zz (hbox); have n6_ := zz ((by rw [hg]; exact (zv (by repeat (first | (with_reducible first | exact HB.out | apply zj | apply zq | apply zw | refine zx ?_ GE353.out) | exact HB.out))) : w.heap.size ≤ gb367)); have n7_ := zz ((by rw [hg]; exact (zv (by repeat (first | (with_reducible first | exact HB.out | apply zj | apply zq | apply zw | refine zx ?_ GE353.out) | exact HB.out))) : w.heap.size ≤ gb367)); have n8_ := zz ((by rw [hg]; exact Nat.ne_of_lt (blk_lt (g := gb353) (o := .cells #[.int .i64 a0_0, .slice A0_1 l0_1.length c0_1, .slice A0_2 l0_2.length c0_2] 54 (0, 0)) (by (with_reducible repeat (first | refine qq ?_ _ | refine qj ?_ | refine qz ?_ _)); exact BK353.out)) : gb353 ≠ gb367)); have n9_ := zz ((by rw [hg]; exact Nat.ne_of_gt (blk_lt (g := gb353) (o := .cells #[.int .i64 a0_0, .slice A0_1 l0_1.length c0_1, .slice A0_2 l0_2.length c0_2] 54 (0, 0)) (by (with_reducible repeat (first | refine qq ?_ _ | refine qj ?_ | refine qz ?_ _)); exact BK353.out)) : gb367 ≠ gb353)); clear HO358; clear HO361; clear HO364; clear BK353; clear HB; have HO358 := n0_; have HO361 := n1_; have HO364 := n2_; have BK353 := n3_; have HB := n4_; have BK367 := n5_; have GW367 := n6_; have GE367 := n7_; have NB353_367 := n8_; have NB367_353 := n9_; clear n0_ n1_ n2_ n3_ n4_ n5_ n6_ n7_ n8_ n9_; clear hb hbox hg; obtain ⟨Ao21, co21, eo21⟩ := vk HO364.out; subst eo21; have hnb22 := NB367_353.out; have hnc22 := NB353_367.out; have hcz23_0 : w20.cell? ⟨gb367, 0, none⟩ = some (.slice none 0 0) := (qw BK367.out 0).trans rfl; have hcz23_1 : w20.cell? ⟨gb367, 1, none⟩ = some (.int .i64 0) := (qw BK367.out 1).trans rfl; have hfz23_0 := qx BK367.out 0; have hfz23_1 := qx BK367.out 1; have hcz24_0 : w20.cell? ⟨gb353, 0, none⟩ = some (.int .i64 a0_0) := (qw BK353.out 0).trans rfl; have hcz24_1 : w20.cell? ⟨gb353, 1, none⟩ = some (.slice A0_1 l0_1.length c0_1) := (qw BK353.out 1).trans rfl; have hcz24_2 : w20.cell? ⟨gb353, 2, none⟩ = some (.slice A0_2 l0_2.length c0_2) := (qw BK353.out 2).trans rfl; have hfz24_0 := qx BK353.out 0; have hfz24_1 := qx BK353.out 1; have hfz24_2 := qx BK353.out 2) | ((with_reducible refine yv (f := 38) rfl ?_); refine kx (some 26) rfl rfl Try.func38 (by kernel_rfl) rfl #[.agg #[.int .i64 a0_0, .slice A0_1 l0_1.length c0_1, .slice A0_2 l0_2.length c0_2]] rfl (by (try simp only [yw, List.map_cons, List.map_nil]); first | done | rfl | (simp only [yx, yk]; rfl)) ?_; (with_reducible refine (laws_toPlan.calls k a0_0 _ _ l0_1 _ _ l0_2 t368 t369 t372 _ ?side1 ?side2 ?side3 ?side4 A9.out).mono ?_); (case side1 => exact yz HR0_1.out (by repeat (first | (with_reducible first | exact HB.out | apply zj | apply zq | apply zw | refine zx ?_ GE353.out | refine zx ?_ GE367.out) | exact HB.out))); (case side2 => exact HC0_1.out); (case side3 => exact yz HR0_2.out (by repeat (first | (with_reducible first | exact HB.out | apply zj | apply zq | apply zw | refine zx ?_ GE353.out | refine zx ?_ GE367.out) | exact HB.out))); (case side4 => exact HC0_2.out); rintro e w25 ⟨v370, v373, rfl, ho0, ho1, hb⟩; refine ⟨_, rfl, ?_⟩; have n0_ := zz (Kd.R_elder' (by (with_reducible repeat (first | apply jq | apply jj | apply jw)); exact (vj (Kd.R_far (p := ⟨gb367, 1, none⟩) (Kd.R_far (p := ⟨gb367, 0, none⟩) (Kd.R_types HO358.out BK367.out (by decide)) (fun _ hk => hk.2) (.slice Ao21 t362.length co21)) (fun _ hk => hk.2) (.int .i64 t365)) (fun _ h_ => h_.1))) (Kd.R_base ho0) hb); have n1_ := zz (Kd.R_elder' (by (with_reducible repeat (first | apply jq | apply jj | apply jw)); exact (vj (Kd.R_far (p := ⟨gb367, 1, none⟩) (Kd.R_far (p := ⟨gb367, 0, none⟩) (Kd.R_types HO361.out BK367.out (by decide)) (fun _ hk => hk.2) (.slice Ao21 t362.length co21)) (fun _ hk => hk.2) (.int .i64 t365)) (fun _ h_ => h_.1))) (Kd.R_base ho1) hb); have n2_ := zz (vw (by (with_reducible repeat (first | apply jq | apply jj | apply jw)); exact (vj (Kd.R_far (p := ⟨gb367, 1, none⟩) (Kd.R_far (p := ⟨gb367, 0, none⟩) (Kd.R_types HO364.out BK367.out (by decide)) (fun _ hk => hk.2) (.slice Ao21 t362.length co21)) (fun _ hk => hk.2) (.int .i64 t365)) (fun _ h_ => h_.1))) hb); have n3_ := zz (Kd.R_lower (Kd.R_new' ho0 (Kd.R_lt (by (with_reducible repeat (first | apply jq | apply jj | apply jw)); exact (vj (Kd.R_far (p := ⟨gb367, 1, none⟩) (Kd.R_far (p := ⟨gb367, 0, none⟩) (Kd.R_types HO358.out BK367.out (by decide)) (fun _ hk => hk.2) (.slice Ao21 t362.length co21)) (fun _ hk => hk.2) (.int .i64 t365)) (fun _ h_ => h_.1))))) (zv (by repeat (first | (with_reducible first | exact HB.out | apply zj | apply zq | apply zw | refine zx ?_ GE353.out | refine zx ?_ GE367.out) | exact HB.out)))); have n4_ := zz (Kd.R_lower (Kd.R_new' ho1 (Kd.R_lt (by (with_reducible repeat (first | apply jq | apply jj | apply jw)); exact (vj (Kd.R_far (p := ⟨gb367, 1, none⟩) (Kd.R_far (p := ⟨gb367, 0, none⟩) (Kd.R_types HO361.out BK367.out (by decide)) (fun _ hk => hk.2) (.slice Ao21 t362.length co21)) (fun _ hk => hk.2) (.int .i64 t365)) (fun _ h_ => h_.1))))) (zv (by repeat (first | (with_reducible first | exact HB.out | apply zj | apply zq | apply zw | refine zx ?_ GE353.out | refine zx ?_ GE367.out) | exact HB.out)))); have n5_ := zz (qv (g := gb353) (o := .cells #[.int .i64 a0_0, .slice A0_1 l0_1.length c0_1, .slice A0_2 l0_2.length c0_2] 54 (0, 0)) (by (with_reducible repeat (first | refine qq ?_ _ | refine qj ?_ | refine qz ?_ _)); refine blk_far ?_ NB353_367.out _; (with_reducible repeat (first | refine qq ?_ _ | refine qj ?_ | refine qz ?_ _)); refine blk_far ?_ NB353_367.out _; (with_reducible repeat (first | refine qq ?_ _ | refine qj ?_ | refine qz ?_ _)); exact BK353.out) hb); have n6_ := zz (qv (g := gb367) (o := .cells #[.slice Ao21 t362.length co21, .int .i64 t365] 32 (0, 0)) (by (with_reducible repeat (first | refine qq ?_ _ | refine qj ?_ | refine qz ?_ _)); refine qk (cs := #[.slice Ao21 t362.length co21, .int .i64 0]) ?_ 1 _ rfl; (with_reducible repeat (first | refine qq ?_ _ | refine qj ?_ | refine qz ?_ _)); refine qk (cs := #[.slice none 0 0, .int .i64 0]) ?_ 0 _ rfl; (with_reducible repeat (first | refine qq ?_ _ | refine qj ?_ | refine qz ?_ _)); exact BK367.out) hb); have n7_ := zz (zk (by repeat (first | (with_reducible first | exact HB.out | apply zj | apply zq | apply zw | refine zx ?_ GE353.out | refine zx ?_ GE367.out) | exact HB.out)) hb); clear HO358; clear HO361; clear HO364; clear BK353; clear BK367; clear HB; have HO358 := n0_; have HO361 := n1_; have HO364 := n2_; have HO371 := n3_; have HO374 := n4_; have BK353 := n5_; have BK367 := n6_; have HB := n7_; clear n0_ n1_ n2_ n3_ n4_ n5_ n6_ n7_; (try clear hb); (try clear hb2); (try clear hk); (try clear hi); (try clear ho0); (try clear ho1)) | ((with_reducible refine vz (N := 6) rfl ?_); refine vq ?hg (N := 6) ?hd (cs := #[.int .i64 0, .slice none 0 0, .slice none 0 0]) (t := 59) ?hr ?_; (case hd => rfl); (case hg => rfl); (case hr => first | (go_simp; done) | (go_simp; rfl)); intro gb375 hg w26 hbox hb; have n0_ := zz (vw (by (with_reducible repeat (first | apply jq | apply jj | apply jw)); exact HO358.out) hb); have n1_ := zz (vw (by (with_reducible repeat (first | apply jq | apply jj | apply jw)); exact HO361.out) hb); have n2_ := zz (vw (by (with_reducible repeat (first | apply jq | apply jj | apply jw)); exact HO364.out) hb); have n3_ := zz (vw (by (with_reducible repeat (first | apply jq | apply jj | apply jw)); exact HO371.out) hb); have n4_ := zz (vw (by (with_reducible repeat (first | apply jq | apply jj | apply jw)); exact HO374.out) hb); have n5_ := zz (qv (g := gb353) (o := .cells #[.int .i64 a0_0, .slice A0_1 l0_1.length c0_1, .slice A0_2 l0_2.length c0_2] 54 (0, 0)) (by (with_reducible repeat (first | refine qq ?_ _ | refine qj ?_ | refine qz ?_ _)); exact BK353.out) hb); have n6_ := zz (qv (g := gb367) (o := .cells #[.slice Ao21 t362.length co21, .int .i64 t365] 32 (0, 0)) (by (with_reducible repeat (first | refine qq ?_ _ | refine qj ?_ | refine qz ?_ _)); exact BK367.out) hb); have n7_ := zz (zk (by repeat (first | (with_reducible first | exact HB.out | apply zj | apply zq | apply zw | refine zx ?_ GE353.out | refine zx ?_ GE367.out) | exact HB.out)) hb); have n8_ := zz (hbox); have n9_ := zz ((by rw [hg]; exact (zv (by repeat (first | (with_reducible first | exact HB.out | apply zj | apply zq | apply zw | refine zx ?_ GE353.out | refine zx ?_ GE367.out) | exact HB.out))) : w.heap.size ≤ gb375)); have n10_ := zz ((by rw [hg]; exact (zv (by repeat (first | (with_reducible first | exact HB.out | apply zj | apply zq | apply zw | refine zx ?_ GE353.out | refine zx ?_ GE367.out) | exact HB.out))) : w.heap.size ≤ gb375)); have n11_ := zz ((by rw [hg]; exact Nat.ne_of_lt (blk_lt (g := gb353) (o := .cells #[.int .i64 a0_0, .slice A0_1 l0_1.length c0_1, .slice A0_2 l0_2.length c0_2] 54 (0, 0)) (by (with_reducible repeat (first | refine qq ?_ _ | refine qj ?_ | refine qz ?_ _)); exact BK353.out)) : gb353 ≠ gb375)); have n12_ := zz ((by rw [hg]; exact Nat.ne_of_gt (blk_lt (g := gb353) (o := .cells #[.int .i64 a0_0, .slice A0_1 l0_1.length c0_1, .slice A0_2 l0_2.length c0_2] 54 (0, 0)) (by (with_reducible repeat (first | refine qq ?_ _ | refine qj ?_ | refine qz ?_ _)); exact BK353.out)) : gb375 ≠ gb353)); have n13_ := zz ((by rw [hg]; exact Nat.ne_of_lt (blk_lt (g := gb367) (o := .cells #[.slice Ao21 t362.length co21, .int .i64 t365] 32 (0, 0)) (by (with_reducible repeat (first | refine qq ?_ _ | refine qj ?_ | refine qz ?_ _)); exact BK367.out)) : gb367 ≠ gb375)); have n14_ := zz ((by rw [hg]; exact Nat.ne_of_gt (blk_lt (g := gb367) (o := .cells #[.slice Ao21 t362.length co21, .int .i64 t365] 32 (0, 0)) (by (with_reducible repeat (first | refine qq ?_ _ | refine qj ?_ | refine qz ?_ _)); exact BK367.out)) : gb375 ≠ gb367)); clear HO358; clear HO361; clear HO364; clear HO371; clear HO374; clear BK353; clear BK367; clear HB; have HO358 := n0_; have HO361 := n1_; have HO364 := n2_; have HO371 := n3_; have HO374 := n4_; have BK353 := n5_; have BK367 := n6_; have HB := n7_; have BK375 := n8_; have GW375 := n9_; have GE375 := n10_; have NB353_375 := n11_; have NB375_353 := n12_; have NB367_375 := n13_; have NB375_367 := n14_; clear n0_ n1_ n2_ n3_ n4_ n5_ n6_ n7_ n8_ n9_ n10_ n11_ n12_ n13_ n14_; clear hb hbox hg; have hnb27 := NB375_353.out; have hnc27 := NB353_375.out; have hnb28 := NB375_367.out; have hnc28 := NB367_375.out; have hcz29_0 : w26.cell? ⟨gb375, 0, none⟩ = some (.int .i64 0) := (qw BK375.out 0).trans rfl; have hcz29_1 : w26.cell? ⟨gb375, 1, none⟩ = some (.slice none 0 0) := (qw BK375.out 1).trans rfl; have hcz29_2 : w26.cell? ⟨gb375, 2, none⟩ = some (.slice none 0 0) := (qw BK375.out 2).trans rfl; have hfz29_0 := qx BK375.out 0; have hfz29_1 := qx BK375.out 1; have hfz29_2 := qx BK375.out 2; obtain ⟨Ao30, co30, eo30⟩ := vk HO371.out; subst eo30; obtain ⟨Ao31, co31, eo31⟩ := vk HO374.out; subst eo31) | ((with_reducible refine yv (f := 39) rfl ?_); refine kx (some 29) rfl rfl Try.func39 (by kernel_rfl) rfl #[.agg #[.int .i64 t368, .slice Ao30 t369.length co30, .slice Ao31 t372.length co31]] rfl (by (try simp only [yw, List.map_cons, List.map_nil]); first | done | rfl | (simp only [yx, yk]; rfl)) ?_; (with_reducible refine (impl_CodeOfPlan.calls k t368 _ _ t369 _ _ t372 t376 t379 t380 _ ?side1 ?side2 ?side3 ?side4 A10.out).mono ?_); (case side1 => refine (vx (e := 133) (base := w.heap.size) (ok := fun k_ => (True ∧ some k_ ≠ (.slice Ao17 t356.length co17 : Value).ownBlock)) (n := t369.length) (c := co30) ?_).2.2; exact (by (with_reducible repeat (first | apply jq | apply jj | apply jw)); exact (vj (Kd.R_far (p := ⟨gb375, 2, none⟩) (Kd.R_far (p := ⟨gb375, 1, none⟩) (Kd.R_far (p := ⟨gb375, 0, none⟩) (Kd.R_types HO371.out BK375.out (by decide)) (fun _ hk => hk.2) (.int .i64 t368)) (fun _ hk => hk.2) (.slice Ao30 t369.length co30)) (fun _ hk => hk.2) (.slice Ao31 t372.length co31)) (fun _ h_ => h_.1)))); (case side2 => exact (vx HO371.out).2.1); (case side3 => refine (vx (e := 3) (base := w.heap.size) (ok := fun k_ => (True ∧ some k_ ≠ (.slice Ao18 t359.length co18 : Value).ownBlock)) (n := t372.length) (c := co31) ?_).2.2; exact (by (with_reducible repeat (first | apply jq | apply jj | apply jw)); exact (vj (Kd.R_far (p := ⟨gb375, 2, none⟩) (Kd.R_far (p := ⟨gb375, 1, none⟩) (Kd.R_far (p := ⟨gb375, 0, none⟩) (Kd.R_types HO374.out BK375.out (by decide)) (fun _ hk => hk.2) (.int .i64 t368)) (fun _ hk => hk.2) (.slice Ao30 t369.length co30)) (fun _ hk => hk.2) (.slice Ao31 t372.length co31)) (fun _ h_ => h_.1)))); (case side4 => exact (vx HO374.out).2.1); rintro e w32 ⟨v377, rfl, ho0, hb⟩; refine ⟨_, rfl, ?_⟩; have n0_ := zz (vw (by (with_reducible repeat (first | apply jq | apply jj | apply jw)); exact (vj (Kd.R_far (p := ⟨gb375, 2, none⟩) (Kd.R_far (p := ⟨gb375, 1, none⟩) (Kd.R_far (p := ⟨gb375, 0, none⟩) (Kd.R_types HO358.out BK375.out (by decide)) (fun _ hk => hk.2) (.int .i64 t368)) (fun _ hk => hk.2) (.slice Ao30 t369.length co30)) (fun _ hk => hk.2) (.slice Ao31 t372.length co31)) (fun _ h_ => h_.1))) hb); have n1_ := zz (vw (by (with_reducible repeat (first | apply jq | apply jj | apply jw)); exact (vj (Kd.R_far (p := ⟨gb375, 2, none⟩) (Kd.R_far (p := ⟨gb375, 1, none⟩) (Kd.R_far (p := ⟨gb375, 0, none⟩) (Kd.R_types HO361.out BK375.out (by decide)) (fun _ hk => hk.2) (.int .i64 t368)) (fun _ hk => hk.2) (.slice Ao30 t369.length co30)) (fun _ hk => hk.2) (.slice Ao31 t372.length co31)) (fun _ h_ => h_.1))) hb); have n2_ := zz (Kd.R_elder' (by (with_reducible repeat (first | apply jq | apply jj | apply jw)); exact (vj (Kd.R_far (p := ⟨gb375, 2, none⟩) (Kd.R_far (p := ⟨gb375, 1, none⟩) (Kd.R_far (p := ⟨gb375, 0, none⟩) (Kd.R_types HO364.out BK375.out (by decide)) (fun _ hk => hk.2) (.int .i64 t368)) (fun _ hk => hk.2) (.slice Ao30 t369.length co30)) (fun _ hk => hk.2) (.slice Ao31 t372.length co31)) (fun _ h_ => h_.1))) (Kd.R_base ho0) hb); have n3_ := zz (vw (by (with_reducible repeat (first | apply jq | apply jj | apply jw)); exact (vj (Kd.R_far (p := ⟨gb375, 2, none⟩) (Kd.R_far (p := ⟨gb375, 1, none⟩) (Kd.R_far (p := ⟨gb375, 0, none⟩) (Kd.R_types HO371.out BK375.out (by decide)) (fun _ hk => hk.2) (.int .i64 t368)) (fun _ hk => hk.2) (.slice Ao30 t369.length co30)) (fun _ hk => hk.2) (.slice Ao31 t372.length co31)) (fun _ h_ => h_.1))) hb); have n4_ := zz (vw (by (with_reducible repeat (first | apply jq | apply jj | apply jw)); exact (vj (Kd.R_far (p := ⟨gb375, 2, none⟩) (Kd.R_far (p := ⟨gb375, 1, none⟩) (Kd.R_far (p := ⟨gb375, 0, none⟩) (Kd.R_types HO374.out BK375.out (by decide)) (fun _ hk => hk.2) (.int .i64 t368)) (fun _ hk => hk.2) (.slice Ao30 t369.length co30)) (fun _ hk => hk.2) (.slice Ao31 t372.length co31)) (fun _ h_ => h_.1))) hb); have n5_ := zz (Kd.R_lower (Kd.R_new' ho0 (Kd.R_lt (by (with_reducible repeat (first | apply jq | apply jj | apply jw)); exact (vj (Kd.R_far (p := ⟨gb375, 2, none⟩) (Kd.R_far (p := ⟨gb375, 1, none⟩) (Kd.R_far (p := ⟨gb375, 0, none⟩) (Kd.R_types HO364.out BK375.out (by decide)) (fun _ hk => hk.2) (.int .i64 t368)) (fun _ hk => hk.2) (.slice Ao30 t369.length co30)) (fun _ hk => hk.2) (.slice Ao31 t372.length co31)) (fun _ h_ => h_.1))))) (zv (by repeat (first | (with_reducible first | exact HB.out | apply zj | apply zq | apply zw | refine zx ?_ GE353.out | refine zx ?_ GE367.out | refine zx ?_ GE375.out) | exact HB.out)))); have n6_ := zz (qv (g := gb353) (o := .cells #[.int .i64 a0_0, .slice A0_1 l0_1.length c0_1, .slice A0_2 l0_2.length c0_2] 54 (0, 0)) (by (with_reducible repeat (first | refine qq ?_ _ | refine qj ?_ | refine qz ?_ _)); refine blk_far ?_ NB353_375.out _; (with_reducible repeat (first | refine qq ?_ _ | refine qj ?_ | refine qz ?_ _)); refine blk_far ?_ NB353_375.out _; (with_reducible repeat (first | refine qq ?_ _ | refine qj ?_ | refine qz ?_ _)); refine blk_far ?_ NB353_375.out _; (with_reducible repeat (first | refine qq ?_ _ | refine qj ?_ | refine qz ?_ _)); exact BK353.out) hb); have n7_ := zz (qv (g := gb367) (o := .cells #[.slice Ao21 t362.length co21, .int .i64 t365] 32 (0, 0)) (by (with_reducible repeat (first | refine qq ?_ _ | refine qj ?_ | refine qz ?_ _)); refine blk_far ?_ NB367_375.out _; (with_reducible repeat (first | refine qq ?_ _ | refine qj ?_ | refine qz ?_ _)); refine blk_far ?_ NB367_375.out _; (with_reducible repeat (first | refine qq ?_ _ | refine qj ?_ | refine qz ?_ _)); refine blk_far ?_ NB367_375.out _; (with_reducible repeat (first | refine qq ?_ _ | refine qj ?_ | refine qz ?_ _)); exact BK367.out) hb); have n8_ := zz (qv (g := gb375) (o := .cells #[.int .i64 t368, .slice Ao30 t369.length co30, .slice Ao31 t372.length co31] 59 (0, 0)) (by (with_reducible repeat (first | refine qq ?_ _ | refine qj ?_ | refine qz ?_ _)); refine qk (cs := #[.int .i64 t368, .slice Ao30 t369.length co30, .slice none 0 0]) ?_ 2 _ rfl; (with_reducible repeat (first | refine qq ?_ _ | refine qj ?_ | refine qz ?_ _)); refine qk (cs := #[.int .i64 t368, .slice none 0 0, .slice none 0 0]) ?_ 1 _ rfl; (with_reducible repeat (first | refine qq ?_ _ | refine qj ?_ | refine qz ?_ _)); refine qk (cs := #[.int .i64 0, .slice none 0 0, .slice none 0 0]) ?_ 0 _ rfl; (with_reducible repeat (first | refine qq ?_ _ | refine qj ?_ | refine qz ?_ _)); exact BK375.out) hb); have n9_ := zz (zk (by repeat (first | (with_reducible first | exact HB.out | apply zj | apply zq | apply zw | refine zx ?_ GE353.out | refine zx ?_ GE367.out | refine zx ?_ GE375.out) | exact HB.out)) hb); clear HO358; clear HO361; clear HO364; clear HO371; clear HO374; clear BK353; clear BK367; clear BK375; clear HB; have HO358 := n0_; have HO361 := n1_; have HO364 := n2_; have HO371 := n3_; have HO374 := n4_; have HO378 := n5_; have BK353 := n6_; have BK367 := n7_; have BK375 := n8_; have HB := n9_; clear n0_ n1_ n2_ n3_ n4_ n5_ n6_ n7_ n8_ n9_; (try clear hb); (try clear hb2); (try clear hk); (try clear hi); (try clear ho0)) | ((with_reducible refine vz (N := 7) rfl ?_); refine vq ?hg (N := 7) ?hd (cs := #[.slice none 0 0, .int .i64 0]) (t := 32) ?hr ?_; (case hd => rfl); (case hg => rfl); (case hr => first | (go_simp; done) | (go_simp; rfl)); intro gb381 hg w33 hbox hb; have n0_ := zz (vw (by (with_reducible repeat (first | apply jq | apply jj | apply jw)); exact HO358.out) hb); have n1_ := zz (vw (by (with_reducible repeat (first | apply jq | apply jj | apply jw)); exact HO361.out) hb); have n2_ := zz (vw (by (with_reducible repeat (first | apply jq | apply jj | apply jw)); exact HO364.out) hb); have n3_ := zz (vw (by (with_reducible repeat (first | apply jq | apply jj | apply jw)); exact HO371.out) hb); have n4_ := zz (vw (by (with_reducible repeat (first | apply jq | apply jj | apply jw)); exact HO374.out) hb); have n5_ := zz (vw (by (with_reducible repeat (first | apply jq | apply jj | apply jw)); exact HO378.out) hb); have n6_ := zz (qv (g := gb353) (o := .cells #[.int .i64 a0_0, .slice A0_1 l0_1.length c0_1, .slice A0_2 l0_2.length c0_2] 54 (0, 0)) (by (with_reducible repeat (first | refine qq ?_ _ | refine qj ?_ | refine qz ?_ _)); exact BK353.out) hb); have n7_ := zz (qv (g := gb367) (o := .cells #[.slice Ao21 t362.length co21, .int .i64 t365] 32 (0, 0)) (by (with_reducible repeat (first | refine qq ?_ _ | refine qj ?_ | refine qz ?_ _)); exact BK367.out) hb); have n8_ := zz (qv (g := gb375) (o := .cells #[.int .i64 t368, .slice Ao30 t369.length co30, .slice Ao31 t372.length co31] 59 (0, 0)) (by (with_reducible repeat (first | refine qq ?_ _ | refine qj ?_ | refine qz ?_ _)); exact BK375.out) hb); have n9_ := zz (zk (by repeat (first | (with_reducible first | exact HB.out | apply zj | apply zq | apply zw | refine zx ?_ GE353.out | refine zx ?_ GE367.out | refine zx ?_ GE375.out) | exact HB.out)) hb); have n10_ := zz (hbox); have n11_ := zz ((by rw [hg]; exact (zv (by repeat (first | (with_reducible first | exact HB.out | apply zj | apply zq | apply zw | refine zx ?_ GE353.out | refine zx ?_ GE367.out | refine zx ?_ GE375.out) | exact HB.out))) : w.heap.size ≤ gb381)); have n12_ := zz ((by rw [hg]; exact (zv (by repeat (first | (with_reducible first | exact HB.out | apply zj | apply zq | apply zw | refine zx ?_ GE353.out | refine zx ?_ GE367.out | refine zx ?_ GE375.out) | exact HB.out))) : w.heap.size ≤ gb381)); have n13_ := zz ((by rw [hg]; exact Nat.ne_of_lt (blk_lt (g := gb353) (o := .cells #[.int .i64 a0_0, .slice A0_1 l0_1.length c0_1, .slice A0_2 l0_2.length c0_2] 54 (0, 0)) (by (with_reducible repeat (first | refine qq ?_ _ | refine qj ?_ | refine qz ?_ _)); exact BK353.out)) : gb353 ≠ gb381)); have n14_ := zz ((by rw [hg]; exact Nat.ne_of_gt (blk_lt (g := gb353) (o := .cells #[.int .i64 a0_0, .slice A0_1 l0_1.length c0_1, .slice A0_2 l0_2.length c0_2] 54 (0, 0)) (by (with_reducible repeat (first | refine qq ?_ _ | refine qj ?_ | refine qz ?_ _)); exact BK353.out)) : gb381 ≠ gb353)); have n15_ := zz ((by rw [hg]; exact Nat.ne_of_lt (blk_lt (g := gb367) (o := .cells #[.slice Ao21 t362.length co21, .int .i64 t365] 32 (0, 0)) (by (with_reducible repeat (first | refine qq ?_ _ | refine qj ?_ | refine qz ?_ _)); exact BK367.out)) : gb367 ≠ gb381)); have n16_ := zz ((by rw [hg]; exact Nat.ne_of_gt (blk_lt (g := gb367) (o := .cells #[.slice Ao21 t362.length co21, .int .i64 t365] 32 (0, 0)) (by (with_reducible repeat (first | refine qq ?_ _ | refine qj ?_ | refine qz ?_ _)); exact BK367.out)) : gb381 ≠ gb367)); have n17_ := zz ((by rw [hg]; exact Nat.ne_of_lt (blk_lt (g := gb375) (o := .cells #[.int .i64 t368, .slice Ao30 t369.length co30, .slice Ao31 t372.length co31] 59 (0, 0)) (by (with_reducible repeat (first | refine qq ?_ _ | refine qj ?_ | refine qz ?_ _)); exact BK375.out)) : gb375 ≠ gb381)); have n18_ := zz ((by rw [hg]; exact Nat.ne_of_gt (blk_lt (g := gb375) (o := .cells #[.int .i64 t368, .slice Ao30 t369.length co30, .slice Ao31 t372.length co31] 59 (0, 0)) (by (with_reducible repeat (first | refine qq ?_ _ | refine qj ?_ | refine qz ?_ _)); exact BK375.out)) : gb381 ≠ gb375)); clear HO358; clear HO361; clear HO364; clear HO371; clear HO374; clear HO378; clear BK353; clear BK367; clear BK375; clear HB; have HO358 := n0_; have HO361 := n1_; have HO364 := n2_; have HO371 := n3_; have HO374 := n4_; have HO378 := n5_; have BK353 := n6_; have BK367 := n7_; have BK375 := n8_; have HB := n9_; have BK381 := n10_; have GW381 := n11_; have GE381 := n12_; have NB353_381 := n13_; have NB381_353 := n14_; have NB367_381 := n15_; have NB381_367 := n16_; have NB375_381 := n17_; have NB381_375 := n18_; clear n0_ n1_ n2_ n3_ n4_ n5_ n6_ n7_ n8_ n9_ n10_ n11_ n12_ n13_ n14_ n15_ n16_ n17_ n18_; clear hb hbox hg; obtain ⟨Ao34, co34, eo34⟩ := vk HO378.out; subst eo34; have hnb35 := NB381_353.out; have hnc35 := NB353_381.out; have hnb36 := NB381_367.out; have hnc36 := NB367_381.out; have hnb37 := NB381_375.out; have hnc37 := NB375_381.out; have hcz38_0 : w33.cell? ⟨gb381, 0, none⟩ = some (.slice none 0 0) := (qw BK381.out 0).trans rfl; have hcz38_1 : w33.cell? ⟨gb381, 1, none⟩ = some (.int .i64 0) := (qw BK381.out 1).trans rfl; have hfz38_0 := qx BK381.out 0; have hfz38_1 := qx BK381.out 1))
  (try simp only [Act.put, jz, yq, yj])
  go_cut [40] (fun v40 wc => ∃ (kq : Nat) (x40_10 : Bool), v40 = .bool x40_10 ∧ Aside0 (laws_FnExactCodeOfPlan.j0 kq t366 t380 x40_10 a0_0 l0_1 l0_2 t362 t365 t368 t369 t372 t376 t379 = some r) ∧ Aside0 (kq ≤ k) ∧ Aside0 (Kd.R k109 109 wc w.heap.size (fun k_ => some k_ ≠ ((.slice Ao34 t376.length co34) : Value).ownBlock) (.slice Ao21 t362.length co21) t362) ∧ Aside0 (Kd.R k133 133 wc w.heap.size (fun _ => True) (.slice Ao30 t369.length co30) t369) ∧ Aside0 (Kd.R (Kd.int .i64) 3 wc w.heap.size (fun _ => True) (.slice Ao31 t372.length co31) t372) ∧ Aside0 (Kd.R k109 109 wc w.heap.size (fun k_ => some k_ ≠ ((.slice Ao21 t362.length co21) : Value).ownBlock) (.slice Ao34 t376.length co34) t376) ∧ Aside0 (wc.heap[gb353]? = some (.cells #[.int .i64 a0_0, (.slice A0_1 l0_1.length c0_1), (.slice A0_2 l0_2.length c0_2)] 54 (0, 0))) ∧ Aside0 (wc.heap[gb367]? = some (.cells #[(.slice Ao21 t362.length co21), .int .i64 t365] 32 (0, 0))) ∧ Aside0 (wc.heap[gb375]? = some (.cells #[.int .i64 t368, (.slice Ao30 t369.length co30), (.slice Ao31 t372.length co31)] 59 (0, 0))) ∧ Aside0 (wc.heap[gb381]? = some (.cells #[(.slice Ao34 t376.length co34), .int .i64 t379] 32 (0, 0))) ∧ Aside0 (Below w.heap.size w wc))
  case first =>
   have H := HC11.out
   clear HC11
   replace H := Option.bind_eq_some_iff.mp H
   obtain ⟨t382, A390, H⟩ := H
   replace H : (if t382 = true then (laws_FnExactCodeOfPlan.j0 k t366 t380 (t380 != t366) a0_0 l0_1 l0_2 t362 t365 t368 t369 t372 t376 t379) else (laws_FnExactCodeOfPlan.j0 k t366 t380 true a0_0 l0_1 l0_2 t362 t365 t368 t369 t372 t376 t379)) = some r := H
   have A39 := zz A390
   clear A390
   by_cases c40 : t382 = true
   ·subst c40
    have H1 : (laws_FnExactCodeOfPlan.j0 k t366 t380 (t380 != t366) a0_0 l0_1 l0_2 t362 t365 t368 t369 t372 t376 t379) = some r := by rw [if_pos rfl] at H; exact H
    clear H
    have H := H1
    clear H1
    have H' := zz H
    clear H
    have hnb41 := NB381_353.out
    have hnc41 := NB353_381.out
    have hnb42 := NB381_367.out
    have hnc42 := NB367_381.out
    have hnb43 := NB381_375.out
    have hnc43 := NB375_381.out
    have hcz44_0 : w33.cell? ⟨gb381, 0, none⟩ = some (.slice none 0 0) := (qw BK381.out 0).trans rfl
    have hcz44_1 : w33.cell? ⟨gb381, 1, none⟩ = some (.int .i64 0) := (qw BK381.out 1).trans rfl
    have hfz44_0 := qx BK381.out 0
    have hfz44_1 := qx BK381.out 1
    have hnb45 := NB367_353.out
    have hnc45 := NB353_367.out
    have hnb46 := NB367_375.out
    have hnc46 := NB375_367.out
    have hcz47_0 : w33.cell? ⟨gb367, 0, none⟩ = some (.slice Ao21 t362.length co21) := (qw BK367.out 0).trans rfl
    have hcz47_1 : w33.cell? ⟨gb367, 1, none⟩ = some (.int .i64 t365) := (qw BK367.out 1).trans rfl
    have hfz47_0 := qx BK367.out 0
    have hfz47_1 := qx BK367.out 1
    go_wp2_with (first | ((with_reducible refine yv (f := 27) rfl ?_); refine kx (some 34) rfl rfl Try.func27 (by kernel_rfl) rfl #[.agg #[.slice Ao34 t376.length co34, .int .i64 t379], .agg #[.slice Ao21 t362.length co21, .int .i64 t365]] rfl (by (try simp only [yw, List.map_cons, List.map_nil]); first | done | rfl | (simp only [yx, yk]; rfl)) ?_; (with_reducible refine (laws_eqCode.calls k _ _ t376 t379 _ _ t362 t365 true _ ?side1 ?side2 ?side3 ?side4 A39.out).mono ?_); (case side1 => refine (vx (e := 109) (base := w.heap.size) (ok := fun k_ => (True ∧ some k_ ≠ (.slice Ao21 t362.length co21 : Value).ownBlock)) (n := t376.length) (c := co34) ?_).2.2; exact (by (with_reducible repeat (first | apply jq | apply jj | apply jw)); exact (vj (Kd.R_far (p := ⟨gb381, 1, none⟩) (Kd.R_far (p := ⟨gb381, 0, none⟩) (Kd.R_types HO378.out BK381.out (by decide)) (fun _ hk => hk.2) (.slice Ao34 t376.length co34)) (fun _ hk => hk.2) (.int .i64 t379)) (fun _ h_ => h_.1)))); (case side2 => exact (vx HO378.out).2.1); (case side3 => refine (vx (e := 109) (base := w.heap.size) (ok := fun k_ => (True ∧ some k_ ≠ (.slice Ao34 t376.length co34 : Value).ownBlock)) (n := t362.length) (c := co21) ?_).2.2; exact (by (with_reducible repeat (first | apply jq | apply jj | apply jw)); exact (vj (Kd.R_far (p := ⟨gb381, 1, none⟩) (Kd.R_far (p := ⟨gb381, 0, none⟩) (Kd.R_types HO364.out BK381.out (by decide)) (fun _ hk => hk.2) (.slice Ao34 t376.length co34)) (fun _ hk => hk.2) (.int .i64 t379)) (fun _ h_ => h_.1)))); (case side4 => exact (vx HO364.out).2.1); rintro e w48 ⟨rfl, hb⟩; refine ⟨_, rfl, ?_⟩; have n0_ := zz (vw (by (with_reducible repeat (first | apply jq | apply jj | apply jw)); exact (vj (Kd.R_far (p := ⟨gb381, 1, none⟩) (Kd.R_far (p := ⟨gb381, 0, none⟩) (Kd.R_types HO358.out BK381.out (by decide)) (fun _ hk => hk.2) (.slice Ao34 t376.length co34)) (fun _ hk => hk.2) (.int .i64 t379)) (fun _ h_ => h_.1))) hb); have n1_ := zz (vw (by (with_reducible repeat (first | apply jq | apply jj | apply jw)); exact (vj (Kd.R_far (p := ⟨gb381, 1, none⟩) (Kd.R_far (p := ⟨gb381, 0, none⟩) (Kd.R_types HO361.out BK381.out (by decide)) (fun _ hk => hk.2) (.slice Ao34 t376.length co34)) (fun _ hk => hk.2) (.int .i64 t379)) (fun _ h_ => h_.1))) hb); have n2_ := zz (vw (by (with_reducible repeat (first | apply jq | apply jj | apply jw)); exact (vj (Kd.R_far (p := ⟨gb381, 1, none⟩) (Kd.R_far (p := ⟨gb381, 0, none⟩) (Kd.R_types HO364.out BK381.out (by decide)) (fun _ hk => hk.2) (.slice Ao34 t376.length co34)) (fun _ hk => hk.2) (.int .i64 t379)) (fun _ h_ => h_.1))) hb); have n3_ := zz (vw (by (with_reducible repeat (first | apply jq | apply jj | apply jw)); exact (vj (Kd.R_far (p := ⟨gb381, 1, none⟩) (Kd.R_far (p := ⟨gb381, 0, none⟩) (Kd.R_types HO371.out BK381.out (by decide)) (fun _ hk => hk.2) (.slice Ao34 t376.length co34)) (fun _ hk => hk.2) (.int .i64 t379)) (fun _ h_ => h_.1))) hb); have n4_ := zz (vw (by (with_reducible repeat (first | apply jq | apply jj | apply jw)); exact (vj (Kd.R_far (p := ⟨gb381, 1, none⟩) (Kd.R_far (p := ⟨gb381, 0, none⟩) (Kd.R_types HO374.out BK381.out (by decide)) (fun _ hk => hk.2) (.slice Ao34 t376.length co34)) (fun _ hk => hk.2) (.int .i64 t379)) (fun _ h_ => h_.1))) hb); have n5_ := zz (vw (by (with_reducible repeat (first | apply jq | apply jj | apply jw)); exact (vj (Kd.R_far (p := ⟨gb381, 1, none⟩) (Kd.R_far (p := ⟨gb381, 0, none⟩) (Kd.R_types HO378.out BK381.out (by decide)) (fun _ hk => hk.2) (.slice Ao34 t376.length co34)) (fun _ hk => hk.2) (.int .i64 t379)) (fun _ h_ => h_.1))) hb); have n6_ := zz (qv (g := gb353) (o := .cells #[.int .i64 a0_0, .slice A0_1 l0_1.length c0_1, .slice A0_2 l0_2.length c0_2] 54 (0, 0)) (by (with_reducible repeat (first | refine qq ?_ _ | refine qj ?_ | refine qz ?_ _)); refine blk_far ?_ NB353_381.out _; (with_reducible repeat (first | refine qq ?_ _ | refine qj ?_ | refine qz ?_ _)); refine blk_far ?_ NB353_381.out _; (with_reducible repeat (first | refine qq ?_ _ | refine qj ?_ | refine qz ?_ _)); exact BK353.out) hb); have n7_ := zz (qv (g := gb367) (o := .cells #[.slice Ao21 t362.length co21, .int .i64 t365] 32 (0, 0)) (by (with_reducible repeat (first | refine qq ?_ _ | refine qj ?_ | refine qz ?_ _)); refine blk_far ?_ NB367_381.out _; (with_reducible repeat (first | refine qq ?_ _ | refine qj ?_ | refine qz ?_ _)); refine blk_far ?_ NB367_381.out _; (with_reducible repeat (first | refine qq ?_ _ | refine qj ?_ | refine qz ?_ _)); exact BK367.out) hb); have n8_ := zz (qv (g := gb375) (o := .cells #[.int .i64 t368, .slice Ao30 t369.length co30, .slice Ao31 t372.length co31] 59 (0, 0)) (by (with_reducible repeat (first | refine qq ?_ _ | refine qj ?_ | refine qz ?_ _)); refine blk_far ?_ NB375_381.out _; (with_reducible repeat (first | refine qq ?_ _ | refine qj ?_ | refine qz ?_ _)); refine blk_far ?_ NB375_381.out _; (with_reducible repeat (first | refine qq ?_ _ | refine qj ?_ | refine qz ?_ _)); exact BK375.out) hb); have n9_ := zz (qv (g := gb381) (o := .cells #[.slice Ao34 t376.length co34, .int .i64 t379] 32 (0, 0)) (by (with_reducible repeat (first | refine qq ?_ _ | refine qj ?_ | refine qz ?_ _)); refine qk (cs := #[.slice Ao34 t376.length co34, .int .i64 0]) ?_ 1 _ rfl; (with_reducible repeat (first | refine qq ?_ _ | refine qj ?_ | refine qz ?_ _)); refine qk (cs := #[.slice none 0 0, .int .i64 0]) ?_ 0 _ rfl; (with_reducible repeat (first | refine qq ?_ _ | refine qj ?_ | refine qz ?_ _)); exact BK381.out) hb); have n10_ := zz (zk (by repeat (first | (with_reducible first | exact HB.out | apply zj | apply zq | apply zw | refine zx ?_ GE353.out | refine zx ?_ GE367.out | refine zx ?_ GE375.out | refine zx ?_ GE381.out) | exact HB.out)) hb); clear HO358; clear HO361; clear HO364; clear HO371; clear HO374; clear HO378; clear BK353; clear BK367; clear BK375; clear BK381; clear HB; have HO358 := n0_; have HO361 := n1_; have HO364 := n2_; have HO371 := n3_; have HO374 := n4_; have HO378 := n5_; have BK353 := n6_; have BK367 := n7_; have BK375 := n8_; have BK381 := n9_; have HB := n10_; clear n0_ n1_ n2_ n3_ n4_ n5_ n6_ n7_ n8_ n9_ n10_; (try clear hb); (try clear hb2); (try clear hk); (try clear hi)))
    go_meet
    case rel => exact ⟨_, ((t380 != t366)), (by first | rfl | (simp; done) | (simp [*]; done)), H', ⟨by first | omega | exact Nat.le_refl _⟩, ⟨by (with_reducible repeat (first | apply jq | apply jj | apply jw)); exact vj HO364.out (fun _ hk => hk.2)⟩, ⟨by (with_reducible repeat (first | apply jq | apply jj | apply jw)); exact vj HO371.out (fun _ hk => trivial)⟩, ⟨by (with_reducible repeat (first | apply jq | apply jj | apply jw)); exact vj HO374.out (fun _ hk => trivial)⟩, ⟨by (with_reducible repeat (first | apply jq | apply jj | apply jw)); exact vj HO378.out (fun _ hk => hk.2)⟩, ⟨by (with_reducible repeat (first | refine qq ?_ _ | refine qj ?_ | refine qz ?_ _)); exact BK353.out⟩, ⟨by (with_reducible repeat (first | refine qq ?_ _ | refine qj ?_ | refine qz ?_ _)); exact BK367.out⟩, ⟨by (with_reducible repeat (first | refine qq ?_ _ | refine qj ?_ | refine qz ?_ _)); exact BK375.out⟩, ⟨by (with_reducible repeat (first | refine qq ?_ _ | refine qj ?_ | refine qz ?_ _)); exact BK381.out⟩, ⟨by repeat (first | (with_reducible first | exact HB.out | apply zj | apply zq | apply zw | refine zx ?_ GE353.out | refine zx ?_ GE367.out | refine zx ?_ GE375.out | refine zx ?_ GE381.out) | exact HB.out)⟩⟩
   ·replace c40 := Bool.eq_false_iff.mpr c40
    subst c40
    have H1 : (laws_FnExactCodeOfPlan.j0 k t366 t380 true a0_0 l0_1 l0_2 t362 t365 t368 t369 t372 t376 t379) = some r := by rw [if_neg (show ¬ (false = true) by decide)] at H; exact H
    clear H
    have H := H1
    clear H1
    have H' := zz H
    clear H
    have hnb49 := NB381_353.out
    have hnc49 := NB353_381.out
    have hnb50 := NB381_367.out
    have hnc50 := NB367_381.out
    have hnb51 := NB381_375.out
    have hnc51 := NB375_381.out
    have hcz52_0 : w33.cell? ⟨gb381, 0, none⟩ = some (.slice none 0 0) := (qw BK381.out 0).trans rfl
    have hcz52_1 : w33.cell? ⟨gb381, 1, none⟩ = some (.int .i64 0) := (qw BK381.out 1).trans rfl
    have hfz52_0 := qx BK381.out 0
    have hfz52_1 := qx BK381.out 1
    have hnb53 := NB367_353.out
    have hnc53 := NB353_367.out
    have hnb54 := NB367_375.out
    have hnc54 := NB375_367.out
    have hcz55_0 : w33.cell? ⟨gb367, 0, none⟩ = some (.slice Ao21 t362.length co21) := (qw BK367.out 0).trans rfl
    have hcz55_1 : w33.cell? ⟨gb367, 1, none⟩ = some (.int .i64 t365) := (qw BK367.out 1).trans rfl
    have hfz55_0 := qx BK367.out 0
    have hfz55_1 := qx BK367.out 1
    go_wp2_with (first | ((with_reducible refine yv (f := 27) rfl ?_); refine kx (some 34) rfl rfl Try.func27 (by kernel_rfl) rfl #[.agg #[.slice Ao34 t376.length co34, .int .i64 t379], .agg #[.slice Ao21 t362.length co21, .int .i64 t365]] rfl (by (try simp only [yw, List.map_cons, List.map_nil]); first | done | rfl | (simp only [yx, yk]; rfl)) ?_; (with_reducible refine (laws_eqCode.calls k _ _ t376 t379 _ _ t362 t365 false _ ?side1 ?side2 ?side3 ?side4 A39.out).mono ?_); (case side1 => refine (vx (e := 109) (base := w.heap.size) (ok := fun k_ => (True ∧ some k_ ≠ (.slice Ao21 t362.length co21 : Value).ownBlock)) (n := t376.length) (c := co34) ?_).2.2; exact (by (with_reducible repeat (first | apply jq | apply jj | apply jw)); exact (vj (Kd.R_far (p := ⟨gb381, 1, none⟩) (Kd.R_far (p := ⟨gb381, 0, none⟩) (Kd.R_types HO378.out BK381.out (by decide)) (fun _ hk => hk.2) (.slice Ao34 t376.length co34)) (fun _ hk => hk.2) (.int .i64 t379)) (fun _ h_ => h_.1)))); (case side2 => exact (vx HO378.out).2.1); (case side3 => refine (vx (e := 109) (base := w.heap.size) (ok := fun k_ => (True ∧ some k_ ≠ (.slice Ao34 t376.length co34 : Value).ownBlock)) (n := t362.length) (c := co21) ?_).2.2; exact (by (with_reducible repeat (first | apply jq | apply jj | apply jw)); exact (vj (Kd.R_far (p := ⟨gb381, 1, none⟩) (Kd.R_far (p := ⟨gb381, 0, none⟩) (Kd.R_types HO364.out BK381.out (by decide)) (fun _ hk => hk.2) (.slice Ao34 t376.length co34)) (fun _ hk => hk.2) (.int .i64 t379)) (fun _ h_ => h_.1)))); (case side4 => exact (vx HO364.out).2.1); rintro e w56 ⟨rfl, hb⟩; refine ⟨_, rfl, ?_⟩; have n0_ := zz (vw (by (with_reducible repeat (first | apply jq | apply jj | apply jw)); exact (vj (Kd.R_far (p := ⟨gb381, 1, none⟩) (Kd.R_far (p := ⟨gb381, 0, none⟩) (Kd.R_types HO358.out BK381.out (by decide)) (fun _ hk => hk.2) (.slice Ao34 t376.length co34)) (fun _ hk => hk.2) (.int .i64 t379)) (fun _ h_ => h_.1))) hb); have n1_ := zz (vw (by (with_reducible repeat (first | apply jq | apply jj | apply jw)); exact (vj (Kd.R_far (p := ⟨gb381, 1, none⟩) (Kd.R_far (p := ⟨gb381, 0, none⟩) (Kd.R_types HO361.out BK381.out (by decide)) (fun _ hk => hk.2) (.slice Ao34 t376.length co34)) (fun _ hk => hk.2) (.int .i64 t379)) (fun _ h_ => h_.1))) hb); have n2_ := zz (vw (by (with_reducible repeat (first | apply jq | apply jj | apply jw)); exact (vj (Kd.R_far (p := ⟨gb381, 1, none⟩) (Kd.R_far (p := ⟨gb381, 0, none⟩) (Kd.R_types HO364.out BK381.out (by decide)) (fun _ hk => hk.2) (.slice Ao34 t376.length co34)) (fun _ hk => hk.2) (.int .i64 t379)) (fun _ h_ => h_.1))) hb); have n3_ := zz (vw (by (with_reducible repeat (first | apply jq | apply jj | apply jw)); exact (vj (Kd.R_far (p := ⟨gb381, 1, none⟩) (Kd.R_far (p := ⟨gb381, 0, none⟩) (Kd.R_types HO371.out BK381.out (by decide)) (fun _ hk => hk.2) (.slice Ao34 t376.length co34)) (fun _ hk => hk.2) (.int .i64 t379)) (fun _ h_ => h_.1))) hb); have n4_ := zz (vw (by (with_reducible repeat (first | apply jq | apply jj | apply jw)); exact (vj (Kd.R_far (p := ⟨gb381, 1, none⟩) (Kd.R_far (p := ⟨gb381, 0, none⟩) (Kd.R_types HO374.out BK381.out (by decide)) (fun _ hk => hk.2) (.slice Ao34 t376.length co34)) (fun _ hk => hk.2) (.int .i64 t379)) (fun _ h_ => h_.1))) hb); have n5_ := zz (vw (by (with_reducible repeat (first | apply jq | apply jj | apply jw)); exact (vj (Kd.R_far (p := ⟨gb381, 1, none⟩) (Kd.R_far (p := ⟨gb381, 0, none⟩) (Kd.R_types HO378.out BK381.out (by decide)) (fun _ hk => hk.2) (.slice Ao34 t376.length co34)) (fun _ hk => hk.2) (.int .i64 t379)) (fun _ h_ => h_.1))) hb); have n6_ := zz (qv (g := gb353) (o := .cells #[.int .i64 a0_0, .slice A0_1 l0_1.length c0_1, .slice A0_2 l0_2.length c0_2] 54 (0, 0)) (by (with_reducible repeat (first | refine qq ?_ _ | refine qj ?_ | refine qz ?_ _)); refine blk_far ?_ NB353_381.out _; (with_reducible repeat (first | refine qq ?_ _ | refine qj ?_ | refine qz ?_ _)); refine blk_far ?_ NB353_381.out _; (with_reducible repeat (first | refine qq ?_ _ | refine qj ?_ | refine qz ?_ _)); exact BK353.out) hb); have n7_ := zz (qv (g := gb367) (o := .cells #[.slice Ao21 t362.length co21, .int .i64 t365] 32 (0, 0)) (by (with_reducible repeat (first | refine qq ?_ _ | refine qj ?_ | refine qz ?_ _)); refine blk_far ?_ NB367_381.out _; (with_reducible repeat (first | refine qq ?_ _ | refine qj ?_ | refine qz ?_ _)); refine blk_far ?_ NB367_381.out _; (with_reducible repeat (first | refine qq ?_ _ | refine qj ?_ | refine qz ?_ _)); exact BK367.out) hb); have n8_ := zz (qv (g := gb375) (o := .cells #[.int .i64 t368, .slice Ao30 t369.length co30, .slice Ao31 t372.length co31] 59 (0, 0)) (by (with_reducible repeat (first | refine qq ?_ _ | refine qj ?_ | refine qz ?_ _)); refine blk_far ?_ NB375_381.out _; (with_reducible repeat (first | refine qq ?_ _ | refine qj ?_ | refine qz ?_ _)); refine blk_far ?_ NB375_381.out _; (with_reducible repeat (first | refine qq ?_ _ | refine qj ?_ | refine qz ?_ _)); exact BK375.out) hb); have n9_ := zz (qv (g := gb381) (o := .cells #[.slice Ao34 t376.length co34, .int .i64 t379] 32 (0, 0)) (by (with_reducible repeat (first | refine qq ?_ _ | refine qj ?_ | refine qz ?_ _)); refine qk (cs := #[.slice Ao34 t376.length co34, .int .i64 0]) ?_ 1 _ rfl; (with_reducible repeat (first | refine qq ?_ _ | refine qj ?_ | refine qz ?_ _)); refine qk (cs := #[.slice none 0 0, .int .i64 0]) ?_ 0 _ rfl; (with_reducible repeat (first | refine qq ?_ _ | refine qj ?_ | refine qz ?_ _)); exact BK381.out) hb); have n10_ := zz (zk (by repeat (first | (with_reducible first | exact HB.out | apply zj | apply zq | apply zw | refine zx ?_ GE353.out | refine zx ?_ GE367.out | refine zx ?_ GE375.out | refine zx ?_ GE381.out) | exact HB.out)) hb); clear HO358; clear HO361; clear HO364; clear HO371; clear HO374; clear HO378; clear BK353; clear BK367; clear BK375; clear BK381; clear HB; have HO358 := n0_; have HO361 := n1_; have HO364 := n2_; have HO371 := n3_; have HO374 := n4_; have HO378 := n5_; have BK353 := n6_; have BK367 := n7_; have BK375 := n8_; have BK381 := n9_; have HB := n10_; clear n0_ n1_ n2_ n3_ n4_ n5_ n6_ n7_ n8_ n9_ n10_; (try clear hb); (try clear hb2); (try clear hk); (try clear hi)))
    go_meet
    case rel => exact ⟨_, (true), (by first | rfl | (simp; done) | (simp [*]; done)), H', ⟨by first | omega | exact Nat.le_refl _⟩, ⟨by (with_reducible repeat (first | apply jq | apply jj | apply jw)); exact vj HO364.out (fun _ hk => hk.2)⟩, ⟨by (with_reducible repeat (first | apply jq | apply jj | apply jw)); exact vj HO371.out (fun _ hk => trivial)⟩, ⟨by (with_reducible repeat (first | apply jq | apply jj | apply jw)); exact vj HO374.out (fun _ hk => trivial)⟩, ⟨by (with_reducible repeat (first | apply jq | apply jj | apply jw)); exact vj HO378.out (fun _ hk => hk.2)⟩, ⟨by (with_reducible repeat (first | refine qq ?_ _ | refine qj ?_ | refine qz ?_ _)); exact BK353.out⟩, ⟨by (with_reducible repeat (first | refine qq ?_ _ | refine qj ?_ | refine qz ?_ _)); exact BK367.out⟩, ⟨by (with_reducible repeat (first | refine qq ?_ _ | refine qj ?_ | refine qz ?_ _)); exact BK375.out⟩, ⟨by (with_reducible repeat (first | refine qq ?_ _ | refine qj ?_ | refine qz ?_ _)); exact BK381.out⟩, ⟨by repeat (first | (with_reducible first | exact HB.out | apply zj | apply zq | apply zw | refine zx ?_ GE353.out | refine zx ?_ GE367.out | refine zx ?_ GE375.out | refine zx ?_ GE381.out) | exact HB.out)⟩⟩
  case rest =>
   clear HC11
   try clear c2
   try clear p2
   try clear c3
   try clear c3b0
   try clear c4
   try clear c5
   try clear c6
   try clear c22
   try clear c27
   try clear c28
   try clear c35
   try clear c36
   try clear c37
   try clear c38
   try clear c39
   try clear c40
   try clear c41
   try clear c42
   try clear c43
   try clear c45
   try clear c46
   try clear c49
   try clear c50
   try clear c51
   try clear c53
   try clear c54
   try clear hcz13_0
   try clear hcz13_1
   try clear hcz13_2
   try clear hcz15_0
   try clear hcz15_1
   try clear hcz15_2
   try clear hcz23_0
   try clear hcz23_1
   try clear hcz24_0
   try clear hcz24_1
   try clear hcz24_2
   try clear hcz29_0
   try clear hcz29_1
   try clear hcz29_2
   try clear hcz38_0
   try clear hcz38_1
   try clear hcz44_0
   try clear hcz44_1
   try clear hcz47_0
   try clear hcz47_1
   try clear hcz52_0
   try clear hcz52_1
   try clear hcz55_0
   try clear hcz55_1
   try clear hcz5_0
   try clear hcz5_1
   try clear hcz5_2
   try clear hfz13_0
   try clear hfz13_1
   try clear hfz13_2
   try clear hfz15_0
   try clear hfz15_1
   try clear hfz15_2
   try clear hfz23_0
   try clear hfz23_1
   try clear hfz24_0
   try clear hfz24_1
   try clear hfz24_2
   try clear hfz29_0
   try clear hfz29_1
   try clear hfz29_2
   try clear hfz38_0
   try clear hfz38_1
   try clear hfz44_0
   try clear hfz44_1
   try clear hfz47_0
   try clear hfz47_1
   try clear hfz52_0
   try clear hfz52_1
   try clear hfz55_0
   try clear hfz55_1
   try clear hfz5_0
   try clear hfz5_1
   try clear hfz5_2
   obtain ⟨kq, x40_10, rfl, HA, HJ10, HO_368000, HO_376001, HO_376002, HO_382000, BK353, BK367, BK375, BK381, HB⟩ := hcut
   cases kq with
   | zero => exact absurd HA.out (by simp [laws_FnExactCodeOfPlan.j0])
   | succ kj10 =>
    have H := HA.out
    clear HA
    simp only [laws_FnExactCodeOfPlan.j0] at H
    by_cases c57 : x40_10 = true
    ·subst c57
     have H1 : (some false) = some r := by rw [if_pos rfl] at H; exact H
     clear H
     have H := H1
     clear H1
     obtain rfl := Option.some.inj H
     go_wp2
     go_ret
     exact ⟨by first | rfl | (simp [errW_none, errW_some] <;> rfl) | (simp [*, errW_none, errW_some] <;> rfl), by repeat (first | (with_reducible first | exact HB.out | apply zj | apply zq | apply zw | refine zx ?_ GE353.out | refine zx ?_ GE367.out | refine zx ?_ GE375.out | refine zx ?_ GE381.out) | exact HB.out)⟩
    ·replace c57 := Bool.eq_false_iff.mpr c57
     subst c57
     have H1 : ((laws_toPlan.f kj10 a0_0 l0_1 l0_2).bind fun bt383 => ((laws_eqPlan.f kj10 t368 t369 t372 bt383.1 bt383.2.1 bt383.2.2).bind fun t390 => (if t390 = true then ((laws_markPlan.f kj10 t368 t369 t372 1).bind fun bt391 => (if bt391.1 < 0 then (laws_FnExactCodeOfPlan.j1 kj10 t366 true a0_0 l0_1 l0_2 t362 t365 t376 t379) else ((laws_eqCode.f kj10 t376 t379 t362 t365).bind fun t394 => (if t394 = true then (laws_FnExactCodeOfPlan.j1 kj10 t366 (t380 != t366) a0_0 l0_1 l0_2 t362 t365 t376 t379) else (laws_FnExactCodeOfPlan.j1 kj10 t366 true a0_0 l0_1 l0_2 t362 t365 t376 t379))))) else (some false)))) = some r := by rw [if_neg (show ¬ (false = true) by decide)] at H; exact H
     clear H
     have H := H1
     clear H1
     replace H := Option.bind_eq_some_iff.mp H
     obtain ⟨⟨t383, t384, t387⟩, A580, H⟩ := H
     replace H : ((laws_eqPlan.f kj10 t368 t369 t372 t383 t384 t387).bind fun t390 => (if t390 = true then ((laws_markPlan.f kj10 t368 t369 t372 1).bind fun bt391 => (if bt391.1 < 0 then (laws_FnExactCodeOfPlan.j1 kj10 t366 true a0_0 l0_1 l0_2 t362 t365 t376 t379) else ((laws_eqCode.f kj10 t376 t379 t362 t365).bind fun t394 => (if t394 = true then (laws_FnExactCodeOfPlan.j1 kj10 t366 (t380 != t366) a0_0 l0_1 l0_2 t362 t365 t376 t379) else (laws_FnExactCodeOfPlan.j1 kj10 t366 true a0_0 l0_1 l0_2 t362 t365 t376 t379))))) else (some false))) = some r := H
     have A58 := zz A580
     clear A580
     replace H := Option.bind_eq_some_iff.mp H
     obtain ⟨t390, A590, H⟩ := H
     replace H : (if t390 = true then ((laws_markPlan.f kj10 t368 t369 t372 1).bind fun bt391 => (if bt391.1 < 0 then (laws_FnExactCodeOfPlan.j1 kj10 t366 true a0_0 l0_1 l0_2 t362 t365 t376 t379) else ((laws_eqCode.f kj10 t376 t379 t362 t365).bind fun t394 => (if t394 = true then (laws_FnExactCodeOfPlan.j1 kj10 t366 (t380 != t366) a0_0 l0_1 l0_2 t362 t365 t376 t379) else (laws_FnExactCodeOfPlan.j1 kj10 t366 true a0_0 l0_1 l0_2 t362 t365 t376 t379))))) else (some false)) = some r := H
     have A59 := zz A590
     clear A590
     by_cases c60 : t390 = true
     ·subst c60
      have H1 : ((laws_markPlan.f kj10 t368 t369 t372 1).bind fun bt391 => (if bt391.1 < 0 then (laws_FnExactCodeOfPlan.j1 kj10 t366 true a0_0 l0_1 l0_2 t362 t365 t376 t379) else ((laws_eqCode.f kj10 t376 t379 t362 t365).bind fun t394 => (if t394 = true then (laws_FnExactCodeOfPlan.j1 kj10 t366 (t380 != t366) a0_0 l0_1 l0_2 t362 t365 t376 t379) else (laws_FnExactCodeOfPlan.j1 kj10 t366 true a0_0 l0_1 l0_2 t362 t365 t376 t379))))) = some r := by rw [if_pos rfl] at H; exact H
      clear H
      have H := H1
      clear H1
      replace H := Option.bind_eq_some_iff.mp H
      obtain ⟨⟨t391, t392, t393⟩, A610, H⟩ := H
      replace H : (if t391 < 0 then (laws_FnExactCodeOfPlan.j1 kj10 t366 true a0_0 l0_1 l0_2 t362 t365 t376 t379) else ((laws_eqCode.f kj10 t376 t379 t362 t365).bind fun t394 => (if t394 = true then (laws_FnExactCodeOfPlan.j1 kj10 t366 (t380 != t366) a0_0 l0_1 l0_2 t362 t365 t376 t379) else (laws_FnExactCodeOfPlan.j1 kj10 t366 true a0_0 l0_1 l0_2 t362 t365 t376 t379)))) = some r := H
      have A61 := zz A610
      clear A610
      have HC62 := zz H
      clear H
      try go_wp2
      have n0_ := zz (jw HO_368000.out)
      have n1_ := zz (jw HO_376001.out)
      have n2_ := zz (jw HO_376002.out)
      have n3_ := zz (jw HO_382000.out)
      have n4_ := zz (qj BK353.out)
      have n5_ := zz (qj BK367.out)
      have n6_ := zz (qj BK375.out)
      have n7_ := zz (qj BK381.out)
      have n8_ := zz (zw HB.out)
      clear HO_368000
      clear HO_376001
      clear HO_376002
      clear HO_382000
      clear BK353
      clear BK367
      clear BK375
      clear BK381
      clear HB
      have HO_368000 := n0_
      have HO_376001 := n1_
      have HO_376002 := n2_
      have HO_382000 := n3_
      have BK353 := n4_
      have BK367 := n5_
      have BK375 := n6_
      have BK381 := n7_
      have HB := n8_
      clear n0_ n1_ n2_ n3_ n4_ n5_ n6_ n7_ n8_
      refine start_ (n := 5) (S := fun w' => w'.cell? ⟨gb375, 0, none⟩ = some (.int .i64 t368) ∧ w'.cell? ⟨gb375, 1, none⟩ = some (.slice Ao30 t369.length co30) ∧ w'.cell? ⟨gb375, 2, none⟩ = some (.slice Ao31 t372.length co31) ∧ w'.cell? ⟨gb353, 0, none⟩ = some (.int .i64 a0_0) ∧ w'.cell? ⟨gb353, 1, none⟩ = some (.slice A0_1 l0_1.length c0_1) ∧ w'.cell? ⟨gb353, 2, none⟩ = some (.slice A0_2 l0_2.length c0_2)) (ds := []) #[false, false, false, false, false] (by kernel_rfl) rfl rfl ⟨(qw BK375.out 0).trans rfl, (qw BK375.out 1).trans rfl, (qw BK375.out 2).trans rfl, (qw BK353.out 0).trans rfl, (qw BK353.out 1).trans rfl, (qw BK353.out 2).trans rfl⟩ (fun hHeld => ?_)
      generalize wc.drew = w63 at HO_368000 HO_376001 HO_376002 HO_382000 BK353 BK367 BK375 BK381 HB hHeld ⊢
      refine take_ (i := 0) (N := some 41) (v := ?_) (a' := ?_) #[true, false, false, false, false] rfl rfl (by kernel_rfl) (fun _ _ _ h => h) (Or.inl ⟨by rfl, ?_⟩) hHeld ?_ ?_
      rotate_left
      ·rintro w' ⟨s0, s1, s2, s3, s4, s5⟩
       go_simp
       with_reducible rfl
      rotate_left
      ·simp only [Act.put, jz, yq, yj, kk, kv]
       rfl
      refine take_ (i := 1) (N := some 42) (v := ?_) (a' := ?_) #[true, true, false, false, false] rfl rfl (by kernel_rfl) (fun _ _ _ h => h) (Or.inl ⟨by rfl, ?_⟩) hHeld ?_ ?_
      rotate_left
      ·rintro w' ⟨s0, s1, s2, s3, s4, s5⟩
       go_simp
       with_reducible rfl
      rotate_left
      ·simp only [Act.put, jz, yq, yj, kk, kv]
       rfl
      refine one_ (i := 2) (N := some 43) #[true, true, true, false, false] rfl rfl (by kernel_rfl) (by decide) (fun K hK => ?_)
      refine goes_ Try.func38 (by kernel_rfl) rfl #[.agg #[.int .i64 a0_0, .slice A0_1 l0_1.length c0_1, .slice A0_2 l0_2.length c0_2]] (by rfl) rfl rfl (by (try simp only [yw, List.map_cons, List.map_nil]); first | done | rfl | (simp only [yx, yk]; rfl)) ?_
      with_reducible refine (laws_toPlan.calls kj10 a0_0 _ _ l0_1 _ _ l0_2 t383 t384 t387 _ ?side1 ?side2 ?side3 ?side4 A58.out).mono ?_
      (case side1 => repeat (first | exact (yz HR0_1.out HB.out) | (with_reducible refine jx ?_ _) | (with_reducible refine jk ?_ _) | (with_reducible refine jv ?_)))
      (case side2 => exact HC0_1.out)
      (case side3 => repeat (first | exact (yz HR0_2.out HB.out) | (with_reducible refine jx ?_ _) | (with_reducible refine jk ?_ _) | (with_reducible refine jv ?_)))
      (case side4 => exact HC0_2.out)
      rintro e w64 ⟨v385, v388, rfl, ho0, ho1, hb⟩
      refine ⟨_, rfl, ?_⟩
      have n0_ := zz (vw (by (with_reducible repeat (first | apply jq | apply jj | apply jw)); exact HO_368000.out) hb)
      have n1_ := zz (Kd.R_elder' (by (with_reducible repeat (first | apply jq | apply jj | apply jw)); exact HO_376001.out) (Kd.R_base ho0) hb)
      have n2_ := zz (Kd.R_elder' (by (with_reducible repeat (first | apply jq | apply jj | apply jw)); exact HO_376002.out) (Kd.R_base ho1) hb)
      have n3_ := zz (vw (by (with_reducible repeat (first | apply jq | apply jj | apply jw)); exact HO_382000.out) hb)
      have n4_ := zz (Kd.R_lower (Kd.R_new' ho0 (Kd.R_lt (by (with_reducible repeat (first | apply jq | apply jj | apply jw)); exact HO_376001.out))) (zv (by repeat (first | (with_reducible first | exact HB.out | apply zj | apply zq | apply zw | refine zx ?_ GE353.out | refine zx ?_ GE367.out | refine zx ?_ GE375.out | refine zx ?_ GE381.out) | exact HB.out))))
      have n5_ := zz (Kd.R_lower (Kd.R_new' ho1 (Kd.R_lt (by (with_reducible repeat (first | apply jq | apply jj | apply jw)); exact HO_376002.out))) (zv (by repeat (first | (with_reducible first | exact HB.out | apply zj | apply zq | apply zw | refine zx ?_ GE353.out | refine zx ?_ GE367.out | refine zx ?_ GE375.out | refine zx ?_ GE381.out) | exact HB.out))))
      have n6_ := zz (qv (g := gb353) (o := .cells #[.int .i64 a0_0, .slice A0_1 l0_1.length c0_1, .slice A0_2 l0_2.length c0_2] 54 (0, 0)) (by (with_reducible repeat (first | refine qq ?_ _ | refine qj ?_ | refine qz ?_ _)); exact BK353.out) hb)
      have n7_ := zz (qv (g := gb367) (o := .cells #[.slice Ao21 t362.length co21, .int .i64 t365] 32 (0, 0)) (by (with_reducible repeat (first | refine qq ?_ _ | refine qj ?_ | refine qz ?_ _)); exact BK367.out) hb)
      have n8_ := zz (qv (g := gb375) (o := .cells #[.int .i64 t368, .slice Ao30 t369.length co30, .slice Ao31 t372.length co31] 59 (0, 0)) (by (with_reducible repeat (first | refine qq ?_ _ | refine qj ?_ | refine qz ?_ _)); exact BK375.out) hb)
      have n9_ := zz (qv (g := gb381) (o := .cells #[.slice Ao34 t376.length co34, .int .i64 t379] 32 (0, 0)) (by (with_reducible repeat (first | refine qq ?_ _ | refine qj ?_ | refine qz ?_ _)); exact BK381.out) hb)
      have n10_ := zz (zk (by repeat (first | (with_reducible first | exact HB.out | apply zj | apply zq | apply zw | refine zx ?_ GE353.out | refine zx ?_ GE367.out | refine zx ?_ GE375.out | refine zx ?_ GE381.out) | exact HB.out)) hb)
      clear HO_368000
      clear HO_376001
      clear HO_376002
      clear HO_382000
      clear BK353
      clear BK367
      clear BK375
      clear BK381
      clear HB
      have HO_368000 := n0_
      have HO_376001 := n1_
      have HO_376002 := n2_
      have HO_382000 := n3_
      have HO386 := n4_
      have HO389 := n5_
      have BK353 := n6_
      have BK367 := n7_
      have BK375 := n8_
      have BK381 := n9_
      have HB := n10_
      clear n0_ n1_ n2_ n3_ n4_ n5_ n6_ n7_ n8_ n9_ n10_
      (try clear hb)
      (try clear hb2)
      (try clear hk)
      (try clear hi)
      (try clear ho0)
      (try clear ho1)
      obtain ⟨Ao65, co65, eo65⟩ := vk HO386.out
      (first | subst eo65 | (injection eo65 with f1_ f2_ f3_; have f4_ := f1_.symm; have f5_ := f3_.symm; clear f1_ f2_ f3_; subst f4_; subst f5_))
      obtain ⟨Ao66, co66, eo66⟩ := vk HO389.out
      (first | subst eo66 | (injection eo66 with f1_ f2_ f3_; have f4_ := f1_.symm; have f5_ := f3_.symm; clear f1_ f2_ f3_; subst f4_; subst f5_))
      refine hK.out _ _ ⟨(qw BK375.out 0).trans rfl, (qw BK375.out 1).trans rfl, (qw BK375.out 2).trans rfl, (qw BK353.out 0).trans rfl, (qw BK353.out 1).trans rfl, (qw BK353.out 2).trans rfl⟩ (fun hHeld => ?_)
      clear hK K
      refine norm_ (a' := ?_) ?_ ?_
      rotate_left
      ·show Act.put _ (some 43) _ = _
       simp only [Act.put, jz, yq, yj, kk, kv]
       rfl
      refine one_ (i := 3) (N := some 44) #[true, true, true, true, false] rfl rfl (by kernel_rfl) (by decide) (fun K hK => ?_)
      refine goes_ Try.func40 (by kernel_rfl) rfl #[.agg #[.int .i64 t368, .slice Ao30 t369.length co30, .slice Ao31 t372.length co31], .agg #[.int .i64 t383, .slice Ao65 t384.length co65, .slice Ao66 t387.length co66]] (by rfl) rfl rfl (by (try simp only [yw, List.map_cons, List.map_nil]); first | done | rfl | (simp only [yx, yk]; rfl)) ?_
      with_reducible refine (laws_eqPlan.calls kj10 t368 _ _ t369 _ _ t372 t383 _ _ t384 _ _ t387 true _ ?side1 ?side2 ?side3 ?side4 ?side5 ?side6 ?side7 ?side8 A59.out).mono ?_
      (case side1 => repeat (first | exact (vx HO_376001.out).2.2 | (with_reducible refine jx ?_ _) | (with_reducible refine jk ?_ _) | (with_reducible refine jv ?_)))
      (case side2 => exact (vx HO_376001.out).2.1)
      (case side3 => repeat (first | exact (vx HO_376002.out).2.2 | (with_reducible refine jx ?_ _) | (with_reducible refine jk ?_ _) | (with_reducible refine jv ?_)))
      (case side4 => exact (vx HO_376002.out).2.1)
      (case side5 => repeat (first | exact (vx HO386.out).2.2 | (with_reducible refine jx ?_ _) | (with_reducible refine jk ?_ _) | (with_reducible refine jv ?_)))
      (case side6 => exact (vx HO386.out).2.1)
      (case side7 => repeat (first | exact (vx HO389.out).2.2 | (with_reducible refine jx ?_ _) | (with_reducible refine jk ?_ _) | (with_reducible refine jv ?_)))
      (case side8 => exact (vx HO389.out).2.1)
      rintro e w67 ⟨rfl, hb⟩
      refine ⟨_, rfl, ?_⟩
      have n0_ := zz (vw (by (with_reducible repeat (first | apply jq | apply jj | apply jw)); exact HO_368000.out) hb)
      have n1_ := zz (vw (by (with_reducible repeat (first | apply jq | apply jj | apply jw)); exact HO_376001.out) hb)
      have n2_ := zz (vw (by (with_reducible repeat (first | apply jq | apply jj | apply jw)); exact HO_376002.out) hb)
      have n3_ := zz (vw (by (with_reducible repeat (first | apply jq | apply jj | apply jw)); exact HO_382000.out) hb)
      have n4_ := zz (vw (by (with_reducible repeat (first | apply jq | apply jj | apply jw)); exact HO386.out) hb)
      have n5_ := zz (vw (by (with_reducible repeat (first | apply jq | apply jj | apply jw)); exact HO389.out) hb)
      have n6_ := zz (qv (g := gb353) (o := .cells #[.int .i64 a0_0, .slice A0_1 l0_1.length c0_1, .slice A0_2 l0_2.length c0_2] 54 (0, 0)) (by (with_reducible repeat (first | refine qq ?_ _ | refine qj ?_ | refine qz ?_ _)); exact BK353.out) hb)
      have n7_ := zz (qv (g := gb367) (o := .cells #[.slice Ao21 t362.length co21, .int .i64 t365] 32 (0, 0)) (by (with_reducible repeat (first | refine qq ?_ _ | refine qj ?_ | refine qz ?_ _)); exact BK367.out) hb)
      have n8_ := zz (qv (g := gb375) (o := .cells #[.int .i64 t368, .slice Ao30 t369.length co30, .slice Ao31 t372.length co31] 59 (0, 0)) (by (with_reducible repeat (first | refine qq ?_ _ | refine qj ?_ | refine qz ?_ _)); exact BK375.out) hb)
      have n9_ := zz (qv (g := gb381) (o := .cells #[.slice Ao34 t376.length co34, .int .i64 t379] 32 (0, 0)) (by (with_reducible repeat (first | refine qq ?_ _ | refine qj ?_ | refine qz ?_ _)); exact BK381.out) hb)
      have n10_ := zz (zk (by repeat (first | (with_reducible first | exact HB.out | apply zj | apply zq | apply zw | refine zx ?_ GE353.out | refine zx ?_ GE367.out | refine zx ?_ GE375.out | refine zx ?_ GE381.out) | exact HB.out)) hb)
      clear HO_368000
      clear HO_376001
      clear HO_376002
      clear HO_382000
      clear HO386
      clear HO389
      clear BK353
      clear BK367
      clear BK375
      clear BK381
      clear HB
      have HO_368000 := n0_
      have HO_376001 := n1_
      have HO_376002 := n2_
      have HO_382000 := n3_
      have HO386 := n4_
      have HO389 := n5_
      have BK353 := n6_
      have BK367 := n7_
      have BK375 := n8_
      have BK381 := n9_
      have HB := n10_
      clear n0_ n1_ n2_ n3_ n4_ n5_ n6_ n7_ n8_ n9_ n10_
      (try clear hb)
      (try clear hb2)
      (try clear hk)
      (try clear hi)
      refine hK.out _ _ ⟨(qw BK375.out 0).trans rfl, (qw BK375.out 1).trans rfl, (qw BK375.out 2).trans rfl, (qw BK353.out 0).trans rfl, (qw BK353.out 1).trans rfl, (qw BK353.out 2).trans rfl⟩ (fun hHeld => ?_)
      clear hK K
      refine norm_ (a' := ?_) ?_ ?_
      rotate_left
      ·show Act.put _ (some 44) _ = _
       simp only [Act.put, jz, yq, yj, kk, kv]
       rfl
      refine pure_ (i := 4) (N := some 45) (v := ?_) (a' := ?_) #[true, true, true, true, true] rfl rfl (by kernel_rfl) (fun _ _ _ h => h) (Or.inl ⟨by rfl, ?_⟩) ?_ ?_
      rotate_left
      ·intro w'
       go_simp
       with_reducible rfl
      rotate_left
      ·simp only [Act.put, jz, yq, yj, kk, kv]
       rfl
      refine done_ (by kernel_rfl) ?_
      have hnb68 := NB375_353.out
      have hnc68 := NB353_375.out
      have hnb69 := NB375_367.out
      have hnc69 := NB367_375.out
      have hnb70 := NB375_381.out
      have hnc70 := NB381_375.out
      have hcz71_0 : w67.cell? ⟨gb375, 0, none⟩ = some (.int .i64 t368) := (qw BK375.out 0).trans rfl
      have hcz71_1 : w67.cell? ⟨gb375, 1, none⟩ = some (.slice Ao30 t369.length co30) := (qw BK375.out 1).trans rfl
      have hcz71_2 : w67.cell? ⟨gb375, 2, none⟩ = some (.slice Ao31 t372.length co31) := (qw BK375.out 2).trans rfl
      have hfz71_0 := qx BK375.out 0
      have hfz71_1 := qx BK375.out 1
      have hfz71_2 := qx BK375.out 2
      go_upto_region 14 with (first | ((with_reducible refine yv (f := 41) rfl ?_); refine kx (some 48) rfl rfl Try.func41 (by kernel_rfl) rfl #[.agg #[.int .i64 t368, .slice Ao30 t369.length co30, .slice Ao31 t372.length co31], .int .i64 1] rfl (by (try simp only [yw, List.map_cons, List.map_nil]); first | done | rfl | (simp only [yx, yk]; rfl)) ?_; (with_reducible refine (laws_markPlan.calls kj10 t368 (fun k_ => some k_ = (.slice Ao30 t369.length co30 : Value).ownBlock) (.slice Ao30 t369.length co30) t369 (fun k_ => some k_ = (.slice Ao31 t372.length co31 : Value).ownBlock) (.slice Ao31 t372.length co31) t372 1 t391 t392 t393 w _ ?side1 ?side2 ?side3 A61.out).mono ?_); (case side1 => repeat (first | (with_reducible first | exact HB.out | apply zj | apply zq | apply zw | refine zx ?_ GE353.out | refine zx ?_ GE367.out | refine zx ?_ GE375.out | refine zx ?_ GE381.out) | exact HB.out)); (case side2 => exact kw rfl HO_376001.out); (case side3 => exact kw rfl HO_376002.out); rintro e w72 ⟨rfl, hy0, hy1, hb, hkp⟩; refine ⟨_, rfl, ?_⟩; have n0_ := zz (vj (ok' := fun k_ => some k_ ≠ (.slice Ao34 t376.length co34 : Value).ownBlock) (Kd.R_keptB ((kj (kj HO_368000.out (Kd.R_typed HO_376001.out) (by decide)) (Kd.R_typed HO_376002.out) (by decide))) hkp (fun k_ hk_ hs_ => Or.elim hs_ (fun e_ => (hk_.1.2) e_) (fun e_ => (hk_.2) e_))) (fun k_ hk_ => hk_.1.1.1)); have n1_ := zz (Kd.R_reok rfl hy0 (fun k_ e_ => HO_376001.out.1 k_ e_)); have n2_ := zz (Kd.R_reok rfl hy1 (fun k_ e_ => HO_376002.out.1 k_ e_)); have n3_ := zz (vj (ok' := fun k_ => some k_ ≠ (.slice Ao21 t362.length co21 : Value).ownBlock) (Kd.R_keptB ((kj (kj HO_382000.out (Kd.R_typed HO_376001.out) (by decide)) (Kd.R_typed HO_376002.out) (by decide))) hkp (fun k_ hk_ hs_ => Or.elim hs_ (fun e_ => (hk_.1.2) e_) (fun e_ => (hk_.2) e_))) (fun k_ hk_ => hk_.1.1.1)); have n4_ := zz (blk_kept (by (with_reducible repeat (first | refine qq ?_ _ | refine qj ?_ | refine qz ?_ _)); exact BK353.out) hkp (fun hs_ => Or.elim hs_ (fun e_ => (fun e_ => (Kd.R_ne HO_376001.out BK353.out (by decide)) e_) e_) (fun e_ => (fun e_ => (Kd.R_ne HO_376002.out BK353.out (by decide)) e_) e_))); have n5_ := zz (blk_kept (by (with_reducible repeat (first | refine qq ?_ _ | refine qj ?_ | refine qz ?_ _)); exact BK367.out) hkp (fun hs_ => Or.elim hs_ (fun e_ => (fun e_ => (Kd.R_ne HO_376001.out BK367.out (by decide)) e_) e_) (fun e_ => (fun e_ => (Kd.R_ne HO_376002.out BK367.out (by decide)) e_) e_))); have n6_ := zz (blk_kept (by (with_reducible repeat (first | refine qq ?_ _ | refine qj ?_ | refine qz ?_ _)); exact BK375.out) hkp (fun hs_ => Or.elim hs_ (fun e_ => (fun e_ => (Kd.R_ne HO_376001.out BK375.out (by decide)) e_) e_) (fun e_ => (fun e_ => (Kd.R_ne HO_376002.out BK375.out (by decide)) e_) e_))); have n7_ := zz (blk_kept (by (with_reducible repeat (first | refine qq ?_ _ | refine qj ?_ | refine qz ?_ _)); exact BK381.out) hkp (fun hs_ => Or.elim hs_ (fun e_ => (fun e_ => (Kd.R_ne HO_376001.out BK381.out (by decide)) e_) e_) (fun e_ => (fun e_ => (Kd.R_ne HO_376002.out BK381.out (by decide)) e_) e_))); have n8_ := zz (vj (ok' := fun k_ => some k_ ≠ (.slice Ao30 t369.length co30 : Value).ownBlock) (Kd.R_keptB ((kj HO386.out (Kd.R_typed HO_376002.out) (by decide))) hkp (fun k_ hk_ hs_ => Or.elim hs_ (fun e_ => (hk_.1.2) e_) (fun e_ => (hk_.2) e_))) (fun k_ hk_ => hk_.1.1.2)); have n9_ := zz (vj (ok' := fun k_ => some k_ ≠ (.slice Ao31 t372.length co31 : Value).ownBlock) (Kd.R_keptB ((kj HO389.out (Kd.R_typed HO_376001.out) (by decide))) hkp (fun k_ hk_ hs_ => Or.elim hs_ (fun e_ => (hk_.2) e_) (fun e_ => (hk_.1.2) e_))) (fun k_ hk_ => hk_.1.1.2)); have n10_ := zz (hb); clear HO_368000; clear HO_376001; clear HO_376002; clear HO_382000; clear BK353; clear BK367; clear BK375; clear BK381; clear HO386; clear HO389; clear HB; have HO_368000 := n0_; have HO_376001 := n1_; have HO_376002 := n2_; have HO_382000 := n3_; have BK353 := n4_; have BK367 := n5_; have BK375 := n6_; have BK381 := n7_; have HO386 := n8_; have HO389 := n9_; have HB := n10_; clear n0_ n1_ n2_ n3_ n4_ n5_ n6_ n7_ n8_ n9_ n10_; (try clear hb); (try clear hkp); (try clear hy0); (try clear hy1)))
      (try simp only [Act.put, jz, yq, yj])
      go_cut [61] (fun v61 wc => ∃ (kq : Nat) (x61_61 : Bool), v61 = .bool x61_61 ∧ Aside0 (laws_FnExactCodeOfPlan.j1 kq t366 x61_61 a0_0 l0_1 l0_2 t362 t365 t376 t379 = some r) ∧ Aside0 (kq ≤ kj10) ∧ Aside0 (Kd.R k109 109 wc w.heap.size (fun k_ => some k_ ≠ ((.slice Ao34 t376.length co34) : Value).ownBlock) (.slice Ao21 t362.length co21) t362) ∧ Aside0 (Kd.R k133 133 wc w.heap.size (fun _ => True) (.slice Ao30 t369.length co30) t392) ∧ Aside0 (Kd.R (Kd.int .i64) 3 wc w.heap.size (fun _ => True) (.slice Ao31 t372.length co31) t393) ∧ Aside0 (Kd.R k109 109 wc w.heap.size (fun k_ => some k_ ≠ ((.slice Ao21 t362.length co21) : Value).ownBlock) (.slice Ao34 t376.length co34) t376) ∧ Aside0 (wc.heap[gb353]? = some (.cells #[.int .i64 a0_0, (.slice A0_1 l0_1.length c0_1), (.slice A0_2 l0_2.length c0_2)] 54 (0, 0))) ∧ Aside0 (wc.heap[gb367]? = some (.cells #[(.slice Ao21 t362.length co21), .int .i64 t365] 32 (0, 0))) ∧ Aside0 (wc.heap[gb375]? = some (.cells #[.int .i64 t368, (.slice Ao30 t369.length co30), (.slice Ao31 t372.length co31)] 59 (0, 0))) ∧ Aside0 (wc.heap[gb381]? = some (.cells #[(.slice Ao34 t376.length co34), .int .i64 t379] 32 (0, 0))) ∧ Aside0 (Below w.heap.size w wc))
      case first =>
       have H := HC62.out
       clear HC62
       by_cases c73 : t391 < 0
       ·rw [if_pos c73] at H
        have c73b0 : decide (t391 < 0) = true := decide_eq_true c73
        clear c73
        (first | rw [c73b0] | (simp only [kk, kv]; rw [c73b0]) | skip)
        have H' := zz H
        clear H
        go_wp2
        go_meet
        case rel => exact ⟨_, (true), (by first | rfl | (simp; done) | (simp [*]; done)), H', ⟨by have := HJ10.out; first | omega | exact Nat.le_refl _⟩, ⟨by (with_reducible repeat (first | apply jq | apply jj | apply jw)); exact HO_368000.out⟩, ⟨by (with_reducible repeat (first | apply jq | apply jj | apply jw)); exact vj HO_376001.out (fun _ hk => trivial)⟩, ⟨by (with_reducible repeat (first | apply jq | apply jj | apply jw)); exact vj HO_376002.out (fun _ hk => trivial)⟩, ⟨by (with_reducible repeat (first | apply jq | apply jj | apply jw)); exact HO_382000.out⟩, ⟨by (with_reducible repeat (first | refine qq ?_ _ | refine qj ?_ | refine qz ?_ _)); exact BK353.out⟩, ⟨by (with_reducible repeat (first | refine qq ?_ _ | refine qj ?_ | refine qz ?_ _)); exact BK367.out⟩, ⟨by (with_reducible repeat (first | refine qq ?_ _ | refine qj ?_ | refine qz ?_ _)); exact BK375.out⟩, ⟨by (with_reducible repeat (first | refine qq ?_ _ | refine qj ?_ | refine qz ?_ _)); exact BK381.out⟩, ⟨by repeat (first | (with_reducible first | exact HB.out | apply zj | apply zq | apply zw | refine zx ?_ GE353.out | refine zx ?_ GE367.out | refine zx ?_ GE375.out | refine zx ?_ GE381.out) | exact HB.out)⟩⟩
       ·rw [if_neg c73] at H
        have c73b0 : decide (t391 < 0) = false := decide_eq_false c73
        clear c73
        (first | rw [c73b0] | (simp only [kk, kv]; rw [c73b0]) | skip)
        replace H := Option.bind_eq_some_iff.mp H
        obtain ⟨t394, A740, H⟩ := H
        replace H : (if t394 = true then (laws_FnExactCodeOfPlan.j1 kj10 t366 (t380 != t366) a0_0 l0_1 l0_2 t362 t365 t376 t379) else (laws_FnExactCodeOfPlan.j1 kj10 t366 true a0_0 l0_1 l0_2 t362 t365 t376 t379)) = some r := H
        have A74 := zz A740
        clear A740
        by_cases c75 : t394 = true
        ·subst c75
         have H1 : (laws_FnExactCodeOfPlan.j1 kj10 t366 (t380 != t366) a0_0 l0_1 l0_2 t362 t365 t376 t379) = some r := by rw [if_pos rfl] at H; exact H
         clear H
         have H := H1
         clear H1
         have H' := zz H
         clear H
         have hnb76 := NB381_353.out
         have hnc76 := NB353_381.out
         have hnb77 := NB381_367.out
         have hnc77 := NB367_381.out
         have hnb78 := NB381_375.out
         have hnc78 := NB375_381.out
         have hcz79_0 : w72.cell? ⟨gb381, 0, none⟩ = some (.slice Ao34 t376.length co34) := (qw BK381.out 0).trans rfl
         have hcz79_1 : w72.cell? ⟨gb381, 1, none⟩ = some (.int .i64 t379) := (qw BK381.out 1).trans rfl
         have hfz79_0 := qx BK381.out 0
         have hfz79_1 := qx BK381.out 1
         have hnb80 := NB367_353.out
         have hnc80 := NB353_367.out
         have hnb81 := NB367_375.out
         have hnc81 := NB375_367.out
         have hcz82_0 : w72.cell? ⟨gb367, 0, none⟩ = some (.slice Ao21 t362.length co21) := (qw BK367.out 0).trans rfl
         have hcz82_1 : w72.cell? ⟨gb367, 1, none⟩ = some (.int .i64 t365) := (qw BK367.out 1).trans rfl
         have hfz82_0 := qx BK367.out 0
         have hfz82_1 := qx BK367.out 1
         go_wp2_with (first | (go_at_call 27; (with_reducible refine (laws_eqCode.calls kj10 _ _ t376 t379 _ _ t362 t365 true _ ?side1 ?side2 ?side3 ?side4 A74.out).mono ?_); (case side1 => repeat (first | exact (vx HO_382000.out).2.2 | (with_reducible refine jx ?_ _) | (with_reducible refine jk ?_ _) | (with_reducible refine jv ?_))); (case side2 => exact (vx HO_382000.out).2.1); (case side3 => repeat (first | exact (vx HO_368000.out).2.2 | (with_reducible refine jx ?_ _) | (with_reducible refine jk ?_ _) | (with_reducible refine jv ?_))); (case side4 => exact (vx HO_368000.out).2.1); rintro e w83 ⟨rfl, hb⟩; have n0_ := zz (vw (by (with_reducible repeat (first | apply jq | apply jj | apply jw)); exact HO_368000.out) hb); have n1_ := zz (vw (by (with_reducible repeat (first | apply jq | apply jj | apply jw)); exact HO_376001.out) hb); have n2_ := zz (vw (by (with_reducible repeat (first | apply jq | apply jj | apply jw)); exact HO_376002.out) hb); have n3_ := zz (vw (by (with_reducible repeat (first | apply jq | apply jj | apply jw)); exact HO_382000.out) hb); have n4_ := zz (vw (by (with_reducible repeat (first | apply jq | apply jj | apply jw)); exact HO386.out) hb); have n5_ := zz (vw (by (with_reducible repeat (first | apply jq | apply jj | apply jw)); exact HO389.out) hb); have n6_ := zz (qv (g := gb353) (o := .cells #[.int .i64 a0_0, .slice A0_1 l0_1.length c0_1, .slice A0_2 l0_2.length c0_2] 54 (0, 0)) (by (with_reducible repeat (first | refine qq ?_ _ | refine qj ?_ | refine qz ?_ _)); exact BK353.out) hb); have n7_ := zz (qv (g := gb367) (o := .cells #[.slice Ao21 t362.length co21, .int .i64 t365] 32 (0, 0)) (by (with_reducible repeat (first | refine qq ?_ _ | refine qj ?_ | refine qz ?_ _)); exact BK367.out) hb); have n8_ := zz (qv (g := gb375) (o := .cells #[.int .i64 t368, .slice Ao30 t369.length co30, .slice Ao31 t372.length co31] 59 (0, 0)) (by (with_reducible repeat (first | refine qq ?_ _ | refine qj ?_ | refine qz ?_ _)); exact BK375.out) hb); have n9_ := zz (qv (g := gb381) (o := .cells #[.slice Ao34 t376.length co34, .int .i64 t379] 32 (0, 0)) (by (with_reducible repeat (first | refine qq ?_ _ | refine qj ?_ | refine qz ?_ _)); exact BK381.out) hb); have n10_ := zz (zk (by repeat (first | (with_reducible first | exact HB.out | apply zj | apply zq | apply zw | refine zx ?_ GE353.out | refine zx ?_ GE367.out | refine zx ?_ GE375.out | refine zx ?_ GE381.out) | exact HB.out)) hb); clear HO_368000; clear HO_376001; clear HO_376002; clear HO_382000; clear HO386; clear HO389; clear BK353; clear BK367; clear BK375; clear BK381; clear HB; have HO_368000 := n0_; have HO_376001 := n1_; have HO_376002 := n2_; have HO_382000 := n3_; have HO386 := n4_; have HO389 := n5_; have BK353 := n6_; have BK367 := n7_; have BK375 := n8_; have BK381 := n9_; have HB := n10_; clear n0_ n1_ n2_ n3_ n4_ n5_ n6_ n7_ n8_ n9_ n10_; (try clear hb); (try clear hb2); (try clear hk); (try clear hi)))
         go_meet
         case rel => exact ⟨_, ((t380 != t366)), (by first | rfl | (simp; done) | (simp [*]; done)), H', ⟨by have := HJ10.out; first | omega | exact Nat.le_refl _⟩, ⟨by (with_reducible repeat (first | apply jq | apply jj | apply jw)); exact HO_368000.out⟩, ⟨by (with_reducible repeat (first | apply jq | apply jj | apply jw)); exact vj HO_376001.out (fun _ hk => trivial)⟩, ⟨by (with_reducible repeat (first | apply jq | apply jj | apply jw)); exact vj HO_376002.out (fun _ hk => trivial)⟩, ⟨by (with_reducible repeat (first | apply jq | apply jj | apply jw)); exact HO_382000.out⟩, ⟨by (with_reducible repeat (first | refine qq ?_ _ | refine qj ?_ | refine qz ?_ _)); exact BK353.out⟩, ⟨by (with_reducible repeat (first | refine qq ?_ _ | refine qj ?_ | refine qz ?_ _)); exact BK367.out⟩, ⟨by (with_reducible repeat (first | refine qq ?_ _ | refine qj ?_ | refine qz ?_ _)); exact BK375.out⟩, ⟨by (with_reducible repeat (first | refine qq ?_ _ | refine qj ?_ | refine qz ?_ _)); exact BK381.out⟩, ⟨by repeat (first | (with_reducible first | exact HB.out | apply zj | apply zq | apply zw | refine zx ?_ GE353.out | refine zx ?_ GE367.out | refine zx ?_ GE375.out | refine zx ?_ GE381.out) | exact HB.out)⟩⟩
        ·replace c75 := Bool.eq_false_iff.mpr c75
         subst c75
         have H1 : (laws_FnExactCodeOfPlan.j1 kj10 t366 true a0_0 l0_1 l0_2 t362 t365 t376 t379) = some r := by rw [if_neg (show ¬ (false = true) by decide)] at H; exact H
         clear H
         have H := H1
         clear H1
         have H' := zz H
         clear H
         have hnb84 := NB381_353.out
         have hnc84 := NB353_381.out
         have hnb85 := NB381_367.out
         have hnc85 := NB367_381.out
         have hnb86 := NB381_375.out
         have hnc86 := NB375_381.out
         have hcz87_0 : w72.cell? ⟨gb381, 0, none⟩ = some (.slice Ao34 t376.length co34) := (qw BK381.out 0).trans rfl
         have hcz87_1 : w72.cell? ⟨gb381, 1, none⟩ = some (.int .i64 t379) := (qw BK381.out 1).trans rfl
         have hfz87_0 := qx BK381.out 0
         have hfz87_1 := qx BK381.out 1
         have hnb88 := NB367_353.out
         have hnc88 := NB353_367.out
         have hnb89 := NB367_375.out
         have hnc89 := NB375_367.out
         have hcz90_0 : w72.cell? ⟨gb367, 0, none⟩ = some (.slice Ao21 t362.length co21) := (qw BK367.out 0).trans rfl
         have hcz90_1 : w72.cell? ⟨gb367, 1, none⟩ = some (.int .i64 t365) := (qw BK367.out 1).trans rfl
         have hfz90_0 := qx BK367.out 0
         have hfz90_1 := qx BK367.out 1
         go_wp2_with (first | (go_at_call 27; (with_reducible refine (laws_eqCode.calls kj10 _ _ t376 t379 _ _ t362 t365 false _ ?side1 ?side2 ?side3 ?side4 A74.out).mono ?_); (case side1 => repeat (first | exact (vx HO_382000.out).2.2 | (with_reducible refine jx ?_ _) | (with_reducible refine jk ?_ _) | (with_reducible refine jv ?_))); (case side2 => exact (vx HO_382000.out).2.1); (case side3 => repeat (first | exact (vx HO_368000.out).2.2 | (with_reducible refine jx ?_ _) | (with_reducible refine jk ?_ _) | (with_reducible refine jv ?_))); (case side4 => exact (vx HO_368000.out).2.1); rintro e w91 ⟨rfl, hb⟩; have n0_ := zz (vw (by (with_reducible repeat (first | apply jq | apply jj | apply jw)); exact HO_368000.out) hb); have n1_ := zz (vw (by (with_reducible repeat (first | apply jq | apply jj | apply jw)); exact HO_376001.out) hb); have n2_ := zz (vw (by (with_reducible repeat (first | apply jq | apply jj | apply jw)); exact HO_376002.out) hb); have n3_ := zz (vw (by (with_reducible repeat (first | apply jq | apply jj | apply jw)); exact HO_382000.out) hb); have n4_ := zz (vw (by (with_reducible repeat (first | apply jq | apply jj | apply jw)); exact HO386.out) hb); have n5_ := zz (vw (by (with_reducible repeat (first | apply jq | apply jj | apply jw)); exact HO389.out) hb); have n6_ := zz (qv (g := gb353) (o := .cells #[.int .i64 a0_0, .slice A0_1 l0_1.length c0_1, .slice A0_2 l0_2.length c0_2] 54 (0, 0)) (by (with_reducible repeat (first | refine qq ?_ _ | refine qj ?_ | refine qz ?_ _)); exact BK353.out) hb); have n7_ := zz (qv (g := gb367) (o := .cells #[.slice Ao21 t362.length co21, .int .i64 t365] 32 (0, 0)) (by (with_reducible repeat (first | refine qq ?_ _ | refine qj ?_ | refine qz ?_ _)); exact BK367.out) hb); have n8_ := zz (qv (g := gb375) (o := .cells #[.int .i64 t368, .slice Ao30 t369.length co30, .slice Ao31 t372.length co31] 59 (0, 0)) (by (with_reducible repeat (first | refine qq ?_ _ | refine qj ?_ | refine qz ?_ _)); exact BK375.out) hb); have n9_ := zz (qv (g := gb381) (o := .cells #[.slice Ao34 t376.length co34, .int .i64 t379] 32 (0, 0)) (by (with_reducible repeat (first | refine qq ?_ _ | refine qj ?_ | refine qz ?_ _)); exact BK381.out) hb); have n10_ := zz (zk (by repeat (first | (with_reducible first | exact HB.out | apply zj | apply zq | apply zw | refine zx ?_ GE353.out | refine zx ?_ GE367.out | refine zx ?_ GE375.out | refine zx ?_ GE381.out) | exact HB.out)) hb); clear HO_368000; clear HO_376001; clear HO_376002; clear HO_382000; clear HO386; clear HO389; clear BK353; clear BK367; clear BK375; clear BK381; clear HB; have HO_368000 := n0_; have HO_376001 := n1_; have HO_376002 := n2_; have HO_382000 := n3_; have HO386 := n4_; have HO389 := n5_; have BK353 := n6_; have BK367 := n7_; have BK375 := n8_; have BK381 := n9_; have HB := n10_; clear n0_ n1_ n2_ n3_ n4_ n5_ n6_ n7_ n8_ n9_ n10_; (try clear hb); (try clear hb2); (try clear hk); (try clear hi)))
         go_meet
         case rel => exact ⟨_, (true), (by first | rfl | (simp; done) | (simp [*]; done)), H', ⟨by have := HJ10.out; first | omega | exact Nat.le_refl _⟩, ⟨by (with_reducible repeat (first | apply jq | apply jj | apply jw)); exact HO_368000.out⟩, ⟨by (with_reducible repeat (first | apply jq | apply jj | apply jw)); exact vj HO_376001.out (fun _ hk => trivial)⟩, ⟨by (with_reducible repeat (first | apply jq | apply jj | apply jw)); exact vj HO_376002.out (fun _ hk => trivial)⟩, ⟨by (with_reducible repeat (first | apply jq | apply jj | apply jw)); exact HO_382000.out⟩, ⟨by (with_reducible repeat (first | refine qq ?_ _ | refine qj ?_ | refine qz ?_ _)); exact BK353.out⟩, ⟨by (with_reducible repeat (first | refine qq ?_ _ | refine qj ?_ | refine qz ?_ _)); exact BK367.out⟩, ⟨by (with_reducible repeat (first | refine qq ?_ _ | refine qj ?_ | refine qz ?_ _)); exact BK375.out⟩, ⟨by (with_reducible repeat (first | refine qq ?_ _ | refine qj ?_ | refine qz ?_ _)); exact BK381.out⟩, ⟨by repeat (first | (with_reducible first | exact HB.out | apply zj | apply zq | apply zw | refine zx ?_ GE353.out | refine zx ?_ GE367.out | refine zx ?_ GE375.out | refine zx ?_ GE381.out) | exact HB.out)⟩⟩
      case rest =>
       clear HC62
       try clear c2
       try clear p2
       try clear c3
       try clear c3b0
       try clear c4
       try clear c5
       try clear c6
       try clear c7
       try clear c8
       try clear c22
       try clear c27
       try clear c28
       try clear c35
       try clear c36
       try clear c37
       try clear c38
       try clear c39
       try clear c40
       try clear c41
       try clear c42
       try clear c43
       try clear c45
       try clear c46
       try clear c49
       try clear c50
       try clear c51
       try clear c53
       try clear c54
       try clear c57
       try clear c60
       try clear c68
       try clear c69
       try clear c70
       try clear c73
       try clear c73b0
       try clear c75
       try clear c76
       try clear c77
       try clear c78
       try clear c80
       try clear c81
       try clear c84
       try clear c85
       try clear c86
       try clear c88
       try clear c89
       try clear hcz13_0
       try clear hcz13_1
       try clear hcz13_2
       try clear hcz15_0
       try clear hcz15_1
       try clear hcz15_2
       try clear hcz23_0
       try clear hcz23_1
       try clear hcz24_0
       try clear hcz24_1
       try clear hcz24_2
       try clear hcz29_0
       try clear hcz29_1
       try clear hcz29_2
       try clear hcz38_0
       try clear hcz38_1
       try clear hcz44_0
       try clear hcz44_1
       try clear hcz47_0
       try clear hcz47_1
       try clear hcz52_0
       try clear hcz52_1
       try clear hcz55_0
       try clear hcz55_1
       try clear hcz5_0
       try clear hcz5_1
       try clear hcz5_2
       try clear hcz71_0
       try clear hcz71_1
       try clear hcz71_2
       try clear hcz79_0
       try clear hcz79_1
       try clear hcz82_0
       try clear hcz82_1
       try clear hcz87_0
       try clear hcz87_1
       try clear hcz90_0
       try clear hcz90_1
       try clear hfz13_0
       try clear hfz13_1
       try clear hfz13_2
       try clear hfz15_0
       try clear hfz15_1
       try clear hfz15_2
       try clear hfz23_0
       try clear hfz23_1
       try clear hfz24_0
       try clear hfz24_1
       try clear hfz24_2
       try clear hfz29_0
       try clear hfz29_1
       try clear hfz29_2
       try clear hfz38_0
       try clear hfz38_1
       try clear hfz44_0
       try clear hfz44_1
       try clear hfz47_0
       try clear hfz47_1
       try clear hfz52_0
       try clear hfz52_1
       try clear hfz55_0
       try clear hfz55_1
       try clear hfz5_0
       try clear hfz5_1
       try clear hfz5_2
       try clear hfz71_0
       try clear hfz71_1
       try clear hfz71_2
       try clear hfz79_0
       try clear hfz79_1
       try clear hfz82_0
       try clear hfz82_1
       try clear hfz87_0
       try clear hfz87_1
       try clear hfz90_0
       try clear hfz90_1
       try clear p2
       obtain ⟨kq, x61_61, rfl, HA, HJ61, HO_368000, HO_376001, HO_376002, HO_382000, BK353, BK367, BK375, BK381, HB⟩ := hcut
       have hl376001_61 := (vx HO_376001.out).1
       rw [hl376001_61] at HO_376001
       (try simp only [hl376001_61])
       (try simp only [hl376001_61] at BK353)
       (try simp only [hl376001_61] at BK367)
       (try simp only [hl376001_61] at BK375)
       (try simp only [hl376001_61] at BK381)
       (try simp only [hl376001_61] at HO_368000)
       (try simp only [hl376001_61] at HO_376002)
       (try simp only [hl376001_61] at HO_382000)
       have hl376002_61 := (vx HO_376002.out).1
       rw [hl376002_61] at HO_376002
       (try simp only [hl376002_61])
       (try simp only [hl376002_61] at BK353)
       (try simp only [hl376002_61] at BK367)
       (try simp only [hl376002_61] at BK375)
       (try simp only [hl376002_61] at BK381)
       (try simp only [hl376002_61] at HO_368000)
       (try simp only [hl376002_61] at HO_376001)
       (try simp only [hl376002_61] at HO_382000)
       cases kq with
       | zero => exact absurd HA.out (by simp [laws_FnExactCodeOfPlan.j1])
       | succ kj61 =>
        have H := HA.out
        clear HA
        simp only [laws_FnExactCodeOfPlan.j1] at H
        by_cases c92 : x61_61 = true
        ·subst c92
         have H1 : (some false) = some r := by rw [if_pos rfl] at H; exact H
         clear H
         have H := H1
         clear H1
         obtain rfl := Option.some.inj H
         go_wp2
         go_ret
         exact ⟨by first | rfl | (simp [errW_none, errW_some] <;> rfl) | (simp [*, errW_none, errW_some] <;> rfl), by repeat (first | (with_reducible first | exact HB.out | apply zj | apply zq | apply zw | refine zx ?_ GE353.out | refine zx ?_ GE367.out | refine zx ?_ GE375.out | refine zx ?_ GE381.out) | exact HB.out)⟩
        ·replace c92 := Bool.eq_false_iff.mpr c92
         subst c92
         have H1 : ((laws_markCode.f kj61 t376 t379 1).bind fun bt395 => ((laws_heldCode.f kj61 bt395.2 t379 1).bind fun t397 => (if t397 < 0 then (some false) else (if t397 = bt395.1 then ((laws_toPlan.f kj61 a0_0 l0_1 l0_2).bind fun bt398 => ((impl_CodeOfPlan.f kj61 bt398.1 bt398.2.1 bt398.2.2).bind fun bt405 => ((laws_eqCode.f kj61 bt405.1 bt405.2.1 t362 t365).bind fun t411 => (if t411 = true then (laws_FnExactCodeOfPlan.j2 kj61 bt395.1 (bt405.2.2 != t366) bt395.2 t379) else (laws_FnExactCodeOfPlan.j2 kj61 bt395.1 true bt395.2 t379))))) else (some false))))) = some r := by rw [if_neg (show ¬ (false = true) by decide)] at H; exact H
         clear H
         have H := H1
         clear H1
         replace H := Option.bind_eq_some_iff.mp H
         obtain ⟨⟨t395, t396⟩, A930, H⟩ := H
         replace H : ((laws_heldCode.f kj61 t396 t379 1).bind fun t397 => (if t397 < 0 then (some false) else (if t397 = t395 then ((laws_toPlan.f kj61 a0_0 l0_1 l0_2).bind fun bt398 => ((impl_CodeOfPlan.f kj61 bt398.1 bt398.2.1 bt398.2.2).bind fun bt405 => ((laws_eqCode.f kj61 bt405.1 bt405.2.1 t362 t365).bind fun t411 => (if t411 = true then (laws_FnExactCodeOfPlan.j2 kj61 t395 (bt405.2.2 != t366) t396 t379) else (laws_FnExactCodeOfPlan.j2 kj61 t395 true t396 t379))))) else (some false)))) = some r := H
         have A93 := zz A930
         clear A930
         replace H := Option.bind_eq_some_iff.mp H
         obtain ⟨t397, A940, H⟩ := H
         replace H : (if t397 < 0 then (some false) else (if t397 = t395 then ((laws_toPlan.f kj61 a0_0 l0_1 l0_2).bind fun bt398 => ((impl_CodeOfPlan.f kj61 bt398.1 bt398.2.1 bt398.2.2).bind fun bt405 => ((laws_eqCode.f kj61 bt405.1 bt405.2.1 t362 t365).bind fun t411 => (if t411 = true then (laws_FnExactCodeOfPlan.j2 kj61 t395 (bt405.2.2 != t366) t396 t379) else (laws_FnExactCodeOfPlan.j2 kj61 t395 true t396 t379))))) else (some false))) = some r := H
         have A94 := zz A940
         clear A940
         by_cases c95 : t397 < 0
         ·rw [if_pos c95] at H
          have c95b0 : decide (t397 < 0) = true := decide_eq_true c95
          clear c95
          obtain rfl := Option.some.inj H
          have hnb96 := NB381_353.out
          have hnc96 := NB353_381.out
          have hnb97 := NB381_367.out
          have hnc97 := NB367_381.out
          have hnb98 := NB381_375.out
          have hnc98 := NB375_381.out
          have hcz99_0 : wc.cell? ⟨gb381, 0, none⟩ = some (.slice Ao34 t376.length co34) := (qw BK381.out 0).trans rfl
          have hcz99_1 : wc.cell? ⟨gb381, 1, none⟩ = some (.int .i64 t379) := (qw BK381.out 1).trans rfl
          have hfz99_0 := qx BK381.out 0
          have hfz99_1 := qx BK381.out 1
          go_wp2_with (first | ((with_reducible refine yv (f := 30) rfl ?_); refine kx (some 64) rfl rfl Try.func30 (by kernel_rfl) rfl #[.agg #[.slice Ao34 t376.length co34, .int .i64 t379], .int .i64 1] rfl (by (try simp only [yw, List.map_cons, List.map_nil]); first | done | rfl | (simp only [yx, yk]; rfl)) ?_; (with_reducible refine (laws_markCode.calls kj61 (fun k_ => some k_ = (.slice Ao34 t376.length co34 : Value).ownBlock) (.slice Ao34 t376.length co34) t376 t379 1 t395 t396 w _ ?side1 ?side2 A93.out).mono ?_); (case side1 => repeat (first | (with_reducible first | exact HB.out | apply zj | apply zq | apply zw | refine zx ?_ GE353.out | refine zx ?_ GE367.out | refine zx ?_ GE375.out | refine zx ?_ GE381.out) | exact HB.out)); (case side2 => exact kw rfl HO_382000.out); rintro e w100 ⟨rfl, hy0, hb, hkp⟩; refine ⟨_, rfl, ?_⟩; have n0_ := zz (vj (ok' := fun k_ => some k_ ≠ (.slice Ao34 t376.length co34 : Value).ownBlock) (Kd.R_keptB (HO_368000.out) hkp (fun k_ hk_ hs_ => (hk_) hs_)) (fun k_ hk_ => hk_.1)); have n1_ := zz (vj (ok' := fun k_ => True) (Kd.R_keptB ((kj HO_376001.out (Kd.R_typed HO_382000.out) (by decide))) hkp (fun k_ hk_ hs_ => (hk_.2) hs_)) (fun k_ hk_ => trivial)); have n2_ := zz (vj (ok' := fun k_ => True) (Kd.R_keptB ((kj HO_376002.out (Kd.R_typed HO_382000.out) (by decide))) hkp (fun k_ hk_ hs_ => (hk_.2) hs_)) (fun k_ hk_ => trivial)); have n3_ := zz (Kd.R_reok rfl hy0 (fun k_ e_ => HO_382000.out.1 k_ e_)); have n4_ := zz (blk_kept (by (with_reducible repeat (first | refine qq ?_ _ | refine qj ?_ | refine qz ?_ _)); exact BK353.out) hkp (fun hs_ => (fun e_ => (Kd.R_ne HO_382000.out BK353.out (by decide)) e_) hs_)); have n5_ := zz (blk_kept (by (with_reducible repeat (first | refine qq ?_ _ | refine qj ?_ | refine qz ?_ _)); exact BK367.out) hkp (fun hs_ => (fun e_ => (Kd.R_ne HO_382000.out BK367.out (by decide)) e_) hs_)); have n6_ := zz (blk_kept (by (with_reducible repeat (first | refine qq ?_ _ | refine qj ?_ | refine qz ?_ _)); exact BK375.out) hkp (fun hs_ => (fun e_ => (Kd.R_ne HO_382000.out BK375.out (by decide)) e_) hs_)); have n7_ := zz (blk_kept (by (with_reducible repeat (first | refine qq ?_ _ | refine qj ?_ | refine qz ?_ _)); exact BK381.out) hkp (fun hs_ => (fun e_ => (Kd.R_ne HO_382000.out BK381.out (by decide)) e_) hs_)); have n8_ := zz (hb); clear HO_368000; clear HO_376001; clear HO_376002; clear HO_382000; clear BK353; clear BK367; clear BK375; clear BK381; clear HB; have HO_368000 := n0_; have HO_376001 := n1_; have HO_376002 := n2_; have HO_382000 := n3_; have BK353 := n4_; have BK367 := n5_; have BK375 := n6_; have BK381 := n7_; have HB := n8_; clear n0_ n1_ n2_ n3_ n4_ n5_ n6_ n7_ n8_; (try clear hb); (try clear hkp); (try clear hy0); have hcz101_0 : w100.cell? ⟨gb381, 0, none⟩ = some (.slice Ao34 t376.length co34) := (qw BK381.out 0).trans rfl; have hcz101_1 : w100.cell? ⟨gb381, 1, none⟩ = some (.int .i64 t379) := (qw BK381.out 1).trans rfl; have hfz101_0 := qx BK381.out 0; have hfz101_1 := qx BK381.out 1) | ((with_reducible refine yv (f := 31) rfl ?_); refine kx (some 67) rfl rfl Try.func31 (by kernel_rfl) rfl #[.agg #[.slice Ao34 t396.length co34, .int .i64 t379], .int .i64 1] rfl (by (try simp only [yw, List.map_cons, List.map_nil]); first | done | (rw [show t396.length = t376.length from (vx HO_382000.out).1.symm] <;> rfl) | rfl | (simp only [yx, yk]; rfl)) ?_; (with_reducible refine (laws_heldCode.calls kj61 _ _ t396 t379 1 t397 _ ?side1 ?side2 A94.out).mono ?_); (case side1 => repeat (first | exact (vx HO_382000.out).2.2 | (with_reducible refine jx ?_ _) | (with_reducible refine jk ?_ _) | (with_reducible refine jv ?_))); (case side2 => rw [show t396.length = t376.length from (vx HO_382000.out).1.symm]; exact (vx HO_382000.out).2.1); rintro e w102 ⟨rfl, hb⟩; refine ⟨_, rfl, ?_⟩; have n0_ := zz (vw (by (with_reducible repeat (first | apply jq | apply jj | apply jw)); exact HO_368000.out) hb); have n1_ := zz (vw (by (with_reducible repeat (first | apply jq | apply jj | apply jw)); exact HO_376001.out) hb); have n2_ := zz (vw (by (with_reducible repeat (first | apply jq | apply jj | apply jw)); exact HO_376002.out) hb); have n3_ := zz (vw (by (with_reducible repeat (first | apply jq | apply jj | apply jw)); exact HO_382000.out) hb); have n4_ := zz (qv (g := gb353) (o := .cells #[.int .i64 a0_0, .slice A0_1 l0_1.length c0_1, .slice A0_2 l0_2.length c0_2] 54 (0, 0)) (by (with_reducible repeat (first | refine qq ?_ _ | refine qj ?_ | refine qz ?_ _)); exact BK353.out) hb); have n5_ := zz (qv (g := gb367) (o := .cells #[.slice Ao21 t362.length co21, .int .i64 t365] 32 (0, 0)) (by (with_reducible repeat (first | refine qq ?_ _ | refine qj ?_ | refine qz ?_ _)); exact BK367.out) hb); have n6_ := zz (qv (g := gb375) (o := .cells #[.int .i64 t368, .slice Ao30 t392.length co30, .slice Ao31 t393.length co31] 59 (0, 0)) (by (with_reducible repeat (first | refine qq ?_ _ | refine qj ?_ | refine qz ?_ _)); exact BK375.out) hb); have n7_ := zz (qv (g := gb381) (o := .cells #[.slice Ao34 t376.length co34, .int .i64 t379] 32 (0, 0)) (by (with_reducible repeat (first | refine qq ?_ _ | refine qj ?_ | refine qz ?_ _)); exact BK381.out) hb); have n8_ := zz (zk (by repeat (first | (with_reducible first | exact HB.out | apply zj | apply zq | apply zw | refine zx ?_ GE353.out | refine zx ?_ GE367.out | refine zx ?_ GE375.out | refine zx ?_ GE381.out) | exact HB.out)) hb); clear HO_368000; clear HO_376001; clear HO_376002; clear HO_382000; clear BK353; clear BK367; clear BK375; clear BK381; clear HB; have HO_368000 := n0_; have HO_376001 := n1_; have HO_376002 := n2_; have HO_382000 := n3_; have BK353 := n4_; have BK367 := n5_; have BK375 := n6_; have BK381 := n7_; have HB := n8_; clear n0_ n1_ n2_ n3_ n4_ n5_ n6_ n7_ n8_; (try clear hb); (try clear hb2); (try clear hk); (try clear hi)))
          go_ret
          exact ⟨by first | rfl | (simp [errW_none, errW_some] <;> rfl) | (simp [*, errW_none, errW_some] <;> rfl), by repeat (first | (with_reducible first | exact HB.out | apply zj | apply zq | apply zw | refine zx ?_ GE353.out | refine zx ?_ GE367.out | refine zx ?_ GE375.out | refine zx ?_ GE381.out) | exact HB.out)⟩
         ·rw [if_neg c95] at H
          have c95b0 : decide (t397 < 0) = false := decide_eq_false c95
          clear c95
          by_cases c103 : t397 = t395
          ·rw [if_pos c103] at H
           have c103b0 : (t397 == t395) = true := beq_iff_eq.mpr c103
           have c103b1 : (t397 != t395) = false := bne_eq_false_iff_eq.mpr c103
           clear c103
           replace H := Option.bind_eq_some_iff.mp H
           obtain ⟨⟨t398, t399, t402⟩, A1040, H⟩ := H
           replace H : ((impl_CodeOfPlan.f kj61 t398 t399 t402).bind fun bt405 => ((laws_eqCode.f kj61 bt405.1 bt405.2.1 t362 t365).bind fun t411 => (if t411 = true then (laws_FnExactCodeOfPlan.j2 kj61 t395 (bt405.2.2 != t366) t396 t379) else (laws_FnExactCodeOfPlan.j2 kj61 t395 true t396 t379)))) = some r := H
           have A104 := zz A1040
           clear A1040
           replace H := Option.bind_eq_some_iff.mp H
           obtain ⟨⟨t405, t408, t409⟩, A1050, H⟩ := H
           replace H : ((laws_eqCode.f kj61 t405 t408 t362 t365).bind fun t411 => (if t411 = true then (laws_FnExactCodeOfPlan.j2 kj61 t395 (t409 != t366) t396 t379) else (laws_FnExactCodeOfPlan.j2 kj61 t395 true t396 t379))) = some r := H
           have A105 := zz A1050
           clear A1050
           have HC106 := zz H
           clear H
           have hnb107 := NB381_353.out
           have hnc107 := NB353_381.out
           have hnb108 := NB381_367.out
           have hnc108 := NB367_381.out
           have hnb109 := NB381_375.out
           have hnc109 := NB375_381.out
           have hcz110_0 : wc.cell? ⟨gb381, 0, none⟩ = some (.slice Ao34 t376.length co34) := (qw BK381.out 0).trans rfl
           have hcz110_1 : wc.cell? ⟨gb381, 1, none⟩ = some (.int .i64 t379) := (qw BK381.out 1).trans rfl
           have hfz110_0 := qx BK381.out 0
           have hfz110_1 := qx BK381.out 1
           go_upto_region 25 with (first | ((with_reducible refine yv (f := 30) rfl ?_); refine kx (some 64) rfl rfl Try.func30 (by kernel_rfl) rfl #[.agg #[.slice Ao34 t376.length co34, .int .i64 t379], .int .i64 1] rfl (by (try simp only [yw, List.map_cons, List.map_nil]); first | done | rfl | (simp only [yx, yk]; rfl)) ?_; (with_reducible refine (laws_markCode.calls kj61 (fun k_ => some k_ = (.slice Ao34 t376.length co34 : Value).ownBlock) (.slice Ao34 t376.length co34) t376 t379 1 t395 t396 w _ ?side1 ?side2 A93.out).mono ?_); (case side1 => repeat (first | (with_reducible first | exact HB.out | apply zj | apply zq | apply zw | refine zx ?_ GE353.out | refine zx ?_ GE367.out | refine zx ?_ GE375.out | refine zx ?_ GE381.out) | exact HB.out)); (case side2 => exact kw rfl HO_382000.out); rintro e w111 ⟨rfl, hy0, hb, hkp⟩; refine ⟨_, rfl, ?_⟩; have n0_ := zz (vj (ok' := fun k_ => some k_ ≠ (.slice Ao34 t376.length co34 : Value).ownBlock) (Kd.R_keptB (HO_368000.out) hkp (fun k_ hk_ hs_ => (hk_) hs_)) (fun k_ hk_ => hk_.1)); have n1_ := zz (vj (ok' := fun k_ => True) (Kd.R_keptB ((kj HO_376001.out (Kd.R_typed HO_382000.out) (by decide))) hkp (fun k_ hk_ hs_ => (hk_.2) hs_)) (fun k_ hk_ => trivial)); have n2_ := zz (vj (ok' := fun k_ => True) (Kd.R_keptB ((kj HO_376002.out (Kd.R_typed HO_382000.out) (by decide))) hkp (fun k_ hk_ hs_ => (hk_.2) hs_)) (fun k_ hk_ => trivial)); have n3_ := zz (Kd.R_reok rfl hy0 (fun k_ e_ => HO_382000.out.1 k_ e_)); have n4_ := zz (blk_kept (by (with_reducible repeat (first | refine qq ?_ _ | refine qj ?_ | refine qz ?_ _)); exact BK353.out) hkp (fun hs_ => (fun e_ => (Kd.R_ne HO_382000.out BK353.out (by decide)) e_) hs_)); have n5_ := zz (blk_kept (by (with_reducible repeat (first | refine qq ?_ _ | refine qj ?_ | refine qz ?_ _)); exact BK367.out) hkp (fun hs_ => (fun e_ => (Kd.R_ne HO_382000.out BK367.out (by decide)) e_) hs_)); have n6_ := zz (blk_kept (by (with_reducible repeat (first | refine qq ?_ _ | refine qj ?_ | refine qz ?_ _)); exact BK375.out) hkp (fun hs_ => (fun e_ => (Kd.R_ne HO_382000.out BK375.out (by decide)) e_) hs_)); have n7_ := zz (blk_kept (by (with_reducible repeat (first | refine qq ?_ _ | refine qj ?_ | refine qz ?_ _)); exact BK381.out) hkp (fun hs_ => (fun e_ => (Kd.R_ne HO_382000.out BK381.out (by decide)) e_) hs_)); have n8_ := zz (hb); clear HO_368000; clear HO_376001; clear HO_376002; clear HO_382000; clear BK353; clear BK367; clear BK375; clear BK381; clear HB; have HO_368000 := n0_; have HO_376001 := n1_; have HO_376002 := n2_; have HO_382000 := n3_; have BK353 := n4_; have BK367 := n5_; have BK375 := n6_; have BK381 := n7_; have HB := n8_; clear n0_ n1_ n2_ n3_ n4_ n5_ n6_ n7_ n8_; (try clear hb); (try clear hkp); (try clear hy0); have hcz112_0 : w111.cell? ⟨gb381, 0, none⟩ = some (.slice Ao34 t376.length co34) := (qw BK381.out 0).trans rfl; have hcz112_1 : w111.cell? ⟨gb381, 1, none⟩ = some (.int .i64 t379) := (qw BK381.out 1).trans rfl; have hfz112_0 := qx BK381.out 0; have hfz112_1 := qx BK381.out 1) | ((with_reducible refine yv (f := 31) rfl ?_); refine kx (some 67) rfl rfl Try.func31 (by kernel_rfl) rfl #[.agg #[.slice Ao34 t396.length co34, .int .i64 t379], .int .i64 1] rfl (by (try simp only [yw, List.map_cons, List.map_nil]); first | done | (rw [show t396.length = t376.length from (vx HO_382000.out).1.symm] <;> rfl) | rfl | (simp only [yx, yk]; rfl)) ?_; (with_reducible refine (laws_heldCode.calls kj61 _ _ t396 t379 1 t397 _ ?side1 ?side2 A94.out).mono ?_); (case side1 => repeat (first | exact (vx HO_382000.out).2.2 | (with_reducible refine jx ?_ _) | (with_reducible refine jk ?_ _) | (with_reducible refine jv ?_))); (case side2 => rw [show t396.length = t376.length from (vx HO_382000.out).1.symm]; exact (vx HO_382000.out).2.1); rintro e w113 ⟨rfl, hb⟩; refine ⟨_, rfl, ?_⟩; have n0_ := zz (vw (by (with_reducible repeat (first | apply jq | apply jj | apply jw)); exact HO_368000.out) hb); have n1_ := zz (vw (by (with_reducible repeat (first | apply jq | apply jj | apply jw)); exact HO_376001.out) hb); have n2_ := zz (vw (by (with_reducible repeat (first | apply jq | apply jj | apply jw)); exact HO_376002.out) hb); have n3_ := zz (vw (by (with_reducible repeat (first | apply jq | apply jj | apply jw)); exact HO_382000.out) hb); have n4_ := zz (qv (g := gb353) (o := .cells #[.int .i64 a0_0, .slice A0_1 l0_1.length c0_1, .slice A0_2 l0_2.length c0_2] 54 (0, 0)) (by (with_reducible repeat (first | refine qq ?_ _ | refine qj ?_ | refine qz ?_ _)); exact BK353.out) hb); have n5_ := zz (qv (g := gb367) (o := .cells #[.slice Ao21 t362.length co21, .int .i64 t365] 32 (0, 0)) (by (with_reducible repeat (first | refine qq ?_ _ | refine qj ?_ | refine qz ?_ _)); exact BK367.out) hb); have n6_ := zz (qv (g := gb375) (o := .cells #[.int .i64 t368, .slice Ao30 t392.length co30, .slice Ao31 t393.length co31] 59 (0, 0)) (by (with_reducible repeat (first | refine qq ?_ _ | refine qj ?_ | refine qz ?_ _)); exact BK375.out) hb); have n7_ := zz (qv (g := gb381) (o := .cells #[.slice Ao34 t376.length co34, .int .i64 t379] 32 (0, 0)) (by (with_reducible repeat (first | refine qq ?_ _ | refine qj ?_ | refine qz ?_ _)); exact BK381.out) hb); have n8_ := zz (zk (by repeat (first | (with_reducible first | exact HB.out | apply zj | apply zq | apply zw | refine zx ?_ GE353.out | refine zx ?_ GE367.out | refine zx ?_ GE375.out | refine zx ?_ GE381.out) | exact HB.out)) hb); clear HO_368000; clear HO_376001; clear HO_376002; clear HO_382000; clear BK353; clear BK367; clear BK375; clear BK381; clear HB; have HO_368000 := n0_; have HO_376001 := n1_; have HO_376002 := n2_; have HO_382000 := n3_; have BK353 := n4_; have BK367 := n5_; have BK375 := n6_; have BK381 := n7_; have HB := n8_; clear n0_ n1_ n2_ n3_ n4_ n5_ n6_ n7_ n8_; (try clear hb); (try clear hb2); (try clear hk); (try clear hi); have hnb114 := NB353_367.out; have hnc114 := NB367_353.out; have hnb115 := NB353_375.out; have hnc115 := NB375_353.out; have hcz116_0 : w113.cell? ⟨gb353, 0, none⟩ = some (.int .i64 a0_0) := (qw BK353.out 0).trans rfl; have hcz116_1 : w113.cell? ⟨gb353, 1, none⟩ = some (.slice A0_1 l0_1.length c0_1) := (qw BK353.out 1).trans rfl; have hcz116_2 : w113.cell? ⟨gb353, 2, none⟩ = some (.slice A0_2 l0_2.length c0_2) := (qw BK353.out 2).trans rfl; have hfz116_0 := qx BK353.out 0; have hfz116_1 := qx BK353.out 1; have hfz116_2 := qx BK353.out 2) | ((with_reducible refine yv (f := 38) rfl ?_); refine kx (some 75) rfl rfl Try.func38 (by kernel_rfl) rfl #[.agg #[.int .i64 a0_0, .slice A0_1 l0_1.length c0_1, .slice A0_2 l0_2.length c0_2]] rfl (by (try simp only [yw, List.map_cons, List.map_nil]); first | done | rfl | (simp only [yx, yk]; rfl)) ?_; (with_reducible refine (laws_toPlan.calls kj61 a0_0 _ _ l0_1 _ _ l0_2 t398 t399 t402 _ ?side1 ?side2 ?side3 ?side4 A104.out).mono ?_); (case side1 => repeat (first | exact (yz HR0_1.out HB.out) | (with_reducible refine jx ?_ _) | (with_reducible refine jk ?_ _) | (with_reducible refine jv ?_))); (case side2 => exact HC0_1.out); (case side3 => repeat (first | exact (yz HR0_2.out HB.out) | (with_reducible refine jx ?_ _) | (with_reducible refine jk ?_ _) | (with_reducible refine jv ?_))); (case side4 => exact HC0_2.out); rintro e w117 ⟨v400, v403, rfl, ho0, ho1, hb⟩; refine ⟨_, rfl, ?_⟩; have n0_ := zz (vw (by (with_reducible repeat (first | apply jq | apply jj | apply jw)); exact HO_368000.out) hb); have n1_ := zz (Kd.R_elder' (by (with_reducible repeat (first | apply jq | apply jj | apply jw)); exact HO_376001.out) (Kd.R_base ho0) hb); have n2_ := zz (Kd.R_elder' (by (with_reducible repeat (first | apply jq | apply jj | apply jw)); exact HO_376002.out) (Kd.R_base ho1) hb); have n3_ := zz (vw (by (with_reducible repeat (first | apply jq | apply jj | apply jw)); exact HO_382000.out) hb); have n4_ := zz (Kd.R_lower (Kd.R_new' ho0 (Kd.R_lt (by (with_reducible repeat (first | apply jq | apply jj | apply jw)); exact HO_376001.out))) (zv (by repeat (first | (with_reducible first | exact HB.out | apply zj | apply zq | apply zw | refine zx ?_ GE353.out | refine zx ?_ GE367.out | refine zx ?_ GE375.out | refine zx ?_ GE381.out) | exact HB.out)))); have n5_ := zz (Kd.R_lower (Kd.R_new' ho1 (Kd.R_lt (by (with_reducible repeat (first | apply jq | apply jj | apply jw)); exact HO_376002.out))) (zv (by repeat (first | (with_reducible first | exact HB.out | apply zj | apply zq | apply zw | refine zx ?_ GE353.out | refine zx ?_ GE367.out | refine zx ?_ GE375.out | refine zx ?_ GE381.out) | exact HB.out)))); have n6_ := zz (qv (g := gb353) (o := .cells #[.int .i64 a0_0, .slice A0_1 l0_1.length c0_1, .slice A0_2 l0_2.length c0_2] 54 (0, 0)) (by (with_reducible repeat (first | refine qq ?_ _ | refine qj ?_ | refine qz ?_ _)); exact BK353.out) hb); have n7_ := zz (qv (g := gb367) (o := .cells #[.slice Ao21 t362.length co21, .int .i64 t365] 32 (0, 0)) (by (with_reducible repeat (first | refine qq ?_ _ | refine qj ?_ | refine qz ?_ _)); exact BK367.out) hb); have n8_ := zz (qv (g := gb375) (o := .cells #[.int .i64 t368, .slice Ao30 t392.length co30, .slice Ao31 t393.length co31] 59 (0, 0)) (by (with_reducible repeat (first | refine qq ?_ _ | refine qj ?_ | refine qz ?_ _)); exact BK375.out) hb); have n9_ := zz (qv (g := gb381) (o := .cells #[.slice Ao34 t376.length co34, .int .i64 t379] 32 (0, 0)) (by (with_reducible repeat (first | refine qq ?_ _ | refine qj ?_ | refine qz ?_ _)); exact BK381.out) hb); have n10_ := zz (zk (by repeat (first | (with_reducible first | exact HB.out | apply zj | apply zq | apply zw | refine zx ?_ GE353.out | refine zx ?_ GE367.out | refine zx ?_ GE375.out | refine zx ?_ GE381.out) | exact HB.out)) hb); clear HO_368000; clear HO_376001; clear HO_376002; clear HO_382000; clear BK353; clear BK367; clear BK375; clear BK381; clear HB; have HO_368000 := n0_; have HO_376001 := n1_; have HO_376002 := n2_; have HO_382000 := n3_; have HO401 := n4_; have HO404 := n5_; have BK353 := n6_; have BK367 := n7_; have BK375 := n8_; have BK381 := n9_; have HB := n10_; clear n0_ n1_ n2_ n3_ n4_ n5_ n6_ n7_ n8_ n9_ n10_; (try clear hb); (try clear hb2); (try clear hk); (try clear hi); (try clear ho0); (try clear ho1); obtain ⟨Ao118, co118, eo118⟩ := vk HO401.out; subst eo118; obtain ⟨Ao119, co119, eo119⟩ := vk HO404.out; subst eo119) | ((with_reducible refine yv (f := 39) rfl ?_); refine kx (some 76) rfl rfl Try.func39 (by kernel_rfl) rfl #[.agg #[.int .i64 t398, .slice Ao118 t399.length co118, .slice Ao119 t402.length co119]] rfl (by (try simp only [yw, List.map_cons, List.map_nil]); first | done | rfl | (simp only [yx, yk]; rfl)) ?_; (with_reducible refine (impl_CodeOfPlan.calls kj61 t398 _ _ t399 _ _ t402 t405 t408 t409 _ ?side1 ?side2 ?side3 ?side4 A105.out).mono ?_); (case side1 => repeat (first | exact (vx HO401.out).2.2 | (with_reducible refine jx ?_ _) | (with_reducible refine jk ?_ _) | (with_reducible refine jv ?_))); (case side2 => exact (vx HO401.out).2.1); (case side3 => repeat (first | exact (vx HO404.out).2.2 | (with_reducible refine jx ?_ _) | (with_reducible refine jk ?_ _) | (with_reducible refine jv ?_))); (case side4 => exact (vx HO404.out).2.1); rintro e w120 ⟨v406, rfl, ho0, hb⟩; refine ⟨_, rfl, ?_⟩; have n0_ := zz (Kd.R_elder' (by (with_reducible repeat (first | apply jq | apply jj | apply jw)); exact HO_368000.out) (Kd.R_base ho0) hb); have n1_ := zz (vw (by (with_reducible repeat (first | apply jq | apply jj | apply jw)); exact HO_376001.out) hb); have n2_ := zz (vw (by (with_reducible repeat (first | apply jq | apply jj | apply jw)); exact HO_376002.out) hb); have n3_ := zz (Kd.R_elder' (by (with_reducible repeat (first | apply jq | apply jj | apply jw)); exact HO_382000.out) (Kd.R_base ho0) hb); have n4_ := zz (vw (by (with_reducible repeat (first | apply jq | apply jj | apply jw)); exact HO401.out) hb); have n5_ := zz (vw (by (with_reducible repeat (first | apply jq | apply jj | apply jw)); exact HO404.out) hb); have n6_ := zz (Kd.R_lower (Kd.R_new' (Kd.R_new' ho0 (Kd.R_lt (by (with_reducible repeat (first | apply jq | apply jj | apply jw)); exact HO_368000.out))) (Kd.R_lt (by (with_reducible repeat (first | apply jq | apply jj | apply jw)); exact HO_382000.out))) (zv (by repeat (first | (with_reducible first | exact HB.out | apply zj | apply zq | apply zw | refine zx ?_ GE353.out | refine zx ?_ GE367.out | refine zx ?_ GE375.out | refine zx ?_ GE381.out) | exact HB.out)))); have n7_ := zz (qv (g := gb353) (o := .cells #[.int .i64 a0_0, .slice A0_1 l0_1.length c0_1, .slice A0_2 l0_2.length c0_2] 54 (0, 0)) (by (with_reducible repeat (first | refine qq ?_ _ | refine qj ?_ | refine qz ?_ _)); exact BK353.out) hb); have n8_ := zz (qv (g := gb367) (o := .cells #[.slice Ao21 t362.length co21, .int .i64 t365] 32 (0, 0)) (by (with_reducible repeat (first | refine qq ?_ _ | refine qj ?_ | refine qz ?_ _)); exact BK367.out) hb); have n9_ := zz (qv (g := gb375) (o := .cells #[.int .i64 t368, .slice Ao30 t392.length co30, .slice Ao31 t393.length co31] 59 (0, 0)) (by (with_reducible repeat (first | refine qq ?_ _ | refine qj ?_ | refine qz ?_ _)); exact BK375.out) hb); have n10_ := zz (qv (g := gb381) (o := .cells #[.slice Ao34 t376.length co34, .int .i64 t379] 32 (0, 0)) (by (with_reducible repeat (first | refine qq ?_ _ | refine qj ?_ | refine qz ?_ _)); exact BK381.out) hb); have n11_ := zz (zk (by repeat (first | (with_reducible first | exact HB.out | apply zj | apply zq | apply zw | refine zx ?_ GE353.out | refine zx ?_ GE367.out | refine zx ?_ GE375.out | refine zx ?_ GE381.out) | exact HB.out)) hb); clear HO_368000; clear HO_376001; clear HO_376002; clear HO_382000; clear HO401; clear HO404; clear BK353; clear BK367; clear BK375; clear BK381; clear HB; have HO_368000 := n0_; have HO_376001 := n1_; have HO_376002 := n2_; have HO_382000 := n3_; have HO401 := n4_; have HO404 := n5_; have HO407 := n6_; have BK353 := n7_; have BK367 := n8_; have BK375 := n9_; have BK381 := n10_; have HB := n11_; clear n0_ n1_ n2_ n3_ n4_ n5_ n6_ n7_ n8_ n9_ n10_ n11_; (try clear hb); (try clear hb2); (try clear hk); (try clear hi); (try clear ho0)) | ((with_reducible refine vz (N := 12) rfl ?_); refine vq ?hg (N := 12) ?hd (cs := #[.slice none 0 0, .int .i64 0]) (t := 32) ?hr ?_; (case hd => rfl); (case hg => rfl); (case hr => first | (go_simp; done) | (go_simp; rfl)); intro gb410 hg w121 hbox hb; have n0_ := zz (vw (by (with_reducible repeat (first | apply jq | apply jj | apply jw)); exact HO_368000.out) hb); have n1_ := zz (vw (by (with_reducible repeat (first | apply jq | apply jj | apply jw)); exact HO_376001.out) hb); have n2_ := zz (vw (by (with_reducible repeat (first | apply jq | apply jj | apply jw)); exact HO_376002.out) hb); have n3_ := zz (vw (by (with_reducible repeat (first | apply jq | apply jj | apply jw)); exact HO_382000.out) hb); have n4_ := zz (vw (by (with_reducible repeat (first | apply jq | apply jj | apply jw)); exact HO401.out) hb); have n5_ := zz (vw (by (with_reducible repeat (first | apply jq | apply jj | apply jw)); exact HO404.out) hb); have n6_ := zz (vw (by (with_reducible repeat (first | apply jq | apply jj | apply jw)); exact HO407.out) hb); have n7_ := zz (qv (g := gb353) (o := .cells #[.int .i64 a0_0, .slice A0_1 l0_1.length c0_1, .slice A0_2 l0_2.length c0_2] 54 (0, 0)) (by (with_reducible repeat (first | refine qq ?_ _ | refine qj ?_ | refine qz ?_ _)); exact BK353.out) hb); have n8_ := zz (qv (g := gb367) (o := .cells #[.slice Ao21 t362.length co21, .int .i64 t365] 32 (0, 0)) (by (with_reducible repeat (first | refine qq ?_ _ | refine qj ?_ | refine qz ?_ _)); exact BK367.out) hb); have n9_ := zz (qv (g := gb375) (o := .cells #[.int .i64 t368, .slice Ao30 t392.length co30, .slice Ao31 t393.length co31] 59 (0, 0)) (by (with_reducible repeat (first | refine qq ?_ _ | refine qj ?_ | refine qz ?_ _)); exact BK375.out) hb); have n10_ := zz (qv (g := gb381) (o := .cells #[.slice Ao34 t376.length co34, .int .i64 t379] 32 (0, 0)) (by (with_reducible repeat (first | refine qq ?_ _ | refine qj ?_ | refine qz ?_ _)); exact BK381.out) hb); have n11_ := zz (zk (by repeat (first | (with_reducible first | exact HB.out | apply zj | apply zq | apply zw | refine zx ?_ GE353.out | refine zx ?_ GE367.out | refine zx ?_ GE375.out | refine zx ?_ GE381.out) | exact HB.out)) hb); have n12_ := zz (hbox); have n13_ := zz ((by rw [hg]; exact (zv (by repeat (first | (with_reducible first | exact HB.out | apply zj | apply zq | apply zw | refine zx ?_ GE353.out | refine zx ?_ GE367.out | refine zx ?_ GE375.out | refine zx ?_ GE381.out) | exact HB.out))) : w.heap.size ≤ gb410)); have n14_ := zz ((by rw [hg]; exact (zv (by repeat (first | (with_reducible first | exact HB.out | apply zj | apply zq | apply zw | refine zx ?_ GE353.out | refine zx ?_ GE367.out | refine zx ?_ GE375.out | refine zx ?_ GE381.out) | exact HB.out))) : w.heap.size ≤ gb410)); have n15_ := zz ((by rw [hg]; exact Nat.ne_of_lt (blk_lt (g := gb353) (o := .cells #[.int .i64 a0_0, .slice A0_1 l0_1.length c0_1, .slice A0_2 l0_2.length c0_2] 54 (0, 0)) (by (with_reducible repeat (first | refine qq ?_ _ | refine qj ?_ | refine qz ?_ _)); exact BK353.out)) : gb353 ≠ gb410)); have n16_ := zz ((by rw [hg]; exact Nat.ne_of_gt (blk_lt (g := gb353) (o := .cells #[.int .i64 a0_0, .slice A0_1 l0_1.length c0_1, .slice A0_2 l0_2.length c0_2] 54 (0, 0)) (by (with_reducible repeat (first | refine qq ?_ _ | refine qj ?_ | refine qz ?_ _)); exact BK353.out)) : gb410 ≠ gb353)); have n17_ := zz ((by rw [hg]; exact Nat.ne_of_lt (blk_lt (g := gb367) (o := .cells #[.slice Ao21 t362.length co21, .int .i64 t365] 32 (0, 0)) (by (with_reducible repeat (first | refine qq ?_ _ | refine qj ?_ | refine qz ?_ _)); exact BK367.out)) : gb367 ≠ gb410)); have n18_ := zz ((by rw [hg]; exact Nat.ne_of_gt (blk_lt (g := gb367) (o := .cells #[.slice Ao21 t362.length co21, .int .i64 t365] 32 (0, 0)) (by (with_reducible repeat (first | refine qq ?_ _ | refine qj ?_ | refine qz ?_ _)); exact BK367.out)) : gb410 ≠ gb367)); have n19_ := zz ((by rw [hg]; exact Nat.ne_of_lt (blk_lt (g := gb375) (o := .cells #[.int .i64 t368, .slice Ao30 t392.length co30, .slice Ao31 t393.length co31] 59 (0, 0)) (by (with_reducible repeat (first | refine qq ?_ _ | refine qj ?_ | refine qz ?_ _)); exact BK375.out)) : gb375 ≠ gb410)); have n20_ := zz ((by rw [hg]; exact Nat.ne_of_gt (blk_lt (g := gb375) (o := .cells #[.int .i64 t368, .slice Ao30 t392.length co30, .slice Ao31 t393.length co31] 59 (0, 0)) (by (with_reducible repeat (first | refine qq ?_ _ | refine qj ?_ | refine qz ?_ _)); exact BK375.out)) : gb410 ≠ gb375)); have n21_ := zz ((by rw [hg]; exact Nat.ne_of_lt (blk_lt (g := gb381) (o := .cells #[.slice Ao34 t376.length co34, .int .i64 t379] 32 (0, 0)) (by (with_reducible repeat (first | refine qq ?_ _ | refine qj ?_ | refine qz ?_ _)); exact BK381.out)) : gb381 ≠ gb410)); have n22_ := zz ((by rw [hg]; exact Nat.ne_of_gt (blk_lt (g := gb381) (o := .cells #[.slice Ao34 t376.length co34, .int .i64 t379] 32 (0, 0)) (by (with_reducible repeat (first | refine qq ?_ _ | refine qj ?_ | refine qz ?_ _)); exact BK381.out)) : gb410 ≠ gb381)); clear HO_368000; clear HO_376001; clear HO_376002; clear HO_382000; clear HO401; clear HO404; clear HO407; clear BK353; clear BK367; clear BK375; clear BK381; clear HB; have HO_368000 := n0_; have HO_376001 := n1_; have HO_376002 := n2_; have HO_382000 := n3_; have HO401 := n4_; have HO404 := n5_; have HO407 := n6_; have BK353 := n7_; have BK367 := n8_; have BK375 := n9_; have BK381 := n10_; have HB := n11_; have BK410 := n12_; have GW410 := n13_; have GE410 := n14_; have NB353_410 := n15_; have NB410_353 := n16_; have NB367_410 := n17_; have NB410_367 := n18_; have NB375_410 := n19_; have NB410_375 := n20_; have NB381_410 := n21_; have NB410_381 := n22_; clear n0_ n1_ n2_ n3_ n4_ n5_ n6_ n7_ n8_ n9_ n10_ n11_ n12_ n13_ n14_ n15_ n16_ n17_ n18_ n19_ n20_ n21_ n22_; clear hb hbox hg; obtain ⟨Ao122, co122, eo122⟩ := vk HO407.out; subst eo122; have hnb123 := NB410_353.out; have hnc123 := NB353_410.out; have hnb124 := NB410_367.out; have hnc124 := NB367_410.out; have hnb125 := NB410_375.out; have hnc125 := NB375_410.out; have hnb126 := NB410_381.out; have hnc126 := NB381_410.out; have hcz127_0 : w121.cell? ⟨gb410, 0, none⟩ = some (.slice none 0 0) := (qw BK410.out 0).trans rfl; have hcz127_1 : w121.cell? ⟨gb410, 1, none⟩ = some (.int .i64 0) := (qw BK410.out 1).trans rfl; have hfz127_0 := qx BK410.out 0; have hfz127_1 := qx BK410.out 1))
           (try simp only [Act.put, jz, yq, yj])
           go_cut [87] (fun v87 wc => ∃ (kq : Nat) (x87_105 : Bool), v87 = .bool x87_105 ∧ Aside0 (laws_FnExactCodeOfPlan.j2 kq t395 x87_105 t396 t379 = some r) ∧ Aside0 (kq ≤ kj61) ∧ Aside0 (Kd.R k109 109 wc w.heap.size (fun k_ => some k_ ≠ ((.slice Ao34 t376.length co34) : Value).ownBlock ∧ some k_ ≠ ((.slice Ao122 t405.length co122) : Value).ownBlock) (.slice Ao21 t362.length co21) t362) ∧ Aside0 (Kd.R k133 133 wc w.heap.size (fun _ => True) (.slice Ao30 t392.length co30) t392) ∧ Aside0 (Kd.R (Kd.int .i64) 3 wc w.heap.size (fun _ => True) (.slice Ao31 t393.length co31) t393) ∧ Aside0 (Kd.R k109 109 wc w.heap.size (fun k_ => some k_ ≠ ((.slice Ao21 t362.length co21) : Value).ownBlock ∧ some k_ ≠ ((.slice Ao122 t405.length co122) : Value).ownBlock) (.slice Ao34 t376.length co34) t396) ∧ Aside0 (Kd.R k109 109 wc w.heap.size (fun k_ => some k_ ≠ ((.slice Ao21 t362.length co21) : Value).ownBlock ∧ some k_ ≠ ((.slice Ao34 t376.length co34) : Value).ownBlock) (.slice Ao122 t405.length co122) t405) ∧ Aside0 (wc.heap[gb353]? = some (.cells #[.int .i64 a0_0, (.slice A0_1 l0_1.length c0_1), (.slice A0_2 l0_2.length c0_2)] 54 (0, 0))) ∧ Aside0 (wc.heap[gb367]? = some (.cells #[(.slice Ao21 t362.length co21), .int .i64 t365] 32 (0, 0))) ∧ Aside0 (wc.heap[gb375]? = some (.cells #[.int .i64 t368, (.slice Ao30 t392.length co30), (.slice Ao31 t393.length co31)] 59 (0, 0))) ∧ Aside0 (wc.heap[gb381]? = some (.cells #[(.slice Ao34 t376.length co34), .int .i64 t379] 32 (0, 0))) ∧ Aside0 (wc.heap[gb410]? = some (.cells #[(.slice Ao122 t405.length co122), .int .i64 t408] 32 (0, 0))) ∧ Aside0 (Below w.heap.size w wc))
           case first =>
            have H := HC106.out
            clear HC106
            replace H := Option.bind_eq_some_iff.mp H
            obtain ⟨t411, A1280, H⟩ := H
            replace H : (if t411 = true then (laws_FnExactCodeOfPlan.j2 kj61 t395 (t409 != t366) t396 t379) else (laws_FnExactCodeOfPlan.j2 kj61 t395 true t396 t379)) = some r := H
            have A128 := zz A1280
            clear A1280
            by_cases c129 : t411 = true
            ·subst c129
             have H1 : (laws_FnExactCodeOfPlan.j2 kj61 t395 (t409 != t366) t396 t379) = some r := by rw [if_pos rfl] at H; exact H
             clear H
             have H := H1
             clear H1
             have H' := zz H
             clear H
             have hnb130 := NB410_353.out
             have hnc130 := NB353_410.out
             have hnb131 := NB410_367.out
             have hnc131 := NB367_410.out
             have hnb132 := NB410_375.out
             have hnc132 := NB375_410.out
             have hnb133 := NB410_381.out
             have hnc133 := NB381_410.out
             have hcz134_0 : w121.cell? ⟨gb410, 0, none⟩ = some (.slice none 0 0) := (qw BK410.out 0).trans rfl
             have hcz134_1 : w121.cell? ⟨gb410, 1, none⟩ = some (.int .i64 0) := (qw BK410.out 1).trans rfl
             have hfz134_0 := qx BK410.out 0
             have hfz134_1 := qx BK410.out 1
             have hnb135 := NB367_353.out
             have hnc135 := NB353_367.out
             have hnb136 := NB367_375.out
             have hnc136 := NB375_367.out
             have hnb137 := NB367_381.out
             have hnc137 := NB381_367.out
             have hcz138_0 : w121.cell? ⟨gb367, 0, none⟩ = some (.slice Ao21 t362.length co21) := (qw BK367.out 0).trans rfl
             have hcz138_1 : w121.cell? ⟨gb367, 1, none⟩ = some (.int .i64 t365) := (qw BK367.out 1).trans rfl
             have hfz138_0 := qx BK367.out 0
             have hfz138_1 := qx BK367.out 1
             go_wp2_with (first | ((with_reducible refine yv (f := 27) rfl ?_); refine kx (some 81) rfl rfl Try.func27 (by kernel_rfl) rfl #[.agg #[.slice Ao122 t405.length co122, .int .i64 t408], .agg #[.slice Ao21 t362.length co21, .int .i64 t365]] rfl (by (try simp only [yw, List.map_cons, List.map_nil]); first | done | rfl | (simp only [yx, yk]; rfl)) ?_; (with_reducible refine (laws_eqCode.calls kj61 _ _ t405 t408 _ _ t362 t365 true _ ?side1 ?side2 ?side3 ?side4 A128.out).mono ?_); (case side1 => refine (vx (e := 109) (base := w.heap.size) (ok := fun k_ => ((True ∧ some k_ ≠ (.slice Ao21 t362.length co21 : Value).ownBlock) ∧ some k_ ≠ (.slice Ao34 t376.length co34 : Value).ownBlock)) (n := t405.length) (c := co122) ?_).2.2; exact (by (with_reducible repeat (first | apply jq | apply jj | apply jw)); exact (vj (Kd.R_far (p := ⟨gb410, 1, none⟩) (Kd.R_far (p := ⟨gb410, 0, none⟩) (Kd.R_types HO407.out BK410.out (by decide)) (fun _ hk => hk.2) (.slice Ao122 t405.length co122)) (fun _ hk => hk.2) (.int .i64 t408)) (fun _ h_ => h_.1)))); (case side2 => exact (vx HO407.out).2.1); (case side3 => refine (vx (e := 109) (base := w.heap.size) (ok := fun k_ => (some k_ ≠ (.slice Ao34 t376.length co34 : Value).ownBlock ∧ some k_ ≠ (.slice Ao122 t405.length co122 : Value).ownBlock)) (n := t362.length) (c := co21) ?_).2.2; exact (by (with_reducible repeat (first | apply jq | apply jj | apply jw)); exact (vj (Kd.R_far (p := ⟨gb410, 1, none⟩) (Kd.R_far (p := ⟨gb410, 0, none⟩) (Kd.R_types HO_368000.out BK410.out (by decide)) (fun _ hk => hk.2) (.slice Ao122 t405.length co122)) (fun _ hk => hk.2) (.int .i64 t408)) (fun _ h_ => h_.1)))); (case side4 => exact (vx HO_368000.out).2.1); rintro e w139 ⟨rfl, hb⟩; refine ⟨_, rfl, ?_⟩; have n0_ := zz (vw (by (with_reducible repeat (first | apply jq | apply jj | apply jw)); exact (vj (Kd.R_far (p := ⟨gb410, 1, none⟩) (Kd.R_far (p := ⟨gb410, 0, none⟩) (Kd.R_types HO_368000.out BK410.out (by decide)) (fun _ hk => hk.2) (.slice Ao122 t405.length co122)) (fun _ hk => hk.2) (.int .i64 t408)) (fun _ h_ => h_.1))) hb); have n1_ := zz (vw (by (with_reducible repeat (first | apply jq | apply jj | apply jw)); exact (vj (Kd.R_far (p := ⟨gb410, 1, none⟩) (Kd.R_far (p := ⟨gb410, 0, none⟩) (Kd.R_types HO_376001.out BK410.out (by decide)) (fun _ hk => hk.2) (.slice Ao122 t405.length co122)) (fun _ hk => hk.2) (.int .i64 t408)) (fun _ h_ => h_.1))) hb); have n2_ := zz (vw (by (with_reducible repeat (first | apply jq | apply jj | apply jw)); exact (vj (Kd.R_far (p := ⟨gb410, 1, none⟩) (Kd.R_far (p := ⟨gb410, 0, none⟩) (Kd.R_types HO_376002.out BK410.out (by decide)) (fun _ hk => hk.2) (.slice Ao122 t405.length co122)) (fun _ hk => hk.2) (.int .i64 t408)) (fun _ h_ => h_.1))) hb); have n3_ := zz (vw (by (with_reducible repeat (first | apply jq | apply jj | apply jw)); exact (vj (Kd.R_far (p := ⟨gb410, 1, none⟩) (Kd.R_far (p := ⟨gb410, 0, none⟩) (Kd.R_types HO_382000.out BK410.out (by decide)) (fun _ hk => hk.2) (.slice Ao122 t405.length co122)) (fun _ hk => hk.2) (.int .i64 t408)) (fun _ h_ => h_.1))) hb); have n4_ := zz (vw (by (with_reducible repeat (first | apply jq | apply jj | apply jw)); exact (vj (Kd.R_far (p := ⟨gb410, 1, none⟩) (Kd.R_far (p := ⟨gb410, 0, none⟩) (Kd.R_types HO401.out BK410.out (by decide)) (fun _ hk => hk.2) (.slice Ao122 t405.length co122)) (fun _ hk => hk.2) (.int .i64 t408)) (fun _ h_ => h_.1))) hb); have n5_ := zz (vw (by (with_reducible repeat (first | apply jq | apply jj | apply jw)); exact (vj (Kd.R_far (p := ⟨gb410, 1, none⟩) (Kd.R_far (p := ⟨gb410, 0, none⟩) (Kd.R_types HO404.out BK410.out (by decide)) (fun _ hk => hk.2) (.slice Ao122 t405.length co122)) (fun _ hk => hk.2) (.int .i64 t408)) (fun _ h_ => h_.1))) hb); have n6_ := zz (vw (by (with_reducible repeat (first | apply jq | apply jj | apply jw)); exact (vj (Kd.R_far (p := ⟨gb410, 1, none⟩) (Kd.R_far (p := ⟨gb410, 0, none⟩) (Kd.R_types HO407.out BK410.out (by decide)) (fun _ hk => hk.2) (.slice Ao122 t405.length co122)) (fun _ hk => hk.2) (.int .i64 t408)) (fun _ h_ => h_.1))) hb); have n7_ := zz (qv (g := gb353) (o := .cells #[.int .i64 a0_0, .slice A0_1 l0_1.length c0_1, .slice A0_2 l0_2.length c0_2] 54 (0, 0)) (by (with_reducible repeat (first | refine qq ?_ _ | refine qj ?_ | refine qz ?_ _)); refine blk_far ?_ NB353_410.out _; (with_reducible repeat (first | refine qq ?_ _ | refine qj ?_ | refine qz ?_ _)); refine blk_far ?_ NB353_410.out _; (with_reducible repeat (first | refine qq ?_ _ | refine qj ?_ | refine qz ?_ _)); exact BK353.out) hb); have n8_ := zz (qv (g := gb367) (o := .cells #[.slice Ao21 t362.length co21, .int .i64 t365] 32 (0, 0)) (by (with_reducible repeat (first | refine qq ?_ _ | refine qj ?_ | refine qz ?_ _)); refine blk_far ?_ NB367_410.out _; (with_reducible repeat (first | refine qq ?_ _ | refine qj ?_ | refine qz ?_ _)); refine blk_far ?_ NB367_410.out _; (with_reducible repeat (first | refine qq ?_ _ | refine qj ?_ | refine qz ?_ _)); exact BK367.out) hb); have n9_ := zz (qv (g := gb375) (o := .cells #[.int .i64 t368, .slice Ao30 t392.length co30, .slice Ao31 t393.length co31] 59 (0, 0)) (by (with_reducible repeat (first | refine qq ?_ _ | refine qj ?_ | refine qz ?_ _)); refine blk_far ?_ NB375_410.out _; (with_reducible repeat (first | refine qq ?_ _ | refine qj ?_ | refine qz ?_ _)); refine blk_far ?_ NB375_410.out _; (with_reducible repeat (first | refine qq ?_ _ | refine qj ?_ | refine qz ?_ _)); exact BK375.out) hb); have n10_ := zz (qv (g := gb381) (o := .cells #[.slice Ao34 t376.length co34, .int .i64 t379] 32 (0, 0)) (by (with_reducible repeat (first | refine qq ?_ _ | refine qj ?_ | refine qz ?_ _)); refine blk_far ?_ NB381_410.out _; (with_reducible repeat (first | refine qq ?_ _ | refine qj ?_ | refine qz ?_ _)); refine blk_far ?_ NB381_410.out _; (with_reducible repeat (first | refine qq ?_ _ | refine qj ?_ | refine qz ?_ _)); exact BK381.out) hb); have n11_ := zz (qv (g := gb410) (o := .cells #[.slice Ao122 t405.length co122, .int .i64 t408] 32 (0, 0)) (by (with_reducible repeat (first | refine qq ?_ _ | refine qj ?_ | refine qz ?_ _)); refine qk (cs := #[.slice Ao122 t405.length co122, .int .i64 0]) ?_ 1 _ rfl; (with_reducible repeat (first | refine qq ?_ _ | refine qj ?_ | refine qz ?_ _)); refine qk (cs := #[.slice none 0 0, .int .i64 0]) ?_ 0 _ rfl; (with_reducible repeat (first | refine qq ?_ _ | refine qj ?_ | refine qz ?_ _)); exact BK410.out) hb); have n12_ := zz (zk (by repeat (first | (with_reducible first | exact HB.out | apply zj | apply zq | apply zw | refine zx ?_ GE353.out | refine zx ?_ GE367.out | refine zx ?_ GE375.out | refine zx ?_ GE381.out | refine zx ?_ GE410.out) | exact HB.out)) hb); clear HO_368000; clear HO_376001; clear HO_376002; clear HO_382000; clear HO401; clear HO404; clear HO407; clear BK353; clear BK367; clear BK375; clear BK381; clear BK410; clear HB; have HO_368000 := n0_; have HO_376001 := n1_; have HO_376002 := n2_; have HO_382000 := n3_; have HO401 := n4_; have HO404 := n5_; have HO407 := n6_; have BK353 := n7_; have BK367 := n8_; have BK375 := n9_; have BK381 := n10_; have BK410 := n11_; have HB := n12_; clear n0_ n1_ n2_ n3_ n4_ n5_ n6_ n7_ n8_ n9_ n10_ n11_ n12_; (try clear hb); (try clear hb2); (try clear hk); (try clear hi)))
             go_meet
             case rel => exact ⟨_, ((t409 != t366)), (by first | rfl | (simp; done) | (simp [*]; done)), H', ⟨by have := HJ10.out; have := HJ61.out; first | omega | exact Nat.le_refl _⟩, ⟨by (try simp only [hl376001_61]); (try simp only [hl376002_61]); (with_reducible repeat (first | apply jq | apply jj | apply jw)); exact HO_368000.out⟩, ⟨by (try simp only [hl376001_61]); (try simp only [hl376002_61]); (with_reducible repeat (first | apply jq | apply jj | apply jw)); exact vj HO_376001.out (fun _ hk => trivial)⟩, ⟨by (try simp only [hl376001_61]); (try simp only [hl376002_61]); (with_reducible repeat (first | apply jq | apply jj | apply jw)); exact vj HO_376002.out (fun _ hk => trivial)⟩, ⟨by (try simp only [hl376001_61]); (try simp only [hl376002_61]); (with_reducible repeat (first | apply jq | apply jj | apply jw)); exact HO_382000.out⟩, ⟨by (try simp only [hl376001_61]); (try simp only [hl376002_61]); (with_reducible repeat (first | apply jq | apply jj | apply jw)); exact vj HO407.out (fun _ hk => ⟨hk.1.2, hk.2⟩)⟩, ⟨by (try simp only [hl376001_61]); (try simp only [hl376002_61]); (with_reducible repeat (first | refine qq ?_ _ | refine qj ?_ | refine qz ?_ _)); exact BK353.out⟩, ⟨by (try simp only [hl376001_61]); (try simp only [hl376002_61]); (with_reducible repeat (first | refine qq ?_ _ | refine qj ?_ | refine qz ?_ _)); exact BK367.out⟩, ⟨by (try simp only [hl376001_61]); (try simp only [hl376002_61]); (with_reducible repeat (first | refine qq ?_ _ | refine qj ?_ | refine qz ?_ _)); exact BK375.out⟩, ⟨by (try simp only [hl376001_61]); (try simp only [hl376002_61]); (with_reducible repeat (first | refine qq ?_ _ | refine qj ?_ | refine qz ?_ _)); exact BK381.out⟩, ⟨by (try simp only [hl376001_61]); (try simp only [hl376002_61]); (with_reducible repeat (first | refine qq ?_ _ | refine qj ?_ | refine qz ?_ _)); exact BK410.out⟩, ⟨by repeat (first | (with_reducible first | exact HB.out | apply zj | apply zq | apply zw | refine zx ?_ GE353.out | refine zx ?_ GE367.out | refine zx ?_ GE375.out | refine zx ?_ GE381.out | refine zx ?_ GE410.out) | exact HB.out)⟩⟩
            ·replace c129 := Bool.eq_false_iff.mpr c129
             subst c129
             have H1 : (laws_FnExactCodeOfPlan.j2 kj61 t395 true t396 t379) = some r := by rw [if_neg (show ¬ (false = true) by decide)] at H; exact H
             clear H
             have H := H1
             clear H1
             have H' := zz H
             clear H
             have hnb140 := NB410_353.out
             have hnc140 := NB353_410.out
             have hnb141 := NB410_367.out
             have hnc141 := NB367_410.out
             have hnb142 := NB410_375.out
             have hnc142 := NB375_410.out
             have hnb143 := NB410_381.out
             have hnc143 := NB381_410.out
             have hcz144_0 : w121.cell? ⟨gb410, 0, none⟩ = some (.slice none 0 0) := (qw BK410.out 0).trans rfl
             have hcz144_1 : w121.cell? ⟨gb410, 1, none⟩ = some (.int .i64 0) := (qw BK410.out 1).trans rfl
             have hfz144_0 := qx BK410.out 0
             have hfz144_1 := qx BK410.out 1
             have hnb145 := NB367_353.out
             have hnc145 := NB353_367.out
             have hnb146 := NB367_375.out
             have hnc146 := NB375_367.out
             have hnb147 := NB367_381.out
             have hnc147 := NB381_367.out
             have hcz148_0 : w121.cell? ⟨gb367, 0, none⟩ = some (.slice Ao21 t362.length co21) := (qw BK367.out 0).trans rfl
             have hcz148_1 : w121.cell? ⟨gb367, 1, none⟩ = some (.int .i64 t365) := (qw BK367.out 1).trans rfl
             have hfz148_0 := qx BK367.out 0
             have hfz148_1 := qx BK367.out 1
             go_wp2_with (first | ((with_reducible refine yv (f := 27) rfl ?_); refine kx (some 81) rfl rfl Try.func27 (by kernel_rfl) rfl #[.agg #[.slice Ao122 t405.length co122, .int .i64 t408], .agg #[.slice Ao21 t362.length co21, .int .i64 t365]] rfl (by (try simp only [yw, List.map_cons, List.map_nil]); first | done | rfl | (simp only [yx, yk]; rfl)) ?_; (with_reducible refine (laws_eqCode.calls kj61 _ _ t405 t408 _ _ t362 t365 false _ ?side1 ?side2 ?side3 ?side4 A128.out).mono ?_); (case side1 => refine (vx (e := 109) (base := w.heap.size) (ok := fun k_ => ((True ∧ some k_ ≠ (.slice Ao21 t362.length co21 : Value).ownBlock) ∧ some k_ ≠ (.slice Ao34 t376.length co34 : Value).ownBlock)) (n := t405.length) (c := co122) ?_).2.2; exact (by (with_reducible repeat (first | apply jq | apply jj | apply jw)); exact (vj (Kd.R_far (p := ⟨gb410, 1, none⟩) (Kd.R_far (p := ⟨gb410, 0, none⟩) (Kd.R_types HO407.out BK410.out (by decide)) (fun _ hk => hk.2) (.slice Ao122 t405.length co122)) (fun _ hk => hk.2) (.int .i64 t408)) (fun _ h_ => h_.1)))); (case side2 => exact (vx HO407.out).2.1); (case side3 => refine (vx (e := 109) (base := w.heap.size) (ok := fun k_ => (some k_ ≠ (.slice Ao34 t376.length co34 : Value).ownBlock ∧ some k_ ≠ (.slice Ao122 t405.length co122 : Value).ownBlock)) (n := t362.length) (c := co21) ?_).2.2; exact (by (with_reducible repeat (first | apply jq | apply jj | apply jw)); exact (vj (Kd.R_far (p := ⟨gb410, 1, none⟩) (Kd.R_far (p := ⟨gb410, 0, none⟩) (Kd.R_types HO_368000.out BK410.out (by decide)) (fun _ hk => hk.2) (.slice Ao122 t405.length co122)) (fun _ hk => hk.2) (.int .i64 t408)) (fun _ h_ => h_.1)))); (case side4 => exact (vx HO_368000.out).2.1); rintro e w149 ⟨rfl, hb⟩; refine ⟨_, rfl, ?_⟩; have n0_ := zz (vw (by (with_reducible repeat (first | apply jq | apply jj | apply jw)); exact (vj (Kd.R_far (p := ⟨gb410, 1, none⟩) (Kd.R_far (p := ⟨gb410, 0, none⟩) (Kd.R_types HO_368000.out BK410.out (by decide)) (fun _ hk => hk.2) (.slice Ao122 t405.length co122)) (fun _ hk => hk.2) (.int .i64 t408)) (fun _ h_ => h_.1))) hb); have n1_ := zz (vw (by (with_reducible repeat (first | apply jq | apply jj | apply jw)); exact (vj (Kd.R_far (p := ⟨gb410, 1, none⟩) (Kd.R_far (p := ⟨gb410, 0, none⟩) (Kd.R_types HO_376001.out BK410.out (by decide)) (fun _ hk => hk.2) (.slice Ao122 t405.length co122)) (fun _ hk => hk.2) (.int .i64 t408)) (fun _ h_ => h_.1))) hb); have n2_ := zz (vw (by (with_reducible repeat (first | apply jq | apply jj | apply jw)); exact (vj (Kd.R_far (p := ⟨gb410, 1, none⟩) (Kd.R_far (p := ⟨gb410, 0, none⟩) (Kd.R_types HO_376002.out BK410.out (by decide)) (fun _ hk => hk.2) (.slice Ao122 t405.length co122)) (fun _ hk => hk.2) (.int .i64 t408)) (fun _ h_ => h_.1))) hb); have n3_ := zz (vw (by (with_reducible repeat (first | apply jq | apply jj | apply jw)); exact (vj (Kd.R_far (p := ⟨gb410, 1, none⟩) (Kd.R_far (p := ⟨gb410, 0, none⟩) (Kd.R_types HO_382000.out BK410.out (by decide)) (fun _ hk => hk.2) (.slice Ao122 t405.length co122)) (fun _ hk => hk.2) (.int .i64 t408)) (fun _ h_ => h_.1))) hb); have n4_ := zz (vw (by (with_reducible repeat (first | apply jq | apply jj | apply jw)); exact (vj (Kd.R_far (p := ⟨gb410, 1, none⟩) (Kd.R_far (p := ⟨gb410, 0, none⟩) (Kd.R_types HO401.out BK410.out (by decide)) (fun _ hk => hk.2) (.slice Ao122 t405.length co122)) (fun _ hk => hk.2) (.int .i64 t408)) (fun _ h_ => h_.1))) hb); have n5_ := zz (vw (by (with_reducible repeat (first | apply jq | apply jj | apply jw)); exact (vj (Kd.R_far (p := ⟨gb410, 1, none⟩) (Kd.R_far (p := ⟨gb410, 0, none⟩) (Kd.R_types HO404.out BK410.out (by decide)) (fun _ hk => hk.2) (.slice Ao122 t405.length co122)) (fun _ hk => hk.2) (.int .i64 t408)) (fun _ h_ => h_.1))) hb); have n6_ := zz (vw (by (with_reducible repeat (first | apply jq | apply jj | apply jw)); exact (vj (Kd.R_far (p := ⟨gb410, 1, none⟩) (Kd.R_far (p := ⟨gb410, 0, none⟩) (Kd.R_types HO407.out BK410.out (by decide)) (fun _ hk => hk.2) (.slice Ao122 t405.length co122)) (fun _ hk => hk.2) (.int .i64 t408)) (fun _ h_ => h_.1))) hb); have n7_ := zz (qv (g := gb353) (o := .cells #[.int .i64 a0_0, .slice A0_1 l0_1.length c0_1, .slice A0_2 l0_2.length c0_2] 54 (0, 0)) (by (with_reducible repeat (first | refine qq ?_ _ | refine qj ?_ | refine qz ?_ _)); refine blk_far ?_ NB353_410.out _; (with_reducible repeat (first | refine qq ?_ _ | refine qj ?_ | refine qz ?_ _)); refine blk_far ?_ NB353_410.out _; (with_reducible repeat (first | refine qq ?_ _ | refine qj ?_ | refine qz ?_ _)); exact BK353.out) hb); have n8_ := zz (qv (g := gb367) (o := .cells #[.slice Ao21 t362.length co21, .int .i64 t365] 32 (0, 0)) (by (with_reducible repeat (first | refine qq ?_ _ | refine qj ?_ | refine qz ?_ _)); refine blk_far ?_ NB367_410.out _; (with_reducible repeat (first | refine qq ?_ _ | refine qj ?_ | refine qz ?_ _)); refine blk_far ?_ NB367_410.out _; (with_reducible repeat (first | refine qq ?_ _ | refine qj ?_ | refine qz ?_ _)); exact BK367.out) hb); have n9_ := zz (qv (g := gb375) (o := .cells #[.int .i64 t368, .slice Ao30 t392.length co30, .slice Ao31 t393.length co31] 59 (0, 0)) (by (with_reducible repeat (first | refine qq ?_ _ | refine qj ?_ | refine qz ?_ _)); refine blk_far ?_ NB375_410.out _; (with_reducible repeat (first | refine qq ?_ _ | refine qj ?_ | refine qz ?_ _)); refine blk_far ?_ NB375_410.out _; (with_reducible repeat (first | refine qq ?_ _ | refine qj ?_ | refine qz ?_ _)); exact BK375.out) hb); have n10_ := zz (qv (g := gb381) (o := .cells #[.slice Ao34 t376.length co34, .int .i64 t379] 32 (0, 0)) (by (with_reducible repeat (first | refine qq ?_ _ | refine qj ?_ | refine qz ?_ _)); refine blk_far ?_ NB381_410.out _; (with_reducible repeat (first | refine qq ?_ _ | refine qj ?_ | refine qz ?_ _)); refine blk_far ?_ NB381_410.out _; (with_reducible repeat (first | refine qq ?_ _ | refine qj ?_ | refine qz ?_ _)); exact BK381.out) hb); have n11_ := zz (qv (g := gb410) (o := .cells #[.slice Ao122 t405.length co122, .int .i64 t408] 32 (0, 0)) (by (with_reducible repeat (first | refine qq ?_ _ | refine qj ?_ | refine qz ?_ _)); refine qk (cs := #[.slice Ao122 t405.length co122, .int .i64 0]) ?_ 1 _ rfl; (with_reducible repeat (first | refine qq ?_ _ | refine qj ?_ | refine qz ?_ _)); refine qk (cs := #[.slice none 0 0, .int .i64 0]) ?_ 0 _ rfl; (with_reducible repeat (first | refine qq ?_ _ | refine qj ?_ | refine qz ?_ _)); exact BK410.out) hb); have n12_ := zz (zk (by repeat (first | (with_reducible first | exact HB.out | apply zj | apply zq | apply zw | refine zx ?_ GE353.out | refine zx ?_ GE367.out | refine zx ?_ GE375.out | refine zx ?_ GE381.out | refine zx ?_ GE410.out) | exact HB.out)) hb); clear HO_368000; clear HO_376001; clear HO_376002; clear HO_382000; clear HO401; clear HO404; clear HO407; clear BK353; clear BK367; clear BK375; clear BK381; clear BK410; clear HB; have HO_368000 := n0_; have HO_376001 := n1_; have HO_376002 := n2_; have HO_382000 := n3_; have HO401 := n4_; have HO404 := n5_; have HO407 := n6_; have BK353 := n7_; have BK367 := n8_; have BK375 := n9_; have BK381 := n10_; have BK410 := n11_; have HB := n12_; clear n0_ n1_ n2_ n3_ n4_ n5_ n6_ n7_ n8_ n9_ n10_ n11_ n12_; (try clear hb); (try clear hb2); (try clear hk); (try clear hi)))
             go_meet
             case rel => exact ⟨_, (true), (by first | rfl | (simp; done) | (simp [*]; done)), H', ⟨by have := HJ10.out; have := HJ61.out; first | omega | exact Nat.le_refl _⟩, ⟨by (try simp only [hl376001_61]); (try simp only [hl376002_61]); (with_reducible repeat (first | apply jq | apply jj | apply jw)); exact HO_368000.out⟩, ⟨by (try simp only [hl376001_61]); (try simp only [hl376002_61]); (with_reducible repeat (first | apply jq | apply jj | apply jw)); exact vj HO_376001.out (fun _ hk => trivial)⟩, ⟨by (try simp only [hl376001_61]); (try simp only [hl376002_61]); (with_reducible repeat (first | apply jq | apply jj | apply jw)); exact vj HO_376002.out (fun _ hk => trivial)⟩, ⟨by (try simp only [hl376001_61]); (try simp only [hl376002_61]); (with_reducible repeat (first | apply jq | apply jj | apply jw)); exact HO_382000.out⟩, ⟨by (try simp only [hl376001_61]); (try simp only [hl376002_61]); (with_reducible repeat (first | apply jq | apply jj | apply jw)); exact vj HO407.out (fun _ hk => ⟨hk.1.2, hk.2⟩)⟩, ⟨by (try simp only [hl376001_61]); (try simp only [hl376002_61]); (with_reducible repeat (first | refine qq ?_ _ | refine qj ?_ | refine qz ?_ _)); exact BK353.out⟩, ⟨by (try simp only [hl376001_61]); (try simp only [hl376002_61]); (with_reducible repeat (first | refine qq ?_ _ | refine qj ?_ | refine qz ?_ _)); exact BK367.out⟩, ⟨by (try simp only [hl376001_61]); (try simp only [hl376002_61]); (with_reducible repeat (first | refine qq ?_ _ | refine qj ?_ | refine qz ?_ _)); exact BK375.out⟩, ⟨by (try simp only [hl376001_61]); (try simp only [hl376002_61]); (with_reducible repeat (first | refine qq ?_ _ | refine qj ?_ | refine qz ?_ _)); exact BK381.out⟩, ⟨by (try simp only [hl376001_61]); (try simp only [hl376002_61]); (with_reducible repeat (first | refine qq ?_ _ | refine qj ?_ | refine qz ?_ _)); exact BK410.out⟩, ⟨by repeat (first | (with_reducible first | exact HB.out | apply zj | apply zq | apply zw | refine zx ?_ GE353.out | refine zx ?_ GE367.out | refine zx ?_ GE375.out | refine zx ?_ GE381.out | refine zx ?_ GE410.out) | exact HB.out)⟩⟩
           case rest =>
            clear HC106
            try clear c1
            try clear c2
            try clear p2
            try clear c3
            try clear c3b0
            try clear c4
            try clear c5
            try clear c6
            try clear c7
            try clear c8
            try clear c9
            try clear c10
            try clear c11
            try clear c12
            try clear c13
            try clear c14
            try clear c22
            try clear c27
            try clear c28
            try clear c30
            try clear c31
            try clear c35
            try clear c36
            try clear c37
            try clear c38
            try clear c39
            try clear c40
            try clear c41
            try clear c42
            try clear c43
            try clear c45
            try clear c46
            try clear c49
            try clear c50
            try clear c51
            try clear c53
            try clear c54
            try clear c57
            try clear c60
            try clear c68
            try clear c69
            try clear c70
            try clear c73
            try clear c73b0
            try clear c75
            try clear c76
            try clear c77
            try clear c78
            try clear c80
            try clear c81
            try clear c84
            try clear c85
            try clear c86
            try clear c88
            try clear c89
            try clear c92
            try clear c95
            try clear c95b0
            try clear c96
            try clear c97
            try clear c98
            try clear c103
            try clear c103b0
            try clear c103b1
            try clear c107
            try clear c108
            try clear c109
            try clear c114
            try clear c115
            try clear c123
            try clear c124
            try clear c125
            try clear c126
            try clear c129
            try clear c130
            try clear c131
            try clear c132
            try clear c133
            try clear c135
            try clear c136
            try clear c137
            try clear c140
            try clear c141
            try clear c142
            try clear c143
            try clear c145
            try clear c146
            try clear c147
            try clear hcz101_0
            try clear hcz101_1
            try clear hcz110_0
            try clear hcz110_1
            try clear hcz112_0
            try clear hcz112_1
            try clear hcz116_0
            try clear hcz116_1
            try clear hcz116_2
            try clear hcz127_0
            try clear hcz127_1
            try clear hcz134_0
            try clear hcz134_1
            try clear hcz138_0
            try clear hcz138_1
            try clear hcz13_0
            try clear hcz13_1
            try clear hcz13_2
            try clear hcz144_0
            try clear hcz144_1
            try clear hcz148_0
            try clear hcz148_1
            try clear hcz15_0
            try clear hcz15_1
            try clear hcz15_2
            try clear hcz23_0
            try clear hcz23_1
            try clear hcz24_0
            try clear hcz24_1
            try clear hcz24_2
            try clear hcz29_0
            try clear hcz29_1
            try clear hcz29_2
            try clear hcz38_0
            try clear hcz38_1
            try clear hcz44_0
            try clear hcz44_1
            try clear hcz47_0
            try clear hcz47_1
            try clear hcz52_0
            try clear hcz52_1
            try clear hcz55_0
            try clear hcz55_1
            try clear hcz5_0
            try clear hcz5_1
            try clear hcz5_2
            try clear hcz71_0
            try clear hcz71_1
            try clear hcz71_2
            try clear hcz79_0
            try clear hcz79_1
            try clear hcz82_0
            try clear hcz82_1
            try clear hcz87_0
            try clear hcz87_1
            try clear hcz90_0
            try clear hcz90_1
            try clear hcz99_0
            try clear hcz99_1
            try clear hfz101_0
            try clear hfz101_1
            try clear hfz110_0
            try clear hfz110_1
            try clear hfz112_0
            try clear hfz112_1
            try clear hfz116_0
            try clear hfz116_1
            try clear hfz116_2
            try clear hfz127_0
            try clear hfz127_1
            try clear hfz134_0
            try clear hfz134_1
            try clear hfz138_0
            try clear hfz138_1
            try clear hfz13_0
            try clear hfz13_1
            try clear hfz13_2
            try clear hfz144_0
            try clear hfz144_1
            try clear hfz148_0
            try clear hfz148_1
            try clear hfz15_0
            try clear hfz15_1
            try clear hfz15_2
            try clear hfz23_0
            try clear hfz23_1
            try clear hfz24_0
            try clear hfz24_1
            try clear hfz24_2
            try clear hfz29_0
            try clear hfz29_1
            try clear hfz29_2
            try clear hfz38_0
            try clear hfz38_1
            try clear hfz44_0
            try clear hfz44_1
            try clear hfz47_0
            try clear hfz47_1
            try clear hfz52_0
            try clear hfz52_1
            try clear hfz55_0
            try clear hfz55_1
            try clear hfz5_0
            try clear hfz5_1
            try clear hfz5_2
            try clear hfz71_0
            try clear hfz71_1
            try clear hfz71_2
            try clear hfz79_0
            try clear hfz79_1
            try clear hfz82_0
            try clear hfz82_1
            try clear hfz87_0
            try clear hfz87_1
            try clear hfz90_0
            try clear hfz90_1
            try clear hfz99_0
            try clear hfz99_1
            try clear p2
            obtain ⟨kq, x87_105, rfl, HA, HJ105, HO_368000, HO_376001, HO_376002, HO_382000, HO_411000, BK353, BK367, BK375, BK381, BK410, HB⟩ := hcut
            have hl382000_105 := (vx HO_382000.out).1
            rw [hl382000_105] at HO_382000
            (try simp only [hl382000_105])
            (try simp only [hl382000_105] at BK353)
            (try simp only [hl382000_105] at BK367)
            (try simp only [hl382000_105] at BK375)
            (try simp only [hl382000_105] at BK381)
            (try simp only [hl382000_105] at BK410)
            (try simp only [hl382000_105] at HO_368000)
            (try simp only [hl382000_105] at HO_376001)
            (try simp only [hl382000_105] at HO_376002)
            (try simp only [hl382000_105] at HO_411000)
            cases kq with
            | zero => exact absurd HA.out (by simp [laws_FnExactCodeOfPlan.j2])
            | succ kj105 =>
             have H := HA.out
             clear HA
             simp only [laws_FnExactCodeOfPlan.j2] at H
             by_cases c150 : x87_105 = true
             ·subst c150
              have H1 : (some false) = some r := by rw [if_pos rfl] at H; exact H
              clear H
              have H := H1
              clear H1
              obtain rfl := Option.some.inj H
              go_wp2
              go_ret
              exact ⟨by first | rfl | (simp [errW_none, errW_some] <;> rfl) | (simp [*, errW_none, errW_some] <;> rfl), by repeat (first | (with_reducible first | exact HB.out | apply zj | apply zq | apply zw | refine zx ?_ GE353.out | refine zx ?_ GE367.out | refine zx ?_ GE375.out | refine zx ?_ GE381.out | refine zx ?_ GE410.out) | exact HB.out)⟩
             ·replace c150 := Bool.eq_false_iff.mpr c150
              subst c150
              have H1 : ((laws_heldCode.f kj105 t396 t379 1).bind fun t412 => (if t412 < 0 then (some false) else (if t412 = t395 then (some true) else (some false)))) = some r := by rw [if_neg (show ¬ (false = true) by decide)] at H; exact H
              clear H
              have H := H1
              clear H1
              replace H := Option.bind_eq_some_iff.mp H
              obtain ⟨t412, A1510, H⟩ := H
              replace H : (if t412 < 0 then (some false) else (if t412 = t395 then (some true) else (some false))) = some r := H
              have A151 := zz A1510
              clear A1510
              by_cases c152 : t412 < 0
              ·rw [if_pos c152] at H
               have c152b0 : decide (t412 < 0) = true := decide_eq_true c152
               clear c152
               obtain rfl := Option.some.inj H
               have hnb153 := NB381_353.out
               have hnc153 := NB353_381.out
               have hnb154 := NB381_367.out
               have hnc154 := NB367_381.out
               have hnb155 := NB381_375.out
               have hnc155 := NB375_381.out
               have hnb156 := NB381_410.out
               have hnc156 := NB410_381.out
               have hcz157_0 : wc.cell? ⟨gb381, 0, none⟩ = some (.slice Ao34 t396.length co34) := (qw BK381.out 0).trans rfl
               have hcz157_1 : wc.cell? ⟨gb381, 1, none⟩ = some (.int .i64 t379) := (qw BK381.out 1).trans rfl
               have hfz157_0 := qx BK381.out 0
               have hfz157_1 := qx BK381.out 1
               go_wp2_with (first | ((with_reducible refine yv (f := 31) rfl ?_); refine kx (some 90) rfl rfl Try.func31 (by kernel_rfl) rfl #[.agg #[.slice Ao34 t396.length co34, .int .i64 t379], .int .i64 1] rfl (by (try simp only [yw, List.map_cons, List.map_nil]); first | done | rfl | (simp only [yx, yk]; rfl)) ?_; (with_reducible refine (laws_heldCode.calls kj105 _ _ t396 t379 1 t412 _ ?side1 ?side2 A151.out).mono ?_); (case side1 => repeat (first | exact (vx HO_382000.out).2.2 | (with_reducible refine jx ?_ _) | (with_reducible refine jk ?_ _) | (with_reducible refine jv ?_))); (case side2 => exact (vx HO_382000.out).2.1); rintro e w158 ⟨rfl, hb⟩; refine ⟨_, rfl, ?_⟩; have n0_ := zz (vw (by (with_reducible repeat (first | apply jq | apply jj | apply jw)); exact HO_368000.out) hb); have n1_ := zz (vw (by (with_reducible repeat (first | apply jq | apply jj | apply jw)); exact HO_376001.out) hb); have n2_ := zz (vw (by (with_reducible repeat (first | apply jq | apply jj | apply jw)); exact HO_376002.out) hb); have n3_ := zz (vw (by (with_reducible repeat (first | apply jq | apply jj | apply jw)); exact HO_382000.out) hb); have n4_ := zz (vw (by (with_reducible repeat (first | apply jq | apply jj | apply jw)); exact HO_411000.out) hb); have n5_ := zz (qv (g := gb353) (o := .cells #[.int .i64 a0_0, .slice A0_1 l0_1.length c0_1, .slice A0_2 l0_2.length c0_2] 54 (0, 0)) (by (with_reducible repeat (first | refine qq ?_ _ | refine qj ?_ | refine qz ?_ _)); exact BK353.out) hb); have n6_ := zz (qv (g := gb367) (o := .cells #[.slice Ao21 t362.length co21, .int .i64 t365] 32 (0, 0)) (by (with_reducible repeat (first | refine qq ?_ _ | refine qj ?_ | refine qz ?_ _)); exact BK367.out) hb); have n7_ := zz (qv (g := gb375) (o := .cells #[.int .i64 t368, .slice Ao30 t392.length co30, .slice Ao31 t393.length co31] 59 (0, 0)) (by (with_reducible repeat (first | refine qq ?_ _ | refine qj ?_ | refine qz ?_ _)); exact BK375.out) hb); have n8_ := zz (qv (g := gb381) (o := .cells #[.slice Ao34 t396.length co34, .int .i64 t379] 32 (0, 0)) (by (with_reducible repeat (first | refine qq ?_ _ | refine qj ?_ | refine qz ?_ _)); exact BK381.out) hb); have n9_ := zz (qv (g := gb410) (o := .cells #[.slice Ao122 t405.length co122, .int .i64 t408] 32 (0, 0)) (by (with_reducible repeat (first | refine qq ?_ _ | refine qj ?_ | refine qz ?_ _)); exact BK410.out) hb); have n10_ := zz (zk (by repeat (first | (with_reducible first | exact HB.out | apply zj | apply zq | apply zw | refine zx ?_ GE353.out | refine zx ?_ GE367.out | refine zx ?_ GE375.out | refine zx ?_ GE381.out | refine zx ?_ GE410.out) | exact HB.out)) hb); clear HO_368000; clear HO_376001; clear HO_376002; clear HO_382000; clear HO_411000; clear BK353; clear BK367; clear BK375; clear BK381; clear BK410; clear HB; have HO_368000 := n0_; have HO_376001 := n1_; have HO_376002 := n2_; have HO_382000 := n3_; have HO_411000 := n4_; have BK353 := n5_; have BK367 := n6_; have BK375 := n7_; have BK381 := n8_; have BK410 := n9_; have HB := n10_; clear n0_ n1_ n2_ n3_ n4_ n5_ n6_ n7_ n8_ n9_ n10_; (try clear hb); (try clear hb2); (try clear hk); (try clear hi)))
               go_ret
               exact ⟨by first | rfl | (simp [errW_none, errW_some] <;> rfl) | (simp [*, errW_none, errW_some] <;> rfl), by repeat (first | (with_reducible first | exact HB.out | apply zj | apply zq | apply zw | refine zx ?_ GE353.out | refine zx ?_ GE367.out | refine zx ?_ GE375.out | refine zx ?_ GE381.out | refine zx ?_ GE410.out) | exact HB.out)⟩
              ·rw [if_neg c152] at H
               have c152b0 : decide (t412 < 0) = false := decide_eq_false c152
               clear c152
               by_cases c159 : t412 = t395
               ·rw [if_pos c159] at H
                have c159b0 : (t412 == t395) = true := beq_iff_eq.mpr c159
                have c159b1 : (t412 != t395) = false := bne_eq_false_iff_eq.mpr c159
                clear c159
                obtain rfl := Option.some.inj H
                have hnb160 := NB381_353.out
                have hnc160 := NB353_381.out
                have hnb161 := NB381_367.out
                have hnc161 := NB367_381.out
                have hnb162 := NB381_375.out
                have hnc162 := NB375_381.out
                have hnb163 := NB381_410.out
                have hnc163 := NB410_381.out
                have hcz164_0 : wc.cell? ⟨gb381, 0, none⟩ = some (.slice Ao34 t396.length co34) := (qw BK381.out 0).trans rfl
                have hcz164_1 : wc.cell? ⟨gb381, 1, none⟩ = some (.int .i64 t379) := (qw BK381.out 1).trans rfl
                have hfz164_0 := qx BK381.out 0
                have hfz164_1 := qx BK381.out 1
                go_wp2_with (first | ((with_reducible refine yv (f := 31) rfl ?_); refine kx (some 90) rfl rfl Try.func31 (by kernel_rfl) rfl #[.agg #[.slice Ao34 t396.length co34, .int .i64 t379], .int .i64 1] rfl (by (try simp only [yw, List.map_cons, List.map_nil]); first | done | rfl | (simp only [yx, yk]; rfl)) ?_; (with_reducible refine (laws_heldCode.calls kj105 _ _ t396 t379 1 t412 _ ?side1 ?side2 A151.out).mono ?_); (case side1 => repeat (first | exact (vx HO_382000.out).2.2 | (with_reducible refine jx ?_ _) | (with_reducible refine jk ?_ _) | (with_reducible refine jv ?_))); (case side2 => exact (vx HO_382000.out).2.1); rintro e w165 ⟨rfl, hb⟩; refine ⟨_, rfl, ?_⟩; have n0_ := zz (vw (by (with_reducible repeat (first | apply jq | apply jj | apply jw)); exact HO_368000.out) hb); have n1_ := zz (vw (by (with_reducible repeat (first | apply jq | apply jj | apply jw)); exact HO_376001.out) hb); have n2_ := zz (vw (by (with_reducible repeat (first | apply jq | apply jj | apply jw)); exact HO_376002.out) hb); have n3_ := zz (vw (by (with_reducible repeat (first | apply jq | apply jj | apply jw)); exact HO_382000.out) hb); have n4_ := zz (vw (by (with_reducible repeat (first | apply jq | apply jj | apply jw)); exact HO_411000.out) hb); have n5_ := zz (qv (g := gb353) (o := .cells #[.int .i64 a0_0, .slice A0_1 l0_1.length c0_1, .slice A0_2 l0_2.length c0_2] 54 (0, 0)) (by (with_reducible repeat (first | refine qq ?_ _ | refine qj ?_ | refine qz ?_ _)); exact BK353.out) hb); have n6_ := zz (qv (g := gb367) (o := .cells #[.slice Ao21 t362.length co21, .int .i64 t365] 32 (0, 0)) (by (with_reducible repeat (first | refine qq ?_ _ | refine qj ?_ | refine qz ?_ _)); exact BK367.out) hb); have n7_ := zz (qv (g := gb375) (o := .cells #[.int .i64 t368, .slice Ao30 t392.length co30, .slice Ao31 t393.length co31] 59 (0, 0)) (by (with_reducible repeat (first | refine qq ?_ _ | refine qj ?_ | refine qz ?_ _)); exact BK375.out) hb); have n8_ := zz (qv (g := gb381) (o := .cells #[.slice Ao34 t396.length co34, .int .i64 t379] 32 (0, 0)) (by (with_reducible repeat (first | refine qq ?_ _ | refine qj ?_ | refine qz ?_ _)); exact BK381.out) hb); have n9_ := zz (qv (g := gb410) (o := .cells #[.slice Ao122 t405.length co122, .int .i64 t408] 32 (0, 0)) (by (with_reducible repeat (first | refine qq ?_ _ | refine qj ?_ | refine qz ?_ _)); exact BK410.out) hb); have n10_ := zz (zk (by repeat (first | (with_reducible first | exact HB.out | apply zj | apply zq | apply zw | refine zx ?_ GE353.out | refine zx ?_ GE367.out | refine zx ?_ GE375.out | refine zx ?_ GE381.out | refine zx ?_ GE410.out) | exact HB.out)) hb); clear HO_368000; clear HO_376001; clear HO_376002; clear HO_382000; clear HO_411000; clear BK353; clear BK367; clear BK375; clear BK381; clear BK410; clear HB; have HO_368000 := n0_; have HO_376001 := n1_; have HO_376002 := n2_; have HO_382000 := n3_; have HO_411000 := n4_; have BK353 := n5_; have BK367 := n6_; have BK375 := n7_; have BK381 := n8_; have BK410 := n9_; have HB := n10_; clear n0_ n1_ n2_ n3_ n4_ n5_ n6_ n7_ n8_ n9_ n10_; (try clear hb); (try clear hb2); (try clear hk); (try clear hi)))
                go_ret
                exact ⟨by first | rfl | (simp [errW_none, errW_some] <;> rfl) | (simp [*, errW_none, errW_some] <;> rfl), by repeat (first | (with_reducible first | exact HB.out | apply zj | apply zq | apply zw | refine zx ?_ GE353.out | refine zx ?_ GE367.out | refine zx ?_ GE375.out | refine zx ?_ GE381.out | refine zx ?_ GE410.out) | exact HB.out)⟩
               ·rw [if_neg c159] at H
                have c159b0 : (t412 == t395) = false := beq_eq_false_iff_ne.mpr c159
                have c159b1 : (t412 != t395) = true := bne_iff_ne.mpr c159
                obtain rfl := Option.some.inj H
                have hnb166 := NB381_353.out
                have hnc166 := NB353_381.out
                have hnb167 := NB381_367.out
                have hnc167 := NB367_381.out
                have hnb168 := NB381_375.out
                have hnc168 := NB375_381.out
                have hnb169 := NB381_410.out
                have hnc169 := NB410_381.out
                have hcz170_0 : wc.cell? ⟨gb381, 0, none⟩ = some (.slice Ao34 t396.length co34) := (qw BK381.out 0).trans rfl
                have hcz170_1 : wc.cell? ⟨gb381, 1, none⟩ = some (.int .i64 t379) := (qw BK381.out 1).trans rfl
                have hfz170_0 := qx BK381.out 0
                have hfz170_1 := qx BK381.out 1
                go_wp2_with (first | ((with_reducible refine yv (f := 31) rfl ?_); refine kx (some 90) rfl rfl Try.func31 (by kernel_rfl) rfl #[.agg #[.slice Ao34 t396.length co34, .int .i64 t379], .int .i64 1] rfl (by (try simp only [yw, List.map_cons, List.map_nil]); first | done | rfl | (simp only [yx, yk]; rfl)) ?_; (with_reducible refine (laws_heldCode.calls kj105 _ _ t396 t379 1 t412 _ ?side1 ?side2 A151.out).mono ?_); (case side1 => repeat (first | exact (vx HO_382000.out).2.2 | (with_reducible refine jx ?_ _) | (with_reducible refine jk ?_ _) | (with_reducible refine jv ?_))); (case side2 => exact (vx HO_382000.out).2.1); rintro e w171 ⟨rfl, hb⟩; refine ⟨_, rfl, ?_⟩; have n0_ := zz (vw (by (with_reducible repeat (first | apply jq | apply jj | apply jw)); exact HO_368000.out) hb); have n1_ := zz (vw (by (with_reducible repeat (first | apply jq | apply jj | apply jw)); exact HO_376001.out) hb); have n2_ := zz (vw (by (with_reducible repeat (first | apply jq | apply jj | apply jw)); exact HO_376002.out) hb); have n3_ := zz (vw (by (with_reducible repeat (first | apply jq | apply jj | apply jw)); exact HO_382000.out) hb); have n4_ := zz (vw (by (with_reducible repeat (first | apply jq | apply jj | apply jw)); exact HO_411000.out) hb); have n5_ := zz (qv (g := gb353) (o := .cells #[.int .i64 a0_0, .slice A0_1 l0_1.length c0_1, .slice A0_2 l0_2.length c0_2] 54 (0, 0)) (by (with_reducible repeat (first | refine qq ?_ _ | refine qj ?_ | refine qz ?_ _)); exact BK353.out) hb); have n6_ := zz (qv (g := gb367) (o := .cells #[.slice Ao21 t362.length co21, .int .i64 t365] 32 (0, 0)) (by (with_reducible repeat (first | refine qq ?_ _ | refine qj ?_ | refine qz ?_ _)); exact BK367.out) hb); have n7_ := zz (qv (g := gb375) (o := .cells #[.int .i64 t368, .slice Ao30 t392.length co30, .slice Ao31 t393.length co31] 59 (0, 0)) (by (with_reducible repeat (first | refine qq ?_ _ | refine qj ?_ | refine qz ?_ _)); exact BK375.out) hb); have n8_ := zz (qv (g := gb381) (o := .cells #[.slice Ao34 t396.length co34, .int .i64 t379] 32 (0, 0)) (by (with_reducible repeat (first | refine qq ?_ _ | refine qj ?_ | refine qz ?_ _)); exact BK381.out) hb); have n9_ := zz (qv (g := gb410) (o := .cells #[.slice Ao122 t405.length co122, .int .i64 t408] 32 (0, 0)) (by (with_reducible repeat (first | refine qq ?_ _ | refine qj ?_ | refine qz ?_ _)); exact BK410.out) hb); have n10_ := zz (zk (by repeat (first | (with_reducible first | exact HB.out | apply zj | apply zq | apply zw | refine zx ?_ GE353.out | refine zx ?_ GE367.out | refine zx ?_ GE375.out | refine zx ?_ GE381.out | refine zx ?_ GE410.out) | exact HB.out)) hb); clear HO_368000; clear HO_376001; clear HO_376002; clear HO_382000; clear HO_411000; clear BK353; clear BK367; clear BK375; clear BK381; clear BK410; clear HB; have HO_368000 := n0_; have HO_376001 := n1_; have HO_376002 := n2_; have HO_382000 := n3_; have HO_411000 := n4_; have BK353 := n5_; have BK367 := n6_; have BK375 := n7_; have BK381 := n8_; have BK410 := n9_; have HB := n10_; clear n0_ n1_ n2_ n3_ n4_ n5_ n6_ n7_ n8_ n9_ n10_; (try clear hb); (try clear hb2); (try clear hk); (try clear hi)))
                go_ret
                exact ⟨by first | rfl | (simp [errW_none, errW_some] <;> rfl) | (simp [*, errW_none, errW_some] <;> rfl), by repeat (first | (with_reducible first | exact HB.out | apply zj | apply zq | apply zw | refine zx ?_ GE353.out | refine zx ?_ GE367.out | refine zx ?_ GE375.out | refine zx ?_ GE381.out | refine zx ?_ GE410.out) | exact HB.out)⟩
          ·rw [if_neg c103] at H
           have c103b0 : (t397 == t395) = false := beq_eq_false_iff_ne.mpr c103
           have c103b1 : (t397 != t395) = true := bne_iff_ne.mpr c103
           obtain rfl := Option.some.inj H
           have hnb172 := NB381_353.out
           have hnc172 := NB353_381.out
           have hnb173 := NB381_367.out
           have hnc173 := NB367_381.out
           have hnb174 := NB381_375.out
           have hnc174 := NB375_381.out
           have hcz175_0 : wc.cell? ⟨gb381, 0, none⟩ = some (.slice Ao34 t376.length co34) := (qw BK381.out 0).trans rfl
           have hcz175_1 : wc.cell? ⟨gb381, 1, none⟩ = some (.int .i64 t379) := (qw BK381.out 1).trans rfl
           have hfz175_0 := qx BK381.out 0
           have hfz175_1 := qx BK381.out 1
           go_wp2_with (first | ((with_reducible refine yv (f := 30) rfl ?_); refine kx (some 64) rfl rfl Try.func30 (by kernel_rfl) rfl #[.agg #[.slice Ao34 t376.length co34, .int .i64 t379], .int .i64 1] rfl (by (try simp only [yw, List.map_cons, List.map_nil]); first | done | rfl | (simp only [yx, yk]; rfl)) ?_; (with_reducible refine (laws_markCode.calls kj61 (fun k_ => some k_ = (.slice Ao34 t376.length co34 : Value).ownBlock) (.slice Ao34 t376.length co34) t376 t379 1 t395 t396 w _ ?side1 ?side2 A93.out).mono ?_); (case side1 => repeat (first | (with_reducible first | exact HB.out | apply zj | apply zq | apply zw | refine zx ?_ GE353.out | refine zx ?_ GE367.out | refine zx ?_ GE375.out | refine zx ?_ GE381.out) | exact HB.out)); (case side2 => exact kw rfl HO_382000.out); rintro e w176 ⟨rfl, hy0, hb, hkp⟩; refine ⟨_, rfl, ?_⟩; have n0_ := zz (vj (ok' := fun k_ => some k_ ≠ (.slice Ao34 t376.length co34 : Value).ownBlock) (Kd.R_keptB (HO_368000.out) hkp (fun k_ hk_ hs_ => (hk_) hs_)) (fun k_ hk_ => hk_.1)); have n1_ := zz (vj (ok' := fun k_ => True) (Kd.R_keptB ((kj HO_376001.out (Kd.R_typed HO_382000.out) (by decide))) hkp (fun k_ hk_ hs_ => (hk_.2) hs_)) (fun k_ hk_ => trivial)); have n2_ := zz (vj (ok' := fun k_ => True) (Kd.R_keptB ((kj HO_376002.out (Kd.R_typed HO_382000.out) (by decide))) hkp (fun k_ hk_ hs_ => (hk_.2) hs_)) (fun k_ hk_ => trivial)); have n3_ := zz (Kd.R_reok rfl hy0 (fun k_ e_ => HO_382000.out.1 k_ e_)); have n4_ := zz (blk_kept (by (with_reducible repeat (first | refine qq ?_ _ | refine qj ?_ | refine qz ?_ _)); exact BK353.out) hkp (fun hs_ => (fun e_ => (Kd.R_ne HO_382000.out BK353.out (by decide)) e_) hs_)); have n5_ := zz (blk_kept (by (with_reducible repeat (first | refine qq ?_ _ | refine qj ?_ | refine qz ?_ _)); exact BK367.out) hkp (fun hs_ => (fun e_ => (Kd.R_ne HO_382000.out BK367.out (by decide)) e_) hs_)); have n6_ := zz (blk_kept (by (with_reducible repeat (first | refine qq ?_ _ | refine qj ?_ | refine qz ?_ _)); exact BK375.out) hkp (fun hs_ => (fun e_ => (Kd.R_ne HO_382000.out BK375.out (by decide)) e_) hs_)); have n7_ := zz (blk_kept (by (with_reducible repeat (first | refine qq ?_ _ | refine qj ?_ | refine qz ?_ _)); exact BK381.out) hkp (fun hs_ => (fun e_ => (Kd.R_ne HO_382000.out BK381.out (by decide)) e_) hs_)); have n8_ := zz (hb); clear HO_368000; clear HO_376001; clear HO_376002; clear HO_382000; clear BK353; clear BK367; clear BK375; clear BK381; clear HB; have HO_368000 := n0_; have HO_376001 := n1_; have HO_376002 := n2_; have HO_382000 := n3_; have BK353 := n4_; have BK367 := n5_; have BK375 := n6_; have BK381 := n7_; have HB := n8_; clear n0_ n1_ n2_ n3_ n4_ n5_ n6_ n7_ n8_; (try clear hb); (try clear hkp); (try clear hy0); have hcz177_0 : w176.cell? ⟨gb381, 0, none⟩ = some (.slice Ao34 t376.length co34) := (qw BK381.out 0).trans rfl; have hcz177_1 : w176.cell? ⟨gb381, 1, none⟩ = some (.int .i64 t379) := (qw BK381.out 1).trans rfl; have hfz177_0 := qx BK381.out 0; have hfz177_1 := qx BK381.out 1) | ((with_reducible refine yv (f := 31) rfl ?_); refine kx (some 67) rfl rfl Try.func31 (by kernel_rfl) rfl #[.agg #[.slice Ao34 t396.length co34, .int .i64 t379], .int .i64 1] rfl (by (try simp only [yw, List.map_cons, List.map_nil]); first | done | (rw [show t396.length = t376.length from (vx HO_382000.out).1.symm] <;> rfl) | rfl | (simp only [yx, yk]; rfl)) ?_; (with_reducible refine (laws_heldCode.calls kj61 _ _ t396 t379 1 t397 _ ?side1 ?side2 A94.out).mono ?_); (case side1 => repeat (first | exact (vx HO_382000.out).2.2 | (with_reducible refine jx ?_ _) | (with_reducible refine jk ?_ _) | (with_reducible refine jv ?_))); (case side2 => rw [show t396.length = t376.length from (vx HO_382000.out).1.symm]; exact (vx HO_382000.out).2.1); rintro e w178 ⟨rfl, hb⟩; refine ⟨_, rfl, ?_⟩; have n0_ := zz (vw (by (with_reducible repeat (first | apply jq | apply jj | apply jw)); exact HO_368000.out) hb); have n1_ := zz (vw (by (with_reducible repeat (first | apply jq | apply jj | apply jw)); exact HO_376001.out) hb); have n2_ := zz (vw (by (with_reducible repeat (first | apply jq | apply jj | apply jw)); exact HO_376002.out) hb); have n3_ := zz (vw (by (with_reducible repeat (first | apply jq | apply jj | apply jw)); exact HO_382000.out) hb); have n4_ := zz (qv (g := gb353) (o := .cells #[.int .i64 a0_0, .slice A0_1 l0_1.length c0_1, .slice A0_2 l0_2.length c0_2] 54 (0, 0)) (by (with_reducible repeat (first | refine qq ?_ _ | refine qj ?_ | refine qz ?_ _)); exact BK353.out) hb); have n5_ := zz (qv (g := gb367) (o := .cells #[.slice Ao21 t362.length co21, .int .i64 t365] 32 (0, 0)) (by (with_reducible repeat (first | refine qq ?_ _ | refine qj ?_ | refine qz ?_ _)); exact BK367.out) hb); have n6_ := zz (qv (g := gb375) (o := .cells #[.int .i64 t368, .slice Ao30 t392.length co30, .slice Ao31 t393.length co31] 59 (0, 0)) (by (with_reducible repeat (first | refine qq ?_ _ | refine qj ?_ | refine qz ?_ _)); exact BK375.out) hb); have n7_ := zz (qv (g := gb381) (o := .cells #[.slice Ao34 t376.length co34, .int .i64 t379] 32 (0, 0)) (by (with_reducible repeat (first | refine qq ?_ _ | refine qj ?_ | refine qz ?_ _)); exact BK381.out) hb); have n8_ := zz (zk (by repeat (first | (with_reducible first | exact HB.out | apply zj | apply zq | apply zw | refine zx ?_ GE353.out | refine zx ?_ GE367.out | refine zx ?_ GE375.out | refine zx ?_ GE381.out) | exact HB.out)) hb); clear HO_368000; clear HO_376001; clear HO_376002; clear HO_382000; clear BK353; clear BK367; clear BK375; clear BK381; clear HB; have HO_368000 := n0_; have HO_376001 := n1_; have HO_376002 := n2_; have HO_382000 := n3_; have BK353 := n4_; have BK367 := n5_; have BK375 := n6_; have BK381 := n7_; have HB := n8_; clear n0_ n1_ n2_ n3_ n4_ n5_ n6_ n7_ n8_; (try clear hb); (try clear hb2); (try clear hk); (try clear hi)))
           go_ret
           exact ⟨by first | rfl | (simp [errW_none, errW_some] <;> rfl) | (simp [*, errW_none, errW_some] <;> rfl), by repeat (first | (with_reducible first | exact HB.out | apply zj | apply zq | apply zw | refine zx ?_ GE353.out | refine zx ?_ GE367.out | refine zx ?_ GE375.out | refine zx ?_ GE381.out) | exact HB.out)⟩
     ·replace c60 := Bool.eq_false_iff.mpr c60
      subst c60
      have H1 : (some false) = some r := by rw [if_neg (show ¬ (false = true) by decide)] at H; exact H
      clear H
      have H := H1
      clear H1
      obtain rfl := Option.some.inj H
      try go_wp2
      have n0_ := zz (jw HO_368000.out)
      have n1_ := zz (jw HO_376001.out)
      have n2_ := zz (jw HO_376002.out)
      have n3_ := zz (jw HO_382000.out)
      have n4_ := zz (qj BK353.out)
      have n5_ := zz (qj BK367.out)
      have n6_ := zz (qj BK375.out)
      have n7_ := zz (qj BK381.out)
      have n8_ := zz (zw HB.out)
      clear HO_368000
      clear HO_376001
      clear HO_376002
      clear HO_382000
      clear BK353
      clear BK367
      clear BK375
      clear BK381
      clear HB
      have HO_368000 := n0_
      have HO_376001 := n1_
      have HO_376002 := n2_
      have HO_382000 := n3_
      have BK353 := n4_
      have BK367 := n5_
      have BK375 := n6_
      have BK381 := n7_
      have HB := n8_
      clear n0_ n1_ n2_ n3_ n4_ n5_ n6_ n7_ n8_
      refine start_ (n := 5) (S := fun w' => w'.cell? ⟨gb375, 0, none⟩ = some (.int .i64 t368) ∧ w'.cell? ⟨gb375, 1, none⟩ = some (.slice Ao30 t369.length co30) ∧ w'.cell? ⟨gb375, 2, none⟩ = some (.slice Ao31 t372.length co31) ∧ w'.cell? ⟨gb353, 0, none⟩ = some (.int .i64 a0_0) ∧ w'.cell? ⟨gb353, 1, none⟩ = some (.slice A0_1 l0_1.length c0_1) ∧ w'.cell? ⟨gb353, 2, none⟩ = some (.slice A0_2 l0_2.length c0_2)) (ds := []) #[false, false, false, false, false] (by kernel_rfl) rfl rfl ⟨(qw BK375.out 0).trans rfl, (qw BK375.out 1).trans rfl, (qw BK375.out 2).trans rfl, (qw BK353.out 0).trans rfl, (qw BK353.out 1).trans rfl, (qw BK353.out 2).trans rfl⟩ (fun hHeld => ?_)
      generalize wc.drew = w179 at HO_368000 HO_376001 HO_376002 HO_382000 BK353 BK367 BK375 BK381 HB hHeld ⊢
      refine take_ (i := 0) (N := some 41) (v := ?_) (a' := ?_) #[true, false, false, false, false] rfl rfl (by kernel_rfl) (fun _ _ _ h => h) (Or.inl ⟨by rfl, ?_⟩) hHeld ?_ ?_
      rotate_left
      ·rintro w' ⟨s0, s1, s2, s3, s4, s5⟩
       go_simp
       with_reducible rfl
      rotate_left
      ·simp only [Act.put, jz, yq, yj, kk, kv]
       rfl
      refine take_ (i := 1) (N := some 42) (v := ?_) (a' := ?_) #[true, true, false, false, false] rfl rfl (by kernel_rfl) (fun _ _ _ h => h) (Or.inl ⟨by rfl, ?_⟩) hHeld ?_ ?_
      rotate_left
      ·rintro w' ⟨s0, s1, s2, s3, s4, s5⟩
       go_simp
       with_reducible rfl
      rotate_left
      ·simp only [Act.put, jz, yq, yj, kk, kv]
       rfl
      refine one_ (i := 2) (N := some 43) #[true, true, true, false, false] rfl rfl (by kernel_rfl) (by decide) (fun K hK => ?_)
      refine goes_ Try.func38 (by kernel_rfl) rfl #[.agg #[.int .i64 a0_0, .slice A0_1 l0_1.length c0_1, .slice A0_2 l0_2.length c0_2]] (by rfl) rfl rfl (by (try simp only [yw, List.map_cons, List.map_nil]); first | done | rfl | (simp only [yx, yk]; rfl)) ?_
      with_reducible refine (laws_toPlan.calls kj10 a0_0 _ _ l0_1 _ _ l0_2 t383 t384 t387 _ ?side1 ?side2 ?side3 ?side4 A58.out).mono ?_
      (case side1 => repeat (first | exact (yz HR0_1.out HB.out) | (with_reducible refine jx ?_ _) | (with_reducible refine jk ?_ _) | (with_reducible refine jv ?_)))
      (case side2 => exact HC0_1.out)
      (case side3 => repeat (first | exact (yz HR0_2.out HB.out) | (with_reducible refine jx ?_ _) | (with_reducible refine jk ?_ _) | (with_reducible refine jv ?_)))
      (case side4 => exact HC0_2.out)
      rintro e w180 ⟨v385, v388, rfl, ho0, ho1, hb⟩
      refine ⟨_, rfl, ?_⟩
      have n0_ := zz (vw (by (with_reducible repeat (first | apply jq | apply jj | apply jw)); exact HO_368000.out) hb)
      have n1_ := zz (Kd.R_elder' (by (with_reducible repeat (first | apply jq | apply jj | apply jw)); exact HO_376001.out) (Kd.R_base ho0) hb)
      have n2_ := zz (Kd.R_elder' (by (with_reducible repeat (first | apply jq | apply jj | apply jw)); exact HO_376002.out) (Kd.R_base ho1) hb)
      have n3_ := zz (vw (by (with_reducible repeat (first | apply jq | apply jj | apply jw)); exact HO_382000.out) hb)
      have n4_ := zz (Kd.R_lower (Kd.R_new' ho0 (Kd.R_lt (by (with_reducible repeat (first | apply jq | apply jj | apply jw)); exact HO_376001.out))) (zv (by repeat (first | (with_reducible first | exact HB.out | apply zj | apply zq | apply zw | refine zx ?_ GE353.out | refine zx ?_ GE367.out | refine zx ?_ GE375.out | refine zx ?_ GE381.out) | exact HB.out))))
      have n5_ := zz (Kd.R_lower (Kd.R_new' ho1 (Kd.R_lt (by (with_reducible repeat (first | apply jq | apply jj | apply jw)); exact HO_376002.out))) (zv (by repeat (first | (with_reducible first | exact HB.out | apply zj | apply zq | apply zw | refine zx ?_ GE353.out | refine zx ?_ GE367.out | refine zx ?_ GE375.out | refine zx ?_ GE381.out) | exact HB.out))))
      have n6_ := zz (qv (g := gb353) (o := .cells #[.int .i64 a0_0, .slice A0_1 l0_1.length c0_1, .slice A0_2 l0_2.length c0_2] 54 (0, 0)) (by (with_reducible repeat (first | refine qq ?_ _ | refine qj ?_ | refine qz ?_ _)); exact BK353.out) hb)
      have n7_ := zz (qv (g := gb367) (o := .cells #[.slice Ao21 t362.length co21, .int .i64 t365] 32 (0, 0)) (by (with_reducible repeat (first | refine qq ?_ _ | refine qj ?_ | refine qz ?_ _)); exact BK367.out) hb)
      have n8_ := zz (qv (g := gb375) (o := .cells #[.int .i64 t368, .slice Ao30 t369.length co30, .slice Ao31 t372.length co31] 59 (0, 0)) (by (with_reducible repeat (first | refine qq ?_ _ | refine qj ?_ | refine qz ?_ _)); exact BK375.out) hb)
      have n9_ := zz (qv (g := gb381) (o := .cells #[.slice Ao34 t376.length co34, .int .i64 t379] 32 (0, 0)) (by (with_reducible repeat (first | refine qq ?_ _ | refine qj ?_ | refine qz ?_ _)); exact BK381.out) hb)
      have n10_ := zz (zk (by repeat (first | (with_reducible first | exact HB.out | apply zj | apply zq | apply zw | refine zx ?_ GE353.out | refine zx ?_ GE367.out | refine zx ?_ GE375.out | refine zx ?_ GE381.out) | exact HB.out)) hb)
      clear HO_368000
      clear HO_376001
      clear HO_376002
      clear HO_382000
      clear BK353
      clear BK367
      clear BK375
      clear BK381
      clear HB
      have HO_368000 := n0_
      have HO_376001 := n1_
      have HO_376002 := n2_
      have HO_382000 := n3_
      have HO386 := n4_
      have HO389 := n5_
      have BK353 := n6_
      have BK367 := n7_
      have BK375 := n8_
      have BK381 := n9_
      have HB := n10_
      clear n0_ n1_ n2_ n3_ n4_ n5_ n6_ n7_ n8_ n9_ n10_
      (try clear hb)
      (try clear hb2)
      (try clear hk)
      (try clear hi)
      (try clear ho0)
      (try clear ho1)
      obtain ⟨Ao181, co181, eo181⟩ := vk HO386.out
      (first | subst eo181 | (injection eo181 with f1_ f2_ f3_; have f4_ := f1_.symm; have f5_ := f3_.symm; clear f1_ f2_ f3_; subst f4_; subst f5_))
      obtain ⟨Ao182, co182, eo182⟩ := vk HO389.out
      (first | subst eo182 | (injection eo182 with f1_ f2_ f3_; have f4_ := f1_.symm; have f5_ := f3_.symm; clear f1_ f2_ f3_; subst f4_; subst f5_))
      refine hK.out _ _ ⟨(qw BK375.out 0).trans rfl, (qw BK375.out 1).trans rfl, (qw BK375.out 2).trans rfl, (qw BK353.out 0).trans rfl, (qw BK353.out 1).trans rfl, (qw BK353.out 2).trans rfl⟩ (fun hHeld => ?_)
      clear hK K
      refine norm_ (a' := ?_) ?_ ?_
      rotate_left
      ·show Act.put _ (some 43) _ = _
       simp only [Act.put, jz, yq, yj, kk, kv]
       rfl
      refine one_ (i := 3) (N := some 44) #[true, true, true, true, false] rfl rfl (by kernel_rfl) (by decide) (fun K hK => ?_)
      refine goes_ Try.func40 (by kernel_rfl) rfl #[.agg #[.int .i64 t368, .slice Ao30 t369.length co30, .slice Ao31 t372.length co31], .agg #[.int .i64 t383, .slice Ao181 t384.length co181, .slice Ao182 t387.length co182]] (by rfl) rfl rfl (by (try simp only [yw, List.map_cons, List.map_nil]); first | done | rfl | (simp only [yx, yk]; rfl)) ?_
      with_reducible refine (laws_eqPlan.calls kj10 t368 _ _ t369 _ _ t372 t383 _ _ t384 _ _ t387 false _ ?side1 ?side2 ?side3 ?side4 ?side5 ?side6 ?side7 ?side8 A59.out).mono ?_
      (case side1 => repeat (first | exact (vx HO_376001.out).2.2 | (with_reducible refine jx ?_ _) | (with_reducible refine jk ?_ _) | (with_reducible refine jv ?_)))
      (case side2 => exact (vx HO_376001.out).2.1)
      (case side3 => repeat (first | exact (vx HO_376002.out).2.2 | (with_reducible refine jx ?_ _) | (with_reducible refine jk ?_ _) | (with_reducible refine jv ?_)))
      (case side4 => exact (vx HO_376002.out).2.1)
      (case side5 => repeat (first | exact (vx HO386.out).2.2 | (with_reducible refine jx ?_ _) | (with_reducible refine jk ?_ _) | (with_reducible refine jv ?_)))
      (case side6 => exact (vx HO386.out).2.1)
      (case side7 => repeat (first | exact (vx HO389.out).2.2 | (with_reducible refine jx ?_ _) | (with_reducible refine jk ?_ _) | (with_reducible refine jv ?_)))
      (case side8 => exact (vx HO389.out).2.1)
      rintro e w183 ⟨rfl, hb⟩
      refine ⟨_, rfl, ?_⟩
      have n0_ := zz (vw (by (with_reducible repeat (first | apply jq | apply jj | apply jw)); exact HO_368000.out) hb)
      have n1_ := zz (vw (by (with_reducible repeat (first | apply jq | apply jj | apply jw)); exact HO_376001.out) hb)
      have n2_ := zz (vw (by (with_reducible repeat (first | apply jq | apply jj | apply jw)); exact HO_376002.out) hb)
      have n3_ := zz (vw (by (with_reducible repeat (first | apply jq | apply jj | apply jw)); exact HO_382000.out) hb)
      have n4_ := zz (vw (by (with_reducible repeat (first | apply jq | apply jj | apply jw)); exact HO386.out) hb)
      have n5_ := zz (vw (by (with_reducible repeat (first | apply jq | apply jj | apply jw)); exact HO389.out) hb)
      have n6_ := zz (qv (g := gb353) (o := .cells #[.int .i64 a0_0, .slice A0_1 l0_1.length c0_1, .slice A0_2 l0_2.length c0_2] 54 (0, 0)) (by (with_reducible repeat (first | refine qq ?_ _ | refine qj ?_ | refine qz ?_ _)); exact BK353.out) hb)
      have n7_ := zz (qv (g := gb367) (o := .cells #[.slice Ao21 t362.length co21, .int .i64 t365] 32 (0, 0)) (by (with_reducible repeat (first | refine qq ?_ _ | refine qj ?_ | refine qz ?_ _)); exact BK367.out) hb)
      have n8_ := zz (qv (g := gb375) (o := .cells #[.int .i64 t368, .slice Ao30 t369.length co30, .slice Ao31 t372.length co31] 59 (0, 0)) (by (with_reducible repeat (first | refine qq ?_ _ | refine qj ?_ | refine qz ?_ _)); exact BK375.out) hb)
      have n9_ := zz (qv (g := gb381) (o := .cells #[.slice Ao34 t376.length co34, .int .i64 t379] 32 (0, 0)) (by (with_reducible repeat (first | refine qq ?_ _ | refine qj ?_ | refine qz ?_ _)); exact BK381.out) hb)
      have n10_ := zz (zk (by repeat (first | (with_reducible first | exact HB.out | apply zj | apply zq | apply zw | refine zx ?_ GE353.out | refine zx ?_ GE367.out | refine zx ?_ GE375.out | refine zx ?_ GE381.out) | exact HB.out)) hb)
      clear HO_368000
      clear HO_376001
      clear HO_376002
      clear HO_382000
      clear HO386
      clear HO389
      clear BK353
      clear BK367
      clear BK375
      clear BK381
      clear HB
      have HO_368000 := n0_
      have HO_376001 := n1_
      have HO_376002 := n2_
      have HO_382000 := n3_
      have HO386 := n4_
      have HO389 := n5_
      have BK353 := n6_
      have BK367 := n7_
      have BK375 := n8_
      have BK381 := n9_
      have HB := n10_
      clear n0_ n1_ n2_ n3_ n4_ n5_ n6_ n7_ n8_ n9_ n10_
      (try clear hb)
      (try clear hb2)
      (try clear hk)
      (try clear hi)
      refine hK.out _ _ ⟨(qw BK375.out 0).trans rfl, (qw BK375.out 1).trans rfl, (qw BK375.out 2).trans rfl, (qw BK353.out 0).trans rfl, (qw BK353.out 1).trans rfl, (qw BK353.out 2).trans rfl⟩ (fun hHeld => ?_)
      clear hK K
      refine norm_ (a' := ?_) ?_ ?_
      rotate_left
      ·show Act.put _ (some 44) _ = _
       simp only [Act.put, jz, yq, yj, kk, kv]
       rfl
      refine pure_ (i := 4) (N := some 45) (v := ?_) (a' := ?_) #[true, true, true, true, true] rfl rfl (by kernel_rfl) (fun _ _ _ h => h) (Or.inl ⟨by rfl, ?_⟩) ?_ ?_
      rotate_left
      ·intro w'
       go_simp
       with_reducible rfl
      rotate_left
      ·simp only [Act.put, jz, yq, yj, kk, kv]
       rfl
      refine done_ (by kernel_rfl) ?_
      try go_wp2
      go_ret
      exact ⟨by first | rfl | (simp [errW_none, errW_some] <;> rfl) | (simp [*, errW_none, errW_some] <;> rfl), by repeat (first | (with_reducible first | exact HB.out | apply zj | apply zq | apply zw | refine zx ?_ GE353.out | refine zx ?_ GE367.out | refine zx ?_ GE375.out | refine zx ?_ GE381.out) | exact HB.out)⟩

/-- THE ONE PURE STATEMENT of laws_FnExactCodeOfPlan: yours. -/
def laws_FnExactCodeOfPlan.Pure : Prop := ∀ (a0_0 : Int) (l0_1 : List (S170)) (l0_2 : List Int), (Lit.int .i64 a0_0).wf = true → l0_1.length ≤ maxLen → l0_1.length * 16 ≤ 140737488351232 → (∀ x ∈ l0_1, (Lit.int .i64 x.f0).wf = true ∧ (Lit.int .i64 x.f1).wf = true) → l0_2.length ≤ maxLen → l0_2.length * 8 ≤ 140737488351232 → (∀ x ∈ l0_2, (Lit.int .i64 x).wf = true) → ∃ k, laws_FnExactCodeOfPlan.f k a0_0 l0_1 l0_2 = some true
theorem laws_FnExactCodeOfPlan.walk (P : laws_FnExactCodeOfPlan.Pure) (a0_0 : Int) (A0_1 : Option Addr) (c0_1 : Nat) (l0_1 : List (S170)) (A0_2 : Option Addr) (c0_2 : Nat) (l0_2 : List Int) (w : World) (w0_0 : (Lit.int .i64 a0_0).wf = true) (hr0_1 : Kd.C k170 w A0_1 l0_1.length l0_1) (hc0_1 : l0_1.length ≤ c0_1) (m0_1 : l0_1.length ≤ maxLen) (y0_1 : l0_1.length * 16 ≤ 140737488351232) (w0_1 : (∀ x ∈ l0_1, (Lit.int .i64 x.f0).wf = true ∧ (Lit.int .i64 x.f1).wf = true)) (hr0_2 : Kd.C (Kd.int .i64) w A0_2 l0_2.length l0_2) (hc0_2 : l0_2.length ≤ c0_2) (m0_2 : l0_2.length ≤ maxLen) (y0_2 : l0_2.length * 8 ≤ 140737488351232) (w0_2 : (∀ x ∈ l0_2, (Lit.int .i64 x).wf = true)) :
  Calls Try.prog 6 #[.agg #[.int .i64 a0_0, .slice A0_1 l0_1.length c0_1, .slice A0_2 l0_2.length c0_2]] w fun e w' => e = .returned (.bool true) ∧ Below w.heap.size w w' := by
 obtain ⟨k, h⟩ := P a0_0 l0_1 l0_2 w0_0 m0_1 y0_1 w0_1 m0_2 y0_2 w0_2
 refine (laws_FnExactCodeOfPlan.calls k a0_0 _ _ l0_1 _ _ l0_2 true w hr0_1 hc0_1 hr0_2 hc0_2 h).mono ?_
 rintro e w' ⟨rfl, hd⟩
 exact ⟨rfl, hd⟩

end Go.Proofs.Ytlmoemahamneoaa.PFnExactCodeOfPlan
