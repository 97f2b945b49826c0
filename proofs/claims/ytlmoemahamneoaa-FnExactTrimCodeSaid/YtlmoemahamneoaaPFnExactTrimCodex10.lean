-- Written by gprint.py, a program of this session, out of the translation (a changed print).
import Derived.Test.YtlmoemahamneoaaPFnExactTrimCodex0
import Derived.Test.YtlmoemahamneoaaPFnExactTrimCodex1
import Derived.Test.YtlmoemahamneoaaPFnExactTrimCodex2
import Derived.Test.YtlmoemahamneoaaPFnExactTrimCodex6
import Derived.Test.YtlmoemahamneoaaPFnExactTrimCodex9
namespace Go.Proofs.Ytlmoemahamneoaa.PFnExactTrimCode
open Go.RowKit Go.Proofs.YtlmoemahamneoaaW.PrintWords Go.Proofs.YtlmoemahamneoaaW.PrintLast Go.Proofs.YtlmoemahamneoaaW.PrintMore
attribute [local go_sem] max2_int min2_int max_two min_two max_three min_three max_four min_four   -- for this text's walks alone
set_option linter.unusedVariables false
set_option linter.unusedSimpArgs false

/-! ### laws_FnExactTrimCode: function 5 -/
mutual
def laws_FnExactTrimCode.j0 : Nat → Bool → Bool → Bool → List (S166) → Int → List (S109) → Int → List (S109) → Int → List (S109) → Int → Option (Bool)
  | 0, _, _, _, _, _, _, _, _, _, _, _ => none
  | k + 1, x5, x8, x40, x369000, x369001, x380000, x380001, x385000, x385001, x391000, x391001 => if x40 = true then (some false) else ((laws_toCode.f k x369000 x369001).bind fun bt392 => ((laws_eqCode.f k x385000 x385001 bt392.1 bt392.2).bind fun t396 => (if t396 = true then ((laws_markCode.f k x385000 x385001 1).bind fun bt397 => (if bt397.1 < 0 then (laws_FnExactTrimCode.j1 k x5 true x369000 x369001 x380000 x380001 x391000 x391001) else ((laws_eqCode.f k x391000 x391001 x380000 x380001).bind fun t399 => (if t399 = true then (laws_FnExactTrimCode.j1 k x5 (x8 != x5) x369000 x369001 x380000 x380001 x391000 x391001) else (laws_FnExactTrimCode.j1 k x5 true x369000 x369001 x380000 x380001 x391000 x391001))))) else (some false))))
def laws_FnExactTrimCode.j1 : Nat → Bool → Bool → List (S166) → Int → List (S109) → Int → List (S109) → Int → Option (Bool)
  | 0, _, _, _, _, _, _, _, _ => none
  | k + 1, x5, x61, x369000, x369001, x380000, x380001, x391000, x391001 => if x61 = true then (some false) else ((laws_markCode.f k x391000 x391001 1).bind fun bt400 => ((laws_heldCode.f k bt400.2 x391001 1).bind fun t402 => (if t402 < 0 then (some false) else (if t402 = bt400.1 then ((laws_toCode.f k x369000 x369001).bind fun bt403 => ((impl_TrimCode.f k bt403.1 bt403.2).bind fun bt407 => ((laws_eqCode.f k bt407.1 bt407.2.1 x380000 x380001).bind fun t413 => (if t413 = true then (laws_FnExactTrimCode.j2 k bt400.1 (bt407.2.2 != x5) bt400.2 x391001) else (laws_FnExactTrimCode.j2 k bt400.1 true bt400.2 x391001))))) else (some false)))))
def laws_FnExactTrimCode.j2 : Nat → Int → Bool → List (S109) → Int → Option (Bool)
  | 0, _, _, _, _ => none
  | k + 1, x10, x87, x391000, x391001 => if x87 = true then (some false) else ((laws_heldCode.f k x391000 x391001 1).bind fun t414 => (if t414 < 0 then (some false) else (if t414 = x10 then (some true) else (some false))))
end
def laws_FnExactTrimCode.f (k : Nat) (l0_0 : List (S166)) (a0_1 : Int) : Option (Bool) := (laws_szCode.f l0_0 a0_1 1048576).bind fun t369 => (if t369 < 0 then (some true) else ((laws_toCode.f k l0_0 a0_1).bind fun bt370 => ((spec_TrimCode.f k bt370.1 bt370.2).bind fun bt374 => ((laws_toCode.f k l0_0 a0_1).bind fun bt380 => ((impl_TrimCode.f k bt380.1 bt380.2).bind fun bt385 => ((laws_eqCode.f k bt385.1 bt385.2.1 bt374.1 bt374.2.1).bind fun t391 => (if t391 = true then (laws_FnExactTrimCode.j0 k bt374.2.2 bt385.2.2 (bt385.2.2 != bt374.2.2) l0_0 a0_1 bt374.1 bt374.2.1 bt380.1 bt380.2 bt385.1 bt385.2.1) else (laws_FnExactTrimCode.j0 k bt374.2.2 bt385.2.2 true l0_0 a0_1 bt374.1 bt374.2.1 bt380.1 bt380.2 bt385.1 bt385.2.1))))))))
theorem laws_FnExactTrimCode.mono_l : ∀ k, (∀ y0 y1 y2 y3 y4 y5 y6 y7 y8 y9 y10, LeO (laws_FnExactTrimCode.j0 k y0 y1 y2 y3 y4 y5 y6 y7 y8 y9 y10) (laws_FnExactTrimCode.j0 (k + 1) y0 y1 y2 y3 y4 y5 y6 y7 y8 y9 y10)) ∧ (∀ y0 y1 y2 y3 y4 y5 y6 y7, LeO (laws_FnExactTrimCode.j1 k y0 y1 y2 y3 y4 y5 y6 y7) (laws_FnExactTrimCode.j1 (k + 1) y0 y1 y2 y3 y4 y5 y6 y7)) ∧ (∀ y0 y1 y2 y3, LeO (laws_FnExactTrimCode.j2 k y0 y1 y2 y3) (laws_FnExactTrimCode.j2 (k + 1) y0 y1 y2 y3))
  | 0 => ⟨fun _ _ _ _ _ _ _ _ _ _ _ r h => by simp [laws_FnExactTrimCode.j0] at h, fun _ _ _ _ _ _ _ _ r h => by simp [laws_FnExactTrimCode.j1] at h, fun _ _ _ _ r h => by simp [laws_FnExactTrimCode.j2] at h⟩
  | k + 1 => by
    obtain ⟨ih0, ih1, ih2⟩ := laws_FnExactTrimCode.mono_l k
    refine ⟨?_, ?_, ?_⟩
    · intro y0 y1 y2 y3 y4 y5 y6 y7 y8 y9 y10
      unfold laws_FnExactTrimCode.j0
      repeat' first
      | (with_reducible exact ih0 _ _ _ _ _ _ _ _ _ _ _)
      | (with_reducible exact ih1 _ _ _ _ _ _ _ _)
      | (with_reducible exact ih2 _ _ _ _)
      | (with_reducible exact impl_TrimCode.mono _ _ _)
      | (with_reducible exact laws_eqCode.mono _ _ _ _ _)
      | (with_reducible exact laws_heldCode.mono _ _ _ _)
      | (with_reducible exact laws_markCode.mono _ _ _ _)
      | (with_reducible exact laws_toCode.mono _ _ _)
      | (with_reducible exact spec_TrimCode.mono _ _ _)
      | (with_reducible exact LeO.refl _)
      | (with_reducible exact LeO.none _)
      | (with_reducible refine LeO.ite ?_ ?_)
      | (with_reducible refine LeO.bind ?_ (fun _ => ?_))
      | exact ih0 _ _ _ _ _ _ _ _ _ _ _
      | exact ih1 _ _ _ _ _ _ _ _
      | exact ih2 _ _ _ _
      | exact impl_TrimCode.mono _ _ _
      | exact laws_eqCode.mono _ _ _ _ _
      | exact laws_heldCode.mono _ _ _ _
      | exact laws_markCode.mono _ _ _ _
      | exact laws_toCode.mono _ _ _
      | exact spec_TrimCode.mono _ _ _
      | exact LeO.none _
      | refine LeO.ite ?_ ?_
      | refine LeO.bind ?_ (fun _ => ?_)
    · intro y0 y1 y2 y3 y4 y5 y6 y7
      unfold laws_FnExactTrimCode.j1
      repeat' first
      | (with_reducible exact ih0 _ _ _ _ _ _ _ _ _ _ _)
      | (with_reducible exact ih1 _ _ _ _ _ _ _ _)
      | (with_reducible exact ih2 _ _ _ _)
      | (with_reducible exact impl_TrimCode.mono _ _ _)
      | (with_reducible exact laws_eqCode.mono _ _ _ _ _)
      | (with_reducible exact laws_heldCode.mono _ _ _ _)
      | (with_reducible exact laws_markCode.mono _ _ _ _)
      | (with_reducible exact laws_toCode.mono _ _ _)
      | (with_reducible exact spec_TrimCode.mono _ _ _)
      | (with_reducible exact LeO.refl _)
      | (with_reducible exact LeO.none _)
      | (with_reducible refine LeO.ite ?_ ?_)
      | (with_reducible refine LeO.bind ?_ (fun _ => ?_))
      | exact ih0 _ _ _ _ _ _ _ _ _ _ _
      | exact ih1 _ _ _ _ _ _ _ _
      | exact ih2 _ _ _ _
      | exact impl_TrimCode.mono _ _ _
      | exact laws_eqCode.mono _ _ _ _ _
      | exact laws_heldCode.mono _ _ _ _
      | exact laws_markCode.mono _ _ _ _
      | exact laws_toCode.mono _ _ _
      | exact spec_TrimCode.mono _ _ _
      | exact LeO.none _
      | refine LeO.ite ?_ ?_
      | refine LeO.bind ?_ (fun _ => ?_)
    · intro y0 y1 y2 y3
      unfold laws_FnExactTrimCode.j2
      repeat' first
      | (with_reducible exact ih0 _ _ _ _ _ _ _ _ _ _ _)
      | (with_reducible exact ih1 _ _ _ _ _ _ _ _)
      | (with_reducible exact ih2 _ _ _ _)
      | (with_reducible exact impl_TrimCode.mono _ _ _)
      | (with_reducible exact laws_eqCode.mono _ _ _ _ _)
      | (with_reducible exact laws_heldCode.mono _ _ _ _)
      | (with_reducible exact laws_markCode.mono _ _ _ _)
      | (with_reducible exact laws_toCode.mono _ _ _)
      | (with_reducible exact spec_TrimCode.mono _ _ _)
      | (with_reducible exact LeO.refl _)
      | (with_reducible exact LeO.none _)
      | (with_reducible refine LeO.ite ?_ ?_)
      | (with_reducible refine LeO.bind ?_ (fun _ => ?_))
      | exact ih0 _ _ _ _ _ _ _ _ _ _ _
      | exact ih1 _ _ _ _ _ _ _ _
      | exact ih2 _ _ _ _
      | exact impl_TrimCode.mono _ _ _
      | exact laws_eqCode.mono _ _ _ _ _
      | exact laws_heldCode.mono _ _ _ _
      | exact laws_markCode.mono _ _ _ _
      | exact laws_toCode.mono _ _ _
      | exact spec_TrimCode.mono _ _ _
      | exact LeO.none _
      | refine LeO.ite ?_ ?_
      | refine LeO.bind ?_ (fun _ => ?_)
theorem laws_FnExactTrimCode.mono : ∀ a0 a1 k, LeO (laws_FnExactTrimCode.f k a0 a1) (laws_FnExactTrimCode.f (k + 1) a0 a1) := by
  intro a0 a1 k
  obtain ⟨ih0, ih1, ih2⟩ := laws_FnExactTrimCode.mono_l k
  unfold laws_FnExactTrimCode.f
  repeat' first
      | (with_reducible exact ih0 _ _ _ _ _ _ _ _ _ _ _)
      | (with_reducible exact ih1 _ _ _ _ _ _ _ _)
      | (with_reducible exact ih2 _ _ _ _)
      | (with_reducible exact impl_TrimCode.mono _ _ _)
      | (with_reducible exact laws_eqCode.mono _ _ _ _ _)
      | (with_reducible exact laws_heldCode.mono _ _ _ _)
      | (with_reducible exact laws_markCode.mono _ _ _ _)
      | (with_reducible exact laws_toCode.mono _ _ _)
      | (with_reducible exact spec_TrimCode.mono _ _ _)
      | (with_reducible exact LeO.refl _)
      | (with_reducible exact LeO.none _)
      | (with_reducible refine LeO.ite ?_ ?_)
      | (with_reducible refine LeO.bind ?_ (fun _ => ?_))
      | exact ih0 _ _ _ _ _ _ _ _ _ _ _
      | exact ih1 _ _ _ _ _ _ _ _
      | exact ih2 _ _ _ _
      | exact impl_TrimCode.mono _ _ _
      | exact laws_eqCode.mono _ _ _ _ _
      | exact laws_heldCode.mono _ _ _ _
      | exact laws_markCode.mono _ _ _ _
      | exact laws_toCode.mono _ _ _
      | exact spec_TrimCode.mono _ _ _
      | exact LeO.none _
      | refine LeO.ite ?_ ?_
      | refine LeO.bind ?_ (fun _ => ?_)
set_option maxHeartbeats 8000000 in
set_option maxRecDepth 100000 in
theorem laws_FnExactTrimCode.calls (k : Nat) (A0_0 : Option Addr) (c0_0 : Nat) (l0_0 : List (S166)) (a0_1 : Int) (r : Bool) (w : World) (hr0_0 : Kd.C k166 w A0_0 l0_0.length l0_0) (hc0_0 : l0_0.length ≤ c0_0) (h : laws_FnExactTrimCode.f k l0_0 a0_1 = some r) :
    Calls Try.prog 5 #[.agg #[.slice A0_0 l0_0.length c0_0, .int .i64 a0_1]] w fun e w' => e = .returned (.bool r) ∧ Below w.heap.size w w' := by
  have hu47 := Try.underlying47
  have hu32 := Try.underlying32
  have HR0_0 := Aside0.mk hr0_0
  have HC0_0 := Aside0.mk hc0_0
  clear hr0_0 hc0_0
  have HB := Aside0.mk (Below.refl w.heap.size w)
  have H : ((laws_szCode.f l0_0 a0_1 1048576).bind fun t369 => (if t369 < 0 then (some true) else ((laws_toCode.f k l0_0 a0_1).bind fun bt370 => ((spec_TrimCode.f k bt370.1 bt370.2).bind fun bt374 => ((laws_toCode.f k l0_0 a0_1).bind fun bt380 => ((impl_TrimCode.f k bt380.1 bt380.2).bind fun bt385 => ((laws_eqCode.f k bt385.1 bt385.2.1 bt374.1 bt374.2.1).bind fun t391 => (if t391 = true then (laws_FnExactTrimCode.j0 k bt374.2.2 bt385.2.2 (bt385.2.2 != bt374.2.2) l0_0 a0_1 bt374.1 bt374.2.1 bt380.1 bt380.2 bt385.1 bt385.2.1) else (laws_FnExactTrimCode.j0 k bt374.2.2 bt385.2.2 true l0_0 a0_1 bt374.1 bt374.2.1 bt380.1 bt380.2 bt385.1 bt385.2.1))))))))) = some r := h
  clear h
  replace H := Option.bind_eq_some_iff.mp H
  obtain ⟨t369, A20, H⟩ := H
  replace H : (if t369 < 0 then (some true) else ((laws_toCode.f k l0_0 a0_1).bind fun bt370 => ((spec_TrimCode.f k bt370.1 bt370.2).bind fun bt374 => ((laws_toCode.f k l0_0 a0_1).bind fun bt380 => ((impl_TrimCode.f k bt380.1 bt380.2).bind fun bt385 => ((laws_eqCode.f k bt385.1 bt385.2.1 bt374.1 bt374.2.1).bind fun t391 => (if t391 = true then (laws_FnExactTrimCode.j0 k bt374.2.2 bt385.2.2 (bt385.2.2 != bt374.2.2) l0_0 a0_1 bt374.1 bt374.2.1 bt380.1 bt380.2 bt385.1 bt385.2.1) else (laws_FnExactTrimCode.j0 k bt374.2.2 bt385.2.2 true l0_0 a0_1 bt374.1 bt374.2.1 bt380.1 bt380.2 bt385.1 bt385.2.1)))))))) = some r := H
  have A2 := Aside0.mk A20
  clear A20
  by_cases c3 : t369 < 0
  · rw [if_pos c3] at H
    have c3b0 : decide (t369 < 0) = true := decide_eq_true c3
    clear c3
    obtain rfl := Option.some.inj H
    go_enter Try.func5, Try.ntmps5
    go_wp2_with (first | ((with_reducible refine gate_dst (N := 1) rfl ?_); refine box_event ?hg (N := 1) ?hd (cs := #[.slice A0_0 l0_0.length c0_0, .int .i64 a0_1]) (t := 47) ?hr ?_; (case hd => rfl); (case hg => rfl); (case hr => first | (go_simp; done) | (go_simp; rfl)); intro gb368 hg w4 hbox hb; have n0_ := Aside0.mk (below_step (by repeat (first | (with_reducible first | exact HB.out | apply below_alloc | apply pw_below_drewN | apply below_drew1) | exact HB.out)) hb); have n1_ := Aside0.mk (hbox); have n2_ := Aside0.mk ((by rw [hg]; exact (below_size (by repeat (first | (with_reducible first | exact HB.out | apply below_alloc | apply pw_below_drewN | apply below_drew1) | exact HB.out))) : w.heap.size ≤ gb368)); have n3_ := Aside0.mk ((by rw [hg]; exact (below_size (by repeat (first | (with_reducible first | exact HB.out | apply below_alloc | apply pw_below_drewN | apply below_drew1) | exact HB.out))) : w.heap.size ≤ gb368)); clear HB; have HB := n0_; have BK368 := n1_; have GW368 := n2_; have GE368 := n3_; clear n0_ n1_ n2_ n3_; clear hb hbox hg; have hcz5_0 : w4.cell? ⟨gb368, 0, none⟩ = some (.slice A0_0 l0_0.length c0_0) := (blk_cell BK368.out 0).trans rfl; have hcz5_1 : w4.cell? ⟨gb368, 1, none⟩ = some (.int .i64 a0_1) := (blk_cell BK368.out 1).trans rfl; have hfz5_0 := blk_frozen BK368.out 0; have hfz5_1 := blk_frozen BK368.out 1) | ((with_reducible refine gate_callee (f := 32) rfl ?_); refine goesL_ (some 16) rfl rfl Try.func32 (by kernel_rfl) rfl #[.agg #[.slice A0_0 l0_0.length c0_0, .int .i64 a0_1], .int .i64 1048576] rfl (by (try simp only [List.map_toArray, List.map_cons, List.map_nil]); first | done | rfl | (simp only [List.length_drop, List.length_take]; rfl)) ?_; (with_reducible refine (laws_szCode.calls _ _ l0_0 a0_1 1048576 t369 _ ?side1 ?side2 A2.out).mono ?_); (case side1 => repeat (first | exact (Kd.C_below HR0_0.out HB.out) | (with_reducible refine Kd.C_alloc ?_ _) | (with_reducible refine Kd.C_drewN ?_ _) | (with_reducible refine Kd.C_drew ?_))); (case side2 => exact HC0_0.out); rintro e w6 ⟨rfl, hb⟩; refine ⟨_, rfl, ?_⟩; have n0_ := Aside0.mk (blk_below (g := gb368) (o := .cells #[.slice A0_0 l0_0.length c0_0, .int .i64 a0_1] 47 (0, 0)) (by (with_reducible repeat (first | refine blk_drewN ?_ _ | refine blk_drew ?_ | refine blk_alloc ?_ _)); exact BK368.out) hb); have n1_ := Aside0.mk (below_step (by repeat (first | (with_reducible first | exact HB.out | apply below_alloc | apply pw_below_drewN | apply below_drew1 | refine below_set ?_ GE368.out) | exact HB.out)) hb); clear BK368; clear HB; have BK368 := n0_; have HB := n1_; clear n0_ n1_; (try clear hb); (try clear hb2); (try clear hk); (try clear hi)))
    go_ret
    exact ⟨by first | rfl | (simp [errW_none, errW_some] <;> rfl) | (simp [*, errW_none, errW_some] <;> rfl), by repeat (first | (with_reducible first | exact HB.out | apply below_alloc | apply pw_below_drewN | apply below_drew1 | refine below_set ?_ GE368.out) | exact HB.out)⟩
  · rw [if_neg c3] at H
    have c3b0 : decide (t369 < 0) = false := decide_eq_false c3
    clear c3
    replace H := Option.bind_eq_some_iff.mp H
    obtain ⟨⟨t370, t373⟩, A70, H⟩ := H
    replace H : ((spec_TrimCode.f k t370 t373).bind fun bt374 => ((laws_toCode.f k l0_0 a0_1).bind fun bt380 => ((impl_TrimCode.f k bt380.1 bt380.2).bind fun bt385 => ((laws_eqCode.f k bt385.1 bt385.2.1 bt374.1 bt374.2.1).bind fun t391 => (if t391 = true then (laws_FnExactTrimCode.j0 k bt374.2.2 bt385.2.2 (bt385.2.2 != bt374.2.2) l0_0 a0_1 bt374.1 bt374.2.1 bt380.1 bt380.2 bt385.1 bt385.2.1) else (laws_FnExactTrimCode.j0 k bt374.2.2 bt385.2.2 true l0_0 a0_1 bt374.1 bt374.2.1 bt380.1 bt380.2 bt385.1 bt385.2.1)))))) = some r := H
    have A7 := Aside0.mk A70
    clear A70
    replace H := Option.bind_eq_some_iff.mp H
    obtain ⟨⟨t374, t377, t378⟩, A80, H⟩ := H
    replace H : ((laws_toCode.f k l0_0 a0_1).bind fun bt380 => ((impl_TrimCode.f k bt380.1 bt380.2).bind fun bt385 => ((laws_eqCode.f k bt385.1 bt385.2.1 t374 t377).bind fun t391 => (if t391 = true then (laws_FnExactTrimCode.j0 k t378 bt385.2.2 (bt385.2.2 != t378) l0_0 a0_1 t374 t377 bt380.1 bt380.2 bt385.1 bt385.2.1) else (laws_FnExactTrimCode.j0 k t378 bt385.2.2 true l0_0 a0_1 t374 t377 bt380.1 bt380.2 bt385.1 bt385.2.1))))) = some r := H
    have A8 := Aside0.mk A80
    clear A80
    replace H := Option.bind_eq_some_iff.mp H
    obtain ⟨⟨t380, t383⟩, A90, H⟩ := H
    replace H : ((impl_TrimCode.f k t380 t383).bind fun bt385 => ((laws_eqCode.f k bt385.1 bt385.2.1 t374 t377).bind fun t391 => (if t391 = true then (laws_FnExactTrimCode.j0 k t378 bt385.2.2 (bt385.2.2 != t378) l0_0 a0_1 t374 t377 t380 t383 bt385.1 bt385.2.1) else (laws_FnExactTrimCode.j0 k t378 bt385.2.2 true l0_0 a0_1 t374 t377 t380 t383 bt385.1 bt385.2.1)))) = some r := H
    have A9 := Aside0.mk A90
    clear A90
    replace H := Option.bind_eq_some_iff.mp H
    obtain ⟨⟨t385, t388, t389⟩, A100, H⟩ := H
    replace H : ((laws_eqCode.f k t385 t388 t374 t377).bind fun t391 => (if t391 = true then (laws_FnExactTrimCode.j0 k t378 t389 (t389 != t378) l0_0 a0_1 t374 t377 t380 t383 t385 t388) else (laws_FnExactTrimCode.j0 k t378 t389 true l0_0 a0_1 t374 t377 t380 t383 t385 t388))) = some r := H
    have A10 := Aside0.mk A100
    clear A100
    have HC11 := Aside0.mk H
    clear H
    go_enter Try.func5, Try.ntmps5
    go_upto_region 8 with (first | ((with_reducible refine gate_dst (N := 1) rfl ?_); refine box_event ?hg (N := 1) ?hd (cs := #[.slice A0_0 l0_0.length c0_0, .int .i64 a0_1]) (t := 47) ?hr ?_; (case hd => rfl); (case hg => rfl); (case hr => first | (go_simp; done) | (go_simp; rfl)); intro gb368 hg w12 hbox hb; have n0_ := Aside0.mk (below_step (by repeat (first | (with_reducible first | exact HB.out | apply below_alloc | apply pw_below_drewN | apply below_drew1) | exact HB.out)) hb); have n1_ := Aside0.mk (hbox); have n2_ := Aside0.mk ((by rw [hg]; exact (below_size (by repeat (first | (with_reducible first | exact HB.out | apply below_alloc | apply pw_below_drewN | apply below_drew1) | exact HB.out))) : w.heap.size ≤ gb368)); have n3_ := Aside0.mk ((by rw [hg]; exact (below_size (by repeat (first | (with_reducible first | exact HB.out | apply below_alloc | apply pw_below_drewN | apply below_drew1) | exact HB.out))) : w.heap.size ≤ gb368)); clear HB; have HB := n0_; have BK368 := n1_; have GW368 := n2_; have GE368 := n3_; clear n0_ n1_ n2_ n3_; clear hb hbox hg; have hcz13_0 : w12.cell? ⟨gb368, 0, none⟩ = some (.slice A0_0 l0_0.length c0_0) := (blk_cell BK368.out 0).trans rfl; have hcz13_1 : w12.cell? ⟨gb368, 1, none⟩ = some (.int .i64 a0_1) := (blk_cell BK368.out 1).trans rfl; have hfz13_0 := blk_frozen BK368.out 0; have hfz13_1 := blk_frozen BK368.out 1) | ((with_reducible refine gate_callee (f := 32) rfl ?_); refine goesL_ (some 16) rfl rfl Try.func32 (by kernel_rfl) rfl #[.agg #[.slice A0_0 l0_0.length c0_0, .int .i64 a0_1], .int .i64 1048576] rfl (by (try simp only [List.map_toArray, List.map_cons, List.map_nil]); first | done | rfl | (simp only [List.length_drop, List.length_take]; rfl)) ?_; (with_reducible refine (laws_szCode.calls _ _ l0_0 a0_1 1048576 t369 _ ?side1 ?side2 A2.out).mono ?_); (case side1 => repeat (first | exact (Kd.C_below HR0_0.out HB.out) | (with_reducible refine Kd.C_alloc ?_ _) | (with_reducible refine Kd.C_drewN ?_ _) | (with_reducible refine Kd.C_drew ?_))); (case side2 => exact HC0_0.out); rintro e w14 ⟨rfl, hb⟩; refine ⟨_, rfl, ?_⟩; have n0_ := Aside0.mk (blk_below (g := gb368) (o := .cells #[.slice A0_0 l0_0.length c0_0, .int .i64 a0_1] 47 (0, 0)) (by (with_reducible repeat (first | refine blk_drewN ?_ _ | refine blk_drew ?_ | refine blk_alloc ?_ _)); exact BK368.out) hb); have n1_ := Aside0.mk (below_step (by repeat (first | (with_reducible first | exact HB.out | apply below_alloc | apply pw_below_drewN | apply below_drew1 | refine below_set ?_ GE368.out) | exact HB.out)) hb); clear BK368; clear HB; have BK368 := n0_; have HB := n1_; clear n0_ n1_; (try clear hb); (try clear hb2); (try clear hk); (try clear hi); have hcz15_0 : w14.cell? ⟨gb368, 0, none⟩ = some (.slice A0_0 l0_0.length c0_0) := (blk_cell BK368.out 0).trans rfl; have hcz15_1 : w14.cell? ⟨gb368, 1, none⟩ = some (.int .i64 a0_1) := (blk_cell BK368.out 1).trans rfl; have hfz15_0 := blk_frozen BK368.out 0; have hfz15_1 := blk_frozen BK368.out 1) | ((with_reducible refine gate_callee (f := 34) rfl ?_); refine goesL_ (some 21) rfl rfl Try.func34 (by kernel_rfl) rfl #[.agg #[.slice A0_0 l0_0.length c0_0, .int .i64 a0_1]] rfl (by (try simp only [List.map_toArray, List.map_cons, List.map_nil]); first | done | rfl | (simp only [List.length_drop, List.length_take]; rfl)) ?_; (with_reducible refine (laws_toCode.calls k _ _ l0_0 a0_1 t370 t373 _ ?side1 ?side2 A7.out).mono ?_); (case side1 => repeat (first | exact (Kd.C_below HR0_0.out HB.out) | (with_reducible refine Kd.C_alloc ?_ _) | (with_reducible refine Kd.C_drewN ?_ _) | (with_reducible refine Kd.C_drew ?_))); (case side2 => exact HC0_0.out); rintro e w16 ⟨v371, rfl, ho0, hb⟩; refine ⟨_, rfl, ?_⟩; have n0_ := Aside0.mk (Kd.R_lower ho0 (below_size (by repeat (first | (with_reducible first | exact HB.out | apply below_alloc | apply pw_below_drewN | apply below_drew1 | refine below_set ?_ GE368.out) | exact HB.out)))); have n1_ := Aside0.mk (blk_below (g := gb368) (o := .cells #[.slice A0_0 l0_0.length c0_0, .int .i64 a0_1] 47 (0, 0)) (by (with_reducible repeat (first | refine blk_drewN ?_ _ | refine blk_drew ?_ | refine blk_alloc ?_ _)); exact BK368.out) hb); have n2_ := Aside0.mk (below_step (by repeat (first | (with_reducible first | exact HB.out | apply below_alloc | apply pw_below_drewN | apply below_drew1 | refine below_set ?_ GE368.out) | exact HB.out)) hb); clear BK368; clear HB; have HO372 := n0_; have BK368 := n1_; have HB := n2_; clear n0_ n1_ n2_; (try clear hb); (try clear hb2); (try clear hk); (try clear hi); (try clear ho0); obtain ⟨Ao17, co17, eo17⟩ := Kd.R_slice HO372.out; subst eo17) | ((with_reducible refine gate_callee (f := 33) rfl ?_); refine goesL_ (some 22) rfl rfl Try.func33 (by kernel_rfl) rfl #[.agg #[.slice Ao17 t370.length co17, .int .i64 t373]] rfl (by (try simp only [List.map_toArray, List.map_cons, List.map_nil]); first | done | rfl | (simp only [List.length_drop, List.length_take]; rfl)) ?_; (with_reducible refine (spec_TrimCode.calls k _ _ t370 t373 t374 t377 t378 _ ?side1 ?side2 A8.out).mono ?_); (case side1 => repeat (first | exact (Kd.R_reads' HO372.out).2.2 | (with_reducible refine Kd.C_alloc ?_ _) | (with_reducible refine Kd.C_drewN ?_ _) | (with_reducible refine Kd.C_drew ?_))); (case side2 => exact (Kd.R_reads' HO372.out).2.1); rintro e w18 ⟨v375, rfl, ho0, hb⟩; refine ⟨_, rfl, ?_⟩; have n0_ := Aside0.mk (Kd.R_elder' (by (with_reducible repeat (first | apply Kd.R_alloc | apply Kd.R_drewN | apply Kd.R_drew)); exact HO372.out) (Kd.R_base ho0) hb); have n1_ := Aside0.mk (Kd.R_lower (Kd.R_new' ho0 (Kd.R_lt (by (with_reducible repeat (first | apply Kd.R_alloc | apply Kd.R_drewN | apply Kd.R_drew)); exact HO372.out))) (below_size (by repeat (first | (with_reducible first | exact HB.out | apply below_alloc | apply pw_below_drewN | apply below_drew1 | refine below_set ?_ GE368.out) | exact HB.out)))); have n2_ := Aside0.mk (blk_below (g := gb368) (o := .cells #[.slice A0_0 l0_0.length c0_0, .int .i64 a0_1] 47 (0, 0)) (by (with_reducible repeat (first | refine blk_drewN ?_ _ | refine blk_drew ?_ | refine blk_alloc ?_ _)); exact BK368.out) hb); have n3_ := Aside0.mk (below_step (by repeat (first | (with_reducible first | exact HB.out | apply below_alloc | apply pw_below_drewN | apply below_drew1 | refine below_set ?_ GE368.out) | exact HB.out)) hb); clear HO372; clear BK368; clear HB; have HO372 := n0_; have HO376 := n1_; have BK368 := n2_; have HB := n3_; clear n0_ n1_ n2_ n3_; (try clear hb); (try clear hb2); (try clear hk); (try clear hi); (try clear ho0)) | ((with_reducible refine gate_dst (N := 4) rfl ?_); refine box_event ?hg (N := 4) ?hd (cs := #[.slice none 0 0, .int .i64 0]) (t := 32) ?hr ?_; (case hd => rfl); (case hg => rfl); (case hr => first | (go_simp; done) | (go_simp; rfl)); intro gb379 hg w19 hbox hb; have n0_ := Aside0.mk (Kd.R_below (by (with_reducible repeat (first | apply Kd.R_alloc | apply Kd.R_drewN | apply Kd.R_drew)); exact HO372.out) hb); have n1_ := Aside0.mk (Kd.R_below (by (with_reducible repeat (first | apply Kd.R_alloc | apply Kd.R_drewN | apply Kd.R_drew)); exact HO376.out) hb); have n2_ := Aside0.mk (blk_below (g := gb368) (o := .cells #[.slice A0_0 l0_0.length c0_0, .int .i64 a0_1] 47 (0, 0)) (by (with_reducible repeat (first | refine blk_drewN ?_ _ | refine blk_drew ?_ | refine blk_alloc ?_ _)); exact BK368.out) hb); have n3_ := Aside0.mk (below_step (by repeat (first | (with_reducible first | exact HB.out | apply below_alloc | apply pw_below_drewN | apply below_drew1 | refine below_set ?_ GE368.out) | exact HB.out)) hb); have n4_ := Aside0.mk (hbox); have n5_ := Aside0.mk ((by rw [hg]; exact (below_size (by repeat (first | (with_reducible first | exact HB.out | apply below_alloc | apply pw_below_drewN | apply below_drew1 | refine below_set ?_ GE368.out) | exact HB.out))) : w.heap.size ≤ gb379)); have n6_ := Aside0.mk ((by rw [hg]; exact (below_size (by repeat (first | (with_reducible first | exact HB.out | apply below_alloc | apply pw_below_drewN | apply below_drew1 | refine below_set ?_ GE368.out) | exact HB.out))) : w.heap.size ≤ gb379)); have n7_ := Aside0.mk ((by rw [hg]; exact Nat.ne_of_lt (blk_lt (g := gb368) (o := .cells #[.slice A0_0 l0_0.length c0_0, .int .i64 a0_1] 47 (0, 0)) (by (with_reducible repeat (first | refine blk_drewN ?_ _ | refine blk_drew ?_ | refine blk_alloc ?_ _)); exact BK368.out)) : gb368 ≠ gb379)); have n8_ := Aside0.mk ((by rw [hg]; exact Nat.ne_of_gt (blk_lt (g := gb368) (o := .cells #[.slice A0_0 l0_0.length c0_0, .int .i64 a0_1] 47 (0, 0)) (by (with_reducible repeat (first | refine blk_drewN ?_ _ | refine blk_drew ?_ | refine blk_alloc ?_ _)); exact BK368.out)) : gb379 ≠ gb368)); clear HO372; clear HO376; clear BK368; clear HB; have HO372 := n0_; have HO376 := n1_; have BK368 := n2_; have HB := n3_; have BK379 := n4_; have GW379 := n5_; have GE379 := n6_; have NB368_379 := n7_; have NB379_368 := n8_; clear n0_ n1_ n2_ n3_ n4_ n5_ n6_ n7_ n8_; clear hb hbox hg; obtain ⟨Ao20, co20, eo20⟩ := Kd.R_slice HO376.out; subst eo20; have hnb21 := NB379_368.out; have hnc21 := NB368_379.out; have hcz22_0 : w19.cell? ⟨gb379, 0, none⟩ = some (.slice none 0 0) := (blk_cell BK379.out 0).trans rfl; have hcz22_1 : w19.cell? ⟨gb379, 1, none⟩ = some (.int .i64 0) := (blk_cell BK379.out 1).trans rfl; have hfz22_0 := blk_frozen BK379.out 0; have hfz22_1 := blk_frozen BK379.out 1; have hcz23_0 : w19.cell? ⟨gb368, 0, none⟩ = some (.slice A0_0 l0_0.length c0_0) := (blk_cell BK368.out 0).trans rfl; have hcz23_1 : w19.cell? ⟨gb368, 1, none⟩ = some (.int .i64 a0_1) := (blk_cell BK368.out 1).trans rfl; have hfz23_0 := blk_frozen BK368.out 0; have hfz23_1 := blk_frozen BK368.out 1) | ((with_reducible refine gate_callee (f := 34) rfl ?_); refine goesL_ (some 26) rfl rfl Try.func34 (by kernel_rfl) rfl #[.agg #[.slice A0_0 l0_0.length c0_0, .int .i64 a0_1]] rfl (by (try simp only [List.map_toArray, List.map_cons, List.map_nil]); first | done | rfl | (simp only [List.length_drop, List.length_take]; rfl)) ?_; (with_reducible refine (laws_toCode.calls k _ _ l0_0 a0_1 t380 t383 _ ?side1 ?side2 A9.out).mono ?_); (case side1 => exact Kd.C_below HR0_0.out (by repeat (first | (with_reducible first | exact HB.out | apply below_alloc | apply pw_below_drewN | apply below_drew1 | refine below_set ?_ GE368.out | refine below_set ?_ GE379.out) | exact HB.out))); (case side2 => exact HC0_0.out); rintro e w24 ⟨v381, rfl, ho0, hb⟩; refine ⟨_, rfl, ?_⟩; have n0_ := Aside0.mk (Kd.R_elder' (by (with_reducible repeat (first | apply Kd.R_alloc | apply Kd.R_drewN | apply Kd.R_drew)); exact (Kd.R_mono (Kd.R_far (p := ⟨gb379, 1, none⟩) (Kd.R_far (p := ⟨gb379, 0, none⟩) (Kd.R_types HO372.out BK379.out (by decide)) (fun _ hk => hk.2) (.slice Ao20 t374.length co20)) (fun _ hk => hk.2) (.int .i64 t377)) (fun _ h_ => h_.1))) (Kd.R_base ho0) hb); have n1_ := Aside0.mk (Kd.R_elder' (by (with_reducible repeat (first | apply Kd.R_alloc | apply Kd.R_drewN | apply Kd.R_drew)); exact (Kd.R_mono (Kd.R_far (p := ⟨gb379, 1, none⟩) (Kd.R_far (p := ⟨gb379, 0, none⟩) (Kd.R_types HO376.out BK379.out (by decide)) (fun _ hk => hk.2) (.slice Ao20 t374.length co20)) (fun _ hk => hk.2) (.int .i64 t377)) (fun _ h_ => h_.1))) (Kd.R_base ho0) hb); have n2_ := Aside0.mk (Kd.R_lower (Kd.R_new' (Kd.R_new' ho0 (Kd.R_lt (by (with_reducible repeat (first | apply Kd.R_alloc | apply Kd.R_drewN | apply Kd.R_drew)); exact (Kd.R_mono (Kd.R_far (p := ⟨gb379, 1, none⟩) (Kd.R_far (p := ⟨gb379, 0, none⟩) (Kd.R_types HO372.out BK379.out (by decide)) (fun _ hk => hk.2) (.slice Ao20 t374.length co20)) (fun _ hk => hk.2) (.int .i64 t377)) (fun _ h_ => h_.1))))) (Kd.R_lt (by (with_reducible repeat (first | apply Kd.R_alloc | apply Kd.R_drewN | apply Kd.R_drew)); exact (Kd.R_mono (Kd.R_far (p := ⟨gb379, 1, none⟩) (Kd.R_far (p := ⟨gb379, 0, none⟩) (Kd.R_types HO376.out BK379.out (by decide)) (fun _ hk => hk.2) (.slice Ao20 t374.length co20)) (fun _ hk => hk.2) (.int .i64 t377)) (fun _ h_ => h_.1))))) (below_size (by repeat (first | (with_reducible first | exact HB.out | apply below_alloc | apply pw_below_drewN | apply below_drew1 | refine below_set ?_ GE368.out | refine below_set ?_ GE379.out) | exact HB.out)))); have n3_ := Aside0.mk (blk_below (g := gb368) (o := .cells #[.slice A0_0 l0_0.length c0_0, .int .i64 a0_1] 47 (0, 0)) (by (with_reducible repeat (first | refine blk_drewN ?_ _ | refine blk_drew ?_ | refine blk_alloc ?_ _)); refine blk_far ?_ NB368_379.out _; (with_reducible repeat (first | refine blk_drewN ?_ _ | refine blk_drew ?_ | refine blk_alloc ?_ _)); refine blk_far ?_ NB368_379.out _; (with_reducible repeat (first | refine blk_drewN ?_ _ | refine blk_drew ?_ | refine blk_alloc ?_ _)); exact BK368.out) hb); have n4_ := Aside0.mk (blk_below (g := gb379) (o := .cells #[.slice Ao20 t374.length co20, .int .i64 t377] 32 (0, 0)) (by (with_reducible repeat (first | refine blk_drewN ?_ _ | refine blk_drew ?_ | refine blk_alloc ?_ _)); refine blk_put (cs := #[.slice Ao20 t374.length co20, .int .i64 0]) ?_ 1 _ rfl; (with_reducible repeat (first | refine blk_drewN ?_ _ | refine blk_drew ?_ | refine blk_alloc ?_ _)); refine blk_put (cs := #[.slice none 0 0, .int .i64 0]) ?_ 0 _ rfl; (with_reducible repeat (first | refine blk_drewN ?_ _ | refine blk_drew ?_ | refine blk_alloc ?_ _)); exact BK379.out) hb); have n5_ := Aside0.mk (below_step (by repeat (first | (with_reducible first | exact HB.out | apply below_alloc | apply pw_below_drewN | apply below_drew1 | refine below_set ?_ GE368.out | refine below_set ?_ GE379.out) | exact HB.out)) hb); clear HO372; clear HO376; clear BK368; clear BK379; clear HB; have HO372 := n0_; have HO376 := n1_; have HO382 := n2_; have BK368 := n3_; have BK379 := n4_; have HB := n5_; clear n0_ n1_ n2_ n3_ n4_ n5_; (try clear hb); (try clear hb2); (try clear hk); (try clear hi); (try clear ho0)) | ((with_reducible refine gate_dst (N := 6) rfl ?_); refine box_event ?hg (N := 6) ?hd (cs := #[.slice none 0 0, .int .i64 0]) (t := 32) ?hr ?_; (case hd => rfl); (case hg => rfl); (case hr => first | (go_simp; done) | (go_simp; rfl)); intro gb384 hg w25 hbox hb; have n0_ := Aside0.mk (Kd.R_below (by (with_reducible repeat (first | apply Kd.R_alloc | apply Kd.R_drewN | apply Kd.R_drew)); exact HO372.out) hb); have n1_ := Aside0.mk (Kd.R_below (by (with_reducible repeat (first | apply Kd.R_alloc | apply Kd.R_drewN | apply Kd.R_drew)); exact HO376.out) hb); have n2_ := Aside0.mk (Kd.R_below (by (with_reducible repeat (first | apply Kd.R_alloc | apply Kd.R_drewN | apply Kd.R_drew)); exact HO382.out) hb); have n3_ := Aside0.mk (blk_below (g := gb368) (o := .cells #[.slice A0_0 l0_0.length c0_0, .int .i64 a0_1] 47 (0, 0)) (by (with_reducible repeat (first | refine blk_drewN ?_ _ | refine blk_drew ?_ | refine blk_alloc ?_ _)); exact BK368.out) hb); have n4_ := Aside0.mk (blk_below (g := gb379) (o := .cells #[.slice Ao20 t374.length co20, .int .i64 t377] 32 (0, 0)) (by (with_reducible repeat (first | refine blk_drewN ?_ _ | refine blk_drew ?_ | refine blk_alloc ?_ _)); exact BK379.out) hb); have n5_ := Aside0.mk (below_step (by repeat (first | (with_reducible first | exact HB.out | apply below_alloc | apply pw_below_drewN | apply below_drew1 | refine below_set ?_ GE368.out | refine below_set ?_ GE379.out) | exact HB.out)) hb); have n6_ := Aside0.mk (hbox); have n7_ := Aside0.mk ((by rw [hg]; exact (below_size (by repeat (first | (with_reducible first | exact HB.out | apply below_alloc | apply pw_below_drewN | apply below_drew1 | refine below_set ?_ GE368.out | refine below_set ?_ GE379.out) | exact HB.out))) : w.heap.size ≤ gb384)); have n8_ := Aside0.mk ((by rw [hg]; exact (below_size (by repeat (first | (with_reducible first | exact HB.out | apply below_alloc | apply pw_below_drewN | apply below_drew1 | refine below_set ?_ GE368.out | refine below_set ?_ GE379.out) | exact HB.out))) : w.heap.size ≤ gb384)); have n9_ := Aside0.mk ((by rw [hg]; exact Nat.ne_of_lt (blk_lt (g := gb368) (o := .cells #[.slice A0_0 l0_0.length c0_0, .int .i64 a0_1] 47 (0, 0)) (by (with_reducible repeat (first | refine blk_drewN ?_ _ | refine blk_drew ?_ | refine blk_alloc ?_ _)); exact BK368.out)) : gb368 ≠ gb384)); have n10_ := Aside0.mk ((by rw [hg]; exact Nat.ne_of_gt (blk_lt (g := gb368) (o := .cells #[.slice A0_0 l0_0.length c0_0, .int .i64 a0_1] 47 (0, 0)) (by (with_reducible repeat (first | refine blk_drewN ?_ _ | refine blk_drew ?_ | refine blk_alloc ?_ _)); exact BK368.out)) : gb384 ≠ gb368)); have n11_ := Aside0.mk ((by rw [hg]; exact Nat.ne_of_lt (blk_lt (g := gb379) (o := .cells #[.slice Ao20 t374.length co20, .int .i64 t377] 32 (0, 0)) (by (with_reducible repeat (first | refine blk_drewN ?_ _ | refine blk_drew ?_ | refine blk_alloc ?_ _)); exact BK379.out)) : gb379 ≠ gb384)); have n12_ := Aside0.mk ((by rw [hg]; exact Nat.ne_of_gt (blk_lt (g := gb379) (o := .cells #[.slice Ao20 t374.length co20, .int .i64 t377] 32 (0, 0)) (by (with_reducible repeat (first | refine blk_drewN ?_ _ | refine blk_drew ?_ | refine blk_alloc ?_ _)); exact BK379.out)) : gb384 ≠ gb379)); clear HO372; clear HO376; clear HO382; clear BK368; clear BK379; clear HB; have HO372 := n0_; have HO376 := n1_; have HO382 := n2_; have BK368 := n3_; have BK379 := n4_; have HB := n5_; have BK384 := n6_; have GW384 := n7_; have GE384 := n8_; have NB368_384 := n9_; have NB384_368 := n10_; have NB379_384 := n11_; have NB384_379 := n12_; clear n0_ n1_ n2_ n3_ n4_ n5_ n6_ n7_ n8_ n9_ n10_ n11_ n12_; clear hb hbox hg; obtain ⟨Ao26, co26, eo26⟩ := Kd.R_slice HO382.out; subst eo26; have hnb27 := NB384_368.out; have hnc27 := NB368_384.out; have hnb28 := NB384_379.out; have hnc28 := NB379_384.out; have hcz29_0 : w25.cell? ⟨gb384, 0, none⟩ = some (.slice none 0 0) := (blk_cell BK384.out 0).trans rfl; have hcz29_1 : w25.cell? ⟨gb384, 1, none⟩ = some (.int .i64 0) := (blk_cell BK384.out 1).trans rfl; have hfz29_0 := blk_frozen BK384.out 0; have hfz29_1 := blk_frozen BK384.out 1) | ((with_reducible refine gate_callee (f := 35) rfl ?_); refine goesL_ (some 29) rfl rfl Try.func35 (by kernel_rfl) rfl #[.agg #[.slice Ao26 t380.length co26, .int .i64 t383]] rfl (by (try simp only [List.map_toArray, List.map_cons, List.map_nil]); first | done | rfl | (simp only [List.length_drop, List.length_take]; rfl)) ?_; (with_reducible refine (impl_TrimCode.calls k _ _ t380 t383 t385 t388 t389 _ ?side1 ?side2 A10.out).mono ?_); (case side1 => refine (Kd.R_reads' (e := 109) (base := w.heap.size) (ok := fun k_ => ((True ∧ some k_ ≠ (.slice Ao17 t370.length co17 : Value).ownBlock) ∧ some k_ ≠ (.slice Ao20 t374.length co20 : Value).ownBlock)) (n := t380.length) (c := co26) ?_).2.2; exact (by (with_reducible repeat (first | apply Kd.R_alloc | apply Kd.R_drewN | apply Kd.R_drew)); exact (Kd.R_mono (Kd.R_far (p := ⟨gb384, 1, none⟩) (Kd.R_far (p := ⟨gb384, 0, none⟩) (Kd.R_types HO382.out BK384.out (by decide)) (fun _ hk => hk.2) (.slice Ao26 t380.length co26)) (fun _ hk => hk.2) (.int .i64 t383)) (fun _ h_ => h_.1)))); (case side2 => exact (Kd.R_reads' HO382.out).2.1); rintro e w30 ⟨v386, rfl, ho0, hb⟩; refine ⟨_, rfl, ?_⟩; have n0_ := Aside0.mk (Kd.R_elder' (by (with_reducible repeat (first | apply Kd.R_alloc | apply Kd.R_drewN | apply Kd.R_drew)); exact (Kd.R_mono (Kd.R_far (p := ⟨gb384, 1, none⟩) (Kd.R_far (p := ⟨gb384, 0, none⟩) (Kd.R_types HO372.out BK384.out (by decide)) (fun _ hk => hk.2) (.slice Ao26 t380.length co26)) (fun _ hk => hk.2) (.int .i64 t383)) (fun _ h_ => h_.1))) (Kd.R_base ho0) hb); have n1_ := Aside0.mk (Kd.R_elder' (by (with_reducible repeat (first | apply Kd.R_alloc | apply Kd.R_drewN | apply Kd.R_drew)); exact (Kd.R_mono (Kd.R_far (p := ⟨gb384, 1, none⟩) (Kd.R_far (p := ⟨gb384, 0, none⟩) (Kd.R_types HO376.out BK384.out (by decide)) (fun _ hk => hk.2) (.slice Ao26 t380.length co26)) (fun _ hk => hk.2) (.int .i64 t383)) (fun _ h_ => h_.1))) (Kd.R_base ho0) hb); have n2_ := Aside0.mk (Kd.R_elder' (by (with_reducible repeat (first | apply Kd.R_alloc | apply Kd.R_drewN | apply Kd.R_drew)); exact (Kd.R_mono (Kd.R_far (p := ⟨gb384, 1, none⟩) (Kd.R_far (p := ⟨gb384, 0, none⟩) (Kd.R_types HO382.out BK384.out (by decide)) (fun _ hk => hk.2) (.slice Ao26 t380.length co26)) (fun _ hk => hk.2) (.int .i64 t383)) (fun _ h_ => h_.1))) (Kd.R_base ho0) hb); have n3_ := Aside0.mk (Kd.R_lower (Kd.R_new' (Kd.R_new' (Kd.R_new' ho0 (Kd.R_lt (by (with_reducible repeat (first | apply Kd.R_alloc | apply Kd.R_drewN | apply Kd.R_drew)); exact (Kd.R_mono (Kd.R_far (p := ⟨gb384, 1, none⟩) (Kd.R_far (p := ⟨gb384, 0, none⟩) (Kd.R_types HO372.out BK384.out (by decide)) (fun _ hk => hk.2) (.slice Ao26 t380.length co26)) (fun _ hk => hk.2) (.int .i64 t383)) (fun _ h_ => h_.1))))) (Kd.R_lt (by (with_reducible repeat (first | apply Kd.R_alloc | apply Kd.R_drewN | apply Kd.R_drew)); exact (Kd.R_mono (Kd.R_far (p := ⟨gb384, 1, none⟩) (Kd.R_far (p := ⟨gb384, 0, none⟩) (Kd.R_types HO376.out BK384.out (by decide)) (fun _ hk => hk.2) (.slice Ao26 t380.length co26)) (fun _ hk => hk.2) (.int .i64 t383)) (fun _ h_ => h_.1))))) (Kd.R_lt (by (with_reducible repeat (first | apply Kd.R_alloc | apply Kd.R_drewN | apply Kd.R_drew)); exact (Kd.R_mono (Kd.R_far (p := ⟨gb384, 1, none⟩) (Kd.R_far (p := ⟨gb384, 0, none⟩) (Kd.R_types HO382.out BK384.out (by decide)) (fun _ hk => hk.2) (.slice Ao26 t380.length co26)) (fun _ hk => hk.2) (.int .i64 t383)) (fun _ h_ => h_.1))))) (below_size (by repeat (first | (with_reducible first | exact HB.out | apply below_alloc | apply pw_below_drewN | apply below_drew1 | refine below_set ?_ GE368.out | refine below_set ?_ GE379.out | refine below_set ?_ GE384.out) | exact HB.out)))); have n4_ := Aside0.mk (blk_below (g := gb368) (o := .cells #[.slice A0_0 l0_0.length c0_0, .int .i64 a0_1] 47 (0, 0)) (by (with_reducible repeat (first | refine blk_drewN ?_ _ | refine blk_drew ?_ | refine blk_alloc ?_ _)); refine blk_far ?_ NB368_384.out _; (with_reducible repeat (first | refine blk_drewN ?_ _ | refine blk_drew ?_ | refine blk_alloc ?_ _)); refine blk_far ?_ NB368_384.out _; (with_reducible repeat (first | refine blk_drewN ?_ _ | refine blk_drew ?_ | refine blk_alloc ?_ _)); exact BK368.out) hb); have n5_ := Aside0.mk (blk_below (g := gb379) (o := .cells #[.slice Ao20 t374.length co20, .int .i64 t377] 32 (0, 0)) (by (with_reducible repeat (first | refine blk_drewN ?_ _ | refine blk_drew ?_ | refine blk_alloc ?_ _)); refine blk_far ?_ NB379_384.out _; (with_reducible repeat (first | refine blk_drewN ?_ _ | refine blk_drew ?_ | refine blk_alloc ?_ _)); refine blk_far ?_ NB379_384.out _; (with_reducible repeat (first | refine blk_drewN ?_ _ | refine blk_drew ?_ | refine blk_alloc ?_ _)); exact BK379.out) hb); have n6_ := Aside0.mk (blk_below (g := gb384) (o := .cells #[.slice Ao26 t380.length co26, .int .i64 t383] 32 (0, 0)) (by (with_reducible repeat (first | refine blk_drewN ?_ _ | refine blk_drew ?_ | refine blk_alloc ?_ _)); refine blk_put (cs := #[.slice Ao26 t380.length co26, .int .i64 0]) ?_ 1 _ rfl; (with_reducible repeat (first | refine blk_drewN ?_ _ | refine blk_drew ?_ | refine blk_alloc ?_ _)); refine blk_put (cs := #[.slice none 0 0, .int .i64 0]) ?_ 0 _ rfl; (with_reducible repeat (first | refine blk_drewN ?_ _ | refine blk_drew ?_ | refine blk_alloc ?_ _)); exact BK384.out) hb); have n7_ := Aside0.mk (below_step (by repeat (first | (with_reducible first | exact HB.out | apply below_alloc | apply pw_below_drewN | apply below_drew1 | refine below_set ?_ GE368.out | refine below_set ?_ GE379.out | refine below_set ?_ GE384.out) | exact HB.out)) hb); clear HO372; clear HO376; clear HO382; clear BK368; clear BK379; clear BK384; clear HB; have HO372 := n0_; have HO376 := n1_; have HO382 := n2_; have HO387 := n3_; have BK368 := n4_; have BK379 := n5_; have BK384 := n6_; have HB := n7_; clear n0_ n1_ n2_ n3_ n4_ n5_ n6_ n7_; (try clear hb); (try clear hb2); (try clear hk); (try clear hi); (try clear ho0)) | ((with_reducible refine gate_dst (N := 7) rfl ?_); refine box_event ?hg (N := 7) ?hd (cs := #[.slice none 0 0, .int .i64 0]) (t := 32) ?hr ?_; (case hd => rfl); (case hg => rfl); (case hr => first | (go_simp; done) | (go_simp; rfl)); intro gb390 hg w31 hbox hb; have n0_ := Aside0.mk (Kd.R_below (by (with_reducible repeat (first | apply Kd.R_alloc | apply Kd.R_drewN | apply Kd.R_drew)); exact HO372.out) hb); have n1_ := Aside0.mk (Kd.R_below (by (with_reducible repeat (first | apply Kd.R_alloc | apply Kd.R_drewN | apply Kd.R_drew)); exact HO376.out) hb); have n2_ := Aside0.mk (Kd.R_below (by (with_reducible repeat (first | apply Kd.R_alloc | apply Kd.R_drewN | apply Kd.R_drew)); exact HO382.out) hb); have n3_ := Aside0.mk (Kd.R_below (by (with_reducible repeat (first | apply Kd.R_alloc | apply Kd.R_drewN | apply Kd.R_drew)); exact HO387.out) hb); have n4_ := Aside0.mk (blk_below (g := gb368) (o := .cells #[.slice A0_0 l0_0.length c0_0, .int .i64 a0_1] 47 (0, 0)) (by (with_reducible repeat (first | refine blk_drewN ?_ _ | refine blk_drew ?_ | refine blk_alloc ?_ _)); exact BK368.out) hb); have n5_ := Aside0.mk (blk_below (g := gb379) (o := .cells #[.slice Ao20 t374.length co20, .int .i64 t377] 32 (0, 0)) (by (with_reducible repeat (first | refine blk_drewN ?_ _ | refine blk_drew ?_ | refine blk_alloc ?_ _)); exact BK379.out) hb); have n6_ := Aside0.mk (blk_below (g := gb384) (o := .cells #[.slice Ao26 t380.length co26, .int .i64 t383] 32 (0, 0)) (by (with_reducible repeat (first | refine blk_drewN ?_ _ | refine blk_drew ?_ | refine blk_alloc ?_ _)); exact BK384.out) hb); have n7_ := Aside0.mk (below_step (by repeat (first | (with_reducible first | exact HB.out | apply below_alloc | apply pw_below_drewN | apply below_drew1 | refine below_set ?_ GE368.out | refine below_set ?_ GE379.out | refine below_set ?_ GE384.out) | exact HB.out)) hb); have n8_ := Aside0.mk (hbox); have n9_ := Aside0.mk ((by rw [hg]; exact (below_size (by repeat (first | (with_reducible first | exact HB.out | apply below_alloc | apply pw_below_drewN | apply below_drew1 | refine below_set ?_ GE368.out | refine below_set ?_ GE379.out | refine below_set ?_ GE384.out) | exact HB.out))) : w.heap.size ≤ gb390)); have n10_ := Aside0.mk ((by rw [hg]; exact (below_size (by repeat (first | (with_reducible first | exact HB.out | apply below_alloc | apply pw_below_drewN | apply below_drew1 | refine below_set ?_ GE368.out | refine below_set ?_ GE379.out | refine below_set ?_ GE384.out) | exact HB.out))) : w.heap.size ≤ gb390)); have n11_ := Aside0.mk ((by rw [hg]; exact Nat.ne_of_lt (blk_lt (g := gb368) (o := .cells #[.slice A0_0 l0_0.length c0_0, .int .i64 a0_1] 47 (0, 0)) (by (with_reducible repeat (first | refine blk_drewN ?_ _ | refine blk_drew ?_ | refine blk_alloc ?_ _)); exact BK368.out)) : gb368 ≠ gb390)); have n12_ := Aside0.mk ((by rw [hg]; exact Nat.ne_of_gt (blk_lt (g := gb368) (o := .cells #[.slice A0_0 l0_0.length c0_0, .int .i64 a0_1] 47 (0, 0)) (by (with_reducible repeat (first | refine blk_drewN ?_ _ | refine blk_drew ?_ | refine blk_alloc ?_ _)); exact BK368.out)) : gb390 ≠ gb368)); have n13_ := Aside0.mk ((by rw [hg]; exact Nat.ne_of_lt (blk_lt (g := gb379) (o := .cells #[.slice Ao20 t374.length co20, .int .i64 t377] 32 (0, 0)) (by (with_reducible repeat (first | refine blk_drewN ?_ _ | refine blk_drew ?_ | refine blk_alloc ?_ _)); exact BK379.out)) : gb379 ≠ gb390)); have n14_ := Aside0.mk ((by rw [hg]; exact Nat.ne_of_gt (blk_lt (g := gb379) (o := .cells #[.slice Ao20 t374.length co20, .int .i64 t377] 32 (0, 0)) (by (with_reducible repeat (first | refine blk_drewN ?_ _ | refine blk_drew ?_ | refine blk_alloc ?_ _)); exact BK379.out)) : gb390 ≠ gb379)); have n15_ := Aside0.mk ((by rw [hg]; exact Nat.ne_of_lt (blk_lt (g := gb384) (o := .cells #[.slice Ao26 t380.length co26, .int .i64 t383] 32 (0, 0)) (by (with_reducible repeat (first | refine blk_drewN ?_ _ | refine blk_drew ?_ | refine blk_alloc ?_ _)); exact BK384.out)) : gb384 ≠ gb390)); have n16_ := Aside0.mk ((by rw [hg]; exact Nat.ne_of_gt (blk_lt (g := gb384) (o := .cells #[.slice Ao26 t380.length co26, .int .i64 t383] 32 (0, 0)) (by (with_reducible repeat (first | refine blk_drewN ?_ _ | refine blk_drew ?_ | refine blk_alloc ?_ _)); exact BK384.out)) : gb390 ≠ gb384)); clear HO372; clear HO376; clear HO382; clear HO387; clear BK368; clear BK379; clear BK384; clear HB; have HO372 := n0_; have HO376 := n1_; have HO382 := n2_; have HO387 := n3_; have BK368 := n4_; have BK379 := n5_; have BK384 := n6_; have HB := n7_; have BK390 := n8_; have GW390 := n9_; have GE390 := n10_; have NB368_390 := n11_; have NB390_368 := n12_; have NB379_390 := n13_; have NB390_379 := n14_; have NB384_390 := n15_; have NB390_384 := n16_; clear n0_ n1_ n2_ n3_ n4_ n5_ n6_ n7_ n8_ n9_ n10_ n11_ n12_ n13_ n14_ n15_ n16_; clear hb hbox hg; obtain ⟨Ao32, co32, eo32⟩ := Kd.R_slice HO387.out; subst eo32; have hnb33 := NB390_368.out; have hnc33 := NB368_390.out; have hnb34 := NB390_379.out; have hnc34 := NB379_390.out; have hnb35 := NB390_384.out; have hnc35 := NB384_390.out; have hcz36_0 : w31.cell? ⟨gb390, 0, none⟩ = some (.slice none 0 0) := (blk_cell BK390.out 0).trans rfl; have hcz36_1 : w31.cell? ⟨gb390, 1, none⟩ = some (.int .i64 0) := (blk_cell BK390.out 1).trans rfl; have hfz36_0 := blk_frozen BK390.out 0; have hfz36_1 := blk_frozen BK390.out 1))
    (try simp only [Act.put, List.setIfInBounds_toArray, List.set_cons_zero, List.set_cons_succ])
    go_cut [40] (fun v40 wc => ∃ (kq : Nat) (x40_10 : Bool), v40 = .bool x40_10 ∧ Aside0 (laws_FnExactTrimCode.j0 kq t378 t389 x40_10 l0_0 a0_1 t374 t377 t380 t383 t385 t388 = some r) ∧ Aside0 (kq ≤ k) ∧ Aside0 (Kd.R k109 109 wc w.heap.size (fun k_ => some k_ ≠ ((.slice Ao26 t380.length co26) : Value).ownBlock ∧ some k_ ≠ ((.slice Ao32 t385.length co32) : Value).ownBlock) (.slice Ao20 t374.length co20) t374) ∧ Aside0 (Kd.R k109 109 wc w.heap.size (fun k_ => some k_ ≠ ((.slice Ao20 t374.length co20) : Value).ownBlock ∧ some k_ ≠ ((.slice Ao32 t385.length co32) : Value).ownBlock) (.slice Ao26 t380.length co26) t380) ∧ Aside0 (Kd.R k109 109 wc w.heap.size (fun k_ => some k_ ≠ ((.slice Ao20 t374.length co20) : Value).ownBlock ∧ some k_ ≠ ((.slice Ao26 t380.length co26) : Value).ownBlock) (.slice Ao32 t385.length co32) t385) ∧ Aside0 (wc.heap[gb368]? = some (.cells #[(.slice A0_0 l0_0.length c0_0), .int .i64 a0_1] 47 (0, 0))) ∧ Aside0 (wc.heap[gb379]? = some (.cells #[(.slice Ao20 t374.length co20), .int .i64 t377] 32 (0, 0))) ∧ Aside0 (wc.heap[gb384]? = some (.cells #[(.slice Ao26 t380.length co26), .int .i64 t383] 32 (0, 0))) ∧ Aside0 (wc.heap[gb390]? = some (.cells #[(.slice Ao32 t385.length co32), .int .i64 t388] 32 (0, 0))) ∧ Aside0 (Below w.heap.size w wc))
    case first =>
      have H := HC11.out
      clear HC11
      replace H := Option.bind_eq_some_iff.mp H
      obtain ⟨t391, A370, H⟩ := H
      replace H : (if t391 = true then (laws_FnExactTrimCode.j0 k t378 t389 (t389 != t378) l0_0 a0_1 t374 t377 t380 t383 t385 t388) else (laws_FnExactTrimCode.j0 k t378 t389 true l0_0 a0_1 t374 t377 t380 t383 t385 t388)) = some r := H
      have A37 := Aside0.mk A370
      clear A370
      by_cases c38 : t391 = true
      · subst c38
        have H1 : (laws_FnExactTrimCode.j0 k t378 t389 (t389 != t378) l0_0 a0_1 t374 t377 t380 t383 t385 t388) = some r := by rw [if_pos rfl] at H; exact H
        clear H
        have H := H1
        clear H1
        have H' := Aside0.mk H
        clear H
        have hnb39 := NB390_368.out
        have hnc39 := NB368_390.out
        have hnb40 := NB390_379.out
        have hnc40 := NB379_390.out
        have hnb41 := NB390_384.out
        have hnc41 := NB384_390.out
        have hcz42_0 : w31.cell? ⟨gb390, 0, none⟩ = some (.slice none 0 0) := (blk_cell BK390.out 0).trans rfl
        have hcz42_1 : w31.cell? ⟨gb390, 1, none⟩ = some (.int .i64 0) := (blk_cell BK390.out 1).trans rfl
        have hfz42_0 := blk_frozen BK390.out 0
        have hfz42_1 := blk_frozen BK390.out 1
        have hnb43 := NB379_368.out
        have hnc43 := NB368_379.out
        have hnb44 := NB379_384.out
        have hnc44 := NB384_379.out
        have hcz45_0 : w31.cell? ⟨gb379, 0, none⟩ = some (.slice Ao20 t374.length co20) := (blk_cell BK379.out 0).trans rfl
        have hcz45_1 : w31.cell? ⟨gb379, 1, none⟩ = some (.int .i64 t377) := (blk_cell BK379.out 1).trans rfl
        have hfz45_0 := blk_frozen BK379.out 0
        have hfz45_1 := blk_frozen BK379.out 1
        go_wp2_with (first | ((with_reducible refine gate_callee (f := 27) rfl ?_); refine goesL_ (some 34) rfl rfl Try.func27 (by kernel_rfl) rfl #[.agg #[.slice Ao32 t385.length co32, .int .i64 t388], .agg #[.slice Ao20 t374.length co20, .int .i64 t377]] rfl (by (try simp only [List.map_toArray, List.map_cons, List.map_nil]); first | done | rfl | (simp only [List.length_drop, List.length_take]; rfl)) ?_; (with_reducible refine (laws_eqCode.calls k _ _ t385 t388 _ _ t374 t377 true _ ?side1 ?side2 ?side3 ?side4 A37.out).mono ?_); (case side1 => refine (Kd.R_reads' (e := 109) (base := w.heap.size) (ok := fun k_ => (((True ∧ some k_ ≠ (.slice Ao17 t370.length co17 : Value).ownBlock) ∧ some k_ ≠ (.slice Ao20 t374.length co20 : Value).ownBlock) ∧ some k_ ≠ (.slice Ao26 t380.length co26 : Value).ownBlock)) (n := t385.length) (c := co32) ?_).2.2; exact (by (with_reducible repeat (first | apply Kd.R_alloc | apply Kd.R_drewN | apply Kd.R_drew)); exact (Kd.R_mono (Kd.R_far (p := ⟨gb390, 1, none⟩) (Kd.R_far (p := ⟨gb390, 0, none⟩) (Kd.R_types HO387.out BK390.out (by decide)) (fun _ hk => hk.2) (.slice Ao32 t385.length co32)) (fun _ hk => hk.2) (.int .i64 t388)) (fun _ h_ => h_.1)))); (case side2 => exact (Kd.R_reads' HO387.out).2.1); (case side3 => refine (Kd.R_reads' (e := 109) (base := w.heap.size) (ok := fun k_ => (((True ∧ some k_ ≠ (.slice Ao17 t370.length co17 : Value).ownBlock) ∧ some k_ ≠ (.slice Ao26 t380.length co26 : Value).ownBlock) ∧ some k_ ≠ (.slice Ao32 t385.length co32 : Value).ownBlock)) (n := t374.length) (c := co20) ?_).2.2; exact (by (with_reducible repeat (first | apply Kd.R_alloc | apply Kd.R_drewN | apply Kd.R_drew)); exact (Kd.R_mono (Kd.R_far (p := ⟨gb390, 1, none⟩) (Kd.R_far (p := ⟨gb390, 0, none⟩) (Kd.R_types HO376.out BK390.out (by decide)) (fun _ hk => hk.2) (.slice Ao32 t385.length co32)) (fun _ hk => hk.2) (.int .i64 t388)) (fun _ h_ => h_.1)))); (case side4 => exact (Kd.R_reads' HO376.out).2.1); rintro e w46 ⟨rfl, hb⟩; refine ⟨_, rfl, ?_⟩; have n0_ := Aside0.mk (Kd.R_below (by (with_reducible repeat (first | apply Kd.R_alloc | apply Kd.R_drewN | apply Kd.R_drew)); exact (Kd.R_mono (Kd.R_far (p := ⟨gb390, 1, none⟩) (Kd.R_far (p := ⟨gb390, 0, none⟩) (Kd.R_types HO372.out BK390.out (by decide)) (fun _ hk => hk.2) (.slice Ao32 t385.length co32)) (fun _ hk => hk.2) (.int .i64 t388)) (fun _ h_ => h_.1))) hb); have n1_ := Aside0.mk (Kd.R_below (by (with_reducible repeat (first | apply Kd.R_alloc | apply Kd.R_drewN | apply Kd.R_drew)); exact (Kd.R_mono (Kd.R_far (p := ⟨gb390, 1, none⟩) (Kd.R_far (p := ⟨gb390, 0, none⟩) (Kd.R_types HO376.out BK390.out (by decide)) (fun _ hk => hk.2) (.slice Ao32 t385.length co32)) (fun _ hk => hk.2) (.int .i64 t388)) (fun _ h_ => h_.1))) hb); have n2_ := Aside0.mk (Kd.R_below (by (with_reducible repeat (first | apply Kd.R_alloc | apply Kd.R_drewN | apply Kd.R_drew)); exact (Kd.R_mono (Kd.R_far (p := ⟨gb390, 1, none⟩) (Kd.R_far (p := ⟨gb390, 0, none⟩) (Kd.R_types HO382.out BK390.out (by decide)) (fun _ hk => hk.2) (.slice Ao32 t385.length co32)) (fun _ hk => hk.2) (.int .i64 t388)) (fun _ h_ => h_.1))) hb); have n3_ := Aside0.mk (Kd.R_below (by (with_reducible repeat (first | apply Kd.R_alloc | apply Kd.R_drewN | apply Kd.R_drew)); exact (Kd.R_mono (Kd.R_far (p := ⟨gb390, 1, none⟩) (Kd.R_far (p := ⟨gb390, 0, none⟩) (Kd.R_types HO387.out BK390.out (by decide)) (fun _ hk => hk.2) (.slice Ao32 t385.length co32)) (fun _ hk => hk.2) (.int .i64 t388)) (fun _ h_ => h_.1))) hb); have n4_ := Aside0.mk (blk_below (g := gb368) (o := .cells #[.slice A0_0 l0_0.length c0_0, .int .i64 a0_1] 47 (0, 0)) (by (with_reducible repeat (first | refine blk_drewN ?_ _ | refine blk_drew ?_ | refine blk_alloc ?_ _)); refine blk_far ?_ NB368_390.out _; (with_reducible repeat (first | refine blk_drewN ?_ _ | refine blk_drew ?_ | refine blk_alloc ?_ _)); refine blk_far ?_ NB368_390.out _; (with_reducible repeat (first | refine blk_drewN ?_ _ | refine blk_drew ?_ | refine blk_alloc ?_ _)); exact BK368.out) hb); have n5_ := Aside0.mk (blk_below (g := gb379) (o := .cells #[.slice Ao20 t374.length co20, .int .i64 t377] 32 (0, 0)) (by (with_reducible repeat (first | refine blk_drewN ?_ _ | refine blk_drew ?_ | refine blk_alloc ?_ _)); refine blk_far ?_ NB379_390.out _; (with_reducible repeat (first | refine blk_drewN ?_ _ | refine blk_drew ?_ | refine blk_alloc ?_ _)); refine blk_far ?_ NB379_390.out _; (with_reducible repeat (first | refine blk_drewN ?_ _ | refine blk_drew ?_ | refine blk_alloc ?_ _)); exact BK379.out) hb); have n6_ := Aside0.mk (blk_below (g := gb384) (o := .cells #[.slice Ao26 t380.length co26, .int .i64 t383] 32 (0, 0)) (by (with_reducible repeat (first | refine blk_drewN ?_ _ | refine blk_drew ?_ | refine blk_alloc ?_ _)); refine blk_far ?_ NB384_390.out _; (with_reducible repeat (first | refine blk_drewN ?_ _ | refine blk_drew ?_ | refine blk_alloc ?_ _)); refine blk_far ?_ NB384_390.out _; (with_reducible repeat (first | refine blk_drewN ?_ _ | refine blk_drew ?_ | refine blk_alloc ?_ _)); exact BK384.out) hb); have n7_ := Aside0.mk (blk_below (g := gb390) (o := .cells #[.slice Ao32 t385.length co32, .int .i64 t388] 32 (0, 0)) (by (with_reducible repeat (first | refine blk_drewN ?_ _ | refine blk_drew ?_ | refine blk_alloc ?_ _)); refine blk_put (cs := #[.slice Ao32 t385.length co32, .int .i64 0]) ?_ 1 _ rfl; (with_reducible repeat (first | refine blk_drewN ?_ _ | refine blk_drew ?_ | refine blk_alloc ?_ _)); refine blk_put (cs := #[.slice none 0 0, .int .i64 0]) ?_ 0 _ rfl; (with_reducible repeat (first | refine blk_drewN ?_ _ | refine blk_drew ?_ | refine blk_alloc ?_ _)); exact BK390.out) hb); have n8_ := Aside0.mk (below_step (by repeat (first | (with_reducible first | exact HB.out | apply below_alloc | apply pw_below_drewN | apply below_drew1 | refine below_set ?_ GE368.out | refine below_set ?_ GE379.out | refine below_set ?_ GE384.out | refine below_set ?_ GE390.out) | exact HB.out)) hb); clear HO372; clear HO376; clear HO382; clear HO387; clear BK368; clear BK379; clear BK384; clear BK390; clear HB; have HO372 := n0_; have HO376 := n1_; have HO382 := n2_; have HO387 := n3_; have BK368 := n4_; have BK379 := n5_; have BK384 := n6_; have BK390 := n7_; have HB := n8_; clear n0_ n1_ n2_ n3_ n4_ n5_ n6_ n7_ n8_; (try clear hb); (try clear hb2); (try clear hk); (try clear hi)))
        go_meet
        case rel => exact ⟨_, ((t389 != t378)), (by first | rfl | (simp; done) | (simp [*]; done)), H', ⟨by first | omega | exact Nat.le_refl _⟩, ⟨by (with_reducible repeat (first | apply Kd.R_alloc | apply Kd.R_drewN | apply Kd.R_drew)); exact Kd.R_mono HO376.out (fun _ hk => ⟨hk.1.2, hk.2⟩)⟩, ⟨by (with_reducible repeat (first | apply Kd.R_alloc | apply Kd.R_drewN | apply Kd.R_drew)); exact Kd.R_mono HO382.out (fun _ hk => ⟨hk.1.2, hk.2⟩)⟩, ⟨by (with_reducible repeat (first | apply Kd.R_alloc | apply Kd.R_drewN | apply Kd.R_drew)); exact Kd.R_mono HO387.out (fun _ hk => ⟨hk.1.2, hk.2⟩)⟩, ⟨by (with_reducible repeat (first | refine blk_drewN ?_ _ | refine blk_drew ?_ | refine blk_alloc ?_ _)); exact BK368.out⟩, ⟨by (with_reducible repeat (first | refine blk_drewN ?_ _ | refine blk_drew ?_ | refine blk_alloc ?_ _)); exact BK379.out⟩, ⟨by (with_reducible repeat (first | refine blk_drewN ?_ _ | refine blk_drew ?_ | refine blk_alloc ?_ _)); exact BK384.out⟩, ⟨by (with_reducible repeat (first | refine blk_drewN ?_ _ | refine blk_drew ?_ | refine blk_alloc ?_ _)); exact BK390.out⟩, ⟨by repeat (first | (with_reducible first | exact HB.out | apply below_alloc | apply pw_below_drewN | apply below_drew1 | refine below_set ?_ GE368.out | refine below_set ?_ GE379.out | refine below_set ?_ GE384.out | refine below_set ?_ GE390.out) | exact HB.out)⟩⟩
      · replace c38 := Bool.eq_false_iff.mpr c38
        subst c38
        have H1 : (laws_FnExactTrimCode.j0 k t378 t389 true l0_0 a0_1 t374 t377 t380 t383 t385 t388) = some r := by rw [if_neg (show ¬ (false = true) by decide)] at H; exact H
        clear H
        have H := H1
        clear H1
        have H' := Aside0.mk H
        clear H
        have hnb47 := NB390_368.out
        have hnc47 := NB368_390.out
        have hnb48 := NB390_379.out
        have hnc48 := NB379_390.out
        have hnb49 := NB390_384.out
        have hnc49 := NB384_390.out
        have hcz50_0 : w31.cell? ⟨gb390, 0, none⟩ = some (.slice none 0 0) := (blk_cell BK390.out 0).trans rfl
        have hcz50_1 : w31.cell? ⟨gb390, 1, none⟩ = some (.int .i64 0) := (blk_cell BK390.out 1).trans rfl
        have hfz50_0 := blk_frozen BK390.out 0
        have hfz50_1 := blk_frozen BK390.out 1
        have hnb51 := NB379_368.out
        have hnc51 := NB368_379.out
        have hnb52 := NB379_384.out
        have hnc52 := NB384_379.out
        have hcz53_0 : w31.cell? ⟨gb379, 0, none⟩ = some (.slice Ao20 t374.length co20) := (blk_cell BK379.out 0).trans rfl
        have hcz53_1 : w31.cell? ⟨gb379, 1, none⟩ = some (.int .i64 t377) := (blk_cell BK379.out 1).trans rfl
        have hfz53_0 := blk_frozen BK379.out 0
        have hfz53_1 := blk_frozen BK379.out 1
        go_wp2_with (first | ((with_reducible refine gate_callee (f := 27) rfl ?_); refine goesL_ (some 34) rfl rfl Try.func27 (by kernel_rfl) rfl #[.agg #[.slice Ao32 t385.length co32, .int .i64 t388], .agg #[.slice Ao20 t374.length co20, .int .i64 t377]] rfl (by (try simp only [List.map_toArray, List.map_cons, List.map_nil]); first | done | rfl | (simp only [List.length_drop, List.length_take]; rfl)) ?_; (with_reducible refine (laws_eqCode.calls k _ _ t385 t388 _ _ t374 t377 false _ ?side1 ?side2 ?side3 ?side4 A37.out).mono ?_); (case side1 => refine (Kd.R_reads' (e := 109) (base := w.heap.size) (ok := fun k_ => (((True ∧ some k_ ≠ (.slice Ao17 t370.length co17 : Value).ownBlock) ∧ some k_ ≠ (.slice Ao20 t374.length co20 : Value).ownBlock) ∧ some k_ ≠ (.slice Ao26 t380.length co26 : Value).ownBlock)) (n := t385.length) (c := co32) ?_).2.2; exact (by (with_reducible repeat (first | apply Kd.R_alloc | apply Kd.R_drewN | apply Kd.R_drew)); exact (Kd.R_mono (Kd.R_far (p := ⟨gb390, 1, none⟩) (Kd.R_far (p := ⟨gb390, 0, none⟩) (Kd.R_types HO387.out BK390.out (by decide)) (fun _ hk => hk.2) (.slice Ao32 t385.length co32)) (fun _ hk => hk.2) (.int .i64 t388)) (fun _ h_ => h_.1)))); (case side2 => exact (Kd.R_reads' HO387.out).2.1); (case side3 => refine (Kd.R_reads' (e := 109) (base := w.heap.size) (ok := fun k_ => (((True ∧ some k_ ≠ (.slice Ao17 t370.length co17 : Value).ownBlock) ∧ some k_ ≠ (.slice Ao26 t380.length co26 : Value).ownBlock) ∧ some k_ ≠ (.slice Ao32 t385.length co32 : Value).ownBlock)) (n := t374.length) (c := co20) ?_).2.2; exact (by (with_reducible repeat (first | apply Kd.R_alloc | apply Kd.R_drewN | apply Kd.R_drew)); exact (Kd.R_mono (Kd.R_far (p := ⟨gb390, 1, none⟩) (Kd.R_far (p := ⟨gb390, 0, none⟩) (Kd.R_types HO376.out BK390.out (by decide)) (fun _ hk => hk.2) (.slice Ao32 t385.length co32)) (fun _ hk => hk.2) (.int .i64 t388)) (fun _ h_ => h_.1)))); (case side4 => exact (Kd.R_reads' HO376.out).2.1); rintro e w54 ⟨rfl, hb⟩; refine ⟨_, rfl, ?_⟩; have n0_ := Aside0.mk (Kd.R_below (by (with_reducible repeat (first | apply Kd.R_alloc | apply Kd.R_drewN | apply Kd.R_drew)); exact (Kd.R_mono (Kd.R_far (p := ⟨gb390, 1, none⟩) (Kd.R_far (p := ⟨gb390, 0, none⟩) (Kd.R_types HO372.out BK390.out (by decide)) (fun _ hk => hk.2) (.slice Ao32 t385.length co32)) (fun _ hk => hk.2) (.int .i64 t388)) (fun _ h_ => h_.1))) hb); have n1_ := Aside0.mk (Kd.R_below (by (with_reducible repeat (first | apply Kd.R_alloc | apply Kd.R_drewN | apply Kd.R_drew)); exact (Kd.R_mono (Kd.R_far (p := ⟨gb390, 1, none⟩) (Kd.R_far (p := ⟨gb390, 0, none⟩) (Kd.R_types HO376.out BK390.out (by decide)) (fun _ hk => hk.2) (.slice Ao32 t385.length co32)) (fun _ hk => hk.2) (.int .i64 t388)) (fun _ h_ => h_.1))) hb); have n2_ := Aside0.mk (Kd.R_below (by (with_reducible repeat (first | apply Kd.R_alloc | apply Kd.R_drewN | apply Kd.R_drew)); exact (Kd.R_mono (Kd.R_far (p := ⟨gb390, 1, none⟩) (Kd.R_far (p := ⟨gb390, 0, none⟩) (Kd.R_types HO382.out BK390.out (by decide)) (fun _ hk => hk.2) (.slice Ao32 t385.length co32)) (fun _ hk => hk.2) (.int .i64 t388)) (fun _ h_ => h_.1))) hb); have n3_ := Aside0.mk (Kd.R_below (by (with_reducible repeat (first | apply Kd.R_alloc | apply Kd.R_drewN | apply Kd.R_drew)); exact (Kd.R_mono (Kd.R_far (p := ⟨gb390, 1, none⟩) (Kd.R_far (p := ⟨gb390, 0, none⟩) (Kd.R_types HO387.out BK390.out (by decide)) (fun _ hk => hk.2) (.slice Ao32 t385.length co32)) (fun _ hk => hk.2) (.int .i64 t388)) (fun _ h_ => h_.1))) hb); have n4_ := Aside0.mk (blk_below (g := gb368) (o := .cells #[.slice A0_0 l0_0.length c0_0, .int .i64 a0_1] 47 (0, 0)) (by (with_reducible repeat (first | refine blk_drewN ?_ _ | refine blk_drew ?_ | refine blk_alloc ?_ _)); refine blk_far ?_ NB368_390.out _; (with_reducible repeat (first | refine blk_drewN ?_ _ | refine blk_drew ?_ | refine blk_alloc ?_ _)); refine blk_far ?_ NB368_390.out _; (with_reducible repeat (first | refine blk_drewN ?_ _ | refine blk_drew ?_ | refine blk_alloc ?_ _)); exact BK368.out) hb); have n5_ := Aside0.mk (blk_below (g := gb379) (o := .cells #[.slice Ao20 t374.length co20, .int .i64 t377] 32 (0, 0)) (by (with_reducible repeat (first | refine blk_drewN ?_ _ | refine blk_drew ?_ | refine blk_alloc ?_ _)); refine blk_far ?_ NB379_390.out _; (with_reducible repeat (first | refine blk_drewN ?_ _ | refine blk_drew ?_ | refine blk_alloc ?_ _)); refine blk_far ?_ NB379_390.out _; (with_reducible repeat (first | refine blk_drewN ?_ _ | refine blk_drew ?_ | refine blk_alloc ?_ _)); exact BK379.out) hb); have n6_ := Aside0.mk (blk_below (g := gb384) (o := .cells #[.slice Ao26 t380.length co26, .int .i64 t383] 32 (0, 0)) (by (with_reducible repeat (first | refine blk_drewN ?_ _ | refine blk_drew ?_ | refine blk_alloc ?_ _)); refine blk_far ?_ NB384_390.out _; (with_reducible repeat (first | refine blk_drewN ?_ _ | refine blk_drew ?_ | refine blk_alloc ?_ _)); refine blk_far ?_ NB384_390.out _; (with_reducible repeat (first | refine blk_drewN ?_ _ | refine blk_drew ?_ | refine blk_alloc ?_ _)); exact BK384.out) hb); have n7_ := Aside0.mk (blk_below (g := gb390) (o := .cells #[.slice Ao32 t385.length co32, .int .i64 t388] 32 (0, 0)) (by (with_reducible repeat (first | refine blk_drewN ?_ _ | refine blk_drew ?_ | refine blk_alloc ?_ _)); refine blk_put (cs := #[.slice Ao32 t385.length co32, .int .i64 0]) ?_ 1 _ rfl; (with_reducible repeat (first | refine blk_drewN ?_ _ | refine blk_drew ?_ | refine blk_alloc ?_ _)); refine blk_put (cs := #[.slice none 0 0, .int .i64 0]) ?_ 0 _ rfl; (with_reducible repeat (first | refine blk_drewN ?_ _ | refine blk_drew ?_ | refine blk_alloc ?_ _)); exact BK390.out) hb); have n8_ := Aside0.mk (below_step (by repeat (first | (with_reducible first | exact HB.out | apply below_alloc | apply pw_below_drewN | apply below_drew1 | refine below_set ?_ GE368.out | refine below_set ?_ GE379.out | refine below_set ?_ GE384.out | refine below_set ?_ GE390.out) | exact HB.out)) hb); clear HO372; clear HO376; clear HO382; clear HO387; clear BK368; clear BK379; clear BK384; clear BK390; clear HB; have HO372 := n0_; have HO376 := n1_; have HO382 := n2_; have HO387 := n3_; have BK368 := n4_; have BK379 := n5_; have BK384 := n6_; have BK390 := n7_; have HB := n8_; clear n0_ n1_ n2_ n3_ n4_ n5_ n6_ n7_ n8_; (try clear hb); (try clear hb2); (try clear hk); (try clear hi)))
        go_meet
        case rel => exact ⟨_, (true), (by first | rfl | (simp; done) | (simp [*]; done)), H', ⟨by first | omega | exact Nat.le_refl _⟩, ⟨by (with_reducible repeat (first | apply Kd.R_alloc | apply Kd.R_drewN | apply Kd.R_drew)); exact Kd.R_mono HO376.out (fun _ hk => ⟨hk.1.2, hk.2⟩)⟩, ⟨by (with_reducible repeat (first | apply Kd.R_alloc | apply Kd.R_drewN | apply Kd.R_drew)); exact Kd.R_mono HO382.out (fun _ hk => ⟨hk.1.2, hk.2⟩)⟩, ⟨by (with_reducible repeat (first | apply Kd.R_alloc | apply Kd.R_drewN | apply Kd.R_drew)); exact Kd.R_mono HO387.out (fun _ hk => ⟨hk.1.2, hk.2⟩)⟩, ⟨by (with_reducible repeat (first | refine blk_drewN ?_ _ | refine blk_drew ?_ | refine blk_alloc ?_ _)); exact BK368.out⟩, ⟨by (with_reducible repeat (first | refine blk_drewN ?_ _ | refine blk_drew ?_ | refine blk_alloc ?_ _)); exact BK379.out⟩, ⟨by (with_reducible repeat (first | refine blk_drewN ?_ _ | refine blk_drew ?_ | refine blk_alloc ?_ _)); exact BK384.out⟩, ⟨by (with_reducible repeat (first | refine blk_drewN ?_ _ | refine blk_drew ?_ | refine blk_alloc ?_ _)); exact BK390.out⟩, ⟨by repeat (first | (with_reducible first | exact HB.out | apply below_alloc | apply pw_below_drewN | apply below_drew1 | refine below_set ?_ GE368.out | refine below_set ?_ GE379.out | refine below_set ?_ GE384.out | refine below_set ?_ GE390.out) | exact HB.out)⟩⟩
    case rest =>
      clear HC11
      try clear c2
      try clear p2
      try clear c3
      try clear c3b0
      try clear c4
      try clear c5
      try clear c21
      try clear c27
      try clear c28
      try clear c32
      try clear c33
      try clear c34
      try clear c35
      try clear c38
      try clear c39
      try clear c40
      try clear c41
      try clear c43
      try clear c44
      try clear c47
      try clear c48
      try clear c49
      try clear c51
      try clear c52
      try clear hcz13_0
      try clear hcz13_1
      try clear hcz15_0
      try clear hcz15_1
      try clear hcz22_0
      try clear hcz22_1
      try clear hcz23_0
      try clear hcz23_1
      try clear hcz29_0
      try clear hcz29_1
      try clear hcz36_0
      try clear hcz36_1
      try clear hcz42_0
      try clear hcz42_1
      try clear hcz45_0
      try clear hcz45_1
      try clear hcz50_0
      try clear hcz50_1
      try clear hcz53_0
      try clear hcz53_1
      try clear hcz5_0
      try clear hcz5_1
      try clear hfz13_0
      try clear hfz13_1
      try clear hfz15_0
      try clear hfz15_1
      try clear hfz22_0
      try clear hfz22_1
      try clear hfz23_0
      try clear hfz23_1
      try clear hfz29_0
      try clear hfz29_1
      try clear hfz36_0
      try clear hfz36_1
      try clear hfz42_0
      try clear hfz42_1
      try clear hfz45_0
      try clear hfz45_1
      try clear hfz50_0
      try clear hfz50_1
      try clear hfz53_0
      try clear hfz53_1
      try clear hfz5_0
      try clear hfz5_1
      obtain ⟨kq, x40_10, rfl, HA, HJ10, HO_380000, HO_385000, HO_391000, BK368, BK379, BK384, BK390, HB⟩ := hcut
      cases kq with
      | zero => exact absurd HA.out (by simp [laws_FnExactTrimCode.j0])
      | succ kj10 =>
        have H := HA.out
        clear HA
        simp only [laws_FnExactTrimCode.j0] at H
        by_cases c55 : x40_10 = true
        · subst c55
          have H1 : (some false) = some r := by rw [if_pos rfl] at H; exact H
          clear H
          have H := H1
          clear H1
          obtain rfl := Option.some.inj H
          go_wp2
          go_ret
          exact ⟨by first | rfl | (simp [errW_none, errW_some] <;> rfl) | (simp [*, errW_none, errW_some] <;> rfl), by repeat (first | (with_reducible first | exact HB.out | apply below_alloc | apply pw_below_drewN | apply below_drew1 | refine below_set ?_ GE368.out | refine below_set ?_ GE379.out | refine below_set ?_ GE384.out | refine below_set ?_ GE390.out) | exact HB.out)⟩
        · replace c55 := Bool.eq_false_iff.mpr c55
          subst c55
          have H1 : ((laws_toCode.f kj10 l0_0 a0_1).bind fun bt392 => ((laws_eqCode.f kj10 t380 t383 bt392.1 bt392.2).bind fun t396 => (if t396 = true then ((laws_markCode.f kj10 t380 t383 1).bind fun bt397 => (if bt397.1 < 0 then (laws_FnExactTrimCode.j1 kj10 t378 true l0_0 a0_1 t374 t377 t385 t388) else ((laws_eqCode.f kj10 t385 t388 t374 t377).bind fun t399 => (if t399 = true then (laws_FnExactTrimCode.j1 kj10 t378 (t389 != t378) l0_0 a0_1 t374 t377 t385 t388) else (laws_FnExactTrimCode.j1 kj10 t378 true l0_0 a0_1 t374 t377 t385 t388))))) else (some false)))) = some r := by rw [if_neg (show ¬ (false = true) by decide)] at H; exact H
          clear H
          have H := H1
          clear H1
          replace H := Option.bind_eq_some_iff.mp H
          obtain ⟨⟨t392, t395⟩, A560, H⟩ := H
          replace H : ((laws_eqCode.f kj10 t380 t383 t392 t395).bind fun t396 => (if t396 = true then ((laws_markCode.f kj10 t380 t383 1).bind fun bt397 => (if bt397.1 < 0 then (laws_FnExactTrimCode.j1 kj10 t378 true l0_0 a0_1 t374 t377 t385 t388) else ((laws_eqCode.f kj10 t385 t388 t374 t377).bind fun t399 => (if t399 = true then (laws_FnExactTrimCode.j1 kj10 t378 (t389 != t378) l0_0 a0_1 t374 t377 t385 t388) else (laws_FnExactTrimCode.j1 kj10 t378 true l0_0 a0_1 t374 t377 t385 t388))))) else (some false))) = some r := H
          have A56 := Aside0.mk A560
          clear A560
          replace H := Option.bind_eq_some_iff.mp H
          obtain ⟨t396, A570, H⟩ := H
          replace H : (if t396 = true then ((laws_markCode.f kj10 t380 t383 1).bind fun bt397 => (if bt397.1 < 0 then (laws_FnExactTrimCode.j1 kj10 t378 true l0_0 a0_1 t374 t377 t385 t388) else ((laws_eqCode.f kj10 t385 t388 t374 t377).bind fun t399 => (if t399 = true then (laws_FnExactTrimCode.j1 kj10 t378 (t389 != t378) l0_0 a0_1 t374 t377 t385 t388) else (laws_FnExactTrimCode.j1 kj10 t378 true l0_0 a0_1 t374 t377 t385 t388))))) else (some false)) = some r := H
          have A57 := Aside0.mk A570
          clear A570
          by_cases c58 : t396 = true
          · subst c58
            have H1 : ((laws_markCode.f kj10 t380 t383 1).bind fun bt397 => (if bt397.1 < 0 then (laws_FnExactTrimCode.j1 kj10 t378 true l0_0 a0_1 t374 t377 t385 t388) else ((laws_eqCode.f kj10 t385 t388 t374 t377).bind fun t399 => (if t399 = true then (laws_FnExactTrimCode.j1 kj10 t378 (t389 != t378) l0_0 a0_1 t374 t377 t385 t388) else (laws_FnExactTrimCode.j1 kj10 t378 true l0_0 a0_1 t374 t377 t385 t388))))) = some r := by rw [if_pos rfl] at H; exact H
            clear H
            have H := H1
            clear H1
            replace H := Option.bind_eq_some_iff.mp H
            obtain ⟨⟨t397, t398⟩, A590, H⟩ := H
            replace H : (if t397 < 0 then (laws_FnExactTrimCode.j1 kj10 t378 true l0_0 a0_1 t374 t377 t385 t388) else ((laws_eqCode.f kj10 t385 t388 t374 t377).bind fun t399 => (if t399 = true then (laws_FnExactTrimCode.j1 kj10 t378 (t389 != t378) l0_0 a0_1 t374 t377 t385 t388) else (laws_FnExactTrimCode.j1 kj10 t378 true l0_0 a0_1 t374 t377 t385 t388)))) = some r := H
            have A59 := Aside0.mk A590
            clear A590
            have HC60 := Aside0.mk H
            clear H
            try go_wp2
            have n0_ := Aside0.mk (Kd.R_drew HO_380000.out)
            have n1_ := Aside0.mk (Kd.R_drew HO_385000.out)
            have n2_ := Aside0.mk (Kd.R_drew HO_391000.out)
            have n3_ := Aside0.mk (blk_drew BK368.out)
            have n4_ := Aside0.mk (blk_drew BK379.out)
            have n5_ := Aside0.mk (blk_drew BK384.out)
            have n6_ := Aside0.mk (blk_drew BK390.out)
            have n7_ := Aside0.mk (below_drew1 HB.out)
            clear HO_380000
            clear HO_385000
            clear HO_391000
            clear BK368
            clear BK379
            clear BK384
            clear BK390
            clear HB
            have HO_380000 := n0_
            have HO_385000 := n1_
            have HO_391000 := n2_
            have BK368 := n3_
            have BK379 := n4_
            have BK384 := n5_
            have BK390 := n6_
            have HB := n7_
            clear n0_ n1_ n2_ n3_ n4_ n5_ n6_ n7_
            refine start_ (n := 5) (S := fun w' => w'.cell? ⟨gb384, 0, none⟩ = some (.slice Ao26 t380.length co26) ∧ w'.cell? ⟨gb384, 1, none⟩ = some (.int .i64 t383) ∧ w'.cell? ⟨gb368, 0, none⟩ = some (.slice A0_0 l0_0.length c0_0) ∧ w'.cell? ⟨gb368, 1, none⟩ = some (.int .i64 a0_1)) (ds := []) #[false, false, false, false, false] (by kernel_rfl) rfl rfl ⟨(blk_cell BK384.out 0).trans rfl, (blk_cell BK384.out 1).trans rfl, (blk_cell BK368.out 0).trans rfl, (blk_cell BK368.out 1).trans rfl⟩ (fun hHeld => ?_)
            generalize wc.drew = w61 at HO_380000 HO_385000 HO_391000 BK368 BK379 BK384 BK390 HB hHeld ⊢
            refine take_ (i := 0) (N := some 41) (v := ?_) (a' := ?_) #[true, false, false, false, false] rfl rfl (by kernel_rfl) (fun _ _ _ h => h) (Or.inl ⟨by rfl, ?_⟩) hHeld ?_ ?_
            rotate_left
            · rintro w' ⟨s0, s1, s2, s3⟩
              go_simp
              with_reducible rfl
            rotate_left
            · simp only [Act.put, List.setIfInBounds_toArray, List.set_cons_zero, List.set_cons_succ, i64_w, i32_w]
              rfl
            refine take_ (i := 1) (N := some 42) (v := ?_) (a' := ?_) #[true, true, false, false, false] rfl rfl (by kernel_rfl) (fun _ _ _ h => h) (Or.inl ⟨by rfl, ?_⟩) hHeld ?_ ?_
            rotate_left
            · rintro w' ⟨s0, s1, s2, s3⟩
              go_simp
              with_reducible rfl
            rotate_left
            · simp only [Act.put, List.setIfInBounds_toArray, List.set_cons_zero, List.set_cons_succ, i64_w, i32_w]
              rfl
            refine one_ (i := 2) (N := some 43) #[true, true, true, false, false] rfl rfl (by kernel_rfl) (by decide) (fun K hK => ?_)
            refine goes_ Try.func34 (by kernel_rfl) rfl #[.agg #[.slice A0_0 l0_0.length c0_0, .int .i64 a0_1]] (by rfl) rfl rfl (by (try simp only [List.map_toArray, List.map_cons, List.map_nil]); first | done | rfl | (simp only [List.length_drop, List.length_take]; rfl)) ?_
            with_reducible refine (laws_toCode.calls kj10 _ _ l0_0 a0_1 t392 t395 _ ?side1 ?side2 A56.out).mono ?_
            (case side1 => repeat (first | exact (Kd.C_below HR0_0.out HB.out) | (with_reducible refine Kd.C_alloc ?_ _) | (with_reducible refine Kd.C_drewN ?_ _) | (with_reducible refine Kd.C_drew ?_)))
            (case side2 => exact HC0_0.out)
            rintro e w62 ⟨v393, rfl, ho0, hb⟩
            refine ⟨_, rfl, ?_⟩
            have n0_ := Aside0.mk (Kd.R_elder' (by (with_reducible repeat (first | apply Kd.R_alloc | apply Kd.R_drewN | apply Kd.R_drew)); exact HO_380000.out) (Kd.R_base ho0) hb)
            have n1_ := Aside0.mk (Kd.R_elder' (by (with_reducible repeat (first | apply Kd.R_alloc | apply Kd.R_drewN | apply Kd.R_drew)); exact HO_385000.out) (Kd.R_base ho0) hb)
            have n2_ := Aside0.mk (Kd.R_elder' (by (with_reducible repeat (first | apply Kd.R_alloc | apply Kd.R_drewN | apply Kd.R_drew)); exact HO_391000.out) (Kd.R_base ho0) hb)
            have n3_ := Aside0.mk (Kd.R_lower (Kd.R_new' (Kd.R_new' (Kd.R_new' ho0 (Kd.R_lt (by (with_reducible repeat (first | apply Kd.R_alloc | apply Kd.R_drewN | apply Kd.R_drew)); exact HO_380000.out))) (Kd.R_lt (by (with_reducible repeat (first | apply Kd.R_alloc | apply Kd.R_drewN | apply Kd.R_drew)); exact HO_385000.out))) (Kd.R_lt (by (with_reducible repeat (first | apply Kd.R_alloc | apply Kd.R_drewN | apply Kd.R_drew)); exact HO_391000.out))) (below_size (by repeat (first | (with_reducible first | exact HB.out | apply below_alloc | apply pw_below_drewN | apply below_drew1 | refine below_set ?_ GE368.out | refine below_set ?_ GE379.out | refine below_set ?_ GE384.out | refine below_set ?_ GE390.out) | exact HB.out))))
            have n4_ := Aside0.mk (blk_below (g := gb368) (o := .cells #[.slice A0_0 l0_0.length c0_0, .int .i64 a0_1] 47 (0, 0)) (by (with_reducible repeat (first | refine blk_drewN ?_ _ | refine blk_drew ?_ | refine blk_alloc ?_ _)); exact BK368.out) hb)
            have n5_ := Aside0.mk (blk_below (g := gb379) (o := .cells #[.slice Ao20 t374.length co20, .int .i64 t377] 32 (0, 0)) (by (with_reducible repeat (first | refine blk_drewN ?_ _ | refine blk_drew ?_ | refine blk_alloc ?_ _)); exact BK379.out) hb)
            have n6_ := Aside0.mk (blk_below (g := gb384) (o := .cells #[.slice Ao26 t380.length co26, .int .i64 t383] 32 (0, 0)) (by (with_reducible repeat (first | refine blk_drewN ?_ _ | refine blk_drew ?_ | refine blk_alloc ?_ _)); exact BK384.out) hb)
            have n7_ := Aside0.mk (blk_below (g := gb390) (o := .cells #[.slice Ao32 t385.length co32, .int .i64 t388] 32 (0, 0)) (by (with_reducible repeat (first | refine blk_drewN ?_ _ | refine blk_drew ?_ | refine blk_alloc ?_ _)); exact BK390.out) hb)
            have n8_ := Aside0.mk (below_step (by repeat (first | (with_reducible first | exact HB.out | apply below_alloc | apply pw_below_drewN | apply below_drew1 | refine below_set ?_ GE368.out | refine below_set ?_ GE379.out | refine below_set ?_ GE384.out | refine below_set ?_ GE390.out) | exact HB.out)) hb)
            clear HO_380000
            clear HO_385000
            clear HO_391000
            clear BK368
            clear BK379
            clear BK384
            clear BK390
            clear HB
            have HO_380000 := n0_
            have HO_385000 := n1_
            have HO_391000 := n2_
            have HO394 := n3_
            have BK368 := n4_
            have BK379 := n5_
            have BK384 := n6_
            have BK390 := n7_
            have HB := n8_
            clear n0_ n1_ n2_ n3_ n4_ n5_ n6_ n7_ n8_
            (try clear hb)
            (try clear hb2)
            (try clear hk)
            (try clear hi)
            (try clear ho0)
            obtain ⟨Ao63, co63, eo63⟩ := Kd.R_slice HO394.out
            (first | subst eo63 | (injection eo63 with f1_ f2_ f3_; have f4_ := f1_.symm; have f5_ := f3_.symm; clear f1_ f2_ f3_; subst f4_; subst f5_))
            refine hK.out _ _ ⟨(blk_cell BK384.out 0).trans rfl, (blk_cell BK384.out 1).trans rfl, (blk_cell BK368.out 0).trans rfl, (blk_cell BK368.out 1).trans rfl⟩ (fun hHeld => ?_)
            clear hK K
            refine norm_ (a' := ?_) ?_ ?_
            rotate_left
            · show Act.put _ (some 43) _ = _
              simp only [Act.put, List.setIfInBounds_toArray, List.set_cons_zero, List.set_cons_succ, i64_w, i32_w]
              rfl
            refine one_ (i := 3) (N := some 44) #[true, true, true, true, false] rfl rfl (by kernel_rfl) (by decide) (fun K hK => ?_)
            refine goes_ Try.func27 (by kernel_rfl) rfl #[.agg #[.slice Ao26 t380.length co26, .int .i64 t383], .agg #[.slice Ao63 t392.length co63, .int .i64 t395]] (by rfl) rfl rfl (by (try simp only [List.map_toArray, List.map_cons, List.map_nil]); first | done | rfl | (simp only [List.length_drop, List.length_take]; rfl)) ?_
            with_reducible refine (laws_eqCode.calls kj10 _ _ t380 t383 _ _ t392 t395 true _ ?side1 ?side2 ?side3 ?side4 A57.out).mono ?_
            (case side1 => repeat (first | exact (Kd.R_reads' HO_385000.out).2.2 | (with_reducible refine Kd.C_alloc ?_ _) | (with_reducible refine Kd.C_drewN ?_ _) | (with_reducible refine Kd.C_drew ?_)))
            (case side2 => exact (Kd.R_reads' HO_385000.out).2.1)
            (case side3 => repeat (first | exact (Kd.R_reads' HO394.out).2.2 | (with_reducible refine Kd.C_alloc ?_ _) | (with_reducible refine Kd.C_drewN ?_ _) | (with_reducible refine Kd.C_drew ?_)))
            (case side4 => exact (Kd.R_reads' HO394.out).2.1)
            rintro e w64 ⟨rfl, hb⟩
            refine ⟨_, rfl, ?_⟩
            have n0_ := Aside0.mk (Kd.R_below (by (with_reducible repeat (first | apply Kd.R_alloc | apply Kd.R_drewN | apply Kd.R_drew)); exact HO_380000.out) hb)
            have n1_ := Aside0.mk (Kd.R_below (by (with_reducible repeat (first | apply Kd.R_alloc | apply Kd.R_drewN | apply Kd.R_drew)); exact HO_385000.out) hb)
            have n2_ := Aside0.mk (Kd.R_below (by (with_reducible repeat (first | apply Kd.R_alloc | apply Kd.R_drewN | apply Kd.R_drew)); exact HO_391000.out) hb)
            have n3_ := Aside0.mk (Kd.R_below (by (with_reducible repeat (first | apply Kd.R_alloc | apply Kd.R_drewN | apply Kd.R_drew)); exact HO394.out) hb)
            have n4_ := Aside0.mk (blk_below (g := gb368) (o := .cells #[.slice A0_0 l0_0.length c0_0, .int .i64 a0_1] 47 (0, 0)) (by (with_reducible repeat (first | refine blk_drewN ?_ _ | refine blk_drew ?_ | refine blk_alloc ?_ _)); exact BK368.out) hb)
            have n5_ := Aside0.mk (blk_below (g := gb379) (o := .cells #[.slice Ao20 t374.length co20, .int .i64 t377] 32 (0, 0)) (by (with_reducible repeat (first | refine blk_drewN ?_ _ | refine blk_drew ?_ | refine blk_alloc ?_ _)); exact BK379.out) hb)
            have n6_ := Aside0.mk (blk_below (g := gb384) (o := .cells #[.slice Ao26 t380.length co26, .int .i64 t383] 32 (0, 0)) (by (with_reducible repeat (first | refine blk_drewN ?_ _ | refine blk_drew ?_ | refine blk_alloc ?_ _)); exact BK384.out) hb)
            have n7_ := Aside0.mk (blk_below (g := gb390) (o := .cells #[.slice Ao32 t385.length co32, .int .i64 t388] 32 (0, 0)) (by (with_reducible repeat (first | refine blk_drewN ?_ _ | refine blk_drew ?_ | refine blk_alloc ?_ _)); exact BK390.out) hb)
            have n8_ := Aside0.mk (below_step (by repeat (first | (with_reducible first | exact HB.out | apply below_alloc | apply pw_below_drewN | apply below_drew1 | refine below_set ?_ GE368.out | refine below_set ?_ GE379.out | refine below_set ?_ GE384.out | refine below_set ?_ GE390.out) | exact HB.out)) hb)
            clear HO_380000
            clear HO_385000
            clear HO_391000
            clear HO394
            clear BK368
            clear BK379
            clear BK384
            clear BK390
            clear HB
            have HO_380000 := n0_
            have HO_385000 := n1_
            have HO_391000 := n2_
            have HO394 := n3_
            have BK368 := n4_
            have BK379 := n5_
            have BK384 := n6_
            have BK390 := n7_
            have HB := n8_
            clear n0_ n1_ n2_ n3_ n4_ n5_ n6_ n7_ n8_
            (try clear hb)
            (try clear hb2)
            (try clear hk)
            (try clear hi)
            refine hK.out _ _ ⟨(blk_cell BK384.out 0).trans rfl, (blk_cell BK384.out 1).trans rfl, (blk_cell BK368.out 0).trans rfl, (blk_cell BK368.out 1).trans rfl⟩ (fun hHeld => ?_)
            clear hK K
            refine norm_ (a' := ?_) ?_ ?_
            rotate_left
            · show Act.put _ (some 44) _ = _
              simp only [Act.put, List.setIfInBounds_toArray, List.set_cons_zero, List.set_cons_succ, i64_w, i32_w]
              rfl
            refine pure_ (i := 4) (N := some 45) (v := ?_) (a' := ?_) #[true, true, true, true, true] rfl rfl (by kernel_rfl) (fun _ _ _ h => h) (Or.inl ⟨by rfl, ?_⟩) ?_ ?_
            rotate_left
            · intro w'
              go_simp
              with_reducible rfl
            rotate_left
            · simp only [Act.put, List.setIfInBounds_toArray, List.set_cons_zero, List.set_cons_succ, i64_w, i32_w]
              rfl
            refine done_ (by kernel_rfl) ?_
            have hnb65 := NB384_368.out
            have hnc65 := NB368_384.out
            have hnb66 := NB384_379.out
            have hnc66 := NB379_384.out
            have hnb67 := NB384_390.out
            have hnc67 := NB390_384.out
            have hcz68_0 : w64.cell? ⟨gb384, 0, none⟩ = some (.slice Ao26 t380.length co26) := (blk_cell BK384.out 0).trans rfl
            have hcz68_1 : w64.cell? ⟨gb384, 1, none⟩ = some (.int .i64 t383) := (blk_cell BK384.out 1).trans rfl
            have hfz68_0 := blk_frozen BK384.out 0
            have hfz68_1 := blk_frozen BK384.out 1
            go_upto_region 14 with (first | ((with_reducible refine gate_callee (f := 30) rfl ?_); refine goesL_ (some 48) rfl rfl Try.func30 (by kernel_rfl) rfl #[.agg #[.slice Ao26 t380.length co26, .int .i64 t383], .int .i64 1] rfl (by (try simp only [List.map_toArray, List.map_cons, List.map_nil]); first | done | rfl | (simp only [List.length_drop, List.length_take]; rfl)) ?_; (with_reducible refine (laws_markCode.calls kj10 (fun k_ => some k_ = (.slice Ao26 t380.length co26 : Value).ownBlock) (.slice Ao26 t380.length co26) t380 t383 1 t397 t398 w _ ?side1 ?side2 A59.out).mono ?_); (case side1 => repeat (first | (with_reducible first | exact HB.out | apply below_alloc | apply pw_below_drewN | apply below_drew1 | refine below_set ?_ GE368.out | refine below_set ?_ GE379.out | refine below_set ?_ GE384.out | refine below_set ?_ GE390.out) | exact HB.out)); (case side2 => exact Kd.R_tight rfl HO_385000.out); rintro e w69 ⟨rfl, hy0, hb, hkp⟩; refine ⟨_, rfl, ?_⟩; have n0_ := Aside0.mk (Kd.R_mono (ok' := fun k_ => some k_ ≠ (.slice Ao26 t380.length co26 : Value).ownBlock ∧ some k_ ≠ (.slice Ao32 t385.length co32 : Value).ownBlock ∧ some k_ ≠ (.slice Ao63 t392.length co63 : Value).ownBlock) (Kd.R_keptB (HO_380000.out) hkp (fun k_ hk_ hs_ => (hk_.1.1) hs_)) (fun k_ hk_ => ⟨hk_.1.1.1, hk_.1.1.2, hk_.1.2⟩)); have n1_ := Aside0.mk (Kd.R_reok rfl hy0 (fun k_ e_ => HO_385000.out.1 k_ e_)); have n2_ := Aside0.mk (Kd.R_mono (ok' := fun k_ => some k_ ≠ (.slice Ao20 t374.length co20 : Value).ownBlock ∧ some k_ ≠ (.slice Ao26 t380.length co26 : Value).ownBlock ∧ some k_ ≠ (.slice Ao63 t392.length co63 : Value).ownBlock) (Kd.R_keptB (HO_391000.out) hkp (fun k_ hk_ hs_ => (hk_.1.2) hs_)) (fun k_ hk_ => ⟨hk_.1.1.1, hk_.1.1.2, hk_.1.2⟩)); have n3_ := Aside0.mk (blk_kept (by (with_reducible repeat (first | refine blk_drewN ?_ _ | refine blk_drew ?_ | refine blk_alloc ?_ _)); exact BK368.out) hkp (fun hs_ => (fun e_ => (Kd.R_ne HO_385000.out BK368.out (by decide)) e_) hs_)); have n4_ := Aside0.mk (blk_kept (by (with_reducible repeat (first | refine blk_drewN ?_ _ | refine blk_drew ?_ | refine blk_alloc ?_ _)); exact BK379.out) hkp (fun hs_ => (fun e_ => (Kd.R_ne HO_385000.out BK379.out (by decide)) e_) hs_)); have n5_ := Aside0.mk (blk_kept (by (with_reducible repeat (first | refine blk_drewN ?_ _ | refine blk_drew ?_ | refine blk_alloc ?_ _)); exact BK384.out) hkp (fun hs_ => (fun e_ => (Kd.R_ne HO_385000.out BK384.out (by decide)) e_) hs_)); have n6_ := Aside0.mk (blk_kept (by (with_reducible repeat (first | refine blk_drewN ?_ _ | refine blk_drew ?_ | refine blk_alloc ?_ _)); exact BK390.out) hkp (fun hs_ => (fun e_ => (Kd.R_ne HO_385000.out BK390.out (by decide)) e_) hs_)); have n7_ := Aside0.mk (Kd.R_mono (ok' := fun k_ => some k_ ≠ (.slice Ao20 t374.length co20 : Value).ownBlock ∧ some k_ ≠ (.slice Ao26 t380.length co26 : Value).ownBlock ∧ some k_ ≠ (.slice Ao32 t385.length co32 : Value).ownBlock) (Kd.R_keptB (HO394.out) hkp (fun k_ hk_ hs_ => (hk_.1.2) hs_)) (fun k_ hk_ => ⟨hk_.1.1.1.2, hk_.1.1.2, hk_.1.2⟩)); have n8_ := Aside0.mk (hb); clear HO_380000; clear HO_385000; clear HO_391000; clear BK368; clear BK379; clear BK384; clear BK390; clear HO394; clear HB; have HO_380000 := n0_; have HO_385000 := n1_; have HO_391000 := n2_; have BK368 := n3_; have BK379 := n4_; have BK384 := n5_; have BK390 := n6_; have HO394 := n7_; have HB := n8_; clear n0_ n1_ n2_ n3_ n4_ n5_ n6_ n7_ n8_; (try clear hb); (try clear hkp); (try clear hy0)))
            (try simp only [Act.put, List.setIfInBounds_toArray, List.set_cons_zero, List.set_cons_succ])
            go_cut [61] (fun v61 wc => ∃ (kq : Nat) (x61_59 : Bool), v61 = .bool x61_59 ∧ Aside0 (laws_FnExactTrimCode.j1 kq t378 x61_59 l0_0 a0_1 t374 t377 t385 t388 = some r) ∧ Aside0 (kq ≤ kj10) ∧ Aside0 (Kd.R k109 109 wc w.heap.size (fun k_ => some k_ ≠ ((.slice Ao26 t380.length co26) : Value).ownBlock ∧ some k_ ≠ ((.slice Ao32 t385.length co32) : Value).ownBlock) (.slice Ao20 t374.length co20) t374) ∧ Aside0 (Kd.R k109 109 wc w.heap.size (fun k_ => some k_ ≠ ((.slice Ao20 t374.length co20) : Value).ownBlock ∧ some k_ ≠ ((.slice Ao32 t385.length co32) : Value).ownBlock) (.slice Ao26 t380.length co26) t398) ∧ Aside0 (Kd.R k109 109 wc w.heap.size (fun k_ => some k_ ≠ ((.slice Ao20 t374.length co20) : Value).ownBlock ∧ some k_ ≠ ((.slice Ao26 t380.length co26) : Value).ownBlock) (.slice Ao32 t385.length co32) t385) ∧ Aside0 (wc.heap[gb368]? = some (.cells #[(.slice A0_0 l0_0.length c0_0), .int .i64 a0_1] 47 (0, 0))) ∧ Aside0 (wc.heap[gb379]? = some (.cells #[(.slice Ao20 t374.length co20), .int .i64 t377] 32 (0, 0))) ∧ Aside0 (wc.heap[gb384]? = some (.cells #[(.slice Ao26 t380.length co26), .int .i64 t383] 32 (0, 0))) ∧ Aside0 (wc.heap[gb390]? = some (.cells #[(.slice Ao32 t385.length co32), .int .i64 t388] 32 (0, 0))) ∧ Aside0 (Below w.heap.size w wc))
            case first =>
              have H := HC60.out
              clear HC60
              by_cases c70 : t397 < 0
              · rw [if_pos c70] at H
                have c70b0 : decide (t397 < 0) = true := decide_eq_true c70
                clear c70
                (first | rw [c70b0] | (simp only [i64_w, i32_w]; rw [c70b0]) | skip)
                have H' := Aside0.mk H
                clear H
                go_wp2
                go_meet
                case rel => exact ⟨_, (true), (by first | rfl | (simp; done) | (simp [*]; done)), H', ⟨by have := HJ10.out; first | omega | exact Nat.le_refl _⟩, ⟨by (with_reducible repeat (first | apply Kd.R_alloc | apply Kd.R_drewN | apply Kd.R_drew)); exact Kd.R_mono HO_380000.out (fun _ hk => ⟨hk.1, hk.2.1⟩)⟩, ⟨by (with_reducible repeat (first | apply Kd.R_alloc | apply Kd.R_drewN | apply Kd.R_drew)); exact Kd.R_mono HO_385000.out (fun _ hk => ⟨hk.1.1, hk.1.2⟩)⟩, ⟨by (with_reducible repeat (first | apply Kd.R_alloc | apply Kd.R_drewN | apply Kd.R_drew)); exact Kd.R_mono HO_391000.out (fun _ hk => ⟨hk.1, hk.2.1⟩)⟩, ⟨by (with_reducible repeat (first | refine blk_drewN ?_ _ | refine blk_drew ?_ | refine blk_alloc ?_ _)); exact BK368.out⟩, ⟨by (with_reducible repeat (first | refine blk_drewN ?_ _ | refine blk_drew ?_ | refine blk_alloc ?_ _)); exact BK379.out⟩, ⟨by (with_reducible repeat (first | refine blk_drewN ?_ _ | refine blk_drew ?_ | refine blk_alloc ?_ _)); exact BK384.out⟩, ⟨by (with_reducible repeat (first | refine blk_drewN ?_ _ | refine blk_drew ?_ | refine blk_alloc ?_ _)); exact BK390.out⟩, ⟨by repeat (first | (with_reducible first | exact HB.out | apply below_alloc | apply pw_below_drewN | apply below_drew1 | refine below_set ?_ GE368.out | refine below_set ?_ GE379.out | refine below_set ?_ GE384.out | refine below_set ?_ GE390.out) | exact HB.out)⟩⟩
              · rw [if_neg c70] at H
                have c70b0 : decide (t397 < 0) = false := decide_eq_false c70
                clear c70
                (first | rw [c70b0] | (simp only [i64_w, i32_w]; rw [c70b0]) | skip)
                replace H := Option.bind_eq_some_iff.mp H
                obtain ⟨t399, A710, H⟩ := H
                replace H : (if t399 = true then (laws_FnExactTrimCode.j1 kj10 t378 (t389 != t378) l0_0 a0_1 t374 t377 t385 t388) else (laws_FnExactTrimCode.j1 kj10 t378 true l0_0 a0_1 t374 t377 t385 t388)) = some r := H
                have A71 := Aside0.mk A710
                clear A710
                by_cases c72 : t399 = true
                · subst c72
                  have H1 : (laws_FnExactTrimCode.j1 kj10 t378 (t389 != t378) l0_0 a0_1 t374 t377 t385 t388) = some r := by rw [if_pos rfl] at H; exact H
                  clear H
                  have H := H1
                  clear H1
                  have H' := Aside0.mk H
                  clear H
                  have hnb73 := NB390_368.out
                  have hnc73 := NB368_390.out
                  have hnb74 := NB390_379.out
                  have hnc74 := NB379_390.out
                  have hnb75 := NB390_384.out
                  have hnc75 := NB384_390.out
                  have hcz76_0 : w69.cell? ⟨gb390, 0, none⟩ = some (.slice Ao32 t385.length co32) := (blk_cell BK390.out 0).trans rfl
                  have hcz76_1 : w69.cell? ⟨gb390, 1, none⟩ = some (.int .i64 t388) := (blk_cell BK390.out 1).trans rfl
                  have hfz76_0 := blk_frozen BK390.out 0
                  have hfz76_1 := blk_frozen BK390.out 1
                  have hnb77 := NB379_368.out
                  have hnc77 := NB368_379.out
                  have hnb78 := NB379_384.out
                  have hnc78 := NB384_379.out
                  have hcz79_0 : w69.cell? ⟨gb379, 0, none⟩ = some (.slice Ao20 t374.length co20) := (blk_cell BK379.out 0).trans rfl
                  have hcz79_1 : w69.cell? ⟨gb379, 1, none⟩ = some (.int .i64 t377) := (blk_cell BK379.out 1).trans rfl
                  have hfz79_0 := blk_frozen BK379.out 0
                  have hfz79_1 := blk_frozen BK379.out 1
                  go_wp2_with (first | (go_at_call 27; (with_reducible refine (laws_eqCode.calls kj10 _ _ t385 t388 _ _ t374 t377 true _ ?side1 ?side2 ?side3 ?side4 A71.out).mono ?_); (case side1 => repeat (first | exact (Kd.R_reads' HO_391000.out).2.2 | (with_reducible refine Kd.C_alloc ?_ _) | (with_reducible refine Kd.C_drewN ?_ _) | (with_reducible refine Kd.C_drew ?_))); (case side2 => exact (Kd.R_reads' HO_391000.out).2.1); (case side3 => repeat (first | exact (Kd.R_reads' HO_380000.out).2.2 | (with_reducible refine Kd.C_alloc ?_ _) | (with_reducible refine Kd.C_drewN ?_ _) | (with_reducible refine Kd.C_drew ?_))); (case side4 => exact (Kd.R_reads' HO_380000.out).2.1); rintro e w80 ⟨rfl, hb⟩; have n0_ := Aside0.mk (Kd.R_below (by (with_reducible repeat (first | apply Kd.R_alloc | apply Kd.R_drewN | apply Kd.R_drew)); exact HO_380000.out) hb); have n1_ := Aside0.mk (Kd.R_below (by (with_reducible repeat (first | apply Kd.R_alloc | apply Kd.R_drewN | apply Kd.R_drew)); exact HO_385000.out) hb); have n2_ := Aside0.mk (Kd.R_below (by (with_reducible repeat (first | apply Kd.R_alloc | apply Kd.R_drewN | apply Kd.R_drew)); exact HO_391000.out) hb); have n3_ := Aside0.mk (Kd.R_below (by (with_reducible repeat (first | apply Kd.R_alloc | apply Kd.R_drewN | apply Kd.R_drew)); exact HO394.out) hb); have n4_ := Aside0.mk (blk_below (g := gb368) (o := .cells #[.slice A0_0 l0_0.length c0_0, .int .i64 a0_1] 47 (0, 0)) (by (with_reducible repeat (first | refine blk_drewN ?_ _ | refine blk_drew ?_ | refine blk_alloc ?_ _)); exact BK368.out) hb); have n5_ := Aside0.mk (blk_below (g := gb379) (o := .cells #[.slice Ao20 t374.length co20, .int .i64 t377] 32 (0, 0)) (by (with_reducible repeat (first | refine blk_drewN ?_ _ | refine blk_drew ?_ | refine blk_alloc ?_ _)); exact BK379.out) hb); have n6_ := Aside0.mk (blk_below (g := gb384) (o := .cells #[.slice Ao26 t380.length co26, .int .i64 t383] 32 (0, 0)) (by (with_reducible repeat (first | refine blk_drewN ?_ _ | refine blk_drew ?_ | refine blk_alloc ?_ _)); exact BK384.out) hb); have n7_ := Aside0.mk (blk_below (g := gb390) (o := .cells #[.slice Ao32 t385.length co32, .int .i64 t388] 32 (0, 0)) (by (with_reducible repeat (first | refine blk_drewN ?_ _ | refine blk_drew ?_ | refine blk_alloc ?_ _)); exact BK390.out) hb); have n8_ := Aside0.mk (below_step (by repeat (first | (with_reducible first | exact HB.out | apply below_alloc | apply pw_below_drewN | apply below_drew1 | refine below_set ?_ GE368.out | refine below_set ?_ GE379.out | refine below_set ?_ GE384.out | refine below_set ?_ GE390.out) | exact HB.out)) hb); clear HO_380000; clear HO_385000; clear HO_391000; clear HO394; clear BK368; clear BK379; clear BK384; clear BK390; clear HB; have HO_380000 := n0_; have HO_385000 := n1_; have HO_391000 := n2_; have HO394 := n3_; have BK368 := n4_; have BK379 := n5_; have BK384 := n6_; have BK390 := n7_; have HB := n8_; clear n0_ n1_ n2_ n3_ n4_ n5_ n6_ n7_ n8_; (try clear hb); (try clear hb2); (try clear hk); (try clear hi)))
                  go_meet
                  case rel => exact ⟨_, ((t389 != t378)), (by first | rfl | (simp; done) | (simp [*]; done)), H', ⟨by have := HJ10.out; first | omega | exact Nat.le_refl _⟩, ⟨by (with_reducible repeat (first | apply Kd.R_alloc | apply Kd.R_drewN | apply Kd.R_drew)); exact Kd.R_mono HO_380000.out (fun _ hk => ⟨hk.1, hk.2.1⟩)⟩, ⟨by (with_reducible repeat (first | apply Kd.R_alloc | apply Kd.R_drewN | apply Kd.R_drew)); exact Kd.R_mono HO_385000.out (fun _ hk => ⟨hk.1.1, hk.1.2⟩)⟩, ⟨by (with_reducible repeat (first | apply Kd.R_alloc | apply Kd.R_drewN | apply Kd.R_drew)); exact Kd.R_mono HO_391000.out (fun _ hk => ⟨hk.1, hk.2.1⟩)⟩, ⟨by (with_reducible repeat (first | refine blk_drewN ?_ _ | refine blk_drew ?_ | refine blk_alloc ?_ _)); exact BK368.out⟩, ⟨by (with_reducible repeat (first | refine blk_drewN ?_ _ | refine blk_drew ?_ | refine blk_alloc ?_ _)); exact BK379.out⟩, ⟨by (with_reducible repeat (first | refine blk_drewN ?_ _ | refine blk_drew ?_ | refine blk_alloc ?_ _)); exact BK384.out⟩, ⟨by (with_reducible repeat (first | refine blk_drewN ?_ _ | refine blk_drew ?_ | refine blk_alloc ?_ _)); exact BK390.out⟩, ⟨by repeat (first | (with_reducible first | exact HB.out | apply below_alloc | apply pw_below_drewN | apply below_drew1 | refine below_set ?_ GE368.out | refine below_set ?_ GE379.out | refine below_set ?_ GE384.out | refine below_set ?_ GE390.out) | exact HB.out)⟩⟩
                · replace c72 := Bool.eq_false_iff.mpr c72
                  subst c72
                  have H1 : (laws_FnExactTrimCode.j1 kj10 t378 true l0_0 a0_1 t374 t377 t385 t388) = some r := by rw [if_neg (show ¬ (false = true) by decide)] at H; exact H
                  clear H
                  have H := H1
                  clear H1
                  have H' := Aside0.mk H
                  clear H
                  have hnb81 := NB390_368.out
                  have hnc81 := NB368_390.out
                  have hnb82 := NB390_379.out
                  have hnc82 := NB379_390.out
                  have hnb83 := NB390_384.out
                  have hnc83 := NB384_390.out
                  have hcz84_0 : w69.cell? ⟨gb390, 0, none⟩ = some (.slice Ao32 t385.length co32) := (blk_cell BK390.out 0).trans rfl
                  have hcz84_1 : w69.cell? ⟨gb390, 1, none⟩ = some (.int .i64 t388) := (blk_cell BK390.out 1).trans rfl
                  have hfz84_0 := blk_frozen BK390.out 0
                  have hfz84_1 := blk_frozen BK390.out 1
                  have hnb85 := NB379_368.out
                  have hnc85 := NB368_379.out
                  have hnb86 := NB379_384.out
                  have hnc86 := NB384_379.out
                  have hcz87_0 : w69.cell? ⟨gb379, 0, none⟩ = some (.slice Ao20 t374.length co20) := (blk_cell BK379.out 0).trans rfl
                  have hcz87_1 : w69.cell? ⟨gb379, 1, none⟩ = some (.int .i64 t377) := (blk_cell BK379.out 1).trans rfl
                  have hfz87_0 := blk_frozen BK379.out 0
                  have hfz87_1 := blk_frozen BK379.out 1
                  go_wp2_with (first | (go_at_call 27; (with_reducible refine (laws_eqCode.calls kj10 _ _ t385 t388 _ _ t374 t377 false _ ?side1 ?side2 ?side3 ?side4 A71.out).mono ?_); (case side1 => repeat (first | exact (Kd.R_reads' HO_391000.out).2.2 | (with_reducible refine Kd.C_alloc ?_ _) | (with_reducible refine Kd.C_drewN ?_ _) | (with_reducible refine Kd.C_drew ?_))); (case side2 => exact (Kd.R_reads' HO_391000.out).2.1); (case side3 => repeat (first | exact (Kd.R_reads' HO_380000.out).2.2 | (with_reducible refine Kd.C_alloc ?_ _) | (with_reducible refine Kd.C_drewN ?_ _) | (with_reducible refine Kd.C_drew ?_))); (case side4 => exact (Kd.R_reads' HO_380000.out).2.1); rintro e w88 ⟨rfl, hb⟩; have n0_ := Aside0.mk (Kd.R_below (by (with_reducible repeat (first | apply Kd.R_alloc | apply Kd.R_drewN | apply Kd.R_drew)); exact HO_380000.out) hb); have n1_ := Aside0.mk (Kd.R_below (by (with_reducible repeat (first | apply Kd.R_alloc | apply Kd.R_drewN | apply Kd.R_drew)); exact HO_385000.out) hb); have n2_ := Aside0.mk (Kd.R_below (by (with_reducible repeat (first | apply Kd.R_alloc | apply Kd.R_drewN | apply Kd.R_drew)); exact HO_391000.out) hb); have n3_ := Aside0.mk (Kd.R_below (by (with_reducible repeat (first | apply Kd.R_alloc | apply Kd.R_drewN | apply Kd.R_drew)); exact HO394.out) hb); have n4_ := Aside0.mk (blk_below (g := gb368) (o := .cells #[.slice A0_0 l0_0.length c0_0, .int .i64 a0_1] 47 (0, 0)) (by (with_reducible repeat (first | refine blk_drewN ?_ _ | refine blk_drew ?_ | refine blk_alloc ?_ _)); exact BK368.out) hb); have n5_ := Aside0.mk (blk_below (g := gb379) (o := .cells #[.slice Ao20 t374.length co20, .int .i64 t377] 32 (0, 0)) (by (with_reducible repeat (first | refine blk_drewN ?_ _ | refine blk_drew ?_ | refine blk_alloc ?_ _)); exact BK379.out) hb); have n6_ := Aside0.mk (blk_below (g := gb384) (o := .cells #[.slice Ao26 t380.length co26, .int .i64 t383] 32 (0, 0)) (by (with_reducible repeat (first | refine blk_drewN ?_ _ | refine blk_drew ?_ | refine blk_alloc ?_ _)); exact BK384.out) hb); have n7_ := Aside0.mk (blk_below (g := gb390) (o := .cells #[.slice Ao32 t385.length co32, .int .i64 t388] 32 (0, 0)) (by (with_reducible repeat (first | refine blk_drewN ?_ _ | refine blk_drew ?_ | refine blk_alloc ?_ _)); exact BK390.out) hb); have n8_ := Aside0.mk (below_step (by repeat (first | (with_reducible first | exact HB.out | apply below_alloc | apply pw_below_drewN | apply below_drew1 | refine below_set ?_ GE368.out | refine below_set ?_ GE379.out | refine below_set ?_ GE384.out | refine below_set ?_ GE390.out) | exact HB.out)) hb); clear HO_380000; clear HO_385000; clear HO_391000; clear HO394; clear BK368; clear BK379; clear BK384; clear BK390; clear HB; have HO_380000 := n0_; have HO_385000 := n1_; have HO_391000 := n2_; have HO394 := n3_; have BK368 := n4_; have BK379 := n5_; have BK384 := n6_; have BK390 := n7_; have HB := n8_; clear n0_ n1_ n2_ n3_ n4_ n5_ n6_ n7_ n8_; (try clear hb); (try clear hb2); (try clear hk); (try clear hi)))
                  go_meet
                  case rel => exact ⟨_, (true), (by first | rfl | (simp; done) | (simp [*]; done)), H', ⟨by have := HJ10.out; first | omega | exact Nat.le_refl _⟩, ⟨by (with_reducible repeat (first | apply Kd.R_alloc | apply Kd.R_drewN | apply Kd.R_drew)); exact Kd.R_mono HO_380000.out (fun _ hk => ⟨hk.1, hk.2.1⟩)⟩, ⟨by (with_reducible repeat (first | apply Kd.R_alloc | apply Kd.R_drewN | apply Kd.R_drew)); exact Kd.R_mono HO_385000.out (fun _ hk => ⟨hk.1.1, hk.1.2⟩)⟩, ⟨by (with_reducible repeat (first | apply Kd.R_alloc | apply Kd.R_drewN | apply Kd.R_drew)); exact Kd.R_mono HO_391000.out (fun _ hk => ⟨hk.1, hk.2.1⟩)⟩, ⟨by (with_reducible repeat (first | refine blk_drewN ?_ _ | refine blk_drew ?_ | refine blk_alloc ?_ _)); exact BK368.out⟩, ⟨by (with_reducible repeat (first | refine blk_drewN ?_ _ | refine blk_drew ?_ | refine blk_alloc ?_ _)); exact BK379.out⟩, ⟨by (with_reducible repeat (first | refine blk_drewN ?_ _ | refine blk_drew ?_ | refine blk_alloc ?_ _)); exact BK384.out⟩, ⟨by (with_reducible repeat (first | refine blk_drewN ?_ _ | refine blk_drew ?_ | refine blk_alloc ?_ _)); exact BK390.out⟩, ⟨by repeat (first | (with_reducible first | exact HB.out | apply below_alloc | apply pw_below_drewN | apply below_drew1 | refine below_set ?_ GE368.out | refine below_set ?_ GE379.out | refine below_set ?_ GE384.out | refine below_set ?_ GE390.out) | exact HB.out)⟩⟩
            case rest =>
              clear HC60
              try clear c2
              try clear p2
              try clear c3
              try clear c3b0
              try clear c4
              try clear c5
              try clear c6
              try clear c7
              try clear c8
              try clear c21
              try clear c27
              try clear c28
              try clear c30
              try clear c32
              try clear c33
              try clear c34
              try clear c35
              try clear c38
              try clear c39
              try clear c40
              try clear c41
              try clear c43
              try clear c44
              try clear c47
              try clear c48
              try clear c49
              try clear c51
              try clear c52
              try clear c55
              try clear c58
              try clear c65
              try clear c66
              try clear c67
              try clear c70
              try clear c70b0
              try clear c72
              try clear c73
              try clear c74
              try clear c75
              try clear c77
              try clear c78
              try clear c81
              try clear c82
              try clear c83
              try clear c85
              try clear c86
              try clear hcz13_0
              try clear hcz13_1
              try clear hcz15_0
              try clear hcz15_1
              try clear hcz22_0
              try clear hcz22_1
              try clear hcz23_0
              try clear hcz23_1
              try clear hcz29_0
              try clear hcz29_1
              try clear hcz36_0
              try clear hcz36_1
              try clear hcz42_0
              try clear hcz42_1
              try clear hcz45_0
              try clear hcz45_1
              try clear hcz50_0
              try clear hcz50_1
              try clear hcz53_0
              try clear hcz53_1
              try clear hcz5_0
              try clear hcz5_1
              try clear hcz68_0
              try clear hcz68_1
              try clear hcz76_0
              try clear hcz76_1
              try clear hcz79_0
              try clear hcz79_1
              try clear hcz84_0
              try clear hcz84_1
              try clear hcz87_0
              try clear hcz87_1
              try clear hfz13_0
              try clear hfz13_1
              try clear hfz15_0
              try clear hfz15_1
              try clear hfz22_0
              try clear hfz22_1
              try clear hfz23_0
              try clear hfz23_1
              try clear hfz29_0
              try clear hfz29_1
              try clear hfz36_0
              try clear hfz36_1
              try clear hfz42_0
              try clear hfz42_1
              try clear hfz45_0
              try clear hfz45_1
              try clear hfz50_0
              try clear hfz50_1
              try clear hfz53_0
              try clear hfz53_1
              try clear hfz5_0
              try clear hfz5_1
              try clear hfz68_0
              try clear hfz68_1
              try clear hfz76_0
              try clear hfz76_1
              try clear hfz79_0
              try clear hfz79_1
              try clear hfz84_0
              try clear hfz84_1
              try clear hfz87_0
              try clear hfz87_1
              try clear p2
              obtain ⟨kq, x61_59, rfl, HA, HJ59, HO_380000, HO_385000, HO_391000, BK368, BK379, BK384, BK390, HB⟩ := hcut
              have hl385000_59 := (Kd.R_reads' HO_385000.out).1
              rw [hl385000_59] at HO_385000
              (try simp only [hl385000_59])
              (try simp only [hl385000_59] at BK368)
              (try simp only [hl385000_59] at BK379)
              (try simp only [hl385000_59] at BK384)
              (try simp only [hl385000_59] at BK390)
              (try simp only [hl385000_59] at HO_380000)
              (try simp only [hl385000_59] at HO_391000)
              cases kq with
              | zero => exact absurd HA.out (by simp [laws_FnExactTrimCode.j1])
              | succ kj59 =>
                have H := HA.out
                clear HA
                simp only [laws_FnExactTrimCode.j1] at H
                by_cases c89 : x61_59 = true
                · subst c89
                  have H1 : (some false) = some r := by rw [if_pos rfl] at H; exact H
                  clear H
                  have H := H1
                  clear H1
                  obtain rfl := Option.some.inj H
                  go_wp2
                  go_ret
                  exact ⟨by first | rfl | (simp [errW_none, errW_some] <;> rfl) | (simp [*, errW_none, errW_some] <;> rfl), by repeat (first | (with_reducible first | exact HB.out | apply below_alloc | apply pw_below_drewN | apply below_drew1 | refine below_set ?_ GE368.out | refine below_set ?_ GE379.out | refine below_set ?_ GE384.out | refine below_set ?_ GE390.out) | exact HB.out)⟩
                · replace c89 := Bool.eq_false_iff.mpr c89
                  subst c89
                  have H1 : ((laws_markCode.f kj59 t385 t388 1).bind fun bt400 => ((laws_heldCode.f kj59 bt400.2 t388 1).bind fun t402 => (if t402 < 0 then (some false) else (if t402 = bt400.1 then ((laws_toCode.f kj59 l0_0 a0_1).bind fun bt403 => ((impl_TrimCode.f kj59 bt403.1 bt403.2).bind fun bt407 => ((laws_eqCode.f kj59 bt407.1 bt407.2.1 t374 t377).bind fun t413 => (if t413 = true then (laws_FnExactTrimCode.j2 kj59 bt400.1 (bt407.2.2 != t378) bt400.2 t388) else (laws_FnExactTrimCode.j2 kj59 bt400.1 true bt400.2 t388))))) else (some false))))) = some r := by rw [if_neg (show ¬ (false = true) by decide)] at H; exact H
                  clear H
                  have H := H1
                  clear H1
                  replace H := Option.bind_eq_some_iff.mp H
                  obtain ⟨⟨t400, t401⟩, A900, H⟩ := H
                  replace H : ((laws_heldCode.f kj59 t401 t388 1).bind fun t402 => (if t402 < 0 then (some false) else (if t402 = t400 then ((laws_toCode.f kj59 l0_0 a0_1).bind fun bt403 => ((impl_TrimCode.f kj59 bt403.1 bt403.2).bind fun bt407 => ((laws_eqCode.f kj59 bt407.1 bt407.2.1 t374 t377).bind fun t413 => (if t413 = true then (laws_FnExactTrimCode.j2 kj59 t400 (bt407.2.2 != t378) t401 t388) else (laws_FnExactTrimCode.j2 kj59 t400 true t401 t388))))) else (some false)))) = some r := H
                  have A90 := Aside0.mk A900
                  clear A900
                  replace H := Option.bind_eq_some_iff.mp H
                  obtain ⟨t402, A910, H⟩ := H
                  replace H : (if t402 < 0 then (some false) else (if t402 = t400 then ((laws_toCode.f kj59 l0_0 a0_1).bind fun bt403 => ((impl_TrimCode.f kj59 bt403.1 bt403.2).bind fun bt407 => ((laws_eqCode.f kj59 bt407.1 bt407.2.1 t374 t377).bind fun t413 => (if t413 = true then (laws_FnExactTrimCode.j2 kj59 t400 (bt407.2.2 != t378) t401 t388) else (laws_FnExactTrimCode.j2 kj59 t400 true t401 t388))))) else (some false))) = some r := H
                  have A91 := Aside0.mk A910
                  clear A910
                  by_cases c92 : t402 < 0
                  · rw [if_pos c92] at H
                    have c92b0 : decide (t402 < 0) = true := decide_eq_true c92
                    clear c92
                    obtain rfl := Option.some.inj H
                    have hnb93 := NB390_368.out
                    have hnc93 := NB368_390.out
                    have hnb94 := NB390_379.out
                    have hnc94 := NB379_390.out
                    have hnb95 := NB390_384.out
                    have hnc95 := NB384_390.out
                    have hcz96_0 : wc.cell? ⟨gb390, 0, none⟩ = some (.slice Ao32 t385.length co32) := (blk_cell BK390.out 0).trans rfl
                    have hcz96_1 : wc.cell? ⟨gb390, 1, none⟩ = some (.int .i64 t388) := (blk_cell BK390.out 1).trans rfl
                    have hfz96_0 := blk_frozen BK390.out 0
                    have hfz96_1 := blk_frozen BK390.out 1
                    go_wp2_with (first | ((with_reducible refine gate_callee (f := 30) rfl ?_); refine goesL_ (some 64) rfl rfl Try.func30 (by kernel_rfl) rfl #[.agg #[.slice Ao32 t385.length co32, .int .i64 t388], .int .i64 1] rfl (by (try simp only [List.map_toArray, List.map_cons, List.map_nil]); first | done | rfl | (simp only [List.length_drop, List.length_take]; rfl)) ?_; (with_reducible refine (laws_markCode.calls kj59 (fun k_ => some k_ = (.slice Ao32 t385.length co32 : Value).ownBlock) (.slice Ao32 t385.length co32) t385 t388 1 t400 t401 w _ ?side1 ?side2 A90.out).mono ?_); (case side1 => repeat (first | (with_reducible first | exact HB.out | apply below_alloc | apply pw_below_drewN | apply below_drew1 | refine below_set ?_ GE368.out | refine below_set ?_ GE379.out | refine below_set ?_ GE384.out | refine below_set ?_ GE390.out) | exact HB.out)); (case side2 => exact Kd.R_tight rfl HO_391000.out); rintro e w97 ⟨rfl, hy0, hb, hkp⟩; refine ⟨_, rfl, ?_⟩; have n0_ := Aside0.mk (Kd.R_mono (ok' := fun k_ => some k_ ≠ (.slice Ao26 t398.length co26 : Value).ownBlock ∧ some k_ ≠ (.slice Ao32 t385.length co32 : Value).ownBlock) (Kd.R_keptB (HO_380000.out) hkp (fun k_ hk_ hs_ => (hk_.2) hs_)) (fun k_ hk_ => ⟨hk_.1.1, hk_.1.2⟩)); have n1_ := Aside0.mk (Kd.R_mono (ok' := fun k_ => some k_ ≠ (.slice Ao20 t374.length co20 : Value).ownBlock ∧ some k_ ≠ (.slice Ao32 t385.length co32 : Value).ownBlock) (Kd.R_keptB (HO_385000.out) hkp (fun k_ hk_ hs_ => (hk_.2) hs_)) (fun k_ hk_ => ⟨hk_.1.1, hk_.1.2⟩)); have n2_ := Aside0.mk (Kd.R_reok rfl hy0 (fun k_ e_ => HO_391000.out.1 k_ e_)); have n3_ := Aside0.mk (blk_kept (by (with_reducible repeat (first | refine blk_drewN ?_ _ | refine blk_drew ?_ | refine blk_alloc ?_ _)); exact BK368.out) hkp (fun hs_ => (fun e_ => (Kd.R_ne HO_391000.out BK368.out (by decide)) e_) hs_)); have n4_ := Aside0.mk (blk_kept (by (with_reducible repeat (first | refine blk_drewN ?_ _ | refine blk_drew ?_ | refine blk_alloc ?_ _)); exact BK379.out) hkp (fun hs_ => (fun e_ => (Kd.R_ne HO_391000.out BK379.out (by decide)) e_) hs_)); have n5_ := Aside0.mk (blk_kept (by (with_reducible repeat (first | refine blk_drewN ?_ _ | refine blk_drew ?_ | refine blk_alloc ?_ _)); exact BK384.out) hkp (fun hs_ => (fun e_ => (Kd.R_ne HO_391000.out BK384.out (by decide)) e_) hs_)); have n6_ := Aside0.mk (blk_kept (by (with_reducible repeat (first | refine blk_drewN ?_ _ | refine blk_drew ?_ | refine blk_alloc ?_ _)); exact BK390.out) hkp (fun hs_ => (fun e_ => (Kd.R_ne HO_391000.out BK390.out (by decide)) e_) hs_)); have n7_ := Aside0.mk (hb); clear HO_380000; clear HO_385000; clear HO_391000; clear BK368; clear BK379; clear BK384; clear BK390; clear HB; have HO_380000 := n0_; have HO_385000 := n1_; have HO_391000 := n2_; have BK368 := n3_; have BK379 := n4_; have BK384 := n5_; have BK390 := n6_; have HB := n7_; clear n0_ n1_ n2_ n3_ n4_ n5_ n6_ n7_; (try clear hb); (try clear hkp); (try clear hy0); have hcz98_0 : w97.cell? ⟨gb390, 0, none⟩ = some (.slice Ao32 t385.length co32) := (blk_cell BK390.out 0).trans rfl; have hcz98_1 : w97.cell? ⟨gb390, 1, none⟩ = some (.int .i64 t388) := (blk_cell BK390.out 1).trans rfl; have hfz98_0 := blk_frozen BK390.out 0; have hfz98_1 := blk_frozen BK390.out 1) | ((with_reducible refine gate_callee (f := 31) rfl ?_); refine goesL_ (some 67) rfl rfl Try.func31 (by kernel_rfl) rfl #[.agg #[.slice Ao32 t401.length co32, .int .i64 t388], .int .i64 1] rfl (by (try simp only [List.map_toArray, List.map_cons, List.map_nil]); first | done | (rw [show t401.length = t385.length from (Kd.R_reads' HO_391000.out).1.symm] <;> rfl) | rfl | (simp only [List.length_drop, List.length_take]; rfl)) ?_; (with_reducible refine (laws_heldCode.calls kj59 _ _ t401 t388 1 t402 _ ?side1 ?side2 A91.out).mono ?_); (case side1 => repeat (first | exact (Kd.R_reads' HO_391000.out).2.2 | (with_reducible refine Kd.C_alloc ?_ _) | (with_reducible refine Kd.C_drewN ?_ _) | (with_reducible refine Kd.C_drew ?_))); (case side2 => rw [show t401.length = t385.length from (Kd.R_reads' HO_391000.out).1.symm]; exact (Kd.R_reads' HO_391000.out).2.1); rintro e w99 ⟨rfl, hb⟩; refine ⟨_, rfl, ?_⟩; have n0_ := Aside0.mk (Kd.R_below (by (with_reducible repeat (first | apply Kd.R_alloc | apply Kd.R_drewN | apply Kd.R_drew)); exact HO_380000.out) hb); have n1_ := Aside0.mk (Kd.R_below (by (with_reducible repeat (first | apply Kd.R_alloc | apply Kd.R_drewN | apply Kd.R_drew)); exact HO_385000.out) hb); have n2_ := Aside0.mk (Kd.R_below (by (with_reducible repeat (first | apply Kd.R_alloc | apply Kd.R_drewN | apply Kd.R_drew)); exact HO_391000.out) hb); have n3_ := Aside0.mk (blk_below (g := gb368) (o := .cells #[.slice A0_0 l0_0.length c0_0, .int .i64 a0_1] 47 (0, 0)) (by (with_reducible repeat (first | refine blk_drewN ?_ _ | refine blk_drew ?_ | refine blk_alloc ?_ _)); exact BK368.out) hb); have n4_ := Aside0.mk (blk_below (g := gb379) (o := .cells #[.slice Ao20 t374.length co20, .int .i64 t377] 32 (0, 0)) (by (with_reducible repeat (first | refine blk_drewN ?_ _ | refine blk_drew ?_ | refine blk_alloc ?_ _)); exact BK379.out) hb); have n5_ := Aside0.mk (blk_below (g := gb384) (o := .cells #[.slice Ao26 t398.length co26, .int .i64 t383] 32 (0, 0)) (by (with_reducible repeat (first | refine blk_drewN ?_ _ | refine blk_drew ?_ | refine blk_alloc ?_ _)); exact BK384.out) hb); have n6_ := Aside0.mk (blk_below (g := gb390) (o := .cells #[.slice Ao32 t385.length co32, .int .i64 t388] 32 (0, 0)) (by (with_reducible repeat (first | refine blk_drewN ?_ _ | refine blk_drew ?_ | refine blk_alloc ?_ _)); exact BK390.out) hb); have n7_ := Aside0.mk (below_step (by repeat (first | (with_reducible first | exact HB.out | apply below_alloc | apply pw_below_drewN | apply below_drew1 | refine below_set ?_ GE368.out | refine below_set ?_ GE379.out | refine below_set ?_ GE384.out | refine below_set ?_ GE390.out) | exact HB.out)) hb); clear HO_380000; clear HO_385000; clear HO_391000; clear BK368; clear BK379; clear BK384; clear BK390; clear HB; have HO_380000 := n0_; have HO_385000 := n1_; have HO_391000 := n2_; have BK368 := n3_; have BK379 := n4_; have BK384 := n5_; have BK390 := n6_; have HB := n7_; clear n0_ n1_ n2_ n3_ n4_ n5_ n6_ n7_; (try clear hb); (try clear hb2); (try clear hk); (try clear hi)))
                    go_ret
                    exact ⟨by first | rfl | (simp [errW_none, errW_some] <;> rfl) | (simp [*, errW_none, errW_some] <;> rfl), by repeat (first | (with_reducible first | exact HB.out | apply below_alloc | apply pw_below_drewN | apply below_drew1 | refine below_set ?_ GE368.out | refine below_set ?_ GE379.out | refine below_set ?_ GE384.out | refine below_set ?_ GE390.out) | exact HB.out)⟩
                  · rw [if_neg c92] at H
                    have c92b0 : decide (t402 < 0) = false := decide_eq_false c92
                    clear c92
                    by_cases c100 : t402 = t400
                    · rw [if_pos c100] at H
                      have c100b0 : (t402 == t400) = true := beq_iff_eq.mpr c100
                      have c100b1 : (t402 != t400) = false := bne_eq_false_iff_eq.mpr c100
                      clear c100
                      replace H := Option.bind_eq_some_iff.mp H
                      obtain ⟨⟨t403, t406⟩, A1010, H⟩ := H
                      replace H : ((impl_TrimCode.f kj59 t403 t406).bind fun bt407 => ((laws_eqCode.f kj59 bt407.1 bt407.2.1 t374 t377).bind fun t413 => (if t413 = true then (laws_FnExactTrimCode.j2 kj59 t400 (bt407.2.2 != t378) t401 t388) else (laws_FnExactTrimCode.j2 kj59 t400 true t401 t388)))) = some r := H
                      have A101 := Aside0.mk A1010
                      clear A1010
                      replace H := Option.bind_eq_some_iff.mp H
                      obtain ⟨⟨t407, t410, t411⟩, A1020, H⟩ := H
                      replace H : ((laws_eqCode.f kj59 t407 t410 t374 t377).bind fun t413 => (if t413 = true then (laws_FnExactTrimCode.j2 kj59 t400 (t411 != t378) t401 t388) else (laws_FnExactTrimCode.j2 kj59 t400 true t401 t388))) = some r := H
                      have A102 := Aside0.mk A1020
                      clear A1020
                      have HC103 := Aside0.mk H
                      clear H
                      have hnb104 := NB390_368.out
                      have hnc104 := NB368_390.out
                      have hnb105 := NB390_379.out
                      have hnc105 := NB379_390.out
                      have hnb106 := NB390_384.out
                      have hnc106 := NB384_390.out
                      have hcz107_0 : wc.cell? ⟨gb390, 0, none⟩ = some (.slice Ao32 t385.length co32) := (blk_cell BK390.out 0).trans rfl
                      have hcz107_1 : wc.cell? ⟨gb390, 1, none⟩ = some (.int .i64 t388) := (blk_cell BK390.out 1).trans rfl
                      have hfz107_0 := blk_frozen BK390.out 0
                      have hfz107_1 := blk_frozen BK390.out 1
                      go_upto_region 25 with (first | ((with_reducible refine gate_callee (f := 30) rfl ?_); refine goesL_ (some 64) rfl rfl Try.func30 (by kernel_rfl) rfl #[.agg #[.slice Ao32 t385.length co32, .int .i64 t388], .int .i64 1] rfl (by (try simp only [List.map_toArray, List.map_cons, List.map_nil]); first | done | rfl | (simp only [List.length_drop, List.length_take]; rfl)) ?_; (with_reducible refine (laws_markCode.calls kj59 (fun k_ => some k_ = (.slice Ao32 t385.length co32 : Value).ownBlock) (.slice Ao32 t385.length co32) t385 t388 1 t400 t401 w _ ?side1 ?side2 A90.out).mono ?_); (case side1 => repeat (first | (with_reducible first | exact HB.out | apply below_alloc | apply pw_below_drewN | apply below_drew1 | refine below_set ?_ GE368.out | refine below_set ?_ GE379.out | refine below_set ?_ GE384.out | refine below_set ?_ GE390.out) | exact HB.out)); (case side2 => exact Kd.R_tight rfl HO_391000.out); rintro e w108 ⟨rfl, hy0, hb, hkp⟩; refine ⟨_, rfl, ?_⟩; have n0_ := Aside0.mk (Kd.R_mono (ok' := fun k_ => some k_ ≠ (.slice Ao26 t398.length co26 : Value).ownBlock ∧ some k_ ≠ (.slice Ao32 t385.length co32 : Value).ownBlock) (Kd.R_keptB (HO_380000.out) hkp (fun k_ hk_ hs_ => (hk_.2) hs_)) (fun k_ hk_ => ⟨hk_.1.1, hk_.1.2⟩)); have n1_ := Aside0.mk (Kd.R_mono (ok' := fun k_ => some k_ ≠ (.slice Ao20 t374.length co20 : Value).ownBlock ∧ some k_ ≠ (.slice Ao32 t385.length co32 : Value).ownBlock) (Kd.R_keptB (HO_385000.out) hkp (fun k_ hk_ hs_ => (hk_.2) hs_)) (fun k_ hk_ => ⟨hk_.1.1, hk_.1.2⟩)); have n2_ := Aside0.mk (Kd.R_reok rfl hy0 (fun k_ e_ => HO_391000.out.1 k_ e_)); have n3_ := Aside0.mk (blk_kept (by (with_reducible repeat (first | refine blk_drewN ?_ _ | refine blk_drew ?_ | refine blk_alloc ?_ _)); exact BK368.out) hkp (fun hs_ => (fun e_ => (Kd.R_ne HO_391000.out BK368.out (by decide)) e_) hs_)); have n4_ := Aside0.mk (blk_kept (by (with_reducible repeat (first | refine blk_drewN ?_ _ | refine blk_drew ?_ | refine blk_alloc ?_ _)); exact BK379.out) hkp (fun hs_ => (fun e_ => (Kd.R_ne HO_391000.out BK379.out (by decide)) e_) hs_)); have n5_ := Aside0.mk (blk_kept (by (with_reducible repeat (first | refine blk_drewN ?_ _ | refine blk_drew ?_ | refine blk_alloc ?_ _)); exact BK384.out) hkp (fun hs_ => (fun e_ => (Kd.R_ne HO_391000.out BK384.out (by decide)) e_) hs_)); have n6_ := Aside0.mk (blk_kept (by (with_reducible repeat (first | refine blk_drewN ?_ _ | refine blk_drew ?_ | refine blk_alloc ?_ _)); exact BK390.out) hkp (fun hs_ => (fun e_ => (Kd.R_ne HO_391000.out BK390.out (by decide)) e_) hs_)); have n7_ := Aside0.mk (hb); clear HO_380000; clear HO_385000; clear HO_391000; clear BK368; clear BK379; clear BK384; clear BK390; clear HB; have HO_380000 := n0_; have HO_385000 := n1_; have HO_391000 := n2_; have BK368 := n3_; have BK379 := n4_; have BK384 := n5_; have BK390 := n6_; have HB := n7_; clear n0_ n1_ n2_ n3_ n4_ n5_ n6_ n7_; (try clear hb); (try clear hkp); (try clear hy0); have hcz109_0 : w108.cell? ⟨gb390, 0, none⟩ = some (.slice Ao32 t385.length co32) := (blk_cell BK390.out 0).trans rfl; have hcz109_1 : w108.cell? ⟨gb390, 1, none⟩ = some (.int .i64 t388) := (blk_cell BK390.out 1).trans rfl; have hfz109_0 := blk_frozen BK390.out 0; have hfz109_1 := blk_frozen BK390.out 1) | ((with_reducible refine gate_callee (f := 31) rfl ?_); refine goesL_ (some 67) rfl rfl Try.func31 (by kernel_rfl) rfl #[.agg #[.slice Ao32 t401.length co32, .int .i64 t388], .int .i64 1] rfl (by (try simp only [List.map_toArray, List.map_cons, List.map_nil]); first | done | (rw [show t401.length = t385.length from (Kd.R_reads' HO_391000.out).1.symm] <;> rfl) | rfl | (simp only [List.length_drop, List.length_take]; rfl)) ?_; (with_reducible refine (laws_heldCode.calls kj59 _ _ t401 t388 1 t402 _ ?side1 ?side2 A91.out).mono ?_); (case side1 => repeat (first | exact (Kd.R_reads' HO_391000.out).2.2 | (with_reducible refine Kd.C_alloc ?_ _) | (with_reducible refine Kd.C_drewN ?_ _) | (with_reducible refine Kd.C_drew ?_))); (case side2 => rw [show t401.length = t385.length from (Kd.R_reads' HO_391000.out).1.symm]; exact (Kd.R_reads' HO_391000.out).2.1); rintro e w110 ⟨rfl, hb⟩; refine ⟨_, rfl, ?_⟩; have n0_ := Aside0.mk (Kd.R_below (by (with_reducible repeat (first | apply Kd.R_alloc | apply Kd.R_drewN | apply Kd.R_drew)); exact HO_380000.out) hb); have n1_ := Aside0.mk (Kd.R_below (by (with_reducible repeat (first | apply Kd.R_alloc | apply Kd.R_drewN | apply Kd.R_drew)); exact HO_385000.out) hb); have n2_ := Aside0.mk (Kd.R_below (by (with_reducible repeat (first | apply Kd.R_alloc | apply Kd.R_drewN | apply Kd.R_drew)); exact HO_391000.out) hb); have n3_ := Aside0.mk (blk_below (g := gb368) (o := .cells #[.slice A0_0 l0_0.length c0_0, .int .i64 a0_1] 47 (0, 0)) (by (with_reducible repeat (first | refine blk_drewN ?_ _ | refine blk_drew ?_ | refine blk_alloc ?_ _)); exact BK368.out) hb); have n4_ := Aside0.mk (blk_below (g := gb379) (o := .cells #[.slice Ao20 t374.length co20, .int .i64 t377] 32 (0, 0)) (by (with_reducible repeat (first | refine blk_drewN ?_ _ | refine blk_drew ?_ | refine blk_alloc ?_ _)); exact BK379.out) hb); have n5_ := Aside0.mk (blk_below (g := gb384) (o := .cells #[.slice Ao26 t398.length co26, .int .i64 t383] 32 (0, 0)) (by (with_reducible repeat (first | refine blk_drewN ?_ _ | refine blk_drew ?_ | refine blk_alloc ?_ _)); exact BK384.out) hb); have n6_ := Aside0.mk (blk_below (g := gb390) (o := .cells #[.slice Ao32 t385.length co32, .int .i64 t388] 32 (0, 0)) (by (with_reducible repeat (first | refine blk_drewN ?_ _ | refine blk_drew ?_ | refine blk_alloc ?_ _)); exact BK390.out) hb); have n7_ := Aside0.mk (below_step (by repeat (first | (with_reducible first | exact HB.out | apply below_alloc | apply pw_below_drewN | apply below_drew1 | refine below_set ?_ GE368.out | refine below_set ?_ GE379.out | refine below_set ?_ GE384.out | refine below_set ?_ GE390.out) | exact HB.out)) hb); clear HO_380000; clear HO_385000; clear HO_391000; clear BK368; clear BK379; clear BK384; clear BK390; clear HB; have HO_380000 := n0_; have HO_385000 := n1_; have HO_391000 := n2_; have BK368 := n3_; have BK379 := n4_; have BK384 := n5_; have BK390 := n6_; have HB := n7_; clear n0_ n1_ n2_ n3_ n4_ n5_ n6_ n7_; (try clear hb); (try clear hb2); (try clear hk); (try clear hi); have hnb111 := NB368_379.out; have hnc111 := NB379_368.out; have hnb112 := NB368_384.out; have hnc112 := NB384_368.out; have hcz113_0 : w110.cell? ⟨gb368, 0, none⟩ = some (.slice A0_0 l0_0.length c0_0) := (blk_cell BK368.out 0).trans rfl; have hcz113_1 : w110.cell? ⟨gb368, 1, none⟩ = some (.int .i64 a0_1) := (blk_cell BK368.out 1).trans rfl; have hfz113_0 := blk_frozen BK368.out 0; have hfz113_1 := blk_frozen BK368.out 1) | ((with_reducible refine gate_callee (f := 34) rfl ?_); refine goesL_ (some 75) rfl rfl Try.func34 (by kernel_rfl) rfl #[.agg #[.slice A0_0 l0_0.length c0_0, .int .i64 a0_1]] rfl (by (try simp only [List.map_toArray, List.map_cons, List.map_nil]); first | done | rfl | (simp only [List.length_drop, List.length_take]; rfl)) ?_; (with_reducible refine (laws_toCode.calls kj59 _ _ l0_0 a0_1 t403 t406 _ ?side1 ?side2 A101.out).mono ?_); (case side1 => repeat (first | exact (Kd.C_below HR0_0.out HB.out) | (with_reducible refine Kd.C_alloc ?_ _) | (with_reducible refine Kd.C_drewN ?_ _) | (with_reducible refine Kd.C_drew ?_))); (case side2 => exact HC0_0.out); rintro e w114 ⟨v404, rfl, ho0, hb⟩; refine ⟨_, rfl, ?_⟩; have n0_ := Aside0.mk (Kd.R_elder' (by (with_reducible repeat (first | apply Kd.R_alloc | apply Kd.R_drewN | apply Kd.R_drew)); exact HO_380000.out) (Kd.R_base ho0) hb); have n1_ := Aside0.mk (Kd.R_elder' (by (with_reducible repeat (first | apply Kd.R_alloc | apply Kd.R_drewN | apply Kd.R_drew)); exact HO_385000.out) (Kd.R_base ho0) hb); have n2_ := Aside0.mk (Kd.R_elder' (by (with_reducible repeat (first | apply Kd.R_alloc | apply Kd.R_drewN | apply Kd.R_drew)); exact HO_391000.out) (Kd.R_base ho0) hb); have n3_ := Aside0.mk (Kd.R_lower (Kd.R_new' (Kd.R_new' (Kd.R_new' ho0 (Kd.R_lt (by (with_reducible repeat (first | apply Kd.R_alloc | apply Kd.R_drewN | apply Kd.R_drew)); exact HO_380000.out))) (Kd.R_lt (by (with_reducible repeat (first | apply Kd.R_alloc | apply Kd.R_drewN | apply Kd.R_drew)); exact HO_385000.out))) (Kd.R_lt (by (with_reducible repeat (first | apply Kd.R_alloc | apply Kd.R_drewN | apply Kd.R_drew)); exact HO_391000.out))) (below_size (by repeat (first | (with_reducible first | exact HB.out | apply below_alloc | apply pw_below_drewN | apply below_drew1 | refine below_set ?_ GE368.out | refine below_set ?_ GE379.out | refine below_set ?_ GE384.out | refine below_set ?_ GE390.out) | exact HB.out)))); have n4_ := Aside0.mk (blk_below (g := gb368) (o := .cells #[.slice A0_0 l0_0.length c0_0, .int .i64 a0_1] 47 (0, 0)) (by (with_reducible repeat (first | refine blk_drewN ?_ _ | refine blk_drew ?_ | refine blk_alloc ?_ _)); exact BK368.out) hb); have n5_ := Aside0.mk (blk_below (g := gb379) (o := .cells #[.slice Ao20 t374.length co20, .int .i64 t377] 32 (0, 0)) (by (with_reducible repeat (first | refine blk_drewN ?_ _ | refine blk_drew ?_ | refine blk_alloc ?_ _)); exact BK379.out) hb); have n6_ := Aside0.mk (blk_below (g := gb384) (o := .cells #[.slice Ao26 t398.length co26, .int .i64 t383] 32 (0, 0)) (by (with_reducible repeat (first | refine blk_drewN ?_ _ | refine blk_drew ?_ | refine blk_alloc ?_ _)); exact BK384.out) hb); have n7_ := Aside0.mk (blk_below (g := gb390) (o := .cells #[.slice Ao32 t385.length co32, .int .i64 t388] 32 (0, 0)) (by (with_reducible repeat (first | refine blk_drewN ?_ _ | refine blk_drew ?_ | refine blk_alloc ?_ _)); exact BK390.out) hb); have n8_ := Aside0.mk (below_step (by repeat (first | (with_reducible first | exact HB.out | apply below_alloc | apply pw_below_drewN | apply below_drew1 | refine below_set ?_ GE368.out | refine below_set ?_ GE379.out | refine below_set ?_ GE384.out | refine below_set ?_ GE390.out) | exact HB.out)) hb); clear HO_380000; clear HO_385000; clear HO_391000; clear BK368; clear BK379; clear BK384; clear BK390; clear HB; have HO_380000 := n0_; have HO_385000 := n1_; have HO_391000 := n2_; have HO405 := n3_; have BK368 := n4_; have BK379 := n5_; have BK384 := n6_; have BK390 := n7_; have HB := n8_; clear n0_ n1_ n2_ n3_ n4_ n5_ n6_ n7_ n8_; (try clear hb); (try clear hb2); (try clear hk); (try clear hi); (try clear ho0); obtain ⟨Ao115, co115, eo115⟩ := Kd.R_slice HO405.out; subst eo115) | ((with_reducible refine gate_callee (f := 35) rfl ?_); refine goesL_ (some 76) rfl rfl Try.func35 (by kernel_rfl) rfl #[.agg #[.slice Ao115 t403.length co115, .int .i64 t406]] rfl (by (try simp only [List.map_toArray, List.map_cons, List.map_nil]); first | done | rfl | (simp only [List.length_drop, List.length_take]; rfl)) ?_; (with_reducible refine (impl_TrimCode.calls kj59 _ _ t403 t406 t407 t410 t411 _ ?side1 ?side2 A102.out).mono ?_); (case side1 => repeat (first | exact (Kd.R_reads' HO405.out).2.2 | (with_reducible refine Kd.C_alloc ?_ _) | (with_reducible refine Kd.C_drewN ?_ _) | (with_reducible refine Kd.C_drew ?_))); (case side2 => exact (Kd.R_reads' HO405.out).2.1); rintro e w116 ⟨v408, rfl, ho0, hb⟩; refine ⟨_, rfl, ?_⟩; have n0_ := Aside0.mk (Kd.R_elder' (by (with_reducible repeat (first | apply Kd.R_alloc | apply Kd.R_drewN | apply Kd.R_drew)); exact HO_380000.out) (Kd.R_base ho0) hb); have n1_ := Aside0.mk (Kd.R_elder' (by (with_reducible repeat (first | apply Kd.R_alloc | apply Kd.R_drewN | apply Kd.R_drew)); exact HO_385000.out) (Kd.R_base ho0) hb); have n2_ := Aside0.mk (Kd.R_elder' (by (with_reducible repeat (first | apply Kd.R_alloc | apply Kd.R_drewN | apply Kd.R_drew)); exact HO_391000.out) (Kd.R_base ho0) hb); have n3_ := Aside0.mk (Kd.R_elder' (by (with_reducible repeat (first | apply Kd.R_alloc | apply Kd.R_drewN | apply Kd.R_drew)); exact HO405.out) (Kd.R_base ho0) hb); have n4_ := Aside0.mk (Kd.R_lower (Kd.R_new' (Kd.R_new' (Kd.R_new' (Kd.R_new' ho0 (Kd.R_lt (by (with_reducible repeat (first | apply Kd.R_alloc | apply Kd.R_drewN | apply Kd.R_drew)); exact HO_380000.out))) (Kd.R_lt (by (with_reducible repeat (first | apply Kd.R_alloc | apply Kd.R_drewN | apply Kd.R_drew)); exact HO_385000.out))) (Kd.R_lt (by (with_reducible repeat (first | apply Kd.R_alloc | apply Kd.R_drewN | apply Kd.R_drew)); exact HO_391000.out))) (Kd.R_lt (by (with_reducible repeat (first | apply Kd.R_alloc | apply Kd.R_drewN | apply Kd.R_drew)); exact HO405.out))) (below_size (by repeat (first | (with_reducible first | exact HB.out | apply below_alloc | apply pw_below_drewN | apply below_drew1 | refine below_set ?_ GE368.out | refine below_set ?_ GE379.out | refine below_set ?_ GE384.out | refine below_set ?_ GE390.out) | exact HB.out)))); have n5_ := Aside0.mk (blk_below (g := gb368) (o := .cells #[.slice A0_0 l0_0.length c0_0, .int .i64 a0_1] 47 (0, 0)) (by (with_reducible repeat (first | refine blk_drewN ?_ _ | refine blk_drew ?_ | refine blk_alloc ?_ _)); exact BK368.out) hb); have n6_ := Aside0.mk (blk_below (g := gb379) (o := .cells #[.slice Ao20 t374.length co20, .int .i64 t377] 32 (0, 0)) (by (with_reducible repeat (first | refine blk_drewN ?_ _ | refine blk_drew ?_ | refine blk_alloc ?_ _)); exact BK379.out) hb); have n7_ := Aside0.mk (blk_below (g := gb384) (o := .cells #[.slice Ao26 t398.length co26, .int .i64 t383] 32 (0, 0)) (by (with_reducible repeat (first | refine blk_drewN ?_ _ | refine blk_drew ?_ | refine blk_alloc ?_ _)); exact BK384.out) hb); have n8_ := Aside0.mk (blk_below (g := gb390) (o := .cells #[.slice Ao32 t385.length co32, .int .i64 t388] 32 (0, 0)) (by (with_reducible repeat (first | refine blk_drewN ?_ _ | refine blk_drew ?_ | refine blk_alloc ?_ _)); exact BK390.out) hb); have n9_ := Aside0.mk (below_step (by repeat (first | (with_reducible first | exact HB.out | apply below_alloc | apply pw_below_drewN | apply below_drew1 | refine below_set ?_ GE368.out | refine below_set ?_ GE379.out | refine below_set ?_ GE384.out | refine below_set ?_ GE390.out) | exact HB.out)) hb); clear HO_380000; clear HO_385000; clear HO_391000; clear HO405; clear BK368; clear BK379; clear BK384; clear BK390; clear HB; have HO_380000 := n0_; have HO_385000 := n1_; have HO_391000 := n2_; have HO405 := n3_; have HO409 := n4_; have BK368 := n5_; have BK379 := n6_; have BK384 := n7_; have BK390 := n8_; have HB := n9_; clear n0_ n1_ n2_ n3_ n4_ n5_ n6_ n7_ n8_ n9_; (try clear hb); (try clear hb2); (try clear hk); (try clear hi); (try clear ho0)) | ((with_reducible refine gate_dst (N := 12) rfl ?_); refine box_event ?hg (N := 12) ?hd (cs := #[.slice none 0 0, .int .i64 0]) (t := 32) ?hr ?_; (case hd => rfl); (case hg => rfl); (case hr => first | (go_simp; done) | (go_simp; rfl)); intro gb412 hg w117 hbox hb; have n0_ := Aside0.mk (Kd.R_below (by (with_reducible repeat (first | apply Kd.R_alloc | apply Kd.R_drewN | apply Kd.R_drew)); exact HO_380000.out) hb); have n1_ := Aside0.mk (Kd.R_below (by (with_reducible repeat (first | apply Kd.R_alloc | apply Kd.R_drewN | apply Kd.R_drew)); exact HO_385000.out) hb); have n2_ := Aside0.mk (Kd.R_below (by (with_reducible repeat (first | apply Kd.R_alloc | apply Kd.R_drewN | apply Kd.R_drew)); exact HO_391000.out) hb); have n3_ := Aside0.mk (Kd.R_below (by (with_reducible repeat (first | apply Kd.R_alloc | apply Kd.R_drewN | apply Kd.R_drew)); exact HO405.out) hb); have n4_ := Aside0.mk (Kd.R_below (by (with_reducible repeat (first | apply Kd.R_alloc | apply Kd.R_drewN | apply Kd.R_drew)); exact HO409.out) hb); have n5_ := Aside0.mk (blk_below (g := gb368) (o := .cells #[.slice A0_0 l0_0.length c0_0, .int .i64 a0_1] 47 (0, 0)) (by (with_reducible repeat (first | refine blk_drewN ?_ _ | refine blk_drew ?_ | refine blk_alloc ?_ _)); exact BK368.out) hb); have n6_ := Aside0.mk (blk_below (g := gb379) (o := .cells #[.slice Ao20 t374.length co20, .int .i64 t377] 32 (0, 0)) (by (with_reducible repeat (first | refine blk_drewN ?_ _ | refine blk_drew ?_ | refine blk_alloc ?_ _)); exact BK379.out) hb); have n7_ := Aside0.mk (blk_below (g := gb384) (o := .cells #[.slice Ao26 t398.length co26, .int .i64 t383] 32 (0, 0)) (by (with_reducible repeat (first | refine blk_drewN ?_ _ | refine blk_drew ?_ | refine blk_alloc ?_ _)); exact BK384.out) hb); have n8_ := Aside0.mk (blk_below (g := gb390) (o := .cells #[.slice Ao32 t385.length co32, .int .i64 t388] 32 (0, 0)) (by (with_reducible repeat (first | refine blk_drewN ?_ _ | refine blk_drew ?_ | refine blk_alloc ?_ _)); exact BK390.out) hb); have n9_ := Aside0.mk (below_step (by repeat (first | (with_reducible first | exact HB.out | apply below_alloc | apply pw_below_drewN | apply below_drew1 | refine below_set ?_ GE368.out | refine below_set ?_ GE379.out | refine below_set ?_ GE384.out | refine below_set ?_ GE390.out) | exact HB.out)) hb); have n10_ := Aside0.mk (hbox); have n11_ := Aside0.mk ((by rw [hg]; exact (below_size (by repeat (first | (with_reducible first | exact HB.out | apply below_alloc | apply pw_below_drewN | apply below_drew1 | refine below_set ?_ GE368.out | refine below_set ?_ GE379.out | refine below_set ?_ GE384.out | refine below_set ?_ GE390.out) | exact HB.out))) : w.heap.size ≤ gb412)); have n12_ := Aside0.mk ((by rw [hg]; exact (below_size (by repeat (first | (with_reducible first | exact HB.out | apply below_alloc | apply pw_below_drewN | apply below_drew1 | refine below_set ?_ GE368.out | refine below_set ?_ GE379.out | refine below_set ?_ GE384.out | refine below_set ?_ GE390.out) | exact HB.out))) : w.heap.size ≤ gb412)); have n13_ := Aside0.mk ((by rw [hg]; exact Nat.ne_of_lt (blk_lt (g := gb368) (o := .cells #[.slice A0_0 l0_0.length c0_0, .int .i64 a0_1] 47 (0, 0)) (by (with_reducible repeat (first | refine blk_drewN ?_ _ | refine blk_drew ?_ | refine blk_alloc ?_ _)); exact BK368.out)) : gb368 ≠ gb412)); have n14_ := Aside0.mk ((by rw [hg]; exact Nat.ne_of_gt (blk_lt (g := gb368) (o := .cells #[.slice A0_0 l0_0.length c0_0, .int .i64 a0_1] 47 (0, 0)) (by (with_reducible repeat (first | refine blk_drewN ?_ _ | refine blk_drew ?_ | refine blk_alloc ?_ _)); exact BK368.out)) : gb412 ≠ gb368)); have n15_ := Aside0.mk ((by rw [hg]; exact Nat.ne_of_lt (blk_lt (g := gb379) (o := .cells #[.slice Ao20 t374.length co20, .int .i64 t377] 32 (0, 0)) (by (with_reducible repeat (first | refine blk_drewN ?_ _ | refine blk_drew ?_ | refine blk_alloc ?_ _)); exact BK379.out)) : gb379 ≠ gb412)); have n16_ := Aside0.mk ((by rw [hg]; exact Nat.ne_of_gt (blk_lt (g := gb379) (o := .cells #[.slice Ao20 t374.length co20, .int .i64 t377] 32 (0, 0)) (by (with_reducible repeat (first | refine blk_drewN ?_ _ | refine blk_drew ?_ | refine blk_alloc ?_ _)); exact BK379.out)) : gb412 ≠ gb379)); have n17_ := Aside0.mk ((by rw [hg]; exact Nat.ne_of_lt (blk_lt (g := gb384) (o := .cells #[.slice Ao26 t398.length co26, .int .i64 t383] 32 (0, 0)) (by (with_reducible repeat (first | refine blk_drewN ?_ _ | refine blk_drew ?_ | refine blk_alloc ?_ _)); exact BK384.out)) : gb384 ≠ gb412)); have n18_ := Aside0.mk ((by rw [hg]; exact Nat.ne_of_gt (blk_lt (g := gb384) (o := .cells #[.slice Ao26 t398.length co26, .int .i64 t383] 32 (0, 0)) (by (with_reducible repeat (first | refine blk_drewN ?_ _ | refine blk_drew ?_ | refine blk_alloc ?_ _)); exact BK384.out)) : gb412 ≠ gb384)); have n19_ := Aside0.mk ((by rw [hg]; exact Nat.ne_of_lt (blk_lt (g := gb390) (o := .cells #[.slice Ao32 t385.length co32, .int .i64 t388] 32 (0, 0)) (by (with_reducible repeat (first | refine blk_drewN ?_ _ | refine blk_drew ?_ | refine blk_alloc ?_ _)); exact BK390.out)) : gb390 ≠ gb412)); have n20_ := Aside0.mk ((by rw [hg]; exact Nat.ne_of_gt (blk_lt (g := gb390) (o := .cells #[.slice Ao32 t385.length co32, .int .i64 t388] 32 (0, 0)) (by (with_reducible repeat (first | refine blk_drewN ?_ _ | refine blk_drew ?_ | refine blk_alloc ?_ _)); exact BK390.out)) : gb412 ≠ gb390)); clear HO_380000; clear HO_385000; clear HO_391000; clear HO405; clear HO409; clear BK368; clear BK379; clear BK384; clear BK390; clear HB; have HO_380000 := n0_; have HO_385000 := n1_; have HO_391000 := n2_; have HO405 := n3_; have HO409 := n4_; have BK368 := n5_; have BK379 := n6_; have BK384 := n7_; have BK390 := n8_; have HB := n9_; have BK412 := n10_; have GW412 := n11_; have GE412 := n12_; have NB368_412 := n13_; have NB412_368 := n14_; have NB379_412 := n15_; have NB412_379 := n16_; have NB384_412 := n17_; have NB412_384 := n18_; have NB390_412 := n19_; have NB412_390 := n20_; clear n0_ n1_ n2_ n3_ n4_ n5_ n6_ n7_ n8_ n9_ n10_ n11_ n12_ n13_ n14_ n15_ n16_ n17_ n18_ n19_ n20_; clear hb hbox hg; obtain ⟨Ao118, co118, eo118⟩ := Kd.R_slice HO409.out; subst eo118; have hnb119 := NB412_368.out; have hnc119 := NB368_412.out; have hnb120 := NB412_379.out; have hnc120 := NB379_412.out; have hnb121 := NB412_384.out; have hnc121 := NB384_412.out; have hnb122 := NB412_390.out; have hnc122 := NB390_412.out; have hcz123_0 : w117.cell? ⟨gb412, 0, none⟩ = some (.slice none 0 0) := (blk_cell BK412.out 0).trans rfl; have hcz123_1 : w117.cell? ⟨gb412, 1, none⟩ = some (.int .i64 0) := (blk_cell BK412.out 1).trans rfl; have hfz123_0 := blk_frozen BK412.out 0; have hfz123_1 := blk_frozen BK412.out 1))
                      (try simp only [Act.put, List.setIfInBounds_toArray, List.set_cons_zero, List.set_cons_succ])
                      go_cut [87] (fun v87 wc => ∃ (kq : Nat) (x87_102 : Bool), v87 = .bool x87_102 ∧ Aside0 (laws_FnExactTrimCode.j2 kq t400 x87_102 t401 t388 = some r) ∧ Aside0 (kq ≤ kj59) ∧ Aside0 (Kd.R k109 109 wc w.heap.size (fun k_ => some k_ ≠ ((.slice Ao26 t398.length co26) : Value).ownBlock ∧ some k_ ≠ ((.slice Ao32 t385.length co32) : Value).ownBlock ∧ some k_ ≠ ((.slice Ao118 t407.length co118) : Value).ownBlock) (.slice Ao20 t374.length co20) t374) ∧ Aside0 (Kd.R k109 109 wc w.heap.size (fun k_ => some k_ ≠ ((.slice Ao20 t374.length co20) : Value).ownBlock ∧ some k_ ≠ ((.slice Ao32 t385.length co32) : Value).ownBlock ∧ some k_ ≠ ((.slice Ao118 t407.length co118) : Value).ownBlock) (.slice Ao26 t398.length co26) t398) ∧ Aside0 (Kd.R k109 109 wc w.heap.size (fun k_ => some k_ ≠ ((.slice Ao20 t374.length co20) : Value).ownBlock ∧ some k_ ≠ ((.slice Ao26 t398.length co26) : Value).ownBlock ∧ some k_ ≠ ((.slice Ao118 t407.length co118) : Value).ownBlock) (.slice Ao32 t385.length co32) t401) ∧ Aside0 (Kd.R k109 109 wc w.heap.size (fun k_ => some k_ ≠ ((.slice Ao20 t374.length co20) : Value).ownBlock ∧ some k_ ≠ ((.slice Ao26 t398.length co26) : Value).ownBlock ∧ some k_ ≠ ((.slice Ao32 t385.length co32) : Value).ownBlock) (.slice Ao118 t407.length co118) t407) ∧ Aside0 (wc.heap[gb368]? = some (.cells #[(.slice A0_0 l0_0.length c0_0), .int .i64 a0_1] 47 (0, 0))) ∧ Aside0 (wc.heap[gb379]? = some (.cells #[(.slice Ao20 t374.length co20), .int .i64 t377] 32 (0, 0))) ∧ Aside0 (wc.heap[gb384]? = some (.cells #[(.slice Ao26 t398.length co26), .int .i64 t383] 32 (0, 0))) ∧ Aside0 (wc.heap[gb390]? = some (.cells #[(.slice Ao32 t385.length co32), .int .i64 t388] 32 (0, 0))) ∧ Aside0 (wc.heap[gb412]? = some (.cells #[(.slice Ao118 t407.length co118), .int .i64 t410] 32 (0, 0))) ∧ Aside0 (Below w.heap.size w wc))
                      case first =>
                        have H := HC103.out
                        clear HC103
                        replace H := Option.bind_eq_some_iff.mp H
                        obtain ⟨t413, A1240, H⟩ := H
                        replace H : (if t413 = true then (laws_FnExactTrimCode.j2 kj59 t400 (t411 != t378) t401 t388) else (laws_FnExactTrimCode.j2 kj59 t400 true t401 t388)) = some r := H
                        have A124 := Aside0.mk A1240
                        clear A1240
                        by_cases c125 : t413 = true
                        · subst c125
                          have H1 : (laws_FnExactTrimCode.j2 kj59 t400 (t411 != t378) t401 t388) = some r := by rw [if_pos rfl] at H; exact H
                          clear H
                          have H := H1
                          clear H1
                          have H' := Aside0.mk H
                          clear H
                          have hnb126 := NB412_368.out
                          have hnc126 := NB368_412.out
                          have hnb127 := NB412_379.out
                          have hnc127 := NB379_412.out
                          have hnb128 := NB412_384.out
                          have hnc128 := NB384_412.out
                          have hnb129 := NB412_390.out
                          have hnc129 := NB390_412.out
                          have hcz130_0 : w117.cell? ⟨gb412, 0, none⟩ = some (.slice none 0 0) := (blk_cell BK412.out 0).trans rfl
                          have hcz130_1 : w117.cell? ⟨gb412, 1, none⟩ = some (.int .i64 0) := (blk_cell BK412.out 1).trans rfl
                          have hfz130_0 := blk_frozen BK412.out 0
                          have hfz130_1 := blk_frozen BK412.out 1
                          have hnb131 := NB379_368.out
                          have hnc131 := NB368_379.out
                          have hnb132 := NB379_384.out
                          have hnc132 := NB384_379.out
                          have hnb133 := NB379_390.out
                          have hnc133 := NB390_379.out
                          have hcz134_0 : w117.cell? ⟨gb379, 0, none⟩ = some (.slice Ao20 t374.length co20) := (blk_cell BK379.out 0).trans rfl
                          have hcz134_1 : w117.cell? ⟨gb379, 1, none⟩ = some (.int .i64 t377) := (blk_cell BK379.out 1).trans rfl
                          have hfz134_0 := blk_frozen BK379.out 0
                          have hfz134_1 := blk_frozen BK379.out 1
                          go_wp2_with (first | ((with_reducible refine gate_callee (f := 27) rfl ?_); refine goesL_ (some 81) rfl rfl Try.func27 (by kernel_rfl) rfl #[.agg #[.slice Ao118 t407.length co118, .int .i64 t410], .agg #[.slice Ao20 t374.length co20, .int .i64 t377]] rfl (by (try simp only [List.map_toArray, List.map_cons, List.map_nil]); first | done | rfl | (simp only [List.length_drop, List.length_take]; rfl)) ?_; (with_reducible refine (laws_eqCode.calls kj59 _ _ t407 t410 _ _ t374 t377 true _ ?side1 ?side2 ?side3 ?side4 A124.out).mono ?_); (case side1 => refine (Kd.R_reads' (e := 109) (base := w.heap.size) (ok := fun k_ => ((((True ∧ some k_ ≠ (.slice Ao20 t374.length co20 : Value).ownBlock) ∧ some k_ ≠ (.slice Ao26 t398.length co26 : Value).ownBlock) ∧ some k_ ≠ (.slice Ao32 t385.length co32 : Value).ownBlock) ∧ some k_ ≠ (.slice Ao115 t403.length co115 : Value).ownBlock)) (n := t407.length) (c := co118) ?_).2.2; exact (by (with_reducible repeat (first | apply Kd.R_alloc | apply Kd.R_drewN | apply Kd.R_drew)); exact (Kd.R_mono (Kd.R_far (p := ⟨gb412, 1, none⟩) (Kd.R_far (p := ⟨gb412, 0, none⟩) (Kd.R_types HO409.out BK412.out (by decide)) (fun _ hk => hk.2) (.slice Ao118 t407.length co118)) (fun _ hk => hk.2) (.int .i64 t410)) (fun _ h_ => h_.1)))); (case side2 => exact (Kd.R_reads' HO409.out).2.1); (case side3 => refine (Kd.R_reads' (e := 109) (base := w.heap.size) (ok := fun k_ => (((some k_ ≠ (.slice Ao26 t398.length co26 : Value).ownBlock ∧ some k_ ≠ (.slice Ao32 t385.length co32 : Value).ownBlock) ∧ some k_ ≠ (.slice Ao115 t403.length co115 : Value).ownBlock) ∧ some k_ ≠ (.slice Ao118 t407.length co118 : Value).ownBlock)) (n := t374.length) (c := co20) ?_).2.2; exact (by (with_reducible repeat (first | apply Kd.R_alloc | apply Kd.R_drewN | apply Kd.R_drew)); exact (Kd.R_mono (Kd.R_far (p := ⟨gb412, 1, none⟩) (Kd.R_far (p := ⟨gb412, 0, none⟩) (Kd.R_types HO_380000.out BK412.out (by decide)) (fun _ hk => hk.2) (.slice Ao118 t407.length co118)) (fun _ hk => hk.2) (.int .i64 t410)) (fun _ h_ => h_.1)))); (case side4 => exact (Kd.R_reads' HO_380000.out).2.1); rintro e w135 ⟨rfl, hb⟩; refine ⟨_, rfl, ?_⟩; have n0_ := Aside0.mk (Kd.R_below (by (with_reducible repeat (first | apply Kd.R_alloc | apply Kd.R_drewN | apply Kd.R_drew)); exact (Kd.R_mono (Kd.R_far (p := ⟨gb412, 1, none⟩) (Kd.R_far (p := ⟨gb412, 0, none⟩) (Kd.R_types HO_380000.out BK412.out (by decide)) (fun _ hk => hk.2) (.slice Ao118 t407.length co118)) (fun _ hk => hk.2) (.int .i64 t410)) (fun _ h_ => h_.1))) hb); have n1_ := Aside0.mk (Kd.R_below (by (with_reducible repeat (first | apply Kd.R_alloc | apply Kd.R_drewN | apply Kd.R_drew)); exact (Kd.R_mono (Kd.R_far (p := ⟨gb412, 1, none⟩) (Kd.R_far (p := ⟨gb412, 0, none⟩) (Kd.R_types HO_385000.out BK412.out (by decide)) (fun _ hk => hk.2) (.slice Ao118 t407.length co118)) (fun _ hk => hk.2) (.int .i64 t410)) (fun _ h_ => h_.1))) hb); have n2_ := Aside0.mk (Kd.R_below (by (with_reducible repeat (first | apply Kd.R_alloc | apply Kd.R_drewN | apply Kd.R_drew)); exact (Kd.R_mono (Kd.R_far (p := ⟨gb412, 1, none⟩) (Kd.R_far (p := ⟨gb412, 0, none⟩) (Kd.R_types HO_391000.out BK412.out (by decide)) (fun _ hk => hk.2) (.slice Ao118 t407.length co118)) (fun _ hk => hk.2) (.int .i64 t410)) (fun _ h_ => h_.1))) hb); have n3_ := Aside0.mk (Kd.R_below (by (with_reducible repeat (first | apply Kd.R_alloc | apply Kd.R_drewN | apply Kd.R_drew)); exact (Kd.R_mono (Kd.R_far (p := ⟨gb412, 1, none⟩) (Kd.R_far (p := ⟨gb412, 0, none⟩) (Kd.R_types HO405.out BK412.out (by decide)) (fun _ hk => hk.2) (.slice Ao118 t407.length co118)) (fun _ hk => hk.2) (.int .i64 t410)) (fun _ h_ => h_.1))) hb); have n4_ := Aside0.mk (Kd.R_below (by (with_reducible repeat (first | apply Kd.R_alloc | apply Kd.R_drewN | apply Kd.R_drew)); exact (Kd.R_mono (Kd.R_far (p := ⟨gb412, 1, none⟩) (Kd.R_far (p := ⟨gb412, 0, none⟩) (Kd.R_types HO409.out BK412.out (by decide)) (fun _ hk => hk.2) (.slice Ao118 t407.length co118)) (fun _ hk => hk.2) (.int .i64 t410)) (fun _ h_ => h_.1))) hb); have n5_ := Aside0.mk (blk_below (g := gb368) (o := .cells #[.slice A0_0 l0_0.length c0_0, .int .i64 a0_1] 47 (0, 0)) (by (with_reducible repeat (first | refine blk_drewN ?_ _ | refine blk_drew ?_ | refine blk_alloc ?_ _)); refine blk_far ?_ NB368_412.out _; (with_reducible repeat (first | refine blk_drewN ?_ _ | refine blk_drew ?_ | refine blk_alloc ?_ _)); refine blk_far ?_ NB368_412.out _; (with_reducible repeat (first | refine blk_drewN ?_ _ | refine blk_drew ?_ | refine blk_alloc ?_ _)); exact BK368.out) hb); have n6_ := Aside0.mk (blk_below (g := gb379) (o := .cells #[.slice Ao20 t374.length co20, .int .i64 t377] 32 (0, 0)) (by (with_reducible repeat (first | refine blk_drewN ?_ _ | refine blk_drew ?_ | refine blk_alloc ?_ _)); refine blk_far ?_ NB379_412.out _; (with_reducible repeat (first | refine blk_drewN ?_ _ | refine blk_drew ?_ | refine blk_alloc ?_ _)); refine blk_far ?_ NB379_412.out _; (with_reducible repeat (first | refine blk_drewN ?_ _ | refine blk_drew ?_ | refine blk_alloc ?_ _)); exact BK379.out) hb); have n7_ := Aside0.mk (blk_below (g := gb384) (o := .cells #[.slice Ao26 t398.length co26, .int .i64 t383] 32 (0, 0)) (by (with_reducible repeat (first | refine blk_drewN ?_ _ | refine blk_drew ?_ | refine blk_alloc ?_ _)); refine blk_far ?_ NB384_412.out _; (with_reducible repeat (first | refine blk_drewN ?_ _ | refine blk_drew ?_ | refine blk_alloc ?_ _)); refine blk_far ?_ NB384_412.out _; (with_reducible repeat (first | refine blk_drewN ?_ _ | refine blk_drew ?_ | refine blk_alloc ?_ _)); exact BK384.out) hb); have n8_ := Aside0.mk (blk_below (g := gb390) (o := .cells #[.slice Ao32 t385.length co32, .int .i64 t388] 32 (0, 0)) (by (with_reducible repeat (first | refine blk_drewN ?_ _ | refine blk_drew ?_ | refine blk_alloc ?_ _)); refine blk_far ?_ NB390_412.out _; (with_reducible repeat (first | refine blk_drewN ?_ _ | refine blk_drew ?_ | refine blk_alloc ?_ _)); refine blk_far ?_ NB390_412.out _; (with_reducible repeat (first | refine blk_drewN ?_ _ | refine blk_drew ?_ | refine blk_alloc ?_ _)); exact BK390.out) hb); have n9_ := Aside0.mk (blk_below (g := gb412) (o := .cells #[.slice Ao118 t407.length co118, .int .i64 t410] 32 (0, 0)) (by (with_reducible repeat (first | refine blk_drewN ?_ _ | refine blk_drew ?_ | refine blk_alloc ?_ _)); refine blk_put (cs := #[.slice Ao118 t407.length co118, .int .i64 0]) ?_ 1 _ rfl; (with_reducible repeat (first | refine blk_drewN ?_ _ | refine blk_drew ?_ | refine blk_alloc ?_ _)); refine blk_put (cs := #[.slice none 0 0, .int .i64 0]) ?_ 0 _ rfl; (with_reducible repeat (first | refine blk_drewN ?_ _ | refine blk_drew ?_ | refine blk_alloc ?_ _)); exact BK412.out) hb); have n10_ := Aside0.mk (below_step (by repeat (first | (with_reducible first | exact HB.out | apply below_alloc | apply pw_below_drewN | apply below_drew1 | refine below_set ?_ GE368.out | refine below_set ?_ GE379.out | refine below_set ?_ GE384.out | refine below_set ?_ GE390.out | refine below_set ?_ GE412.out) | exact HB.out)) hb); clear HO_380000; clear HO_385000; clear HO_391000; clear HO405; clear HO409; clear BK368; clear BK379; clear BK384; clear BK390; clear BK412; clear HB; have HO_380000 := n0_; have HO_385000 := n1_; have HO_391000 := n2_; have HO405 := n3_; have HO409 := n4_; have BK368 := n5_; have BK379 := n6_; have BK384 := n7_; have BK390 := n8_; have BK412 := n9_; have HB := n10_; clear n0_ n1_ n2_ n3_ n4_ n5_ n6_ n7_ n8_ n9_ n10_; (try clear hb); (try clear hb2); (try clear hk); (try clear hi)))
                          go_meet
                          case rel => exact ⟨_, ((t411 != t378)), (by first | rfl | (simp; done) | (simp [*]; done)), H', ⟨by have := HJ10.out; have := HJ59.out; first | omega | exact Nat.le_refl _⟩, ⟨by (try simp only [hl385000_59]); (with_reducible repeat (first | apply Kd.R_alloc | apply Kd.R_drewN | apply Kd.R_drew)); exact Kd.R_mono HO_380000.out (fun _ hk => ⟨hk.1.1.1, ⟨hk.1.1.2, hk.2⟩⟩)⟩, ⟨by (try simp only [hl385000_59]); (with_reducible repeat (first | apply Kd.R_alloc | apply Kd.R_drewN | apply Kd.R_drew)); exact Kd.R_mono HO_385000.out (fun _ hk => ⟨hk.1.1.1, ⟨hk.1.1.2, hk.2⟩⟩)⟩, ⟨by (try simp only [hl385000_59]); (with_reducible repeat (first | apply Kd.R_alloc | apply Kd.R_drewN | apply Kd.R_drew)); exact Kd.R_mono HO_391000.out (fun _ hk => ⟨hk.1.1.1, ⟨hk.1.1.2, hk.2⟩⟩)⟩, ⟨by (try simp only [hl385000_59]); (with_reducible repeat (first | apply Kd.R_alloc | apply Kd.R_drewN | apply Kd.R_drew)); exact Kd.R_mono HO409.out (fun _ hk => ⟨hk.1.1.1.2, ⟨hk.1.1.2, hk.1.2⟩⟩)⟩, ⟨by (try simp only [hl385000_59]); (with_reducible repeat (first | refine blk_drewN ?_ _ | refine blk_drew ?_ | refine blk_alloc ?_ _)); exact BK368.out⟩, ⟨by (try simp only [hl385000_59]); (with_reducible repeat (first | refine blk_drewN ?_ _ | refine blk_drew ?_ | refine blk_alloc ?_ _)); exact BK379.out⟩, ⟨by (try simp only [hl385000_59]); (with_reducible repeat (first | refine blk_drewN ?_ _ | refine blk_drew ?_ | refine blk_alloc ?_ _)); exact BK384.out⟩, ⟨by (try simp only [hl385000_59]); (with_reducible repeat (first | refine blk_drewN ?_ _ | refine blk_drew ?_ | refine blk_alloc ?_ _)); exact BK390.out⟩, ⟨by (try simp only [hl385000_59]); (with_reducible repeat (first | refine blk_drewN ?_ _ | refine blk_drew ?_ | refine blk_alloc ?_ _)); exact BK412.out⟩, ⟨by repeat (first | (with_reducible first | exact HB.out | apply below_alloc | apply pw_below_drewN | apply below_drew1 | refine below_set ?_ GE368.out | refine below_set ?_ GE379.out | refine below_set ?_ GE384.out | refine below_set ?_ GE390.out | refine below_set ?_ GE412.out) | exact HB.out)⟩⟩
                        · replace c125 := Bool.eq_false_iff.mpr c125
                          subst c125
                          have H1 : (laws_FnExactTrimCode.j2 kj59 t400 true t401 t388) = some r := by rw [if_neg (show ¬ (false = true) by decide)] at H; exact H
                          clear H
                          have H := H1
                          clear H1
                          have H' := Aside0.mk H
                          clear H
                          have hnb136 := NB412_368.out
                          have hnc136 := NB368_412.out
                          have hnb137 := NB412_379.out
                          have hnc137 := NB379_412.out
                          have hnb138 := NB412_384.out
                          have hnc138 := NB384_412.out
                          have hnb139 := NB412_390.out
                          have hnc139 := NB390_412.out
                          have hcz140_0 : w117.cell? ⟨gb412, 0, none⟩ = some (.slice none 0 0) := (blk_cell BK412.out 0).trans rfl
                          have hcz140_1 : w117.cell? ⟨gb412, 1, none⟩ = some (.int .i64 0) := (blk_cell BK412.out 1).trans rfl
                          have hfz140_0 := blk_frozen BK412.out 0
                          have hfz140_1 := blk_frozen BK412.out 1
                          have hnb141 := NB379_368.out
                          have hnc141 := NB368_379.out
                          have hnb142 := NB379_384.out
                          have hnc142 := NB384_379.out
                          have hnb143 := NB379_390.out
                          have hnc143 := NB390_379.out
                          have hcz144_0 : w117.cell? ⟨gb379, 0, none⟩ = some (.slice Ao20 t374.length co20) := (blk_cell BK379.out 0).trans rfl
                          have hcz144_1 : w117.cell? ⟨gb379, 1, none⟩ = some (.int .i64 t377) := (blk_cell BK379.out 1).trans rfl
                          have hfz144_0 := blk_frozen BK379.out 0
                          have hfz144_1 := blk_frozen BK379.out 1
                          go_wp2_with (first | ((with_reducible refine gate_callee (f := 27) rfl ?_); refine goesL_ (some 81) rfl rfl Try.func27 (by kernel_rfl) rfl #[.agg #[.slice Ao118 t407.length co118, .int .i64 t410], .agg #[.slice Ao20 t374.length co20, .int .i64 t377]] rfl (by (try simp only [List.map_toArray, List.map_cons, List.map_nil]); first | done | rfl | (simp only [List.length_drop, List.length_take]; rfl)) ?_; (with_reducible refine (laws_eqCode.calls kj59 _ _ t407 t410 _ _ t374 t377 false _ ?side1 ?side2 ?side3 ?side4 A124.out).mono ?_); (case side1 => refine (Kd.R_reads' (e := 109) (base := w.heap.size) (ok := fun k_ => ((((True ∧ some k_ ≠ (.slice Ao20 t374.length co20 : Value).ownBlock) ∧ some k_ ≠ (.slice Ao26 t398.length co26 : Value).ownBlock) ∧ some k_ ≠ (.slice Ao32 t385.length co32 : Value).ownBlock) ∧ some k_ ≠ (.slice Ao115 t403.length co115 : Value).ownBlock)) (n := t407.length) (c := co118) ?_).2.2; exact (by (with_reducible repeat (first | apply Kd.R_alloc | apply Kd.R_drewN | apply Kd.R_drew)); exact (Kd.R_mono (Kd.R_far (p := ⟨gb412, 1, none⟩) (Kd.R_far (p := ⟨gb412, 0, none⟩) (Kd.R_types HO409.out BK412.out (by decide)) (fun _ hk => hk.2) (.slice Ao118 t407.length co118)) (fun _ hk => hk.2) (.int .i64 t410)) (fun _ h_ => h_.1)))); (case side2 => exact (Kd.R_reads' HO409.out).2.1); (case side3 => refine (Kd.R_reads' (e := 109) (base := w.heap.size) (ok := fun k_ => (((some k_ ≠ (.slice Ao26 t398.length co26 : Value).ownBlock ∧ some k_ ≠ (.slice Ao32 t385.length co32 : Value).ownBlock) ∧ some k_ ≠ (.slice Ao115 t403.length co115 : Value).ownBlock) ∧ some k_ ≠ (.slice Ao118 t407.length co118 : Value).ownBlock)) (n := t374.length) (c := co20) ?_).2.2; exact (by (with_reducible repeat (first | apply Kd.R_alloc | apply Kd.R_drewN | apply Kd.R_drew)); exact (Kd.R_mono (Kd.R_far (p := ⟨gb412, 1, none⟩) (Kd.R_far (p := ⟨gb412, 0, none⟩) (Kd.R_types HO_380000.out BK412.out (by decide)) (fun _ hk => hk.2) (.slice Ao118 t407.length co118)) (fun _ hk => hk.2) (.int .i64 t410)) (fun _ h_ => h_.1)))); (case side4 => exact (Kd.R_reads' HO_380000.out).2.1); rintro e w145 ⟨rfl, hb⟩; refine ⟨_, rfl, ?_⟩; have n0_ := Aside0.mk (Kd.R_below (by (with_reducible repeat (first | apply Kd.R_alloc | apply Kd.R_drewN | apply Kd.R_drew)); exact (Kd.R_mono (Kd.R_far (p := ⟨gb412, 1, none⟩) (Kd.R_far (p := ⟨gb412, 0, none⟩) (Kd.R_types HO_380000.out BK412.out (by decide)) (fun _ hk => hk.2) (.slice Ao118 t407.length co118)) (fun _ hk => hk.2) (.int .i64 t410)) (fun _ h_ => h_.1))) hb); have n1_ := Aside0.mk (Kd.R_below (by (with_reducible repeat (first | apply Kd.R_alloc | apply Kd.R_drewN | apply Kd.R_drew)); exact (Kd.R_mono (Kd.R_far (p := ⟨gb412, 1, none⟩) (Kd.R_far (p := ⟨gb412, 0, none⟩) (Kd.R_types HO_385000.out BK412.out (by decide)) (fun _ hk => hk.2) (.slice Ao118 t407.length co118)) (fun _ hk => hk.2) (.int .i64 t410)) (fun _ h_ => h_.1))) hb); have n2_ := Aside0.mk (Kd.R_below (by (with_reducible repeat (first | apply Kd.R_alloc | apply Kd.R_drewN | apply Kd.R_drew)); exact (Kd.R_mono (Kd.R_far (p := ⟨gb412, 1, none⟩) (Kd.R_far (p := ⟨gb412, 0, none⟩) (Kd.R_types HO_391000.out BK412.out (by decide)) (fun _ hk => hk.2) (.slice Ao118 t407.length co118)) (fun _ hk => hk.2) (.int .i64 t410)) (fun _ h_ => h_.1))) hb); have n3_ := Aside0.mk (Kd.R_below (by (with_reducible repeat (first | apply Kd.R_alloc | apply Kd.R_drewN | apply Kd.R_drew)); exact (Kd.R_mono (Kd.R_far (p := ⟨gb412, 1, none⟩) (Kd.R_far (p := ⟨gb412, 0, none⟩) (Kd.R_types HO405.out BK412.out (by decide)) (fun _ hk => hk.2) (.slice Ao118 t407.length co118)) (fun _ hk => hk.2) (.int .i64 t410)) (fun _ h_ => h_.1))) hb); have n4_ := Aside0.mk (Kd.R_below (by (with_reducible repeat (first | apply Kd.R_alloc | apply Kd.R_drewN | apply Kd.R_drew)); exact (Kd.R_mono (Kd.R_far (p := ⟨gb412, 1, none⟩) (Kd.R_far (p := ⟨gb412, 0, none⟩) (Kd.R_types HO409.out BK412.out (by decide)) (fun _ hk => hk.2) (.slice Ao118 t407.length co118)) (fun _ hk => hk.2) (.int .i64 t410)) (fun _ h_ => h_.1))) hb); have n5_ := Aside0.mk (blk_below (g := gb368) (o := .cells #[.slice A0_0 l0_0.length c0_0, .int .i64 a0_1] 47 (0, 0)) (by (with_reducible repeat (first | refine blk_drewN ?_ _ | refine blk_drew ?_ | refine blk_alloc ?_ _)); refine blk_far ?_ NB368_412.out _; (with_reducible repeat (first | refine blk_drewN ?_ _ | refine blk_drew ?_ | refine blk_alloc ?_ _)); refine blk_far ?_ NB368_412.out _; (with_reducible repeat (first | refine blk_drewN ?_ _ | refine blk_drew ?_ | refine blk_alloc ?_ _)); exact BK368.out) hb); have n6_ := Aside0.mk (blk_below (g := gb379) (o := .cells #[.slice Ao20 t374.length co20, .int .i64 t377] 32 (0, 0)) (by (with_reducible repeat (first | refine blk_drewN ?_ _ | refine blk_drew ?_ | refine blk_alloc ?_ _)); refine blk_far ?_ NB379_412.out _; (with_reducible repeat (first | refine blk_drewN ?_ _ | refine blk_drew ?_ | refine blk_alloc ?_ _)); refine blk_far ?_ NB379_412.out _; (with_reducible repeat (first | refine blk_drewN ?_ _ | refine blk_drew ?_ | refine blk_alloc ?_ _)); exact BK379.out) hb); have n7_ := Aside0.mk (blk_below (g := gb384) (o := .cells #[.slice Ao26 t398.length co26, .int .i64 t383] 32 (0, 0)) (by (with_reducible repeat (first | refine blk_drewN ?_ _ | refine blk_drew ?_ | refine blk_alloc ?_ _)); refine blk_far ?_ NB384_412.out _; (with_reducible repeat (first | refine blk_drewN ?_ _ | refine blk_drew ?_ | refine blk_alloc ?_ _)); refine blk_far ?_ NB384_412.out _; (with_reducible repeat (first | refine blk_drewN ?_ _ | refine blk_drew ?_ | refine blk_alloc ?_ _)); exact BK384.out) hb); have n8_ := Aside0.mk (blk_below (g := gb390) (o := .cells #[.slice Ao32 t385.length co32, .int .i64 t388] 32 (0, 0)) (by (with_reducible repeat (first | refine blk_drewN ?_ _ | refine blk_drew ?_ | refine blk_alloc ?_ _)); refine blk_far ?_ NB390_412.out _; (with_reducible repeat (first | refine blk_drewN ?_ _ | refine blk_drew ?_ | refine blk_alloc ?_ _)); refine blk_far ?_ NB390_412.out _; (with_reducible repeat (first | refine blk_drewN ?_ _ | refine blk_drew ?_ | refine blk_alloc ?_ _)); exact BK390.out) hb); have n9_ := Aside0.mk (blk_below (g := gb412) (o := .cells #[.slice Ao118 t407.length co118, .int .i64 t410] 32 (0, 0)) (by (with_reducible repeat (first | refine blk_drewN ?_ _ | refine blk_drew ?_ | refine blk_alloc ?_ _)); refine blk_put (cs := #[.slice Ao118 t407.length co118, .int .i64 0]) ?_ 1 _ rfl; (with_reducible repeat (first | refine blk_drewN ?_ _ | refine blk_drew ?_ | refine blk_alloc ?_ _)); refine blk_put (cs := #[.slice none 0 0, .int .i64 0]) ?_ 0 _ rfl; (with_reducible repeat (first | refine blk_drewN ?_ _ | refine blk_drew ?_ | refine blk_alloc ?_ _)); exact BK412.out) hb); have n10_ := Aside0.mk (below_step (by repeat (first | (with_reducible first | exact HB.out | apply below_alloc | apply pw_below_drewN | apply below_drew1 | refine below_set ?_ GE368.out | refine below_set ?_ GE379.out | refine below_set ?_ GE384.out | refine below_set ?_ GE390.out | refine below_set ?_ GE412.out) | exact HB.out)) hb); clear HO_380000; clear HO_385000; clear HO_391000; clear HO405; clear HO409; clear BK368; clear BK379; clear BK384; clear BK390; clear BK412; clear HB; have HO_380000 := n0_; have HO_385000 := n1_; have HO_391000 := n2_; have HO405 := n3_; have HO409 := n4_; have BK368 := n5_; have BK379 := n6_; have BK384 := n7_; have BK390 := n8_; have BK412 := n9_; have HB := n10_; clear n0_ n1_ n2_ n3_ n4_ n5_ n6_ n7_ n8_ n9_ n10_; (try clear hb); (try clear hb2); (try clear hk); (try clear hi)))
                          go_meet
                          case rel => exact ⟨_, (true), (by first | rfl | (simp; done) | (simp [*]; done)), H', ⟨by have := HJ10.out; have := HJ59.out; first | omega | exact Nat.le_refl _⟩, ⟨by (try simp only [hl385000_59]); (with_reducible repeat (first | apply Kd.R_alloc | apply Kd.R_drewN | apply Kd.R_drew)); exact Kd.R_mono HO_380000.out (fun _ hk => ⟨hk.1.1.1, ⟨hk.1.1.2, hk.2⟩⟩)⟩, ⟨by (try simp only [hl385000_59]); (with_reducible repeat (first | apply Kd.R_alloc | apply Kd.R_drewN | apply Kd.R_drew)); exact Kd.R_mono HO_385000.out (fun _ hk => ⟨hk.1.1.1, ⟨hk.1.1.2, hk.2⟩⟩)⟩, ⟨by (try simp only [hl385000_59]); (with_reducible repeat (first | apply Kd.R_alloc | apply Kd.R_drewN | apply Kd.R_drew)); exact Kd.R_mono HO_391000.out (fun _ hk => ⟨hk.1.1.1, ⟨hk.1.1.2, hk.2⟩⟩)⟩, ⟨by (try simp only [hl385000_59]); (with_reducible repeat (first | apply Kd.R_alloc | apply Kd.R_drewN | apply Kd.R_drew)); exact Kd.R_mono HO409.out (fun _ hk => ⟨hk.1.1.1.2, ⟨hk.1.1.2, hk.1.2⟩⟩)⟩, ⟨by (try simp only [hl385000_59]); (with_reducible repeat (first | refine blk_drewN ?_ _ | refine blk_drew ?_ | refine blk_alloc ?_ _)); exact BK368.out⟩, ⟨by (try simp only [hl385000_59]); (with_reducible repeat (first | refine blk_drewN ?_ _ | refine blk_drew ?_ | refine blk_alloc ?_ _)); exact BK379.out⟩, ⟨by (try simp only [hl385000_59]); (with_reducible repeat (first | refine blk_drewN ?_ _ | refine blk_drew ?_ | refine blk_alloc ?_ _)); exact BK384.out⟩, ⟨by (try simp only [hl385000_59]); (with_reducible repeat (first | refine blk_drewN ?_ _ | refine blk_drew ?_ | refine blk_alloc ?_ _)); exact BK390.out⟩, ⟨by (try simp only [hl385000_59]); (with_reducible repeat (first | refine blk_drewN ?_ _ | refine blk_drew ?_ | refine blk_alloc ?_ _)); exact BK412.out⟩, ⟨by repeat (first | (with_reducible first | exact HB.out | apply below_alloc | apply pw_below_drewN | apply below_drew1 | refine below_set ?_ GE368.out | refine below_set ?_ GE379.out | refine below_set ?_ GE384.out | refine below_set ?_ GE390.out | refine below_set ?_ GE412.out) | exact HB.out)⟩⟩
                      case rest =>
                        clear HC103
                        try clear c1
                        try clear c2
                        try clear p2
                        try clear c3
                        try clear c3b0
                        try clear c4
                        try clear c5
                        try clear c6
                        try clear c7
                        try clear c8
                        try clear c9
                        try clear c10
                        try clear c11
                        try clear c12
                        try clear c13
                        try clear c14
                        try clear c21
                        try clear c27
                        try clear c28
                        try clear c30
                        try clear c31
                        try clear c32
                        try clear c33
                        try clear c34
                        try clear c35
                        try clear c38
                        try clear c39
                        try clear c40
                        try clear c41
                        try clear c43
                        try clear c44
                        try clear c47
                        try clear c48
                        try clear c49
                        try clear c51
                        try clear c52
                        try clear c55
                        try clear c58
                        try clear c65
                        try clear c66
                        try clear c67
                        try clear c70
                        try clear c70b0
                        try clear c72
                        try clear c73
                        try clear c74
                        try clear c75
                        try clear c77
                        try clear c78
                        try clear c81
                        try clear c82
                        try clear c83
                        try clear c85
                        try clear c86
                        try clear c89
                        try clear c92
                        try clear c92b0
                        try clear c93
                        try clear c94
                        try clear c95
                        try clear c100
                        try clear c100b0
                        try clear c100b1
                        try clear c104
                        try clear c105
                        try clear c106
                        try clear c111
                        try clear c112
                        try clear c119
                        try clear c120
                        try clear c121
                        try clear c122
                        try clear c125
                        try clear c126
                        try clear c127
                        try clear c128
                        try clear c129
                        try clear c131
                        try clear c132
                        try clear c133
                        try clear c136
                        try clear c137
                        try clear c138
                        try clear c139
                        try clear c141
                        try clear c142
                        try clear c143
                        try clear hcz107_0
                        try clear hcz107_1
                        try clear hcz109_0
                        try clear hcz109_1
                        try clear hcz113_0
                        try clear hcz113_1
                        try clear hcz123_0
                        try clear hcz123_1
                        try clear hcz130_0
                        try clear hcz130_1
                        try clear hcz134_0
                        try clear hcz134_1
                        try clear hcz13_0
                        try clear hcz13_1
                        try clear hcz140_0
                        try clear hcz140_1
                        try clear hcz144_0
                        try clear hcz144_1
                        try clear hcz15_0
                        try clear hcz15_1
                        try clear hcz22_0
                        try clear hcz22_1
                        try clear hcz23_0
                        try clear hcz23_1
                        try clear hcz29_0
                        try clear hcz29_1
                        try clear hcz36_0
                        try clear hcz36_1
                        try clear hcz42_0
                        try clear hcz42_1
                        try clear hcz45_0
                        try clear hcz45_1
                        try clear hcz50_0
                        try clear hcz50_1
                        try clear hcz53_0
                        try clear hcz53_1
                        try clear hcz5_0
                        try clear hcz5_1
                        try clear hcz68_0
                        try clear hcz68_1
                        try clear hcz76_0
                        try clear hcz76_1
                        try clear hcz79_0
                        try clear hcz79_1
                        try clear hcz84_0
                        try clear hcz84_1
                        try clear hcz87_0
                        try clear hcz87_1
                        try clear hcz96_0
                        try clear hcz96_1
                        try clear hcz98_0
                        try clear hcz98_1
                        try clear hfz107_0
                        try clear hfz107_1
                        try clear hfz109_0
                        try clear hfz109_1
                        try clear hfz113_0
                        try clear hfz113_1
                        try clear hfz123_0
                        try clear hfz123_1
                        try clear hfz130_0
                        try clear hfz130_1
                        try clear hfz134_0
                        try clear hfz134_1
                        try clear hfz13_0
                        try clear hfz13_1
                        try clear hfz140_0
                        try clear hfz140_1
                        try clear hfz144_0
                        try clear hfz144_1
                        try clear hfz15_0
                        try clear hfz15_1
                        try clear hfz22_0
                        try clear hfz22_1
                        try clear hfz23_0
                        try clear hfz23_1
                        try clear hfz29_0
                        try clear hfz29_1
                        try clear hfz36_0
                        try clear hfz36_1
                        try clear hfz42_0
                        try clear hfz42_1
                        try clear hfz45_0
                        try clear hfz45_1
                        try clear hfz50_0
                        try clear hfz50_1
                        try clear hfz53_0
                        try clear hfz53_1
                        try clear hfz5_0
                        try clear hfz5_1
                        try clear hfz68_0
                        try clear hfz68_1
                        try clear hfz76_0
                        try clear hfz76_1
                        try clear hfz79_0
                        try clear hfz79_1
                        try clear hfz84_0
                        try clear hfz84_1
                        try clear hfz87_0
                        try clear hfz87_1
                        try clear hfz96_0
                        try clear hfz96_1
                        try clear hfz98_0
                        try clear hfz98_1
                        try clear p2
                        obtain ⟨kq, x87_102, rfl, HA, HJ102, HO_380000, HO_385000, HO_391000, HO_413000, BK368, BK379, BK384, BK390, BK412, HB⟩ := hcut
                        have hl391000_102 := (Kd.R_reads' HO_391000.out).1
                        rw [hl391000_102] at HO_391000
                        (try simp only [hl391000_102])
                        (try simp only [hl391000_102] at BK368)
                        (try simp only [hl391000_102] at BK379)
                        (try simp only [hl391000_102] at BK384)
                        (try simp only [hl391000_102] at BK390)
                        (try simp only [hl391000_102] at BK412)
                        (try simp only [hl391000_102] at HO_380000)
                        (try simp only [hl391000_102] at HO_385000)
                        (try simp only [hl391000_102] at HO_413000)
                        cases kq with
                        | zero => exact absurd HA.out (by simp [laws_FnExactTrimCode.j2])
                        | succ kj102 =>
                          have H := HA.out
                          clear HA
                          simp only [laws_FnExactTrimCode.j2] at H
                          by_cases c146 : x87_102 = true
                          · subst c146
                            have H1 : (some false) = some r := by rw [if_pos rfl] at H; exact H
                            clear H
                            have H := H1
                            clear H1
                            obtain rfl := Option.some.inj H
                            go_wp2
                            go_ret
                            exact ⟨by first | rfl | (simp [errW_none, errW_some] <;> rfl) | (simp [*, errW_none, errW_some] <;> rfl), by repeat (first | (with_reducible first | exact HB.out | apply below_alloc | apply pw_below_drewN | apply below_drew1 | refine below_set ?_ GE368.out | refine below_set ?_ GE379.out | refine below_set ?_ GE384.out | refine below_set ?_ GE390.out | refine below_set ?_ GE412.out) | exact HB.out)⟩
                          · replace c146 := Bool.eq_false_iff.mpr c146
                            subst c146
                            have H1 : ((laws_heldCode.f kj102 t401 t388 1).bind fun t414 => (if t414 < 0 then (some false) else (if t414 = t400 then (some true) else (some false)))) = some r := by rw [if_neg (show ¬ (false = true) by decide)] at H; exact H
                            clear H
                            have H := H1
                            clear H1
                            replace H := Option.bind_eq_some_iff.mp H
                            obtain ⟨t414, A1470, H⟩ := H
                            replace H : (if t414 < 0 then (some false) else (if t414 = t400 then (some true) else (some false))) = some r := H
                            have A147 := Aside0.mk A1470
                            clear A1470
                            by_cases c148 : t414 < 0
                            · rw [if_pos c148] at H
                              have c148b0 : decide (t414 < 0) = true := decide_eq_true c148
                              clear c148
                              obtain rfl := Option.some.inj H
                              have hnb149 := NB390_368.out
                              have hnc149 := NB368_390.out
                              have hnb150 := NB390_379.out
                              have hnc150 := NB379_390.out
                              have hnb151 := NB390_384.out
                              have hnc151 := NB384_390.out
                              have hnb152 := NB390_412.out
                              have hnc152 := NB412_390.out
                              have hcz153_0 : wc.cell? ⟨gb390, 0, none⟩ = some (.slice Ao32 t401.length co32) := (blk_cell BK390.out 0).trans rfl
                              have hcz153_1 : wc.cell? ⟨gb390, 1, none⟩ = some (.int .i64 t388) := (blk_cell BK390.out 1).trans rfl
                              have hfz153_0 := blk_frozen BK390.out 0
                              have hfz153_1 := blk_frozen BK390.out 1
                              go_wp2_with (first | ((with_reducible refine gate_callee (f := 31) rfl ?_); refine goesL_ (some 90) rfl rfl Try.func31 (by kernel_rfl) rfl #[.agg #[.slice Ao32 t401.length co32, .int .i64 t388], .int .i64 1] rfl (by (try simp only [List.map_toArray, List.map_cons, List.map_nil]); first | done | rfl | (simp only [List.length_drop, List.length_take]; rfl)) ?_; (with_reducible refine (laws_heldCode.calls kj102 _ _ t401 t388 1 t414 _ ?side1 ?side2 A147.out).mono ?_); (case side1 => repeat (first | exact (Kd.R_reads' HO_391000.out).2.2 | (with_reducible refine Kd.C_alloc ?_ _) | (with_reducible refine Kd.C_drewN ?_ _) | (with_reducible refine Kd.C_drew ?_))); (case side2 => exact (Kd.R_reads' HO_391000.out).2.1); rintro e w154 ⟨rfl, hb⟩; refine ⟨_, rfl, ?_⟩; have n0_ := Aside0.mk (Kd.R_below (by (with_reducible repeat (first | apply Kd.R_alloc | apply Kd.R_drewN | apply Kd.R_drew)); exact HO_380000.out) hb); have n1_ := Aside0.mk (Kd.R_below (by (with_reducible repeat (first | apply Kd.R_alloc | apply Kd.R_drewN | apply Kd.R_drew)); exact HO_385000.out) hb); have n2_ := Aside0.mk (Kd.R_below (by (with_reducible repeat (first | apply Kd.R_alloc | apply Kd.R_drewN | apply Kd.R_drew)); exact HO_391000.out) hb); have n3_ := Aside0.mk (Kd.R_below (by (with_reducible repeat (first | apply Kd.R_alloc | apply Kd.R_drewN | apply Kd.R_drew)); exact HO_413000.out) hb); have n4_ := Aside0.mk (blk_below (g := gb368) (o := .cells #[.slice A0_0 l0_0.length c0_0, .int .i64 a0_1] 47 (0, 0)) (by (with_reducible repeat (first | refine blk_drewN ?_ _ | refine blk_drew ?_ | refine blk_alloc ?_ _)); exact BK368.out) hb); have n5_ := Aside0.mk (blk_below (g := gb379) (o := .cells #[.slice Ao20 t374.length co20, .int .i64 t377] 32 (0, 0)) (by (with_reducible repeat (first | refine blk_drewN ?_ _ | refine blk_drew ?_ | refine blk_alloc ?_ _)); exact BK379.out) hb); have n6_ := Aside0.mk (blk_below (g := gb384) (o := .cells #[.slice Ao26 t398.length co26, .int .i64 t383] 32 (0, 0)) (by (with_reducible repeat (first | refine blk_drewN ?_ _ | refine blk_drew ?_ | refine blk_alloc ?_ _)); exact BK384.out) hb); have n7_ := Aside0.mk (blk_below (g := gb390) (o := .cells #[.slice Ao32 t401.length co32, .int .i64 t388] 32 (0, 0)) (by (with_reducible repeat (first | refine blk_drewN ?_ _ | refine blk_drew ?_ | refine blk_alloc ?_ _)); exact BK390.out) hb); have n8_ := Aside0.mk (blk_below (g := gb412) (o := .cells #[.slice Ao118 t407.length co118, .int .i64 t410] 32 (0, 0)) (by (with_reducible repeat (first | refine blk_drewN ?_ _ | refine blk_drew ?_ | refine blk_alloc ?_ _)); exact BK412.out) hb); have n9_ := Aside0.mk (below_step (by repeat (first | (with_reducible first | exact HB.out | apply below_alloc | apply pw_below_drewN | apply below_drew1 | refine below_set ?_ GE368.out | refine below_set ?_ GE379.out | refine below_set ?_ GE384.out | refine below_set ?_ GE390.out | refine below_set ?_ GE412.out) | exact HB.out)) hb); clear HO_380000; clear HO_385000; clear HO_391000; clear HO_413000; clear BK368; clear BK379; clear BK384; clear BK390; clear BK412; clear HB; have HO_380000 := n0_; have HO_385000 := n1_; have HO_391000 := n2_; have HO_413000 := n3_; have BK368 := n4_; have BK379 := n5_; have BK384 := n6_; have BK390 := n7_; have BK412 := n8_; have HB := n9_; clear n0_ n1_ n2_ n3_ n4_ n5_ n6_ n7_ n8_ n9_; (try clear hb); (try clear hb2); (try clear hk); (try clear hi)))
                              go_ret
                              exact ⟨by first | rfl | (simp [errW_none, errW_some] <;> rfl) | (simp [*, errW_none, errW_some] <;> rfl), by repeat (first | (with_reducible first | exact HB.out | apply below_alloc | apply pw_below_drewN | apply below_drew1 | refine below_set ?_ GE368.out | refine below_set ?_ GE379.out | refine below_set ?_ GE384.out | refine below_set ?_ GE390.out | refine below_set ?_ GE412.out) | exact HB.out)⟩
                            · rw [if_neg c148] at H
                              have c148b0 : decide (t414 < 0) = false := decide_eq_false c148
                              clear c148
                              by_cases c155 : t414 = t400
                              · rw [if_pos c155] at H
                                have c155b0 : (t414 == t400) = true := beq_iff_eq.mpr c155
                                have c155b1 : (t414 != t400) = false := bne_eq_false_iff_eq.mpr c155
                                clear c155
                                obtain rfl := Option.some.inj H
                                have hnb156 := NB390_368.out
                                have hnc156 := NB368_390.out
                                have hnb157 := NB390_379.out
                                have hnc157 := NB379_390.out
                                have hnb158 := NB390_384.out
                                have hnc158 := NB384_390.out
                                have hnb159 := NB390_412.out
                                have hnc159 := NB412_390.out
                                have hcz160_0 : wc.cell? ⟨gb390, 0, none⟩ = some (.slice Ao32 t401.length co32) := (blk_cell BK390.out 0).trans rfl
                                have hcz160_1 : wc.cell? ⟨gb390, 1, none⟩ = some (.int .i64 t388) := (blk_cell BK390.out 1).trans rfl
                                have hfz160_0 := blk_frozen BK390.out 0
                                have hfz160_1 := blk_frozen BK390.out 1
                                go_wp2_with (first | ((with_reducible refine gate_callee (f := 31) rfl ?_); refine goesL_ (some 90) rfl rfl Try.func31 (by kernel_rfl) rfl #[.agg #[.slice Ao32 t401.length co32, .int .i64 t388], .int .i64 1] rfl (by (try simp only [List.map_toArray, List.map_cons, List.map_nil]); first | done | rfl | (simp only [List.length_drop, List.length_take]; rfl)) ?_; (with_reducible refine (laws_heldCode.calls kj102 _ _ t401 t388 1 t414 _ ?side1 ?side2 A147.out).mono ?_); (case side1 => repeat (first | exact (Kd.R_reads' HO_391000.out).2.2 | (with_reducible refine Kd.C_alloc ?_ _) | (with_reducible refine Kd.C_drewN ?_ _) | (with_reducible refine Kd.C_drew ?_))); (case side2 => exact (Kd.R_reads' HO_391000.out).2.1); rintro e w161 ⟨rfl, hb⟩; refine ⟨_, rfl, ?_⟩; have n0_ := Aside0.mk (Kd.R_below (by (with_reducible repeat (first | apply Kd.R_alloc | apply Kd.R_drewN | apply Kd.R_drew)); exact HO_380000.out) hb); have n1_ := Aside0.mk (Kd.R_below (by (with_reducible repeat (first | apply Kd.R_alloc | apply Kd.R_drewN | apply Kd.R_drew)); exact HO_385000.out) hb); have n2_ := Aside0.mk (Kd.R_below (by (with_reducible repeat (first | apply Kd.R_alloc | apply Kd.R_drewN | apply Kd.R_drew)); exact HO_391000.out) hb); have n3_ := Aside0.mk (Kd.R_below (by (with_reducible repeat (first | apply Kd.R_alloc | apply Kd.R_drewN | apply Kd.R_drew)); exact HO_413000.out) hb); have n4_ := Aside0.mk (blk_below (g := gb368) (o := .cells #[.slice A0_0 l0_0.length c0_0, .int .i64 a0_1] 47 (0, 0)) (by (with_reducible repeat (first | refine blk_drewN ?_ _ | refine blk_drew ?_ | refine blk_alloc ?_ _)); exact BK368.out) hb); have n5_ := Aside0.mk (blk_below (g := gb379) (o := .cells #[.slice Ao20 t374.length co20, .int .i64 t377] 32 (0, 0)) (by (with_reducible repeat (first | refine blk_drewN ?_ _ | refine blk_drew ?_ | refine blk_alloc ?_ _)); exact BK379.out) hb); have n6_ := Aside0.mk (blk_below (g := gb384) (o := .cells #[.slice Ao26 t398.length co26, .int .i64 t383] 32 (0, 0)) (by (with_reducible repeat (first | refine blk_drewN ?_ _ | refine blk_drew ?_ | refine blk_alloc ?_ _)); exact BK384.out) hb); have n7_ := Aside0.mk (blk_below (g := gb390) (o := .cells #[.slice Ao32 t401.length co32, .int .i64 t388] 32 (0, 0)) (by (with_reducible repeat (first | refine blk_drewN ?_ _ | refine blk_drew ?_ | refine blk_alloc ?_ _)); exact BK390.out) hb); have n8_ := Aside0.mk (blk_below (g := gb412) (o := .cells #[.slice Ao118 t407.length co118, .int .i64 t410] 32 (0, 0)) (by (with_reducible repeat (first | refine blk_drewN ?_ _ | refine blk_drew ?_ | refine blk_alloc ?_ _)); exact BK412.out) hb); have n9_ := Aside0.mk (below_step (by repeat (first | (with_reducible first | exact HB.out | apply below_alloc | apply pw_below_drewN | apply below_drew1 | refine below_set ?_ GE368.out | refine below_set ?_ GE379.out | refine below_set ?_ GE384.out | refine below_set ?_ GE390.out | refine below_set ?_ GE412.out) | exact HB.out)) hb); clear HO_380000; clear HO_385000; clear HO_391000; clear HO_413000; clear BK368; clear BK379; clear BK384; clear BK390; clear BK412; clear HB; have HO_380000 := n0_; have HO_385000 := n1_; have HO_391000 := n2_; have HO_413000 := n3_; have BK368 := n4_; have BK379 := n5_; have BK384 := n6_; have BK390 := n7_; have BK412 := n8_; have HB := n9_; clear n0_ n1_ n2_ n3_ n4_ n5_ n6_ n7_ n8_ n9_; (try clear hb); (try clear hb2); (try clear hk); (try clear hi)))
                                go_ret
                                exact ⟨by first | rfl | (simp [errW_none, errW_some] <;> rfl) | (simp [*, errW_none, errW_some] <;> rfl), by repeat (first | (with_reducible first | exact HB.out | apply below_alloc | apply pw_below_drewN | apply below_drew1 | refine below_set ?_ GE368.out | refine below_set ?_ GE379.out | refine below_set ?_ GE384.out | refine below_set ?_ GE390.out | refine below_set ?_ GE412.out) | exact HB.out)⟩
                              · rw [if_neg c155] at H
                                have c155b0 : (t414 == t400) = false := beq_eq_false_iff_ne.mpr c155
                                have c155b1 : (t414 != t400) = true := bne_iff_ne.mpr c155
                                obtain rfl := Option.some.inj H
                                have hnb162 := NB390_368.out
                                have hnc162 := NB368_390.out
                                have hnb163 := NB390_379.out
                                have hnc163 := NB379_390.out
                                have hnb164 := NB390_384.out
                                have hnc164 := NB384_390.out
                                have hnb165 := NB390_412.out
                                have hnc165 := NB412_390.out
                                have hcz166_0 : wc.cell? ⟨gb390, 0, none⟩ = some (.slice Ao32 t401.length co32) := (blk_cell BK390.out 0).trans rfl
                                have hcz166_1 : wc.cell? ⟨gb390, 1, none⟩ = some (.int .i64 t388) := (blk_cell BK390.out 1).trans rfl
                                have hfz166_0 := blk_frozen BK390.out 0
                                have hfz166_1 := blk_frozen BK390.out 1
                                go_wp2_with (first | ((with_reducible refine gate_callee (f := 31) rfl ?_); refine goesL_ (some 90) rfl rfl Try.func31 (by kernel_rfl) rfl #[.agg #[.slice Ao32 t401.length co32, .int .i64 t388], .int .i64 1] rfl (by (try simp only [List.map_toArray, List.map_cons, List.map_nil]); first | done | rfl | (simp only [List.length_drop, List.length_take]; rfl)) ?_; (with_reducible refine (laws_heldCode.calls kj102 _ _ t401 t388 1 t414 _ ?side1 ?side2 A147.out).mono ?_); (case side1 => repeat (first | exact (Kd.R_reads' HO_391000.out).2.2 | (with_reducible refine Kd.C_alloc ?_ _) | (with_reducible refine Kd.C_drewN ?_ _) | (with_reducible refine Kd.C_drew ?_))); (case side2 => exact (Kd.R_reads' HO_391000.out).2.1); rintro e w167 ⟨rfl, hb⟩; refine ⟨_, rfl, ?_⟩; have n0_ := Aside0.mk (Kd.R_below (by (with_reducible repeat (first | apply Kd.R_alloc | apply Kd.R_drewN | apply Kd.R_drew)); exact HO_380000.out) hb); have n1_ := Aside0.mk (Kd.R_below (by (with_reducible repeat (first | apply Kd.R_alloc | apply Kd.R_drewN | apply Kd.R_drew)); exact HO_385000.out) hb); have n2_ := Aside0.mk (Kd.R_below (by (with_reducible repeat (first | apply Kd.R_alloc | apply Kd.R_drewN | apply Kd.R_drew)); exact HO_391000.out) hb); have n3_ := Aside0.mk (Kd.R_below (by (with_reducible repeat (first | apply Kd.R_alloc | apply Kd.R_drewN | apply Kd.R_drew)); exact HO_413000.out) hb); have n4_ := Aside0.mk (blk_below (g := gb368) (o := .cells #[.slice A0_0 l0_0.length c0_0, .int .i64 a0_1] 47 (0, 0)) (by (with_reducible repeat (first | refine blk_drewN ?_ _ | refine blk_drew ?_ | refine blk_alloc ?_ _)); exact BK368.out) hb); have n5_ := Aside0.mk (blk_below (g := gb379) (o := .cells #[.slice Ao20 t374.length co20, .int .i64 t377] 32 (0, 0)) (by (with_reducible repeat (first | refine blk_drewN ?_ _ | refine blk_drew ?_ | refine blk_alloc ?_ _)); exact BK379.out) hb); have n6_ := Aside0.mk (blk_below (g := gb384) (o := .cells #[.slice Ao26 t398.length co26, .int .i64 t383] 32 (0, 0)) (by (with_reducible repeat (first | refine blk_drewN ?_ _ | refine blk_drew ?_ | refine blk_alloc ?_ _)); exact BK384.out) hb); have n7_ := Aside0.mk (blk_below (g := gb390) (o := .cells #[.slice Ao32 t401.length co32, .int .i64 t388] 32 (0, 0)) (by (with_reducible repeat (first | refine blk_drewN ?_ _ | refine blk_drew ?_ | refine blk_alloc ?_ _)); exact BK390.out) hb); have n8_ := Aside0.mk (blk_below (g := gb412) (o := .cells #[.slice Ao118 t407.length co118, .int .i64 t410] 32 (0, 0)) (by (with_reducible repeat (first | refine blk_drewN ?_ _ | refine blk_drew ?_ | refine blk_alloc ?_ _)); exact BK412.out) hb); have n9_ := Aside0.mk (below_step (by repeat (first | (with_reducible first | exact HB.out | apply below_alloc | apply pw_below_drewN | apply below_drew1 | refine below_set ?_ GE368.out | refine below_set ?_ GE379.out | refine below_set ?_ GE384.out | refine below_set ?_ GE390.out | refine below_set ?_ GE412.out) | exact HB.out)) hb); clear HO_380000; clear HO_385000; clear HO_391000; clear HO_413000; clear BK368; clear BK379; clear BK384; clear BK390; clear BK412; clear HB; have HO_380000 := n0_; have HO_385000 := n1_; have HO_391000 := n2_; have HO_413000 := n3_; have BK368 := n4_; have BK379 := n5_; have BK384 := n6_; have BK390 := n7_; have BK412 := n8_; have HB := n9_; clear n0_ n1_ n2_ n3_ n4_ n5_ n6_ n7_ n8_ n9_; (try clear hb); (try clear hb2); (try clear hk); (try clear hi)))
                                go_ret
                                exact ⟨by first | rfl | (simp [errW_none, errW_some] <;> rfl) | (simp [*, errW_none, errW_some] <;> rfl), by repeat (first | (with_reducible first | exact HB.out | apply below_alloc | apply pw_below_drewN | apply below_drew1 | refine below_set ?_ GE368.out | refine below_set ?_ GE379.out | refine below_set ?_ GE384.out | refine below_set ?_ GE390.out | refine below_set ?_ GE412.out) | exact HB.out)⟩
                    · rw [if_neg c100] at H
                      have c100b0 : (t402 == t400) = false := beq_eq_false_iff_ne.mpr c100
                      have c100b1 : (t402 != t400) = true := bne_iff_ne.mpr c100
                      obtain rfl := Option.some.inj H
                      have hnb168 := NB390_368.out
                      have hnc168 := NB368_390.out
                      have hnb169 := NB390_379.out
                      have hnc169 := NB379_390.out
                      have hnb170 := NB390_384.out
                      have hnc170 := NB384_390.out
                      have hcz171_0 : wc.cell? ⟨gb390, 0, none⟩ = some (.slice Ao32 t385.length co32) := (blk_cell BK390.out 0).trans rfl
                      have hcz171_1 : wc.cell? ⟨gb390, 1, none⟩ = some (.int .i64 t388) := (blk_cell BK390.out 1).trans rfl
                      have hfz171_0 := blk_frozen BK390.out 0
                      have hfz171_1 := blk_frozen BK390.out 1
                      go_wp2_with (first | ((with_reducible refine gate_callee (f := 30) rfl ?_); refine goesL_ (some 64) rfl rfl Try.func30 (by kernel_rfl) rfl #[.agg #[.slice Ao32 t385.length co32, .int .i64 t388], .int .i64 1] rfl (by (try simp only [List.map_toArray, List.map_cons, List.map_nil]); first | done | rfl | (simp only [List.length_drop, List.length_take]; rfl)) ?_; (with_reducible refine (laws_markCode.calls kj59 (fun k_ => some k_ = (.slice Ao32 t385.length co32 : Value).ownBlock) (.slice Ao32 t385.length co32) t385 t388 1 t400 t401 w _ ?side1 ?side2 A90.out).mono ?_); (case side1 => repeat (first | (with_reducible first | exact HB.out | apply below_alloc | apply pw_below_drewN | apply below_drew1 | refine below_set ?_ GE368.out | refine below_set ?_ GE379.out | refine below_set ?_ GE384.out | refine below_set ?_ GE390.out) | exact HB.out)); (case side2 => exact Kd.R_tight rfl HO_391000.out); rintro e w172 ⟨rfl, hy0, hb, hkp⟩; refine ⟨_, rfl, ?_⟩; have n0_ := Aside0.mk (Kd.R_mono (ok' := fun k_ => some k_ ≠ (.slice Ao26 t398.length co26 : Value).ownBlock ∧ some k_ ≠ (.slice Ao32 t385.length co32 : Value).ownBlock) (Kd.R_keptB (HO_380000.out) hkp (fun k_ hk_ hs_ => (hk_.2) hs_)) (fun k_ hk_ => ⟨hk_.1.1, hk_.1.2⟩)); have n1_ := Aside0.mk (Kd.R_mono (ok' := fun k_ => some k_ ≠ (.slice Ao20 t374.length co20 : Value).ownBlock ∧ some k_ ≠ (.slice Ao32 t385.length co32 : Value).ownBlock) (Kd.R_keptB (HO_385000.out) hkp (fun k_ hk_ hs_ => (hk_.2) hs_)) (fun k_ hk_ => ⟨hk_.1.1, hk_.1.2⟩)); have n2_ := Aside0.mk (Kd.R_reok rfl hy0 (fun k_ e_ => HO_391000.out.1 k_ e_)); have n3_ := Aside0.mk (blk_kept (by (with_reducible repeat (first | refine blk_drewN ?_ _ | refine blk_drew ?_ | refine blk_alloc ?_ _)); exact BK368.out) hkp (fun hs_ => (fun e_ => (Kd.R_ne HO_391000.out BK368.out (by decide)) e_) hs_)); have n4_ := Aside0.mk (blk_kept (by (with_reducible repeat (first | refine blk_drewN ?_ _ | refine blk_drew ?_ | refine blk_alloc ?_ _)); exact BK379.out) hkp (fun hs_ => (fun e_ => (Kd.R_ne HO_391000.out BK379.out (by decide)) e_) hs_)); have n5_ := Aside0.mk (blk_kept (by (with_reducible repeat (first | refine blk_drewN ?_ _ | refine blk_drew ?_ | refine blk_alloc ?_ _)); exact BK384.out) hkp (fun hs_ => (fun e_ => (Kd.R_ne HO_391000.out BK384.out (by decide)) e_) hs_)); have n6_ := Aside0.mk (blk_kept (by (with_reducible repeat (first | refine blk_drewN ?_ _ | refine blk_drew ?_ | refine blk_alloc ?_ _)); exact BK390.out) hkp (fun hs_ => (fun e_ => (Kd.R_ne HO_391000.out BK390.out (by decide)) e_) hs_)); have n7_ := Aside0.mk (hb); clear HO_380000; clear HO_385000; clear HO_391000; clear BK368; clear BK379; clear BK384; clear BK390; clear HB; have HO_380000 := n0_; have HO_385000 := n1_; have HO_391000 := n2_; have BK368 := n3_; have BK379 := n4_; have BK384 := n5_; have BK390 := n6_; have HB := n7_; clear n0_ n1_ n2_ n3_ n4_ n5_ n6_ n7_; (try clear hb); (try clear hkp); (try clear hy0); have hcz173_0 : w172.cell? ⟨gb390, 0, none⟩ = some (.slice Ao32 t385.length co32) := (blk_cell BK390.out 0).trans rfl; have hcz173_1 : w172.cell? ⟨gb390, 1, none⟩ = some (.int .i64 t388) := (blk_cell BK390.out 1).trans rfl; have hfz173_0 := blk_frozen BK390.out 0; have hfz173_1 := blk_frozen BK390.out 1) | ((with_reducible refine gate_callee (f := 31) rfl ?_); refine goesL_ (some 67) rfl rfl Try.func31 (by kernel_rfl) rfl #[.agg #[.slice Ao32 t401.length co32, .int .i64 t388], .int .i64 1] rfl (by (try simp only [List.map_toArray, List.map_cons, List.map_nil]); first | done | (rw [show t401.length = t385.length from (Kd.R_reads' HO_391000.out).1.symm] <;> rfl) | rfl | (simp only [List.length_drop, List.length_take]; rfl)) ?_; (with_reducible refine (laws_heldCode.calls kj59 _ _ t401 t388 1 t402 _ ?side1 ?side2 A91.out).mono ?_); (case side1 => repeat (first | exact (Kd.R_reads' HO_391000.out).2.2 | (with_reducible refine Kd.C_alloc ?_ _) | (with_reducible refine Kd.C_drewN ?_ _) | (with_reducible refine Kd.C_drew ?_))); (case side2 => rw [show t401.length = t385.length from (Kd.R_reads' HO_391000.out).1.symm]; exact (Kd.R_reads' HO_391000.out).2.1); rintro e w174 ⟨rfl, hb⟩; refine ⟨_, rfl, ?_⟩; have n0_ := Aside0.mk (Kd.R_below (by (with_reducible repeat (first | apply Kd.R_alloc | apply Kd.R_drewN | apply Kd.R_drew)); exact HO_380000.out) hb); have n1_ := Aside0.mk (Kd.R_below (by (with_reducible repeat (first | apply Kd.R_alloc | apply Kd.R_drewN | apply Kd.R_drew)); exact HO_385000.out) hb); have n2_ := Aside0.mk (Kd.R_below (by (with_reducible repeat (first | apply Kd.R_alloc | apply Kd.R_drewN | apply Kd.R_drew)); exact HO_391000.out) hb); have n3_ := Aside0.mk (blk_below (g := gb368) (o := .cells #[.slice A0_0 l0_0.length c0_0, .int .i64 a0_1] 47 (0, 0)) (by (with_reducible repeat (first | refine blk_drewN ?_ _ | refine blk_drew ?_ | refine blk_alloc ?_ _)); exact BK368.out) hb); have n4_ := Aside0.mk (blk_below (g := gb379) (o := .cells #[.slice Ao20 t374.length co20, .int .i64 t377] 32 (0, 0)) (by (with_reducible repeat (first | refine blk_drewN ?_ _ | refine blk_drew ?_ | refine blk_alloc ?_ _)); exact BK379.out) hb); have n5_ := Aside0.mk (blk_below (g := gb384) (o := .cells #[.slice Ao26 t398.length co26, .int .i64 t383] 32 (0, 0)) (by (with_reducible repeat (first | refine blk_drewN ?_ _ | refine blk_drew ?_ | refine blk_alloc ?_ _)); exact BK384.out) hb); have n6_ := Aside0.mk (blk_below (g := gb390) (o := .cells #[.slice Ao32 t385.length co32, .int .i64 t388] 32 (0, 0)) (by (with_reducible repeat (first | refine blk_drewN ?_ _ | refine blk_drew ?_ | refine blk_alloc ?_ _)); exact BK390.out) hb); have n7_ := Aside0.mk (below_step (by repeat (first | (with_reducible first | exact HB.out | apply below_alloc | apply pw_below_drewN | apply below_drew1 | refine below_set ?_ GE368.out | refine below_set ?_ GE379.out | refine below_set ?_ GE384.out | refine below_set ?_ GE390.out) | exact HB.out)) hb); clear HO_380000; clear HO_385000; clear HO_391000; clear BK368; clear BK379; clear BK384; clear BK390; clear HB; have HO_380000 := n0_; have HO_385000 := n1_; have HO_391000 := n2_; have BK368 := n3_; have BK379 := n4_; have BK384 := n5_; have BK390 := n6_; have HB := n7_; clear n0_ n1_ n2_ n3_ n4_ n5_ n6_ n7_; (try clear hb); (try clear hb2); (try clear hk); (try clear hi)))
                      go_ret
                      exact ⟨by first | rfl | (simp [errW_none, errW_some] <;> rfl) | (simp [*, errW_none, errW_some] <;> rfl), by repeat (first | (with_reducible first | exact HB.out | apply below_alloc | apply pw_below_drewN | apply below_drew1 | refine below_set ?_ GE368.out | refine below_set ?_ GE379.out | refine below_set ?_ GE384.out | refine below_set ?_ GE390.out) | exact HB.out)⟩
          · replace c58 := Bool.eq_false_iff.mpr c58
            subst c58
            have H1 : (some false) = some r := by rw [if_neg (show ¬ (false = true) by decide)] at H; exact H
            clear H
            have H := H1
            clear H1
            obtain rfl := Option.some.inj H
            try go_wp2
            have n0_ := Aside0.mk (Kd.R_drew HO_380000.out)
            have n1_ := Aside0.mk (Kd.R_drew HO_385000.out)
            have n2_ := Aside0.mk (Kd.R_drew HO_391000.out)
            have n3_ := Aside0.mk (blk_drew BK368.out)
            have n4_ := Aside0.mk (blk_drew BK379.out)
            have n5_ := Aside0.mk (blk_drew BK384.out)
            have n6_ := Aside0.mk (blk_drew BK390.out)
            have n7_ := Aside0.mk (below_drew1 HB.out)
            clear HO_380000
            clear HO_385000
            clear HO_391000
            clear BK368
            clear BK379
            clear BK384
            clear BK390
            clear HB
            have HO_380000 := n0_
            have HO_385000 := n1_
            have HO_391000 := n2_
            have BK368 := n3_
            have BK379 := n4_
            have BK384 := n5_
            have BK390 := n6_
            have HB := n7_
            clear n0_ n1_ n2_ n3_ n4_ n5_ n6_ n7_
            refine start_ (n := 5) (S := fun w' => w'.cell? ⟨gb384, 0, none⟩ = some (.slice Ao26 t380.length co26) ∧ w'.cell? ⟨gb384, 1, none⟩ = some (.int .i64 t383) ∧ w'.cell? ⟨gb368, 0, none⟩ = some (.slice A0_0 l0_0.length c0_0) ∧ w'.cell? ⟨gb368, 1, none⟩ = some (.int .i64 a0_1)) (ds := []) #[false, false, false, false, false] (by kernel_rfl) rfl rfl ⟨(blk_cell BK384.out 0).trans rfl, (blk_cell BK384.out 1).trans rfl, (blk_cell BK368.out 0).trans rfl, (blk_cell BK368.out 1).trans rfl⟩ (fun hHeld => ?_)
            generalize wc.drew = w175 at HO_380000 HO_385000 HO_391000 BK368 BK379 BK384 BK390 HB hHeld ⊢
            refine take_ (i := 0) (N := some 41) (v := ?_) (a' := ?_) #[true, false, false, false, false] rfl rfl (by kernel_rfl) (fun _ _ _ h => h) (Or.inl ⟨by rfl, ?_⟩) hHeld ?_ ?_
            rotate_left
            · rintro w' ⟨s0, s1, s2, s3⟩
              go_simp
              with_reducible rfl
            rotate_left
            · simp only [Act.put, List.setIfInBounds_toArray, List.set_cons_zero, List.set_cons_succ, i64_w, i32_w]
              rfl
            refine take_ (i := 1) (N := some 42) (v := ?_) (a' := ?_) #[true, true, false, false, false] rfl rfl (by kernel_rfl) (fun _ _ _ h => h) (Or.inl ⟨by rfl, ?_⟩) hHeld ?_ ?_
            rotate_left
            · rintro w' ⟨s0, s1, s2, s3⟩
              go_simp
              with_reducible rfl
            rotate_left
            · simp only [Act.put, List.setIfInBounds_toArray, List.set_cons_zero, List.set_cons_succ, i64_w, i32_w]
              rfl
            refine one_ (i := 2) (N := some 43) #[true, true, true, false, false] rfl rfl (by kernel_rfl) (by decide) (fun K hK => ?_)
            refine goes_ Try.func34 (by kernel_rfl) rfl #[.agg #[.slice A0_0 l0_0.length c0_0, .int .i64 a0_1]] (by rfl) rfl rfl (by (try simp only [List.map_toArray, List.map_cons, List.map_nil]); first | done | rfl | (simp only [List.length_drop, List.length_take]; rfl)) ?_
            with_reducible refine (laws_toCode.calls kj10 _ _ l0_0 a0_1 t392 t395 _ ?side1 ?side2 A56.out).mono ?_
            (case side1 => repeat (first | exact (Kd.C_below HR0_0.out HB.out) | (with_reducible refine Kd.C_alloc ?_ _) | (with_reducible refine Kd.C_drewN ?_ _) | (with_reducible refine Kd.C_drew ?_)))
            (case side2 => exact HC0_0.out)
            rintro e w176 ⟨v393, rfl, ho0, hb⟩
            refine ⟨_, rfl, ?_⟩
            have n0_ := Aside0.mk (Kd.R_elder' (by (with_reducible repeat (first | apply Kd.R_alloc | apply Kd.R_drewN | apply Kd.R_drew)); exact HO_380000.out) (Kd.R_base ho0) hb)
            have n1_ := Aside0.mk (Kd.R_elder' (by (with_reducible repeat (first | apply Kd.R_alloc | apply Kd.R_drewN | apply Kd.R_drew)); exact HO_385000.out) (Kd.R_base ho0) hb)
            have n2_ := Aside0.mk (Kd.R_elder' (by (with_reducible repeat (first | apply Kd.R_alloc | apply Kd.R_drewN | apply Kd.R_drew)); exact HO_391000.out) (Kd.R_base ho0) hb)
            have n3_ := Aside0.mk (Kd.R_lower (Kd.R_new' (Kd.R_new' (Kd.R_new' ho0 (Kd.R_lt (by (with_reducible repeat (first | apply Kd.R_alloc | apply Kd.R_drewN | apply Kd.R_drew)); exact HO_380000.out))) (Kd.R_lt (by (with_reducible repeat (first | apply Kd.R_alloc | apply Kd.R_drewN | apply Kd.R_drew)); exact HO_385000.out))) (Kd.R_lt (by (with_reducible repeat (first | apply Kd.R_alloc | apply Kd.R_drewN | apply Kd.R_drew)); exact HO_391000.out))) (below_size (by repeat (first | (with_reducible first | exact HB.out | apply below_alloc | apply pw_below_drewN | apply below_drew1 | refine below_set ?_ GE368.out | refine below_set ?_ GE379.out | refine below_set ?_ GE384.out | refine below_set ?_ GE390.out) | exact HB.out))))
            have n4_ := Aside0.mk (blk_below (g := gb368) (o := .cells #[.slice A0_0 l0_0.length c0_0, .int .i64 a0_1] 47 (0, 0)) (by (with_reducible repeat (first | refine blk_drewN ?_ _ | refine blk_drew ?_ | refine blk_alloc ?_ _)); exact BK368.out) hb)
            have n5_ := Aside0.mk (blk_below (g := gb379) (o := .cells #[.slice Ao20 t374.length co20, .int .i64 t377] 32 (0, 0)) (by (with_reducible repeat (first | refine blk_drewN ?_ _ | refine blk_drew ?_ | refine blk_alloc ?_ _)); exact BK379.out) hb)
            have n6_ := Aside0.mk (blk_below (g := gb384) (o := .cells #[.slice Ao26 t380.length co26, .int .i64 t383] 32 (0, 0)) (by (with_reducible repeat (first | refine blk_drewN ?_ _ | refine blk_drew ?_ | refine blk_alloc ?_ _)); exact BK384.out) hb)
            have n7_ := Aside0.mk (blk_below (g := gb390) (o := .cells #[.slice Ao32 t385.length co32, .int .i64 t388] 32 (0, 0)) (by (with_reducible repeat (first | refine blk_drewN ?_ _ | refine blk_drew ?_ | refine blk_alloc ?_ _)); exact BK390.out) hb)
            have n8_ := Aside0.mk (below_step (by repeat (first | (with_reducible first | exact HB.out | apply below_alloc | apply pw_below_drewN | apply below_drew1 | refine below_set ?_ GE368.out | refine below_set ?_ GE379.out | refine below_set ?_ GE384.out | refine below_set ?_ GE390.out) | exact HB.out)) hb)
            clear HO_380000
            clear HO_385000
            clear HO_391000
            clear BK368
            clear BK379
            clear BK384
            clear BK390
            clear HB
            have HO_380000 := n0_
            have HO_385000 := n1_
            have HO_391000 := n2_
            have HO394 := n3_
            have BK368 := n4_
            have BK379 := n5_
            have BK384 := n6_
            have BK390 := n7_
            have HB := n8_
            clear n0_ n1_ n2_ n3_ n4_ n5_ n6_ n7_ n8_
            (try clear hb)
            (try clear hb2)
            (try clear hk)
            (try clear hi)
            (try clear ho0)
            obtain ⟨Ao177, co177, eo177⟩ := Kd.R_slice HO394.out
            (first | subst eo177 | (injection eo177 with f1_ f2_ f3_; have f4_ := f1_.symm; have f5_ := f3_.symm; clear f1_ f2_ f3_; subst f4_; subst f5_))
            refine hK.out _ _ ⟨(blk_cell BK384.out 0).trans rfl, (blk_cell BK384.out 1).trans rfl, (blk_cell BK368.out 0).trans rfl, (blk_cell BK368.out 1).trans rfl⟩ (fun hHeld => ?_)
            clear hK K
            refine norm_ (a' := ?_) ?_ ?_
            rotate_left
            · show Act.put _ (some 43) _ = _
              simp only [Act.put, List.setIfInBounds_toArray, List.set_cons_zero, List.set_cons_succ, i64_w, i32_w]
              rfl
            refine one_ (i := 3) (N := some 44) #[true, true, true, true, false] rfl rfl (by kernel_rfl) (by decide) (fun K hK => ?_)
            refine goes_ Try.func27 (by kernel_rfl) rfl #[.agg #[.slice Ao26 t380.length co26, .int .i64 t383], .agg #[.slice Ao177 t392.length co177, .int .i64 t395]] (by rfl) rfl rfl (by (try simp only [List.map_toArray, List.map_cons, List.map_nil]); first | done | rfl | (simp only [List.length_drop, List.length_take]; rfl)) ?_
            with_reducible refine (laws_eqCode.calls kj10 _ _ t380 t383 _ _ t392 t395 false _ ?side1 ?side2 ?side3 ?side4 A57.out).mono ?_
            (case side1 => repeat (first | exact (Kd.R_reads' HO_385000.out).2.2 | (with_reducible refine Kd.C_alloc ?_ _) | (with_reducible refine Kd.C_drewN ?_ _) | (with_reducible refine Kd.C_drew ?_)))
            (case side2 => exact (Kd.R_reads' HO_385000.out).2.1)
            (case side3 => repeat (first | exact (Kd.R_reads' HO394.out).2.2 | (with_reducible refine Kd.C_alloc ?_ _) | (with_reducible refine Kd.C_drewN ?_ _) | (with_reducible refine Kd.C_drew ?_)))
            (case side4 => exact (Kd.R_reads' HO394.out).2.1)
            rintro e w178 ⟨rfl, hb⟩
            refine ⟨_, rfl, ?_⟩
            have n0_ := Aside0.mk (Kd.R_below (by (with_reducible repeat (first | apply Kd.R_alloc | apply Kd.R_drewN | apply Kd.R_drew)); exact HO_380000.out) hb)
            have n1_ := Aside0.mk (Kd.R_below (by (with_reducible repeat (first | apply Kd.R_alloc | apply Kd.R_drewN | apply Kd.R_drew)); exact HO_385000.out) hb)
            have n2_ := Aside0.mk (Kd.R_below (by (with_reducible repeat (first | apply Kd.R_alloc | apply Kd.R_drewN | apply Kd.R_drew)); exact HO_391000.out) hb)
            have n3_ := Aside0.mk (Kd.R_below (by (with_reducible repeat (first | apply Kd.R_alloc | apply Kd.R_drewN | apply Kd.R_drew)); exact HO394.out) hb)
            have n4_ := Aside0.mk (blk_below (g := gb368) (o := .cells #[.slice A0_0 l0_0.length c0_0, .int .i64 a0_1] 47 (0, 0)) (by (with_reducible repeat (first | refine blk_drewN ?_ _ | refine blk_drew ?_ | refine blk_alloc ?_ _)); exact BK368.out) hb)
            have n5_ := Aside0.mk (blk_below (g := gb379) (o := .cells #[.slice Ao20 t374.length co20, .int .i64 t377] 32 (0, 0)) (by (with_reducible repeat (first | refine blk_drewN ?_ _ | refine blk_drew ?_ | refine blk_alloc ?_ _)); exact BK379.out) hb)
            have n6_ := Aside0.mk (blk_below (g := gb384) (o := .cells #[.slice Ao26 t380.length co26, .int .i64 t383] 32 (0, 0)) (by (with_reducible repeat (first | refine blk_drewN ?_ _ | refine blk_drew ?_ | refine blk_alloc ?_ _)); exact BK384.out) hb)
            have n7_ := Aside0.mk (blk_below (g := gb390) (o := .cells #[.slice Ao32 t385.length co32, .int .i64 t388] 32 (0, 0)) (by (with_reducible repeat (first | refine blk_drewN ?_ _ | refine blk_drew ?_ | refine blk_alloc ?_ _)); exact BK390.out) hb)
            have n8_ := Aside0.mk (below_step (by repeat (first | (with_reducible first | exact HB.out | apply below_alloc | apply pw_below_drewN | apply below_drew1 | refine below_set ?_ GE368.out | refine below_set ?_ GE379.out | refine below_set ?_ GE384.out | refine below_set ?_ GE390.out) | exact HB.out)) hb)
            clear HO_380000
            clear HO_385000
            clear HO_391000
            clear HO394
            clear BK368
            clear BK379
            clear BK384
            clear BK390
            clear HB
            have HO_380000 := n0_
            have HO_385000 := n1_
            have HO_391000 := n2_
            have HO394 := n3_
            have BK368 := n4_
            have BK379 := n5_
            have BK384 := n6_
            have BK390 := n7_
            have HB := n8_
            clear n0_ n1_ n2_ n3_ n4_ n5_ n6_ n7_ n8_
            (try clear hb)
            (try clear hb2)
            (try clear hk)
            (try clear hi)
            refine hK.out _ _ ⟨(blk_cell BK384.out 0).trans rfl, (blk_cell BK384.out 1).trans rfl, (blk_cell BK368.out 0).trans rfl, (blk_cell BK368.out 1).trans rfl⟩ (fun hHeld => ?_)
            clear hK K
            refine norm_ (a' := ?_) ?_ ?_
            rotate_left
            · show Act.put _ (some 44) _ = _
              simp only [Act.put, List.setIfInBounds_toArray, List.set_cons_zero, List.set_cons_succ, i64_w, i32_w]
              rfl
            refine pure_ (i := 4) (N := some 45) (v := ?_) (a' := ?_) #[true, true, true, true, true] rfl rfl (by kernel_rfl) (fun _ _ _ h => h) (Or.inl ⟨by rfl, ?_⟩) ?_ ?_
            rotate_left
            · intro w'
              go_simp
              with_reducible rfl
            rotate_left
            · simp only [Act.put, List.setIfInBounds_toArray, List.set_cons_zero, List.set_cons_succ, i64_w, i32_w]
              rfl
            refine done_ (by kernel_rfl) ?_
            try go_wp2
            go_ret
            exact ⟨by first | rfl | (simp [errW_none, errW_some] <;> rfl) | (simp [*, errW_none, errW_some] <;> rfl), by repeat (first | (with_reducible first | exact HB.out | apply below_alloc | apply pw_below_drewN | apply below_drew1 | refine below_set ?_ GE368.out | refine below_set ?_ GE379.out | refine below_set ?_ GE384.out | refine below_set ?_ GE390.out) | exact HB.out)⟩

/-- THE ONE PURE STATEMENT of laws_FnExactTrimCode: yours. -/
def laws_FnExactTrimCode.Pure : Prop := ∀ (l0_0 : List (S166)) (a0_1 : Int), l0_0.length ≤ maxLen → l0_0.length * 24 ≤ 140737488351232 → (∀ x ∈ l0_0, (Lit.int .i64 x.f0).wf = true ∧ (Lit.int .i64 x.f1).wf = true ∧ (Lit.int .i64 x.f2).wf = true) → (Lit.int .i64 a0_1).wf = true → ∃ k, laws_FnExactTrimCode.f k l0_0 a0_1 = some true
theorem laws_FnExactTrimCode.walk (P : laws_FnExactTrimCode.Pure) (A0_0 : Option Addr) (c0_0 : Nat) (l0_0 : List (S166)) (a0_1 : Int) (w : World) (hr0_0 : Kd.C k166 w A0_0 l0_0.length l0_0) (hc0_0 : l0_0.length ≤ c0_0) (m0_0 : l0_0.length ≤ maxLen) (y0_0 : l0_0.length * 24 ≤ 140737488351232) (w0_0 : (∀ x ∈ l0_0, (Lit.int .i64 x.f0).wf = true ∧ (Lit.int .i64 x.f1).wf = true ∧ (Lit.int .i64 x.f2).wf = true)) (w0_1 : (Lit.int .i64 a0_1).wf = true) :
    Calls Try.prog 5 #[.agg #[.slice A0_0 l0_0.length c0_0, .int .i64 a0_1]] w fun e w' => e = .returned (.bool true) ∧ Below w.heap.size w w' := by
  obtain ⟨k, h⟩ := P l0_0 a0_1 m0_0 y0_0 w0_0 w0_1
  refine (laws_FnExactTrimCode.calls k _ _ l0_0 a0_1 true w hr0_0 hc0_0 h).mono ?_
  rintro e w' ⟨rfl, hd⟩
  exact ⟨rfl, hd⟩

end Go.Proofs.Ytlmoemahamneoaa.PFnExactTrimCode
