-- Written by gprint.py, a program of this session, out of the translation (a changed print).
import Derived.Test.YtlmoemahamneoaaPFnExactGiantCodex0
import Derived.Test.YtlmoemahamneoaaPFnExactGiantCodex3
import Derived.Test.YtlmoemahamneoaaPFnExactGiantCodex10
import Derived.Test.YtlmoemahamneoaaPFnExactGiantCodex11
namespace Go.Proofs.Ytlmoemahamneoaa.PFnExactGiantCode
open Go.RowKit Go.Proofs.YtlmoemahamneoaaW.PrintWords Go.Proofs.YtlmoemahamneoaaW.PrintLast Go.Proofs.YtlmoemahamneoaaW.PrintMore
attribute [local go_sem] max2_int min2_int max_two min_two max_three min_three max_four min_four   -- for this text's walks alone
set_option linter.unusedVariables false
set_option linter.unusedSimpArgs false

/-! ### laws_FnExactGiantCode: function 4 -/
mutual
def laws_FnExactGiantCode.j0 : Nat → List Int → Int → Bool → List Int → Bool → Bool → List (S109) → Int → List (S109) → Int → Option (Bool)
  | 0, _, _, _, _, _, _, _, _, _, _ => none
  | k + 1, x0, x1, x6, x7, x9, x41, x351000, x351001, x360000, x360001 => if x41 = true then (some false) else ((laws_toIntS.f k x0).bind fun t361 => ((laws_eqIntS.f k x7 t361).bind fun t364 => (if t364 = true then ((laws_markIntS.f k x7 1).bind fun bt365 => (if bt365.1 < 0 then (laws_FnExactGiantCode.j1 k x0 x1 x6 true x351000 x351001 x360000 x360001) else ((laws_eqCode.f k x360000 x360001 x351000 x351001).bind fun t367 => (if t367 = true then (laws_FnExactGiantCode.j1 k x0 x1 x6 (x9 != x6) x351000 x351001 x360000 x360001) else (laws_FnExactGiantCode.j1 k x0 x1 x6 true x351000 x351001 x360000 x360001))))) else (some false))))
def laws_FnExactGiantCode.j1 : Nat → List Int → Int → Bool → Bool → List (S109) → Int → List (S109) → Int → Option (Bool)
  | 0, _, _, _, _, _, _, _, _ => none
  | k + 1, x0, x1, x6, x62, x351000, x351001, x360000, x360001 => if x62 = true then (some false) else ((laws_markCode.f k x360000 x360001 1).bind fun bt368 => ((laws_heldCode.f k bt368.2 x360001 1).bind fun t370 => (if t370 < 0 then (some false) else (if t370 = bt368.1 then ((laws_toIntS.f k x0).bind fun t371 => ((impl_GiantCode.f k t371 x1).bind fun bt374 => ((laws_eqCode.f k bt374.1 bt374.2.1 x351000 x351001).bind fun t380 => (if t380 = true then (laws_FnExactGiantCode.j2 k bt368.1 (bt374.2.2 != x6) bt368.2 x360001) else (laws_FnExactGiantCode.j2 k bt368.1 true bt368.2 x360001))))) else (some false)))))
def laws_FnExactGiantCode.j2 : Nat → Int → Bool → List (S109) → Int → Option (Bool)
  | 0, _, _, _, _ => none
  | k + 1, x11, x89, x360000, x360001 => if x89 = true then (some false) else ((laws_heldCode.f k x360000 x360001 1).bind fun t381 => (if t381 < 0 then (some false) else (if t381 = x11 then (some true) else (some false))))
end
def laws_FnExactGiantCode.f (k : Nat) (l0 : List Int) (a1 : Int) : Option (Bool) := if (l0.length : Int) > 1048576 then (some true) else ((laws_toIntS.f k l0).bind fun t342 => ((spec_GiantCode.f k t342 a1).bind fun bt345 => ((laws_toIntS.f k l0).bind fun t351 => ((impl_GiantCode.f k t351 a1).bind fun bt354 => ((laws_eqCode.f k bt354.1 bt354.2.1 bt345.1 bt345.2.1).bind fun t360 => (if t360 = true then (laws_FnExactGiantCode.j0 k l0 a1 bt345.2.2 t351 bt354.2.2 (bt354.2.2 != bt345.2.2) bt345.1 bt345.2.1 bt354.1 bt354.2.1) else (laws_FnExactGiantCode.j0 k l0 a1 bt345.2.2 t351 bt354.2.2 true bt345.1 bt345.2.1 bt354.1 bt354.2.1)))))))
theorem laws_FnExactGiantCode.mono_l : ∀ k, (∀ y0 y1 y2 y3 y4 y5 y6 y7 y8 y9, LeO (laws_FnExactGiantCode.j0 k y0 y1 y2 y3 y4 y5 y6 y7 y8 y9) (laws_FnExactGiantCode.j0 (k + 1) y0 y1 y2 y3 y4 y5 y6 y7 y8 y9)) ∧ (∀ y0 y1 y2 y3 y4 y5 y6 y7, LeO (laws_FnExactGiantCode.j1 k y0 y1 y2 y3 y4 y5 y6 y7) (laws_FnExactGiantCode.j1 (k + 1) y0 y1 y2 y3 y4 y5 y6 y7)) ∧ (∀ y0 y1 y2 y3, LeO (laws_FnExactGiantCode.j2 k y0 y1 y2 y3) (laws_FnExactGiantCode.j2 (k + 1) y0 y1 y2 y3))
  | 0 => ⟨fun _ _ _ _ _ _ _ _ _ _ r h => by simp [laws_FnExactGiantCode.j0] at h, fun _ _ _ _ _ _ _ _ r h => by simp [laws_FnExactGiantCode.j1] at h, fun _ _ _ _ r h => by simp [laws_FnExactGiantCode.j2] at h⟩
  | k + 1 => by
    obtain ⟨ih0, ih1, ih2⟩ := laws_FnExactGiantCode.mono_l k
    refine ⟨?_, ?_, ?_⟩
    · intro y0 y1 y2 y3 y4 y5 y6 y7 y8 y9
      unfold laws_FnExactGiantCode.j0
      repeat' first
      | (with_reducible exact ih0 _ _ _ _ _ _ _ _ _ _)
      | (with_reducible exact ih1 _ _ _ _ _ _ _ _)
      | (with_reducible exact ih2 _ _ _ _)
      | (with_reducible exact impl_GiantCode.mono _ _ _)
      | (with_reducible exact laws_eqCode.mono _ _ _ _ _)
      | (with_reducible exact laws_eqIntS.mono _ _ _)
      | (with_reducible exact laws_heldCode.mono _ _ _ _)
      | (with_reducible exact laws_markCode.mono _ _ _ _)
      | (with_reducible exact laws_markIntS.mono _ _ _)
      | (with_reducible exact laws_toIntS.mono _ _)
      | (with_reducible exact spec_GiantCode.mono _ _ _)
      | (with_reducible exact LeO.refl _)
      | (with_reducible exact LeO.none _)
      | (with_reducible refine LeO.ite ?_ ?_)
      | (with_reducible refine LeO.bind ?_ (fun _ => ?_))
      | exact ih0 _ _ _ _ _ _ _ _ _ _
      | exact ih1 _ _ _ _ _ _ _ _
      | exact ih2 _ _ _ _
      | exact impl_GiantCode.mono _ _ _
      | exact laws_eqCode.mono _ _ _ _ _
      | exact laws_eqIntS.mono _ _ _
      | exact laws_heldCode.mono _ _ _ _
      | exact laws_markCode.mono _ _ _ _
      | exact laws_markIntS.mono _ _ _
      | exact laws_toIntS.mono _ _
      | exact spec_GiantCode.mono _ _ _
      | exact LeO.none _
      | refine LeO.ite ?_ ?_
      | refine LeO.bind ?_ (fun _ => ?_)
    · intro y0 y1 y2 y3 y4 y5 y6 y7
      unfold laws_FnExactGiantCode.j1
      repeat' first
      | (with_reducible exact ih0 _ _ _ _ _ _ _ _ _ _)
      | (with_reducible exact ih1 _ _ _ _ _ _ _ _)
      | (with_reducible exact ih2 _ _ _ _)
      | (with_reducible exact impl_GiantCode.mono _ _ _)
      | (with_reducible exact laws_eqCode.mono _ _ _ _ _)
      | (with_reducible exact laws_eqIntS.mono _ _ _)
      | (with_reducible exact laws_heldCode.mono _ _ _ _)
      | (with_reducible exact laws_markCode.mono _ _ _ _)
      | (with_reducible exact laws_markIntS.mono _ _ _)
      | (with_reducible exact laws_toIntS.mono _ _)
      | (with_reducible exact spec_GiantCode.mono _ _ _)
      | (with_reducible exact LeO.refl _)
      | (with_reducible exact LeO.none _)
      | (with_reducible refine LeO.ite ?_ ?_)
      | (with_reducible refine LeO.bind ?_ (fun _ => ?_))
      | exact ih0 _ _ _ _ _ _ _ _ _ _
      | exact ih1 _ _ _ _ _ _ _ _
      | exact ih2 _ _ _ _
      | exact impl_GiantCode.mono _ _ _
      | exact laws_eqCode.mono _ _ _ _ _
      | exact laws_eqIntS.mono _ _ _
      | exact laws_heldCode.mono _ _ _ _
      | exact laws_markCode.mono _ _ _ _
      | exact laws_markIntS.mono _ _ _
      | exact laws_toIntS.mono _ _
      | exact spec_GiantCode.mono _ _ _
      | exact LeO.none _
      | refine LeO.ite ?_ ?_
      | refine LeO.bind ?_ (fun _ => ?_)
    · intro y0 y1 y2 y3
      unfold laws_FnExactGiantCode.j2
      repeat' first
      | (with_reducible exact ih0 _ _ _ _ _ _ _ _ _ _)
      | (with_reducible exact ih1 _ _ _ _ _ _ _ _)
      | (with_reducible exact ih2 _ _ _ _)
      | (with_reducible exact impl_GiantCode.mono _ _ _)
      | (with_reducible exact laws_eqCode.mono _ _ _ _ _)
      | (with_reducible exact laws_eqIntS.mono _ _ _)
      | (with_reducible exact laws_heldCode.mono _ _ _ _)
      | (with_reducible exact laws_markCode.mono _ _ _ _)
      | (with_reducible exact laws_markIntS.mono _ _ _)
      | (with_reducible exact laws_toIntS.mono _ _)
      | (with_reducible exact spec_GiantCode.mono _ _ _)
      | (with_reducible exact LeO.refl _)
      | (with_reducible exact LeO.none _)
      | (with_reducible refine LeO.ite ?_ ?_)
      | (with_reducible refine LeO.bind ?_ (fun _ => ?_))
      | exact ih0 _ _ _ _ _ _ _ _ _ _
      | exact ih1 _ _ _ _ _ _ _ _
      | exact ih2 _ _ _ _
      | exact impl_GiantCode.mono _ _ _
      | exact laws_eqCode.mono _ _ _ _ _
      | exact laws_eqIntS.mono _ _ _
      | exact laws_heldCode.mono _ _ _ _
      | exact laws_markCode.mono _ _ _ _
      | exact laws_markIntS.mono _ _ _
      | exact laws_toIntS.mono _ _
      | exact spec_GiantCode.mono _ _ _
      | exact LeO.none _
      | refine LeO.ite ?_ ?_
      | refine LeO.bind ?_ (fun _ => ?_)
theorem laws_FnExactGiantCode.mono : ∀ a0 a1 k, LeO (laws_FnExactGiantCode.f k a0 a1) (laws_FnExactGiantCode.f (k + 1) a0 a1) := by
  intro a0 a1 k
  obtain ⟨ih0, ih1, ih2⟩ := laws_FnExactGiantCode.mono_l k
  unfold laws_FnExactGiantCode.f
  repeat' first
      | (with_reducible exact ih0 _ _ _ _ _ _ _ _ _ _)
      | (with_reducible exact ih1 _ _ _ _ _ _ _ _)
      | (with_reducible exact ih2 _ _ _ _)
      | (with_reducible exact impl_GiantCode.mono _ _ _)
      | (with_reducible exact laws_eqCode.mono _ _ _ _ _)
      | (with_reducible exact laws_eqIntS.mono _ _ _)
      | (with_reducible exact laws_heldCode.mono _ _ _ _)
      | (with_reducible exact laws_markCode.mono _ _ _ _)
      | (with_reducible exact laws_markIntS.mono _ _ _)
      | (with_reducible exact laws_toIntS.mono _ _)
      | (with_reducible exact spec_GiantCode.mono _ _ _)
      | (with_reducible exact LeO.refl _)
      | (with_reducible exact LeO.none _)
      | (with_reducible refine LeO.ite ?_ ?_)
      | (with_reducible refine LeO.bind ?_ (fun _ => ?_))
      | exact ih0 _ _ _ _ _ _ _ _ _ _
      | exact ih1 _ _ _ _ _ _ _ _
      | exact ih2 _ _ _ _
      | exact impl_GiantCode.mono _ _ _
      | exact laws_eqCode.mono _ _ _ _ _
      | exact laws_eqIntS.mono _ _ _
      | exact laws_heldCode.mono _ _ _ _
      | exact laws_markCode.mono _ _ _ _
      | exact laws_markIntS.mono _ _ _
      | exact laws_toIntS.mono _ _
      | exact spec_GiantCode.mono _ _ _
      | exact LeO.none _
      | refine LeO.ite ?_ ?_
      | refine LeO.bind ?_ (fun _ => ?_)
set_option maxHeartbeats 8000000 in
set_option maxRecDepth 100000 in
theorem laws_FnExactGiantCode.calls (k : Nat) (A0 : Option Addr) (c0 : Nat) (l0 : List Int) (a1 : Int) (r : Bool) (w : World) (hr0 : Kd.C (Kd.int .i64) w A0 l0.length l0) (hc0 : l0.length ≤ c0) (h : laws_FnExactGiantCode.f k l0 a1 = some r) :
    Calls Try.prog 4 #[.slice A0 l0.length c0, .int .i64 a1] w fun e w' => e = .returned (.bool r) ∧ Below w.heap.size w w' := by
  have hu32 := Try.underlying32
  have HR0 := Aside0.mk hr0
  have HC0 := Aside0.mk hc0
  clear hr0 hc0
  have HB := Aside0.mk (Below.refl w.heap.size w)
  have H : (if (l0.length : Int) > 1048576 then (some true) else ((laws_toIntS.f k l0).bind fun t342 => ((spec_GiantCode.f k t342 a1).bind fun bt345 => ((laws_toIntS.f k l0).bind fun t351 => ((impl_GiantCode.f k t351 a1).bind fun bt354 => ((laws_eqCode.f k bt354.1 bt354.2.1 bt345.1 bt345.2.1).bind fun t360 => (if t360 = true then (laws_FnExactGiantCode.j0 k l0 a1 bt345.2.2 t351 bt354.2.2 (bt354.2.2 != bt345.2.2) bt345.1 bt345.2.1 bt354.1 bt354.2.1) else (laws_FnExactGiantCode.j0 k l0 a1 bt345.2.2 t351 bt354.2.2 true bt345.1 bt345.2.1 bt354.1 bt354.2.1)))))))) = some r := h
  clear h
  by_cases c3 : (l0.length : Int) > 1048576
  · rw [if_pos c3] at H
    have c3b0 : decide (1048576 < (l0.length : Int)) = true := decide_eq_true c3
    have c3b1 : decide (1048576 < l0.length) = true := decide_eq_true (by omega)
    clear c3
    obtain rfl := Option.some.inj H
    go_enter Try.func4, Try.ntmps4
    go_wp2
    go_ret
    exact ⟨by first | rfl | (simp [errW_none, errW_some] <;> rfl) | (simp [*, errW_none, errW_some] <;> rfl), by repeat (first | (with_reducible first | exact HB.out | apply below_alloc | apply pw_below_drewN | apply below_drew1) | exact HB.out)⟩
  · rw [if_neg c3] at H
    have c3b0 : decide (1048576 < (l0.length : Int)) = false := decide_eq_false c3
    have c3b1 : decide (1048576 < l0.length) = false := decide_eq_false (by omega)
    clear c3
    replace H := Option.bind_eq_some_iff.mp H
    obtain ⟨t342, A40, H⟩ := H
    replace H : ((spec_GiantCode.f k t342 a1).bind fun bt345 => ((laws_toIntS.f k l0).bind fun t351 => ((impl_GiantCode.f k t351 a1).bind fun bt354 => ((laws_eqCode.f k bt354.1 bt354.2.1 bt345.1 bt345.2.1).bind fun t360 => (if t360 = true then (laws_FnExactGiantCode.j0 k l0 a1 bt345.2.2 t351 bt354.2.2 (bt354.2.2 != bt345.2.2) bt345.1 bt345.2.1 bt354.1 bt354.2.1) else (laws_FnExactGiantCode.j0 k l0 a1 bt345.2.2 t351 bt354.2.2 true bt345.1 bt345.2.1 bt354.1 bt354.2.1)))))) = some r := H
    have A4 := Aside0.mk A40
    clear A40
    replace H := Option.bind_eq_some_iff.mp H
    obtain ⟨⟨t345, t348, t349⟩, A50, H⟩ := H
    replace H : ((laws_toIntS.f k l0).bind fun t351 => ((impl_GiantCode.f k t351 a1).bind fun bt354 => ((laws_eqCode.f k bt354.1 bt354.2.1 t345 t348).bind fun t360 => (if t360 = true then (laws_FnExactGiantCode.j0 k l0 a1 t349 t351 bt354.2.2 (bt354.2.2 != t349) t345 t348 bt354.1 bt354.2.1) else (laws_FnExactGiantCode.j0 k l0 a1 t349 t351 bt354.2.2 true t345 t348 bt354.1 bt354.2.1))))) = some r := H
    have A5 := Aside0.mk A50
    clear A50
    replace H := Option.bind_eq_some_iff.mp H
    obtain ⟨t351, A60, H⟩ := H
    replace H : ((impl_GiantCode.f k t351 a1).bind fun bt354 => ((laws_eqCode.f k bt354.1 bt354.2.1 t345 t348).bind fun t360 => (if t360 = true then (laws_FnExactGiantCode.j0 k l0 a1 t349 t351 bt354.2.2 (bt354.2.2 != t349) t345 t348 bt354.1 bt354.2.1) else (laws_FnExactGiantCode.j0 k l0 a1 t349 t351 bt354.2.2 true t345 t348 bt354.1 bt354.2.1)))) = some r := H
    have A6 := Aside0.mk A60
    clear A60
    obtain rfl : t342 = t351 := Option.some.inj (A4.out.symm.trans A6.out)
    let t351 := t342
    replace H := Option.bind_eq_some_iff.mp H
    obtain ⟨⟨t354, t357, t358⟩, A70, H⟩ := H
    replace H : ((laws_eqCode.f k t354 t357 t345 t348).bind fun t360 => (if t360 = true then (laws_FnExactGiantCode.j0 k l0 a1 t349 t351 t358 (t358 != t349) t345 t348 t354 t357) else (laws_FnExactGiantCode.j0 k l0 a1 t349 t351 t358 true t345 t348 t354 t357))) = some r := H
    have A7 := Aside0.mk A70
    clear A70
    have HC8 := Aside0.mk H
    clear H
    go_enter Try.func4, Try.ntmps4
    go_upto_region 6 with (first | ((with_reducible refine gate_callee (f := 26) rfl ?_); refine goesL_ (some 20) rfl rfl Try.func26 (by kernel_rfl) rfl #[.slice A0 l0.length c0] rfl (by (try simp only [List.map_toArray, List.map_cons, List.map_nil]); first | done | rfl | (simp only [List.length_drop, List.length_take]; rfl)) ?_; (with_reducible refine (laws_toIntS.calls k _ _ l0 t342 _ ?side1 ?side2 A4.out).mono ?_); (case side1 => repeat (first | exact HR0.out | (with_reducible refine Kd.C_alloc ?_ _) | (with_reducible refine Kd.C_drewN ?_ _) | (with_reducible refine Kd.C_drew ?_))); (case side2 => exact HC0.out); rintro e w9 ⟨v343, rfl, ho0, hb⟩; refine ⟨_, rfl, ?_⟩; have n0_ := Aside0.mk (Kd.R_lower ho0 (below_size (by repeat (first | (with_reducible first | exact HB.out | apply below_alloc | apply pw_below_drewN | apply below_drew1) | exact HB.out)))); have n1_ := Aside0.mk (below_step (by repeat (first | (with_reducible first | exact HB.out | apply below_alloc | apply pw_below_drewN | apply below_drew1) | exact HB.out)) hb); clear HB; have HO344 := n0_; have HB := n1_; clear n0_ n1_; (try clear hb); (try clear hb2); (try clear hk); (try clear hi); (try clear ho0); obtain ⟨Ao10, co10, eo10⟩ := Kd.R_slice HO344.out; subst eo10) | ((with_reducible refine gate_callee (f := 25) rfl ?_); refine goesL_ (some 22) rfl rfl Try.func25 (by kernel_rfl) rfl #[.slice Ao10 t342.length co10, .int .i64 a1] rfl (by (try simp only [List.map_toArray, List.map_cons, List.map_nil]); first | done | rfl | (simp only [List.length_drop, List.length_take]; rfl)) ?_; (with_reducible refine (spec_GiantCode.calls k _ _ t342 a1 t345 t348 t349 _ ?side1 ?side2 A5.out).mono ?_); (case side1 => repeat (first | exact (Kd.R_reads' HO344.out).2.2 | (with_reducible refine Kd.C_alloc ?_ _) | (with_reducible refine Kd.C_drewN ?_ _) | (with_reducible refine Kd.C_drew ?_))); (case side2 => exact (Kd.R_reads' HO344.out).2.1); rintro e w11 ⟨v346, rfl, ho0, hb⟩; refine ⟨_, rfl, ?_⟩; have n0_ := Aside0.mk (Kd.R_below (by (with_reducible repeat (first | apply Kd.R_alloc | apply Kd.R_drewN | apply Kd.R_drew)); exact HO344.out) hb); have n1_ := Aside0.mk (Kd.V_lower (Kd.V_mono (ok' := fun k_ => some k_ ≠ (.slice Ao10 t342.length co10 : Value).ownBlock) ho0 (fun k_ hk_ => (Kd.fresh' (Kd.R_lt (by (with_reducible repeat (first | apply Kd.R_alloc | apply Kd.R_drewN | apply Kd.R_drew)); exact HO344.out)) k_ hk_))) (below_size (by repeat (first | (with_reducible first | exact HB.out | apply below_alloc | apply pw_below_drewN | apply below_drew1) | exact HB.out)))); have n2_ := Aside0.mk (below_step (by repeat (first | (with_reducible first | exact HB.out | apply below_alloc | apply pw_below_drewN | apply below_drew1) | exact HB.out)) hb); clear HO344; clear HB; have HO344 := n0_; have HO347 := n1_; have HB := n2_; clear n0_ n1_ n2_; (try clear hb); (try clear hb2); (try clear hk); (try clear hi); (try clear ho0)) | ((with_reducible refine gate_dst (N := 5) rfl ?_); refine box_event ?hg (N := 5) ?hd (cs := #[.slice none 0 0, .int .i64 0]) (t := 32) ?hr ?_; (case hd => rfl); (case hg => rfl); (case hr => first | (go_simp; done) | (go_simp; rfl)); intro gb350 hg w12 hbox hb; have n0_ := Aside0.mk (Kd.R_below (by (with_reducible repeat (first | apply Kd.R_alloc | apply Kd.R_drewN | apply Kd.R_drew)); exact HO344.out) hb); have n1_ := Aside0.mk (Kd.V_below (Kd.V_elderB (by (with_reducible repeat (first | apply Kd.V_alloc | apply Kd.V_drewN | apply Kd.V_drew)); exact HO347.out) gb350 (Nat.le_of_eq hg.symm)) hb); have n2_ := Aside0.mk (below_step (by repeat (first | (with_reducible first | exact HB.out | apply below_alloc | apply pw_below_drewN | apply below_drew1) | exact HB.out)) hb); have n3_ := Aside0.mk (hbox); have n4_ := Aside0.mk ((by rw [hg]; exact (below_size (by repeat (first | (with_reducible first | exact HB.out | apply below_alloc | apply pw_below_drewN | apply below_drew1) | exact HB.out))) : w.heap.size ≤ gb350)); have n5_ := Aside0.mk ((by rw [hg]; exact (below_size (by repeat (first | (with_reducible first | exact HB.out | apply below_alloc | apply pw_below_drewN | apply below_drew1) | exact HB.out))) : w.heap.size ≤ gb350)); clear HO344; clear HO347; clear HB; have HO344 := n0_; have HO347 := n1_; have HB := n2_; have BK350 := n3_; have GW350 := n4_; have GE350 := n5_; clear n0_ n1_ n2_ n3_ n4_ n5_; clear hb hbox hg; obtain ⟨Ao13, co13, eo13⟩ := Kd.V_slice HO347.out; subst eo13; have hcz14_0 : w12.cell? ⟨gb350, 0, none⟩ = some (.slice none 0 0) := (blk_cell BK350.out 0).trans rfl; have hcz14_1 : w12.cell? ⟨gb350, 1, none⟩ = some (.int .i64 0) := (blk_cell BK350.out 1).trans rfl; have hfz14_0 := blk_frozen BK350.out 0; have hfz14_1 := blk_frozen BK350.out 1) | ((with_reducible refine gate_callee (f := 26) rfl ?_); refine goesL_ (some 26) rfl rfl Try.func26 (by kernel_rfl) rfl #[.slice A0 l0.length c0] rfl (by (try simp only [List.map_toArray, List.map_cons, List.map_nil]); first | done | rfl | (simp only [List.length_drop, List.length_take]; rfl)) ?_; (with_reducible refine (laws_toIntS.calls k _ _ l0 t351 _ ?side1 ?side2 A6.out).mono ?_); (case side1 => exact Kd.C_below HR0.out (by repeat (first | (with_reducible first | exact HB.out | apply below_alloc | apply pw_below_drewN | apply below_drew1 | refine below_set ?_ GE350.out) | exact HB.out))); (case side2 => exact HC0.out); rintro e w15 ⟨v352, rfl, ho0, hb⟩; refine ⟨_, rfl, ?_⟩; have n0_ := Aside0.mk (Kd.R_elder' (by (with_reducible repeat (first | apply Kd.R_alloc | apply Kd.R_drewN | apply Kd.R_drew)); exact (Kd.R_mono (Kd.R_far (p := ⟨gb350, 1, none⟩) (Kd.R_far (p := ⟨gb350, 0, none⟩) (Kd.R_types HO344.out BK350.out (by decide)) (fun _ hk => hk.2) (.slice Ao13 t345.length co13)) (fun _ hk => hk.2) (.int .i64 t348)) (fun _ h_ => h_.1))) (Kd.R_base ho0) hb); have n1_ := Aside0.mk (Kd.V_elder' (by (with_reducible repeat (first | apply Kd.V_alloc | apply Kd.V_drewN | apply Kd.V_drew)); exact (Kd.V_mono (Kd.V_far (p := ⟨gb350, 1, none⟩) (Kd.V_far (p := ⟨gb350, 0, none⟩) (Kd.V_mono HO347.out (fun k_ hk => (⟨hk, hk.2⟩ : _ ∧ k_ ≠ gb350))) (fun _ hk => hk.2) (.slice Ao13 t345.length co13)) (fun _ hk => hk.2) (.int .i64 t348)) (fun _ h_ => h_.1))) (Kd.R_base ho0) hb); have n2_ := Aside0.mk (Kd.R_lower (Kd.R_new' ho0 (Kd.R_lt (by (with_reducible repeat (first | apply Kd.R_alloc | apply Kd.R_drewN | apply Kd.R_drew)); exact (Kd.R_mono (Kd.R_far (p := ⟨gb350, 1, none⟩) (Kd.R_far (p := ⟨gb350, 0, none⟩) (Kd.R_types HO344.out BK350.out (by decide)) (fun _ hk => hk.2) (.slice Ao13 t345.length co13)) (fun _ hk => hk.2) (.int .i64 t348)) (fun _ h_ => h_.1))))) (below_size (by repeat (first | (with_reducible first | exact HB.out | apply below_alloc | apply pw_below_drewN | apply below_drew1 | refine below_set ?_ GE350.out) | exact HB.out)))); have n3_ := Aside0.mk (blk_below (g := gb350) (o := .cells #[.slice Ao13 t345.length co13, .int .i64 t348] 32 (0, 0)) (by (with_reducible repeat (first | refine blk_drewN ?_ _ | refine blk_drew ?_ | refine blk_alloc ?_ _)); refine blk_put (cs := #[.slice Ao13 t345.length co13, .int .i64 0]) ?_ 1 _ rfl; (with_reducible repeat (first | refine blk_drewN ?_ _ | refine blk_drew ?_ | refine blk_alloc ?_ _)); refine blk_put (cs := #[.slice none 0 0, .int .i64 0]) ?_ 0 _ rfl; (with_reducible repeat (first | refine blk_drewN ?_ _ | refine blk_drew ?_ | refine blk_alloc ?_ _)); exact BK350.out) hb); have n4_ := Aside0.mk (below_step (by repeat (first | (with_reducible first | exact HB.out | apply below_alloc | apply pw_below_drewN | apply below_drew1 | refine below_set ?_ GE350.out) | exact HB.out)) hb); clear HO344; clear HO347; clear BK350; clear HB; have HO344 := n0_; have HO347 := n1_; have HO353 := n2_; have BK350 := n3_; have HB := n4_; clear n0_ n1_ n2_ n3_ n4_; (try clear hb); (try clear hb2); (try clear hk); (try clear hi); (try clear ho0); obtain ⟨Ao16, co16, eo16⟩ := Kd.R_slice HO353.out; subst eo16) | ((with_reducible refine gate_callee (f := 20) rfl ?_); refine goesL_ (some 30) rfl rfl Try.func20 (by kernel_rfl) rfl #[.slice Ao16 t351.length co16, .int .i64 a1] rfl (by (try simp only [List.map_toArray, List.map_cons, List.map_nil]); first | done | rfl | (simp only [List.length_drop, List.length_take]; rfl)) ?_; (with_reducible refine (impl_GiantCode.calls k _ _ t351 a1 t354 t357 t358 _ ?side1 ?side2 A7.out).mono ?_); (case side1 => repeat (first | exact (Kd.R_reads' HO353.out).2.2 | (with_reducible refine Kd.C_alloc ?_ _) | (with_reducible refine Kd.C_drewN ?_ _) | (with_reducible refine Kd.C_drew ?_))); (case side2 => exact (Kd.R_reads' HO353.out).2.1); rintro e w17 ⟨v355, rfl, ho0, hb⟩; refine ⟨_, rfl, ?_⟩; have n0_ := Aside0.mk (Kd.R_below (by (with_reducible repeat (first | apply Kd.R_alloc | apply Kd.R_drewN | apply Kd.R_drew)); exact HO344.out) hb); have n1_ := Aside0.mk (Kd.V_elder' (by (with_reducible repeat (first | apply Kd.V_alloc | apply Kd.V_drewN | apply Kd.V_drew)); exact HO347.out) (Kd.R_base ho0) hb); have n2_ := Aside0.mk (Kd.R_below (by (with_reducible repeat (first | apply Kd.R_alloc | apply Kd.R_drewN | apply Kd.R_drew)); exact HO353.out) hb); have n3_ := Aside0.mk (Kd.R_lower ho0 (below_size (by repeat (first | (with_reducible first | exact HB.out | apply below_alloc | apply pw_below_drewN | apply below_drew1 | refine below_set ?_ GE350.out) | exact HB.out)))); have n4_ := Aside0.mk (blk_below (g := gb350) (o := .cells #[.slice Ao13 t345.length co13, .int .i64 t348] 32 (0, 0)) (by (with_reducible repeat (first | refine blk_drewN ?_ _ | refine blk_drew ?_ | refine blk_alloc ?_ _)); exact BK350.out) hb); have n5_ := Aside0.mk (below_step (by repeat (first | (with_reducible first | exact HB.out | apply below_alloc | apply pw_below_drewN | apply below_drew1 | refine below_set ?_ GE350.out) | exact HB.out)) hb); clear HO344; clear HO347; clear HO353; clear BK350; clear HB; have HO344 := n0_; have HO347 := n1_; have HO353 := n2_; have HO356 := n3_; have BK350 := n4_; have HB := n5_; clear n0_ n1_ n2_ n3_ n4_ n5_; (try clear hb); (try clear hb2); (try clear hk); (try clear hi); (try clear ho0)) | ((with_reducible refine gate_dst (N := 8) rfl ?_); refine box_event ?hg (N := 8) ?hd (cs := #[.slice none 0 0, .int .i64 0]) (t := 32) ?hr ?_; (case hd => rfl); (case hg => rfl); (case hr => first | (go_simp; done) | (go_simp; rfl)); intro gb359 hg w18 hbox hb; have n0_ := Aside0.mk (Kd.R_below (by (with_reducible repeat (first | apply Kd.R_alloc | apply Kd.R_drewN | apply Kd.R_drew)); exact HO344.out) hb); have n1_ := Aside0.mk (Kd.V_below (Kd.V_elderB (by (with_reducible repeat (first | apply Kd.V_alloc | apply Kd.V_drewN | apply Kd.V_drew)); exact HO347.out) gb359 (Nat.le_of_eq hg.symm)) hb); have n2_ := Aside0.mk (Kd.R_below (by (with_reducible repeat (first | apply Kd.R_alloc | apply Kd.R_drewN | apply Kd.R_drew)); exact HO353.out) hb); have n3_ := Aside0.mk (Kd.R_below (by (with_reducible repeat (first | apply Kd.R_alloc | apply Kd.R_drewN | apply Kd.R_drew)); exact HO356.out) hb); have n4_ := Aside0.mk (blk_below (g := gb350) (o := .cells #[.slice Ao13 t345.length co13, .int .i64 t348] 32 (0, 0)) (by (with_reducible repeat (first | refine blk_drewN ?_ _ | refine blk_drew ?_ | refine blk_alloc ?_ _)); exact BK350.out) hb); have n5_ := Aside0.mk (below_step (by repeat (first | (with_reducible first | exact HB.out | apply below_alloc | apply pw_below_drewN | apply below_drew1 | refine below_set ?_ GE350.out) | exact HB.out)) hb); have n6_ := Aside0.mk (hbox); have n7_ := Aside0.mk ((by rw [hg]; exact (below_size (by repeat (first | (with_reducible first | exact HB.out | apply below_alloc | apply pw_below_drewN | apply below_drew1 | refine below_set ?_ GE350.out) | exact HB.out))) : w.heap.size ≤ gb359)); have n8_ := Aside0.mk ((by rw [hg]; exact (below_size (by repeat (first | (with_reducible first | exact HB.out | apply below_alloc | apply pw_below_drewN | apply below_drew1 | refine below_set ?_ GE350.out) | exact HB.out))) : w.heap.size ≤ gb359)); have n9_ := Aside0.mk ((by rw [hg]; exact Nat.ne_of_lt (blk_lt (g := gb350) (o := .cells #[.slice Ao13 t345.length co13, .int .i64 t348] 32 (0, 0)) (by (with_reducible repeat (first | refine blk_drewN ?_ _ | refine blk_drew ?_ | refine blk_alloc ?_ _)); exact BK350.out)) : gb350 ≠ gb359)); have n10_ := Aside0.mk ((by rw [hg]; exact Nat.ne_of_gt (blk_lt (g := gb350) (o := .cells #[.slice Ao13 t345.length co13, .int .i64 t348] 32 (0, 0)) (by (with_reducible repeat (first | refine blk_drewN ?_ _ | refine blk_drew ?_ | refine blk_alloc ?_ _)); exact BK350.out)) : gb359 ≠ gb350)); clear HO344; clear HO347; clear HO353; clear HO356; clear BK350; clear HB; have HO344 := n0_; have HO347 := n1_; have HO353 := n2_; have HO356 := n3_; have BK350 := n4_; have HB := n5_; have BK359 := n6_; have GW359 := n7_; have GE359 := n8_; have NB350_359 := n9_; have NB359_350 := n10_; clear n0_ n1_ n2_ n3_ n4_ n5_ n6_ n7_ n8_ n9_ n10_; clear hb hbox hg; obtain ⟨Ao19, co19, eo19⟩ := Kd.R_slice HO356.out; subst eo19; have hnb20 := NB359_350.out; have hnc20 := NB350_359.out; have hcz21_0 : w18.cell? ⟨gb359, 0, none⟩ = some (.slice none 0 0) := (blk_cell BK359.out 0).trans rfl; have hcz21_1 : w18.cell? ⟨gb359, 1, none⟩ = some (.int .i64 0) := (blk_cell BK359.out 1).trans rfl; have hfz21_0 := blk_frozen BK359.out 0; have hfz21_1 := blk_frozen BK359.out 1))
    (try simp only [Act.put, List.setIfInBounds_toArray, List.set_cons_zero, List.set_cons_succ])
    go_cut [41] (fun v41 wc => ∃ (kq : Nat) (x41_7 : Bool), v41 = .bool x41_7 ∧ Aside0 (laws_FnExactGiantCode.j0 kq l0 a1 t349 t351 t358 x41_7 t345 t348 t354 t357 = some r) ∧ Aside0 (kq ≤ k) ∧ Aside0 (Kd.R (Kd.int .i64) 3 wc w.heap.size (fun _ => True) (.slice Ao16 t351.length co16) t351) ∧ Aside0 (Kd.V k109 109 wc w.heap.size (fun k_ => some k_ ≠ ((.slice Ao16 t351.length co16) : Value).ownBlock ∧ some k_ ≠ ((.slice Ao19 t354.length co19) : Value).ownBlock ∧ k_ ≠ gb350 ∧ k_ ≠ gb359) (.slice Ao13 t345.length co13) t345) ∧ Aside0 (Kd.R k109 109 wc w.heap.size (fun _ => True) (.slice Ao19 t354.length co19) t354) ∧ Aside0 (wc.heap[gb350]? = some (.cells #[(.slice Ao13 t345.length co13), .int .i64 t348] 32 (0, 0))) ∧ Aside0 (wc.heap[gb359]? = some (.cells #[(.slice Ao19 t354.length co19), .int .i64 t357] 32 (0, 0))) ∧ Aside0 (Below w.heap.size w wc))
    case first =>
      have H := HC8.out
      clear HC8
      replace H := Option.bind_eq_some_iff.mp H
      obtain ⟨t360, A220, H⟩ := H
      replace H : (if t360 = true then (laws_FnExactGiantCode.j0 k l0 a1 t349 t351 t358 (t358 != t349) t345 t348 t354 t357) else (laws_FnExactGiantCode.j0 k l0 a1 t349 t351 t358 true t345 t348 t354 t357)) = some r := H
      have A22 := Aside0.mk A220
      clear A220
      by_cases c23 : t360 = true
      · subst c23
        have H1 : (laws_FnExactGiantCode.j0 k l0 a1 t349 t351 t358 (t358 != t349) t345 t348 t354 t357) = some r := by rw [if_pos rfl] at H; exact H
        clear H
        have H := H1
        clear H1
        have H' := Aside0.mk H
        clear H
        have hnb24 := NB359_350.out
        have hnc24 := NB350_359.out
        have hcz25_0 : w18.cell? ⟨gb359, 0, none⟩ = some (.slice none 0 0) := (blk_cell BK359.out 0).trans rfl
        have hcz25_1 : w18.cell? ⟨gb359, 1, none⟩ = some (.int .i64 0) := (blk_cell BK359.out 1).trans rfl
        have hfz25_0 := blk_frozen BK359.out 0
        have hfz25_1 := blk_frozen BK359.out 1
        have hcz26_0 : w18.cell? ⟨gb350, 0, none⟩ = some (.slice Ao13 t345.length co13) := (blk_cell BK350.out 0).trans rfl
        have hcz26_1 : w18.cell? ⟨gb350, 1, none⟩ = some (.int .i64 t348) := (blk_cell BK350.out 1).trans rfl
        have hfz26_0 := blk_frozen BK350.out 0
        have hfz26_1 := blk_frozen BK350.out 1
        go_wp2_with (first | ((with_reducible refine gate_callee (f := 27) rfl ?_); refine goesL_ (some 35) rfl rfl Try.func27 (by kernel_rfl) rfl #[.agg #[.slice Ao19 t354.length co19, .int .i64 t357], .agg #[.slice Ao13 t345.length co13, .int .i64 t348]] rfl (by (try simp only [List.map_toArray, List.map_cons, List.map_nil]); first | done | rfl | (simp only [List.length_drop, List.length_take]; rfl)) ?_; (with_reducible refine (laws_eqCode.calls k _ _ t354 t357 _ _ t345 t348 true _ ?side1 ?side2 ?side3 ?side4 A22.out).mono ?_); (case side1 => refine (Kd.R_reads' (e := 109) (base := w.heap.size) (ok := fun k_ => True) (n := t354.length) (c := co19) ?_).2.2; exact (by (with_reducible repeat (first | apply Kd.R_alloc | apply Kd.R_drewN | apply Kd.R_drew)); exact (Kd.R_mono (Kd.R_far (p := ⟨gb359, 1, none⟩) (Kd.R_far (p := ⟨gb359, 0, none⟩) (Kd.R_types HO356.out BK359.out (by decide)) (fun _ hk => hk.2) (.slice Ao19 t354.length co19)) (fun _ hk => hk.2) (.int .i64 t357)) (fun _ h_ => h_.1)))); (case side2 => exact (Kd.R_reads' HO356.out).2.1); (case side3 => refine (Kd.V_reads' (e := 109) (base := w.heap.size) (ok := fun k_ => ((((some k_ ≠ (.slice Ao10 t342.length co10 : Value).ownBlock ∧ k_ ≠ gb350) ∧ some k_ ≠ (.slice Ao16 t351.length co16 : Value).ownBlock) ∧ some k_ ≠ (.slice Ao19 t354.length co19 : Value).ownBlock) ∧ k_ ≠ gb359)) (n := t345.length) (c := co13) ?_).2.2; exact (by (with_reducible repeat (first | apply Kd.V_alloc | apply Kd.V_drewN | apply Kd.V_drew)); exact (Kd.V_mono (Kd.V_far (p := ⟨gb359, 1, none⟩) (Kd.V_far (p := ⟨gb359, 0, none⟩) (Kd.V_mono HO347.out (fun k_ hk => (⟨hk, hk.2⟩ : _ ∧ k_ ≠ gb359))) (fun _ hk => hk.2) (.slice Ao19 t354.length co19)) (fun _ hk => hk.2) (.int .i64 t357)) (fun _ h_ => h_.1)))); (case side4 => exact (Kd.V_reads' HO347.out).2.1); rintro e w27 ⟨rfl, hb⟩; refine ⟨_, rfl, ?_⟩; have n0_ := Aside0.mk (Kd.R_below (by (with_reducible repeat (first | apply Kd.R_alloc | apply Kd.R_drewN | apply Kd.R_drew)); exact (Kd.R_mono (Kd.R_far (p := ⟨gb359, 1, none⟩) (Kd.R_far (p := ⟨gb359, 0, none⟩) (Kd.R_types HO344.out BK359.out (by decide)) (fun _ hk => hk.2) (.slice Ao19 t354.length co19)) (fun _ hk => hk.2) (.int .i64 t357)) (fun _ h_ => h_.1))) hb); have n1_ := Aside0.mk (Kd.V_below (by (with_reducible repeat (first | apply Kd.V_alloc | apply Kd.V_drewN | apply Kd.V_drew)); exact (Kd.V_mono (Kd.V_far (p := ⟨gb359, 1, none⟩) (Kd.V_far (p := ⟨gb359, 0, none⟩) (Kd.V_mono HO347.out (fun k_ hk => (⟨hk, hk.2⟩ : _ ∧ k_ ≠ gb359))) (fun _ hk => hk.2) (.slice Ao19 t354.length co19)) (fun _ hk => hk.2) (.int .i64 t357)) (fun _ h_ => h_.1))) hb); have n2_ := Aside0.mk (Kd.R_below (by (with_reducible repeat (first | apply Kd.R_alloc | apply Kd.R_drewN | apply Kd.R_drew)); exact (Kd.R_mono (Kd.R_far (p := ⟨gb359, 1, none⟩) (Kd.R_far (p := ⟨gb359, 0, none⟩) (Kd.R_types HO353.out BK359.out (by decide)) (fun _ hk => hk.2) (.slice Ao19 t354.length co19)) (fun _ hk => hk.2) (.int .i64 t357)) (fun _ h_ => h_.1))) hb); have n3_ := Aside0.mk (Kd.R_below (by (with_reducible repeat (first | apply Kd.R_alloc | apply Kd.R_drewN | apply Kd.R_drew)); exact (Kd.R_mono (Kd.R_far (p := ⟨gb359, 1, none⟩) (Kd.R_far (p := ⟨gb359, 0, none⟩) (Kd.R_types HO356.out BK359.out (by decide)) (fun _ hk => hk.2) (.slice Ao19 t354.length co19)) (fun _ hk => hk.2) (.int .i64 t357)) (fun _ h_ => h_.1))) hb); have n4_ := Aside0.mk (blk_below (g := gb350) (o := .cells #[.slice Ao13 t345.length co13, .int .i64 t348] 32 (0, 0)) (by (with_reducible repeat (first | refine blk_drewN ?_ _ | refine blk_drew ?_ | refine blk_alloc ?_ _)); refine blk_far ?_ NB350_359.out _; (with_reducible repeat (first | refine blk_drewN ?_ _ | refine blk_drew ?_ | refine blk_alloc ?_ _)); refine blk_far ?_ NB350_359.out _; (with_reducible repeat (first | refine blk_drewN ?_ _ | refine blk_drew ?_ | refine blk_alloc ?_ _)); exact BK350.out) hb); have n5_ := Aside0.mk (blk_below (g := gb359) (o := .cells #[.slice Ao19 t354.length co19, .int .i64 t357] 32 (0, 0)) (by (with_reducible repeat (first | refine blk_drewN ?_ _ | refine blk_drew ?_ | refine blk_alloc ?_ _)); refine blk_put (cs := #[.slice Ao19 t354.length co19, .int .i64 0]) ?_ 1 _ rfl; (with_reducible repeat (first | refine blk_drewN ?_ _ | refine blk_drew ?_ | refine blk_alloc ?_ _)); refine blk_put (cs := #[.slice none 0 0, .int .i64 0]) ?_ 0 _ rfl; (with_reducible repeat (first | refine blk_drewN ?_ _ | refine blk_drew ?_ | refine blk_alloc ?_ _)); exact BK359.out) hb); have n6_ := Aside0.mk (below_step (by repeat (first | (with_reducible first | exact HB.out | apply below_alloc | apply pw_below_drewN | apply below_drew1 | refine below_set ?_ GE350.out | refine below_set ?_ GE359.out) | exact HB.out)) hb); clear HO344; clear HO347; clear HO353; clear HO356; clear BK350; clear BK359; clear HB; have HO344 := n0_; have HO347 := n1_; have HO353 := n2_; have HO356 := n3_; have BK350 := n4_; have BK359 := n5_; have HB := n6_; clear n0_ n1_ n2_ n3_ n4_ n5_ n6_; (try clear hb); (try clear hb2); (try clear hk); (try clear hi)))
        go_meet
        case rel => exact ⟨_, ((t358 != t349)), (by first | rfl | (simp; done) | (simp [*]; done)), H', ⟨by first | omega | exact Nat.le_refl _⟩, ⟨by (with_reducible repeat (first | apply Kd.R_alloc | apply Kd.R_drewN | apply Kd.R_drew)); exact Kd.R_mono HO353.out (fun _ hk => trivial)⟩, ⟨by (with_reducible repeat (first | apply Kd.V_alloc | apply Kd.V_drewN | apply Kd.V_drew)); exact Kd.V_mono HO347.out (fun _ hk => ⟨hk.1.1.2, ⟨hk.1.2, ⟨hk.1.1.1.2, hk.2⟩⟩⟩)⟩, ⟨by (with_reducible repeat (first | apply Kd.R_alloc | apply Kd.R_drewN | apply Kd.R_drew)); exact HO356.out⟩, ⟨by (with_reducible repeat (first | refine blk_drewN ?_ _ | refine blk_drew ?_ | refine blk_alloc ?_ _)); exact BK350.out⟩, ⟨by (with_reducible repeat (first | refine blk_drewN ?_ _ | refine blk_drew ?_ | refine blk_alloc ?_ _)); exact BK359.out⟩, ⟨by repeat (first | (with_reducible first | exact HB.out | apply below_alloc | apply pw_below_drewN | apply below_drew1 | refine below_set ?_ GE350.out | refine below_set ?_ GE359.out) | exact HB.out)⟩⟩
      · replace c23 := Bool.eq_false_iff.mpr c23
        subst c23
        have H1 : (laws_FnExactGiantCode.j0 k l0 a1 t349 t351 t358 true t345 t348 t354 t357) = some r := by rw [if_neg (show ¬ (false = true) by decide)] at H; exact H
        clear H
        have H := H1
        clear H1
        have H' := Aside0.mk H
        clear H
        have hnb28 := NB359_350.out
        have hnc28 := NB350_359.out
        have hcz29_0 : w18.cell? ⟨gb359, 0, none⟩ = some (.slice none 0 0) := (blk_cell BK359.out 0).trans rfl
        have hcz29_1 : w18.cell? ⟨gb359, 1, none⟩ = some (.int .i64 0) := (blk_cell BK359.out 1).trans rfl
        have hfz29_0 := blk_frozen BK359.out 0
        have hfz29_1 := blk_frozen BK359.out 1
        have hcz30_0 : w18.cell? ⟨gb350, 0, none⟩ = some (.slice Ao13 t345.length co13) := (blk_cell BK350.out 0).trans rfl
        have hcz30_1 : w18.cell? ⟨gb350, 1, none⟩ = some (.int .i64 t348) := (blk_cell BK350.out 1).trans rfl
        have hfz30_0 := blk_frozen BK350.out 0
        have hfz30_1 := blk_frozen BK350.out 1
        go_wp2_with (first | ((with_reducible refine gate_callee (f := 27) rfl ?_); refine goesL_ (some 35) rfl rfl Try.func27 (by kernel_rfl) rfl #[.agg #[.slice Ao19 t354.length co19, .int .i64 t357], .agg #[.slice Ao13 t345.length co13, .int .i64 t348]] rfl (by (try simp only [List.map_toArray, List.map_cons, List.map_nil]); first | done | rfl | (simp only [List.length_drop, List.length_take]; rfl)) ?_; (with_reducible refine (laws_eqCode.calls k _ _ t354 t357 _ _ t345 t348 false _ ?side1 ?side2 ?side3 ?side4 A22.out).mono ?_); (case side1 => refine (Kd.R_reads' (e := 109) (base := w.heap.size) (ok := fun k_ => True) (n := t354.length) (c := co19) ?_).2.2; exact (by (with_reducible repeat (first | apply Kd.R_alloc | apply Kd.R_drewN | apply Kd.R_drew)); exact (Kd.R_mono (Kd.R_far (p := ⟨gb359, 1, none⟩) (Kd.R_far (p := ⟨gb359, 0, none⟩) (Kd.R_types HO356.out BK359.out (by decide)) (fun _ hk => hk.2) (.slice Ao19 t354.length co19)) (fun _ hk => hk.2) (.int .i64 t357)) (fun _ h_ => h_.1)))); (case side2 => exact (Kd.R_reads' HO356.out).2.1); (case side3 => refine (Kd.V_reads' (e := 109) (base := w.heap.size) (ok := fun k_ => ((((some k_ ≠ (.slice Ao10 t342.length co10 : Value).ownBlock ∧ k_ ≠ gb350) ∧ some k_ ≠ (.slice Ao16 t351.length co16 : Value).ownBlock) ∧ some k_ ≠ (.slice Ao19 t354.length co19 : Value).ownBlock) ∧ k_ ≠ gb359)) (n := t345.length) (c := co13) ?_).2.2; exact (by (with_reducible repeat (first | apply Kd.V_alloc | apply Kd.V_drewN | apply Kd.V_drew)); exact (Kd.V_mono (Kd.V_far (p := ⟨gb359, 1, none⟩) (Kd.V_far (p := ⟨gb359, 0, none⟩) (Kd.V_mono HO347.out (fun k_ hk => (⟨hk, hk.2⟩ : _ ∧ k_ ≠ gb359))) (fun _ hk => hk.2) (.slice Ao19 t354.length co19)) (fun _ hk => hk.2) (.int .i64 t357)) (fun _ h_ => h_.1)))); (case side4 => exact (Kd.V_reads' HO347.out).2.1); rintro e w31 ⟨rfl, hb⟩; refine ⟨_, rfl, ?_⟩; have n0_ := Aside0.mk (Kd.R_below (by (with_reducible repeat (first | apply Kd.R_alloc | apply Kd.R_drewN | apply Kd.R_drew)); exact (Kd.R_mono (Kd.R_far (p := ⟨gb359, 1, none⟩) (Kd.R_far (p := ⟨gb359, 0, none⟩) (Kd.R_types HO344.out BK359.out (by decide)) (fun _ hk => hk.2) (.slice Ao19 t354.length co19)) (fun _ hk => hk.2) (.int .i64 t357)) (fun _ h_ => h_.1))) hb); have n1_ := Aside0.mk (Kd.V_below (by (with_reducible repeat (first | apply Kd.V_alloc | apply Kd.V_drewN | apply Kd.V_drew)); exact (Kd.V_mono (Kd.V_far (p := ⟨gb359, 1, none⟩) (Kd.V_far (p := ⟨gb359, 0, none⟩) (Kd.V_mono HO347.out (fun k_ hk => (⟨hk, hk.2⟩ : _ ∧ k_ ≠ gb359))) (fun _ hk => hk.2) (.slice Ao19 t354.length co19)) (fun _ hk => hk.2) (.int .i64 t357)) (fun _ h_ => h_.1))) hb); have n2_ := Aside0.mk (Kd.R_below (by (with_reducible repeat (first | apply Kd.R_alloc | apply Kd.R_drewN | apply Kd.R_drew)); exact (Kd.R_mono (Kd.R_far (p := ⟨gb359, 1, none⟩) (Kd.R_far (p := ⟨gb359, 0, none⟩) (Kd.R_types HO353.out BK359.out (by decide)) (fun _ hk => hk.2) (.slice Ao19 t354.length co19)) (fun _ hk => hk.2) (.int .i64 t357)) (fun _ h_ => h_.1))) hb); have n3_ := Aside0.mk (Kd.R_below (by (with_reducible repeat (first | apply Kd.R_alloc | apply Kd.R_drewN | apply Kd.R_drew)); exact (Kd.R_mono (Kd.R_far (p := ⟨gb359, 1, none⟩) (Kd.R_far (p := ⟨gb359, 0, none⟩) (Kd.R_types HO356.out BK359.out (by decide)) (fun _ hk => hk.2) (.slice Ao19 t354.length co19)) (fun _ hk => hk.2) (.int .i64 t357)) (fun _ h_ => h_.1))) hb); have n4_ := Aside0.mk (blk_below (g := gb350) (o := .cells #[.slice Ao13 t345.length co13, .int .i64 t348] 32 (0, 0)) (by (with_reducible repeat (first | refine blk_drewN ?_ _ | refine blk_drew ?_ | refine blk_alloc ?_ _)); refine blk_far ?_ NB350_359.out _; (with_reducible repeat (first | refine blk_drewN ?_ _ | refine blk_drew ?_ | refine blk_alloc ?_ _)); refine blk_far ?_ NB350_359.out _; (with_reducible repeat (first | refine blk_drewN ?_ _ | refine blk_drew ?_ | refine blk_alloc ?_ _)); exact BK350.out) hb); have n5_ := Aside0.mk (blk_below (g := gb359) (o := .cells #[.slice Ao19 t354.length co19, .int .i64 t357] 32 (0, 0)) (by (with_reducible repeat (first | refine blk_drewN ?_ _ | refine blk_drew ?_ | refine blk_alloc ?_ _)); refine blk_put (cs := #[.slice Ao19 t354.length co19, .int .i64 0]) ?_ 1 _ rfl; (with_reducible repeat (first | refine blk_drewN ?_ _ | refine blk_drew ?_ | refine blk_alloc ?_ _)); refine blk_put (cs := #[.slice none 0 0, .int .i64 0]) ?_ 0 _ rfl; (with_reducible repeat (first | refine blk_drewN ?_ _ | refine blk_drew ?_ | refine blk_alloc ?_ _)); exact BK359.out) hb); have n6_ := Aside0.mk (below_step (by repeat (first | (with_reducible first | exact HB.out | apply below_alloc | apply pw_below_drewN | apply below_drew1 | refine below_set ?_ GE350.out | refine below_set ?_ GE359.out) | exact HB.out)) hb); clear HO344; clear HO347; clear HO353; clear HO356; clear BK350; clear BK359; clear HB; have HO344 := n0_; have HO347 := n1_; have HO353 := n2_; have HO356 := n3_; have BK350 := n4_; have BK359 := n5_; have HB := n6_; clear n0_ n1_ n2_ n3_ n4_ n5_ n6_; (try clear hb); (try clear hb2); (try clear hk); (try clear hi)))
        go_meet
        case rel => exact ⟨_, (true), (by first | rfl | (simp; done) | (simp [*]; done)), H', ⟨by first | omega | exact Nat.le_refl _⟩, ⟨by (with_reducible repeat (first | apply Kd.R_alloc | apply Kd.R_drewN | apply Kd.R_drew)); exact Kd.R_mono HO353.out (fun _ hk => trivial)⟩, ⟨by (with_reducible repeat (first | apply Kd.V_alloc | apply Kd.V_drewN | apply Kd.V_drew)); exact Kd.V_mono HO347.out (fun _ hk => ⟨hk.1.1.2, ⟨hk.1.2, ⟨hk.1.1.1.2, hk.2⟩⟩⟩)⟩, ⟨by (with_reducible repeat (first | apply Kd.R_alloc | apply Kd.R_drewN | apply Kd.R_drew)); exact HO356.out⟩, ⟨by (with_reducible repeat (first | refine blk_drewN ?_ _ | refine blk_drew ?_ | refine blk_alloc ?_ _)); exact BK350.out⟩, ⟨by (with_reducible repeat (first | refine blk_drewN ?_ _ | refine blk_drew ?_ | refine blk_alloc ?_ _)); exact BK359.out⟩, ⟨by repeat (first | (with_reducible first | exact HB.out | apply below_alloc | apply pw_below_drewN | apply below_drew1 | refine below_set ?_ GE350.out | refine below_set ?_ GE359.out) | exact HB.out)⟩⟩
    case rest =>
      clear HC8
      try clear c2
      try clear p2
      try clear c3
      try clear c3b0
      try clear c3b1
      try clear c4
      try clear c20
      try clear c23
      try clear c24
      try clear c25
      try clear c26
      try clear c27
      try clear c28
      try clear hcz14_0
      try clear hcz14_1
      try clear hcz21_0
      try clear hcz21_1
      try clear hcz25_0
      try clear hcz25_1
      try clear hcz26_0
      try clear hcz26_1
      try clear hcz29_0
      try clear hcz29_1
      try clear hcz30_0
      try clear hcz30_1
      try clear hfz14_0
      try clear hfz14_1
      try clear hfz21_0
      try clear hfz21_1
      try clear hfz25_0
      try clear hfz25_1
      try clear hfz26_0
      try clear hfz26_1
      try clear hfz29_0
      try clear hfz29_1
      try clear hfz30_0
      try clear hfz30_1
      obtain ⟨kq, x41_7, rfl, HA, HJ7, HO_7, HO_351000, HO_360000, BK350, BK359, HB⟩ := hcut
      cases kq with
      | zero => exact absurd HA.out (by simp [laws_FnExactGiantCode.j0])
      | succ kj7 =>
        have H := HA.out
        clear HA
        simp only [laws_FnExactGiantCode.j0] at H
        by_cases c32 : x41_7 = true
        · subst c32
          have H1 : (some false) = some r := by rw [if_pos rfl] at H; exact H
          clear H
          have H := H1
          clear H1
          obtain rfl := Option.some.inj H
          go_wp2
          go_ret
          exact ⟨by first | rfl | (simp [errW_none, errW_some] <;> rfl) | (simp [*, errW_none, errW_some] <;> rfl), by repeat (first | (with_reducible first | exact HB.out | apply below_alloc | apply pw_below_drewN | apply below_drew1 | refine below_set ?_ GE350.out | refine below_set ?_ GE359.out) | exact HB.out)⟩
        · replace c32 := Bool.eq_false_iff.mpr c32
          subst c32
          have H1 : ((laws_toIntS.f kj7 l0).bind fun t361 => ((laws_eqIntS.f kj7 t351 t361).bind fun t364 => (if t364 = true then ((laws_markIntS.f kj7 t351 1).bind fun bt365 => (if bt365.1 < 0 then (laws_FnExactGiantCode.j1 kj7 l0 a1 t349 true t345 t348 t354 t357) else ((laws_eqCode.f kj7 t354 t357 t345 t348).bind fun t367 => (if t367 = true then (laws_FnExactGiantCode.j1 kj7 l0 a1 t349 (t358 != t349) t345 t348 t354 t357) else (laws_FnExactGiantCode.j1 kj7 l0 a1 t349 true t345 t348 t354 t357))))) else (some false)))) = some r := by rw [if_neg (show ¬ (false = true) by decide)] at H; exact H
          clear H
          have H := H1
          clear H1
          replace H := Option.bind_eq_some_iff.mp H
          obtain ⟨t361, A330, H⟩ := H
          replace H : ((laws_eqIntS.f kj7 t351 t361).bind fun t364 => (if t364 = true then ((laws_markIntS.f kj7 t351 1).bind fun bt365 => (if bt365.1 < 0 then (laws_FnExactGiantCode.j1 kj7 l0 a1 t349 true t345 t348 t354 t357) else ((laws_eqCode.f kj7 t354 t357 t345 t348).bind fun t367 => (if t367 = true then (laws_FnExactGiantCode.j1 kj7 l0 a1 t349 (t358 != t349) t345 t348 t354 t357) else (laws_FnExactGiantCode.j1 kj7 l0 a1 t349 true t345 t348 t354 t357))))) else (some false))) = some r := H
          have A33 := Aside0.mk A330
          clear A330
          replace H := Option.bind_eq_some_iff.mp H
          obtain ⟨t364, A340, H⟩ := H
          replace H : (if t364 = true then ((laws_markIntS.f kj7 t351 1).bind fun bt365 => (if bt365.1 < 0 then (laws_FnExactGiantCode.j1 kj7 l0 a1 t349 true t345 t348 t354 t357) else ((laws_eqCode.f kj7 t354 t357 t345 t348).bind fun t367 => (if t367 = true then (laws_FnExactGiantCode.j1 kj7 l0 a1 t349 (t358 != t349) t345 t348 t354 t357) else (laws_FnExactGiantCode.j1 kj7 l0 a1 t349 true t345 t348 t354 t357))))) else (some false)) = some r := H
          have A34 := Aside0.mk A340
          clear A340
          by_cases c35 : t364 = true
          · subst c35
            have H1 : ((laws_markIntS.f kj7 t351 1).bind fun bt365 => (if bt365.1 < 0 then (laws_FnExactGiantCode.j1 kj7 l0 a1 t349 true t345 t348 t354 t357) else ((laws_eqCode.f kj7 t354 t357 t345 t348).bind fun t367 => (if t367 = true then (laws_FnExactGiantCode.j1 kj7 l0 a1 t349 (t358 != t349) t345 t348 t354 t357) else (laws_FnExactGiantCode.j1 kj7 l0 a1 t349 true t345 t348 t354 t357))))) = some r := by rw [if_pos rfl] at H; exact H
            clear H
            have H := H1
            clear H1
            replace H := Option.bind_eq_some_iff.mp H
            obtain ⟨⟨t365, t366⟩, A360, H⟩ := H
            replace H : (if t365 < 0 then (laws_FnExactGiantCode.j1 kj7 l0 a1 t349 true t345 t348 t354 t357) else ((laws_eqCode.f kj7 t354 t357 t345 t348).bind fun t367 => (if t367 = true then (laws_FnExactGiantCode.j1 kj7 l0 a1 t349 (t358 != t349) t345 t348 t354 t357) else (laws_FnExactGiantCode.j1 kj7 l0 a1 t349 true t345 t348 t354 t357)))) = some r := H
            have A36 := Aside0.mk A360
            clear A360
            have HC37 := Aside0.mk H
            clear H
            go_upto_region 12 with (first | ((with_reducible refine gate_callee (f := 26) rfl ?_); refine goesL_ (some 44) rfl rfl Try.func26 (by kernel_rfl) rfl #[.slice A0 l0.length c0] rfl (by (try simp only [List.map_toArray, List.map_cons, List.map_nil]); first | done | rfl | (simp only [List.length_drop, List.length_take]; rfl)) ?_; (with_reducible refine (laws_toIntS.calls kj7 _ _ l0 t361 _ ?side1 ?side2 A33.out).mono ?_); (case side1 => repeat (first | exact (Kd.C_below HR0.out HB.out) | (with_reducible refine Kd.C_alloc ?_ _) | (with_reducible refine Kd.C_drewN ?_ _) | (with_reducible refine Kd.C_drew ?_))); (case side2 => exact HC0.out); rintro e w38 ⟨v362, rfl, ho0, hb⟩; refine ⟨_, rfl, ?_⟩; have n0_ := Aside0.mk (Kd.R_elder' (by (with_reducible repeat (first | apply Kd.R_alloc | apply Kd.R_drewN | apply Kd.R_drew)); exact HO_7.out) (Kd.R_base ho0) hb); have n1_ := Aside0.mk (Kd.V_elder' (by (with_reducible repeat (first | apply Kd.V_alloc | apply Kd.V_drewN | apply Kd.V_drew)); exact HO_351000.out) (Kd.R_base ho0) hb); have n2_ := Aside0.mk (Kd.R_below (by (with_reducible repeat (first | apply Kd.R_alloc | apply Kd.R_drewN | apply Kd.R_drew)); exact HO_360000.out) hb); have n3_ := Aside0.mk (Kd.R_lower (Kd.R_new' ho0 (Kd.R_lt (by (with_reducible repeat (first | apply Kd.R_alloc | apply Kd.R_drewN | apply Kd.R_drew)); exact HO_7.out))) (below_size (by repeat (first | (with_reducible first | exact HB.out | apply below_alloc | apply pw_below_drewN | apply below_drew1 | refine below_set ?_ GE350.out | refine below_set ?_ GE359.out) | exact HB.out)))); have n4_ := Aside0.mk (blk_below (g := gb350) (o := .cells #[.slice Ao13 t345.length co13, .int .i64 t348] 32 (0, 0)) (by (with_reducible repeat (first | refine blk_drewN ?_ _ | refine blk_drew ?_ | refine blk_alloc ?_ _)); exact BK350.out) hb); have n5_ := Aside0.mk (blk_below (g := gb359) (o := .cells #[.slice Ao19 t354.length co19, .int .i64 t357] 32 (0, 0)) (by (with_reducible repeat (first | refine blk_drewN ?_ _ | refine blk_drew ?_ | refine blk_alloc ?_ _)); exact BK359.out) hb); have n6_ := Aside0.mk (below_step (by repeat (first | (with_reducible first | exact HB.out | apply below_alloc | apply pw_below_drewN | apply below_drew1 | refine below_set ?_ GE350.out | refine below_set ?_ GE359.out) | exact HB.out)) hb); clear HO_7; clear HO_351000; clear HO_360000; clear BK350; clear BK359; clear HB; have HO_7 := n0_; have HO_351000 := n1_; have HO_360000 := n2_; have HO363 := n3_; have BK350 := n4_; have BK359 := n5_; have HB := n6_; clear n0_ n1_ n2_ n3_ n4_ n5_ n6_; (try clear hb); (try clear hb2); (try clear hk); (try clear hi); (try clear ho0); obtain ⟨Ao39, co39, eo39⟩ := Kd.R_slice HO363.out; subst eo39) | ((with_reducible refine gate_callee (f := 28) rfl ?_); refine goesL_ (some 45) rfl rfl Try.func28 (by kernel_rfl) rfl #[.slice Ao16 t351.length co16, .slice Ao39 t361.length co39] rfl (by (try simp only [List.map_toArray, List.map_cons, List.map_nil]); first | done | rfl | (simp only [List.length_drop, List.length_take]; rfl)) ?_; (with_reducible refine (laws_eqIntS.calls kj7 _ _ t351 _ _ t361 true _ ?side1 ?side2 ?side3 ?side4 A34.out).mono ?_); (case side1 => repeat (first | exact (Kd.R_reads' HO_7.out).2.2 | (with_reducible refine Kd.C_alloc ?_ _) | (with_reducible refine Kd.C_drewN ?_ _) | (with_reducible refine Kd.C_drew ?_))); (case side2 => exact (Kd.R_reads' HO_7.out).2.1); (case side3 => repeat (first | exact (Kd.R_reads' HO363.out).2.2 | (with_reducible refine Kd.C_alloc ?_ _) | (with_reducible refine Kd.C_drewN ?_ _) | (with_reducible refine Kd.C_drew ?_))); (case side4 => exact (Kd.R_reads' HO363.out).2.1); rintro e w' ⟨rfl, ⟨nd, rfl⟩⟩; refine ⟨_, rfl, ?_⟩) | ((with_reducible refine gate_callee (f := 29) rfl ?_); refine goesL_ (some 49) rfl rfl Try.func29 (by kernel_rfl) rfl #[.slice Ao16 t351.length co16, .int .i64 1] rfl (by (try simp only [List.map_toArray, List.map_cons, List.map_nil]); first | done | rfl | (simp only [List.length_drop, List.length_take]; rfl)) ?_; (with_reducible refine (laws_markIntS.calls kj7 (fun k_ => some k_ = (.slice Ao16 t351.length co16 : Value).ownBlock) (.slice Ao16 t351.length co16) t351 1 t365 t366 w _ ?side1 ?side2 A36.out).mono ?_); (case side1 => repeat (first | (with_reducible first | exact HB.out | apply below_alloc | apply pw_below_drewN | apply below_drew1 | refine below_set ?_ GE350.out | refine below_set ?_ GE359.out) | exact HB.out)); (case side2 => exact Kd.R_tight rfl HO_7.out); rintro e w40 ⟨rfl, hy0, hb, hkp⟩; refine ⟨_, rfl, ?_⟩; have n0_ := Aside0.mk (Kd.R_reok rfl hy0 (fun k_ e_ => HO_7.out.1 k_ e_)); have n1_ := Aside0.mk (Kd.V_mono (ok' := fun k_ => some k_ ≠ (.slice Ao16 t351.length co16 : Value).ownBlock ∧ some k_ ≠ (.slice Ao19 t354.length co19 : Value).ownBlock ∧ some k_ ≠ (.slice Ao39 t361.length co39 : Value).ownBlock ∧ k_ ≠ gb350 ∧ k_ ≠ gb359) (Kd.V_keptB (HO_351000.out) hkp (fun k_ hk_ hs_ => (hk_.1.1) hs_)) (fun k_ hk_ => ⟨hk_.1.1.1, hk_.1.1.2.1, hk_.1.2, hk_.1.1.2.2.1, hk_.1.1.2.2.2⟩)); have n2_ := Aside0.mk (Kd.R_mono (ok' := fun k_ => True) (Kd.R_keptB ((Kd.R_apart' HO_360000.out (Kd.R_typed HO_7.out) (by decide))) hkp (fun k_ hk_ hs_ => (hk_.2) hs_)) (fun k_ hk_ => trivial)); have n3_ := Aside0.mk (blk_kept (by (with_reducible repeat (first | refine blk_drewN ?_ _ | refine blk_drew ?_ | refine blk_alloc ?_ _)); exact BK350.out) hkp (fun hs_ => (fun e_ => (Kd.R_ne HO_7.out BK350.out (by decide)) e_) hs_)); have n4_ := Aside0.mk (blk_kept (by (with_reducible repeat (first | refine blk_drewN ?_ _ | refine blk_drew ?_ | refine blk_alloc ?_ _)); exact BK359.out) hkp (fun hs_ => (fun e_ => (Kd.R_ne HO_7.out BK359.out (by decide)) e_) hs_)); have n5_ := Aside0.mk (Kd.R_mono (ok' := fun k_ => some k_ ≠ (.slice Ao16 t351.length co16 : Value).ownBlock) (Kd.R_keptB (HO363.out) hkp (fun k_ hk_ hs_ => (hk_.2) hs_)) (fun k_ hk_ => hk_.1.2)); have n6_ := Aside0.mk (hb); clear HO_7; clear HO_351000; clear HO_360000; clear BK350; clear BK359; clear HO363; clear HB; have HO_7 := n0_; have HO_351000 := n1_; have HO_360000 := n2_; have BK350 := n3_; have BK359 := n4_; have HO363 := n5_; have HB := n6_; clear n0_ n1_ n2_ n3_ n4_ n5_ n6_; (try clear hb); (try clear hkp); (try clear hy0)))
            (try simp only [Act.put, List.setIfInBounds_toArray, List.set_cons_zero, List.set_cons_succ])
            go_cut [62] (fun v62 wc => ∃ (kq : Nat) (x62_36 : Bool), v62 = .bool x62_36 ∧ Aside0 (laws_FnExactGiantCode.j1 kq l0 a1 t349 x62_36 t345 t348 t354 t357 = some r) ∧ Aside0 (kq ≤ kj7) ∧ Aside0 (Kd.V k109 109 wc w.heap.size (fun k_ => some k_ ≠ ((.slice Ao19 t354.length co19) : Value).ownBlock ∧ k_ ≠ gb350 ∧ k_ ≠ gb359) (.slice Ao13 t345.length co13) t345) ∧ Aside0 (Kd.R k109 109 wc w.heap.size (fun _ => True) (.slice Ao19 t354.length co19) t354) ∧ Aside0 (wc.heap[gb350]? = some (.cells #[(.slice Ao13 t345.length co13), .int .i64 t348] 32 (0, 0))) ∧ Aside0 (wc.heap[gb359]? = some (.cells #[(.slice Ao19 t354.length co19), .int .i64 t357] 32 (0, 0))) ∧ Aside0 (Below w.heap.size w wc))
            case first =>
              have H := HC37.out
              clear HC37
              by_cases c41 : t365 < 0
              · rw [if_pos c41] at H
                have c41b0 : decide (t365 < 0) = true := decide_eq_true c41
                clear c41
                (first | rw [c41b0] | (simp only [i64_w, i32_w]; rw [c41b0]) | skip)
                have H' := Aside0.mk H
                clear H
                go_wp2
                go_meet
                case rel => exact ⟨_, (true), (by first | rfl | (simp; done) | (simp [*]; done)), H', ⟨by have := HJ7.out; first | omega | exact Nat.le_refl _⟩, ⟨by (with_reducible repeat (first | apply Kd.V_alloc | apply Kd.V_drewN | apply Kd.V_drew)); exact Kd.V_mono HO_351000.out (fun _ hk => ⟨hk.2.1, ⟨hk.2.2.2.1, hk.2.2.2.2⟩⟩)⟩, ⟨by (with_reducible repeat (first | apply Kd.R_alloc | apply Kd.R_drewN | apply Kd.R_drew)); exact HO_360000.out⟩, ⟨by (with_reducible repeat (first | refine blk_drewN ?_ _ | refine blk_drew ?_ | refine blk_alloc ?_ _)); exact BK350.out⟩, ⟨by (with_reducible repeat (first | refine blk_drewN ?_ _ | refine blk_drew ?_ | refine blk_alloc ?_ _)); exact BK359.out⟩, ⟨by repeat (first | (with_reducible first | exact HB.out | apply below_alloc | apply pw_below_drewN | apply below_drew1 | refine below_set ?_ GE350.out | refine below_set ?_ GE359.out) | exact HB.out)⟩⟩
              · rw [if_neg c41] at H
                have c41b0 : decide (t365 < 0) = false := decide_eq_false c41
                clear c41
                (first | rw [c41b0] | (simp only [i64_w, i32_w]; rw [c41b0]) | skip)
                replace H := Option.bind_eq_some_iff.mp H
                obtain ⟨t367, A420, H⟩ := H
                replace H : (if t367 = true then (laws_FnExactGiantCode.j1 kj7 l0 a1 t349 (t358 != t349) t345 t348 t354 t357) else (laws_FnExactGiantCode.j1 kj7 l0 a1 t349 true t345 t348 t354 t357)) = some r := H
                have A42 := Aside0.mk A420
                clear A420
                by_cases c43 : t367 = true
                · subst c43
                  have H1 : (laws_FnExactGiantCode.j1 kj7 l0 a1 t349 (t358 != t349) t345 t348 t354 t357) = some r := by rw [if_pos rfl] at H; exact H
                  clear H
                  have H := H1
                  clear H1
                  have H' := Aside0.mk H
                  clear H
                  have hnb44 := NB359_350.out
                  have hnc44 := NB350_359.out
                  have hcz45_0 : w40.cell? ⟨gb359, 0, none⟩ = some (.slice Ao19 t354.length co19) := (blk_cell BK359.out 0).trans rfl
                  have hcz45_1 : w40.cell? ⟨gb359, 1, none⟩ = some (.int .i64 t357) := (blk_cell BK359.out 1).trans rfl
                  have hfz45_0 := blk_frozen BK359.out 0
                  have hfz45_1 := blk_frozen BK359.out 1
                  have hcz46_0 : w40.cell? ⟨gb350, 0, none⟩ = some (.slice Ao13 t345.length co13) := (blk_cell BK350.out 0).trans rfl
                  have hcz46_1 : w40.cell? ⟨gb350, 1, none⟩ = some (.int .i64 t348) := (blk_cell BK350.out 1).trans rfl
                  have hfz46_0 := blk_frozen BK350.out 0
                  have hfz46_1 := blk_frozen BK350.out 1
                  go_wp2_with (first | (go_at_call 27; (with_reducible refine (laws_eqCode.calls kj7 _ _ t354 t357 _ _ t345 t348 true _ ?side1 ?side2 ?side3 ?side4 A42.out).mono ?_); (case side1 => repeat (first | exact (Kd.R_reads' HO_360000.out).2.2 | (with_reducible refine Kd.C_alloc ?_ _) | (with_reducible refine Kd.C_drewN ?_ _) | (with_reducible refine Kd.C_drew ?_))); (case side2 => exact (Kd.R_reads' HO_360000.out).2.1); (case side3 => repeat (first | exact (Kd.V_reads' HO_351000.out).2.2 | (with_reducible refine Kd.C_alloc ?_ _) | (with_reducible refine Kd.C_drewN ?_ _) | (with_reducible refine Kd.C_drew ?_))); (case side4 => exact (Kd.V_reads' HO_351000.out).2.1); rintro e w47 ⟨rfl, hb⟩; have n0_ := Aside0.mk (Kd.R_below (by (with_reducible repeat (first | apply Kd.R_alloc | apply Kd.R_drewN | apply Kd.R_drew)); exact HO_7.out) hb); have n1_ := Aside0.mk (Kd.V_below (by (with_reducible repeat (first | apply Kd.V_alloc | apply Kd.V_drewN | apply Kd.V_drew)); exact HO_351000.out) hb); have n2_ := Aside0.mk (Kd.R_below (by (with_reducible repeat (first | apply Kd.R_alloc | apply Kd.R_drewN | apply Kd.R_drew)); exact HO_360000.out) hb); have n3_ := Aside0.mk (Kd.R_below (by (with_reducible repeat (first | apply Kd.R_alloc | apply Kd.R_drewN | apply Kd.R_drew)); exact HO363.out) hb); have n4_ := Aside0.mk (blk_below (g := gb350) (o := .cells #[.slice Ao13 t345.length co13, .int .i64 t348] 32 (0, 0)) (by (with_reducible repeat (first | refine blk_drewN ?_ _ | refine blk_drew ?_ | refine blk_alloc ?_ _)); exact BK350.out) hb); have n5_ := Aside0.mk (blk_below (g := gb359) (o := .cells #[.slice Ao19 t354.length co19, .int .i64 t357] 32 (0, 0)) (by (with_reducible repeat (first | refine blk_drewN ?_ _ | refine blk_drew ?_ | refine blk_alloc ?_ _)); exact BK359.out) hb); have n6_ := Aside0.mk (below_step (by repeat (first | (with_reducible first | exact HB.out | apply below_alloc | apply pw_below_drewN | apply below_drew1 | refine below_set ?_ GE350.out | refine below_set ?_ GE359.out) | exact HB.out)) hb); clear HO_7; clear HO_351000; clear HO_360000; clear HO363; clear BK350; clear BK359; clear HB; have HO_7 := n0_; have HO_351000 := n1_; have HO_360000 := n2_; have HO363 := n3_; have BK350 := n4_; have BK359 := n5_; have HB := n6_; clear n0_ n1_ n2_ n3_ n4_ n5_ n6_; (try clear hb); (try clear hb2); (try clear hk); (try clear hi)))
                  go_meet
                  case rel => exact ⟨_, ((t358 != t349)), (by first | rfl | (simp; done) | (simp [*]; done)), H', ⟨by have := HJ7.out; first | omega | exact Nat.le_refl _⟩, ⟨by (with_reducible repeat (first | apply Kd.V_alloc | apply Kd.V_drewN | apply Kd.V_drew)); exact Kd.V_mono HO_351000.out (fun _ hk => ⟨hk.2.1, ⟨hk.2.2.2.1, hk.2.2.2.2⟩⟩)⟩, ⟨by (with_reducible repeat (first | apply Kd.R_alloc | apply Kd.R_drewN | apply Kd.R_drew)); exact HO_360000.out⟩, ⟨by (with_reducible repeat (first | refine blk_drewN ?_ _ | refine blk_drew ?_ | refine blk_alloc ?_ _)); exact BK350.out⟩, ⟨by (with_reducible repeat (first | refine blk_drewN ?_ _ | refine blk_drew ?_ | refine blk_alloc ?_ _)); exact BK359.out⟩, ⟨by repeat (first | (with_reducible first | exact HB.out | apply below_alloc | apply pw_below_drewN | apply below_drew1 | refine below_set ?_ GE350.out | refine below_set ?_ GE359.out) | exact HB.out)⟩⟩
                · replace c43 := Bool.eq_false_iff.mpr c43
                  subst c43
                  have H1 : (laws_FnExactGiantCode.j1 kj7 l0 a1 t349 true t345 t348 t354 t357) = some r := by rw [if_neg (show ¬ (false = true) by decide)] at H; exact H
                  clear H
                  have H := H1
                  clear H1
                  have H' := Aside0.mk H
                  clear H
                  have hnb48 := NB359_350.out
                  have hnc48 := NB350_359.out
                  have hcz49_0 : w40.cell? ⟨gb359, 0, none⟩ = some (.slice Ao19 t354.length co19) := (blk_cell BK359.out 0).trans rfl
                  have hcz49_1 : w40.cell? ⟨gb359, 1, none⟩ = some (.int .i64 t357) := (blk_cell BK359.out 1).trans rfl
                  have hfz49_0 := blk_frozen BK359.out 0
                  have hfz49_1 := blk_frozen BK359.out 1
                  have hcz50_0 : w40.cell? ⟨gb350, 0, none⟩ = some (.slice Ao13 t345.length co13) := (blk_cell BK350.out 0).trans rfl
                  have hcz50_1 : w40.cell? ⟨gb350, 1, none⟩ = some (.int .i64 t348) := (blk_cell BK350.out 1).trans rfl
                  have hfz50_0 := blk_frozen BK350.out 0
                  have hfz50_1 := blk_frozen BK350.out 1
                  go_wp2_with (first | (go_at_call 27; (with_reducible refine (laws_eqCode.calls kj7 _ _ t354 t357 _ _ t345 t348 false _ ?side1 ?side2 ?side3 ?side4 A42.out).mono ?_); (case side1 => repeat (first | exact (Kd.R_reads' HO_360000.out).2.2 | (with_reducible refine Kd.C_alloc ?_ _) | (with_reducible refine Kd.C_drewN ?_ _) | (with_reducible refine Kd.C_drew ?_))); (case side2 => exact (Kd.R_reads' HO_360000.out).2.1); (case side3 => repeat (first | exact (Kd.V_reads' HO_351000.out).2.2 | (with_reducible refine Kd.C_alloc ?_ _) | (with_reducible refine Kd.C_drewN ?_ _) | (with_reducible refine Kd.C_drew ?_))); (case side4 => exact (Kd.V_reads' HO_351000.out).2.1); rintro e w51 ⟨rfl, hb⟩; have n0_ := Aside0.mk (Kd.R_below (by (with_reducible repeat (first | apply Kd.R_alloc | apply Kd.R_drewN | apply Kd.R_drew)); exact HO_7.out) hb); have n1_ := Aside0.mk (Kd.V_below (by (with_reducible repeat (first | apply Kd.V_alloc | apply Kd.V_drewN | apply Kd.V_drew)); exact HO_351000.out) hb); have n2_ := Aside0.mk (Kd.R_below (by (with_reducible repeat (first | apply Kd.R_alloc | apply Kd.R_drewN | apply Kd.R_drew)); exact HO_360000.out) hb); have n3_ := Aside0.mk (Kd.R_below (by (with_reducible repeat (first | apply Kd.R_alloc | apply Kd.R_drewN | apply Kd.R_drew)); exact HO363.out) hb); have n4_ := Aside0.mk (blk_below (g := gb350) (o := .cells #[.slice Ao13 t345.length co13, .int .i64 t348] 32 (0, 0)) (by (with_reducible repeat (first | refine blk_drewN ?_ _ | refine blk_drew ?_ | refine blk_alloc ?_ _)); exact BK350.out) hb); have n5_ := Aside0.mk (blk_below (g := gb359) (o := .cells #[.slice Ao19 t354.length co19, .int .i64 t357] 32 (0, 0)) (by (with_reducible repeat (first | refine blk_drewN ?_ _ | refine blk_drew ?_ | refine blk_alloc ?_ _)); exact BK359.out) hb); have n6_ := Aside0.mk (below_step (by repeat (first | (with_reducible first | exact HB.out | apply below_alloc | apply pw_below_drewN | apply below_drew1 | refine below_set ?_ GE350.out | refine below_set ?_ GE359.out) | exact HB.out)) hb); clear HO_7; clear HO_351000; clear HO_360000; clear HO363; clear BK350; clear BK359; clear HB; have HO_7 := n0_; have HO_351000 := n1_; have HO_360000 := n2_; have HO363 := n3_; have BK350 := n4_; have BK359 := n5_; have HB := n6_; clear n0_ n1_ n2_ n3_ n4_ n5_ n6_; (try clear hb); (try clear hb2); (try clear hk); (try clear hi)))
                  go_meet
                  case rel => exact ⟨_, (true), (by first | rfl | (simp; done) | (simp [*]; done)), H', ⟨by have := HJ7.out; first | omega | exact Nat.le_refl _⟩, ⟨by (with_reducible repeat (first | apply Kd.V_alloc | apply Kd.V_drewN | apply Kd.V_drew)); exact Kd.V_mono HO_351000.out (fun _ hk => ⟨hk.2.1, ⟨hk.2.2.2.1, hk.2.2.2.2⟩⟩)⟩, ⟨by (with_reducible repeat (first | apply Kd.R_alloc | apply Kd.R_drewN | apply Kd.R_drew)); exact HO_360000.out⟩, ⟨by (with_reducible repeat (first | refine blk_drewN ?_ _ | refine blk_drew ?_ | refine blk_alloc ?_ _)); exact BK350.out⟩, ⟨by (with_reducible repeat (first | refine blk_drewN ?_ _ | refine blk_drew ?_ | refine blk_alloc ?_ _)); exact BK359.out⟩, ⟨by repeat (first | (with_reducible first | exact HB.out | apply below_alloc | apply pw_below_drewN | apply below_drew1 | refine below_set ?_ GE350.out | refine below_set ?_ GE359.out) | exact HB.out)⟩⟩
            case rest =>
              clear HC37
              try clear c2
              try clear p2
              try clear c3
              try clear c3b0
              try clear c3b1
              try clear c4
              try clear c20
              try clear c23
              try clear c24
              try clear c25
              try clear c26
              try clear c27
              try clear c28
              try clear c29
              try clear c32
              try clear c35
              try clear c41
              try clear c41b0
              try clear c43
              try clear c44
              try clear c48
              try clear hcz14_0
              try clear hcz14_1
              try clear hcz21_0
              try clear hcz21_1
              try clear hcz25_0
              try clear hcz25_1
              try clear hcz26_0
              try clear hcz26_1
              try clear hcz29_0
              try clear hcz29_1
              try clear hcz30_0
              try clear hcz30_1
              try clear hcz45_0
              try clear hcz45_1
              try clear hcz46_0
              try clear hcz46_1
              try clear hcz49_0
              try clear hcz49_1
              try clear hcz50_0
              try clear hcz50_1
              try clear hfz14_0
              try clear hfz14_1
              try clear hfz21_0
              try clear hfz21_1
              try clear hfz25_0
              try clear hfz25_1
              try clear hfz26_0
              try clear hfz26_1
              try clear hfz29_0
              try clear hfz29_1
              try clear hfz30_0
              try clear hfz30_1
              try clear hfz45_0
              try clear hfz45_1
              try clear hfz46_0
              try clear hfz46_1
              try clear hfz49_0
              try clear hfz49_1
              try clear hfz50_0
              try clear hfz50_1
              try clear p2
              obtain ⟨kq, x62_36, rfl, HA, HJ36, HO_351000, HO_360000, BK350, BK359, HB⟩ := hcut
              cases kq with
              | zero => exact absurd HA.out (by simp [laws_FnExactGiantCode.j1])
              | succ kj36 =>
                have H := HA.out
                clear HA
                simp only [laws_FnExactGiantCode.j1] at H
                by_cases c52 : x62_36 = true
                · subst c52
                  have H1 : (some false) = some r := by rw [if_pos rfl] at H; exact H
                  clear H
                  have H := H1
                  clear H1
                  obtain rfl := Option.some.inj H
                  go_wp2
                  go_ret
                  exact ⟨by first | rfl | (simp [errW_none, errW_some] <;> rfl) | (simp [*, errW_none, errW_some] <;> rfl), by repeat (first | (with_reducible first | exact HB.out | apply below_alloc | apply pw_below_drewN | apply below_drew1 | refine below_set ?_ GE350.out | refine below_set ?_ GE359.out) | exact HB.out)⟩
                · replace c52 := Bool.eq_false_iff.mpr c52
                  subst c52
                  have H1 : ((laws_markCode.f kj36 t354 t357 1).bind fun bt368 => ((laws_heldCode.f kj36 bt368.2 t357 1).bind fun t370 => (if t370 < 0 then (some false) else (if t370 = bt368.1 then ((laws_toIntS.f kj36 l0).bind fun t371 => ((impl_GiantCode.f kj36 t371 a1).bind fun bt374 => ((laws_eqCode.f kj36 bt374.1 bt374.2.1 t345 t348).bind fun t380 => (if t380 = true then (laws_FnExactGiantCode.j2 kj36 bt368.1 (bt374.2.2 != t349) bt368.2 t357) else (laws_FnExactGiantCode.j2 kj36 bt368.1 true bt368.2 t357))))) else (some false))))) = some r := by rw [if_neg (show ¬ (false = true) by decide)] at H; exact H
                  clear H
                  have H := H1
                  clear H1
                  replace H := Option.bind_eq_some_iff.mp H
                  obtain ⟨⟨t368, t369⟩, A530, H⟩ := H
                  replace H : ((laws_heldCode.f kj36 t369 t357 1).bind fun t370 => (if t370 < 0 then (some false) else (if t370 = t368 then ((laws_toIntS.f kj36 l0).bind fun t371 => ((impl_GiantCode.f kj36 t371 a1).bind fun bt374 => ((laws_eqCode.f kj36 bt374.1 bt374.2.1 t345 t348).bind fun t380 => (if t380 = true then (laws_FnExactGiantCode.j2 kj36 t368 (bt374.2.2 != t349) t369 t357) else (laws_FnExactGiantCode.j2 kj36 t368 true t369 t357))))) else (some false)))) = some r := H
                  have A53 := Aside0.mk A530
                  clear A530
                  replace H := Option.bind_eq_some_iff.mp H
                  obtain ⟨t370, A540, H⟩ := H
                  replace H : (if t370 < 0 then (some false) else (if t370 = t368 then ((laws_toIntS.f kj36 l0).bind fun t371 => ((impl_GiantCode.f kj36 t371 a1).bind fun bt374 => ((laws_eqCode.f kj36 bt374.1 bt374.2.1 t345 t348).bind fun t380 => (if t380 = true then (laws_FnExactGiantCode.j2 kj36 t368 (bt374.2.2 != t349) t369 t357) else (laws_FnExactGiantCode.j2 kj36 t368 true t369 t357))))) else (some false))) = some r := H
                  have A54 := Aside0.mk A540
                  clear A540
                  by_cases c55 : t370 < 0
                  · rw [if_pos c55] at H
                    have c55b0 : decide (t370 < 0) = true := decide_eq_true c55
                    clear c55
                    obtain rfl := Option.some.inj H
                    have hnb56 := NB359_350.out
                    have hnc56 := NB350_359.out
                    have hcz57_0 : wc.cell? ⟨gb359, 0, none⟩ = some (.slice Ao19 t354.length co19) := (blk_cell BK359.out 0).trans rfl
                    have hcz57_1 : wc.cell? ⟨gb359, 1, none⟩ = some (.int .i64 t357) := (blk_cell BK359.out 1).trans rfl
                    have hfz57_0 := blk_frozen BK359.out 0
                    have hfz57_1 := blk_frozen BK359.out 1
                    go_wp2_with (first | ((with_reducible refine gate_callee (f := 30) rfl ?_); refine goesL_ (some 65) rfl rfl Try.func30 (by kernel_rfl) rfl #[.agg #[.slice Ao19 t354.length co19, .int .i64 t357], .int .i64 1] rfl (by (try simp only [List.map_toArray, List.map_cons, List.map_nil]); first | done | rfl | (simp only [List.length_drop, List.length_take]; rfl)) ?_; (with_reducible refine (laws_markCode.calls kj36 (fun k_ => some k_ = (.slice Ao19 t354.length co19 : Value).ownBlock) (.slice Ao19 t354.length co19) t354 t357 1 t368 t369 w _ ?side1 ?side2 A53.out).mono ?_); (case side1 => repeat (first | (with_reducible first | exact HB.out | apply below_alloc | apply pw_below_drewN | apply below_drew1 | refine below_set ?_ GE350.out | refine below_set ?_ GE359.out) | exact HB.out)); (case side2 => exact Kd.R_tight rfl HO_360000.out); rintro e w58 ⟨rfl, hy0, hb, hkp⟩; refine ⟨_, rfl, ?_⟩; have n0_ := Aside0.mk (Kd.V_mono (ok' := fun k_ => some k_ ≠ (.slice Ao19 t354.length co19 : Value).ownBlock ∧ k_ ≠ gb350 ∧ k_ ≠ gb359) (Kd.V_keptB (HO_351000.out) hkp (fun k_ hk_ hs_ => (hk_.1) hs_)) (fun k_ hk_ => ⟨hk_.1.1, hk_.1.2.1, hk_.1.2.2⟩)); have n1_ := Aside0.mk (Kd.R_reok rfl hy0 (fun k_ e_ => HO_360000.out.1 k_ e_)); have n2_ := Aside0.mk (blk_kept (by (with_reducible repeat (first | refine blk_drewN ?_ _ | refine blk_drew ?_ | refine blk_alloc ?_ _)); exact BK350.out) hkp (fun hs_ => (fun e_ => (Kd.R_ne HO_360000.out BK350.out (by decide)) e_) hs_)); have n3_ := Aside0.mk (blk_kept (by (with_reducible repeat (first | refine blk_drewN ?_ _ | refine blk_drew ?_ | refine blk_alloc ?_ _)); exact BK359.out) hkp (fun hs_ => (fun e_ => (Kd.R_ne HO_360000.out BK359.out (by decide)) e_) hs_)); have n4_ := Aside0.mk (hb); clear HO_351000; clear HO_360000; clear BK350; clear BK359; clear HB; have HO_351000 := n0_; have HO_360000 := n1_; have BK350 := n2_; have BK359 := n3_; have HB := n4_; clear n0_ n1_ n2_ n3_ n4_; (try clear hb); (try clear hkp); (try clear hy0); have hcz59_0 : w58.cell? ⟨gb359, 0, none⟩ = some (.slice Ao19 t354.length co19) := (blk_cell BK359.out 0).trans rfl; have hcz59_1 : w58.cell? ⟨gb359, 1, none⟩ = some (.int .i64 t357) := (blk_cell BK359.out 1).trans rfl; have hfz59_0 := blk_frozen BK359.out 0; have hfz59_1 := blk_frozen BK359.out 1) | ((with_reducible refine gate_callee (f := 31) rfl ?_); refine goesL_ (some 68) rfl rfl Try.func31 (by kernel_rfl) rfl #[.agg #[.slice Ao19 t369.length co19, .int .i64 t357], .int .i64 1] rfl (by (try simp only [List.map_toArray, List.map_cons, List.map_nil]); first | done | (rw [show t369.length = t354.length from (Kd.R_reads' HO_360000.out).1.symm] <;> rfl) | rfl | (simp only [List.length_drop, List.length_take]; rfl)) ?_; (with_reducible refine (laws_heldCode.calls kj36 _ _ t369 t357 1 t370 _ ?side1 ?side2 A54.out).mono ?_); (case side1 => repeat (first | exact (Kd.R_reads' HO_360000.out).2.2 | (with_reducible refine Kd.C_alloc ?_ _) | (with_reducible refine Kd.C_drewN ?_ _) | (with_reducible refine Kd.C_drew ?_))); (case side2 => rw [show t369.length = t354.length from (Kd.R_reads' HO_360000.out).1.symm]; exact (Kd.R_reads' HO_360000.out).2.1); rintro e w60 ⟨rfl, hb⟩; refine ⟨_, rfl, ?_⟩; have n0_ := Aside0.mk (Kd.V_below (by (with_reducible repeat (first | apply Kd.V_alloc | apply Kd.V_drewN | apply Kd.V_drew)); exact HO_351000.out) hb); have n1_ := Aside0.mk (Kd.R_below (by (with_reducible repeat (first | apply Kd.R_alloc | apply Kd.R_drewN | apply Kd.R_drew)); exact HO_360000.out) hb); have n2_ := Aside0.mk (blk_below (g := gb350) (o := .cells #[.slice Ao13 t345.length co13, .int .i64 t348] 32 (0, 0)) (by (with_reducible repeat (first | refine blk_drewN ?_ _ | refine blk_drew ?_ | refine blk_alloc ?_ _)); exact BK350.out) hb); have n3_ := Aside0.mk (blk_below (g := gb359) (o := .cells #[.slice Ao19 t354.length co19, .int .i64 t357] 32 (0, 0)) (by (with_reducible repeat (first | refine blk_drewN ?_ _ | refine blk_drew ?_ | refine blk_alloc ?_ _)); exact BK359.out) hb); have n4_ := Aside0.mk (below_step (by repeat (first | (with_reducible first | exact HB.out | apply below_alloc | apply pw_below_drewN | apply below_drew1 | refine below_set ?_ GE350.out | refine below_set ?_ GE359.out) | exact HB.out)) hb); clear HO_351000; clear HO_360000; clear BK350; clear BK359; clear HB; have HO_351000 := n0_; have HO_360000 := n1_; have BK350 := n2_; have BK359 := n3_; have HB := n4_; clear n0_ n1_ n2_ n3_ n4_; (try clear hb); (try clear hb2); (try clear hk); (try clear hi)))
                    go_ret
                    exact ⟨by first | rfl | (simp [errW_none, errW_some] <;> rfl) | (simp [*, errW_none, errW_some] <;> rfl), by repeat (first | (with_reducible first | exact HB.out | apply below_alloc | apply pw_below_drewN | apply below_drew1 | refine below_set ?_ GE350.out | refine below_set ?_ GE359.out) | exact HB.out)⟩
                  · rw [if_neg c55] at H
                    have c55b0 : decide (t370 < 0) = false := decide_eq_false c55
                    clear c55
                    by_cases c61 : t370 = t368
                    · rw [if_pos c61] at H
                      have c61b0 : (t370 == t368) = true := beq_iff_eq.mpr c61
                      have c61b1 : (t370 != t368) = false := bne_eq_false_iff_eq.mpr c61
                      clear c61
                      replace H := Option.bind_eq_some_iff.mp H
                      obtain ⟨t371, A620, H⟩ := H
                      replace H : ((impl_GiantCode.f kj36 t371 a1).bind fun bt374 => ((laws_eqCode.f kj36 bt374.1 bt374.2.1 t345 t348).bind fun t380 => (if t380 = true then (laws_FnExactGiantCode.j2 kj36 t368 (bt374.2.2 != t349) t369 t357) else (laws_FnExactGiantCode.j2 kj36 t368 true t369 t357)))) = some r := H
                      have A62 := Aside0.mk A620
                      clear A620
                      replace H := Option.bind_eq_some_iff.mp H
                      obtain ⟨⟨t374, t377, t378⟩, A630, H⟩ := H
                      replace H : ((laws_eqCode.f kj36 t374 t377 t345 t348).bind fun t380 => (if t380 = true then (laws_FnExactGiantCode.j2 kj36 t368 (t378 != t349) t369 t357) else (laws_FnExactGiantCode.j2 kj36 t368 true t369 t357))) = some r := H
                      have A63 := Aside0.mk A630
                      clear A630
                      have HC64 := Aside0.mk H
                      clear H
                      have hnb65 := NB359_350.out
                      have hnc65 := NB350_359.out
                      have hcz66_0 : wc.cell? ⟨gb359, 0, none⟩ = some (.slice Ao19 t354.length co19) := (blk_cell BK359.out 0).trans rfl
                      have hcz66_1 : wc.cell? ⟨gb359, 1, none⟩ = some (.int .i64 t357) := (blk_cell BK359.out 1).trans rfl
                      have hfz66_0 := blk_frozen BK359.out 0
                      have hfz66_1 := blk_frozen BK359.out 1
                      go_upto_region 23 with (first | ((with_reducible refine gate_callee (f := 30) rfl ?_); refine goesL_ (some 65) rfl rfl Try.func30 (by kernel_rfl) rfl #[.agg #[.slice Ao19 t354.length co19, .int .i64 t357], .int .i64 1] rfl (by (try simp only [List.map_toArray, List.map_cons, List.map_nil]); first | done | rfl | (simp only [List.length_drop, List.length_take]; rfl)) ?_; (with_reducible refine (laws_markCode.calls kj36 (fun k_ => some k_ = (.slice Ao19 t354.length co19 : Value).ownBlock) (.slice Ao19 t354.length co19) t354 t357 1 t368 t369 w _ ?side1 ?side2 A53.out).mono ?_); (case side1 => repeat (first | (with_reducible first | exact HB.out | apply below_alloc | apply pw_below_drewN | apply below_drew1 | refine below_set ?_ GE350.out | refine below_set ?_ GE359.out) | exact HB.out)); (case side2 => exact Kd.R_tight rfl HO_360000.out); rintro e w67 ⟨rfl, hy0, hb, hkp⟩; refine ⟨_, rfl, ?_⟩; have n0_ := Aside0.mk (Kd.V_mono (ok' := fun k_ => some k_ ≠ (.slice Ao19 t354.length co19 : Value).ownBlock ∧ k_ ≠ gb350 ∧ k_ ≠ gb359) (Kd.V_keptB (HO_351000.out) hkp (fun k_ hk_ hs_ => (hk_.1) hs_)) (fun k_ hk_ => ⟨hk_.1.1, hk_.1.2.1, hk_.1.2.2⟩)); have n1_ := Aside0.mk (Kd.R_reok rfl hy0 (fun k_ e_ => HO_360000.out.1 k_ e_)); have n2_ := Aside0.mk (blk_kept (by (with_reducible repeat (first | refine blk_drewN ?_ _ | refine blk_drew ?_ | refine blk_alloc ?_ _)); exact BK350.out) hkp (fun hs_ => (fun e_ => (Kd.R_ne HO_360000.out BK350.out (by decide)) e_) hs_)); have n3_ := Aside0.mk (blk_kept (by (with_reducible repeat (first | refine blk_drewN ?_ _ | refine blk_drew ?_ | refine blk_alloc ?_ _)); exact BK359.out) hkp (fun hs_ => (fun e_ => (Kd.R_ne HO_360000.out BK359.out (by decide)) e_) hs_)); have n4_ := Aside0.mk (hb); clear HO_351000; clear HO_360000; clear BK350; clear BK359; clear HB; have HO_351000 := n0_; have HO_360000 := n1_; have BK350 := n2_; have BK359 := n3_; have HB := n4_; clear n0_ n1_ n2_ n3_ n4_; (try clear hb); (try clear hkp); (try clear hy0); have hcz68_0 : w67.cell? ⟨gb359, 0, none⟩ = some (.slice Ao19 t354.length co19) := (blk_cell BK359.out 0).trans rfl; have hcz68_1 : w67.cell? ⟨gb359, 1, none⟩ = some (.int .i64 t357) := (blk_cell BK359.out 1).trans rfl; have hfz68_0 := blk_frozen BK359.out 0; have hfz68_1 := blk_frozen BK359.out 1) | ((with_reducible refine gate_callee (f := 31) rfl ?_); refine goesL_ (some 68) rfl rfl Try.func31 (by kernel_rfl) rfl #[.agg #[.slice Ao19 t369.length co19, .int .i64 t357], .int .i64 1] rfl (by (try simp only [List.map_toArray, List.map_cons, List.map_nil]); first | done | (rw [show t369.length = t354.length from (Kd.R_reads' HO_360000.out).1.symm] <;> rfl) | rfl | (simp only [List.length_drop, List.length_take]; rfl)) ?_; (with_reducible refine (laws_heldCode.calls kj36 _ _ t369 t357 1 t370 _ ?side1 ?side2 A54.out).mono ?_); (case side1 => repeat (first | exact (Kd.R_reads' HO_360000.out).2.2 | (with_reducible refine Kd.C_alloc ?_ _) | (with_reducible refine Kd.C_drewN ?_ _) | (with_reducible refine Kd.C_drew ?_))); (case side2 => rw [show t369.length = t354.length from (Kd.R_reads' HO_360000.out).1.symm]; exact (Kd.R_reads' HO_360000.out).2.1); rintro e w69 ⟨rfl, hb⟩; refine ⟨_, rfl, ?_⟩; have n0_ := Aside0.mk (Kd.V_below (by (with_reducible repeat (first | apply Kd.V_alloc | apply Kd.V_drewN | apply Kd.V_drew)); exact HO_351000.out) hb); have n1_ := Aside0.mk (Kd.R_below (by (with_reducible repeat (first | apply Kd.R_alloc | apply Kd.R_drewN | apply Kd.R_drew)); exact HO_360000.out) hb); have n2_ := Aside0.mk (blk_below (g := gb350) (o := .cells #[.slice Ao13 t345.length co13, .int .i64 t348] 32 (0, 0)) (by (with_reducible repeat (first | refine blk_drewN ?_ _ | refine blk_drew ?_ | refine blk_alloc ?_ _)); exact BK350.out) hb); have n3_ := Aside0.mk (blk_below (g := gb359) (o := .cells #[.slice Ao19 t354.length co19, .int .i64 t357] 32 (0, 0)) (by (with_reducible repeat (first | refine blk_drewN ?_ _ | refine blk_drew ?_ | refine blk_alloc ?_ _)); exact BK359.out) hb); have n4_ := Aside0.mk (below_step (by repeat (first | (with_reducible first | exact HB.out | apply below_alloc | apply pw_below_drewN | apply below_drew1 | refine below_set ?_ GE350.out | refine below_set ?_ GE359.out) | exact HB.out)) hb); clear HO_351000; clear HO_360000; clear BK350; clear BK359; clear HB; have HO_351000 := n0_; have HO_360000 := n1_; have BK350 := n2_; have BK359 := n3_; have HB := n4_; clear n0_ n1_ n2_ n3_ n4_; (try clear hb); (try clear hb2); (try clear hk); (try clear hi)) | ((with_reducible refine gate_callee (f := 26) rfl ?_); refine goesL_ (some 76) rfl rfl Try.func26 (by kernel_rfl) rfl #[.slice A0 l0.length c0] rfl (by (try simp only [List.map_toArray, List.map_cons, List.map_nil]); first | done | rfl | (simp only [List.length_drop, List.length_take]; rfl)) ?_; (with_reducible refine (laws_toIntS.calls kj36 _ _ l0 t371 _ ?side1 ?side2 A62.out).mono ?_); (case side1 => repeat (first | exact (Kd.C_below HR0.out HB.out) | (with_reducible refine Kd.C_alloc ?_ _) | (with_reducible refine Kd.C_drewN ?_ _) | (with_reducible refine Kd.C_drew ?_))); (case side2 => exact HC0.out); rintro e w70 ⟨v372, rfl, ho0, hb⟩; refine ⟨_, rfl, ?_⟩; have n0_ := Aside0.mk (Kd.V_elder' (by (with_reducible repeat (first | apply Kd.V_alloc | apply Kd.V_drewN | apply Kd.V_drew)); exact HO_351000.out) (Kd.R_base ho0) hb); have n1_ := Aside0.mk (Kd.R_below (by (with_reducible repeat (first | apply Kd.R_alloc | apply Kd.R_drewN | apply Kd.R_drew)); exact HO_360000.out) hb); have n2_ := Aside0.mk (Kd.R_lower ho0 (below_size (by repeat (first | (with_reducible first | exact HB.out | apply below_alloc | apply pw_below_drewN | apply below_drew1 | refine below_set ?_ GE350.out | refine below_set ?_ GE359.out) | exact HB.out)))); have n3_ := Aside0.mk (blk_below (g := gb350) (o := .cells #[.slice Ao13 t345.length co13, .int .i64 t348] 32 (0, 0)) (by (with_reducible repeat (first | refine blk_drewN ?_ _ | refine blk_drew ?_ | refine blk_alloc ?_ _)); exact BK350.out) hb); have n4_ := Aside0.mk (blk_below (g := gb359) (o := .cells #[.slice Ao19 t354.length co19, .int .i64 t357] 32 (0, 0)) (by (with_reducible repeat (first | refine blk_drewN ?_ _ | refine blk_drew ?_ | refine blk_alloc ?_ _)); exact BK359.out) hb); have n5_ := Aside0.mk (below_step (by repeat (first | (with_reducible first | exact HB.out | apply below_alloc | apply pw_below_drewN | apply below_drew1 | refine below_set ?_ GE350.out | refine below_set ?_ GE359.out) | exact HB.out)) hb); clear HO_351000; clear HO_360000; clear BK350; clear BK359; clear HB; have HO_351000 := n0_; have HO_360000 := n1_; have HO373 := n2_; have BK350 := n3_; have BK359 := n4_; have HB := n5_; clear n0_ n1_ n2_ n3_ n4_ n5_; (try clear hb); (try clear hb2); (try clear hk); (try clear hi); (try clear ho0); obtain ⟨Ao71, co71, eo71⟩ := Kd.R_slice HO373.out; subst eo71) | ((with_reducible refine gate_callee (f := 20) rfl ?_); refine goesL_ (some 78) rfl rfl Try.func20 (by kernel_rfl) rfl #[.slice Ao71 t371.length co71, .int .i64 a1] rfl (by (try simp only [List.map_toArray, List.map_cons, List.map_nil]); first | done | rfl | (simp only [List.length_drop, List.length_take]; rfl)) ?_; (with_reducible refine (impl_GiantCode.calls kj36 _ _ t371 a1 t374 t377 t378 _ ?side1 ?side2 A63.out).mono ?_); (case side1 => repeat (first | exact (Kd.R_reads' HO373.out).2.2 | (with_reducible refine Kd.C_alloc ?_ _) | (with_reducible refine Kd.C_drewN ?_ _) | (with_reducible refine Kd.C_drew ?_))); (case side2 => exact (Kd.R_reads' HO373.out).2.1); rintro e w72 ⟨v375, rfl, ho0, hb⟩; refine ⟨_, rfl, ?_⟩; have n0_ := Aside0.mk (Kd.V_elder' (by (with_reducible repeat (first | apply Kd.V_alloc | apply Kd.V_drewN | apply Kd.V_drew)); exact HO_351000.out) (Kd.R_base ho0) hb); have n1_ := Aside0.mk (Kd.R_elder' (by (with_reducible repeat (first | apply Kd.R_alloc | apply Kd.R_drewN | apply Kd.R_drew)); exact HO_360000.out) (Kd.R_base ho0) hb); have n2_ := Aside0.mk (Kd.R_below (by (with_reducible repeat (first | apply Kd.R_alloc | apply Kd.R_drewN | apply Kd.R_drew)); exact HO373.out) hb); have n3_ := Aside0.mk (Kd.R_lower (Kd.R_new' ho0 (Kd.R_lt (by (with_reducible repeat (first | apply Kd.R_alloc | apply Kd.R_drewN | apply Kd.R_drew)); exact HO_360000.out))) (below_size (by repeat (first | (with_reducible first | exact HB.out | apply below_alloc | apply pw_below_drewN | apply below_drew1 | refine below_set ?_ GE350.out | refine below_set ?_ GE359.out) | exact HB.out)))); have n4_ := Aside0.mk (blk_below (g := gb350) (o := .cells #[.slice Ao13 t345.length co13, .int .i64 t348] 32 (0, 0)) (by (with_reducible repeat (first | refine blk_drewN ?_ _ | refine blk_drew ?_ | refine blk_alloc ?_ _)); exact BK350.out) hb); have n5_ := Aside0.mk (blk_below (g := gb359) (o := .cells #[.slice Ao19 t354.length co19, .int .i64 t357] 32 (0, 0)) (by (with_reducible repeat (first | refine blk_drewN ?_ _ | refine blk_drew ?_ | refine blk_alloc ?_ _)); exact BK359.out) hb); have n6_ := Aside0.mk (below_step (by repeat (first | (with_reducible first | exact HB.out | apply below_alloc | apply pw_below_drewN | apply below_drew1 | refine below_set ?_ GE350.out | refine below_set ?_ GE359.out) | exact HB.out)) hb); clear HO_351000; clear HO_360000; clear HO373; clear BK350; clear BK359; clear HB; have HO_351000 := n0_; have HO_360000 := n1_; have HO373 := n2_; have HO376 := n3_; have BK350 := n4_; have BK359 := n5_; have HB := n6_; clear n0_ n1_ n2_ n3_ n4_ n5_ n6_; (try clear hb); (try clear hb2); (try clear hk); (try clear hi); (try clear ho0)) | ((with_reducible refine gate_dst (N := 13) rfl ?_); refine box_event ?hg (N := 13) ?hd (cs := #[.slice none 0 0, .int .i64 0]) (t := 32) ?hr ?_; (case hd => rfl); (case hg => rfl); (case hr => first | (go_simp; done) | (go_simp; rfl)); intro gb379 hg w73 hbox hb; have n0_ := Aside0.mk (Kd.V_below (Kd.V_elderB (by (with_reducible repeat (first | apply Kd.V_alloc | apply Kd.V_drewN | apply Kd.V_drew)); exact HO_351000.out) gb379 (Nat.le_of_eq hg.symm)) hb); have n1_ := Aside0.mk (Kd.R_below (by (with_reducible repeat (first | apply Kd.R_alloc | apply Kd.R_drewN | apply Kd.R_drew)); exact HO_360000.out) hb); have n2_ := Aside0.mk (Kd.R_below (by (with_reducible repeat (first | apply Kd.R_alloc | apply Kd.R_drewN | apply Kd.R_drew)); exact HO373.out) hb); have n3_ := Aside0.mk (Kd.R_below (by (with_reducible repeat (first | apply Kd.R_alloc | apply Kd.R_drewN | apply Kd.R_drew)); exact HO376.out) hb); have n4_ := Aside0.mk (blk_below (g := gb350) (o := .cells #[.slice Ao13 t345.length co13, .int .i64 t348] 32 (0, 0)) (by (with_reducible repeat (first | refine blk_drewN ?_ _ | refine blk_drew ?_ | refine blk_alloc ?_ _)); exact BK350.out) hb); have n5_ := Aside0.mk (blk_below (g := gb359) (o := .cells #[.slice Ao19 t354.length co19, .int .i64 t357] 32 (0, 0)) (by (with_reducible repeat (first | refine blk_drewN ?_ _ | refine blk_drew ?_ | refine blk_alloc ?_ _)); exact BK359.out) hb); have n6_ := Aside0.mk (below_step (by repeat (first | (with_reducible first | exact HB.out | apply below_alloc | apply pw_below_drewN | apply below_drew1 | refine below_set ?_ GE350.out | refine below_set ?_ GE359.out) | exact HB.out)) hb); have n7_ := Aside0.mk (hbox); have n8_ := Aside0.mk ((by rw [hg]; exact (below_size (by repeat (first | (with_reducible first | exact HB.out | apply below_alloc | apply pw_below_drewN | apply below_drew1 | refine below_set ?_ GE350.out | refine below_set ?_ GE359.out) | exact HB.out))) : w.heap.size ≤ gb379)); have n9_ := Aside0.mk ((by rw [hg]; exact (below_size (by repeat (first | (with_reducible first | exact HB.out | apply below_alloc | apply pw_below_drewN | apply below_drew1 | refine below_set ?_ GE350.out | refine below_set ?_ GE359.out) | exact HB.out))) : w.heap.size ≤ gb379)); have n10_ := Aside0.mk ((by rw [hg]; exact Nat.ne_of_lt (blk_lt (g := gb350) (o := .cells #[.slice Ao13 t345.length co13, .int .i64 t348] 32 (0, 0)) (by (with_reducible repeat (first | refine blk_drewN ?_ _ | refine blk_drew ?_ | refine blk_alloc ?_ _)); exact BK350.out)) : gb350 ≠ gb379)); have n11_ := Aside0.mk ((by rw [hg]; exact Nat.ne_of_gt (blk_lt (g := gb350) (o := .cells #[.slice Ao13 t345.length co13, .int .i64 t348] 32 (0, 0)) (by (with_reducible repeat (first | refine blk_drewN ?_ _ | refine blk_drew ?_ | refine blk_alloc ?_ _)); exact BK350.out)) : gb379 ≠ gb350)); have n12_ := Aside0.mk ((by rw [hg]; exact Nat.ne_of_lt (blk_lt (g := gb359) (o := .cells #[.slice Ao19 t354.length co19, .int .i64 t357] 32 (0, 0)) (by (with_reducible repeat (first | refine blk_drewN ?_ _ | refine blk_drew ?_ | refine blk_alloc ?_ _)); exact BK359.out)) : gb359 ≠ gb379)); have n13_ := Aside0.mk ((by rw [hg]; exact Nat.ne_of_gt (blk_lt (g := gb359) (o := .cells #[.slice Ao19 t354.length co19, .int .i64 t357] 32 (0, 0)) (by (with_reducible repeat (first | refine blk_drewN ?_ _ | refine blk_drew ?_ | refine blk_alloc ?_ _)); exact BK359.out)) : gb379 ≠ gb359)); clear HO_351000; clear HO_360000; clear HO373; clear HO376; clear BK350; clear BK359; clear HB; have HO_351000 := n0_; have HO_360000 := n1_; have HO373 := n2_; have HO376 := n3_; have BK350 := n4_; have BK359 := n5_; have HB := n6_; have BK379 := n7_; have GW379 := n8_; have GE379 := n9_; have NB350_379 := n10_; have NB379_350 := n11_; have NB359_379 := n12_; have NB379_359 := n13_; clear n0_ n1_ n2_ n3_ n4_ n5_ n6_ n7_ n8_ n9_ n10_ n11_ n12_ n13_; clear hb hbox hg; obtain ⟨Ao74, co74, eo74⟩ := Kd.R_slice HO376.out; subst eo74; have hnb75 := NB379_350.out; have hnc75 := NB350_379.out; have hnb76 := NB379_359.out; have hnc76 := NB359_379.out; have hcz77_0 : w73.cell? ⟨gb379, 0, none⟩ = some (.slice none 0 0) := (blk_cell BK379.out 0).trans rfl; have hcz77_1 : w73.cell? ⟨gb379, 1, none⟩ = some (.int .i64 0) := (blk_cell BK379.out 1).trans rfl; have hfz77_0 := blk_frozen BK379.out 0; have hfz77_1 := blk_frozen BK379.out 1))
                      (try simp only [Act.put, List.setIfInBounds_toArray, List.set_cons_zero, List.set_cons_succ])
                      go_cut [89] (fun v89 wc => ∃ (kq : Nat) (x89_63 : Bool), v89 = .bool x89_63 ∧ Aside0 (laws_FnExactGiantCode.j2 kq t368 x89_63 t369 t357 = some r) ∧ Aside0 (kq ≤ kj36) ∧ Aside0 (Kd.V k109 109 wc w.heap.size (fun k_ => some k_ ≠ ((.slice Ao19 t354.length co19) : Value).ownBlock ∧ some k_ ≠ ((.slice Ao74 t374.length co74) : Value).ownBlock ∧ k_ ≠ gb350 ∧ k_ ≠ gb359 ∧ k_ ≠ gb379) (.slice Ao13 t345.length co13) t345) ∧ Aside0 (Kd.R k109 109 wc w.heap.size (fun k_ => some k_ ≠ ((.slice Ao74 t374.length co74) : Value).ownBlock) (.slice Ao19 t354.length co19) t369) ∧ Aside0 (Kd.R k109 109 wc w.heap.size (fun k_ => some k_ ≠ ((.slice Ao19 t354.length co19) : Value).ownBlock) (.slice Ao74 t374.length co74) t374) ∧ Aside0 (wc.heap[gb350]? = some (.cells #[(.slice Ao13 t345.length co13), .int .i64 t348] 32 (0, 0))) ∧ Aside0 (wc.heap[gb359]? = some (.cells #[(.slice Ao19 t354.length co19), .int .i64 t357] 32 (0, 0))) ∧ Aside0 (wc.heap[gb379]? = some (.cells #[(.slice Ao74 t374.length co74), .int .i64 t377] 32 (0, 0))) ∧ Aside0 (Below w.heap.size w wc))
                      case first =>
                        have H := HC64.out
                        clear HC64
                        replace H := Option.bind_eq_some_iff.mp H
                        obtain ⟨t380, A780, H⟩ := H
                        replace H : (if t380 = true then (laws_FnExactGiantCode.j2 kj36 t368 (t378 != t349) t369 t357) else (laws_FnExactGiantCode.j2 kj36 t368 true t369 t357)) = some r := H
                        have A78 := Aside0.mk A780
                        clear A780
                        by_cases c79 : t380 = true
                        · subst c79
                          have H1 : (laws_FnExactGiantCode.j2 kj36 t368 (t378 != t349) t369 t357) = some r := by rw [if_pos rfl] at H; exact H
                          clear H
                          have H := H1
                          clear H1
                          have H' := Aside0.mk H
                          clear H
                          have hnb80 := NB379_350.out
                          have hnc80 := NB350_379.out
                          have hnb81 := NB379_359.out
                          have hnc81 := NB359_379.out
                          have hcz82_0 : w73.cell? ⟨gb379, 0, none⟩ = some (.slice none 0 0) := (blk_cell BK379.out 0).trans rfl
                          have hcz82_1 : w73.cell? ⟨gb379, 1, none⟩ = some (.int .i64 0) := (blk_cell BK379.out 1).trans rfl
                          have hfz82_0 := blk_frozen BK379.out 0
                          have hfz82_1 := blk_frozen BK379.out 1
                          have hnb83 := NB350_359.out
                          have hnc83 := NB359_350.out
                          have hcz84_0 : w73.cell? ⟨gb350, 0, none⟩ = some (.slice Ao13 t345.length co13) := (blk_cell BK350.out 0).trans rfl
                          have hcz84_1 : w73.cell? ⟨gb350, 1, none⟩ = some (.int .i64 t348) := (blk_cell BK350.out 1).trans rfl
                          have hfz84_0 := blk_frozen BK350.out 0
                          have hfz84_1 := blk_frozen BK350.out 1
                          go_wp2_with (first | ((with_reducible refine gate_callee (f := 27) rfl ?_); refine goesL_ (some 83) rfl rfl Try.func27 (by kernel_rfl) rfl #[.agg #[.slice Ao74 t374.length co74, .int .i64 t377], .agg #[.slice Ao13 t345.length co13, .int .i64 t348]] rfl (by (try simp only [List.map_toArray, List.map_cons, List.map_nil]); first | done | rfl | (simp only [List.length_drop, List.length_take]; rfl)) ?_; (with_reducible refine (laws_eqCode.calls kj36 _ _ t374 t377 _ _ t345 t348 true _ ?side1 ?side2 ?side3 ?side4 A78.out).mono ?_); (case side1 => refine (Kd.R_reads' (e := 109) (base := w.heap.size) (ok := fun k_ => (True ∧ some k_ ≠ (.slice Ao19 t354.length co19 : Value).ownBlock)) (n := t374.length) (c := co74) ?_).2.2; exact (by (with_reducible repeat (first | apply Kd.R_alloc | apply Kd.R_drewN | apply Kd.R_drew)); exact (Kd.R_mono (Kd.R_far (p := ⟨gb379, 1, none⟩) (Kd.R_far (p := ⟨gb379, 0, none⟩) (Kd.R_types HO376.out BK379.out (by decide)) (fun _ hk => hk.2) (.slice Ao74 t374.length co74)) (fun _ hk => hk.2) (.int .i64 t377)) (fun _ h_ => h_.1)))); (case side2 => exact (Kd.R_reads' HO376.out).2.1); (case side3 => refine (Kd.V_reads' (e := 109) (base := w.heap.size) (ok := fun k_ => ((((some k_ ≠ (.slice Ao19 t354.length co19 : Value).ownBlock ∧ (k_ ≠ gb350 ∧ k_ ≠ gb359)) ∧ some k_ ≠ (.slice Ao71 t371.length co71 : Value).ownBlock) ∧ some k_ ≠ (.slice Ao74 t374.length co74 : Value).ownBlock) ∧ k_ ≠ gb379)) (n := t345.length) (c := co13) ?_).2.2; exact (by (with_reducible repeat (first | apply Kd.V_alloc | apply Kd.V_drewN | apply Kd.V_drew)); exact (Kd.V_mono (Kd.V_far (p := ⟨gb379, 1, none⟩) (Kd.V_far (p := ⟨gb379, 0, none⟩) (Kd.V_mono HO_351000.out (fun k_ hk => (⟨hk, hk.2⟩ : _ ∧ k_ ≠ gb379))) (fun _ hk => hk.2) (.slice Ao74 t374.length co74)) (fun _ hk => hk.2) (.int .i64 t377)) (fun _ h_ => h_.1)))); (case side4 => exact (Kd.V_reads' HO_351000.out).2.1); rintro e w85 ⟨rfl, hb⟩; refine ⟨_, rfl, ?_⟩; have n0_ := Aside0.mk (Kd.V_below (by (with_reducible repeat (first | apply Kd.V_alloc | apply Kd.V_drewN | apply Kd.V_drew)); exact (Kd.V_mono (Kd.V_far (p := ⟨gb379, 1, none⟩) (Kd.V_far (p := ⟨gb379, 0, none⟩) (Kd.V_mono HO_351000.out (fun k_ hk => (⟨hk, hk.2⟩ : _ ∧ k_ ≠ gb379))) (fun _ hk => hk.2) (.slice Ao74 t374.length co74)) (fun _ hk => hk.2) (.int .i64 t377)) (fun _ h_ => h_.1))) hb); have n1_ := Aside0.mk (Kd.R_below (by (with_reducible repeat (first | apply Kd.R_alloc | apply Kd.R_drewN | apply Kd.R_drew)); exact (Kd.R_mono (Kd.R_far (p := ⟨gb379, 1, none⟩) (Kd.R_far (p := ⟨gb379, 0, none⟩) (Kd.R_types HO_360000.out BK379.out (by decide)) (fun _ hk => hk.2) (.slice Ao74 t374.length co74)) (fun _ hk => hk.2) (.int .i64 t377)) (fun _ h_ => h_.1))) hb); have n2_ := Aside0.mk (Kd.R_below (by (with_reducible repeat (first | apply Kd.R_alloc | apply Kd.R_drewN | apply Kd.R_drew)); exact (Kd.R_mono (Kd.R_far (p := ⟨gb379, 1, none⟩) (Kd.R_far (p := ⟨gb379, 0, none⟩) (Kd.R_types HO373.out BK379.out (by decide)) (fun _ hk => hk.2) (.slice Ao74 t374.length co74)) (fun _ hk => hk.2) (.int .i64 t377)) (fun _ h_ => h_.1))) hb); have n3_ := Aside0.mk (Kd.R_below (by (with_reducible repeat (first | apply Kd.R_alloc | apply Kd.R_drewN | apply Kd.R_drew)); exact (Kd.R_mono (Kd.R_far (p := ⟨gb379, 1, none⟩) (Kd.R_far (p := ⟨gb379, 0, none⟩) (Kd.R_types HO376.out BK379.out (by decide)) (fun _ hk => hk.2) (.slice Ao74 t374.length co74)) (fun _ hk => hk.2) (.int .i64 t377)) (fun _ h_ => h_.1))) hb); have n4_ := Aside0.mk (blk_below (g := gb350) (o := .cells #[.slice Ao13 t345.length co13, .int .i64 t348] 32 (0, 0)) (by (with_reducible repeat (first | refine blk_drewN ?_ _ | refine blk_drew ?_ | refine blk_alloc ?_ _)); refine blk_far ?_ NB350_379.out _; (with_reducible repeat (first | refine blk_drewN ?_ _ | refine blk_drew ?_ | refine blk_alloc ?_ _)); refine blk_far ?_ NB350_379.out _; (with_reducible repeat (first | refine blk_drewN ?_ _ | refine blk_drew ?_ | refine blk_alloc ?_ _)); exact BK350.out) hb); have n5_ := Aside0.mk (blk_below (g := gb359) (o := .cells #[.slice Ao19 t354.length co19, .int .i64 t357] 32 (0, 0)) (by (with_reducible repeat (first | refine blk_drewN ?_ _ | refine blk_drew ?_ | refine blk_alloc ?_ _)); refine blk_far ?_ NB359_379.out _; (with_reducible repeat (first | refine blk_drewN ?_ _ | refine blk_drew ?_ | refine blk_alloc ?_ _)); refine blk_far ?_ NB359_379.out _; (with_reducible repeat (first | refine blk_drewN ?_ _ | refine blk_drew ?_ | refine blk_alloc ?_ _)); exact BK359.out) hb); have n6_ := Aside0.mk (blk_below (g := gb379) (o := .cells #[.slice Ao74 t374.length co74, .int .i64 t377] 32 (0, 0)) (by (with_reducible repeat (first | refine blk_drewN ?_ _ | refine blk_drew ?_ | refine blk_alloc ?_ _)); refine blk_put (cs := #[.slice Ao74 t374.length co74, .int .i64 0]) ?_ 1 _ rfl; (with_reducible repeat (first | refine blk_drewN ?_ _ | refine blk_drew ?_ | refine blk_alloc ?_ _)); refine blk_put (cs := #[.slice none 0 0, .int .i64 0]) ?_ 0 _ rfl; (with_reducible repeat (first | refine blk_drewN ?_ _ | refine blk_drew ?_ | refine blk_alloc ?_ _)); exact BK379.out) hb); have n7_ := Aside0.mk (below_step (by repeat (first | (with_reducible first | exact HB.out | apply below_alloc | apply pw_below_drewN | apply below_drew1 | refine below_set ?_ GE350.out | refine below_set ?_ GE359.out | refine below_set ?_ GE379.out) | exact HB.out)) hb); clear HO_351000; clear HO_360000; clear HO373; clear HO376; clear BK350; clear BK359; clear BK379; clear HB; have HO_351000 := n0_; have HO_360000 := n1_; have HO373 := n2_; have HO376 := n3_; have BK350 := n4_; have BK359 := n5_; have BK379 := n6_; have HB := n7_; clear n0_ n1_ n2_ n3_ n4_ n5_ n6_ n7_; (try clear hb); (try clear hb2); (try clear hk); (try clear hi)))
                          go_meet
                          case rel => exact ⟨_, ((t378 != t349)), (by first | rfl | (simp; done) | (simp [*]; done)), H', ⟨by have := HJ7.out; have := HJ36.out; first | omega | exact Nat.le_refl _⟩, ⟨by (with_reducible repeat (first | apply Kd.V_alloc | apply Kd.V_drewN | apply Kd.V_drew)); exact Kd.V_mono HO_351000.out (fun _ hk => ⟨hk.1.1.1.1, ⟨hk.1.2, ⟨hk.1.1.1.2.1, ⟨hk.1.1.1.2.2, hk.2⟩⟩⟩⟩)⟩, ⟨by (with_reducible repeat (first | apply Kd.R_alloc | apply Kd.R_drewN | apply Kd.R_drew)); exact Kd.R_mono HO_360000.out (fun _ hk => hk.2)⟩, ⟨by (with_reducible repeat (first | apply Kd.R_alloc | apply Kd.R_drewN | apply Kd.R_drew)); exact Kd.R_mono HO376.out (fun _ hk => hk.2)⟩, ⟨by (with_reducible repeat (first | refine blk_drewN ?_ _ | refine blk_drew ?_ | refine blk_alloc ?_ _)); exact BK350.out⟩, ⟨by (with_reducible repeat (first | refine blk_drewN ?_ _ | refine blk_drew ?_ | refine blk_alloc ?_ _)); exact BK359.out⟩, ⟨by (with_reducible repeat (first | refine blk_drewN ?_ _ | refine blk_drew ?_ | refine blk_alloc ?_ _)); exact BK379.out⟩, ⟨by repeat (first | (with_reducible first | exact HB.out | apply below_alloc | apply pw_below_drewN | apply below_drew1 | refine below_set ?_ GE350.out | refine below_set ?_ GE359.out | refine below_set ?_ GE379.out) | exact HB.out)⟩⟩
                        · replace c79 := Bool.eq_false_iff.mpr c79
                          subst c79
                          have H1 : (laws_FnExactGiantCode.j2 kj36 t368 true t369 t357) = some r := by rw [if_neg (show ¬ (false = true) by decide)] at H; exact H
                          clear H
                          have H := H1
                          clear H1
                          have H' := Aside0.mk H
                          clear H
                          have hnb86 := NB379_350.out
                          have hnc86 := NB350_379.out
                          have hnb87 := NB379_359.out
                          have hnc87 := NB359_379.out
                          have hcz88_0 : w73.cell? ⟨gb379, 0, none⟩ = some (.slice none 0 0) := (blk_cell BK379.out 0).trans rfl
                          have hcz88_1 : w73.cell? ⟨gb379, 1, none⟩ = some (.int .i64 0) := (blk_cell BK379.out 1).trans rfl
                          have hfz88_0 := blk_frozen BK379.out 0
                          have hfz88_1 := blk_frozen BK379.out 1
                          have hnb89 := NB350_359.out
                          have hnc89 := NB359_350.out
                          have hcz90_0 : w73.cell? ⟨gb350, 0, none⟩ = some (.slice Ao13 t345.length co13) := (blk_cell BK350.out 0).trans rfl
                          have hcz90_1 : w73.cell? ⟨gb350, 1, none⟩ = some (.int .i64 t348) := (blk_cell BK350.out 1).trans rfl
                          have hfz90_0 := blk_frozen BK350.out 0
                          have hfz90_1 := blk_frozen BK350.out 1
                          go_wp2_with (first | ((with_reducible refine gate_callee (f := 27) rfl ?_); refine goesL_ (some 83) rfl rfl Try.func27 (by kernel_rfl) rfl #[.agg #[.slice Ao74 t374.length co74, .int .i64 t377], .agg #[.slice Ao13 t345.length co13, .int .i64 t348]] rfl (by (try simp only [List.map_toArray, List.map_cons, List.map_nil]); first | done | rfl | (simp only [List.length_drop, List.length_take]; rfl)) ?_; (with_reducible refine (laws_eqCode.calls kj36 _ _ t374 t377 _ _ t345 t348 false _ ?side1 ?side2 ?side3 ?side4 A78.out).mono ?_); (case side1 => refine (Kd.R_reads' (e := 109) (base := w.heap.size) (ok := fun k_ => (True ∧ some k_ ≠ (.slice Ao19 t354.length co19 : Value).ownBlock)) (n := t374.length) (c := co74) ?_).2.2; exact (by (with_reducible repeat (first | apply Kd.R_alloc | apply Kd.R_drewN | apply Kd.R_drew)); exact (Kd.R_mono (Kd.R_far (p := ⟨gb379, 1, none⟩) (Kd.R_far (p := ⟨gb379, 0, none⟩) (Kd.R_types HO376.out BK379.out (by decide)) (fun _ hk => hk.2) (.slice Ao74 t374.length co74)) (fun _ hk => hk.2) (.int .i64 t377)) (fun _ h_ => h_.1)))); (case side2 => exact (Kd.R_reads' HO376.out).2.1); (case side3 => refine (Kd.V_reads' (e := 109) (base := w.heap.size) (ok := fun k_ => ((((some k_ ≠ (.slice Ao19 t354.length co19 : Value).ownBlock ∧ (k_ ≠ gb350 ∧ k_ ≠ gb359)) ∧ some k_ ≠ (.slice Ao71 t371.length co71 : Value).ownBlock) ∧ some k_ ≠ (.slice Ao74 t374.length co74 : Value).ownBlock) ∧ k_ ≠ gb379)) (n := t345.length) (c := co13) ?_).2.2; exact (by (with_reducible repeat (first | apply Kd.V_alloc | apply Kd.V_drewN | apply Kd.V_drew)); exact (Kd.V_mono (Kd.V_far (p := ⟨gb379, 1, none⟩) (Kd.V_far (p := ⟨gb379, 0, none⟩) (Kd.V_mono HO_351000.out (fun k_ hk => (⟨hk, hk.2⟩ : _ ∧ k_ ≠ gb379))) (fun _ hk => hk.2) (.slice Ao74 t374.length co74)) (fun _ hk => hk.2) (.int .i64 t377)) (fun _ h_ => h_.1)))); (case side4 => exact (Kd.V_reads' HO_351000.out).2.1); rintro e w91 ⟨rfl, hb⟩; refine ⟨_, rfl, ?_⟩; have n0_ := Aside0.mk (Kd.V_below (by (with_reducible repeat (first | apply Kd.V_alloc | apply Kd.V_drewN | apply Kd.V_drew)); exact (Kd.V_mono (Kd.V_far (p := ⟨gb379, 1, none⟩) (Kd.V_far (p := ⟨gb379, 0, none⟩) (Kd.V_mono HO_351000.out (fun k_ hk => (⟨hk, hk.2⟩ : _ ∧ k_ ≠ gb379))) (fun _ hk => hk.2) (.slice Ao74 t374.length co74)) (fun _ hk => hk.2) (.int .i64 t377)) (fun _ h_ => h_.1))) hb); have n1_ := Aside0.mk (Kd.R_below (by (with_reducible repeat (first | apply Kd.R_alloc | apply Kd.R_drewN | apply Kd.R_drew)); exact (Kd.R_mono (Kd.R_far (p := ⟨gb379, 1, none⟩) (Kd.R_far (p := ⟨gb379, 0, none⟩) (Kd.R_types HO_360000.out BK379.out (by decide)) (fun _ hk => hk.2) (.slice Ao74 t374.length co74)) (fun _ hk => hk.2) (.int .i64 t377)) (fun _ h_ => h_.1))) hb); have n2_ := Aside0.mk (Kd.R_below (by (with_reducible repeat (first | apply Kd.R_alloc | apply Kd.R_drewN | apply Kd.R_drew)); exact (Kd.R_mono (Kd.R_far (p := ⟨gb379, 1, none⟩) (Kd.R_far (p := ⟨gb379, 0, none⟩) (Kd.R_types HO373.out BK379.out (by decide)) (fun _ hk => hk.2) (.slice Ao74 t374.length co74)) (fun _ hk => hk.2) (.int .i64 t377)) (fun _ h_ => h_.1))) hb); have n3_ := Aside0.mk (Kd.R_below (by (with_reducible repeat (first | apply Kd.R_alloc | apply Kd.R_drewN | apply Kd.R_drew)); exact (Kd.R_mono (Kd.R_far (p := ⟨gb379, 1, none⟩) (Kd.R_far (p := ⟨gb379, 0, none⟩) (Kd.R_types HO376.out BK379.out (by decide)) (fun _ hk => hk.2) (.slice Ao74 t374.length co74)) (fun _ hk => hk.2) (.int .i64 t377)) (fun _ h_ => h_.1))) hb); have n4_ := Aside0.mk (blk_below (g := gb350) (o := .cells #[.slice Ao13 t345.length co13, .int .i64 t348] 32 (0, 0)) (by (with_reducible repeat (first | refine blk_drewN ?_ _ | refine blk_drew ?_ | refine blk_alloc ?_ _)); refine blk_far ?_ NB350_379.out _; (with_reducible repeat (first | refine blk_drewN ?_ _ | refine blk_drew ?_ | refine blk_alloc ?_ _)); refine blk_far ?_ NB350_379.out _; (with_reducible repeat (first | refine blk_drewN ?_ _ | refine blk_drew ?_ | refine blk_alloc ?_ _)); exact BK350.out) hb); have n5_ := Aside0.mk (blk_below (g := gb359) (o := .cells #[.slice Ao19 t354.length co19, .int .i64 t357] 32 (0, 0)) (by (with_reducible repeat (first | refine blk_drewN ?_ _ | refine blk_drew ?_ | refine blk_alloc ?_ _)); refine blk_far ?_ NB359_379.out _; (with_reducible repeat (first | refine blk_drewN ?_ _ | refine blk_drew ?_ | refine blk_alloc ?_ _)); refine blk_far ?_ NB359_379.out _; (with_reducible repeat (first | refine blk_drewN ?_ _ | refine blk_drew ?_ | refine blk_alloc ?_ _)); exact BK359.out) hb); have n6_ := Aside0.mk (blk_below (g := gb379) (o := .cells #[.slice Ao74 t374.length co74, .int .i64 t377] 32 (0, 0)) (by (with_reducible repeat (first | refine blk_drewN ?_ _ | refine blk_drew ?_ | refine blk_alloc ?_ _)); refine blk_put (cs := #[.slice Ao74 t374.length co74, .int .i64 0]) ?_ 1 _ rfl; (with_reducible repeat (first | refine blk_drewN ?_ _ | refine blk_drew ?_ | refine blk_alloc ?_ _)); refine blk_put (cs := #[.slice none 0 0, .int .i64 0]) ?_ 0 _ rfl; (with_reducible repeat (first | refine blk_drewN ?_ _ | refine blk_drew ?_ | refine blk_alloc ?_ _)); exact BK379.out) hb); have n7_ := Aside0.mk (below_step (by repeat (first | (with_reducible first | exact HB.out | apply below_alloc | apply pw_below_drewN | apply below_drew1 | refine below_set ?_ GE350.out | refine below_set ?_ GE359.out | refine below_set ?_ GE379.out) | exact HB.out)) hb); clear HO_351000; clear HO_360000; clear HO373; clear HO376; clear BK350; clear BK359; clear BK379; clear HB; have HO_351000 := n0_; have HO_360000 := n1_; have HO373 := n2_; have HO376 := n3_; have BK350 := n4_; have BK359 := n5_; have BK379 := n6_; have HB := n7_; clear n0_ n1_ n2_ n3_ n4_ n5_ n6_ n7_; (try clear hb); (try clear hb2); (try clear hk); (try clear hi)))
                          go_meet
                          case rel => exact ⟨_, (true), (by first | rfl | (simp; done) | (simp [*]; done)), H', ⟨by have := HJ7.out; have := HJ36.out; first | omega | exact Nat.le_refl _⟩, ⟨by (with_reducible repeat (first | apply Kd.V_alloc | apply Kd.V_drewN | apply Kd.V_drew)); exact Kd.V_mono HO_351000.out (fun _ hk => ⟨hk.1.1.1.1, ⟨hk.1.2, ⟨hk.1.1.1.2.1, ⟨hk.1.1.1.2.2, hk.2⟩⟩⟩⟩)⟩, ⟨by (with_reducible repeat (first | apply Kd.R_alloc | apply Kd.R_drewN | apply Kd.R_drew)); exact Kd.R_mono HO_360000.out (fun _ hk => hk.2)⟩, ⟨by (with_reducible repeat (first | apply Kd.R_alloc | apply Kd.R_drewN | apply Kd.R_drew)); exact Kd.R_mono HO376.out (fun _ hk => hk.2)⟩, ⟨by (with_reducible repeat (first | refine blk_drewN ?_ _ | refine blk_drew ?_ | refine blk_alloc ?_ _)); exact BK350.out⟩, ⟨by (with_reducible repeat (first | refine blk_drewN ?_ _ | refine blk_drew ?_ | refine blk_alloc ?_ _)); exact BK359.out⟩, ⟨by (with_reducible repeat (first | refine blk_drewN ?_ _ | refine blk_drew ?_ | refine blk_alloc ?_ _)); exact BK379.out⟩, ⟨by repeat (first | (with_reducible first | exact HB.out | apply below_alloc | apply pw_below_drewN | apply below_drew1 | refine below_set ?_ GE350.out | refine below_set ?_ GE359.out | refine below_set ?_ GE379.out) | exact HB.out)⟩⟩
                      case rest =>
                        clear HC64
                        try clear c2
                        try clear p2
                        try clear c3
                        try clear c3b0
                        try clear c3b1
                        try clear c4
                        try clear c5
                        try clear c6
                        try clear c7
                        try clear c8
                        try clear c20
                        try clear c23
                        try clear c24
                        try clear c25
                        try clear c26
                        try clear c27
                        try clear c28
                        try clear c29
                        try clear c30
                        try clear c31
                        try clear c32
                        try clear c35
                        try clear c41
                        try clear c41b0
                        try clear c43
                        try clear c44
                        try clear c48
                        try clear c52
                        try clear c55
                        try clear c55b0
                        try clear c56
                        try clear c61
                        try clear c61b0
                        try clear c61b1
                        try clear c65
                        try clear c75
                        try clear c76
                        try clear c79
                        try clear c80
                        try clear c81
                        try clear c83
                        try clear c86
                        try clear c87
                        try clear c89
                        try clear hcz14_0
                        try clear hcz14_1
                        try clear hcz21_0
                        try clear hcz21_1
                        try clear hcz25_0
                        try clear hcz25_1
                        try clear hcz26_0
                        try clear hcz26_1
                        try clear hcz29_0
                        try clear hcz29_1
                        try clear hcz30_0
                        try clear hcz30_1
                        try clear hcz45_0
                        try clear hcz45_1
                        try clear hcz46_0
                        try clear hcz46_1
                        try clear hcz49_0
                        try clear hcz49_1
                        try clear hcz50_0
                        try clear hcz50_1
                        try clear hcz57_0
                        try clear hcz57_1
                        try clear hcz59_0
                        try clear hcz59_1
                        try clear hcz66_0
                        try clear hcz66_1
                        try clear hcz68_0
                        try clear hcz68_1
                        try clear hcz77_0
                        try clear hcz77_1
                        try clear hcz82_0
                        try clear hcz82_1
                        try clear hcz84_0
                        try clear hcz84_1
                        try clear hcz88_0
                        try clear hcz88_1
                        try clear hcz90_0
                        try clear hcz90_1
                        try clear hfz14_0
                        try clear hfz14_1
                        try clear hfz21_0
                        try clear hfz21_1
                        try clear hfz25_0
                        try clear hfz25_1
                        try clear hfz26_0
                        try clear hfz26_1
                        try clear hfz29_0
                        try clear hfz29_1
                        try clear hfz30_0
                        try clear hfz30_1
                        try clear hfz45_0
                        try clear hfz45_1
                        try clear hfz46_0
                        try clear hfz46_1
                        try clear hfz49_0
                        try clear hfz49_1
                        try clear hfz50_0
                        try clear hfz50_1
                        try clear hfz57_0
                        try clear hfz57_1
                        try clear hfz59_0
                        try clear hfz59_1
                        try clear hfz66_0
                        try clear hfz66_1
                        try clear hfz68_0
                        try clear hfz68_1
                        try clear hfz77_0
                        try clear hfz77_1
                        try clear hfz82_0
                        try clear hfz82_1
                        try clear hfz84_0
                        try clear hfz84_1
                        try clear hfz88_0
                        try clear hfz88_1
                        try clear hfz90_0
                        try clear hfz90_1
                        try clear p2
                        obtain ⟨kq, x89_63, rfl, HA, HJ63, HO_351000, HO_360000, HO_380000, BK350, BK359, BK379, HB⟩ := hcut
                        have hl360000_63 := (Kd.R_reads' HO_360000.out).1
                        rw [hl360000_63] at HO_360000
                        (try simp only [hl360000_63])
                        (try simp only [hl360000_63] at BK350)
                        (try simp only [hl360000_63] at BK359)
                        (try simp only [hl360000_63] at BK379)
                        (try simp only [hl360000_63] at HO_351000)
                        (try simp only [hl360000_63] at HO_380000)
                        cases kq with
                        | zero => exact absurd HA.out (by simp [laws_FnExactGiantCode.j2])
                        | succ kj63 =>
                          have H := HA.out
                          clear HA
                          simp only [laws_FnExactGiantCode.j2] at H
                          by_cases c92 : x89_63 = true
                          · subst c92
                            have H1 : (some false) = some r := by rw [if_pos rfl] at H; exact H
                            clear H
                            have H := H1
                            clear H1
                            obtain rfl := Option.some.inj H
                            go_wp2
                            go_ret
                            exact ⟨by first | rfl | (simp [errW_none, errW_some] <;> rfl) | (simp [*, errW_none, errW_some] <;> rfl), by repeat (first | (with_reducible first | exact HB.out | apply below_alloc | apply pw_below_drewN | apply below_drew1 | refine below_set ?_ GE350.out | refine below_set ?_ GE359.out | refine below_set ?_ GE379.out) | exact HB.out)⟩
                          · replace c92 := Bool.eq_false_iff.mpr c92
                            subst c92
                            have H1 : ((laws_heldCode.f kj63 t369 t357 1).bind fun t381 => (if t381 < 0 then (some false) else (if t381 = t368 then (some true) else (some false)))) = some r := by rw [if_neg (show ¬ (false = true) by decide)] at H; exact H
                            clear H
                            have H := H1
                            clear H1
                            replace H := Option.bind_eq_some_iff.mp H
                            obtain ⟨t381, A930, H⟩ := H
                            replace H : (if t381 < 0 then (some false) else (if t381 = t368 then (some true) else (some false))) = some r := H
                            have A93 := Aside0.mk A930
                            clear A930
                            by_cases c94 : t381 < 0
                            · rw [if_pos c94] at H
                              have c94b0 : decide (t381 < 0) = true := decide_eq_true c94
                              clear c94
                              obtain rfl := Option.some.inj H
                              have hnb95 := NB359_350.out
                              have hnc95 := NB350_359.out
                              have hnb96 := NB359_379.out
                              have hnc96 := NB379_359.out
                              have hcz97_0 : wc.cell? ⟨gb359, 0, none⟩ = some (.slice Ao19 t369.length co19) := (blk_cell BK359.out 0).trans rfl
                              have hcz97_1 : wc.cell? ⟨gb359, 1, none⟩ = some (.int .i64 t357) := (blk_cell BK359.out 1).trans rfl
                              have hfz97_0 := blk_frozen BK359.out 0
                              have hfz97_1 := blk_frozen BK359.out 1
                              go_wp2_with (first | ((with_reducible refine gate_callee (f := 31) rfl ?_); refine goesL_ (some 92) rfl rfl Try.func31 (by kernel_rfl) rfl #[.agg #[.slice Ao19 t369.length co19, .int .i64 t357], .int .i64 1] rfl (by (try simp only [List.map_toArray, List.map_cons, List.map_nil]); first | done | rfl | (simp only [List.length_drop, List.length_take]; rfl)) ?_; (with_reducible refine (laws_heldCode.calls kj63 _ _ t369 t357 1 t381 _ ?side1 ?side2 A93.out).mono ?_); (case side1 => repeat (first | exact (Kd.R_reads' HO_360000.out).2.2 | (with_reducible refine Kd.C_alloc ?_ _) | (with_reducible refine Kd.C_drewN ?_ _) | (with_reducible refine Kd.C_drew ?_))); (case side2 => exact (Kd.R_reads' HO_360000.out).2.1); rintro e w98 ⟨rfl, hb⟩; refine ⟨_, rfl, ?_⟩; have n0_ := Aside0.mk (Kd.V_below (by (with_reducible repeat (first | apply Kd.V_alloc | apply Kd.V_drewN | apply Kd.V_drew)); exact HO_351000.out) hb); have n1_ := Aside0.mk (Kd.R_below (by (with_reducible repeat (first | apply Kd.R_alloc | apply Kd.R_drewN | apply Kd.R_drew)); exact HO_360000.out) hb); have n2_ := Aside0.mk (Kd.R_below (by (with_reducible repeat (first | apply Kd.R_alloc | apply Kd.R_drewN | apply Kd.R_drew)); exact HO_380000.out) hb); have n3_ := Aside0.mk (blk_below (g := gb350) (o := .cells #[.slice Ao13 t345.length co13, .int .i64 t348] 32 (0, 0)) (by (with_reducible repeat (first | refine blk_drewN ?_ _ | refine blk_drew ?_ | refine blk_alloc ?_ _)); exact BK350.out) hb); have n4_ := Aside0.mk (blk_below (g := gb359) (o := .cells #[.slice Ao19 t369.length co19, .int .i64 t357] 32 (0, 0)) (by (with_reducible repeat (first | refine blk_drewN ?_ _ | refine blk_drew ?_ | refine blk_alloc ?_ _)); exact BK359.out) hb); have n5_ := Aside0.mk (blk_below (g := gb379) (o := .cells #[.slice Ao74 t374.length co74, .int .i64 t377] 32 (0, 0)) (by (with_reducible repeat (first | refine blk_drewN ?_ _ | refine blk_drew ?_ | refine blk_alloc ?_ _)); exact BK379.out) hb); have n6_ := Aside0.mk (below_step (by repeat (first | (with_reducible first | exact HB.out | apply below_alloc | apply pw_below_drewN | apply below_drew1 | refine below_set ?_ GE350.out | refine below_set ?_ GE359.out | refine below_set ?_ GE379.out) | exact HB.out)) hb); clear HO_351000; clear HO_360000; clear HO_380000; clear BK350; clear BK359; clear BK379; clear HB; have HO_351000 := n0_; have HO_360000 := n1_; have HO_380000 := n2_; have BK350 := n3_; have BK359 := n4_; have BK379 := n5_; have HB := n6_; clear n0_ n1_ n2_ n3_ n4_ n5_ n6_; (try clear hb); (try clear hb2); (try clear hk); (try clear hi)))
                              go_ret
                              exact ⟨by first | rfl | (simp [errW_none, errW_some] <;> rfl) | (simp [*, errW_none, errW_some] <;> rfl), by repeat (first | (with_reducible first | exact HB.out | apply below_alloc | apply pw_below_drewN | apply below_drew1 | refine below_set ?_ GE350.out | refine below_set ?_ GE359.out | refine below_set ?_ GE379.out) | exact HB.out)⟩
                            · rw [if_neg c94] at H
                              have c94b0 : decide (t381 < 0) = false := decide_eq_false c94
                              clear c94
                              by_cases c99 : t381 = t368
                              · rw [if_pos c99] at H
                                have c99b0 : (t381 == t368) = true := beq_iff_eq.mpr c99
                                have c99b1 : (t381 != t368) = false := bne_eq_false_iff_eq.mpr c99
                                clear c99
                                obtain rfl := Option.some.inj H
                                have hnb100 := NB359_350.out
                                have hnc100 := NB350_359.out
                                have hnb101 := NB359_379.out
                                have hnc101 := NB379_359.out
                                have hcz102_0 : wc.cell? ⟨gb359, 0, none⟩ = some (.slice Ao19 t369.length co19) := (blk_cell BK359.out 0).trans rfl
                                have hcz102_1 : wc.cell? ⟨gb359, 1, none⟩ = some (.int .i64 t357) := (blk_cell BK359.out 1).trans rfl
                                have hfz102_0 := blk_frozen BK359.out 0
                                have hfz102_1 := blk_frozen BK359.out 1
                                go_wp2_with (first | ((with_reducible refine gate_callee (f := 31) rfl ?_); refine goesL_ (some 92) rfl rfl Try.func31 (by kernel_rfl) rfl #[.agg #[.slice Ao19 t369.length co19, .int .i64 t357], .int .i64 1] rfl (by (try simp only [List.map_toArray, List.map_cons, List.map_nil]); first | done | rfl | (simp only [List.length_drop, List.length_take]; rfl)) ?_; (with_reducible refine (laws_heldCode.calls kj63 _ _ t369 t357 1 t381 _ ?side1 ?side2 A93.out).mono ?_); (case side1 => repeat (first | exact (Kd.R_reads' HO_360000.out).2.2 | (with_reducible refine Kd.C_alloc ?_ _) | (with_reducible refine Kd.C_drewN ?_ _) | (with_reducible refine Kd.C_drew ?_))); (case side2 => exact (Kd.R_reads' HO_360000.out).2.1); rintro e w103 ⟨rfl, hb⟩; refine ⟨_, rfl, ?_⟩; have n0_ := Aside0.mk (Kd.V_below (by (with_reducible repeat (first | apply Kd.V_alloc | apply Kd.V_drewN | apply Kd.V_drew)); exact HO_351000.out) hb); have n1_ := Aside0.mk (Kd.R_below (by (with_reducible repeat (first | apply Kd.R_alloc | apply Kd.R_drewN | apply Kd.R_drew)); exact HO_360000.out) hb); have n2_ := Aside0.mk (Kd.R_below (by (with_reducible repeat (first | apply Kd.R_alloc | apply Kd.R_drewN | apply Kd.R_drew)); exact HO_380000.out) hb); have n3_ := Aside0.mk (blk_below (g := gb350) (o := .cells #[.slice Ao13 t345.length co13, .int .i64 t348] 32 (0, 0)) (by (with_reducible repeat (first | refine blk_drewN ?_ _ | refine blk_drew ?_ | refine blk_alloc ?_ _)); exact BK350.out) hb); have n4_ := Aside0.mk (blk_below (g := gb359) (o := .cells #[.slice Ao19 t369.length co19, .int .i64 t357] 32 (0, 0)) (by (with_reducible repeat (first | refine blk_drewN ?_ _ | refine blk_drew ?_ | refine blk_alloc ?_ _)); exact BK359.out) hb); have n5_ := Aside0.mk (blk_below (g := gb379) (o := .cells #[.slice Ao74 t374.length co74, .int .i64 t377] 32 (0, 0)) (by (with_reducible repeat (first | refine blk_drewN ?_ _ | refine blk_drew ?_ | refine blk_alloc ?_ _)); exact BK379.out) hb); have n6_ := Aside0.mk (below_step (by repeat (first | (with_reducible first | exact HB.out | apply below_alloc | apply pw_below_drewN | apply below_drew1 | refine below_set ?_ GE350.out | refine below_set ?_ GE359.out | refine below_set ?_ GE379.out) | exact HB.out)) hb); clear HO_351000; clear HO_360000; clear HO_380000; clear BK350; clear BK359; clear BK379; clear HB; have HO_351000 := n0_; have HO_360000 := n1_; have HO_380000 := n2_; have BK350 := n3_; have BK359 := n4_; have BK379 := n5_; have HB := n6_; clear n0_ n1_ n2_ n3_ n4_ n5_ n6_; (try clear hb); (try clear hb2); (try clear hk); (try clear hi)))
                                go_ret
                                exact ⟨by first | rfl | (simp [errW_none, errW_some] <;> rfl) | (simp [*, errW_none, errW_some] <;> rfl), by repeat (first | (with_reducible first | exact HB.out | apply below_alloc | apply pw_below_drewN | apply below_drew1 | refine below_set ?_ GE350.out | refine below_set ?_ GE359.out | refine below_set ?_ GE379.out) | exact HB.out)⟩
                              · rw [if_neg c99] at H
                                have c99b0 : (t381 == t368) = false := beq_eq_false_iff_ne.mpr c99
                                have c99b1 : (t381 != t368) = true := bne_iff_ne.mpr c99
                                obtain rfl := Option.some.inj H
                                have hnb104 := NB359_350.out
                                have hnc104 := NB350_359.out
                                have hnb105 := NB359_379.out
                                have hnc105 := NB379_359.out
                                have hcz106_0 : wc.cell? ⟨gb359, 0, none⟩ = some (.slice Ao19 t369.length co19) := (blk_cell BK359.out 0).trans rfl
                                have hcz106_1 : wc.cell? ⟨gb359, 1, none⟩ = some (.int .i64 t357) := (blk_cell BK359.out 1).trans rfl
                                have hfz106_0 := blk_frozen BK359.out 0
                                have hfz106_1 := blk_frozen BK359.out 1
                                go_wp2_with (first | ((with_reducible refine gate_callee (f := 31) rfl ?_); refine goesL_ (some 92) rfl rfl Try.func31 (by kernel_rfl) rfl #[.agg #[.slice Ao19 t369.length co19, .int .i64 t357], .int .i64 1] rfl (by (try simp only [List.map_toArray, List.map_cons, List.map_nil]); first | done | rfl | (simp only [List.length_drop, List.length_take]; rfl)) ?_; (with_reducible refine (laws_heldCode.calls kj63 _ _ t369 t357 1 t381 _ ?side1 ?side2 A93.out).mono ?_); (case side1 => repeat (first | exact (Kd.R_reads' HO_360000.out).2.2 | (with_reducible refine Kd.C_alloc ?_ _) | (with_reducible refine Kd.C_drewN ?_ _) | (with_reducible refine Kd.C_drew ?_))); (case side2 => exact (Kd.R_reads' HO_360000.out).2.1); rintro e w107 ⟨rfl, hb⟩; refine ⟨_, rfl, ?_⟩; have n0_ := Aside0.mk (Kd.V_below (by (with_reducible repeat (first | apply Kd.V_alloc | apply Kd.V_drewN | apply Kd.V_drew)); exact HO_351000.out) hb); have n1_ := Aside0.mk (Kd.R_below (by (with_reducible repeat (first | apply Kd.R_alloc | apply Kd.R_drewN | apply Kd.R_drew)); exact HO_360000.out) hb); have n2_ := Aside0.mk (Kd.R_below (by (with_reducible repeat (first | apply Kd.R_alloc | apply Kd.R_drewN | apply Kd.R_drew)); exact HO_380000.out) hb); have n3_ := Aside0.mk (blk_below (g := gb350) (o := .cells #[.slice Ao13 t345.length co13, .int .i64 t348] 32 (0, 0)) (by (with_reducible repeat (first | refine blk_drewN ?_ _ | refine blk_drew ?_ | refine blk_alloc ?_ _)); exact BK350.out) hb); have n4_ := Aside0.mk (blk_below (g := gb359) (o := .cells #[.slice Ao19 t369.length co19, .int .i64 t357] 32 (0, 0)) (by (with_reducible repeat (first | refine blk_drewN ?_ _ | refine blk_drew ?_ | refine blk_alloc ?_ _)); exact BK359.out) hb); have n5_ := Aside0.mk (blk_below (g := gb379) (o := .cells #[.slice Ao74 t374.length co74, .int .i64 t377] 32 (0, 0)) (by (with_reducible repeat (first | refine blk_drewN ?_ _ | refine blk_drew ?_ | refine blk_alloc ?_ _)); exact BK379.out) hb); have n6_ := Aside0.mk (below_step (by repeat (first | (with_reducible first | exact HB.out | apply below_alloc | apply pw_below_drewN | apply below_drew1 | refine below_set ?_ GE350.out | refine below_set ?_ GE359.out | refine below_set ?_ GE379.out) | exact HB.out)) hb); clear HO_351000; clear HO_360000; clear HO_380000; clear BK350; clear BK359; clear BK379; clear HB; have HO_351000 := n0_; have HO_360000 := n1_; have HO_380000 := n2_; have BK350 := n3_; have BK359 := n4_; have BK379 := n5_; have HB := n6_; clear n0_ n1_ n2_ n3_ n4_ n5_ n6_; (try clear hb); (try clear hb2); (try clear hk); (try clear hi)))
                                go_ret
                                exact ⟨by first | rfl | (simp [errW_none, errW_some] <;> rfl) | (simp [*, errW_none, errW_some] <;> rfl), by repeat (first | (with_reducible first | exact HB.out | apply below_alloc | apply pw_below_drewN | apply below_drew1 | refine below_set ?_ GE350.out | refine below_set ?_ GE359.out | refine below_set ?_ GE379.out) | exact HB.out)⟩
                    · rw [if_neg c61] at H
                      have c61b0 : (t370 == t368) = false := beq_eq_false_iff_ne.mpr c61
                      have c61b1 : (t370 != t368) = true := bne_iff_ne.mpr c61
                      obtain rfl := Option.some.inj H
                      have hnb108 := NB359_350.out
                      have hnc108 := NB350_359.out
                      have hcz109_0 : wc.cell? ⟨gb359, 0, none⟩ = some (.slice Ao19 t354.length co19) := (blk_cell BK359.out 0).trans rfl
                      have hcz109_1 : wc.cell? ⟨gb359, 1, none⟩ = some (.int .i64 t357) := (blk_cell BK359.out 1).trans rfl
                      have hfz109_0 := blk_frozen BK359.out 0
                      have hfz109_1 := blk_frozen BK359.out 1
                      go_wp2_with (first | ((with_reducible refine gate_callee (f := 30) rfl ?_); refine goesL_ (some 65) rfl rfl Try.func30 (by kernel_rfl) rfl #[.agg #[.slice Ao19 t354.length co19, .int .i64 t357], .int .i64 1] rfl (by (try simp only [List.map_toArray, List.map_cons, List.map_nil]); first | done | rfl | (simp only [List.length_drop, List.length_take]; rfl)) ?_; (with_reducible refine (laws_markCode.calls kj36 (fun k_ => some k_ = (.slice Ao19 t354.length co19 : Value).ownBlock) (.slice Ao19 t354.length co19) t354 t357 1 t368 t369 w _ ?side1 ?side2 A53.out).mono ?_); (case side1 => repeat (first | (with_reducible first | exact HB.out | apply below_alloc | apply pw_below_drewN | apply below_drew1 | refine below_set ?_ GE350.out | refine below_set ?_ GE359.out) | exact HB.out)); (case side2 => exact Kd.R_tight rfl HO_360000.out); rintro e w110 ⟨rfl, hy0, hb, hkp⟩; refine ⟨_, rfl, ?_⟩; have n0_ := Aside0.mk (Kd.V_mono (ok' := fun k_ => some k_ ≠ (.slice Ao19 t354.length co19 : Value).ownBlock ∧ k_ ≠ gb350 ∧ k_ ≠ gb359) (Kd.V_keptB (HO_351000.out) hkp (fun k_ hk_ hs_ => (hk_.1) hs_)) (fun k_ hk_ => ⟨hk_.1.1, hk_.1.2.1, hk_.1.2.2⟩)); have n1_ := Aside0.mk (Kd.R_reok rfl hy0 (fun k_ e_ => HO_360000.out.1 k_ e_)); have n2_ := Aside0.mk (blk_kept (by (with_reducible repeat (first | refine blk_drewN ?_ _ | refine blk_drew ?_ | refine blk_alloc ?_ _)); exact BK350.out) hkp (fun hs_ => (fun e_ => (Kd.R_ne HO_360000.out BK350.out (by decide)) e_) hs_)); have n3_ := Aside0.mk (blk_kept (by (with_reducible repeat (first | refine blk_drewN ?_ _ | refine blk_drew ?_ | refine blk_alloc ?_ _)); exact BK359.out) hkp (fun hs_ => (fun e_ => (Kd.R_ne HO_360000.out BK359.out (by decide)) e_) hs_)); have n4_ := Aside0.mk (hb); clear HO_351000; clear HO_360000; clear BK350; clear BK359; clear HB; have HO_351000 := n0_; have HO_360000 := n1_; have BK350 := n2_; have BK359 := n3_; have HB := n4_; clear n0_ n1_ n2_ n3_ n4_; (try clear hb); (try clear hkp); (try clear hy0); have hcz111_0 : w110.cell? ⟨gb359, 0, none⟩ = some (.slice Ao19 t354.length co19) := (blk_cell BK359.out 0).trans rfl; have hcz111_1 : w110.cell? ⟨gb359, 1, none⟩ = some (.int .i64 t357) := (blk_cell BK359.out 1).trans rfl; have hfz111_0 := blk_frozen BK359.out 0; have hfz111_1 := blk_frozen BK359.out 1) | ((with_reducible refine gate_callee (f := 31) rfl ?_); refine goesL_ (some 68) rfl rfl Try.func31 (by kernel_rfl) rfl #[.agg #[.slice Ao19 t369.length co19, .int .i64 t357], .int .i64 1] rfl (by (try simp only [List.map_toArray, List.map_cons, List.map_nil]); first | done | (rw [show t369.length = t354.length from (Kd.R_reads' HO_360000.out).1.symm] <;> rfl) | rfl | (simp only [List.length_drop, List.length_take]; rfl)) ?_; (with_reducible refine (laws_heldCode.calls kj36 _ _ t369 t357 1 t370 _ ?side1 ?side2 A54.out).mono ?_); (case side1 => repeat (first | exact (Kd.R_reads' HO_360000.out).2.2 | (with_reducible refine Kd.C_alloc ?_ _) | (with_reducible refine Kd.C_drewN ?_ _) | (with_reducible refine Kd.C_drew ?_))); (case side2 => rw [show t369.length = t354.length from (Kd.R_reads' HO_360000.out).1.symm]; exact (Kd.R_reads' HO_360000.out).2.1); rintro e w112 ⟨rfl, hb⟩; refine ⟨_, rfl, ?_⟩; have n0_ := Aside0.mk (Kd.V_below (by (with_reducible repeat (first | apply Kd.V_alloc | apply Kd.V_drewN | apply Kd.V_drew)); exact HO_351000.out) hb); have n1_ := Aside0.mk (Kd.R_below (by (with_reducible repeat (first | apply Kd.R_alloc | apply Kd.R_drewN | apply Kd.R_drew)); exact HO_360000.out) hb); have n2_ := Aside0.mk (blk_below (g := gb350) (o := .cells #[.slice Ao13 t345.length co13, .int .i64 t348] 32 (0, 0)) (by (with_reducible repeat (first | refine blk_drewN ?_ _ | refine blk_drew ?_ | refine blk_alloc ?_ _)); exact BK350.out) hb); have n3_ := Aside0.mk (blk_below (g := gb359) (o := .cells #[.slice Ao19 t354.length co19, .int .i64 t357] 32 (0, 0)) (by (with_reducible repeat (first | refine blk_drewN ?_ _ | refine blk_drew ?_ | refine blk_alloc ?_ _)); exact BK359.out) hb); have n4_ := Aside0.mk (below_step (by repeat (first | (with_reducible first | exact HB.out | apply below_alloc | apply pw_below_drewN | apply below_drew1 | refine below_set ?_ GE350.out | refine below_set ?_ GE359.out) | exact HB.out)) hb); clear HO_351000; clear HO_360000; clear BK350; clear BK359; clear HB; have HO_351000 := n0_; have HO_360000 := n1_; have BK350 := n2_; have BK359 := n3_; have HB := n4_; clear n0_ n1_ n2_ n3_ n4_; (try clear hb); (try clear hb2); (try clear hk); (try clear hi)))
                      go_ret
                      exact ⟨by first | rfl | (simp [errW_none, errW_some] <;> rfl) | (simp [*, errW_none, errW_some] <;> rfl), by repeat (first | (with_reducible first | exact HB.out | apply below_alloc | apply pw_below_drewN | apply below_drew1 | refine below_set ?_ GE350.out | refine below_set ?_ GE359.out) | exact HB.out)⟩
          · replace c35 := Bool.eq_false_iff.mpr c35
            subst c35
            have H1 : (some false) = some r := by rw [if_neg (show ¬ (false = true) by decide)] at H; exact H
            clear H
            have H := H1
            clear H1
            obtain rfl := Option.some.inj H
            go_wp2_with (first | ((with_reducible refine gate_callee (f := 26) rfl ?_); refine goesL_ (some 44) rfl rfl Try.func26 (by kernel_rfl) rfl #[.slice A0 l0.length c0] rfl (by (try simp only [List.map_toArray, List.map_cons, List.map_nil]); first | done | rfl | (simp only [List.length_drop, List.length_take]; rfl)) ?_; (with_reducible refine (laws_toIntS.calls kj7 _ _ l0 t361 _ ?side1 ?side2 A33.out).mono ?_); (case side1 => repeat (first | exact (Kd.C_below HR0.out HB.out) | (with_reducible refine Kd.C_alloc ?_ _) | (with_reducible refine Kd.C_drewN ?_ _) | (with_reducible refine Kd.C_drew ?_))); (case side2 => exact HC0.out); rintro e w113 ⟨v362, rfl, ho0, hb⟩; refine ⟨_, rfl, ?_⟩; have n0_ := Aside0.mk (Kd.R_elder' (by (with_reducible repeat (first | apply Kd.R_alloc | apply Kd.R_drewN | apply Kd.R_drew)); exact HO_7.out) (Kd.R_base ho0) hb); have n1_ := Aside0.mk (Kd.V_elder' (by (with_reducible repeat (first | apply Kd.V_alloc | apply Kd.V_drewN | apply Kd.V_drew)); exact HO_351000.out) (Kd.R_base ho0) hb); have n2_ := Aside0.mk (Kd.R_below (by (with_reducible repeat (first | apply Kd.R_alloc | apply Kd.R_drewN | apply Kd.R_drew)); exact HO_360000.out) hb); have n3_ := Aside0.mk (Kd.R_lower (Kd.R_new' ho0 (Kd.R_lt (by (with_reducible repeat (first | apply Kd.R_alloc | apply Kd.R_drewN | apply Kd.R_drew)); exact HO_7.out))) (below_size (by repeat (first | (with_reducible first | exact HB.out | apply below_alloc | apply pw_below_drewN | apply below_drew1 | refine below_set ?_ GE350.out | refine below_set ?_ GE359.out) | exact HB.out)))); have n4_ := Aside0.mk (blk_below (g := gb350) (o := .cells #[.slice Ao13 t345.length co13, .int .i64 t348] 32 (0, 0)) (by (with_reducible repeat (first | refine blk_drewN ?_ _ | refine blk_drew ?_ | refine blk_alloc ?_ _)); exact BK350.out) hb); have n5_ := Aside0.mk (blk_below (g := gb359) (o := .cells #[.slice Ao19 t354.length co19, .int .i64 t357] 32 (0, 0)) (by (with_reducible repeat (first | refine blk_drewN ?_ _ | refine blk_drew ?_ | refine blk_alloc ?_ _)); exact BK359.out) hb); have n6_ := Aside0.mk (below_step (by repeat (first | (with_reducible first | exact HB.out | apply below_alloc | apply pw_below_drewN | apply below_drew1 | refine below_set ?_ GE350.out | refine below_set ?_ GE359.out) | exact HB.out)) hb); clear HO_7; clear HO_351000; clear HO_360000; clear BK350; clear BK359; clear HB; have HO_7 := n0_; have HO_351000 := n1_; have HO_360000 := n2_; have HO363 := n3_; have BK350 := n4_; have BK359 := n5_; have HB := n6_; clear n0_ n1_ n2_ n3_ n4_ n5_ n6_; (try clear hb); (try clear hb2); (try clear hk); (try clear hi); (try clear ho0); obtain ⟨Ao114, co114, eo114⟩ := Kd.R_slice HO363.out; subst eo114) | ((with_reducible refine gate_callee (f := 28) rfl ?_); refine goesL_ (some 45) rfl rfl Try.func28 (by kernel_rfl) rfl #[.slice Ao16 t351.length co16, .slice Ao114 t361.length co114] rfl (by (try simp only [List.map_toArray, List.map_cons, List.map_nil]); first | done | rfl | (simp only [List.length_drop, List.length_take]; rfl)) ?_; (with_reducible refine (laws_eqIntS.calls kj7 _ _ t351 _ _ t361 false _ ?side1 ?side2 ?side3 ?side4 A34.out).mono ?_); (case side1 => repeat (first | exact (Kd.R_reads' HO_7.out).2.2 | (with_reducible refine Kd.C_alloc ?_ _) | (with_reducible refine Kd.C_drewN ?_ _) | (with_reducible refine Kd.C_drew ?_))); (case side2 => exact (Kd.R_reads' HO_7.out).2.1); (case side3 => repeat (first | exact (Kd.R_reads' HO363.out).2.2 | (with_reducible refine Kd.C_alloc ?_ _) | (with_reducible refine Kd.C_drewN ?_ _) | (with_reducible refine Kd.C_drew ?_))); (case side4 => exact (Kd.R_reads' HO363.out).2.1); rintro e w' ⟨rfl, ⟨nd, rfl⟩⟩; refine ⟨_, rfl, ?_⟩))
            go_ret
            exact ⟨by first | rfl | (simp [errW_none, errW_some] <;> rfl) | (simp [*, errW_none, errW_some] <;> rfl), by repeat (first | (with_reducible first | exact HB.out | apply below_alloc | apply pw_below_drewN | apply below_drew1 | refine below_set ?_ GE350.out | refine below_set ?_ GE359.out) | exact HB.out)⟩

/-- THE ONE PURE STATEMENT of laws_FnExactGiantCode: yours. -/
def laws_FnExactGiantCode.Pure : Prop := ∀ (l0 : List Int) (a1 : Int), l0.length ≤ maxLen → l0.length * 8 ≤ 140737488351232 → (∀ x ∈ l0, (Lit.int .i64 x).wf = true) → (Lit.int .i64 a1).wf = true → ∃ k, laws_FnExactGiantCode.f k l0 a1 = some true
theorem laws_FnExactGiantCode.walk (P : laws_FnExactGiantCode.Pure) (a0 : Option Addr) (len0 cap0 : Nat) (z0 : List Int) (a1 : Int) (w : World) (w0 : (a0 = none ∧ len0 = 0 ∧ cap0 = 0 ∧ z0 = []) ∨ ∃ x, a0 = some x ∧ len0 ≤ cap0 ∧ cap0 ≤ maxLen ∧ z0.length = cap0 ∧ (∀ i, i < z0.length → w.cell? (x.add i) = some (.int .i64 (z0.getD i 0))) ∧ ∀ n ∈ z0, (Lit.int .i64 n).wf = true) (y0 : len0 * 8 ≤ 140737488351232) (w1 : (Lit.int .i64 a1).wf = true) :
    Calls Try.prog 4 #[.slice a0 len0 cap0, .int .i64 a1] w fun e w' => e = .returned (.bool true) ∧ Below w.heap.size w w' := by
  obtain ⟨l0, rfl, hr0, hm0, hw0, hc0⟩ := ReadsInt.ofRowC w0
  obtain ⟨k, h⟩ := P l0 a1 hm0 y0 hw0 w1
  refine (laws_FnExactGiantCode.calls k _ _ l0 a1 true w (Kd.C_of_reads (d := (0 : Int)) (h1 := fun _ => rfl) hr0) hc0 h).mono ?_
  rintro e w' ⟨rfl, hd⟩
  exact ⟨rfl, hd⟩

end Go.Proofs.Ytlmoemahamneoaa.PFnExactGiantCode
