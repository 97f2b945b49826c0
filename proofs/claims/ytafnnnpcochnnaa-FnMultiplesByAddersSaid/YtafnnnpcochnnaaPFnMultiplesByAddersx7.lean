-- Written by gprint.py, a program of this session, out of the translation (a changed print).
import Derived.Test.YtafnnnpcochnnaaPFnMultiplesByAddersx0
import Derived.Test.YtafnnnpcochnnaaPFnMultiplesByAddersx1
import Derived.Test.YtafnnnpcochnnaaPFnMultiplesByAddersx2
import Derived.Test.YtafnnnpcochnnaaPFnMultiplesByAddersx3
import Derived.Test.YtafnnnpcochnnaaPFnMultiplesByAddersx4
import Derived.Test.YtafnnnpcochnnaaPFnMultiplesByAddersx5
import Derived.Test.YtafnnnpcochnnaaPFnMultiplesByAddersx6
namespace Go.Proofs.Ytafnnnpcochnnaa.PFnMultiplesByAdders
open Go.RowKit Go.Proofs.YtafnnnpcochnnaaW.PrintWords Go.Proofs.YtafnnnpcochnnaaW.PrintLast Go.Proofs.YtafnnnpcochnnaaW.PrintMore
attribute [local go_sem] max2_int min2_int max_two min_two max_three min_three max_four min_four   -- for this text's walks alone
set_option linter.unusedVariables false
set_option linter.unusedSimpArgs false

attribute [local go_sem high] eqA69
/-! ### laws_FnMultiplesByAdders: function 13 -/
mutual
def laws_FnMultiplesByAdders.j0 : Nat → List Int → Int → List (S69) → Bool → Bool → Option (Bool)
  | 0, _, _, _, _, _ => none
  | k + 1, x1, x5, x6, x7, x47 => if x47 = true then (some false) else ((laws_numberOf.f k x1).bind fun t318 => (if x7 = true then ((impl_RunAdders.f k x6 (wrap64 ((Int.tmod t318 2001) - 1000))).bind fun bt319 => ((impl_SignedDigits.f k x5).bind fun bt323 => ((impl_WeightOf.f k bt323.1).bind fun bt327 => (if bt319.2 = true then (if 0 ≤ (wrap64 ((bt319.1.length : Int) - 1)) then (if (wrap64 ((bt319.1.length : Int) - 1)) < (bt319.1.length : Int) then (if (rd bt319.1 (wrap64 ((bt319.1.length : Int) - 1))) = (wrap64 (x5 * (wrap64 ((Int.tmod t318 2001) - 1000)))) then (if bt323.2 = true then (if bt327.2 = true then (if x5 > 0 then (if bt327.1 > 1 then (if (x6.length : Int) = (wrap64 (bt327.1 - 1)) then (laws_FnMultiplesByAdders.j1 k x1 (wrap64 ((Int.tmod t318 2001) - 1000))) else (some false)) else (laws_FnMultiplesByAdders.j1 k x1 (wrap64 ((Int.tmod t318 2001) - 1000)))) else (laws_FnMultiplesByAdders.j1 k x1 (wrap64 ((Int.tmod t318 2001) - 1000)))) else (some false)) else (some false)) else (some false)) else (none)) else (none)) else (some false))))) else (laws_FnMultiplesByAdders.j1 k x1 (wrap64 ((Int.tmod t318 2001) - 1000)))))
def laws_FnMultiplesByAdders.j1 : Nat → List Int → Int → Option (Bool)
  | 0, _, _ => none
  | k + 1, x1, x10 => (spec_DrawOneAdder.f x1).bind fun t330 => ((impl_OneAdder.f k t330).bind fun bt331 => ((spec_OneAdder.f k t330).bind fun bt338 => (if (bt331.2.2.2.2.2 != bt338.2.2.2.2.2) = true then (laws_FnMultiplesByAdders.j2 k x10 t330 bt331.2.2.2.2.2 true bt331.1 bt331.2.1 bt331.2.2.1 bt331.2.2.2.1 bt331.2.2.2.2.1) else (laws_FnMultiplesByAdders.j2 k x10 t330 bt331.2.2.2.2.2 (!(bt331.1 == bt338.1) || (!(bt331.2.1 == bt338.2.1) || (!(bt331.2.2.1 == bt338.2.2.1) || (!(bt331.2.2.2.1 == bt338.2.2.2.1) || (!(bt331.2.2.2.2.1 == bt338.2.2.2.2.1)))))) bt331.1 bt331.2.1 bt331.2.2.1 bt331.2.2.2.1 bt331.2.2.2.2.1))))
def laws_FnMultiplesByAdders.j2 : Nat → Int → Int → Bool → Bool → Int → Int → Int → Int → Bool → Option (Bool)
  | 0, _, _, _, _, _, _, _, _, _ => none
  | k + 1, x10, x17, x19, x125, x338000, x338001, x338002, x338003, x338004 => if x125 = true then (some false) else (if x19 = true then ((impl_RunAdders.f k (([(⟨x338000, x338001, x338002, x338003, x338004⟩ : S69)] : List (S69))) x10).bind fun bt348 => (if bt348.2 = true then (if (bt348.1.length : Int) = 2 then (if 1 < (bt348.1.length : Int) then (some ((rd bt348.1 1) == (wrap64 (x17 * x10)))) else (none)) else (some false)) else (some false))) else (some true))
end
def laws_FnMultiplesByAdders.f (k : Nat) (l0 : List Int) (l1 : List Int) : Option (Bool) := (laws_big.f l0 l1).bind fun t307 => (if t307 = true then (some true) else ((spec_DrawAddersOf.f l0).bind fun t308 => ((impl_AddersOf.f k t308).bind fun bt309 => ((spec_AddersOf.f k t308).bind fun bt313 => (if (bt309.2 != bt313.2) = true then (laws_FnMultiplesByAdders.j0 k l1 t308 bt309.1 bt309.2 true) else ((laws_rSameAdders.f k bt309.1 bt313.1).bind fun t317 => (laws_FnMultiplesByAdders.j0 k l1 t308 bt309.1 bt309.2 (!t317))))))))
theorem laws_FnMultiplesByAdders.mono_l : ∀ k, (∀ y0 y1 y2 y3 y4, LeO (laws_FnMultiplesByAdders.j0 k y0 y1 y2 y3 y4) (laws_FnMultiplesByAdders.j0 (k + 1) y0 y1 y2 y3 y4)) ∧ (∀ y0 y1, LeO (laws_FnMultiplesByAdders.j1 k y0 y1) (laws_FnMultiplesByAdders.j1 (k + 1) y0 y1)) ∧ (∀ y0 y1 y2 y3 y4 y5 y6 y7 y8, LeO (laws_FnMultiplesByAdders.j2 k y0 y1 y2 y3 y4 y5 y6 y7 y8) (laws_FnMultiplesByAdders.j2 (k + 1) y0 y1 y2 y3 y4 y5 y6 y7 y8))
  | 0 => ⟨fun _ _ _ _ _ r h => by simp [laws_FnMultiplesByAdders.j0] at h, fun _ _ r h => by simp [laws_FnMultiplesByAdders.j1] at h, fun _ _ _ _ _ _ _ _ _ r h => by simp [laws_FnMultiplesByAdders.j2] at h⟩
  | k + 1 => by
    obtain ⟨ih0, ih1, ih2⟩ := laws_FnMultiplesByAdders.mono_l k
    refine ⟨?_, ?_, ?_⟩
    · intro y0 y1 y2 y3 y4
      unfold laws_FnMultiplesByAdders.j0
      repeat' first
      | (with_reducible exact ih0 _ _ _ _ _)
      | (with_reducible exact ih1 _ _)
      | (with_reducible exact ih2 _ _ _ _ _ _ _ _ _)
      | (with_reducible exact impl_AddersOf.mono _ _)
      | (with_reducible exact impl_OneAdder.mono _ _)
      | (with_reducible exact impl_RunAdders.mono _ _ _)
      | (with_reducible exact impl_SignedDigits.mono _ _)
      | (with_reducible exact impl_WeightOf.mono _ _)
      | (with_reducible exact laws_numberOf.mono _ _)
      | (with_reducible exact laws_rSameAdders.mono _ _ _)
      | (with_reducible exact spec_AddersOf.mono _ _)
      | (with_reducible exact spec_OneAdder.mono _ _)
      | (with_reducible exact LeO.refl _)
      | (with_reducible exact LeO.none _)
      | (with_reducible refine LeO.ite ?_ ?_)
      | (with_reducible refine LeO.bind ?_ (fun _ => ?_))
      | exact ih0 _ _ _ _ _
      | exact ih1 _ _
      | exact ih2 _ _ _ _ _ _ _ _ _
      | exact impl_AddersOf.mono _ _
      | exact impl_OneAdder.mono _ _
      | exact impl_RunAdders.mono _ _ _
      | exact impl_SignedDigits.mono _ _
      | exact impl_WeightOf.mono _ _
      | exact laws_numberOf.mono _ _
      | exact laws_rSameAdders.mono _ _ _
      | exact spec_AddersOf.mono _ _
      | exact spec_OneAdder.mono _ _
      | exact LeO.none _
      | refine LeO.ite ?_ ?_
      | refine LeO.bind ?_ (fun _ => ?_)
    · intro y0 y1
      unfold laws_FnMultiplesByAdders.j1
      repeat' first
      | (with_reducible exact ih0 _ _ _ _ _)
      | (with_reducible exact ih1 _ _)
      | (with_reducible exact ih2 _ _ _ _ _ _ _ _ _)
      | (with_reducible exact impl_AddersOf.mono _ _)
      | (with_reducible exact impl_OneAdder.mono _ _)
      | (with_reducible exact impl_RunAdders.mono _ _ _)
      | (with_reducible exact impl_SignedDigits.mono _ _)
      | (with_reducible exact impl_WeightOf.mono _ _)
      | (with_reducible exact laws_numberOf.mono _ _)
      | (with_reducible exact laws_rSameAdders.mono _ _ _)
      | (with_reducible exact spec_AddersOf.mono _ _)
      | (with_reducible exact spec_OneAdder.mono _ _)
      | (with_reducible exact LeO.refl _)
      | (with_reducible exact LeO.none _)
      | (with_reducible refine LeO.ite ?_ ?_)
      | (with_reducible refine LeO.bind ?_ (fun _ => ?_))
      | exact ih0 _ _ _ _ _
      | exact ih1 _ _
      | exact ih2 _ _ _ _ _ _ _ _ _
      | exact impl_AddersOf.mono _ _
      | exact impl_OneAdder.mono _ _
      | exact impl_RunAdders.mono _ _ _
      | exact impl_SignedDigits.mono _ _
      | exact impl_WeightOf.mono _ _
      | exact laws_numberOf.mono _ _
      | exact laws_rSameAdders.mono _ _ _
      | exact spec_AddersOf.mono _ _
      | exact spec_OneAdder.mono _ _
      | exact LeO.none _
      | refine LeO.ite ?_ ?_
      | refine LeO.bind ?_ (fun _ => ?_)
    · intro y0 y1 y2 y3 y4 y5 y6 y7 y8
      unfold laws_FnMultiplesByAdders.j2
      repeat' first
      | (with_reducible exact ih0 _ _ _ _ _)
      | (with_reducible exact ih1 _ _)
      | (with_reducible exact ih2 _ _ _ _ _ _ _ _ _)
      | (with_reducible exact impl_AddersOf.mono _ _)
      | (with_reducible exact impl_OneAdder.mono _ _)
      | (with_reducible exact impl_RunAdders.mono _ _ _)
      | (with_reducible exact impl_SignedDigits.mono _ _)
      | (with_reducible exact impl_WeightOf.mono _ _)
      | (with_reducible exact laws_numberOf.mono _ _)
      | (with_reducible exact laws_rSameAdders.mono _ _ _)
      | (with_reducible exact spec_AddersOf.mono _ _)
      | (with_reducible exact spec_OneAdder.mono _ _)
      | (with_reducible exact LeO.refl _)
      | (with_reducible exact LeO.none _)
      | (with_reducible refine LeO.ite ?_ ?_)
      | (with_reducible refine LeO.bind ?_ (fun _ => ?_))
      | exact ih0 _ _ _ _ _
      | exact ih1 _ _
      | exact ih2 _ _ _ _ _ _ _ _ _
      | exact impl_AddersOf.mono _ _
      | exact impl_OneAdder.mono _ _
      | exact impl_RunAdders.mono _ _ _
      | exact impl_SignedDigits.mono _ _
      | exact impl_WeightOf.mono _ _
      | exact laws_numberOf.mono _ _
      | exact laws_rSameAdders.mono _ _ _
      | exact spec_AddersOf.mono _ _
      | exact spec_OneAdder.mono _ _
      | exact LeO.none _
      | refine LeO.ite ?_ ?_
      | refine LeO.bind ?_ (fun _ => ?_)
theorem laws_FnMultiplesByAdders.mono : ∀ a0 a1 k, LeO (laws_FnMultiplesByAdders.f k a0 a1) (laws_FnMultiplesByAdders.f (k + 1) a0 a1) := by
  intro a0 a1 k
  obtain ⟨ih0, ih1, ih2⟩ := laws_FnMultiplesByAdders.mono_l k
  unfold laws_FnMultiplesByAdders.f
  repeat' first
      | (with_reducible exact ih0 _ _ _ _ _)
      | (with_reducible exact ih1 _ _)
      | (with_reducible exact ih2 _ _ _ _ _ _ _ _ _)
      | (with_reducible exact impl_AddersOf.mono _ _)
      | (with_reducible exact impl_OneAdder.mono _ _)
      | (with_reducible exact impl_RunAdders.mono _ _ _)
      | (with_reducible exact impl_SignedDigits.mono _ _)
      | (with_reducible exact impl_WeightOf.mono _ _)
      | (with_reducible exact laws_numberOf.mono _ _)
      | (with_reducible exact laws_rSameAdders.mono _ _ _)
      | (with_reducible exact spec_AddersOf.mono _ _)
      | (with_reducible exact spec_OneAdder.mono _ _)
      | (with_reducible exact LeO.refl _)
      | (with_reducible exact LeO.none _)
      | (with_reducible refine LeO.ite ?_ ?_)
      | (with_reducible refine LeO.bind ?_ (fun _ => ?_))
      | exact ih0 _ _ _ _ _
      | exact ih1 _ _
      | exact ih2 _ _ _ _ _ _ _ _ _
      | exact impl_AddersOf.mono _ _
      | exact impl_OneAdder.mono _ _
      | exact impl_RunAdders.mono _ _ _
      | exact impl_SignedDigits.mono _ _
      | exact impl_WeightOf.mono _ _
      | exact laws_numberOf.mono _ _
      | exact laws_rSameAdders.mono _ _ _
      | exact spec_AddersOf.mono _ _
      | exact spec_OneAdder.mono _ _
      | exact LeO.none _
      | refine LeO.ite ?_ ?_
      | refine LeO.bind ?_ (fun _ => ?_)
set_option maxHeartbeats 8000000 in
set_option maxRecDepth 100000 in
theorem laws_FnMultiplesByAdders.calls (k : Nat) (A0 : Option Addr) (c0 : Nat) (l0 : List Int) (A1 : Option Addr) (c1 : Nat) (l1 : List Int) (r : Bool) (w : World) (hr0 : Kd.C (Kd.int .u8) w A0 l0.length l0) (hc0 : l0.length ≤ c0) (hr1 : Kd.C (Kd.int .u8) w A1 l1.length l1) (hc1 : l1.length ≤ c1) (h : laws_FnMultiplesByAdders.f k l0 l1 = some r) :
    Calls Try.prog 13 #[.slice A0 l0.length c0, .slice A1 l1.length c1] w fun e w' => e = .returned (.bool r) ∧ Below w.heap.size w w' := by
  have hu69 := Try.underlying69
  have HR0 := Aside0.mk hr0
  have HC0 := Aside0.mk hc0
  clear hr0 hc0
  have HR1 := Aside0.mk hr1
  have HC1 := Aside0.mk hc1
  clear hr1 hc1
  have HB := Aside0.mk (Below.refl w.heap.size w)
  have H : ((laws_big.f l0 l1).bind fun t307 => (if t307 = true then (some true) else ((spec_DrawAddersOf.f l0).bind fun t308 => ((impl_AddersOf.f k t308).bind fun bt309 => ((spec_AddersOf.f k t308).bind fun bt313 => (if (bt309.2 != bt313.2) = true then (laws_FnMultiplesByAdders.j0 k l1 t308 bt309.1 bt309.2 true) else ((laws_rSameAdders.f k bt309.1 bt313.1).bind fun t317 => (laws_FnMultiplesByAdders.j0 k l1 t308 bt309.1 bt309.2 (!t317))))))))) = some r := h
  clear h
  replace H := Option.bind_eq_some_iff.mp H
  obtain ⟨t307, A30, H⟩ := H
  replace H : (if t307 = true then (some true) else ((spec_DrawAddersOf.f l0).bind fun t308 => ((impl_AddersOf.f k t308).bind fun bt309 => ((spec_AddersOf.f k t308).bind fun bt313 => (if (bt309.2 != bt313.2) = true then (laws_FnMultiplesByAdders.j0 k l1 t308 bt309.1 bt309.2 true) else ((laws_rSameAdders.f k bt309.1 bt313.1).bind fun t317 => (laws_FnMultiplesByAdders.j0 k l1 t308 bt309.1 bt309.2 (!t317)))))))) = some r := H
  have A3 := Aside0.mk A30
  clear A30
  by_cases c4 : t307 = true
  · subst c4
    have H1 : (some true) = some r := by rw [if_pos rfl] at H; exact H
    clear H
    have H := H1
    clear H1
    obtain rfl := Option.some.inj H
    go_enter Try.func13, Try.ntmps13
    go_wp2_with (first | ((with_reducible refine gate_callee (f := 37) rfl ?_); refine goesL_ (some 26) rfl rfl Try.func37 (by kernel_rfl) rfl #[.slice A0 l0.length c0, .slice A1 l1.length c1] rfl (by (try simp only [List.map_toArray, List.map_cons, List.map_nil]); first | done | rfl | (simp only [List.length_drop, List.length_take]; rfl)) ?_; (with_reducible refine (laws_big.calls _ _ l0 _ _ l1 true _ ?side1 ?side2 ?side3 ?side4 A3.out).mono ?_); (case side1 => repeat (first | exact HR0.out | (with_reducible refine Kd.C_alloc ?_ _) | (with_reducible refine Kd.C_drewN ?_ _) | (with_reducible refine Kd.C_drew ?_))); (case side2 => exact HC0.out); (case side3 => repeat (first | exact HR1.out | (with_reducible refine Kd.C_alloc ?_ _) | (with_reducible refine Kd.C_drewN ?_ _) | (with_reducible refine Kd.C_drew ?_))); (case side4 => exact HC1.out); rintro e w' ⟨rfl, ⟨nd, rfl⟩⟩; refine ⟨_, rfl, ?_⟩))
    go_ret
    exact ⟨by first | rfl | (simp [errW_none, errW_some] <;> rfl) | (simp [*, errW_none, errW_some] <;> rfl), by repeat (first | (with_reducible first | exact HB.out | apply below_alloc | apply pw_below_drewN | apply below_drew1) | exact HB.out)⟩
  · replace c4 := Bool.eq_false_iff.mpr c4
    subst c4
    have H1 : ((spec_DrawAddersOf.f l0).bind fun t308 => ((impl_AddersOf.f k t308).bind fun bt309 => ((spec_AddersOf.f k t308).bind fun bt313 => (if (bt309.2 != bt313.2) = true then (laws_FnMultiplesByAdders.j0 k l1 t308 bt309.1 bt309.2 true) else ((laws_rSameAdders.f k bt309.1 bt313.1).bind fun t317 => (laws_FnMultiplesByAdders.j0 k l1 t308 bt309.1 bt309.2 (!t317))))))) = some r := by rw [if_neg (show ¬ (false = true) by decide)] at H; exact H
    clear H
    have H := H1
    clear H1
    replace H := Option.bind_eq_some_iff.mp H
    obtain ⟨t308, A50, H⟩ := H
    replace H : ((impl_AddersOf.f k t308).bind fun bt309 => ((spec_AddersOf.f k t308).bind fun bt313 => (if (bt309.2 != bt313.2) = true then (laws_FnMultiplesByAdders.j0 k l1 t308 bt309.1 bt309.2 true) else ((laws_rSameAdders.f k bt309.1 bt313.1).bind fun t317 => (laws_FnMultiplesByAdders.j0 k l1 t308 bt309.1 bt309.2 (!t317)))))) = some r := H
    have A5 := Aside0.mk A50
    clear A50
    replace H := Option.bind_eq_some_iff.mp H
    obtain ⟨⟨t309, t310⟩, A60, H⟩ := H
    replace H : ((spec_AddersOf.f k t308).bind fun bt313 => (if (t310 != bt313.2) = true then (laws_FnMultiplesByAdders.j0 k l1 t308 t309 t310 true) else ((laws_rSameAdders.f k t309 bt313.1).bind fun t317 => (laws_FnMultiplesByAdders.j0 k l1 t308 t309 t310 (!t317))))) = some r := H
    have A6 := Aside0.mk A60
    clear A60
    replace H := Option.bind_eq_some_iff.mp H
    obtain ⟨⟨t313, t314⟩, A70, H⟩ := H
    replace H : (if (t310 != t314) = true then (laws_FnMultiplesByAdders.j0 k l1 t308 t309 t310 true) else ((laws_rSameAdders.f k t309 t313).bind fun t317 => (laws_FnMultiplesByAdders.j0 k l1 t308 t309 t310 (!t317)))) = some r := H
    have A7 := Aside0.mk A70
    clear A70
    have HC8 := Aside0.mk H
    clear H
    go_enter Try.func13, Try.ntmps13
    go_upto_region 6 with (first | ((with_reducible refine gate_callee (f := 37) rfl ?_); refine goesL_ (some 26) rfl rfl Try.func37 (by kernel_rfl) rfl #[.slice A0 l0.length c0, .slice A1 l1.length c1] rfl (by (try simp only [List.map_toArray, List.map_cons, List.map_nil]); first | done | rfl | (simp only [List.length_drop, List.length_take]; rfl)) ?_; (with_reducible refine (laws_big.calls _ _ l0 _ _ l1 false _ ?side1 ?side2 ?side3 ?side4 A3.out).mono ?_); (case side1 => repeat (first | exact HR0.out | (with_reducible refine Kd.C_alloc ?_ _) | (with_reducible refine Kd.C_drewN ?_ _) | (with_reducible refine Kd.C_drew ?_))); (case side2 => exact HC0.out); (case side3 => repeat (first | exact HR1.out | (with_reducible refine Kd.C_alloc ?_ _) | (with_reducible refine Kd.C_drewN ?_ _) | (with_reducible refine Kd.C_drew ?_))); (case side4 => exact HC1.out); rintro e w' ⟨rfl, ⟨nd, rfl⟩⟩; refine ⟨_, rfl, ?_⟩) | ((with_reducible refine gate_callee (f := 68) rfl ?_); refine goesL_ (some 28) rfl rfl Try.func68 (by kernel_rfl) rfl #[.slice A0 l0.length c0] rfl (by (try simp only [List.map_toArray, List.map_cons, List.map_nil]); first | done | rfl | (simp only [List.length_drop, List.length_take]; rfl)) ?_; (with_reducible refine (spec_DrawAddersOf.calls _ _ l0 t308 _ ?side1 ?side2 A5.out).mono ?_); (case side1 => repeat (first | exact HR0.out | (with_reducible refine Kd.C_alloc ?_ _) | (with_reducible refine Kd.C_drewN ?_ _) | (with_reducible refine Kd.C_drew ?_))); (case side2 => exact HC0.out); rintro e w9 ⟨rfl, hb⟩; refine ⟨_, rfl, ?_⟩; have n0_ := Aside0.mk (below_step (by repeat (first | (with_reducible first | exact HB.out | apply below_alloc | apply pw_below_drewN | apply below_drew1) | exact HB.out)) hb); clear HB; have HB := n0_; clear n0_; (try clear hb); (try clear hb2); (try clear hk); (try clear hi)) | ((with_reducible refine gate_callee (f := 35) rfl ?_); refine goesL_ (some 31) rfl rfl Try.func35 (by kernel_rfl) rfl #[.int .i64 t308] rfl (by (try simp only [List.map_toArray, List.map_cons, List.map_nil]); first | done | rfl | (simp only [List.length_drop, List.length_take]; rfl)) ?_; (with_reducible refine (impl_AddersOf.calls k t308 t309 t310 _ A6.out).mono ?_); rintro e w10 ⟨v311, rfl, ho0, hb⟩; refine ⟨_, rfl, ?_⟩; have n0_ := Aside0.mk (Kd.R_lower ho0 (below_size (by repeat (first | (with_reducible first | exact HB.out | apply below_alloc | apply pw_below_drewN | apply below_drew1) | exact HB.out)))); have n1_ := Aside0.mk (below_step (by repeat (first | (with_reducible first | exact HB.out | apply below_alloc | apply pw_below_drewN | apply below_drew1) | exact HB.out)) hb); clear HB; have HO312 := n0_; have HB := n1_; clear n0_ n1_; (try clear hb); (try clear hb2); (try clear hk); (try clear hi); (try clear ho0)) | ((with_reducible refine gate_callee (f := 34) rfl ?_); refine goesL_ (some 36) rfl rfl Try.func34 (by kernel_rfl) rfl #[.int .i64 t308] rfl (by (try simp only [List.map_toArray, List.map_cons, List.map_nil]); first | done | rfl | (simp only [List.length_drop, List.length_take]; rfl)) ?_; (with_reducible refine (spec_AddersOf.calls k t308 t313 t314 _ A7.out).mono ?_); rintro e w11 ⟨v315, rfl, ho0, hb⟩; refine ⟨_, rfl, ?_⟩; have n0_ := Aside0.mk (Kd.R_elder' (by (with_reducible repeat (first | apply Kd.R_alloc | apply Kd.R_drewN | apply Kd.R_drew)); exact HO312.out) (Kd.R_base ho0) hb); have n1_ := Aside0.mk (Kd.R_lower (Kd.R_new' ho0 (Kd.R_lt (by (with_reducible repeat (first | apply Kd.R_alloc | apply Kd.R_drewN | apply Kd.R_drew)); exact HO312.out))) (below_size (by repeat (first | (with_reducible first | exact HB.out | apply below_alloc | apply pw_below_drewN | apply below_drew1) | exact HB.out)))); have n2_ := Aside0.mk (below_step (by repeat (first | (with_reducible first | exact HB.out | apply below_alloc | apply pw_below_drewN | apply below_drew1) | exact HB.out)) hb); clear HO312; clear HB; have HO312 := n0_; have HO316 := n1_; have HB := n2_; clear n0_ n1_ n2_; (try clear hb); (try clear hb2); (try clear hk); (try clear hi); (try clear ho0)))
    (try simp only [Act.put, List.setIfInBounds_toArray, List.set_cons_zero, List.set_cons_succ])
    go_cut [47] (fun v47 wc => ∃ (kq : Nat) (x47_7 : Bool), v47 = .bool x47_7 ∧ Aside0 (laws_FnMultiplesByAdders.j0 kq l1 t308 t309 t310 x47_7 = some r) ∧ Aside0 (kq ≤ k) ∧ Aside0 (Kd.R k69 69 wc w.heap.size (fun _ => True) v311 t309) ∧ Aside0 (Below w.heap.size w wc))
    case first =>
      have H := HC8.out
      clear HC8
      by_cases c12 : (t310 != t314) = true
      · rw [if_pos c12] at H
        have c12b0 : (t310 != t314) = true := c12
        (try (have c12b1 : decide (t310 = t314) = false := by simpa using c12))
        (try (have c12b2 : (t310 == t314) = false := by simpa using c12))
        (try (have c12b3 : ¬ (t310 = t314) := by simpa using c12))
        clear c12
        (first | rw [c12b0] | (simp only [i64_w, i32_w]; rw [c12b0]) | skip)
        have H' := Aside0.mk H
        clear H
        go_wp2
        go_meet
        case rel => exact ⟨_, (true), (by first | rfl | (simp; done) | (simp [*]; done)), H', ⟨by first | omega | exact Nat.le_refl _⟩, ⟨by (with_reducible repeat (first | apply Kd.R_alloc | apply Kd.R_drewN | apply Kd.R_drew)); exact Kd.R_mono HO312.out (fun _ hk => trivial)⟩, ⟨by repeat (first | (with_reducible first | exact HB.out | apply below_alloc | apply pw_below_drewN | apply below_drew1) | exact HB.out)⟩⟩
      · rw [if_neg c12] at H
        have c12b0 : (t310 != t314) = false := by simpa using c12
        (try (have c12b1 : decide (t310 = t314) = true := by simpa using c12))
        (try (have c12b2 : (t310 == t314) = true := by simpa using c12))
        clear c12
        (first | rw [c12b0] | (simp only [i64_w, i32_w]; rw [c12b0]) | skip)
        replace H := Option.bind_eq_some_iff.mp H
        obtain ⟨t317, A130, H⟩ := H
        replace H : (laws_FnMultiplesByAdders.j0 k l1 t308 t309 t310 (!t317)) = some r := H
        have A13 := Aside0.mk A130
        clear A130
        have H' := Aside0.mk H
        clear H
        obtain ⟨Ao14, co14, eo14⟩ := Kd.R_slice HO312.out
        subst eo14
        obtain ⟨Ao15, co15, eo15⟩ := Kd.R_slice HO316.out
        subst eo15
        go_wp2_with (first | (go_at_call 69; (with_reducible refine (laws_rSameAdders.calls k _ _ t309 _ _ t313 t317 _ ?side1 ?side2 ?side3 ?side4 A13.out).mono ?_); (case side1 => repeat (first | exact (Kd.R_reads' HO312.out).2.2 | (with_reducible refine Kd.C_alloc ?_ _) | (with_reducible refine Kd.C_drewN ?_ _) | (with_reducible refine Kd.C_drew ?_))); (case side2 => exact (Kd.R_reads' HO312.out).2.1); (case side3 => repeat (first | exact (Kd.R_reads' HO316.out).2.2 | (with_reducible refine Kd.C_alloc ?_ _) | (with_reducible refine Kd.C_drewN ?_ _) | (with_reducible refine Kd.C_drew ?_))); (case side4 => exact (Kd.R_reads' HO316.out).2.1); rintro e w' ⟨rfl, ⟨nd, rfl⟩⟩))
        go_meet
        case rel => exact ⟨_, (!t317), (by first | rfl | (simp; done) | (simp [*]; done)), H', ⟨by first | omega | exact Nat.le_refl _⟩, ⟨by (with_reducible repeat (first | apply Kd.R_alloc | apply Kd.R_drewN | apply Kd.R_drew)); exact Kd.R_mono HO312.out (fun _ hk => trivial)⟩, ⟨by repeat (first | (with_reducible first | exact HB.out | apply below_alloc | apply pw_below_drewN | apply below_drew1) | exact HB.out)⟩⟩
    case rest =>
      clear HC8
      try clear c1
      try clear p2
      try clear c3
      try clear c4
      try clear c6
      try clear c12
      try clear c12b0
      try clear c12b1
      try clear c12b2
      try clear c13
      obtain ⟨kq, x47_7, rfl, HA, HJ7, HO_6, HB⟩ := hcut
      cases kq with
      | zero => exact absurd HA.out (by simp [laws_FnMultiplesByAdders.j0])
      | succ kj7 =>
        have H := HA.out
        clear HA
        simp only [laws_FnMultiplesByAdders.j0] at H
        by_cases c16 : x47_7 = true
        · subst c16
          have H1 : (some false) = some r := by rw [if_pos rfl] at H; exact H
          clear H
          have H := H1
          clear H1
          obtain rfl := Option.some.inj H
          go_wp2
          go_ret
          exact ⟨by first | rfl | (simp [errW_none, errW_some] <;> rfl) | (simp [*, errW_none, errW_some] <;> rfl), by repeat (first | (with_reducible first | exact HB.out | apply below_alloc | apply pw_below_drewN | apply below_drew1) | exact HB.out)⟩
        · replace c16 := Bool.eq_false_iff.mpr c16
          subst c16
          have H1 : ((laws_numberOf.f kj7 l1).bind fun t318 => (if t310 = true then ((impl_RunAdders.f kj7 t309 (wrap64 ((Int.tmod t318 2001) - 1000))).bind fun bt319 => ((impl_SignedDigits.f kj7 t308).bind fun bt323 => ((impl_WeightOf.f kj7 bt323.1).bind fun bt327 => (if bt319.2 = true then (if 0 ≤ (wrap64 ((bt319.1.length : Int) - 1)) then (if (wrap64 ((bt319.1.length : Int) - 1)) < (bt319.1.length : Int) then (if (rd bt319.1 (wrap64 ((bt319.1.length : Int) - 1))) = (wrap64 (t308 * (wrap64 ((Int.tmod t318 2001) - 1000)))) then (if bt323.2 = true then (if bt327.2 = true then (if t308 > 0 then (if bt327.1 > 1 then (if (t309.length : Int) = (wrap64 (bt327.1 - 1)) then (laws_FnMultiplesByAdders.j1 kj7 l1 (wrap64 ((Int.tmod t318 2001) - 1000))) else (some false)) else (laws_FnMultiplesByAdders.j1 kj7 l1 (wrap64 ((Int.tmod t318 2001) - 1000)))) else (laws_FnMultiplesByAdders.j1 kj7 l1 (wrap64 ((Int.tmod t318 2001) - 1000)))) else (some false)) else (some false)) else (some false)) else (none)) else (none)) else (some false))))) else (laws_FnMultiplesByAdders.j1 kj7 l1 (wrap64 ((Int.tmod t318 2001) - 1000))))) = some r := by rw [if_neg (show ¬ (false = true) by decide)] at H; exact H
          clear H
          have H := H1
          clear H1
          replace H := Option.bind_eq_some_iff.mp H
          obtain ⟨t318, A170, H⟩ := H
          replace H : (if t310 = true then ((impl_RunAdders.f kj7 t309 (wrap64 ((Int.tmod t318 2001) - 1000))).bind fun bt319 => ((impl_SignedDigits.f kj7 t308).bind fun bt323 => ((impl_WeightOf.f kj7 bt323.1).bind fun bt327 => (if bt319.2 = true then (if 0 ≤ (wrap64 ((bt319.1.length : Int) - 1)) then (if (wrap64 ((bt319.1.length : Int) - 1)) < (bt319.1.length : Int) then (if (rd bt319.1 (wrap64 ((bt319.1.length : Int) - 1))) = (wrap64 (t308 * (wrap64 ((Int.tmod t318 2001) - 1000)))) then (if bt323.2 = true then (if bt327.2 = true then (if t308 > 0 then (if bt327.1 > 1 then (if (t309.length : Int) = (wrap64 (bt327.1 - 1)) then (laws_FnMultiplesByAdders.j1 kj7 l1 (wrap64 ((Int.tmod t318 2001) - 1000))) else (some false)) else (laws_FnMultiplesByAdders.j1 kj7 l1 (wrap64 ((Int.tmod t318 2001) - 1000)))) else (laws_FnMultiplesByAdders.j1 kj7 l1 (wrap64 ((Int.tmod t318 2001) - 1000)))) else (some false)) else (some false)) else (some false)) else (none)) else (none)) else (some false))))) else (laws_FnMultiplesByAdders.j1 kj7 l1 (wrap64 ((Int.tmod t318 2001) - 1000)))) = some r := H
          have A17 := Aside0.mk A170
          clear A170
          have HC18 := Aside0.mk H
          clear H
          go_upto_if 52 with (first | ((with_reducible refine gate_callee (f := 70) rfl ?_); refine goesL_ (some 49) rfl rfl Try.func70 (by kernel_rfl) rfl #[.slice A1 l1.length c1] rfl (by (try simp only [List.map_toArray, List.map_cons, List.map_nil]); first | done | rfl | (simp only [List.length_drop, List.length_take]; rfl)) ?_; (with_reducible refine (laws_numberOf.calls kj7 _ _ l1 t318 _ ?side1 ?side2 A17.out).mono ?_); (case side1 => repeat (first | exact (Kd.C_below HR1.out HB.out) | (with_reducible refine Kd.C_alloc ?_ _) | (with_reducible refine Kd.C_drewN ?_ _) | (with_reducible refine Kd.C_drew ?_))); (case side2 => exact HC1.out); rintro e w' ⟨rfl, ⟨nd, rfl⟩⟩; refine ⟨_, rfl, ?_⟩))
          (try simp only [Act.put, List.setIfInBounds_toArray, List.set_cons_zero, List.set_cons_succ])
          go_cut [] (fun wc => ∃ (kq : Nat), Aside0 (laws_FnMultiplesByAdders.j1 kq l1 (wrap64 ((Int.tmod t318 2001) - 1000)) = some r) ∧ Aside0 (kq ≤ kj7) ∧ Aside0 (Below w.heap.size w wc))
          case first =>
            have H := HC18.out
            clear HC18
            by_cases c19 : t310 = true
            · subst c19
              have H1 : ((impl_RunAdders.f kj7 t309 (wrap64 ((Int.tmod t318 2001) - 1000))).bind fun bt319 => ((impl_SignedDigits.f kj7 t308).bind fun bt323 => ((impl_WeightOf.f kj7 bt323.1).bind fun bt327 => (if bt319.2 = true then (if 0 ≤ (wrap64 ((bt319.1.length : Int) - 1)) then (if (wrap64 ((bt319.1.length : Int) - 1)) < (bt319.1.length : Int) then (if (rd bt319.1 (wrap64 ((bt319.1.length : Int) - 1))) = (wrap64 (t308 * (wrap64 ((Int.tmod t318 2001) - 1000)))) then (if bt323.2 = true then (if bt327.2 = true then (if t308 > 0 then (if bt327.1 > 1 then (if (t309.length : Int) = (wrap64 (bt327.1 - 1)) then (laws_FnMultiplesByAdders.j1 kj7 l1 (wrap64 ((Int.tmod t318 2001) - 1000))) else (some false)) else (laws_FnMultiplesByAdders.j1 kj7 l1 (wrap64 ((Int.tmod t318 2001) - 1000)))) else (laws_FnMultiplesByAdders.j1 kj7 l1 (wrap64 ((Int.tmod t318 2001) - 1000)))) else (some false)) else (some false)) else (some false)) else (none)) else (none)) else (some false))))) = some r := by rw [if_pos rfl] at H; exact H
              clear H
              have H := H1
              clear H1
              replace H := Option.bind_eq_some_iff.mp H
              obtain ⟨⟨t319, t320⟩, A200, H⟩ := H
              replace H : ((impl_SignedDigits.f kj7 t308).bind fun bt323 => ((impl_WeightOf.f kj7 bt323.1).bind fun bt327 => (if t320 = true then (if 0 ≤ (wrap64 ((t319.length : Int) - 1)) then (if (wrap64 ((t319.length : Int) - 1)) < (t319.length : Int) then (if (rd t319 (wrap64 ((t319.length : Int) - 1))) = (wrap64 (t308 * (wrap64 ((Int.tmod t318 2001) - 1000)))) then (if bt323.2 = true then (if bt327.2 = true then (if t308 > 0 then (if bt327.1 > 1 then (if (t309.length : Int) = (wrap64 (bt327.1 - 1)) then (laws_FnMultiplesByAdders.j1 kj7 l1 (wrap64 ((Int.tmod t318 2001) - 1000))) else (some false)) else (laws_FnMultiplesByAdders.j1 kj7 l1 (wrap64 ((Int.tmod t318 2001) - 1000)))) else (laws_FnMultiplesByAdders.j1 kj7 l1 (wrap64 ((Int.tmod t318 2001) - 1000)))) else (some false)) else (some false)) else (some false)) else (none)) else (none)) else (some false)))) = some r := H
              have A20 := Aside0.mk A200
              clear A200
              replace H := Option.bind_eq_some_iff.mp H
              obtain ⟨⟨t323, t324⟩, A210, H⟩ := H
              replace H : ((impl_WeightOf.f kj7 t323).bind fun bt327 => (if t320 = true then (if 0 ≤ (wrap64 ((t319.length : Int) - 1)) then (if (wrap64 ((t319.length : Int) - 1)) < (t319.length : Int) then (if (rd t319 (wrap64 ((t319.length : Int) - 1))) = (wrap64 (t308 * (wrap64 ((Int.tmod t318 2001) - 1000)))) then (if t324 = true then (if bt327.2 = true then (if t308 > 0 then (if bt327.1 > 1 then (if (t309.length : Int) = (wrap64 (bt327.1 - 1)) then (laws_FnMultiplesByAdders.j1 kj7 l1 (wrap64 ((Int.tmod t318 2001) - 1000))) else (some false)) else (laws_FnMultiplesByAdders.j1 kj7 l1 (wrap64 ((Int.tmod t318 2001) - 1000)))) else (laws_FnMultiplesByAdders.j1 kj7 l1 (wrap64 ((Int.tmod t318 2001) - 1000)))) else (some false)) else (some false)) else (some false)) else (none)) else (none)) else (some false))) = some r := H
              have A21 := Aside0.mk A210
              clear A210
              replace H := Option.bind_eq_some_iff.mp H
              obtain ⟨⟨t327, t328⟩, A220, H⟩ := H
              replace H : (if t320 = true then (if 0 ≤ (wrap64 ((t319.length : Int) - 1)) then (if (wrap64 ((t319.length : Int) - 1)) < (t319.length : Int) then (if (rd t319 (wrap64 ((t319.length : Int) - 1))) = (wrap64 (t308 * (wrap64 ((Int.tmod t318 2001) - 1000)))) then (if t324 = true then (if t328 = true then (if t308 > 0 then (if t327 > 1 then (if (t309.length : Int) = (wrap64 (t327 - 1)) then (laws_FnMultiplesByAdders.j1 kj7 l1 (wrap64 ((Int.tmod t318 2001) - 1000))) else (some false)) else (laws_FnMultiplesByAdders.j1 kj7 l1 (wrap64 ((Int.tmod t318 2001) - 1000)))) else (laws_FnMultiplesByAdders.j1 kj7 l1 (wrap64 ((Int.tmod t318 2001) - 1000)))) else (some false)) else (some false)) else (some false)) else (none)) else (none)) else (some false)) = some r := H
              have A22 := Aside0.mk A220
              clear A220
              by_cases c23 : t320 = true
              · subst c23
                have H1 : (if 0 ≤ (wrap64 ((t319.length : Int) - 1)) then (if (wrap64 ((t319.length : Int) - 1)) < (t319.length : Int) then (if (rd t319 (wrap64 ((t319.length : Int) - 1))) = (wrap64 (t308 * (wrap64 ((Int.tmod t318 2001) - 1000)))) then (if t324 = true then (if t328 = true then (if t308 > 0 then (if t327 > 1 then (if (t309.length : Int) = (wrap64 (t327 - 1)) then (laws_FnMultiplesByAdders.j1 kj7 l1 (wrap64 ((Int.tmod t318 2001) - 1000))) else (some false)) else (laws_FnMultiplesByAdders.j1 kj7 l1 (wrap64 ((Int.tmod t318 2001) - 1000)))) else (laws_FnMultiplesByAdders.j1 kj7 l1 (wrap64 ((Int.tmod t318 2001) - 1000)))) else (some false)) else (some false)) else (some false)) else (none)) else (none)) = some r := by rw [if_pos rfl] at H; exact H
                clear H
                have H := H1
                clear H1
                obtain ⟨ji24, hji24⟩ : ∃ j_ : Int, (wrap64 ((t319.length : Int) - 1)) = j_ := ⟨_, rfl⟩
                replace H : (if 0 ≤ (ji24) then (if (ji24) < (t319.length : Int) then (if (rd t319 (ji24)) = (wrap64 (t308 * (wrap64 ((Int.tmod t318 2001) - 1000)))) then (if t324 = true then (if t328 = true then (if t308 > 0 then (if t327 > 1 then (if (t309.length : Int) = (wrap64 (t327 - 1)) then (laws_FnMultiplesByAdders.j1 kj7 l1 (wrap64 ((Int.tmod t318 2001) - 1000))) else (some false)) else (laws_FnMultiplesByAdders.j1 kj7 l1 (wrap64 ((Int.tmod t318 2001) - 1000)))) else (laws_FnMultiplesByAdders.j1 kj7 l1 (wrap64 ((Int.tmod t318 2001) - 1000)))) else (some false)) else (some false)) else (some false)) else (none)) else (none)) = some r := by first | (rw [hji24] at H; exact H) | (simp only [hji24] at H ⊢; exact H)
                (try rw [hji24] at A20)
                (try rw [hji24] at A21)
                (try rw [hji24] at A22)
                have hji24w : (IntKind.i64.wrap ((t319.length : Int) - 1)) = ji24 := (i64_w _).trans hji24
                by_cases c25 : 0 ≤ (ji24)
                · rw [if_pos c25] at H
                  have c25b0 : decide (0 ≤ (ji24)) = true := decide_eq_true c25
                  clear c25
                  (first | rw [c25b0] | (simp only [i64_w, i32_w]; rw [c25b0]) | skip)
                  by_cases c26 : (ji24) < (t319.length : Int)
                  · rw [if_pos c26] at H
                    have c26b0 : decide ((ji24) < (t319.length : Int)) = true := decide_eq_true c26
                    clear c26
                    by_cases c27 : (rd t319 (ji24)) = (wrap64 (t308 * (wrap64 ((Int.tmod t318 2001) - 1000))))
                    · rw [if_pos c27] at H
                      have c27b0 : ((rd t319 (ji24)) == (wrap64 (t308 * (wrap64 ((Int.tmod t318 2001) - 1000))))) = true := beq_iff_eq.mpr c27
                      have c27b1 : ((rd t319 (ji24)) != (wrap64 (t308 * (wrap64 ((Int.tmod t318 2001) - 1000))))) = false := bne_eq_false_iff_eq.mpr c27
                      clear c27
                      by_cases c28 : t324 = true
                      · subst c28
                        have H1 : (if t328 = true then (if t308 > 0 then (if t327 > 1 then (if (t309.length : Int) = (wrap64 (t327 - 1)) then (laws_FnMultiplesByAdders.j1 kj7 l1 (wrap64 ((Int.tmod t318 2001) - 1000))) else (some false)) else (laws_FnMultiplesByAdders.j1 kj7 l1 (wrap64 ((Int.tmod t318 2001) - 1000)))) else (laws_FnMultiplesByAdders.j1 kj7 l1 (wrap64 ((Int.tmod t318 2001) - 1000)))) else (some false)) = some r := by rw [if_pos rfl] at H; exact H
                        clear H
                        have H := H1
                        clear H1
                        by_cases c29 : t328 = true
                        · subst c29
                          have H1 : (if t308 > 0 then (if t327 > 1 then (if (t309.length : Int) = (wrap64 (t327 - 1)) then (laws_FnMultiplesByAdders.j1 kj7 l1 (wrap64 ((Int.tmod t318 2001) - 1000))) else (some false)) else (laws_FnMultiplesByAdders.j1 kj7 l1 (wrap64 ((Int.tmod t318 2001) - 1000)))) else (laws_FnMultiplesByAdders.j1 kj7 l1 (wrap64 ((Int.tmod t318 2001) - 1000)))) = some r := by rw [if_pos rfl] at H; exact H
                          clear H
                          have H := H1
                          clear H1
                          by_cases c30 : t308 > 0
                          · rw [if_pos c30] at H
                            have c30b0 : decide (0 < t308) = true := decide_eq_true c30
                            clear c30
                            by_cases c31 : t327 > 1
                            · rw [if_pos c31] at H
                              have c31b0 : decide (1 < t327) = true := decide_eq_true c31
                              clear c31
                              by_cases c32 : (t309.length : Int) = (wrap64 (t327 - 1))
                              · rw [if_pos c32] at H
                                have c32b0 : ((t309.length : Int) == (wrap64 (t327 - 1))) = true := beq_iff_eq.mpr c32
                                have c32b1 : ((t309.length : Int) != (wrap64 (t327 - 1))) = false := bne_eq_false_iff_eq.mpr c32
                                clear c32
                                have H' := Aside0.mk H
                                clear H
                                obtain ⟨Ao33, co33, eo33⟩ := Kd.R_slice HO_6.out
                                subst eo33
                                go_wp2_with (first | ((with_reducible refine gate_callee (f := 31) rfl ?_); refine goesL_ (some 56) rfl rfl Try.func31 (by kernel_rfl) rfl #[.slice Ao33 t309.length co33, .int .i64 (wrap64 ((Int.tmod t318 2001) - 1000))] rfl (by (try simp only [List.map_toArray, List.map_cons, List.map_nil]); first | done | rfl | (simp only [List.length_drop, List.length_take]; rfl)) ?_; (with_reducible refine (impl_RunAdders.calls kj7 _ _ t309 (wrap64 ((Int.tmod t318 2001) - 1000)) t319 true _ ?side1 ?side2 A20.out).mono ?_); (case side1 => repeat (first | exact (Kd.R_reads' HO_6.out).2.2 | (with_reducible refine Kd.C_alloc ?_ _) | (with_reducible refine Kd.C_drewN ?_ _) | (with_reducible refine Kd.C_drew ?_))); (case side2 => exact (Kd.R_reads' HO_6.out).2.1); rintro e w34 ⟨v321, rfl, ho0, hb⟩; refine ⟨_, rfl, ?_⟩; have n0_ := Aside0.mk (Kd.R_below (by (with_reducible repeat (first | apply Kd.R_alloc | apply Kd.R_drewN | apply Kd.R_drew)); exact HO_6.out) hb); have n1_ := Aside0.mk (Kd.R_lower ho0 (below_size (by repeat (first | (with_reducible first | exact HB.out | apply below_alloc | apply pw_below_drewN | apply below_drew1) | exact HB.out)))); have n2_ := Aside0.mk (below_step (by repeat (first | (with_reducible first | exact HB.out | apply below_alloc | apply pw_below_drewN | apply below_drew1) | exact HB.out)) hb); clear HO_6; clear HB; have HO_6 := n0_; have HO322 := n1_; have HB := n2_; clear n0_ n1_ n2_; (try clear hb); (try clear hb2); (try clear hk); (try clear hi); (try clear ho0)) | ((with_reducible refine gate_callee (f := 50) rfl ?_); refine goesL_ (some 61) rfl rfl Try.func50 (by kernel_rfl) rfl #[.int .i64 t308] rfl (by (try simp only [List.map_toArray, List.map_cons, List.map_nil]); first | done | rfl | (simp only [List.length_drop, List.length_take]; rfl)) ?_; (with_reducible refine (impl_SignedDigits.calls kj7 t308 t323 true _ A21.out).mono ?_); rintro e w35 ⟨v325, rfl, ho0, hb⟩; refine ⟨_, rfl, ?_⟩; have n0_ := Aside0.mk (Kd.R_below (by (with_reducible repeat (first | apply Kd.R_alloc | apply Kd.R_drewN | apply Kd.R_drew)); exact HO_6.out) hb); have n1_ := Aside0.mk (Kd.R_elder' (by (with_reducible repeat (first | apply Kd.R_alloc | apply Kd.R_drewN | apply Kd.R_drew)); exact HO322.out) (Kd.R_base ho0) hb); have n2_ := Aside0.mk (Kd.R_lower (Kd.R_new' ho0 (Kd.R_lt (by (with_reducible repeat (first | apply Kd.R_alloc | apply Kd.R_drewN | apply Kd.R_drew)); exact HO322.out))) (below_size (by repeat (first | (with_reducible first | exact HB.out | apply below_alloc | apply pw_below_drewN | apply below_drew1) | exact HB.out)))); have n3_ := Aside0.mk (below_step (by repeat (first | (with_reducible first | exact HB.out | apply below_alloc | apply pw_below_drewN | apply below_drew1) | exact HB.out)) hb); clear HO_6; clear HO322; clear HB; have HO_6 := n0_; have HO322 := n1_; have HO326 := n2_; have HB := n3_; clear n0_ n1_ n2_ n3_; (try clear hb); (try clear hb2); (try clear hk); (try clear hi); (try clear ho0); obtain ⟨Ao36, co36, eo36⟩ := Kd.R_slice HO326.out; subst eo36) | ((with_reducible refine gate_callee (f := 56) rfl ?_); refine goesL_ (some 66) rfl rfl Try.func56 (by kernel_rfl) rfl #[.slice Ao36 t323.length co36] rfl (by (try simp only [List.map_toArray, List.map_cons, List.map_nil]); first | done | rfl | (simp only [List.length_drop, List.length_take]; rfl)) ?_; (with_reducible refine (impl_WeightOf.calls kj7 _ _ t323 t327 true _ ?side1 ?side2 A22.out).mono ?_); (case side1 => repeat (first | exact (Kd.R_reads' HO326.out).2.2 | (with_reducible refine Kd.C_alloc ?_ _) | (with_reducible refine Kd.C_drewN ?_ _) | (with_reducible refine Kd.C_drew ?_))); (case side2 => exact (Kd.R_reads' HO326.out).2.1); rintro e w' ⟨rfl, ⟨nd, rfl⟩⟩; refine ⟨_, rfl, ?_⟩; obtain ⟨Ao37, co37, eo37⟩ := Kd.R_slice HO322.out; subst eo37; have p329 : 0 ≤ ((ji24) : Int) := of_decide_eq_true (by first | (with_reducible assumption) | assumption); have q329 : (ji24) < (t319.length : Int) := of_decide_eq_true (by first | (with_reducible assumption) | assumption); obtain ⟨ad329, e329, hx329_0⟩ := Kd.at_int (Kd.R_reads' HO322.out).2.2 (ji24) p329 q329; cases e329; replace p329 := eq_true p329; replace q329 := eq_true q329))
                                go_meet
                                case rel => exact ⟨_, H', ⟨by have := HJ7.out; first | omega | exact Nat.le_refl _⟩, ⟨by repeat (first | (with_reducible first | exact HB.out | apply below_alloc | apply pw_below_drewN | apply below_drew1) | exact HB.out)⟩⟩
                              · rw [if_neg c32] at H
                                have c32b0 : ((t309.length : Int) == (wrap64 (t327 - 1))) = false := beq_eq_false_iff_ne.mpr c32
                                have c32b1 : ((t309.length : Int) != (wrap64 (t327 - 1))) = true := bne_iff_ne.mpr c32
                                obtain rfl := Option.some.inj H
                                obtain ⟨Ao38, co38, eo38⟩ := Kd.R_slice HO_6.out
                                subst eo38
                                go_wp2_with (first | ((with_reducible refine gate_callee (f := 31) rfl ?_); refine goesL_ (some 56) rfl rfl Try.func31 (by kernel_rfl) rfl #[.slice Ao38 t309.length co38, .int .i64 (wrap64 ((Int.tmod t318 2001) - 1000))] rfl (by (try simp only [List.map_toArray, List.map_cons, List.map_nil]); first | done | rfl | (simp only [List.length_drop, List.length_take]; rfl)) ?_; (with_reducible refine (impl_RunAdders.calls kj7 _ _ t309 (wrap64 ((Int.tmod t318 2001) - 1000)) t319 true _ ?side1 ?side2 A20.out).mono ?_); (case side1 => repeat (first | exact (Kd.R_reads' HO_6.out).2.2 | (with_reducible refine Kd.C_alloc ?_ _) | (with_reducible refine Kd.C_drewN ?_ _) | (with_reducible refine Kd.C_drew ?_))); (case side2 => exact (Kd.R_reads' HO_6.out).2.1); rintro e w39 ⟨v321, rfl, ho0, hb⟩; refine ⟨_, rfl, ?_⟩; have n0_ := Aside0.mk (Kd.R_below (by (with_reducible repeat (first | apply Kd.R_alloc | apply Kd.R_drewN | apply Kd.R_drew)); exact HO_6.out) hb); have n1_ := Aside0.mk (Kd.R_lower ho0 (below_size (by repeat (first | (with_reducible first | exact HB.out | apply below_alloc | apply pw_below_drewN | apply below_drew1) | exact HB.out)))); have n2_ := Aside0.mk (below_step (by repeat (first | (with_reducible first | exact HB.out | apply below_alloc | apply pw_below_drewN | apply below_drew1) | exact HB.out)) hb); clear HO_6; clear HB; have HO_6 := n0_; have HO322 := n1_; have HB := n2_; clear n0_ n1_ n2_; (try clear hb); (try clear hb2); (try clear hk); (try clear hi); (try clear ho0)) | ((with_reducible refine gate_callee (f := 50) rfl ?_); refine goesL_ (some 61) rfl rfl Try.func50 (by kernel_rfl) rfl #[.int .i64 t308] rfl (by (try simp only [List.map_toArray, List.map_cons, List.map_nil]); first | done | rfl | (simp only [List.length_drop, List.length_take]; rfl)) ?_; (with_reducible refine (impl_SignedDigits.calls kj7 t308 t323 true _ A21.out).mono ?_); rintro e w40 ⟨v325, rfl, ho0, hb⟩; refine ⟨_, rfl, ?_⟩; have n0_ := Aside0.mk (Kd.R_below (by (with_reducible repeat (first | apply Kd.R_alloc | apply Kd.R_drewN | apply Kd.R_drew)); exact HO_6.out) hb); have n1_ := Aside0.mk (Kd.R_elder' (by (with_reducible repeat (first | apply Kd.R_alloc | apply Kd.R_drewN | apply Kd.R_drew)); exact HO322.out) (Kd.R_base ho0) hb); have n2_ := Aside0.mk (Kd.R_lower (Kd.R_new' ho0 (Kd.R_lt (by (with_reducible repeat (first | apply Kd.R_alloc | apply Kd.R_drewN | apply Kd.R_drew)); exact HO322.out))) (below_size (by repeat (first | (with_reducible first | exact HB.out | apply below_alloc | apply pw_below_drewN | apply below_drew1) | exact HB.out)))); have n3_ := Aside0.mk (below_step (by repeat (first | (with_reducible first | exact HB.out | apply below_alloc | apply pw_below_drewN | apply below_drew1) | exact HB.out)) hb); clear HO_6; clear HO322; clear HB; have HO_6 := n0_; have HO322 := n1_; have HO326 := n2_; have HB := n3_; clear n0_ n1_ n2_ n3_; (try clear hb); (try clear hb2); (try clear hk); (try clear hi); (try clear ho0); obtain ⟨Ao41, co41, eo41⟩ := Kd.R_slice HO326.out; subst eo41) | ((with_reducible refine gate_callee (f := 56) rfl ?_); refine goesL_ (some 66) rfl rfl Try.func56 (by kernel_rfl) rfl #[.slice Ao41 t323.length co41] rfl (by (try simp only [List.map_toArray, List.map_cons, List.map_nil]); first | done | rfl | (simp only [List.length_drop, List.length_take]; rfl)) ?_; (with_reducible refine (impl_WeightOf.calls kj7 _ _ t323 t327 true _ ?side1 ?side2 A22.out).mono ?_); (case side1 => repeat (first | exact (Kd.R_reads' HO326.out).2.2 | (with_reducible refine Kd.C_alloc ?_ _) | (with_reducible refine Kd.C_drewN ?_ _) | (with_reducible refine Kd.C_drew ?_))); (case side2 => exact (Kd.R_reads' HO326.out).2.1); rintro e w' ⟨rfl, ⟨nd, rfl⟩⟩; refine ⟨_, rfl, ?_⟩; obtain ⟨Ao42, co42, eo42⟩ := Kd.R_slice HO322.out; subst eo42; have p329 : 0 ≤ ((ji24) : Int) := of_decide_eq_true (by first | (with_reducible assumption) | assumption); have q329 : (ji24) < (t319.length : Int) := of_decide_eq_true (by first | (with_reducible assumption) | assumption); obtain ⟨ad329, e329, hx329_0⟩ := Kd.at_int (Kd.R_reads' HO322.out).2.2 (ji24) p329 q329; cases e329; replace p329 := eq_true p329; replace q329 := eq_true q329))
                                go_ret
                                exact ⟨by first | rfl | (simp [errW_none, errW_some] <;> rfl) | (simp only [← hji24]; first | rfl | (simp [errW_none, errW_some] <;> rfl)) | (simp [*, errW_none, errW_some] <;> rfl), by repeat (first | (with_reducible first | exact HB.out | apply below_alloc | apply pw_below_drewN | apply below_drew1) | exact HB.out)⟩
                            · rw [if_neg c31] at H
                              have c31b0 : decide (1 < t327) = false := decide_eq_false c31
                              clear c31
                              have H' := Aside0.mk H
                              clear H
                              obtain ⟨Ao43, co43, eo43⟩ := Kd.R_slice HO_6.out
                              subst eo43
                              go_wp2_with (first | ((with_reducible refine gate_callee (f := 31) rfl ?_); refine goesL_ (some 56) rfl rfl Try.func31 (by kernel_rfl) rfl #[.slice Ao43 t309.length co43, .int .i64 (wrap64 ((Int.tmod t318 2001) - 1000))] rfl (by (try simp only [List.map_toArray, List.map_cons, List.map_nil]); first | done | rfl | (simp only [List.length_drop, List.length_take]; rfl)) ?_; (with_reducible refine (impl_RunAdders.calls kj7 _ _ t309 (wrap64 ((Int.tmod t318 2001) - 1000)) t319 true _ ?side1 ?side2 A20.out).mono ?_); (case side1 => repeat (first | exact (Kd.R_reads' HO_6.out).2.2 | (with_reducible refine Kd.C_alloc ?_ _) | (with_reducible refine Kd.C_drewN ?_ _) | (with_reducible refine Kd.C_drew ?_))); (case side2 => exact (Kd.R_reads' HO_6.out).2.1); rintro e w44 ⟨v321, rfl, ho0, hb⟩; refine ⟨_, rfl, ?_⟩; have n0_ := Aside0.mk (Kd.R_below (by (with_reducible repeat (first | apply Kd.R_alloc | apply Kd.R_drewN | apply Kd.R_drew)); exact HO_6.out) hb); have n1_ := Aside0.mk (Kd.R_lower ho0 (below_size (by repeat (first | (with_reducible first | exact HB.out | apply below_alloc | apply pw_below_drewN | apply below_drew1) | exact HB.out)))); have n2_ := Aside0.mk (below_step (by repeat (first | (with_reducible first | exact HB.out | apply below_alloc | apply pw_below_drewN | apply below_drew1) | exact HB.out)) hb); clear HO_6; clear HB; have HO_6 := n0_; have HO322 := n1_; have HB := n2_; clear n0_ n1_ n2_; (try clear hb); (try clear hb2); (try clear hk); (try clear hi); (try clear ho0)) | ((with_reducible refine gate_callee (f := 50) rfl ?_); refine goesL_ (some 61) rfl rfl Try.func50 (by kernel_rfl) rfl #[.int .i64 t308] rfl (by (try simp only [List.map_toArray, List.map_cons, List.map_nil]); first | done | rfl | (simp only [List.length_drop, List.length_take]; rfl)) ?_; (with_reducible refine (impl_SignedDigits.calls kj7 t308 t323 true _ A21.out).mono ?_); rintro e w45 ⟨v325, rfl, ho0, hb⟩; refine ⟨_, rfl, ?_⟩; have n0_ := Aside0.mk (Kd.R_below (by (with_reducible repeat (first | apply Kd.R_alloc | apply Kd.R_drewN | apply Kd.R_drew)); exact HO_6.out) hb); have n1_ := Aside0.mk (Kd.R_elder' (by (with_reducible repeat (first | apply Kd.R_alloc | apply Kd.R_drewN | apply Kd.R_drew)); exact HO322.out) (Kd.R_base ho0) hb); have n2_ := Aside0.mk (Kd.R_lower (Kd.R_new' ho0 (Kd.R_lt (by (with_reducible repeat (first | apply Kd.R_alloc | apply Kd.R_drewN | apply Kd.R_drew)); exact HO322.out))) (below_size (by repeat (first | (with_reducible first | exact HB.out | apply below_alloc | apply pw_below_drewN | apply below_drew1) | exact HB.out)))); have n3_ := Aside0.mk (below_step (by repeat (first | (with_reducible first | exact HB.out | apply below_alloc | apply pw_below_drewN | apply below_drew1) | exact HB.out)) hb); clear HO_6; clear HO322; clear HB; have HO_6 := n0_; have HO322 := n1_; have HO326 := n2_; have HB := n3_; clear n0_ n1_ n2_ n3_; (try clear hb); (try clear hb2); (try clear hk); (try clear hi); (try clear ho0); obtain ⟨Ao46, co46, eo46⟩ := Kd.R_slice HO326.out; subst eo46) | ((with_reducible refine gate_callee (f := 56) rfl ?_); refine goesL_ (some 66) rfl rfl Try.func56 (by kernel_rfl) rfl #[.slice Ao46 t323.length co46] rfl (by (try simp only [List.map_toArray, List.map_cons, List.map_nil]); first | done | rfl | (simp only [List.length_drop, List.length_take]; rfl)) ?_; (with_reducible refine (impl_WeightOf.calls kj7 _ _ t323 t327 true _ ?side1 ?side2 A22.out).mono ?_); (case side1 => repeat (first | exact (Kd.R_reads' HO326.out).2.2 | (with_reducible refine Kd.C_alloc ?_ _) | (with_reducible refine Kd.C_drewN ?_ _) | (with_reducible refine Kd.C_drew ?_))); (case side2 => exact (Kd.R_reads' HO326.out).2.1); rintro e w' ⟨rfl, ⟨nd, rfl⟩⟩; refine ⟨_, rfl, ?_⟩; obtain ⟨Ao47, co47, eo47⟩ := Kd.R_slice HO322.out; subst eo47; have p329 : 0 ≤ ((ji24) : Int) := of_decide_eq_true (by first | (with_reducible assumption) | assumption); have q329 : (ji24) < (t319.length : Int) := of_decide_eq_true (by first | (with_reducible assumption) | assumption); obtain ⟨ad329, e329, hx329_0⟩ := Kd.at_int (Kd.R_reads' HO322.out).2.2 (ji24) p329 q329; cases e329; replace p329 := eq_true p329; replace q329 := eq_true q329))
                              go_meet
                              case rel => exact ⟨_, H', ⟨by have := HJ7.out; first | omega | exact Nat.le_refl _⟩, ⟨by repeat (first | (with_reducible first | exact HB.out | apply below_alloc | apply pw_below_drewN | apply below_drew1) | exact HB.out)⟩⟩
                          · rw [if_neg c30] at H
                            have c30b0 : decide (0 < t308) = false := decide_eq_false c30
                            clear c30
                            have H' := Aside0.mk H
                            clear H
                            obtain ⟨Ao48, co48, eo48⟩ := Kd.R_slice HO_6.out
                            subst eo48
                            go_wp2_with (first | ((with_reducible refine gate_callee (f := 31) rfl ?_); refine goesL_ (some 56) rfl rfl Try.func31 (by kernel_rfl) rfl #[.slice Ao48 t309.length co48, .int .i64 (wrap64 ((Int.tmod t318 2001) - 1000))] rfl (by (try simp only [List.map_toArray, List.map_cons, List.map_nil]); first | done | rfl | (simp only [List.length_drop, List.length_take]; rfl)) ?_; (with_reducible refine (impl_RunAdders.calls kj7 _ _ t309 (wrap64 ((Int.tmod t318 2001) - 1000)) t319 true _ ?side1 ?side2 A20.out).mono ?_); (case side1 => repeat (first | exact (Kd.R_reads' HO_6.out).2.2 | (with_reducible refine Kd.C_alloc ?_ _) | (with_reducible refine Kd.C_drewN ?_ _) | (with_reducible refine Kd.C_drew ?_))); (case side2 => exact (Kd.R_reads' HO_6.out).2.1); rintro e w49 ⟨v321, rfl, ho0, hb⟩; refine ⟨_, rfl, ?_⟩; have n0_ := Aside0.mk (Kd.R_below (by (with_reducible repeat (first | apply Kd.R_alloc | apply Kd.R_drewN | apply Kd.R_drew)); exact HO_6.out) hb); have n1_ := Aside0.mk (Kd.R_lower ho0 (below_size (by repeat (first | (with_reducible first | exact HB.out | apply below_alloc | apply pw_below_drewN | apply below_drew1) | exact HB.out)))); have n2_ := Aside0.mk (below_step (by repeat (first | (with_reducible first | exact HB.out | apply below_alloc | apply pw_below_drewN | apply below_drew1) | exact HB.out)) hb); clear HO_6; clear HB; have HO_6 := n0_; have HO322 := n1_; have HB := n2_; clear n0_ n1_ n2_; (try clear hb); (try clear hb2); (try clear hk); (try clear hi); (try clear ho0)) | ((with_reducible refine gate_callee (f := 50) rfl ?_); refine goesL_ (some 61) rfl rfl Try.func50 (by kernel_rfl) rfl #[.int .i64 t308] rfl (by (try simp only [List.map_toArray, List.map_cons, List.map_nil]); first | done | rfl | (simp only [List.length_drop, List.length_take]; rfl)) ?_; (with_reducible refine (impl_SignedDigits.calls kj7 t308 t323 true _ A21.out).mono ?_); rintro e w50 ⟨v325, rfl, ho0, hb⟩; refine ⟨_, rfl, ?_⟩; have n0_ := Aside0.mk (Kd.R_below (by (with_reducible repeat (first | apply Kd.R_alloc | apply Kd.R_drewN | apply Kd.R_drew)); exact HO_6.out) hb); have n1_ := Aside0.mk (Kd.R_elder' (by (with_reducible repeat (first | apply Kd.R_alloc | apply Kd.R_drewN | apply Kd.R_drew)); exact HO322.out) (Kd.R_base ho0) hb); have n2_ := Aside0.mk (Kd.R_lower (Kd.R_new' ho0 (Kd.R_lt (by (with_reducible repeat (first | apply Kd.R_alloc | apply Kd.R_drewN | apply Kd.R_drew)); exact HO322.out))) (below_size (by repeat (first | (with_reducible first | exact HB.out | apply below_alloc | apply pw_below_drewN | apply below_drew1) | exact HB.out)))); have n3_ := Aside0.mk (below_step (by repeat (first | (with_reducible first | exact HB.out | apply below_alloc | apply pw_below_drewN | apply below_drew1) | exact HB.out)) hb); clear HO_6; clear HO322; clear HB; have HO_6 := n0_; have HO322 := n1_; have HO326 := n2_; have HB := n3_; clear n0_ n1_ n2_ n3_; (try clear hb); (try clear hb2); (try clear hk); (try clear hi); (try clear ho0); obtain ⟨Ao51, co51, eo51⟩ := Kd.R_slice HO326.out; subst eo51) | ((with_reducible refine gate_callee (f := 56) rfl ?_); refine goesL_ (some 66) rfl rfl Try.func56 (by kernel_rfl) rfl #[.slice Ao51 t323.length co51] rfl (by (try simp only [List.map_toArray, List.map_cons, List.map_nil]); first | done | rfl | (simp only [List.length_drop, List.length_take]; rfl)) ?_; (with_reducible refine (impl_WeightOf.calls kj7 _ _ t323 t327 true _ ?side1 ?side2 A22.out).mono ?_); (case side1 => repeat (first | exact (Kd.R_reads' HO326.out).2.2 | (with_reducible refine Kd.C_alloc ?_ _) | (with_reducible refine Kd.C_drewN ?_ _) | (with_reducible refine Kd.C_drew ?_))); (case side2 => exact (Kd.R_reads' HO326.out).2.1); rintro e w' ⟨rfl, ⟨nd, rfl⟩⟩; refine ⟨_, rfl, ?_⟩; obtain ⟨Ao52, co52, eo52⟩ := Kd.R_slice HO322.out; subst eo52; have p329 : 0 ≤ ((ji24) : Int) := of_decide_eq_true (by first | (with_reducible assumption) | assumption); have q329 : (ji24) < (t319.length : Int) := of_decide_eq_true (by first | (with_reducible assumption) | assumption); obtain ⟨ad329, e329, hx329_0⟩ := Kd.at_int (Kd.R_reads' HO322.out).2.2 (ji24) p329 q329; cases e329; replace p329 := eq_true p329; replace q329 := eq_true q329))
                            go_meet
                            case rel => exact ⟨_, H', ⟨by have := HJ7.out; first | omega | exact Nat.le_refl _⟩, ⟨by repeat (first | (with_reducible first | exact HB.out | apply below_alloc | apply pw_below_drewN | apply below_drew1) | exact HB.out)⟩⟩
                        · replace c29 := Bool.eq_false_iff.mpr c29
                          subst c29
                          have H1 : (some false) = some r := by rw [if_neg (show ¬ (false = true) by decide)] at H; exact H
                          clear H
                          have H := H1
                          clear H1
                          obtain rfl := Option.some.inj H
                          obtain ⟨Ao53, co53, eo53⟩ := Kd.R_slice HO_6.out
                          subst eo53
                          go_wp2_with (first | ((with_reducible refine gate_callee (f := 31) rfl ?_); refine goesL_ (some 56) rfl rfl Try.func31 (by kernel_rfl) rfl #[.slice Ao53 t309.length co53, .int .i64 (wrap64 ((Int.tmod t318 2001) - 1000))] rfl (by (try simp only [List.map_toArray, List.map_cons, List.map_nil]); first | done | rfl | (simp only [List.length_drop, List.length_take]; rfl)) ?_; (with_reducible refine (impl_RunAdders.calls kj7 _ _ t309 (wrap64 ((Int.tmod t318 2001) - 1000)) t319 true _ ?side1 ?side2 A20.out).mono ?_); (case side1 => repeat (first | exact (Kd.R_reads' HO_6.out).2.2 | (with_reducible refine Kd.C_alloc ?_ _) | (with_reducible refine Kd.C_drewN ?_ _) | (with_reducible refine Kd.C_drew ?_))); (case side2 => exact (Kd.R_reads' HO_6.out).2.1); rintro e w54 ⟨v321, rfl, ho0, hb⟩; refine ⟨_, rfl, ?_⟩; have n0_ := Aside0.mk (Kd.R_below (by (with_reducible repeat (first | apply Kd.R_alloc | apply Kd.R_drewN | apply Kd.R_drew)); exact HO_6.out) hb); have n1_ := Aside0.mk (Kd.R_lower ho0 (below_size (by repeat (first | (with_reducible first | exact HB.out | apply below_alloc | apply pw_below_drewN | apply below_drew1) | exact HB.out)))); have n2_ := Aside0.mk (below_step (by repeat (first | (with_reducible first | exact HB.out | apply below_alloc | apply pw_below_drewN | apply below_drew1) | exact HB.out)) hb); clear HO_6; clear HB; have HO_6 := n0_; have HO322 := n1_; have HB := n2_; clear n0_ n1_ n2_; (try clear hb); (try clear hb2); (try clear hk); (try clear hi); (try clear ho0)) | ((with_reducible refine gate_callee (f := 50) rfl ?_); refine goesL_ (some 61) rfl rfl Try.func50 (by kernel_rfl) rfl #[.int .i64 t308] rfl (by (try simp only [List.map_toArray, List.map_cons, List.map_nil]); first | done | rfl | (simp only [List.length_drop, List.length_take]; rfl)) ?_; (with_reducible refine (impl_SignedDigits.calls kj7 t308 t323 true _ A21.out).mono ?_); rintro e w55 ⟨v325, rfl, ho0, hb⟩; refine ⟨_, rfl, ?_⟩; have n0_ := Aside0.mk (Kd.R_below (by (with_reducible repeat (first | apply Kd.R_alloc | apply Kd.R_drewN | apply Kd.R_drew)); exact HO_6.out) hb); have n1_ := Aside0.mk (Kd.R_elder' (by (with_reducible repeat (first | apply Kd.R_alloc | apply Kd.R_drewN | apply Kd.R_drew)); exact HO322.out) (Kd.R_base ho0) hb); have n2_ := Aside0.mk (Kd.R_lower (Kd.R_new' ho0 (Kd.R_lt (by (with_reducible repeat (first | apply Kd.R_alloc | apply Kd.R_drewN | apply Kd.R_drew)); exact HO322.out))) (below_size (by repeat (first | (with_reducible first | exact HB.out | apply below_alloc | apply pw_below_drewN | apply below_drew1) | exact HB.out)))); have n3_ := Aside0.mk (below_step (by repeat (first | (with_reducible first | exact HB.out | apply below_alloc | apply pw_below_drewN | apply below_drew1) | exact HB.out)) hb); clear HO_6; clear HO322; clear HB; have HO_6 := n0_; have HO322 := n1_; have HO326 := n2_; have HB := n3_; clear n0_ n1_ n2_ n3_; (try clear hb); (try clear hb2); (try clear hk); (try clear hi); (try clear ho0); obtain ⟨Ao56, co56, eo56⟩ := Kd.R_slice HO326.out; subst eo56) | ((with_reducible refine gate_callee (f := 56) rfl ?_); refine goesL_ (some 66) rfl rfl Try.func56 (by kernel_rfl) rfl #[.slice Ao56 t323.length co56] rfl (by (try simp only [List.map_toArray, List.map_cons, List.map_nil]); first | done | rfl | (simp only [List.length_drop, List.length_take]; rfl)) ?_; (with_reducible refine (impl_WeightOf.calls kj7 _ _ t323 t327 false _ ?side1 ?side2 A22.out).mono ?_); (case side1 => repeat (first | exact (Kd.R_reads' HO326.out).2.2 | (with_reducible refine Kd.C_alloc ?_ _) | (with_reducible refine Kd.C_drewN ?_ _) | (with_reducible refine Kd.C_drew ?_))); (case side2 => exact (Kd.R_reads' HO326.out).2.1); rintro e w' ⟨rfl, ⟨nd, rfl⟩⟩; refine ⟨_, rfl, ?_⟩; obtain ⟨Ao57, co57, eo57⟩ := Kd.R_slice HO322.out; subst eo57; have p329 : 0 ≤ ((ji24) : Int) := of_decide_eq_true (by first | (with_reducible assumption) | assumption); have q329 : (ji24) < (t319.length : Int) := of_decide_eq_true (by first | (with_reducible assumption) | assumption); obtain ⟨ad329, e329, hx329_0⟩ := Kd.at_int (Kd.R_reads' HO322.out).2.2 (ji24) p329 q329; cases e329; replace p329 := eq_true p329; replace q329 := eq_true q329))
                          go_ret
                          exact ⟨by first | rfl | (simp [errW_none, errW_some] <;> rfl) | (simp only [← hji24]; first | rfl | (simp [errW_none, errW_some] <;> rfl)) | (simp [*, errW_none, errW_some] <;> rfl), by repeat (first | (with_reducible first | exact HB.out | apply below_alloc | apply pw_below_drewN | apply below_drew1) | exact HB.out)⟩
                      · replace c28 := Bool.eq_false_iff.mpr c28
                        subst c28
                        have H1 : (some false) = some r := by rw [if_neg (show ¬ (false = true) by decide)] at H; exact H
                        clear H
                        have H := H1
                        clear H1
                        obtain rfl := Option.some.inj H
                        obtain ⟨Ao58, co58, eo58⟩ := Kd.R_slice HO_6.out
                        subst eo58
                        go_wp2_with (first | ((with_reducible refine gate_callee (f := 31) rfl ?_); refine goesL_ (some 56) rfl rfl Try.func31 (by kernel_rfl) rfl #[.slice Ao58 t309.length co58, .int .i64 (wrap64 ((Int.tmod t318 2001) - 1000))] rfl (by (try simp only [List.map_toArray, List.map_cons, List.map_nil]); first | done | rfl | (simp only [List.length_drop, List.length_take]; rfl)) ?_; (with_reducible refine (impl_RunAdders.calls kj7 _ _ t309 (wrap64 ((Int.tmod t318 2001) - 1000)) t319 true _ ?side1 ?side2 A20.out).mono ?_); (case side1 => repeat (first | exact (Kd.R_reads' HO_6.out).2.2 | (with_reducible refine Kd.C_alloc ?_ _) | (with_reducible refine Kd.C_drewN ?_ _) | (with_reducible refine Kd.C_drew ?_))); (case side2 => exact (Kd.R_reads' HO_6.out).2.1); rintro e w59 ⟨v321, rfl, ho0, hb⟩; refine ⟨_, rfl, ?_⟩; have n0_ := Aside0.mk (Kd.R_below (by (with_reducible repeat (first | apply Kd.R_alloc | apply Kd.R_drewN | apply Kd.R_drew)); exact HO_6.out) hb); have n1_ := Aside0.mk (Kd.R_lower ho0 (below_size (by repeat (first | (with_reducible first | exact HB.out | apply below_alloc | apply pw_below_drewN | apply below_drew1) | exact HB.out)))); have n2_ := Aside0.mk (below_step (by repeat (first | (with_reducible first | exact HB.out | apply below_alloc | apply pw_below_drewN | apply below_drew1) | exact HB.out)) hb); clear HO_6; clear HB; have HO_6 := n0_; have HO322 := n1_; have HB := n2_; clear n0_ n1_ n2_; (try clear hb); (try clear hb2); (try clear hk); (try clear hi); (try clear ho0)) | ((with_reducible refine gate_callee (f := 50) rfl ?_); refine goesL_ (some 61) rfl rfl Try.func50 (by kernel_rfl) rfl #[.int .i64 t308] rfl (by (try simp only [List.map_toArray, List.map_cons, List.map_nil]); first | done | rfl | (simp only [List.length_drop, List.length_take]; rfl)) ?_; (with_reducible refine (impl_SignedDigits.calls kj7 t308 t323 false _ A21.out).mono ?_); rintro e w60 ⟨v325, rfl, ho0, hb⟩; refine ⟨_, rfl, ?_⟩; have n0_ := Aside0.mk (Kd.R_below (by (with_reducible repeat (first | apply Kd.R_alloc | apply Kd.R_drewN | apply Kd.R_drew)); exact HO_6.out) hb); have n1_ := Aside0.mk (Kd.R_elder' (by (with_reducible repeat (first | apply Kd.R_alloc | apply Kd.R_drewN | apply Kd.R_drew)); exact HO322.out) (Kd.R_base ho0) hb); have n2_ := Aside0.mk (Kd.R_lower (Kd.R_new' ho0 (Kd.R_lt (by (with_reducible repeat (first | apply Kd.R_alloc | apply Kd.R_drewN | apply Kd.R_drew)); exact HO322.out))) (below_size (by repeat (first | (with_reducible first | exact HB.out | apply below_alloc | apply pw_below_drewN | apply below_drew1) | exact HB.out)))); have n3_ := Aside0.mk (below_step (by repeat (first | (with_reducible first | exact HB.out | apply below_alloc | apply pw_below_drewN | apply below_drew1) | exact HB.out)) hb); clear HO_6; clear HO322; clear HB; have HO_6 := n0_; have HO322 := n1_; have HO326 := n2_; have HB := n3_; clear n0_ n1_ n2_ n3_; (try clear hb); (try clear hb2); (try clear hk); (try clear hi); (try clear ho0); obtain ⟨Ao61, co61, eo61⟩ := Kd.R_slice HO326.out; subst eo61) | ((with_reducible refine gate_callee (f := 56) rfl ?_); refine goesL_ (some 66) rfl rfl Try.func56 (by kernel_rfl) rfl #[.slice Ao61 t323.length co61] rfl (by (try simp only [List.map_toArray, List.map_cons, List.map_nil]); first | done | rfl | (simp only [List.length_drop, List.length_take]; rfl)) ?_; (with_reducible refine (impl_WeightOf.calls kj7 _ _ t323 t327 t328 _ ?side1 ?side2 A22.out).mono ?_); (case side1 => repeat (first | exact (Kd.R_reads' HO326.out).2.2 | (with_reducible refine Kd.C_alloc ?_ _) | (with_reducible refine Kd.C_drewN ?_ _) | (with_reducible refine Kd.C_drew ?_))); (case side2 => exact (Kd.R_reads' HO326.out).2.1); rintro e w' ⟨rfl, ⟨nd, rfl⟩⟩; refine ⟨_, rfl, ?_⟩; obtain ⟨Ao62, co62, eo62⟩ := Kd.R_slice HO322.out; subst eo62; have p329 : 0 ≤ ((ji24) : Int) := of_decide_eq_true (by first | (with_reducible assumption) | assumption); have q329 : (ji24) < (t319.length : Int) := of_decide_eq_true (by first | (with_reducible assumption) | assumption); obtain ⟨ad329, e329, hx329_0⟩ := Kd.at_int (Kd.R_reads' HO322.out).2.2 (ji24) p329 q329; cases e329; replace p329 := eq_true p329; replace q329 := eq_true q329))
                        go_ret
                        exact ⟨by first | rfl | (simp [errW_none, errW_some] <;> rfl) | (simp only [← hji24]; first | rfl | (simp [errW_none, errW_some] <;> rfl)) | (simp [*, errW_none, errW_some] <;> rfl), by repeat (first | (with_reducible first | exact HB.out | apply below_alloc | apply pw_below_drewN | apply below_drew1) | exact HB.out)⟩
                    · rw [if_neg c27] at H
                      have c27b0 : ((rd t319 (ji24)) == (wrap64 (t308 * (wrap64 ((Int.tmod t318 2001) - 1000))))) = false := beq_eq_false_iff_ne.mpr c27
                      have c27b1 : ((rd t319 (ji24)) != (wrap64 (t308 * (wrap64 ((Int.tmod t318 2001) - 1000))))) = true := bne_iff_ne.mpr c27
                      obtain rfl := Option.some.inj H
                      obtain ⟨Ao63, co63, eo63⟩ := Kd.R_slice HO_6.out
                      subst eo63
                      go_wp2_with (first | ((with_reducible refine gate_callee (f := 31) rfl ?_); refine goesL_ (some 56) rfl rfl Try.func31 (by kernel_rfl) rfl #[.slice Ao63 t309.length co63, .int .i64 (wrap64 ((Int.tmod t318 2001) - 1000))] rfl (by (try simp only [List.map_toArray, List.map_cons, List.map_nil]); first | done | rfl | (simp only [List.length_drop, List.length_take]; rfl)) ?_; (with_reducible refine (impl_RunAdders.calls kj7 _ _ t309 (wrap64 ((Int.tmod t318 2001) - 1000)) t319 true _ ?side1 ?side2 A20.out).mono ?_); (case side1 => repeat (first | exact (Kd.R_reads' HO_6.out).2.2 | (with_reducible refine Kd.C_alloc ?_ _) | (with_reducible refine Kd.C_drewN ?_ _) | (with_reducible refine Kd.C_drew ?_))); (case side2 => exact (Kd.R_reads' HO_6.out).2.1); rintro e w64 ⟨v321, rfl, ho0, hb⟩; refine ⟨_, rfl, ?_⟩; have n0_ := Aside0.mk (Kd.R_below (by (with_reducible repeat (first | apply Kd.R_alloc | apply Kd.R_drewN | apply Kd.R_drew)); exact HO_6.out) hb); have n1_ := Aside0.mk (Kd.R_lower ho0 (below_size (by repeat (first | (with_reducible first | exact HB.out | apply below_alloc | apply pw_below_drewN | apply below_drew1) | exact HB.out)))); have n2_ := Aside0.mk (below_step (by repeat (first | (with_reducible first | exact HB.out | apply below_alloc | apply pw_below_drewN | apply below_drew1) | exact HB.out)) hb); clear HO_6; clear HB; have HO_6 := n0_; have HO322 := n1_; have HB := n2_; clear n0_ n1_ n2_; (try clear hb); (try clear hb2); (try clear hk); (try clear hi); (try clear ho0)) | ((with_reducible refine gate_callee (f := 50) rfl ?_); refine goesL_ (some 61) rfl rfl Try.func50 (by kernel_rfl) rfl #[.int .i64 t308] rfl (by (try simp only [List.map_toArray, List.map_cons, List.map_nil]); first | done | rfl | (simp only [List.length_drop, List.length_take]; rfl)) ?_; (with_reducible refine (impl_SignedDigits.calls kj7 t308 t323 t324 _ A21.out).mono ?_); rintro e w65 ⟨v325, rfl, ho0, hb⟩; refine ⟨_, rfl, ?_⟩; have n0_ := Aside0.mk (Kd.R_below (by (with_reducible repeat (first | apply Kd.R_alloc | apply Kd.R_drewN | apply Kd.R_drew)); exact HO_6.out) hb); have n1_ := Aside0.mk (Kd.R_elder' (by (with_reducible repeat (first | apply Kd.R_alloc | apply Kd.R_drewN | apply Kd.R_drew)); exact HO322.out) (Kd.R_base ho0) hb); have n2_ := Aside0.mk (Kd.R_lower (Kd.R_new' ho0 (Kd.R_lt (by (with_reducible repeat (first | apply Kd.R_alloc | apply Kd.R_drewN | apply Kd.R_drew)); exact HO322.out))) (below_size (by repeat (first | (with_reducible first | exact HB.out | apply below_alloc | apply pw_below_drewN | apply below_drew1) | exact HB.out)))); have n3_ := Aside0.mk (below_step (by repeat (first | (with_reducible first | exact HB.out | apply below_alloc | apply pw_below_drewN | apply below_drew1) | exact HB.out)) hb); clear HO_6; clear HO322; clear HB; have HO_6 := n0_; have HO322 := n1_; have HO326 := n2_; have HB := n3_; clear n0_ n1_ n2_ n3_; (try clear hb); (try clear hb2); (try clear hk); (try clear hi); (try clear ho0); obtain ⟨Ao66, co66, eo66⟩ := Kd.R_slice HO326.out; subst eo66) | ((with_reducible refine gate_callee (f := 56) rfl ?_); refine goesL_ (some 66) rfl rfl Try.func56 (by kernel_rfl) rfl #[.slice Ao66 t323.length co66] rfl (by (try simp only [List.map_toArray, List.map_cons, List.map_nil]); first | done | rfl | (simp only [List.length_drop, List.length_take]; rfl)) ?_; (with_reducible refine (impl_WeightOf.calls kj7 _ _ t323 t327 t328 _ ?side1 ?side2 A22.out).mono ?_); (case side1 => repeat (first | exact (Kd.R_reads' HO326.out).2.2 | (with_reducible refine Kd.C_alloc ?_ _) | (with_reducible refine Kd.C_drewN ?_ _) | (with_reducible refine Kd.C_drew ?_))); (case side2 => exact (Kd.R_reads' HO326.out).2.1); rintro e w' ⟨rfl, ⟨nd, rfl⟩⟩; refine ⟨_, rfl, ?_⟩; obtain ⟨Ao67, co67, eo67⟩ := Kd.R_slice HO322.out; subst eo67; have p329 : 0 ≤ ((ji24) : Int) := of_decide_eq_true (by first | (with_reducible assumption) | assumption); have q329 : (ji24) < (t319.length : Int) := of_decide_eq_true (by first | (with_reducible assumption) | assumption); obtain ⟨ad329, e329, hx329_0⟩ := Kd.at_int (Kd.R_reads' HO322.out).2.2 (ji24) p329 q329; cases e329; replace p329 := eq_true p329; replace q329 := eq_true q329))
                      go_ret
                      exact ⟨by first | rfl | (simp [errW_none, errW_some] <;> rfl) | (simp only [← hji24]; first | rfl | (simp [errW_none, errW_some] <;> rfl)) | (simp [*, errW_none, errW_some] <;> rfl), by repeat (first | (with_reducible first | exact HB.out | apply below_alloc | apply pw_below_drewN | apply below_drew1) | exact HB.out)⟩
                  · rw [if_neg c26] at H
                    exact absurd H (by simp)
                · rw [if_neg c25] at H
                  exact absurd H (by simp)
              · replace c23 := Bool.eq_false_iff.mpr c23
                subst c23
                have H1 : (some false) = some r := by rw [if_neg (show ¬ (false = true) by decide)] at H; exact H
                clear H
                have H := H1
                clear H1
                obtain rfl := Option.some.inj H
                obtain ⟨Ao68, co68, eo68⟩ := Kd.R_slice HO_6.out
                subst eo68
                go_wp2_with (first | ((with_reducible refine gate_callee (f := 31) rfl ?_); refine goesL_ (some 56) rfl rfl Try.func31 (by kernel_rfl) rfl #[.slice Ao68 t309.length co68, .int .i64 (wrap64 ((Int.tmod t318 2001) - 1000))] rfl (by (try simp only [List.map_toArray, List.map_cons, List.map_nil]); first | done | rfl | (simp only [List.length_drop, List.length_take]; rfl)) ?_; (with_reducible refine (impl_RunAdders.calls kj7 _ _ t309 (wrap64 ((Int.tmod t318 2001) - 1000)) t319 false _ ?side1 ?side2 A20.out).mono ?_); (case side1 => repeat (first | exact (Kd.R_reads' HO_6.out).2.2 | (with_reducible refine Kd.C_alloc ?_ _) | (with_reducible refine Kd.C_drewN ?_ _) | (with_reducible refine Kd.C_drew ?_))); (case side2 => exact (Kd.R_reads' HO_6.out).2.1); rintro e w69 ⟨v321, rfl, ho0, hb⟩; refine ⟨_, rfl, ?_⟩; have n0_ := Aside0.mk (Kd.R_below (by (with_reducible repeat (first | apply Kd.R_alloc | apply Kd.R_drewN | apply Kd.R_drew)); exact HO_6.out) hb); have n1_ := Aside0.mk (Kd.R_lower ho0 (below_size (by repeat (first | (with_reducible first | exact HB.out | apply below_alloc | apply pw_below_drewN | apply below_drew1) | exact HB.out)))); have n2_ := Aside0.mk (below_step (by repeat (first | (with_reducible first | exact HB.out | apply below_alloc | apply pw_below_drewN | apply below_drew1) | exact HB.out)) hb); clear HO_6; clear HB; have HO_6 := n0_; have HO322 := n1_; have HB := n2_; clear n0_ n1_ n2_; (try clear hb); (try clear hb2); (try clear hk); (try clear hi); (try clear ho0)) | ((with_reducible refine gate_callee (f := 50) rfl ?_); refine goesL_ (some 61) rfl rfl Try.func50 (by kernel_rfl) rfl #[.int .i64 t308] rfl (by (try simp only [List.map_toArray, List.map_cons, List.map_nil]); first | done | rfl | (simp only [List.length_drop, List.length_take]; rfl)) ?_; (with_reducible refine (impl_SignedDigits.calls kj7 t308 t323 t324 _ A21.out).mono ?_); rintro e w70 ⟨v325, rfl, ho0, hb⟩; refine ⟨_, rfl, ?_⟩; have n0_ := Aside0.mk (Kd.R_below (by (with_reducible repeat (first | apply Kd.R_alloc | apply Kd.R_drewN | apply Kd.R_drew)); exact HO_6.out) hb); have n1_ := Aside0.mk (Kd.R_elder' (by (with_reducible repeat (first | apply Kd.R_alloc | apply Kd.R_drewN | apply Kd.R_drew)); exact HO322.out) (Kd.R_base ho0) hb); have n2_ := Aside0.mk (Kd.R_lower (Kd.R_new' ho0 (Kd.R_lt (by (with_reducible repeat (first | apply Kd.R_alloc | apply Kd.R_drewN | apply Kd.R_drew)); exact HO322.out))) (below_size (by repeat (first | (with_reducible first | exact HB.out | apply below_alloc | apply pw_below_drewN | apply below_drew1) | exact HB.out)))); have n3_ := Aside0.mk (below_step (by repeat (first | (with_reducible first | exact HB.out | apply below_alloc | apply pw_below_drewN | apply below_drew1) | exact HB.out)) hb); clear HO_6; clear HO322; clear HB; have HO_6 := n0_; have HO322 := n1_; have HO326 := n2_; have HB := n3_; clear n0_ n1_ n2_ n3_; (try clear hb); (try clear hb2); (try clear hk); (try clear hi); (try clear ho0); obtain ⟨Ao71, co71, eo71⟩ := Kd.R_slice HO326.out; subst eo71) | ((with_reducible refine gate_callee (f := 56) rfl ?_); refine goesL_ (some 66) rfl rfl Try.func56 (by kernel_rfl) rfl #[.slice Ao71 t323.length co71] rfl (by (try simp only [List.map_toArray, List.map_cons, List.map_nil]); first | done | rfl | (simp only [List.length_drop, List.length_take]; rfl)) ?_; (with_reducible refine (impl_WeightOf.calls kj7 _ _ t323 t327 t328 _ ?side1 ?side2 A22.out).mono ?_); (case side1 => repeat (first | exact (Kd.R_reads' HO326.out).2.2 | (with_reducible refine Kd.C_alloc ?_ _) | (with_reducible refine Kd.C_drewN ?_ _) | (with_reducible refine Kd.C_drew ?_))); (case side2 => exact (Kd.R_reads' HO326.out).2.1); rintro e w' ⟨rfl, ⟨nd, rfl⟩⟩; refine ⟨_, rfl, ?_⟩))
                go_ret
                exact ⟨by first | rfl | (simp [errW_none, errW_some] <;> rfl) | (simp [*, errW_none, errW_some] <;> rfl), by repeat (first | (with_reducible first | exact HB.out | apply below_alloc | apply pw_below_drewN | apply below_drew1) | exact HB.out)⟩
            · replace c19 := Bool.eq_false_iff.mpr c19
              subst c19
              have H1 : (laws_FnMultiplesByAdders.j1 kj7 l1 (wrap64 ((Int.tmod t318 2001) - 1000))) = some r := by rw [if_neg (show ¬ (false = true) by decide)] at H; exact H
              clear H
              have H := H1
              clear H1
              have H' := Aside0.mk H
              clear H
              go_wp2
              go_meet
              case rel => exact ⟨_, H', ⟨by have := HJ7.out; first | omega | exact Nat.le_refl _⟩, ⟨by repeat (first | (with_reducible first | exact HB.out | apply below_alloc | apply pw_below_drewN | apply below_drew1) | exact HB.out)⟩⟩
          case rest =>
            clear HC18
            try clear c1
            try clear c2
            try clear p2
            try clear c3
            try clear p3
            try clear q3
            try clear hx3
            try clear c4
            try clear c5
            try clear c6
            try clear p6
            try clear c7
            try clear c12
            try clear c12b0
            try clear c12b1
            try clear c12b2
            try clear c13
            try clear c16
            try clear c19
            try clear c23
            try clear c25
            try clear c25b0
            try clear c26
            try clear c26b0
            try clear c27
            try clear c27b0
            try clear c27b1
            try clear c28
            try clear c29
            try clear c30
            try clear c30b0
            try clear c31
            try clear c31b0
            try clear c32
            try clear c32b0
            try clear c32b1
            try clear p32
            try clear q32
            try clear hx32
            try clear c34
            try clear c35
            try clear c37
            try clear c50
            try clear c56
            try clear p64
            try clear c68
            try clear c70
            try clear hx329_0
            try clear p2
            try clear p329
            try clear q329
            obtain ⟨kq, HA, HJ17, HB⟩ := hcut
            cases kq with
            | zero => exact absurd HA.out (by simp [laws_FnMultiplesByAdders.j1])
            | succ kj17 =>
              have H := HA.out
              clear HA
              simp only [laws_FnMultiplesByAdders.j1] at H
              replace H := Option.bind_eq_some_iff.mp H
              obtain ⟨t330, A720, H⟩ := H
              replace H : ((impl_OneAdder.f kj17 t330).bind fun bt331 => ((spec_OneAdder.f kj17 t330).bind fun bt338 => (if (bt331.2.2.2.2.2 != bt338.2.2.2.2.2) = true then (laws_FnMultiplesByAdders.j2 kj17 (wrap64 ((Int.tmod t318 2001) - 1000)) t330 bt331.2.2.2.2.2 true bt331.1 bt331.2.1 bt331.2.2.1 bt331.2.2.2.1 bt331.2.2.2.2.1) else (laws_FnMultiplesByAdders.j2 kj17 (wrap64 ((Int.tmod t318 2001) - 1000)) t330 bt331.2.2.2.2.2 (!(bt331.1 == bt338.1) || (!(bt331.2.1 == bt338.2.1) || (!(bt331.2.2.1 == bt338.2.2.1) || (!(bt331.2.2.2.1 == bt338.2.2.2.1) || (!(bt331.2.2.2.2.1 == bt338.2.2.2.2.1)))))) bt331.1 bt331.2.1 bt331.2.2.1 bt331.2.2.2.1 bt331.2.2.2.2.1)))) = some r := H
              have A72 := Aside0.mk A720
              clear A720
              replace H := Option.bind_eq_some_iff.mp H
              obtain ⟨⟨t331, t332, t333, t334, t335, t336⟩, A730, H⟩ := H
              replace H : ((spec_OneAdder.f kj17 t330).bind fun bt338 => (if (t336 != bt338.2.2.2.2.2) = true then (laws_FnMultiplesByAdders.j2 kj17 (wrap64 ((Int.tmod t318 2001) - 1000)) t330 t336 true t331 t332 t333 t334 t335) else (laws_FnMultiplesByAdders.j2 kj17 (wrap64 ((Int.tmod t318 2001) - 1000)) t330 t336 (!(t331 == bt338.1) || (!(t332 == bt338.2.1) || (!(t333 == bt338.2.2.1) || (!(t334 == bt338.2.2.2.1) || (!(t335 == bt338.2.2.2.2.1)))))) t331 t332 t333 t334 t335))) = some r := H
              have A73 := Aside0.mk A730
              clear A730
              replace H := Option.bind_eq_some_iff.mp H
              obtain ⟨⟨t338, t339, t340, t341, t342, t343⟩, A740, H⟩ := H
              replace H : (if (t336 != t343) = true then (laws_FnMultiplesByAdders.j2 kj17 (wrap64 ((Int.tmod t318 2001) - 1000)) t330 t336 true t331 t332 t333 t334 t335) else (laws_FnMultiplesByAdders.j2 kj17 (wrap64 ((Int.tmod t318 2001) - 1000)) t330 t336 (!(t331 == t338) || (!(t332 == t339) || (!(t333 == t340) || (!(t334 == t341) || (!(t335 == t342)))))) t331 t332 t333 t334 t335)) = some r := H
              have A74 := Aside0.mk A740
              clear A740
              have HC75 := Aside0.mk H
              clear H
              go_upto_region 18 with (first | ((with_reducible refine gate_callee (f := 71) rfl ?_); refine goesL_ (some 107) rfl rfl Try.func71 (by kernel_rfl) rfl #[.slice A1 l1.length c1] rfl (by (try simp only [List.map_toArray, List.map_cons, List.map_nil]); first | done | rfl | (simp only [List.length_drop, List.length_take]; rfl)) ?_; (with_reducible refine (spec_DrawOneAdder.calls _ _ l1 t330 _ ?side1 ?side2 A72.out).mono ?_); (case side1 => repeat (first | exact (Kd.C_below HR1.out HB.out) | (with_reducible refine Kd.C_alloc ?_ _) | (with_reducible refine Kd.C_drewN ?_ _) | (with_reducible refine Kd.C_drew ?_))); (case side2 => exact HC1.out); rintro e w76 ⟨rfl, hb⟩; refine ⟨_, rfl, ?_⟩; have n0_ := Aside0.mk (below_step (by repeat (first | (with_reducible first | exact HB.out | apply below_alloc | apply pw_below_drewN | apply below_drew1) | exact HB.out)) hb); clear HB; have HB := n0_; clear n0_; (try clear hb); (try clear hb2); (try clear hk); (try clear hi)) | ((with_reducible refine gate_callee (f := 72) rfl ?_); refine goesL_ (some 110) rfl rfl Try.func72 (by kernel_rfl) rfl #[.int .i64 t330] rfl (by (try simp only [List.map_toArray, List.map_cons, List.map_nil]); first | done | rfl | (simp only [List.length_drop, List.length_take]; rfl)) ?_; (with_reducible refine (impl_OneAdder.calls kj17 t330 t331 t332 t333 t334 t335 t336 _ A73.out).mono ?_); rintro e w77 ⟨rfl, hb⟩; refine ⟨_, rfl, ?_⟩; have n0_ := Aside0.mk (below_step (by repeat (first | (with_reducible first | exact HB.out | apply below_alloc | apply pw_below_drewN | apply below_drew1) | exact HB.out)) hb); clear HB; have HB := n0_; clear n0_; (try clear hb); (try clear hb2); (try clear hk); (try clear hi)) | ((with_reducible refine gate_dst (N := 18) rfl ?_); (try (refine gate_guard (by rfl) ?_; dsimp only)); refine box_event ?hg (N := 18) ?hd (cs := #[.int .i64 0, .int .i64 0, .int .i64 0, .int .i64 0, .bool false]) (t := 69) ?hr ?_; (case hd => rfl); (case hg => rfl); (case hr => first | (go_simp; done) | (go_simp; rfl)); intro gb337 hg w78 hbox hb; have n0_ := Aside0.mk (below_step (by repeat (first | (with_reducible first | exact HB.out | apply below_alloc | apply pw_below_drewN | apply below_drew1) | exact HB.out)) hb); have n1_ := Aside0.mk (hbox); have n2_ := Aside0.mk ((by rw [hg]; exact (below_size (by repeat (first | (with_reducible first | exact HB.out | apply below_alloc | apply pw_below_drewN | apply below_drew1) | exact HB.out))) : w.heap.size ≤ gb337)); have n3_ := Aside0.mk ((by rw [hg]; exact (below_size (by repeat (first | (with_reducible first | exact HB.out | apply below_alloc | apply pw_below_drewN | apply below_drew1) | exact HB.out))) : w.heap.size ≤ gb337)); clear HB; have HB := n0_; have BK337 := n1_; have GW337 := n2_; have GE337 := n3_; clear n0_ n1_ n2_ n3_; clear hb hbox hg; have hcz79_0 : w78.cell? ⟨gb337, 0, none⟩ = some (.int .i64 0) := (blk_cell BK337.out 0).trans rfl; have hcz79_1 : w78.cell? ⟨gb337, 1, none⟩ = some (.int .i64 0) := (blk_cell BK337.out 1).trans rfl; have hcz79_2 : w78.cell? ⟨gb337, 2, none⟩ = some (.int .i64 0) := (blk_cell BK337.out 2).trans rfl; have hcz79_3 : w78.cell? ⟨gb337, 3, none⟩ = some (.int .i64 0) := (blk_cell BK337.out 3).trans rfl; have hcz79_4 : w78.cell? ⟨gb337, 4, none⟩ = some (.bool false) := (blk_cell BK337.out 4).trans rfl; have hfz79_0 := blk_frozen BK337.out 0; have hfz79_1 := blk_frozen BK337.out 1; have hfz79_2 := blk_frozen BK337.out 2; have hfz79_3 := blk_frozen BK337.out 3; have hfz79_4 := blk_frozen BK337.out 4) | ((with_reducible refine gate_callee (f := 73) rfl ?_); refine goesL_ (some 115) rfl rfl Try.func73 (by kernel_rfl) rfl #[.int .i64 t330] rfl (by (try simp only [List.map_toArray, List.map_cons, List.map_nil]); first | done | rfl | (simp only [List.length_drop, List.length_take]; rfl)) ?_; (with_reducible refine (spec_OneAdder.calls kj17 t330 t338 t339 t340 t341 t342 t343 _ A74.out).mono ?_); rintro e w80 ⟨rfl, hb⟩; refine ⟨_, rfl, ?_⟩; have n0_ := Aside0.mk (blk_below (g := gb337) (o := .cells #[.int .i64 t331, .int .i64 t332, .int .i64 t333, .int .i64 t334, .bool t335] 69 (0, 0)) (by (with_reducible repeat (first | refine blk_drewN ?_ _ | refine blk_drew ?_ | refine blk_alloc ?_ _)); refine blk_put (cs := #[.int .i64 t331, .int .i64 t332, .int .i64 t333, .int .i64 t334, .bool false]) ?_ 4 _ rfl; (with_reducible repeat (first | refine blk_drewN ?_ _ | refine blk_drew ?_ | refine blk_alloc ?_ _)); refine blk_put (cs := #[.int .i64 t331, .int .i64 t332, .int .i64 t333, .int .i64 0, .bool false]) ?_ 3 _ rfl; (with_reducible repeat (first | refine blk_drewN ?_ _ | refine blk_drew ?_ | refine blk_alloc ?_ _)); refine blk_put (cs := #[.int .i64 t331, .int .i64 t332, .int .i64 0, .int .i64 0, .bool false]) ?_ 2 _ rfl; (with_reducible repeat (first | refine blk_drewN ?_ _ | refine blk_drew ?_ | refine blk_alloc ?_ _)); refine blk_put (cs := #[.int .i64 t331, .int .i64 0, .int .i64 0, .int .i64 0, .bool false]) ?_ 1 _ rfl; (with_reducible repeat (first | refine blk_drewN ?_ _ | refine blk_drew ?_ | refine blk_alloc ?_ _)); refine blk_put (cs := #[.int .i64 0, .int .i64 0, .int .i64 0, .int .i64 0, .bool false]) ?_ 0 _ rfl; (with_reducible repeat (first | refine blk_drewN ?_ _ | refine blk_drew ?_ | refine blk_alloc ?_ _)); exact BK337.out) hb); have n1_ := Aside0.mk (below_step (by repeat (first | (with_reducible first | exact HB.out | apply below_alloc | apply pw_below_drewN | apply below_drew1 | refine below_set ?_ GE337.out) | exact HB.out)) hb); clear BK337; clear HB; have BK337 := n0_; have HB := n1_; clear n0_ n1_; (try clear hb); (try clear hb2); (try clear hk); (try clear hi)) | ((with_reducible refine gate_dst (N := 20) rfl ?_); (try (refine gate_guard (by rfl) ?_; dsimp only)); refine box_event ?hg (N := 20) ?hd (cs := #[.int .i64 0, .int .i64 0, .int .i64 0, .int .i64 0, .bool false]) (t := 69) ?hr ?_; (case hd => rfl); (case hg => rfl); (case hr => first | (go_simp; done) | (go_simp; rfl)); intro gb344 hg w81 hbox hb; have n0_ := Aside0.mk (blk_below (g := gb337) (o := .cells #[.int .i64 t331, .int .i64 t332, .int .i64 t333, .int .i64 t334, .bool t335] 69 (0, 0)) (by (with_reducible repeat (first | refine blk_drewN ?_ _ | refine blk_drew ?_ | refine blk_alloc ?_ _)); exact BK337.out) hb); have n1_ := Aside0.mk (below_step (by repeat (first | (with_reducible first | exact HB.out | apply below_alloc | apply pw_below_drewN | apply below_drew1 | refine below_set ?_ GE337.out) | exact HB.out)) hb); have n2_ := Aside0.mk (hbox); have n3_ := Aside0.mk ((by rw [hg]; exact (below_size (by repeat (first | (with_reducible first | exact HB.out | apply below_alloc | apply pw_below_drewN | apply below_drew1 | refine below_set ?_ GE337.out) | exact HB.out))) : w.heap.size ≤ gb344)); have n4_ := Aside0.mk ((by rw [hg]; exact (below_size (by repeat (first | (with_reducible first | exact HB.out | apply below_alloc | apply pw_below_drewN | apply below_drew1 | refine below_set ?_ GE337.out) | exact HB.out))) : w.heap.size ≤ gb344)); have n5_ := Aside0.mk ((by rw [hg]; exact Nat.ne_of_lt (blk_lt (g := gb337) (o := .cells #[.int .i64 t331, .int .i64 t332, .int .i64 t333, .int .i64 t334, .bool t335] 69 (0, 0)) (by (with_reducible repeat (first | refine blk_drewN ?_ _ | refine blk_drew ?_ | refine blk_alloc ?_ _)); exact BK337.out)) : gb337 ≠ gb344)); have n6_ := Aside0.mk ((by rw [hg]; exact Nat.ne_of_gt (blk_lt (g := gb337) (o := .cells #[.int .i64 t331, .int .i64 t332, .int .i64 t333, .int .i64 t334, .bool t335] 69 (0, 0)) (by (with_reducible repeat (first | refine blk_drewN ?_ _ | refine blk_drew ?_ | refine blk_alloc ?_ _)); exact BK337.out)) : gb344 ≠ gb337)); clear BK337; clear HB; have BK337 := n0_; have HB := n1_; have BK344 := n2_; have GW344 := n3_; have GE344 := n4_; have NB337_344 := n5_; have NB344_337 := n6_; clear n0_ n1_ n2_ n3_ n4_ n5_ n6_; clear hb hbox hg; have hnb82 := NB344_337.out; have hnc82 := NB337_344.out; have hcz83_0 : w81.cell? ⟨gb344, 0, none⟩ = some (.int .i64 0) := (blk_cell BK344.out 0).trans rfl; have hcz83_1 : w81.cell? ⟨gb344, 1, none⟩ = some (.int .i64 0) := (blk_cell BK344.out 1).trans rfl; have hcz83_2 : w81.cell? ⟨gb344, 2, none⟩ = some (.int .i64 0) := (blk_cell BK344.out 2).trans rfl; have hcz83_3 : w81.cell? ⟨gb344, 3, none⟩ = some (.int .i64 0) := (blk_cell BK344.out 3).trans rfl; have hcz83_4 : w81.cell? ⟨gb344, 4, none⟩ = some (.bool false) := (blk_cell BK344.out 4).trans rfl; have hfz83_0 := blk_frozen BK344.out 0; have hfz83_1 := blk_frozen BK344.out 1; have hfz83_2 := blk_frozen BK344.out 2; have hfz83_3 := blk_frozen BK344.out 3; have hfz83_4 := blk_frozen BK344.out 4))
              (try simp only [Act.put, List.setIfInBounds_toArray, List.set_cons_zero, List.set_cons_succ])
              go_cut [125] (fun v125 wc => ∃ (kq : Nat) (x125_74 : Bool), v125 = .bool x125_74 ∧ Aside0 (laws_FnMultiplesByAdders.j2 kq (wrap64 ((Int.tmod t318 2001) - 1000)) t330 t336 x125_74 t331 t332 t333 t334 t335 = some r) ∧ Aside0 (kq ≤ kj17) ∧ Aside0 (wc.heap[gb337]? = some (.cells #[.int .i64 t331, .int .i64 t332, .int .i64 t333, .int .i64 t334, .bool t335] 69 (0, 0))) ∧ Aside0 (wc.heap[gb344]? = some (.cells #[.int .i64 t338, .int .i64 t339, .int .i64 t340, .int .i64 t341, .bool t342] 69 (0, 0))) ∧ Aside0 (Below w.heap.size w wc))
              case first =>
                have H := HC75.out
                clear HC75
                by_cases c84 : (t336 != t343) = true
                · rw [if_pos c84] at H
                  have c84b0 : (t336 != t343) = true := c84
                  (try (have c84b1 : decide (t336 = t343) = false := by simpa using c84))
                  (try (have c84b2 : (t336 == t343) = false := by simpa using c84))
                  (try (have c84b3 : ¬ (t336 = t343) := by simpa using c84))
                  clear c84
                  (first | rw [c84b0] | (simp only [i64_w, i32_w]; rw [c84b0]) | skip)
                  have H' := Aside0.mk H
                  clear H
                  go_wp2
                  go_meet
                  case rel => exact ⟨_, (true), (by first | rfl | (simp; done) | (simp [*]; done)), H', ⟨by have := HJ7.out; have := HJ17.out; first | omega | exact Nat.le_refl _⟩, ⟨by (with_reducible repeat (first | refine blk_drewN ?_ _ | refine blk_drew ?_ | refine blk_alloc ?_ _)); refine blk_far ?_ NB337_344.out _; (with_reducible repeat (first | refine blk_drewN ?_ _ | refine blk_drew ?_ | refine blk_alloc ?_ _)); refine blk_far ?_ NB337_344.out _; (with_reducible repeat (first | refine blk_drewN ?_ _ | refine blk_drew ?_ | refine blk_alloc ?_ _)); refine blk_far ?_ NB337_344.out _; (with_reducible repeat (first | refine blk_drewN ?_ _ | refine blk_drew ?_ | refine blk_alloc ?_ _)); refine blk_far ?_ NB337_344.out _; (with_reducible repeat (first | refine blk_drewN ?_ _ | refine blk_drew ?_ | refine blk_alloc ?_ _)); refine blk_far ?_ NB337_344.out _; (with_reducible repeat (first | refine blk_drewN ?_ _ | refine blk_drew ?_ | refine blk_alloc ?_ _)); exact BK337.out⟩, ⟨by (with_reducible repeat (first | refine blk_drewN ?_ _ | refine blk_drew ?_ | refine blk_alloc ?_ _)); refine blk_put (cs := #[.int .i64 t338, .int .i64 t339, .int .i64 t340, .int .i64 t341, .bool false]) ?_ 4 _ rfl; (with_reducible repeat (first | refine blk_drewN ?_ _ | refine blk_drew ?_ | refine blk_alloc ?_ _)); refine blk_put (cs := #[.int .i64 t338, .int .i64 t339, .int .i64 t340, .int .i64 0, .bool false]) ?_ 3 _ rfl; (with_reducible repeat (first | refine blk_drewN ?_ _ | refine blk_drew ?_ | refine blk_alloc ?_ _)); refine blk_put (cs := #[.int .i64 t338, .int .i64 t339, .int .i64 0, .int .i64 0, .bool false]) ?_ 2 _ rfl; (with_reducible repeat (first | refine blk_drewN ?_ _ | refine blk_drew ?_ | refine blk_alloc ?_ _)); refine blk_put (cs := #[.int .i64 t338, .int .i64 0, .int .i64 0, .int .i64 0, .bool false]) ?_ 1 _ rfl; (with_reducible repeat (first | refine blk_drewN ?_ _ | refine blk_drew ?_ | refine blk_alloc ?_ _)); refine blk_put (cs := #[.int .i64 0, .int .i64 0, .int .i64 0, .int .i64 0, .bool false]) ?_ 0 _ rfl; (with_reducible repeat (first | refine blk_drewN ?_ _ | refine blk_drew ?_ | refine blk_alloc ?_ _)); exact BK344.out⟩, ⟨by repeat (first | (with_reducible first | exact HB.out | apply below_alloc | apply pw_below_drewN | apply below_drew1 | refine below_set ?_ GE337.out | refine below_set ?_ GE344.out) | exact HB.out)⟩⟩
                · rw [if_neg c84] at H
                  have c84b0 : (t336 != t343) = false := by simpa using c84
                  (try (have c84b1 : decide (t336 = t343) = true := by simpa using c84))
                  (try (have c84b2 : (t336 == t343) = true := by simpa using c84))
                  clear c84
                  (first | rw [c84b0] | (simp only [i64_w, i32_w]; rw [c84b0]) | skip)
                  have H' := Aside0.mk H
                  clear H
                  have hnb85 := NB337_344.out
                  have hnc85 := NB344_337.out
                  have hcz86_0 : w81.cell? ⟨gb337, 0, none⟩ = some (.int .i64 t331) := (blk_cell BK337.out 0).trans rfl
                  have hcz86_1 : w81.cell? ⟨gb337, 1, none⟩ = some (.int .i64 t332) := (blk_cell BK337.out 1).trans rfl
                  have hcz86_2 : w81.cell? ⟨gb337, 2, none⟩ = some (.int .i64 t333) := (blk_cell BK337.out 2).trans rfl
                  have hcz86_3 : w81.cell? ⟨gb337, 3, none⟩ = some (.int .i64 t334) := (blk_cell BK337.out 3).trans rfl
                  have hcz86_4 : w81.cell? ⟨gb337, 4, none⟩ = some (.bool t335) := (blk_cell BK337.out 4).trans rfl
                  have hfz86_0 := blk_frozen BK337.out 0
                  have hfz86_1 := blk_frozen BK337.out 1
                  have hfz86_2 := blk_frozen BK337.out 2
                  have hfz86_3 := blk_frozen BK337.out 3
                  have hfz86_4 := blk_frozen BK337.out 4
                  have hcz87_0 : w81.cell? ⟨gb344, 0, none⟩ = some (.int .i64 0) := (blk_cell BK344.out 0).trans rfl
                  have hcz87_1 : w81.cell? ⟨gb344, 1, none⟩ = some (.int .i64 0) := (blk_cell BK344.out 1).trans rfl
                  have hcz87_2 : w81.cell? ⟨gb344, 2, none⟩ = some (.int .i64 0) := (blk_cell BK344.out 2).trans rfl
                  have hcz87_3 : w81.cell? ⟨gb344, 3, none⟩ = some (.int .i64 0) := (blk_cell BK344.out 3).trans rfl
                  have hcz87_4 : w81.cell? ⟨gb344, 4, none⟩ = some (.bool false) := (blk_cell BK344.out 4).trans rfl
                  have hfz87_0 := blk_frozen BK344.out 0
                  have hfz87_1 := blk_frozen BK344.out 1
                  have hfz87_2 := blk_frozen BK344.out 2
                  have hfz87_3 := blk_frozen BK344.out 3
                  have hfz87_4 := blk_frozen BK344.out 4
                  go_wp2
                  go_meet
                  case rel => exact ⟨_, ((!(t331 == t338) || (!(t332 == t339) || (!(t333 == t340) || (!(t334 == t341) || (!(t335 == t342))))))), (by first | rfl | (simp; done) | (simp [*]; done)), H', ⟨by have := HJ7.out; have := HJ17.out; first | omega | exact Nat.le_refl _⟩, ⟨by (with_reducible repeat (first | refine blk_drewN ?_ _ | refine blk_drew ?_ | refine blk_alloc ?_ _)); refine blk_far ?_ NB337_344.out _; (with_reducible repeat (first | refine blk_drewN ?_ _ | refine blk_drew ?_ | refine blk_alloc ?_ _)); refine blk_far ?_ NB337_344.out _; (with_reducible repeat (first | refine blk_drewN ?_ _ | refine blk_drew ?_ | refine blk_alloc ?_ _)); refine blk_far ?_ NB337_344.out _; (with_reducible repeat (first | refine blk_drewN ?_ _ | refine blk_drew ?_ | refine blk_alloc ?_ _)); refine blk_far ?_ NB337_344.out _; (with_reducible repeat (first | refine blk_drewN ?_ _ | refine blk_drew ?_ | refine blk_alloc ?_ _)); refine blk_far ?_ NB337_344.out _; (with_reducible repeat (first | refine blk_drewN ?_ _ | refine blk_drew ?_ | refine blk_alloc ?_ _)); exact BK337.out⟩, ⟨by (with_reducible repeat (first | refine blk_drewN ?_ _ | refine blk_drew ?_ | refine blk_alloc ?_ _)); refine blk_put (cs := #[.int .i64 t338, .int .i64 t339, .int .i64 t340, .int .i64 t341, .bool false]) ?_ 4 _ rfl; (with_reducible repeat (first | refine blk_drewN ?_ _ | refine blk_drew ?_ | refine blk_alloc ?_ _)); refine blk_put (cs := #[.int .i64 t338, .int .i64 t339, .int .i64 t340, .int .i64 0, .bool false]) ?_ 3 _ rfl; (with_reducible repeat (first | refine blk_drewN ?_ _ | refine blk_drew ?_ | refine blk_alloc ?_ _)); refine blk_put (cs := #[.int .i64 t338, .int .i64 t339, .int .i64 0, .int .i64 0, .bool false]) ?_ 2 _ rfl; (with_reducible repeat (first | refine blk_drewN ?_ _ | refine blk_drew ?_ | refine blk_alloc ?_ _)); refine blk_put (cs := #[.int .i64 t338, .int .i64 0, .int .i64 0, .int .i64 0, .bool false]) ?_ 1 _ rfl; (with_reducible repeat (first | refine blk_drewN ?_ _ | refine blk_drew ?_ | refine blk_alloc ?_ _)); refine blk_put (cs := #[.int .i64 0, .int .i64 0, .int .i64 0, .int .i64 0, .bool false]) ?_ 0 _ rfl; (with_reducible repeat (first | refine blk_drewN ?_ _ | refine blk_drew ?_ | refine blk_alloc ?_ _)); exact BK344.out⟩, ⟨by repeat (first | (with_reducible first | exact HB.out | apply below_alloc | apply pw_below_drewN | apply below_drew1 | refine below_set ?_ GE337.out | refine below_set ?_ GE344.out) | exact HB.out)⟩⟩
              case rest =>
                clear HC75
                try clear c1
                try clear c2
                try clear p2
                try clear c3
                try clear p3
                try clear q3
                try clear hx3
                try clear c4
                try clear c5
                try clear c6
                try clear p6
                try clear c7
                try clear c8
                try clear c12
                try clear c12b0
                try clear c12b1
                try clear c12b2
                try clear c13
                try clear c16
                try clear c19
                try clear c23
                try clear c25
                try clear c25b0
                try clear c26
                try clear c26b0
                try clear c27
                try clear c27b0
                try clear c27b1
                try clear c28
                try clear c29
                try clear c30
                try clear c30b0
                try clear c31
                try clear c31b0
                try clear c32
                try clear c32b0
                try clear c32b1
                try clear p32
                try clear q32
                try clear hx32
                try clear c34
                try clear c35
                try clear c37
                try clear c50
                try clear c56
                try clear p64
                try clear c68
                try clear c70
                try clear c71
                try clear c72
                try clear c73
                try clear c82
                try clear c84
                try clear c84b0
                try clear c84b1
                try clear c84b2
                try clear c85
                try clear hcz79_0
                try clear hcz79_1
                try clear hcz79_2
                try clear hcz79_3
                try clear hcz79_4
                try clear hcz83_0
                try clear hcz83_1
                try clear hcz83_2
                try clear hcz83_3
                try clear hcz83_4
                try clear hcz86_0
                try clear hcz86_1
                try clear hcz86_2
                try clear hcz86_3
                try clear hcz86_4
                try clear hcz87_0
                try clear hcz87_1
                try clear hcz87_2
                try clear hcz87_3
                try clear hcz87_4
                try clear hfz79_0
                try clear hfz79_1
                try clear hfz79_2
                try clear hfz79_3
                try clear hfz79_4
                try clear hfz83_0
                try clear hfz83_1
                try clear hfz83_2
                try clear hfz83_3
                try clear hfz83_4
                try clear hfz86_0
                try clear hfz86_1
                try clear hfz86_2
                try clear hfz86_3
                try clear hfz86_4
                try clear hfz87_0
                try clear hfz87_1
                try clear hfz87_2
                try clear hfz87_3
                try clear hfz87_4
                try clear hx329_0
                try clear p2
                try clear p3
                try clear p32
                try clear p329
                try clear p6
                try clear p64
                try clear q3
                try clear q32
                try clear q329
                obtain ⟨kq, x125_74, rfl, HA, HJ74, BK337, BK344, HB⟩ := hcut
                cases kq with
                | zero => exact absurd HA.out (by simp [laws_FnMultiplesByAdders.j2])
                | succ kj74 =>
                  have H := HA.out
                  clear HA
                  simp only [laws_FnMultiplesByAdders.j2] at H
                  by_cases c88 : x125_74 = true
                  · subst c88
                    have H1 : (some false) = some r := by rw [if_pos rfl] at H; exact H
                    clear H
                    have H := H1
                    clear H1
                    obtain rfl := Option.some.inj H
                    go_wp2
                    go_ret
                    exact ⟨by first | rfl | (simp [errW_none, errW_some] <;> rfl) | (simp [*, errW_none, errW_some] <;> rfl), by repeat (first | (with_reducible first | exact HB.out | apply below_alloc | apply pw_below_drewN | apply below_drew1 | refine below_set ?_ GE337.out | refine below_set ?_ GE344.out) | exact HB.out)⟩
                  · replace c88 := Bool.eq_false_iff.mpr c88
                    subst c88
                    have H1 : (if t336 = true then ((impl_RunAdders.f kj74 (([(⟨t331, t332, t333, t334, t335⟩ : S69)] : List (S69))) (wrap64 ((Int.tmod t318 2001) - 1000))).bind fun bt348 => (if bt348.2 = true then (if (bt348.1.length : Int) = 2 then (if 1 < (bt348.1.length : Int) then (some ((rd bt348.1 1) == (wrap64 (t330 * (wrap64 ((Int.tmod t318 2001) - 1000)))))) else (none)) else (some false)) else (some false))) else (some true)) = some r := by rw [if_neg (show ¬ (false = true) by decide)] at H; exact H
                    clear H
                    have H := H1
                    clear H1
                    by_cases c89 : t336 = true
                    · subst c89
                      have H1 : ((impl_RunAdders.f kj74 (([(⟨t331, t332, t333, t334, t335⟩ : S69)] : List (S69))) (wrap64 ((Int.tmod t318 2001) - 1000))).bind fun bt348 => (if bt348.2 = true then (if (bt348.1.length : Int) = 2 then (if 1 < (bt348.1.length : Int) then (some ((rd bt348.1 1) == (wrap64 (t330 * (wrap64 ((Int.tmod t318 2001) - 1000)))))) else (none)) else (some false)) else (some false))) = some r := by rw [if_pos rfl] at H; exact H
                      clear H
                      have H := H1
                      clear H1
                      obtain ⟨y345, hy345⟩ : ∃ y_ : List (S69), y_ = (([(⟨t331, t332, t333, t334, t335⟩ : S69)] : List (S69))) := ⟨_, rfl⟩
                      replace H : ((impl_RunAdders.f kj74 y345 (wrap64 ((Int.tmod t318 2001) - 1000))).bind fun bt348 => (if bt348.2 = true then (if (bt348.1.length : Int) = 2 then (if 1 < (bt348.1.length : Int) then (some ((rd bt348.1 1) == (wrap64 (t330 * (wrap64 ((Int.tmod t318 2001) - 1000)))))) else (none)) else (some false)) else (some false))) = some r := by first | (rw [hy345]; with_reducible exact H) | (have H2_ := (Option.bind_some _ _).symm.trans H; rw [hy345]; with_reducible exact H2_) | (have H2_ := (Option.bind_some _ _).symm.trans H; with_reducible exact H2_) | with_reducible exact H | (rw [hy345]; exact H) | exact H
                      have Ny345 := Aside0.mk hy345
                      clear hy345
                      replace H := Option.bind_eq_some_iff.mp H
                      obtain ⟨⟨t348, t349⟩, A900, H⟩ := H
                      replace H : (if t349 = true then (if (t348.length : Int) = 2 then (if 1 < (t348.length : Int) then (some ((rd t348 1) == (wrap64 (t330 * (wrap64 ((Int.tmod t318 2001) - 1000)))))) else (none)) else (some false)) else (some false)) = some r := H
                      have A90 := Aside0.mk A900
                      clear A900
                      by_cases c91 : t349 = true
                      · subst c91
                        have H1 : (if (t348.length : Int) = 2 then (if 1 < (t348.length : Int) then (some ((rd t348 1) == (wrap64 (t330 * (wrap64 ((Int.tmod t318 2001) - 1000)))))) else (none)) else (some false)) = some r := by rw [if_pos rfl] at H; exact H
                        clear H
                        have H := H1
                        clear H1
                        by_cases c92 : (t348.length : Int) = 2
                        · rw [if_pos c92] at H
                          have c92b0 : ((t348.length : Int) == 2) = true := beq_iff_eq.mpr c92
                          have c92b1 : ((t348.length : Int) != 2) = false := bne_eq_false_iff_eq.mpr c92
                          clear c92
                          by_cases c93 : 1 < (t348.length : Int)
                          · rw [if_pos c93] at H
                            have c93b0 : decide (1 < (t348.length : Int)) = true := decide_eq_true c93
                            have c93b1 : decide (1 < t348.length) = true := decide_eq_true (by omega)
                            clear c93
                            obtain rfl := Option.some.inj H
                            have hnb94 := NB337_344.out
                            have hnc94 := NB344_337.out
                            have hcz95_0 : wc.cell? ⟨gb337, 0, none⟩ = some (.int .i64 t331) := (blk_cell BK337.out 0).trans rfl
                            have hcz95_1 : wc.cell? ⟨gb337, 1, none⟩ = some (.int .i64 t332) := (blk_cell BK337.out 1).trans rfl
                            have hcz95_2 : wc.cell? ⟨gb337, 2, none⟩ = some (.int .i64 t333) := (blk_cell BK337.out 2).trans rfl
                            have hcz95_3 : wc.cell? ⟨gb337, 3, none⟩ = some (.int .i64 t334) := (blk_cell BK337.out 3).trans rfl
                            have hcz95_4 : wc.cell? ⟨gb337, 4, none⟩ = some (.bool t335) := (blk_cell BK337.out 4).trans rfl
                            have hfz95_0 := blk_frozen BK337.out 0
                            have hfz95_1 := blk_frozen BK337.out 1
                            have hfz95_2 := blk_frozen BK337.out 2
                            have hfz95_3 := blk_frozen BK337.out 3
                            have hfz95_4 := blk_frozen BK337.out 4
                            go_wp2_with (first | ((with_reducible refine gate_dst (N := 129) rfl ?_); (try (refine gate_guard (by rfl) ?_; dsimp only)); refine Kd.R_lit k69 _ 69 ?hg (N := 129) ?hd (xs := ([(⟨t331, t332, t333, t334, t335⟩ : S69)] : List (S69))) (inner := [.int .i64 t331, .int .i64 t332, .int .i64 t333, .int .i64 t334, .bool t335]) (ok := fun _ => True) (okp := fun _ => True) ?hr ?hp (fun _ hk => hk) trivial (Below.refl _ _) (Nat.le_refl _) (by simp) ?_; (case hd => rfl); (case hg => rfl); (case hr => first | (go_simp; done) | (go_simp; rfl)); (case hp => exact (Reps.c5 (show Kd.M k69 _ _ _ (⟨t331, t332, t333, t334, t335⟩ : S69) [.int .i64 t331, .int .i64 t332, .int .i64 t333, .int .i64 t334, .bool t335] from (k69_mkM _ _ _ (⟨t331, t332, t333, t334, t335⟩ : S69) )) (Reps.none _ _))); intro v346 w96 ho97 hb hg_ hnew_; clear hg_ hnew_; (first | rw [← Ny345.out] at ho97 | (simp only [Int.reduceToNat] at ho97; rw [← Ny345.out] at ho97)); have n0_ := Aside0.mk (Kd.R_lower (Kd.R_newB (Kd.R_newB ho97 (g := gb337) (o := .cells #[.int .i64 t331, .int .i64 t332, .int .i64 t333, .int .i64 t334, .bool t335] 69 (0, 0)) (by (with_reducible repeat (first | refine blk_drewN ?_ _ | refine blk_drew ?_ | refine blk_alloc ?_ _)); exact BK337.out)) (g := gb344) (o := .cells #[.int .i64 t338, .int .i64 t339, .int .i64 t340, .int .i64 t341, .bool t342] 69 (0, 0)) (by (with_reducible repeat (first | refine blk_drewN ?_ _ | refine blk_drew ?_ | refine blk_alloc ?_ _)); exact BK344.out)) (below_size (by repeat (first | (with_reducible first | exact HB.out | apply below_alloc | apply pw_below_drewN | apply below_drew1 | refine below_set ?_ GE337.out | refine below_set ?_ GE344.out) | exact HB.out)))); have n1_ := Aside0.mk (blk_below (g := gb337) (o := .cells #[.int .i64 t331, .int .i64 t332, .int .i64 t333, .int .i64 t334, .bool t335] 69 (0, 0)) (by (with_reducible repeat (first | refine blk_drewN ?_ _ | refine blk_drew ?_ | refine blk_alloc ?_ _)); exact BK337.out) hb); have n2_ := Aside0.mk (blk_below (g := gb344) (o := .cells #[.int .i64 t338, .int .i64 t339, .int .i64 t340, .int .i64 t341, .bool t342] 69 (0, 0)) (by (with_reducible repeat (first | refine blk_drewN ?_ _ | refine blk_drew ?_ | refine blk_alloc ?_ _)); exact BK344.out) hb); have n3_ := Aside0.mk (below_step (by repeat (first | (with_reducible first | exact HB.out | apply below_alloc | apply pw_below_drewN | apply below_drew1 | refine below_set ?_ GE337.out | refine below_set ?_ GE344.out) | exact HB.out)) hb); clear BK337; clear BK344; clear HB; have HO347 := n0_; have BK337 := n1_; have BK344 := n2_; have HB := n3_; clear n0_ n1_ n2_ n3_; clear hb ho97; obtain ⟨Ao98, co98, eo98⟩ := Kd.R_slice HO347.out; subst eo98) | ((with_reducible refine gate_callee (f := 31) rfl ?_); refine goesL_ (some 131) rfl rfl Try.func31 (by kernel_rfl) rfl #[.slice Ao98 y345.length co98, .int .i64 (wrap64 ((Int.tmod t318 2001) - 1000))] rfl (by (try simp only [List.map_toArray, List.map_cons, List.map_nil]); first | done | rfl | (simp only [List.length_drop, List.length_take]; rfl)) ?_; (with_reducible refine (impl_RunAdders.calls kj74 _ _ y345 (wrap64 ((Int.tmod t318 2001) - 1000)) t348 true _ ?side1 ?side2 A90.out).mono ?_); (case side1 => repeat (first | exact (Kd.R_reads' HO347.out).2.2 | (with_reducible refine Kd.C_alloc ?_ _) | (with_reducible refine Kd.C_drewN ?_ _) | (with_reducible refine Kd.C_drew ?_))); (case side2 => exact (Kd.R_reads' HO347.out).2.1); rintro e w99 ⟨v350, rfl, ho0, hb⟩; refine ⟨_, rfl, ?_⟩; have n0_ := Aside0.mk (Kd.R_below (by (with_reducible repeat (first | apply Kd.R_alloc | apply Kd.R_drewN | apply Kd.R_drew)); exact HO347.out) hb); have n1_ := Aside0.mk (Kd.R_lower ho0 (below_size (by repeat (first | (with_reducible first | exact HB.out | apply below_alloc | apply pw_below_drewN | apply below_drew1 | refine below_set ?_ GE337.out | refine below_set ?_ GE344.out) | exact HB.out)))); have n2_ := Aside0.mk (blk_below (g := gb337) (o := .cells #[.int .i64 t331, .int .i64 t332, .int .i64 t333, .int .i64 t334, .bool t335] 69 (0, 0)) (by (with_reducible repeat (first | refine blk_drewN ?_ _ | refine blk_drew ?_ | refine blk_alloc ?_ _)); exact BK337.out) hb); have n3_ := Aside0.mk (blk_below (g := gb344) (o := .cells #[.int .i64 t338, .int .i64 t339, .int .i64 t340, .int .i64 t341, .bool t342] 69 (0, 0)) (by (with_reducible repeat (first | refine blk_drewN ?_ _ | refine blk_drew ?_ | refine blk_alloc ?_ _)); exact BK344.out) hb); have n4_ := Aside0.mk (below_step (by repeat (first | (with_reducible first | exact HB.out | apply below_alloc | apply pw_below_drewN | apply below_drew1 | refine below_set ?_ GE337.out | refine below_set ?_ GE344.out) | exact HB.out)) hb); clear HO347; clear BK337; clear BK344; clear HB; have HO347 := n0_; have HO351 := n1_; have BK337 := n2_; have BK344 := n3_; have HB := n4_; clear n0_ n1_ n2_ n3_ n4_; (try clear hb); (try clear hb2); (try clear hk); (try clear hi); (try clear ho0); obtain ⟨Ao100, co100, eo100⟩ := Kd.R_slice HO351.out; subst eo100; have p352 : 0 ≤ (1 : Int) := (by omega); have q352 : 1 < (t348.length : Int) := of_decide_eq_true (by first | (with_reducible assumption) | assumption); obtain ⟨ad352, e352, hx352_0⟩ := Kd.at_int (Kd.R_reads' HO351.out).2.2 1 p352 q352; cases e352; (try simp only [show (1 : Int).toNat = 1 from rfl, Nat.reduceMul, Nat.reduceEqDiff, Go.Addr.add, ↓reduceIte] at hx352_0); have qi352 : (1 < t348.length) = True := eq_true (by omega); (try rw [show ((1 : Int)).toNat = 1 from rfl] at hx352_0); replace p352 := eq_true p352; replace q352 := eq_true q352))
                            go_ret
                            exact ⟨by first | rfl | (simp [errW_none, errW_some] <;> rfl) | (simp [*, errW_none, errW_some] <;> rfl), by repeat (first | (with_reducible first | exact HB.out | apply below_alloc | apply pw_below_drewN | apply below_drew1 | refine below_set ?_ GE337.out | refine below_set ?_ GE344.out) | exact HB.out)⟩
                          · rw [if_neg c93] at H
                            exact absurd H (by simp)
                        · rw [if_neg c92] at H
                          have c92b0 : ((t348.length : Int) == 2) = false := beq_eq_false_iff_ne.mpr c92
                          have c92b1 : ((t348.length : Int) != 2) = true := bne_iff_ne.mpr c92
                          obtain rfl := Option.some.inj H
                          have hnb101 := NB337_344.out
                          have hnc101 := NB344_337.out
                          have hcz102_0 : wc.cell? ⟨gb337, 0, none⟩ = some (.int .i64 t331) := (blk_cell BK337.out 0).trans rfl
                          have hcz102_1 : wc.cell? ⟨gb337, 1, none⟩ = some (.int .i64 t332) := (blk_cell BK337.out 1).trans rfl
                          have hcz102_2 : wc.cell? ⟨gb337, 2, none⟩ = some (.int .i64 t333) := (blk_cell BK337.out 2).trans rfl
                          have hcz102_3 : wc.cell? ⟨gb337, 3, none⟩ = some (.int .i64 t334) := (blk_cell BK337.out 3).trans rfl
                          have hcz102_4 : wc.cell? ⟨gb337, 4, none⟩ = some (.bool t335) := (blk_cell BK337.out 4).trans rfl
                          have hfz102_0 := blk_frozen BK337.out 0
                          have hfz102_1 := blk_frozen BK337.out 1
                          have hfz102_2 := blk_frozen BK337.out 2
                          have hfz102_3 := blk_frozen BK337.out 3
                          have hfz102_4 := blk_frozen BK337.out 4
                          go_wp2_with (first | ((with_reducible refine gate_dst (N := 129) rfl ?_); (try (refine gate_guard (by rfl) ?_; dsimp only)); refine Kd.R_lit k69 _ 69 ?hg (N := 129) ?hd (xs := ([(⟨t331, t332, t333, t334, t335⟩ : S69)] : List (S69))) (inner := [.int .i64 t331, .int .i64 t332, .int .i64 t333, .int .i64 t334, .bool t335]) (ok := fun _ => True) (okp := fun _ => True) ?hr ?hp (fun _ hk => hk) trivial (Below.refl _ _) (Nat.le_refl _) (by simp) ?_; (case hd => rfl); (case hg => rfl); (case hr => first | (go_simp; done) | (go_simp; rfl)); (case hp => exact (Reps.c5 (show Kd.M k69 _ _ _ (⟨t331, t332, t333, t334, t335⟩ : S69) [.int .i64 t331, .int .i64 t332, .int .i64 t333, .int .i64 t334, .bool t335] from (k69_mkM _ _ _ (⟨t331, t332, t333, t334, t335⟩ : S69) )) (Reps.none _ _))); intro v346 w103 ho104 hb hg_ hnew_; clear hg_ hnew_; (first | rw [← Ny345.out] at ho104 | (simp only [Int.reduceToNat] at ho104; rw [← Ny345.out] at ho104)); have n0_ := Aside0.mk (Kd.R_lower (Kd.R_newB (Kd.R_newB ho104 (g := gb337) (o := .cells #[.int .i64 t331, .int .i64 t332, .int .i64 t333, .int .i64 t334, .bool t335] 69 (0, 0)) (by (with_reducible repeat (first | refine blk_drewN ?_ _ | refine blk_drew ?_ | refine blk_alloc ?_ _)); exact BK337.out)) (g := gb344) (o := .cells #[.int .i64 t338, .int .i64 t339, .int .i64 t340, .int .i64 t341, .bool t342] 69 (0, 0)) (by (with_reducible repeat (first | refine blk_drewN ?_ _ | refine blk_drew ?_ | refine blk_alloc ?_ _)); exact BK344.out)) (below_size (by repeat (first | (with_reducible first | exact HB.out | apply below_alloc | apply pw_below_drewN | apply below_drew1 | refine below_set ?_ GE337.out | refine below_set ?_ GE344.out) | exact HB.out)))); have n1_ := Aside0.mk (blk_below (g := gb337) (o := .cells #[.int .i64 t331, .int .i64 t332, .int .i64 t333, .int .i64 t334, .bool t335] 69 (0, 0)) (by (with_reducible repeat (first | refine blk_drewN ?_ _ | refine blk_drew ?_ | refine blk_alloc ?_ _)); exact BK337.out) hb); have n2_ := Aside0.mk (blk_below (g := gb344) (o := .cells #[.int .i64 t338, .int .i64 t339, .int .i64 t340, .int .i64 t341, .bool t342] 69 (0, 0)) (by (with_reducible repeat (first | refine blk_drewN ?_ _ | refine blk_drew ?_ | refine blk_alloc ?_ _)); exact BK344.out) hb); have n3_ := Aside0.mk (below_step (by repeat (first | (with_reducible first | exact HB.out | apply below_alloc | apply pw_below_drewN | apply below_drew1 | refine below_set ?_ GE337.out | refine below_set ?_ GE344.out) | exact HB.out)) hb); clear BK337; clear BK344; clear HB; have HO347 := n0_; have BK337 := n1_; have BK344 := n2_; have HB := n3_; clear n0_ n1_ n2_ n3_; clear hb ho104; obtain ⟨Ao105, co105, eo105⟩ := Kd.R_slice HO347.out; subst eo105) | ((with_reducible refine gate_callee (f := 31) rfl ?_); refine goesL_ (some 131) rfl rfl Try.func31 (by kernel_rfl) rfl #[.slice Ao105 y345.length co105, .int .i64 (wrap64 ((Int.tmod t318 2001) - 1000))] rfl (by (try simp only [List.map_toArray, List.map_cons, List.map_nil]); first | done | rfl | (simp only [List.length_drop, List.length_take]; rfl)) ?_; (with_reducible refine (impl_RunAdders.calls kj74 _ _ y345 (wrap64 ((Int.tmod t318 2001) - 1000)) t348 true _ ?side1 ?side2 A90.out).mono ?_); (case side1 => repeat (first | exact (Kd.R_reads' HO347.out).2.2 | (with_reducible refine Kd.C_alloc ?_ _) | (with_reducible refine Kd.C_drewN ?_ _) | (with_reducible refine Kd.C_drew ?_))); (case side2 => exact (Kd.R_reads' HO347.out).2.1); rintro e w106 ⟨v350, rfl, ho0, hb⟩; refine ⟨_, rfl, ?_⟩; have n0_ := Aside0.mk (Kd.R_below (by (with_reducible repeat (first | apply Kd.R_alloc | apply Kd.R_drewN | apply Kd.R_drew)); exact HO347.out) hb); have n1_ := Aside0.mk (Kd.R_lower ho0 (below_size (by repeat (first | (with_reducible first | exact HB.out | apply below_alloc | apply pw_below_drewN | apply below_drew1 | refine below_set ?_ GE337.out | refine below_set ?_ GE344.out) | exact HB.out)))); have n2_ := Aside0.mk (blk_below (g := gb337) (o := .cells #[.int .i64 t331, .int .i64 t332, .int .i64 t333, .int .i64 t334, .bool t335] 69 (0, 0)) (by (with_reducible repeat (first | refine blk_drewN ?_ _ | refine blk_drew ?_ | refine blk_alloc ?_ _)); exact BK337.out) hb); have n3_ := Aside0.mk (blk_below (g := gb344) (o := .cells #[.int .i64 t338, .int .i64 t339, .int .i64 t340, .int .i64 t341, .bool t342] 69 (0, 0)) (by (with_reducible repeat (first | refine blk_drewN ?_ _ | refine blk_drew ?_ | refine blk_alloc ?_ _)); exact BK344.out) hb); have n4_ := Aside0.mk (below_step (by repeat (first | (with_reducible first | exact HB.out | apply below_alloc | apply pw_below_drewN | apply below_drew1 | refine below_set ?_ GE337.out | refine below_set ?_ GE344.out) | exact HB.out)) hb); clear HO347; clear BK337; clear BK344; clear HB; have HO347 := n0_; have HO351 := n1_; have BK337 := n2_; have BK344 := n3_; have HB := n4_; clear n0_ n1_ n2_ n3_ n4_; (try clear hb); (try clear hb2); (try clear hk); (try clear hi); (try clear ho0); obtain ⟨Ao107, co107, eo107⟩ := Kd.R_slice HO351.out; subst eo107))
                          go_ret
                          exact ⟨by first | rfl | (simp [errW_none, errW_some] <;> rfl) | (simp [*, errW_none, errW_some] <;> rfl), by repeat (first | (with_reducible first | exact HB.out | apply below_alloc | apply pw_below_drewN | apply below_drew1 | refine below_set ?_ GE337.out | refine below_set ?_ GE344.out) | exact HB.out)⟩
                      · replace c91 := Bool.eq_false_iff.mpr c91
                        subst c91
                        have H1 : (some false) = some r := by rw [if_neg (show ¬ (false = true) by decide)] at H; exact H
                        clear H
                        have H := H1
                        clear H1
                        obtain rfl := Option.some.inj H
                        have hnb108 := NB337_344.out
                        have hnc108 := NB344_337.out
                        have hcz109_0 : wc.cell? ⟨gb337, 0, none⟩ = some (.int .i64 t331) := (blk_cell BK337.out 0).trans rfl
                        have hcz109_1 : wc.cell? ⟨gb337, 1, none⟩ = some (.int .i64 t332) := (blk_cell BK337.out 1).trans rfl
                        have hcz109_2 : wc.cell? ⟨gb337, 2, none⟩ = some (.int .i64 t333) := (blk_cell BK337.out 2).trans rfl
                        have hcz109_3 : wc.cell? ⟨gb337, 3, none⟩ = some (.int .i64 t334) := (blk_cell BK337.out 3).trans rfl
                        have hcz109_4 : wc.cell? ⟨gb337, 4, none⟩ = some (.bool t335) := (blk_cell BK337.out 4).trans rfl
                        have hfz109_0 := blk_frozen BK337.out 0
                        have hfz109_1 := blk_frozen BK337.out 1
                        have hfz109_2 := blk_frozen BK337.out 2
                        have hfz109_3 := blk_frozen BK337.out 3
                        have hfz109_4 := blk_frozen BK337.out 4
                        go_wp2_with (first | ((with_reducible refine gate_dst (N := 129) rfl ?_); (try (refine gate_guard (by rfl) ?_; dsimp only)); refine Kd.R_lit k69 _ 69 ?hg (N := 129) ?hd (xs := ([(⟨t331, t332, t333, t334, t335⟩ : S69)] : List (S69))) (inner := [.int .i64 t331, .int .i64 t332, .int .i64 t333, .int .i64 t334, .bool t335]) (ok := fun _ => True) (okp := fun _ => True) ?hr ?hp (fun _ hk => hk) trivial (Below.refl _ _) (Nat.le_refl _) (by simp) ?_; (case hd => rfl); (case hg => rfl); (case hr => first | (go_simp; done) | (go_simp; rfl)); (case hp => exact (Reps.c5 (show Kd.M k69 _ _ _ (⟨t331, t332, t333, t334, t335⟩ : S69) [.int .i64 t331, .int .i64 t332, .int .i64 t333, .int .i64 t334, .bool t335] from (k69_mkM _ _ _ (⟨t331, t332, t333, t334, t335⟩ : S69) )) (Reps.none _ _))); intro v346 w110 ho111 hb hg_ hnew_; clear hg_ hnew_; (first | rw [← Ny345.out] at ho111 | (simp only [Int.reduceToNat] at ho111; rw [← Ny345.out] at ho111)); have n0_ := Aside0.mk (Kd.R_lower (Kd.R_newB (Kd.R_newB ho111 (g := gb337) (o := .cells #[.int .i64 t331, .int .i64 t332, .int .i64 t333, .int .i64 t334, .bool t335] 69 (0, 0)) (by (with_reducible repeat (first | refine blk_drewN ?_ _ | refine blk_drew ?_ | refine blk_alloc ?_ _)); exact BK337.out)) (g := gb344) (o := .cells #[.int .i64 t338, .int .i64 t339, .int .i64 t340, .int .i64 t341, .bool t342] 69 (0, 0)) (by (with_reducible repeat (first | refine blk_drewN ?_ _ | refine blk_drew ?_ | refine blk_alloc ?_ _)); exact BK344.out)) (below_size (by repeat (first | (with_reducible first | exact HB.out | apply below_alloc | apply pw_below_drewN | apply below_drew1 | refine below_set ?_ GE337.out | refine below_set ?_ GE344.out) | exact HB.out)))); have n1_ := Aside0.mk (blk_below (g := gb337) (o := .cells #[.int .i64 t331, .int .i64 t332, .int .i64 t333, .int .i64 t334, .bool t335] 69 (0, 0)) (by (with_reducible repeat (first | refine blk_drewN ?_ _ | refine blk_drew ?_ | refine blk_alloc ?_ _)); exact BK337.out) hb); have n2_ := Aside0.mk (blk_below (g := gb344) (o := .cells #[.int .i64 t338, .int .i64 t339, .int .i64 t340, .int .i64 t341, .bool t342] 69 (0, 0)) (by (with_reducible repeat (first | refine blk_drewN ?_ _ | refine blk_drew ?_ | refine blk_alloc ?_ _)); exact BK344.out) hb); have n3_ := Aside0.mk (below_step (by repeat (first | (with_reducible first | exact HB.out | apply below_alloc | apply pw_below_drewN | apply below_drew1 | refine below_set ?_ GE337.out | refine below_set ?_ GE344.out) | exact HB.out)) hb); clear BK337; clear BK344; clear HB; have HO347 := n0_; have BK337 := n1_; have BK344 := n2_; have HB := n3_; clear n0_ n1_ n2_ n3_; clear hb ho111; obtain ⟨Ao112, co112, eo112⟩ := Kd.R_slice HO347.out; subst eo112) | ((with_reducible refine gate_callee (f := 31) rfl ?_); refine goesL_ (some 131) rfl rfl Try.func31 (by kernel_rfl) rfl #[.slice Ao112 y345.length co112, .int .i64 (wrap64 ((Int.tmod t318 2001) - 1000))] rfl (by (try simp only [List.map_toArray, List.map_cons, List.map_nil]); first | done | rfl | (simp only [List.length_drop, List.length_take]; rfl)) ?_; (with_reducible refine (impl_RunAdders.calls kj74 _ _ y345 (wrap64 ((Int.tmod t318 2001) - 1000)) t348 false _ ?side1 ?side2 A90.out).mono ?_); (case side1 => repeat (first | exact (Kd.R_reads' HO347.out).2.2 | (with_reducible refine Kd.C_alloc ?_ _) | (with_reducible refine Kd.C_drewN ?_ _) | (with_reducible refine Kd.C_drew ?_))); (case side2 => exact (Kd.R_reads' HO347.out).2.1); rintro e w113 ⟨v350, rfl, ho0, hb⟩; refine ⟨_, rfl, ?_⟩; have n0_ := Aside0.mk (Kd.R_below (by (with_reducible repeat (first | apply Kd.R_alloc | apply Kd.R_drewN | apply Kd.R_drew)); exact HO347.out) hb); have n1_ := Aside0.mk (Kd.R_lower ho0 (below_size (by repeat (first | (with_reducible first | exact HB.out | apply below_alloc | apply pw_below_drewN | apply below_drew1 | refine below_set ?_ GE337.out | refine below_set ?_ GE344.out) | exact HB.out)))); have n2_ := Aside0.mk (blk_below (g := gb337) (o := .cells #[.int .i64 t331, .int .i64 t332, .int .i64 t333, .int .i64 t334, .bool t335] 69 (0, 0)) (by (with_reducible repeat (first | refine blk_drewN ?_ _ | refine blk_drew ?_ | refine blk_alloc ?_ _)); exact BK337.out) hb); have n3_ := Aside0.mk (blk_below (g := gb344) (o := .cells #[.int .i64 t338, .int .i64 t339, .int .i64 t340, .int .i64 t341, .bool t342] 69 (0, 0)) (by (with_reducible repeat (first | refine blk_drewN ?_ _ | refine blk_drew ?_ | refine blk_alloc ?_ _)); exact BK344.out) hb); have n4_ := Aside0.mk (below_step (by repeat (first | (with_reducible first | exact HB.out | apply below_alloc | apply pw_below_drewN | apply below_drew1 | refine below_set ?_ GE337.out | refine below_set ?_ GE344.out) | exact HB.out)) hb); clear HO347; clear BK337; clear BK344; clear HB; have HO347 := n0_; have HO351 := n1_; have BK337 := n2_; have BK344 := n3_; have HB := n4_; clear n0_ n1_ n2_ n3_ n4_; (try clear hb); (try clear hb2); (try clear hk); (try clear hi); (try clear ho0)))
                        go_ret
                        exact ⟨by first | rfl | (simp [errW_none, errW_some] <;> rfl) | (simp [*, errW_none, errW_some] <;> rfl), by repeat (first | (with_reducible first | exact HB.out | apply below_alloc | apply pw_below_drewN | apply below_drew1 | refine below_set ?_ GE337.out | refine below_set ?_ GE344.out) | exact HB.out)⟩
                    · replace c89 := Bool.eq_false_iff.mpr c89
                      subst c89
                      have H1 : (some true) = some r := by rw [if_neg (show ¬ (false = true) by decide)] at H; exact H
                      clear H
                      have H := H1
                      clear H1
                      obtain rfl := Option.some.inj H
                      go_wp2
                      go_ret
                      exact ⟨by first | rfl | (simp [errW_none, errW_some] <;> rfl) | (simp [*, errW_none, errW_some] <;> rfl), by repeat (first | (with_reducible first | exact HB.out | apply below_alloc | apply pw_below_drewN | apply below_drew1 | refine below_set ?_ GE337.out | refine below_set ?_ GE344.out) | exact HB.out)⟩

/-- THE ONE PURE STATEMENT of laws_FnMultiplesByAdders: yours. -/
def laws_FnMultiplesByAdders.Pure : Prop := ∀ (l0 : List Int) (l1 : List Int), l0.length ≤ maxLen → l0.length * 1 ≤ 140737488351232 → (∀ x ∈ l0, (Lit.int .u8 x).wf = true) → l1.length ≤ maxLen → l1.length * 1 ≤ 140737488351232 → (∀ x ∈ l1, (Lit.int .u8 x).wf = true) → ∃ k, laws_FnMultiplesByAdders.f k l0 l1 = some true
theorem laws_FnMultiplesByAdders.walk (P : laws_FnMultiplesByAdders.Pure) (a0 : Option Addr) (len0 cap0 : Nat) (z0 : List Int) (a1 : Option Addr) (len1 cap1 : Nat) (z1 : List Int) (w : World) (w0 : (a0 = none ∧ len0 = 0 ∧ cap0 = 0 ∧ z0 = []) ∨ ∃ x, a0 = some x ∧ len0 ≤ cap0 ∧ cap0 ≤ maxLen ∧ z0.length = cap0 ∧ (∀ i, i < z0.length → w.cell? (x.add i) = some (.int .u8 (z0.getD i 0))) ∧ ∀ n ∈ z0, (Lit.int .u8 n).wf = true) (y0 : len0 * 1 ≤ 140737488351232) (w1 : (a1 = none ∧ len1 = 0 ∧ cap1 = 0 ∧ z1 = []) ∨ ∃ x, a1 = some x ∧ len1 ≤ cap1 ∧ cap1 ≤ maxLen ∧ z1.length = cap1 ∧ (∀ i, i < z1.length → w.cell? (x.add i) = some (.int .u8 (z1.getD i 0))) ∧ ∀ n ∈ z1, (Lit.int .u8 n).wf = true) (y1 : len1 * 1 ≤ 140737488351232) :
    Calls Try.prog 13 #[.slice a0 len0 cap0, .slice a1 len1 cap1] w fun e w' => e = .returned (.bool true) ∧ Below w.heap.size w w' := by
  obtain ⟨l0, rfl, hr0, hm0, hw0, hc0⟩ := ReadsInt.ofRowC w0
  obtain ⟨l1, rfl, hr1, hm1, hw1, hc1⟩ := ReadsInt.ofRowC w1
  obtain ⟨k, h⟩ := P l0 l1 hm0 y0 hw0 hm1 y1 hw1
  refine (laws_FnMultiplesByAdders.calls k _ _ l0 _ _ l1 true w (Kd.C_of_reads (d := (0 : Int)) (h1 := fun _ => rfl) hr0) hc0 (Kd.C_of_reads (d := (0 : Int)) (h1 := fun _ => rfl) hr1) hc1 h).mono ?_
  rintro e w' ⟨rfl, hd⟩
  exact ⟨rfl, hd⟩

end Go.Proofs.Ytafnnnpcochnnaa.PFnMultiplesByAdders
