-- Written by gprint.py, a program of this session, out of the translation (a changed print).
import Derived.Test.YtdmpgpmdgmejpaaPFnLaddersOfLucasx0
import Derived.Test.YtdmpgpmdgmejpaaPFnLaddersOfLucasx1
import Derived.Test.YtdmpgpmdgmejpaaPFnLaddersOfLucasx2
namespace Go.Proofs.Ytdmpgpmdgmejpaa.PFnLaddersOfLucas
open Go.RowKit Go.Proofs.YtdmpgpmdgmejpaaW.PrintWords Go.Proofs.YtdmpgpmdgmejpaaW.PrintLast Go.Proofs.YtdmpgpmdgmejpaaW.PrintMore
attribute [local go_sem] max2_int min2_int max_two min_two max_three min_three max_four min_four   -- for this text's walks alone
set_option linter.unusedVariables false
set_option linter.unusedSimpArgs false

/-! ### laws_FnLaddersOfLucas: function 10 -/
mutual
def laws_FnLaddersOfLucas.j0 : Nat → List Int → Int → Int → Int → Int → Bool → Bool → Option (Bool)
  | 0, _, _, _, _, _, _, _ => none
  | k + 1, x1, x5, x6, x7, x8, x11, x57 => if x57 = true then (some false) else ((impl_LucasByRule.f k x5 x6 x7).bind fun bt208 => ((spec_LucasByRule.f k x5 x6 x7).bind fun bt210 => (if (bt208.2 != bt210.2) = true then (laws_FnLaddersOfLucas.j1 k x1 x5 x6 x7 x8 x11 true) else (if bt208.1 = bt210.1 then (if bt208.2 = true then (laws_FnLaddersOfLucas.j1 k x1 x5 x6 x7 x8 x11 (bt208.1 != x8)) else (laws_FnLaddersOfLucas.j1 k x1 x5 x6 x7 x8 x11 false)) else (laws_FnLaddersOfLucas.j1 k x1 x5 x6 x7 x8 x11 true)))))
def laws_FnLaddersOfLucas.j1 : Nat → List Int → Int → Int → Int → Int → Bool → Bool → Option (Bool)
  | 0, _, _, _, _, _, _, _ => none
  | k + 1, x1, x5, x6, x7, x8, x11, x87 => if x87 = true then (some false) else (if x11 = true then (if x6 = 0 then (laws_FnLaddersOfLucas.j2 k x1 x5 x6 x7 x8 true) else (laws_FnLaddersOfLucas.j2 k x1 x5 x6 x7 x8 (decide ((wrap64 (x6 + 1)) > 1000000)))) else (laws_FnLaddersOfLucas.j2 k x1 x5 x6 x7 x8 true))
def laws_FnLaddersOfLucas.j2 : Nat → List Int → Int → Int → Int → Int → Bool → Option (Bool)
  | 0, _, _, _, _, _, _ => none
  | k + 1, x1, x5, x6, x7, x8, x98 => if x98 = true then (some true) else ((impl_LucasByLadder.f k x5 (wrap64 (x6 - 1)) x7).bind fun bt212 => ((impl_LucasByLadder.f k x5 (wrap64 (x6 + 1)) x7).bind fun bt214 => ((impl_LucasByLadder.f k x5 (1 + ((x1.length : Int) % 20)) x7).bind fun bt216 => ((impl_LucasByLadder.f k bt216.1 x6 x7).bind fun bt218 => (if bt212.2 = true then (if bt214.2 = true then (if bt216.2 = true then (if bt218.2 = true then ((laws_pMod.f x5 x7).bind fun t220 => ((laws_pMod.f (wrap64 ((wrap64 (t220 * x8)) - bt212.1)) x7).bind fun t221 => (if bt214.1 = t221 then ((impl_LucasByLadder.f k x5 (wrap64 (x6 * (1 + ((x1.length : Int) % 20)))) x7).bind fun bt222 => (if bt222.2 = true then (some (bt222.1 == bt218.1)) else (some true))) else (some false)))) else (some false)) else (some false)) else (some false)) else (some false))))))
end
def laws_FnLaddersOfLucas.f (k : Nat) (l0 : List Int) (l1 : List Int) : Option (Bool) := (laws_big.f l0 l1).bind fun t200 => (if t200 = true then (some true) else ((spec_DrawLucasByLadder.f l0).bind fun bt201 => ((impl_LucasByLadder.f k bt201.1 bt201.2.1 bt201.2.2).bind fun bt204 => ((spec_LucasByLadder.f k bt201.1 bt201.2.1 bt201.2.2).bind fun bt206 => (if (bt204.2 != bt206.2) = true then (laws_FnLaddersOfLucas.j0 k l1 bt201.1 bt201.2.1 bt201.2.2 bt204.1 bt206.2 true) else (laws_FnLaddersOfLucas.j0 k l1 bt201.1 bt201.2.1 bt201.2.2 bt204.1 bt206.2 (bt204.1 != bt206.1)))))))
theorem laws_FnLaddersOfLucas.mono_l : ∀ k, (∀ y0 y1 y2 y3 y4 y5 y6, LeO (laws_FnLaddersOfLucas.j0 k y0 y1 y2 y3 y4 y5 y6) (laws_FnLaddersOfLucas.j0 (k + 1) y0 y1 y2 y3 y4 y5 y6)) ∧ (∀ y0 y1 y2 y3 y4 y5 y6, LeO (laws_FnLaddersOfLucas.j1 k y0 y1 y2 y3 y4 y5 y6) (laws_FnLaddersOfLucas.j1 (k + 1) y0 y1 y2 y3 y4 y5 y6)) ∧ (∀ y0 y1 y2 y3 y4 y5, LeO (laws_FnLaddersOfLucas.j2 k y0 y1 y2 y3 y4 y5) (laws_FnLaddersOfLucas.j2 (k + 1) y0 y1 y2 y3 y4 y5))
  | 0 => ⟨fun _ _ _ _ _ _ _ r h => by simp [laws_FnLaddersOfLucas.j0] at h, fun _ _ _ _ _ _ _ r h => by simp [laws_FnLaddersOfLucas.j1] at h, fun _ _ _ _ _ _ r h => by simp [laws_FnLaddersOfLucas.j2] at h⟩
  | k + 1 => by
    obtain ⟨ih0, ih1, ih2⟩ := laws_FnLaddersOfLucas.mono_l k
    refine ⟨?_, ?_, ?_⟩
    · intro y0 y1 y2 y3 y4 y5 y6
      unfold laws_FnLaddersOfLucas.j0
      repeat' first
      | (with_reducible exact ih0 _ _ _ _ _ _ _)
      | (with_reducible exact ih1 _ _ _ _ _ _ _)
      | (with_reducible exact ih2 _ _ _ _ _ _)
      | (with_reducible exact impl_LucasByLadder.mono _ _ _ _)
      | (with_reducible exact impl_LucasByRule.mono _ _ _ _)
      | (with_reducible exact spec_LucasByLadder.mono _ _ _ _)
      | (with_reducible exact spec_LucasByRule.mono _ _ _ _)
      | (with_reducible exact LeO.refl _)
      | (with_reducible exact LeO.none _)
      | (with_reducible refine LeO.ite ?_ ?_)
      | (with_reducible refine LeO.bind ?_ (fun _ => ?_))
      | exact ih0 _ _ _ _ _ _ _
      | exact ih1 _ _ _ _ _ _ _
      | exact ih2 _ _ _ _ _ _
      | exact impl_LucasByLadder.mono _ _ _ _
      | exact impl_LucasByRule.mono _ _ _ _
      | exact spec_LucasByLadder.mono _ _ _ _
      | exact spec_LucasByRule.mono _ _ _ _
      | exact LeO.none _
      | refine LeO.ite ?_ ?_
      | refine LeO.bind ?_ (fun _ => ?_)
    · intro y0 y1 y2 y3 y4 y5 y6
      unfold laws_FnLaddersOfLucas.j1
      repeat' first
      | (with_reducible exact ih0 _ _ _ _ _ _ _)
      | (with_reducible exact ih1 _ _ _ _ _ _ _)
      | (with_reducible exact ih2 _ _ _ _ _ _)
      | (with_reducible exact impl_LucasByLadder.mono _ _ _ _)
      | (with_reducible exact impl_LucasByRule.mono _ _ _ _)
      | (with_reducible exact spec_LucasByLadder.mono _ _ _ _)
      | (with_reducible exact spec_LucasByRule.mono _ _ _ _)
      | (with_reducible exact LeO.refl _)
      | (with_reducible exact LeO.none _)
      | (with_reducible refine LeO.ite ?_ ?_)
      | (with_reducible refine LeO.bind ?_ (fun _ => ?_))
      | exact ih0 _ _ _ _ _ _ _
      | exact ih1 _ _ _ _ _ _ _
      | exact ih2 _ _ _ _ _ _
      | exact impl_LucasByLadder.mono _ _ _ _
      | exact impl_LucasByRule.mono _ _ _ _
      | exact spec_LucasByLadder.mono _ _ _ _
      | exact spec_LucasByRule.mono _ _ _ _
      | exact LeO.none _
      | refine LeO.ite ?_ ?_
      | refine LeO.bind ?_ (fun _ => ?_)
    · intro y0 y1 y2 y3 y4 y5
      unfold laws_FnLaddersOfLucas.j2
      repeat' first
      | (with_reducible exact ih0 _ _ _ _ _ _ _)
      | (with_reducible exact ih1 _ _ _ _ _ _ _)
      | (with_reducible exact ih2 _ _ _ _ _ _)
      | (with_reducible exact impl_LucasByLadder.mono _ _ _ _)
      | (with_reducible exact impl_LucasByRule.mono _ _ _ _)
      | (with_reducible exact spec_LucasByLadder.mono _ _ _ _)
      | (with_reducible exact spec_LucasByRule.mono _ _ _ _)
      | (with_reducible exact LeO.refl _)
      | (with_reducible exact LeO.none _)
      | (with_reducible refine LeO.ite ?_ ?_)
      | (with_reducible refine LeO.bind ?_ (fun _ => ?_))
      | exact ih0 _ _ _ _ _ _ _
      | exact ih1 _ _ _ _ _ _ _
      | exact ih2 _ _ _ _ _ _
      | exact impl_LucasByLadder.mono _ _ _ _
      | exact impl_LucasByRule.mono _ _ _ _
      | exact spec_LucasByLadder.mono _ _ _ _
      | exact spec_LucasByRule.mono _ _ _ _
      | exact LeO.none _
      | refine LeO.ite ?_ ?_
      | refine LeO.bind ?_ (fun _ => ?_)
theorem laws_FnLaddersOfLucas.mono : ∀ a0 a1 k, LeO (laws_FnLaddersOfLucas.f k a0 a1) (laws_FnLaddersOfLucas.f (k + 1) a0 a1) := by
  intro a0 a1 k
  obtain ⟨ih0, ih1, ih2⟩ := laws_FnLaddersOfLucas.mono_l k
  unfold laws_FnLaddersOfLucas.f
  repeat' first
      | (with_reducible exact ih0 _ _ _ _ _ _ _)
      | (with_reducible exact ih1 _ _ _ _ _ _ _)
      | (with_reducible exact ih2 _ _ _ _ _ _)
      | (with_reducible exact impl_LucasByLadder.mono _ _ _ _)
      | (with_reducible exact impl_LucasByRule.mono _ _ _ _)
      | (with_reducible exact spec_LucasByLadder.mono _ _ _ _)
      | (with_reducible exact spec_LucasByRule.mono _ _ _ _)
      | (with_reducible exact LeO.refl _)
      | (with_reducible exact LeO.none _)
      | (with_reducible refine LeO.ite ?_ ?_)
      | (with_reducible refine LeO.bind ?_ (fun _ => ?_))
      | exact ih0 _ _ _ _ _ _ _
      | exact ih1 _ _ _ _ _ _ _
      | exact ih2 _ _ _ _ _ _
      | exact impl_LucasByLadder.mono _ _ _ _
      | exact impl_LucasByRule.mono _ _ _ _
      | exact spec_LucasByLadder.mono _ _ _ _
      | exact spec_LucasByRule.mono _ _ _ _
      | exact LeO.none _
      | refine LeO.ite ?_ ?_
      | refine LeO.bind ?_ (fun _ => ?_)
set_option maxHeartbeats 8000000 in
set_option maxRecDepth 100000 in
theorem laws_FnLaddersOfLucas.calls (k : Nat) (A0 : Option Addr) (c0 : Nat) (l0 : List Int) (A1 : Option Addr) (c1 : Nat) (l1 : List Int) (r : Bool) (w : World) (hr0 : Kd.C (Kd.int .u8) w A0 l0.length l0) (hc0 : l0.length ≤ c0) (hr1 : Kd.C (Kd.int .u8) w A1 l1.length l1) (hc1 : l1.length ≤ c1) (h : laws_FnLaddersOfLucas.f k l0 l1 = some r) :
    Calls Try.prog 10 #[.slice A0 l0.length c0, .slice A1 l1.length c1] w fun e w' => e = .returned (.bool r) ∧ Below w.heap.size w w' := by
  have HR0 := Aside0.mk hr0
  have HC0 := Aside0.mk hc0
  clear hr0 hc0
  have HR1 := Aside0.mk hr1
  have HC1 := Aside0.mk hc1
  clear hr1 hc1
  have HB := Aside0.mk (Below.refl w.heap.size w)
  have H : ((laws_big.f l0 l1).bind fun t200 => (if t200 = true then (some true) else ((spec_DrawLucasByLadder.f l0).bind fun bt201 => ((impl_LucasByLadder.f k bt201.1 bt201.2.1 bt201.2.2).bind fun bt204 => ((spec_LucasByLadder.f k bt201.1 bt201.2.1 bt201.2.2).bind fun bt206 => (if (bt204.2 != bt206.2) = true then (laws_FnLaddersOfLucas.j0 k l1 bt201.1 bt201.2.1 bt201.2.2 bt204.1 bt206.2 true) else (laws_FnLaddersOfLucas.j0 k l1 bt201.1 bt201.2.1 bt201.2.2 bt204.1 bt206.2 (bt204.1 != bt206.1)))))))) = some r := h
  clear h
  replace H := Option.bind_eq_some_iff.mp H
  obtain ⟨t200, A30, H⟩ := H
  replace H : (if t200 = true then (some true) else ((spec_DrawLucasByLadder.f l0).bind fun bt201 => ((impl_LucasByLadder.f k bt201.1 bt201.2.1 bt201.2.2).bind fun bt204 => ((spec_LucasByLadder.f k bt201.1 bt201.2.1 bt201.2.2).bind fun bt206 => (if (bt204.2 != bt206.2) = true then (laws_FnLaddersOfLucas.j0 k l1 bt201.1 bt201.2.1 bt201.2.2 bt204.1 bt206.2 true) else (laws_FnLaddersOfLucas.j0 k l1 bt201.1 bt201.2.1 bt201.2.2 bt204.1 bt206.2 (bt204.1 != bt206.1))))))) = some r := H
  have A3 := Aside0.mk A30
  clear A30
  by_cases c4 : t200 = true
  · subst c4
    have H1 : (some true) = some r := by rw [if_pos rfl] at H; exact H
    clear H
    have H := H1
    clear H1
    obtain rfl := Option.some.inj H
    go_enter Try.func10, Try.ntmps10
    go_wp2_with (first | ((with_reducible refine gate_callee (f := 31) rfl ?_); refine goesL_ (some 29) rfl rfl Try.func31 (by kernel_rfl) rfl #[.slice A0 l0.length c0, .slice A1 l1.length c1] rfl (by (try simp only [List.map_toArray, List.map_cons, List.map_nil]); first | done | rfl | (simp only [List.length_drop, List.length_take]; rfl)) ?_; (with_reducible refine (laws_big.calls _ _ l0 _ _ l1 true _ ?side1 ?side2 ?side3 ?side4 A3.out).mono ?_); (case side1 => repeat (first | exact HR0.out | (with_reducible refine Kd.C_alloc ?_ _) | (with_reducible refine Kd.C_drewN ?_ _) | (with_reducible refine Kd.C_drew ?_))); (case side2 => exact HC0.out); (case side3 => repeat (first | exact HR1.out | (with_reducible refine Kd.C_alloc ?_ _) | (with_reducible refine Kd.C_drewN ?_ _) | (with_reducible refine Kd.C_drew ?_))); (case side4 => exact HC1.out); rintro e w' ⟨rfl, ⟨nd, rfl⟩⟩; refine ⟨_, rfl, ?_⟩))
    go_ret
    exact ⟨by first | rfl | (simp [errW_none, errW_some] <;> rfl) | (simp [*, errW_none, errW_some] <;> rfl), by repeat (first | (with_reducible first | exact HB.out | apply below_alloc | apply pw_below_drewN | apply below_drew1) | exact HB.out)⟩
  · replace c4 := Bool.eq_false_iff.mpr c4
    subst c4
    have H1 : ((spec_DrawLucasByLadder.f l0).bind fun bt201 => ((impl_LucasByLadder.f k bt201.1 bt201.2.1 bt201.2.2).bind fun bt204 => ((spec_LucasByLadder.f k bt201.1 bt201.2.1 bt201.2.2).bind fun bt206 => (if (bt204.2 != bt206.2) = true then (laws_FnLaddersOfLucas.j0 k l1 bt201.1 bt201.2.1 bt201.2.2 bt204.1 bt206.2 true) else (laws_FnLaddersOfLucas.j0 k l1 bt201.1 bt201.2.1 bt201.2.2 bt204.1 bt206.2 (bt204.1 != bt206.1)))))) = some r := by rw [if_neg (show ¬ (false = true) by decide)] at H; exact H
    clear H
    have H := H1
    clear H1
    replace H := Option.bind_eq_some_iff.mp H
    obtain ⟨⟨t201, t202, t203⟩, A50, H⟩ := H
    replace H : ((impl_LucasByLadder.f k t201 t202 t203).bind fun bt204 => ((spec_LucasByLadder.f k t201 t202 t203).bind fun bt206 => (if (bt204.2 != bt206.2) = true then (laws_FnLaddersOfLucas.j0 k l1 t201 t202 t203 bt204.1 bt206.2 true) else (laws_FnLaddersOfLucas.j0 k l1 t201 t202 t203 bt204.1 bt206.2 (bt204.1 != bt206.1))))) = some r := H
    have A5 := Aside0.mk A50
    clear A50
    replace H := Option.bind_eq_some_iff.mp H
    obtain ⟨⟨t204, t205⟩, A60, H⟩ := H
    replace H : ((spec_LucasByLadder.f k t201 t202 t203).bind fun bt206 => (if (t205 != bt206.2) = true then (laws_FnLaddersOfLucas.j0 k l1 t201 t202 t203 t204 bt206.2 true) else (laws_FnLaddersOfLucas.j0 k l1 t201 t202 t203 t204 bt206.2 (t204 != bt206.1)))) = some r := H
    have A6 := Aside0.mk A60
    clear A60
    replace H := Option.bind_eq_some_iff.mp H
    obtain ⟨⟨t206, t207⟩, A70, H⟩ := H
    replace H : (if (t205 != t207) = true then (laws_FnLaddersOfLucas.j0 k l1 t201 t202 t203 t204 t207 true) else (laws_FnLaddersOfLucas.j0 k l1 t201 t202 t203 t204 t207 (t204 != t206))) = some r := H
    have A7 := Aside0.mk A70
    clear A70
    have HC8 := Aside0.mk H
    clear H
    go_enter Try.func10, Try.ntmps10
    go_upto_region 6 with (first | ((with_reducible refine gate_callee (f := 31) rfl ?_); refine goesL_ (some 29) rfl rfl Try.func31 (by kernel_rfl) rfl #[.slice A0 l0.length c0, .slice A1 l1.length c1] rfl (by (try simp only [List.map_toArray, List.map_cons, List.map_nil]); first | done | rfl | (simp only [List.length_drop, List.length_take]; rfl)) ?_; (with_reducible refine (laws_big.calls _ _ l0 _ _ l1 false _ ?side1 ?side2 ?side3 ?side4 A3.out).mono ?_); (case side1 => repeat (first | exact HR0.out | (with_reducible refine Kd.C_alloc ?_ _) | (with_reducible refine Kd.C_drewN ?_ _) | (with_reducible refine Kd.C_drew ?_))); (case side2 => exact HC0.out); (case side3 => repeat (first | exact HR1.out | (with_reducible refine Kd.C_alloc ?_ _) | (with_reducible refine Kd.C_drewN ?_ _) | (with_reducible refine Kd.C_drew ?_))); (case side4 => exact HC1.out); rintro e w' ⟨rfl, ⟨nd, rfl⟩⟩; refine ⟨_, rfl, ?_⟩) | ((with_reducible refine gate_callee (f := 37) rfl ?_); refine goesL_ (some 32) rfl rfl Try.func37 (by kernel_rfl) rfl #[.slice A0 l0.length c0] rfl (by (try simp only [List.map_toArray, List.map_cons, List.map_nil]); first | done | rfl | (simp only [List.length_drop, List.length_take]; rfl)) ?_; (with_reducible refine (spec_DrawLucasByLadder.calls _ _ l0 t201 t202 t203 _ ?side1 ?side2 A5.out).mono ?_); (case side1 => repeat (first | exact HR0.out | (with_reducible refine Kd.C_alloc ?_ _) | (with_reducible refine Kd.C_drewN ?_ _) | (with_reducible refine Kd.C_drew ?_))); (case side2 => exact HC0.out); rintro e w9 ⟨rfl, hb⟩; refine ⟨_, rfl, ?_⟩; have n0_ := Aside0.mk (below_step (by repeat (first | (with_reducible first | exact HB.out | apply below_alloc | apply pw_below_drewN | apply below_drew1) | exact HB.out)) hb); clear HB; have HB := n0_; clear n0_; (try clear hb); (try clear hb2); (try clear hk); (try clear hi)) | ((with_reducible refine gate_callee (f := 20) rfl ?_); refine goesL_ (some 40) rfl rfl Try.func20 (by kernel_rfl) rfl #[.int .i64 t201, .int .i64 t202, .int .i64 t203] rfl (by (try simp only [List.map_toArray, List.map_cons, List.map_nil]); first | done | rfl | (simp only [List.length_drop, List.length_take]; rfl)) ?_; (with_reducible refine (impl_LucasByLadder.calls k t201 t202 t203 t204 t205 _ A6.out).mono ?_); rintro e w' ⟨rfl, ⟨nd, rfl⟩⟩; refine ⟨_, rfl, ?_⟩) | ((with_reducible refine gate_callee (f := 19) rfl ?_); refine goesL_ (some 47) rfl rfl Try.func19 (by kernel_rfl) rfl #[.int .i64 t201, .int .i64 t202, .int .i64 t203] rfl (by (try simp only [List.map_toArray, List.map_cons, List.map_nil]); first | done | rfl | (simp only [List.length_drop, List.length_take]; rfl)) ?_; (with_reducible refine (spec_LucasByLadder.calls k t201 t202 t203 t206 t207 _ A7.out).mono ?_); rintro e w' ⟨rfl, ⟨nd, rfl⟩⟩; refine ⟨_, rfl, ?_⟩))
    (try simp only [Act.put, List.setIfInBounds_toArray, List.set_cons_zero, List.set_cons_succ])
    go_cut [57] (fun v57 wc => ∃ (kq : Nat) (x57_7 : Bool), v57 = .bool x57_7 ∧ Aside0 (laws_FnLaddersOfLucas.j0 kq l1 t201 t202 t203 t204 t207 x57_7 = some r) ∧ Aside0 (kq ≤ k) ∧ Aside0 (Below w.heap.size w wc))
    case first =>
      have H := HC8.out
      clear HC8
      by_cases c10 : (t205 != t207) = true
      · rw [if_pos c10] at H
        have c10b0 : (t205 != t207) = true := c10
        (try (have c10b1 : decide (t205 = t207) = false := by simpa using c10))
        (try (have c10b2 : (t205 == t207) = false := by simpa using c10))
        (try (have c10b3 : ¬ (t205 = t207) := by simpa using c10))
        clear c10
        (first | rw [c10b0] | (simp only [i64_w, i32_w]; rw [c10b0]) | skip)
        have H' := Aside0.mk H
        clear H
        go_wp2
        go_meet
        case rel => exact ⟨_, (true), (by first | rfl | (simp; done) | (simp [*]; done)), H', ⟨by first | omega | exact Nat.le_refl _⟩, ⟨by repeat (first | (with_reducible first | exact HB.out | apply below_alloc | apply pw_below_drewN | apply below_drew1) | exact HB.out)⟩⟩
      · rw [if_neg c10] at H
        have c10b0 : (t205 != t207) = false := by simpa using c10
        (try (have c10b1 : decide (t205 = t207) = true := by simpa using c10))
        (try (have c10b2 : (t205 == t207) = true := by simpa using c10))
        clear c10
        (first | rw [c10b0] | (simp only [i64_w, i32_w]; rw [c10b0]) | skip)
        have H' := Aside0.mk H
        clear H
        go_wp2
        go_meet
        case rel => exact ⟨_, ((t204 != t206)), (by first | rfl | (simp; done) | (simp [*]; done)), H', ⟨by first | omega | exact Nat.le_refl _⟩, ⟨by repeat (first | (with_reducible first | exact HB.out | apply below_alloc | apply pw_below_drewN | apply below_drew1) | exact HB.out)⟩⟩
    case rest =>
      clear HC8
      try clear c1
      try clear c2
      try clear p2
      try clear c3
      try clear c4
      try clear c10
      try clear c10b0
      try clear c10b1
      try clear c10b2
      obtain ⟨kq, x57_7, rfl, HA, HJ7, HB⟩ := hcut
      cases kq with
      | zero => exact absurd HA.out (by simp [laws_FnLaddersOfLucas.j0])
      | succ kj7 =>
        have H := HA.out
        clear HA
        simp only [laws_FnLaddersOfLucas.j0] at H
        by_cases c11 : x57_7 = true
        · subst c11
          have H1 : (some false) = some r := by rw [if_pos rfl] at H; exact H
          clear H
          have H := H1
          clear H1
          obtain rfl := Option.some.inj H
          go_wp2
          go_ret
          exact ⟨by first | rfl | (simp [errW_none, errW_some] <;> rfl) | (simp [*, errW_none, errW_some] <;> rfl), by repeat (first | (with_reducible first | exact HB.out | apply below_alloc | apply pw_below_drewN | apply below_drew1) | exact HB.out)⟩
        · replace c11 := Bool.eq_false_iff.mpr c11
          subst c11
          have H1 : ((impl_LucasByRule.f kj7 t201 t202 t203).bind fun bt208 => ((spec_LucasByRule.f kj7 t201 t202 t203).bind fun bt210 => (if (bt208.2 != bt210.2) = true then (laws_FnLaddersOfLucas.j1 kj7 l1 t201 t202 t203 t204 t207 true) else (if bt208.1 = bt210.1 then (if bt208.2 = true then (laws_FnLaddersOfLucas.j1 kj7 l1 t201 t202 t203 t204 t207 (bt208.1 != t204)) else (laws_FnLaddersOfLucas.j1 kj7 l1 t201 t202 t203 t204 t207 false)) else (laws_FnLaddersOfLucas.j1 kj7 l1 t201 t202 t203 t204 t207 true))))) = some r := by rw [if_neg (show ¬ (false = true) by decide)] at H; exact H
          clear H
          have H := H1
          clear H1
          replace H := Option.bind_eq_some_iff.mp H
          obtain ⟨⟨t208, t209⟩, A120, H⟩ := H
          replace H : ((spec_LucasByRule.f kj7 t201 t202 t203).bind fun bt210 => (if (t209 != bt210.2) = true then (laws_FnLaddersOfLucas.j1 kj7 l1 t201 t202 t203 t204 t207 true) else (if t208 = bt210.1 then (if t209 = true then (laws_FnLaddersOfLucas.j1 kj7 l1 t201 t202 t203 t204 t207 (t208 != t204)) else (laws_FnLaddersOfLucas.j1 kj7 l1 t201 t202 t203 t204 t207 false)) else (laws_FnLaddersOfLucas.j1 kj7 l1 t201 t202 t203 t204 t207 true)))) = some r := H
          have A12 := Aside0.mk A120
          clear A120
          replace H := Option.bind_eq_some_iff.mp H
          obtain ⟨⟨t210, t211⟩, A130, H⟩ := H
          replace H : (if (t209 != t211) = true then (laws_FnLaddersOfLucas.j1 kj7 l1 t201 t202 t203 t204 t207 true) else (if t208 = t210 then (if t209 = true then (laws_FnLaddersOfLucas.j1 kj7 l1 t201 t202 t203 t204 t207 (t208 != t204)) else (laws_FnLaddersOfLucas.j1 kj7 l1 t201 t202 t203 t204 t207 false)) else (laws_FnLaddersOfLucas.j1 kj7 l1 t201 t202 t203 t204 t207 true))) = some r := H
          have A13 := Aside0.mk A130
          clear A130
          have HC14 := Aside0.mk H
          clear H
          go_upto_region 10 with (first | ((with_reducible refine gate_callee (f := 16) rfl ?_); refine goesL_ (some 62) rfl rfl Try.func16 (by kernel_rfl) rfl #[.int .i64 t201, .int .i64 t202, .int .i64 t203] rfl (by (try simp only [List.map_toArray, List.map_cons, List.map_nil]); first | done | rfl | (simp only [List.length_drop, List.length_take]; rfl)) ?_; (with_reducible refine (impl_LucasByRule.calls kj7 t201 t202 t203 t208 t209 _ A12.out).mono ?_); rintro e w' ⟨rfl, ⟨nd, rfl⟩⟩; refine ⟨_, rfl, ?_⟩) | ((with_reducible refine gate_callee (f := 15) rfl ?_); refine goesL_ (some 69) rfl rfl Try.func15 (by kernel_rfl) rfl #[.int .i64 t201, .int .i64 t202, .int .i64 t203] rfl (by (try simp only [List.map_toArray, List.map_cons, List.map_nil]); first | done | rfl | (simp only [List.length_drop, List.length_take]; rfl)) ?_; (with_reducible refine (spec_LucasByRule.calls kj7 t201 t202 t203 t210 t211 _ A13.out).mono ?_); rintro e w' ⟨rfl, ⟨nd, rfl⟩⟩; refine ⟨_, rfl, ?_⟩))
          (try simp only [Act.put, List.setIfInBounds_toArray, List.set_cons_zero, List.set_cons_succ])
          go_cut [87] (fun v87 wc => ∃ (kq : Nat) (x87_13 : Bool), v87 = .bool x87_13 ∧ Aside0 (laws_FnLaddersOfLucas.j1 kq l1 t201 t202 t203 t204 t207 x87_13 = some r) ∧ Aside0 (kq ≤ kj7) ∧ Aside0 (Below w.heap.size w wc))
          case first =>
            have H := HC14.out
            clear HC14
            by_cases c15 : (t209 != t211) = true
            · rw [if_pos c15] at H
              have c15b0 : (t209 != t211) = true := c15
              (try (have c15b1 : decide (t209 = t211) = false := by simpa using c15))
              (try (have c15b2 : (t209 == t211) = false := by simpa using c15))
              (try (have c15b3 : ¬ (t209 = t211) := by simpa using c15))
              clear c15
              (first | rw [c15b0] | (simp only [i64_w, i32_w]; rw [c15b0]) | skip)
              have H' := Aside0.mk H
              clear H
              go_wp2
              go_meet
              case rel => exact ⟨_, (true), (by first | rfl | (simp; done) | (simp [*]; done)), H', ⟨by have := HJ7.out; first | omega | exact Nat.le_refl _⟩, ⟨by repeat (first | (with_reducible first | exact HB.out | apply below_alloc | apply pw_below_drewN | apply below_drew1) | exact HB.out)⟩⟩
            · rw [if_neg c15] at H
              have c15b0 : (t209 != t211) = false := by simpa using c15
              (try (have c15b1 : decide (t209 = t211) = true := by simpa using c15))
              (try (have c15b2 : (t209 == t211) = true := by simpa using c15))
              clear c15
              (first | rw [c15b0] | (simp only [i64_w, i32_w]; rw [c15b0]) | skip)
              by_cases c16 : t208 = t210
              · rw [if_pos c16] at H
                have c16b0 : (t208 == t210) = true := beq_iff_eq.mpr c16
                have c16b1 : (t208 != t210) = false := bne_eq_false_iff_eq.mpr c16
                clear c16
                by_cases c17 : t209 = true
                · subst c17
                  have H1 : (laws_FnLaddersOfLucas.j1 kj7 l1 t201 t202 t203 t204 t207 (t208 != t204)) = some r := by rw [if_pos rfl] at H; exact H
                  clear H
                  have H := H1
                  clear H1
                  have H' := Aside0.mk H
                  clear H
                  go_wp2
                  go_meet
                  case rel => exact ⟨_, ((t208 != t204)), (by first | rfl | (simp; done) | (simp [*]; done)), H', ⟨by have := HJ7.out; first | omega | exact Nat.le_refl _⟩, ⟨by repeat (first | (with_reducible first | exact HB.out | apply below_alloc | apply pw_below_drewN | apply below_drew1) | exact HB.out)⟩⟩
                · replace c17 := Bool.eq_false_iff.mpr c17
                  subst c17
                  have H1 : (laws_FnLaddersOfLucas.j1 kj7 l1 t201 t202 t203 t204 t207 false) = some r := by rw [if_neg (show ¬ (false = true) by decide)] at H; exact H
                  clear H
                  have H := H1
                  clear H1
                  have H' := Aside0.mk H
                  clear H
                  go_wp2
                  go_meet
                  case rel => exact ⟨_, (false), (by first | rfl | (simp; done) | (simp [*]; done)), H', ⟨by have := HJ7.out; first | omega | exact Nat.le_refl _⟩, ⟨by repeat (first | (with_reducible first | exact HB.out | apply below_alloc | apply pw_below_drewN | apply below_drew1) | exact HB.out)⟩⟩
              · rw [if_neg c16] at H
                have c16b0 : (t208 == t210) = false := beq_eq_false_iff_ne.mpr c16
                have c16b1 : (t208 != t210) = true := bne_iff_ne.mpr c16
                have H' := Aside0.mk H
                clear H
                go_wp2
                go_meet
                case rel => exact ⟨_, (true), (by first | rfl | (simp; done) | (simp [*]; done)), H', ⟨by have := HJ7.out; first | omega | exact Nat.le_refl _⟩, ⟨by repeat (first | (with_reducible first | exact HB.out | apply below_alloc | apply pw_below_drewN | apply below_drew1) | exact HB.out)⟩⟩
          case rest =>
            clear HC14
            try clear c1
            try clear c2
            try clear p2
            try clear c3
            try clear c4
            try clear c10
            try clear c10b0
            try clear c10b1
            try clear c10b2
            try clear c11
            try clear c15
            try clear c15b0
            try clear c15b1
            try clear c15b2
            try clear c16
            try clear c16b0
            try clear c16b1
            try clear c17
            try clear p2
            obtain ⟨kq, x87_13, rfl, HA, HJ13, HB⟩ := hcut
            cases kq with
            | zero => exact absurd HA.out (by simp [laws_FnLaddersOfLucas.j1])
            | succ kj13 =>
              have H := HA.out
              clear HA
              simp only [laws_FnLaddersOfLucas.j1] at H
              by_cases c18 : x87_13 = true
              · subst c18
                have H1 : (some false) = some r := by rw [if_pos rfl] at H; exact H
                clear H
                have H := H1
                clear H1
                obtain rfl := Option.some.inj H
                go_wp2
                go_ret
                exact ⟨by first | rfl | (simp [errW_none, errW_some] <;> rfl) | (simp [*, errW_none, errW_some] <;> rfl), by repeat (first | (with_reducible first | exact HB.out | apply below_alloc | apply pw_below_drewN | apply below_drew1) | exact HB.out)⟩
              · replace c18 := Bool.eq_false_iff.mpr c18
                subst c18
                have H1 : (if t207 = true then (if t202 = 0 then (laws_FnLaddersOfLucas.j2 kj13 l1 t201 t202 t203 t204 true) else (laws_FnLaddersOfLucas.j2 kj13 l1 t201 t202 t203 t204 (decide ((wrap64 (t202 + 1)) > 1000000)))) else (laws_FnLaddersOfLucas.j2 kj13 l1 t201 t202 t203 t204 true)) = some r := by rw [if_neg (show ¬ (false = true) by decide)] at H; exact H
                clear H
                have H := H1
                clear H1
                have HC19 := Aside0.mk H
                clear H
                go_upto_region 12 with (fail)
                go_cut [98] (fun v98 wc => ∃ (kq : Nat) (x98_18 : Bool), v98 = .bool x98_18 ∧ Aside0 (laws_FnLaddersOfLucas.j2 kq l1 t201 t202 t203 t204 x98_18 = some r) ∧ Aside0 (kq ≤ kj13) ∧ Aside0 (Below w.heap.size w wc))
                case first =>
                  have H := HC19.out
                  clear HC19
                  by_cases c20 : t207 = true
                  · subst c20
                    have H1 : (if t202 = 0 then (laws_FnLaddersOfLucas.j2 kj13 l1 t201 t202 t203 t204 true) else (laws_FnLaddersOfLucas.j2 kj13 l1 t201 t202 t203 t204 (decide ((wrap64 (t202 + 1)) > 1000000)))) = some r := by rw [if_pos rfl] at H; exact H
                    clear H
                    have H := H1
                    clear H1
                    by_cases c21 : t202 = 0
                    · rw [if_pos c21] at H
                      have c21b0 : (t202 == 0) = true := beq_iff_eq.mpr c21
                      have c21b1 : (t202 != 0) = false := bne_eq_false_iff_eq.mpr c21
                      clear c21
                      (first | rw [c21b0] | (simp only [i64_w, i32_w]; rw [c21b0]) | skip)
                      have H' := Aside0.mk H
                      clear H
                      go_wp2
                      go_meet
                      case rel => exact ⟨_, (true), (by first | rfl | (simp; done) | (simp [*]; done)), H', ⟨by have := HJ7.out; have := HJ13.out; first | omega | exact Nat.le_refl _⟩, ⟨by repeat (first | (with_reducible first | exact HB.out | apply below_alloc | apply pw_below_drewN | apply below_drew1) | exact HB.out)⟩⟩
                    · rw [if_neg c21] at H
                      have c21b0 : (t202 == 0) = false := beq_eq_false_iff_ne.mpr c21
                      have c21b1 : (t202 != 0) = true := bne_iff_ne.mpr c21
                      (first | rw [c21b0] | (simp only [i64_w, i32_w]; rw [c21b0]) | skip)
                      have H' := Aside0.mk H
                      clear H
                      go_wp2
                      go_meet
                      case rel => exact ⟨_, (decide ((wrap64 (t202 + 1)) > 1000000)), (by first | rfl | (simp; done) | (simp [*]; done)), H', ⟨by have := HJ7.out; have := HJ13.out; first | omega | exact Nat.le_refl _⟩, ⟨by repeat (first | (with_reducible first | exact HB.out | apply below_alloc | apply pw_below_drewN | apply below_drew1) | exact HB.out)⟩⟩
                  · replace c20 := Bool.eq_false_iff.mpr c20
                    subst c20
                    have H1 : (laws_FnLaddersOfLucas.j2 kj13 l1 t201 t202 t203 t204 true) = some r := by rw [if_neg (show ¬ (false = true) by decide)] at H; exact H
                    clear H
                    have H := H1
                    clear H1
                    have H' := Aside0.mk H
                    clear H
                    go_wp2
                    go_meet
                    case rel => exact ⟨_, (true), (by first | rfl | (simp; done) | (simp [*]; done)), H', ⟨by have := HJ7.out; have := HJ13.out; first | omega | exact Nat.le_refl _⟩, ⟨by repeat (first | (with_reducible first | exact HB.out | apply below_alloc | apply pw_below_drewN | apply below_drew1) | exact HB.out)⟩⟩
                case rest =>
                  clear HC19
                  try clear c1
                  try clear c2
                  try clear p2
                  try clear c3
                  try clear c4
                  try clear p6
                  try clear c10
                  try clear c10b0
                  try clear c10b1
                  try clear c10b2
                  try clear c11
                  try clear c15
                  try clear c15b0
                  try clear c15b1
                  try clear c15b2
                  try clear c16
                  try clear c16b0
                  try clear c16b1
                  try clear c17
                  try clear c18
                  try clear c19
                  try clear c20
                  try clear c21
                  try clear c21b0
                  try clear c21b1
                  try clear p2
                  obtain ⟨kq, x98_18, rfl, HA, HJ18, HB⟩ := hcut
                  cases kq with
                  | zero => exact absurd HA.out (by simp [laws_FnLaddersOfLucas.j2])
                  | succ kj18 =>
                    have H := HA.out
                    clear HA
                    simp only [laws_FnLaddersOfLucas.j2] at H
                    by_cases c22 : x98_18 = true
                    · subst c22
                      have H1 : (some true) = some r := by rw [if_pos rfl] at H; exact H
                      clear H
                      have H := H1
                      clear H1
                      obtain rfl := Option.some.inj H
                      go_wp2
                      go_ret
                      exact ⟨by first | rfl | (simp [errW_none, errW_some] <;> rfl) | (simp [*, errW_none, errW_some] <;> rfl), by repeat (first | (with_reducible first | exact HB.out | apply below_alloc | apply pw_below_drewN | apply below_drew1) | exact HB.out)⟩
                    · replace c22 := Bool.eq_false_iff.mpr c22
                      subst c22
                      have H1 : ((impl_LucasByLadder.f kj18 t201 (wrap64 (t202 - 1)) t203).bind fun bt212 => ((impl_LucasByLadder.f kj18 t201 (wrap64 (t202 + 1)) t203).bind fun bt214 => ((impl_LucasByLadder.f kj18 t201 (1 + ((l1.length : Int) % 20)) t203).bind fun bt216 => ((impl_LucasByLadder.f kj18 bt216.1 t202 t203).bind fun bt218 => (if bt212.2 = true then (if bt214.2 = true then (if bt216.2 = true then (if bt218.2 = true then ((laws_pMod.f t201 t203).bind fun t220 => ((laws_pMod.f (wrap64 ((wrap64 (t220 * t204)) - bt212.1)) t203).bind fun t221 => (if bt214.1 = t221 then ((impl_LucasByLadder.f kj18 t201 (wrap64 (t202 * (1 + ((l1.length : Int) % 20)))) t203).bind fun bt222 => (if bt222.2 = true then (some (bt222.1 == bt218.1)) else (some true))) else (some false)))) else (some false)) else (some false)) else (some false)) else (some false)))))) = some r := by rw [if_neg (show ¬ (false = true) by decide)] at H; exact H
                      clear H
                      have H := H1
                      clear H1
                      replace H := Option.bind_eq_some_iff.mp H
                      obtain ⟨⟨t212, t213⟩, A230, H⟩ := H
                      replace H : ((impl_LucasByLadder.f kj18 t201 (wrap64 (t202 + 1)) t203).bind fun bt214 => ((impl_LucasByLadder.f kj18 t201 (1 + ((l1.length : Int) % 20)) t203).bind fun bt216 => ((impl_LucasByLadder.f kj18 bt216.1 t202 t203).bind fun bt218 => (if t213 = true then (if bt214.2 = true then (if bt216.2 = true then (if bt218.2 = true then ((laws_pMod.f t201 t203).bind fun t220 => ((laws_pMod.f (wrap64 ((wrap64 (t220 * t204)) - t212)) t203).bind fun t221 => (if bt214.1 = t221 then ((impl_LucasByLadder.f kj18 t201 (wrap64 (t202 * (1 + ((l1.length : Int) % 20)))) t203).bind fun bt222 => (if bt222.2 = true then (some (bt222.1 == bt218.1)) else (some true))) else (some false)))) else (some false)) else (some false)) else (some false)) else (some false))))) = some r := H
                      have A23 := Aside0.mk A230
                      clear A230
                      replace H := Option.bind_eq_some_iff.mp H
                      obtain ⟨⟨t214, t215⟩, A240, H⟩ := H
                      replace H : ((impl_LucasByLadder.f kj18 t201 (1 + ((l1.length : Int) % 20)) t203).bind fun bt216 => ((impl_LucasByLadder.f kj18 bt216.1 t202 t203).bind fun bt218 => (if t213 = true then (if t215 = true then (if bt216.2 = true then (if bt218.2 = true then ((laws_pMod.f t201 t203).bind fun t220 => ((laws_pMod.f (wrap64 ((wrap64 (t220 * t204)) - t212)) t203).bind fun t221 => (if t214 = t221 then ((impl_LucasByLadder.f kj18 t201 (wrap64 (t202 * (1 + ((l1.length : Int) % 20)))) t203).bind fun bt222 => (if bt222.2 = true then (some (bt222.1 == bt218.1)) else (some true))) else (some false)))) else (some false)) else (some false)) else (some false)) else (some false)))) = some r := H
                      have A24 := Aside0.mk A240
                      clear A240
                      replace H := Option.bind_eq_some_iff.mp H
                      obtain ⟨⟨t216, t217⟩, A250, H⟩ := H
                      replace H : ((impl_LucasByLadder.f kj18 t216 t202 t203).bind fun bt218 => (if t213 = true then (if t215 = true then (if t217 = true then (if bt218.2 = true then ((laws_pMod.f t201 t203).bind fun t220 => ((laws_pMod.f (wrap64 ((wrap64 (t220 * t204)) - t212)) t203).bind fun t221 => (if t214 = t221 then ((impl_LucasByLadder.f kj18 t201 (wrap64 (t202 * (1 + ((l1.length : Int) % 20)))) t203).bind fun bt222 => (if bt222.2 = true then (some (bt222.1 == bt218.1)) else (some true))) else (some false)))) else (some false)) else (some false)) else (some false)) else (some false))) = some r := H
                      have A25 := Aside0.mk A250
                      clear A250
                      replace H := Option.bind_eq_some_iff.mp H
                      obtain ⟨⟨t218, t219⟩, A260, H⟩ := H
                      replace H : (if t213 = true then (if t215 = true then (if t217 = true then (if t219 = true then ((laws_pMod.f t201 t203).bind fun t220 => ((laws_pMod.f (wrap64 ((wrap64 (t220 * t204)) - t212)) t203).bind fun t221 => (if t214 = t221 then ((impl_LucasByLadder.f kj18 t201 (wrap64 (t202 * (1 + ((l1.length : Int) % 20)))) t203).bind fun bt222 => (if bt222.2 = true then (some (bt222.1 == t218)) else (some true))) else (some false)))) else (some false)) else (some false)) else (some false)) else (some false)) = some r := H
                      have A26 := Aside0.mk A260
                      clear A260
                      by_cases c27 : t213 = true
                      · subst c27
                        have H1 : (if t215 = true then (if t217 = true then (if t219 = true then ((laws_pMod.f t201 t203).bind fun t220 => ((laws_pMod.f (wrap64 ((wrap64 (t220 * t204)) - t212)) t203).bind fun t221 => (if t214 = t221 then ((impl_LucasByLadder.f kj18 t201 (wrap64 (t202 * (1 + ((l1.length : Int) % 20)))) t203).bind fun bt222 => (if bt222.2 = true then (some (bt222.1 == t218)) else (some true))) else (some false)))) else (some false)) else (some false)) else (some false)) = some r := by rw [if_pos rfl] at H; exact H
                        clear H
                        have H := H1
                        clear H1
                        by_cases c28 : t215 = true
                        · subst c28
                          have H1 : (if t217 = true then (if t219 = true then ((laws_pMod.f t201 t203).bind fun t220 => ((laws_pMod.f (wrap64 ((wrap64 (t220 * t204)) - t212)) t203).bind fun t221 => (if t214 = t221 then ((impl_LucasByLadder.f kj18 t201 (wrap64 (t202 * (1 + ((l1.length : Int) % 20)))) t203).bind fun bt222 => (if bt222.2 = true then (some (bt222.1 == t218)) else (some true))) else (some false)))) else (some false)) else (some false)) = some r := by rw [if_pos rfl] at H; exact H
                          clear H
                          have H := H1
                          clear H1
                          by_cases c29 : t217 = true
                          · subst c29
                            have H1 : (if t219 = true then ((laws_pMod.f t201 t203).bind fun t220 => ((laws_pMod.f (wrap64 ((wrap64 (t220 * t204)) - t212)) t203).bind fun t221 => (if t214 = t221 then ((impl_LucasByLadder.f kj18 t201 (wrap64 (t202 * (1 + ((l1.length : Int) % 20)))) t203).bind fun bt222 => (if bt222.2 = true then (some (bt222.1 == t218)) else (some true))) else (some false)))) else (some false)) = some r := by rw [if_pos rfl] at H; exact H
                            clear H
                            have H := H1
                            clear H1
                            by_cases c30 : t219 = true
                            · subst c30
                              have H1 : ((laws_pMod.f t201 t203).bind fun t220 => ((laws_pMod.f (wrap64 ((wrap64 (t220 * t204)) - t212)) t203).bind fun t221 => (if t214 = t221 then ((impl_LucasByLadder.f kj18 t201 (wrap64 (t202 * (1 + ((l1.length : Int) % 20)))) t203).bind fun bt222 => (if bt222.2 = true then (some (bt222.1 == t218)) else (some true))) else (some false)))) = some r := by rw [if_pos rfl] at H; exact H
                              clear H
                              have H := H1
                              clear H1
                              replace H := Option.bind_eq_some_iff.mp H
                              obtain ⟨t220, A310, H⟩ := H
                              replace H : ((laws_pMod.f (wrap64 ((wrap64 (t220 * t204)) - t212)) t203).bind fun t221 => (if t214 = t221 then ((impl_LucasByLadder.f kj18 t201 (wrap64 (t202 * (1 + ((l1.length : Int) % 20)))) t203).bind fun bt222 => (if bt222.2 = true then (some (bt222.1 == t218)) else (some true))) else (some false))) = some r := H
                              have A31 := Aside0.mk A310
                              clear A310
                              replace H := Option.bind_eq_some_iff.mp H
                              obtain ⟨t221, A320, H⟩ := H
                              replace H : (if t214 = t221 then ((impl_LucasByLadder.f kj18 t201 (wrap64 (t202 * (1 + ((l1.length : Int) % 20)))) t203).bind fun bt222 => (if bt222.2 = true then (some (bt222.1 == t218)) else (some true))) else (some false)) = some r := H
                              have A32 := Aside0.mk A320
                              clear A320
                              by_cases c33 : t214 = t221
                              · rw [if_pos c33] at H
                                have c33b0 : (t214 == t221) = true := beq_iff_eq.mpr c33
                                have c33b1 : (t214 != t221) = false := bne_eq_false_iff_eq.mpr c33
                                clear c33
                                replace H := Option.bind_eq_some_iff.mp H
                                obtain ⟨⟨t222, t223⟩, A340, H⟩ := H
                                replace H : (if t223 = true then (some (t222 == t218)) else (some true)) = some r := H
                                have A34 := Aside0.mk A340
                                clear A340
                                by_cases c35 : t223 = true
                                · subst c35
                                  have H1 : (some (t222 == t218)) = some r := by rw [if_pos rfl] at H; exact H
                                  clear H
                                  have H := H1
                                  clear H1
                                  obtain rfl := Option.some.inj H
                                  go_wp2_with (first | ((with_reducible refine gate_callee (f := 20) rfl ?_); refine goesL_ (some 104) rfl rfl Try.func20 (by kernel_rfl) rfl #[.int .i64 t201, .int .i64 (wrap64 (t202 - 1)), .int .i64 t203] rfl (by (try simp only [List.map_toArray, List.map_cons, List.map_nil]); first | done | rfl | (simp only [List.length_drop, List.length_take]; rfl)) ?_; (with_reducible refine (impl_LucasByLadder.calls kj18 t201 (wrap64 (t202 - 1)) t203 t212 true _ A23.out).mono ?_); rintro e w' ⟨rfl, ⟨nd, rfl⟩⟩; refine ⟨_, rfl, ?_⟩) | ((with_reducible refine gate_callee (f := 20) rfl ?_); refine goesL_ (some 112) rfl rfl Try.func20 (by kernel_rfl) rfl #[.int .i64 t201, .int .i64 (wrap64 (t202 + 1)), .int .i64 t203] rfl (by (try simp only [List.map_toArray, List.map_cons, List.map_nil]); first | done | rfl | (simp only [List.length_drop, List.length_take]; rfl)) ?_; (with_reducible refine (impl_LucasByLadder.calls kj18 t201 (wrap64 (t202 + 1)) t203 t214 true _ A24.out).mono ?_); rintro e w' ⟨rfl, ⟨nd, rfl⟩⟩; refine ⟨_, rfl, ?_⟩) | ((with_reducible refine gate_callee (f := 20) rfl ?_); refine goesL_ (some 123) rfl rfl Try.func20 (by kernel_rfl) rfl #[.int .i64 t201, .int .i64 (1 + ((l1.length : Int) % 20)), .int .i64 t203] rfl (by (try simp only [List.map_toArray, List.map_cons, List.map_nil]); first | done | rfl | (simp only [List.length_drop, List.length_take]; rfl)) ?_; (with_reducible refine (impl_LucasByLadder.calls kj18 t201 (1 + ((l1.length : Int) % 20)) t203 t216 true _ A25.out).mono ?_); rintro e w' ⟨rfl, ⟨nd, rfl⟩⟩; refine ⟨_, rfl, ?_⟩) | ((with_reducible refine gate_callee (f := 20) rfl ?_); refine goesL_ (some 130) rfl rfl Try.func20 (by kernel_rfl) rfl #[.int .i64 t216, .int .i64 t202, .int .i64 t203] rfl (by (try simp only [List.map_toArray, List.map_cons, List.map_nil]); first | done | rfl | (simp only [List.length_drop, List.length_take]; rfl)) ?_; (with_reducible refine (impl_LucasByLadder.calls kj18 t216 t202 t203 t218 true _ A26.out).mono ?_); rintro e w' ⟨rfl, ⟨nd, rfl⟩⟩; refine ⟨_, rfl, ?_⟩) | (go_at_call 33; (with_reducible refine (laws_pMod.calls t201 t203 t220 _ A31.out).mono ?_); rintro e w' ⟨rfl, ⟨nd, rfl⟩⟩) | (go_at_call 33; (with_reducible refine (laws_pMod.calls (wrap64 ((wrap64 (t220 * t204)) - t212)) t203 t221 _ A32.out).mono ?_); rintro e w' ⟨rfl, ⟨nd, rfl⟩⟩) | ((with_reducible refine gate_callee (f := 20) rfl ?_); refine goesL_ (some 166) rfl rfl Try.func20 (by kernel_rfl) rfl #[.int .i64 t201, .int .i64 (wrap64 (t202 * (1 + ((l1.length : Int) % 20)))), .int .i64 t203] rfl (by (try simp only [List.map_toArray, List.map_cons, List.map_nil]); first | done | rfl | (simp only [List.length_drop, List.length_take]; rfl)) ?_; (with_reducible refine (impl_LucasByLadder.calls kj18 t201 (wrap64 (t202 * (1 + ((l1.length : Int) % 20)))) t203 t222 true _ A34.out).mono ?_); rintro e w' ⟨rfl, ⟨nd, rfl⟩⟩; refine ⟨_, rfl, ?_⟩))
                                  go_ret
                                  exact ⟨by first | rfl | (simp [errW_none, errW_some] <;> rfl) | (simp [*, errW_none, errW_some] <;> rfl), by repeat (first | (with_reducible first | exact HB.out | apply below_alloc | apply pw_below_drewN | apply below_drew1) | exact HB.out)⟩
                                · replace c35 := Bool.eq_false_iff.mpr c35
                                  subst c35
                                  have H1 : (some true) = some r := by rw [if_neg (show ¬ (false = true) by decide)] at H; exact H
                                  clear H
                                  have H := H1
                                  clear H1
                                  obtain rfl := Option.some.inj H
                                  go_wp2_with (first | ((with_reducible refine gate_callee (f := 20) rfl ?_); refine goesL_ (some 104) rfl rfl Try.func20 (by kernel_rfl) rfl #[.int .i64 t201, .int .i64 (wrap64 (t202 - 1)), .int .i64 t203] rfl (by (try simp only [List.map_toArray, List.map_cons, List.map_nil]); first | done | rfl | (simp only [List.length_drop, List.length_take]; rfl)) ?_; (with_reducible refine (impl_LucasByLadder.calls kj18 t201 (wrap64 (t202 - 1)) t203 t212 true _ A23.out).mono ?_); rintro e w' ⟨rfl, ⟨nd, rfl⟩⟩; refine ⟨_, rfl, ?_⟩) | ((with_reducible refine gate_callee (f := 20) rfl ?_); refine goesL_ (some 112) rfl rfl Try.func20 (by kernel_rfl) rfl #[.int .i64 t201, .int .i64 (wrap64 (t202 + 1)), .int .i64 t203] rfl (by (try simp only [List.map_toArray, List.map_cons, List.map_nil]); first | done | rfl | (simp only [List.length_drop, List.length_take]; rfl)) ?_; (with_reducible refine (impl_LucasByLadder.calls kj18 t201 (wrap64 (t202 + 1)) t203 t214 true _ A24.out).mono ?_); rintro e w' ⟨rfl, ⟨nd, rfl⟩⟩; refine ⟨_, rfl, ?_⟩) | ((with_reducible refine gate_callee (f := 20) rfl ?_); refine goesL_ (some 123) rfl rfl Try.func20 (by kernel_rfl) rfl #[.int .i64 t201, .int .i64 (1 + ((l1.length : Int) % 20)), .int .i64 t203] rfl (by (try simp only [List.map_toArray, List.map_cons, List.map_nil]); first | done | rfl | (simp only [List.length_drop, List.length_take]; rfl)) ?_; (with_reducible refine (impl_LucasByLadder.calls kj18 t201 (1 + ((l1.length : Int) % 20)) t203 t216 true _ A25.out).mono ?_); rintro e w' ⟨rfl, ⟨nd, rfl⟩⟩; refine ⟨_, rfl, ?_⟩) | ((with_reducible refine gate_callee (f := 20) rfl ?_); refine goesL_ (some 130) rfl rfl Try.func20 (by kernel_rfl) rfl #[.int .i64 t216, .int .i64 t202, .int .i64 t203] rfl (by (try simp only [List.map_toArray, List.map_cons, List.map_nil]); first | done | rfl | (simp only [List.length_drop, List.length_take]; rfl)) ?_; (with_reducible refine (impl_LucasByLadder.calls kj18 t216 t202 t203 t218 true _ A26.out).mono ?_); rintro e w' ⟨rfl, ⟨nd, rfl⟩⟩; refine ⟨_, rfl, ?_⟩) | (go_at_call 33; (with_reducible refine (laws_pMod.calls t201 t203 t220 _ A31.out).mono ?_); rintro e w' ⟨rfl, ⟨nd, rfl⟩⟩) | (go_at_call 33; (with_reducible refine (laws_pMod.calls (wrap64 ((wrap64 (t220 * t204)) - t212)) t203 t221 _ A32.out).mono ?_); rintro e w' ⟨rfl, ⟨nd, rfl⟩⟩) | ((with_reducible refine gate_callee (f := 20) rfl ?_); refine goesL_ (some 166) rfl rfl Try.func20 (by kernel_rfl) rfl #[.int .i64 t201, .int .i64 (wrap64 (t202 * (1 + ((l1.length : Int) % 20)))), .int .i64 t203] rfl (by (try simp only [List.map_toArray, List.map_cons, List.map_nil]); first | done | rfl | (simp only [List.length_drop, List.length_take]; rfl)) ?_; (with_reducible refine (impl_LucasByLadder.calls kj18 t201 (wrap64 (t202 * (1 + ((l1.length : Int) % 20)))) t203 t222 false _ A34.out).mono ?_); rintro e w' ⟨rfl, ⟨nd, rfl⟩⟩; refine ⟨_, rfl, ?_⟩))
                                  go_ret
                                  exact ⟨by first | rfl | (simp [errW_none, errW_some] <;> rfl) | (simp [*, errW_none, errW_some] <;> rfl), by repeat (first | (with_reducible first | exact HB.out | apply below_alloc | apply pw_below_drewN | apply below_drew1) | exact HB.out)⟩
                              · rw [if_neg c33] at H
                                have c33b0 : (t214 == t221) = false := beq_eq_false_iff_ne.mpr c33
                                have c33b1 : (t214 != t221) = true := bne_iff_ne.mpr c33
                                obtain rfl := Option.some.inj H
                                go_wp2_with (first | ((with_reducible refine gate_callee (f := 20) rfl ?_); refine goesL_ (some 104) rfl rfl Try.func20 (by kernel_rfl) rfl #[.int .i64 t201, .int .i64 (wrap64 (t202 - 1)), .int .i64 t203] rfl (by (try simp only [List.map_toArray, List.map_cons, List.map_nil]); first | done | rfl | (simp only [List.length_drop, List.length_take]; rfl)) ?_; (with_reducible refine (impl_LucasByLadder.calls kj18 t201 (wrap64 (t202 - 1)) t203 t212 true _ A23.out).mono ?_); rintro e w' ⟨rfl, ⟨nd, rfl⟩⟩; refine ⟨_, rfl, ?_⟩) | ((with_reducible refine gate_callee (f := 20) rfl ?_); refine goesL_ (some 112) rfl rfl Try.func20 (by kernel_rfl) rfl #[.int .i64 t201, .int .i64 (wrap64 (t202 + 1)), .int .i64 t203] rfl (by (try simp only [List.map_toArray, List.map_cons, List.map_nil]); first | done | rfl | (simp only [List.length_drop, List.length_take]; rfl)) ?_; (with_reducible refine (impl_LucasByLadder.calls kj18 t201 (wrap64 (t202 + 1)) t203 t214 true _ A24.out).mono ?_); rintro e w' ⟨rfl, ⟨nd, rfl⟩⟩; refine ⟨_, rfl, ?_⟩) | ((with_reducible refine gate_callee (f := 20) rfl ?_); refine goesL_ (some 123) rfl rfl Try.func20 (by kernel_rfl) rfl #[.int .i64 t201, .int .i64 (1 + ((l1.length : Int) % 20)), .int .i64 t203] rfl (by (try simp only [List.map_toArray, List.map_cons, List.map_nil]); first | done | rfl | (simp only [List.length_drop, List.length_take]; rfl)) ?_; (with_reducible refine (impl_LucasByLadder.calls kj18 t201 (1 + ((l1.length : Int) % 20)) t203 t216 true _ A25.out).mono ?_); rintro e w' ⟨rfl, ⟨nd, rfl⟩⟩; refine ⟨_, rfl, ?_⟩) | ((with_reducible refine gate_callee (f := 20) rfl ?_); refine goesL_ (some 130) rfl rfl Try.func20 (by kernel_rfl) rfl #[.int .i64 t216, .int .i64 t202, .int .i64 t203] rfl (by (try simp only [List.map_toArray, List.map_cons, List.map_nil]); first | done | rfl | (simp only [List.length_drop, List.length_take]; rfl)) ?_; (with_reducible refine (impl_LucasByLadder.calls kj18 t216 t202 t203 t218 true _ A26.out).mono ?_); rintro e w' ⟨rfl, ⟨nd, rfl⟩⟩; refine ⟨_, rfl, ?_⟩) | (go_at_call 33; (with_reducible refine (laws_pMod.calls t201 t203 t220 _ A31.out).mono ?_); rintro e w' ⟨rfl, ⟨nd, rfl⟩⟩) | (go_at_call 33; (with_reducible refine (laws_pMod.calls (wrap64 ((wrap64 (t220 * t204)) - t212)) t203 t221 _ A32.out).mono ?_); rintro e w' ⟨rfl, ⟨nd, rfl⟩⟩))
                                go_ret
                                exact ⟨by first | rfl | (simp [errW_none, errW_some] <;> rfl) | (simp [*, errW_none, errW_some] <;> rfl), by repeat (first | (with_reducible first | exact HB.out | apply below_alloc | apply pw_below_drewN | apply below_drew1) | exact HB.out)⟩
                            · replace c30 := Bool.eq_false_iff.mpr c30
                              subst c30
                              have H1 : (some false) = some r := by rw [if_neg (show ¬ (false = true) by decide)] at H; exact H
                              clear H
                              have H := H1
                              clear H1
                              obtain rfl := Option.some.inj H
                              go_wp2_with (first | ((with_reducible refine gate_callee (f := 20) rfl ?_); refine goesL_ (some 104) rfl rfl Try.func20 (by kernel_rfl) rfl #[.int .i64 t201, .int .i64 (wrap64 (t202 - 1)), .int .i64 t203] rfl (by (try simp only [List.map_toArray, List.map_cons, List.map_nil]); first | done | rfl | (simp only [List.length_drop, List.length_take]; rfl)) ?_; (with_reducible refine (impl_LucasByLadder.calls kj18 t201 (wrap64 (t202 - 1)) t203 t212 true _ A23.out).mono ?_); rintro e w' ⟨rfl, ⟨nd, rfl⟩⟩; refine ⟨_, rfl, ?_⟩) | ((with_reducible refine gate_callee (f := 20) rfl ?_); refine goesL_ (some 112) rfl rfl Try.func20 (by kernel_rfl) rfl #[.int .i64 t201, .int .i64 (wrap64 (t202 + 1)), .int .i64 t203] rfl (by (try simp only [List.map_toArray, List.map_cons, List.map_nil]); first | done | rfl | (simp only [List.length_drop, List.length_take]; rfl)) ?_; (with_reducible refine (impl_LucasByLadder.calls kj18 t201 (wrap64 (t202 + 1)) t203 t214 true _ A24.out).mono ?_); rintro e w' ⟨rfl, ⟨nd, rfl⟩⟩; refine ⟨_, rfl, ?_⟩) | ((with_reducible refine gate_callee (f := 20) rfl ?_); refine goesL_ (some 123) rfl rfl Try.func20 (by kernel_rfl) rfl #[.int .i64 t201, .int .i64 (1 + ((l1.length : Int) % 20)), .int .i64 t203] rfl (by (try simp only [List.map_toArray, List.map_cons, List.map_nil]); first | done | rfl | (simp only [List.length_drop, List.length_take]; rfl)) ?_; (with_reducible refine (impl_LucasByLadder.calls kj18 t201 (1 + ((l1.length : Int) % 20)) t203 t216 true _ A25.out).mono ?_); rintro e w' ⟨rfl, ⟨nd, rfl⟩⟩; refine ⟨_, rfl, ?_⟩) | ((with_reducible refine gate_callee (f := 20) rfl ?_); refine goesL_ (some 130) rfl rfl Try.func20 (by kernel_rfl) rfl #[.int .i64 t216, .int .i64 t202, .int .i64 t203] rfl (by (try simp only [List.map_toArray, List.map_cons, List.map_nil]); first | done | rfl | (simp only [List.length_drop, List.length_take]; rfl)) ?_; (with_reducible refine (impl_LucasByLadder.calls kj18 t216 t202 t203 t218 false _ A26.out).mono ?_); rintro e w' ⟨rfl, ⟨nd, rfl⟩⟩; refine ⟨_, rfl, ?_⟩))
                              go_ret
                              exact ⟨by first | rfl | (simp [errW_none, errW_some] <;> rfl) | (simp [*, errW_none, errW_some] <;> rfl), by repeat (first | (with_reducible first | exact HB.out | apply below_alloc | apply pw_below_drewN | apply below_drew1) | exact HB.out)⟩
                          · replace c29 := Bool.eq_false_iff.mpr c29
                            subst c29
                            have H1 : (some false) = some r := by rw [if_neg (show ¬ (false = true) by decide)] at H; exact H
                            clear H
                            have H := H1
                            clear H1
                            obtain rfl := Option.some.inj H
                            go_wp2_with (first | ((with_reducible refine gate_callee (f := 20) rfl ?_); refine goesL_ (some 104) rfl rfl Try.func20 (by kernel_rfl) rfl #[.int .i64 t201, .int .i64 (wrap64 (t202 - 1)), .int .i64 t203] rfl (by (try simp only [List.map_toArray, List.map_cons, List.map_nil]); first | done | rfl | (simp only [List.length_drop, List.length_take]; rfl)) ?_; (with_reducible refine (impl_LucasByLadder.calls kj18 t201 (wrap64 (t202 - 1)) t203 t212 true _ A23.out).mono ?_); rintro e w' ⟨rfl, ⟨nd, rfl⟩⟩; refine ⟨_, rfl, ?_⟩) | ((with_reducible refine gate_callee (f := 20) rfl ?_); refine goesL_ (some 112) rfl rfl Try.func20 (by kernel_rfl) rfl #[.int .i64 t201, .int .i64 (wrap64 (t202 + 1)), .int .i64 t203] rfl (by (try simp only [List.map_toArray, List.map_cons, List.map_nil]); first | done | rfl | (simp only [List.length_drop, List.length_take]; rfl)) ?_; (with_reducible refine (impl_LucasByLadder.calls kj18 t201 (wrap64 (t202 + 1)) t203 t214 true _ A24.out).mono ?_); rintro e w' ⟨rfl, ⟨nd, rfl⟩⟩; refine ⟨_, rfl, ?_⟩) | ((with_reducible refine gate_callee (f := 20) rfl ?_); refine goesL_ (some 123) rfl rfl Try.func20 (by kernel_rfl) rfl #[.int .i64 t201, .int .i64 (1 + ((l1.length : Int) % 20)), .int .i64 t203] rfl (by (try simp only [List.map_toArray, List.map_cons, List.map_nil]); first | done | rfl | (simp only [List.length_drop, List.length_take]; rfl)) ?_; (with_reducible refine (impl_LucasByLadder.calls kj18 t201 (1 + ((l1.length : Int) % 20)) t203 t216 false _ A25.out).mono ?_); rintro e w' ⟨rfl, ⟨nd, rfl⟩⟩; refine ⟨_, rfl, ?_⟩) | ((with_reducible refine gate_callee (f := 20) rfl ?_); refine goesL_ (some 130) rfl rfl Try.func20 (by kernel_rfl) rfl #[.int .i64 t216, .int .i64 t202, .int .i64 t203] rfl (by (try simp only [List.map_toArray, List.map_cons, List.map_nil]); first | done | rfl | (simp only [List.length_drop, List.length_take]; rfl)) ?_; (with_reducible refine (impl_LucasByLadder.calls kj18 t216 t202 t203 t218 t219 _ A26.out).mono ?_); rintro e w' ⟨rfl, ⟨nd, rfl⟩⟩; refine ⟨_, rfl, ?_⟩))
                            go_ret
                            exact ⟨by first | rfl | (simp [errW_none, errW_some] <;> rfl) | (simp [*, errW_none, errW_some] <;> rfl), by repeat (first | (with_reducible first | exact HB.out | apply below_alloc | apply pw_below_drewN | apply below_drew1) | exact HB.out)⟩
                        · replace c28 := Bool.eq_false_iff.mpr c28
                          subst c28
                          have H1 : (some false) = some r := by rw [if_neg (show ¬ (false = true) by decide)] at H; exact H
                          clear H
                          have H := H1
                          clear H1
                          obtain rfl := Option.some.inj H
                          go_wp2_with (first | ((with_reducible refine gate_callee (f := 20) rfl ?_); refine goesL_ (some 104) rfl rfl Try.func20 (by kernel_rfl) rfl #[.int .i64 t201, .int .i64 (wrap64 (t202 - 1)), .int .i64 t203] rfl (by (try simp only [List.map_toArray, List.map_cons, List.map_nil]); first | done | rfl | (simp only [List.length_drop, List.length_take]; rfl)) ?_; (with_reducible refine (impl_LucasByLadder.calls kj18 t201 (wrap64 (t202 - 1)) t203 t212 true _ A23.out).mono ?_); rintro e w' ⟨rfl, ⟨nd, rfl⟩⟩; refine ⟨_, rfl, ?_⟩) | ((with_reducible refine gate_callee (f := 20) rfl ?_); refine goesL_ (some 112) rfl rfl Try.func20 (by kernel_rfl) rfl #[.int .i64 t201, .int .i64 (wrap64 (t202 + 1)), .int .i64 t203] rfl (by (try simp only [List.map_toArray, List.map_cons, List.map_nil]); first | done | rfl | (simp only [List.length_drop, List.length_take]; rfl)) ?_; (with_reducible refine (impl_LucasByLadder.calls kj18 t201 (wrap64 (t202 + 1)) t203 t214 false _ A24.out).mono ?_); rintro e w' ⟨rfl, ⟨nd, rfl⟩⟩; refine ⟨_, rfl, ?_⟩) | ((with_reducible refine gate_callee (f := 20) rfl ?_); refine goesL_ (some 123) rfl rfl Try.func20 (by kernel_rfl) rfl #[.int .i64 t201, .int .i64 (1 + ((l1.length : Int) % 20)), .int .i64 t203] rfl (by (try simp only [List.map_toArray, List.map_cons, List.map_nil]); first | done | rfl | (simp only [List.length_drop, List.length_take]; rfl)) ?_; (with_reducible refine (impl_LucasByLadder.calls kj18 t201 (1 + ((l1.length : Int) % 20)) t203 t216 t217 _ A25.out).mono ?_); rintro e w' ⟨rfl, ⟨nd, rfl⟩⟩; refine ⟨_, rfl, ?_⟩) | ((with_reducible refine gate_callee (f := 20) rfl ?_); refine goesL_ (some 130) rfl rfl Try.func20 (by kernel_rfl) rfl #[.int .i64 t216, .int .i64 t202, .int .i64 t203] rfl (by (try simp only [List.map_toArray, List.map_cons, List.map_nil]); first | done | rfl | (simp only [List.length_drop, List.length_take]; rfl)) ?_; (with_reducible refine (impl_LucasByLadder.calls kj18 t216 t202 t203 t218 t219 _ A26.out).mono ?_); rintro e w' ⟨rfl, ⟨nd, rfl⟩⟩; refine ⟨_, rfl, ?_⟩))
                          go_ret
                          exact ⟨by first | rfl | (simp [errW_none, errW_some] <;> rfl) | (simp [*, errW_none, errW_some] <;> rfl), by repeat (first | (with_reducible first | exact HB.out | apply below_alloc | apply pw_below_drewN | apply below_drew1) | exact HB.out)⟩
                      · replace c27 := Bool.eq_false_iff.mpr c27
                        subst c27
                        have H1 : (some false) = some r := by rw [if_neg (show ¬ (false = true) by decide)] at H; exact H
                        clear H
                        have H := H1
                        clear H1
                        obtain rfl := Option.some.inj H
                        go_wp2_with (first | ((with_reducible refine gate_callee (f := 20) rfl ?_); refine goesL_ (some 104) rfl rfl Try.func20 (by kernel_rfl) rfl #[.int .i64 t201, .int .i64 (wrap64 (t202 - 1)), .int .i64 t203] rfl (by (try simp only [List.map_toArray, List.map_cons, List.map_nil]); first | done | rfl | (simp only [List.length_drop, List.length_take]; rfl)) ?_; (with_reducible refine (impl_LucasByLadder.calls kj18 t201 (wrap64 (t202 - 1)) t203 t212 false _ A23.out).mono ?_); rintro e w' ⟨rfl, ⟨nd, rfl⟩⟩; refine ⟨_, rfl, ?_⟩) | ((with_reducible refine gate_callee (f := 20) rfl ?_); refine goesL_ (some 112) rfl rfl Try.func20 (by kernel_rfl) rfl #[.int .i64 t201, .int .i64 (wrap64 (t202 + 1)), .int .i64 t203] rfl (by (try simp only [List.map_toArray, List.map_cons, List.map_nil]); first | done | rfl | (simp only [List.length_drop, List.length_take]; rfl)) ?_; (with_reducible refine (impl_LucasByLadder.calls kj18 t201 (wrap64 (t202 + 1)) t203 t214 t215 _ A24.out).mono ?_); rintro e w' ⟨rfl, ⟨nd, rfl⟩⟩; refine ⟨_, rfl, ?_⟩) | ((with_reducible refine gate_callee (f := 20) rfl ?_); refine goesL_ (some 123) rfl rfl Try.func20 (by kernel_rfl) rfl #[.int .i64 t201, .int .i64 (1 + ((l1.length : Int) % 20)), .int .i64 t203] rfl (by (try simp only [List.map_toArray, List.map_cons, List.map_nil]); first | done | rfl | (simp only [List.length_drop, List.length_take]; rfl)) ?_; (with_reducible refine (impl_LucasByLadder.calls kj18 t201 (1 + ((l1.length : Int) % 20)) t203 t216 t217 _ A25.out).mono ?_); rintro e w' ⟨rfl, ⟨nd, rfl⟩⟩; refine ⟨_, rfl, ?_⟩) | ((with_reducible refine gate_callee (f := 20) rfl ?_); refine goesL_ (some 130) rfl rfl Try.func20 (by kernel_rfl) rfl #[.int .i64 t216, .int .i64 t202, .int .i64 t203] rfl (by (try simp only [List.map_toArray, List.map_cons, List.map_nil]); first | done | rfl | (simp only [List.length_drop, List.length_take]; rfl)) ?_; (with_reducible refine (impl_LucasByLadder.calls kj18 t216 t202 t203 t218 t219 _ A26.out).mono ?_); rintro e w' ⟨rfl, ⟨nd, rfl⟩⟩; refine ⟨_, rfl, ?_⟩))
                        go_ret
                        exact ⟨by first | rfl | (simp [errW_none, errW_some] <;> rfl) | (simp [*, errW_none, errW_some] <;> rfl), by repeat (first | (with_reducible first | exact HB.out | apply below_alloc | apply pw_below_drewN | apply below_drew1) | exact HB.out)⟩

/-- THE ONE PURE STATEMENT of laws_FnLaddersOfLucas: yours. -/
def laws_FnLaddersOfLucas.Pure : Prop := ∀ (l0 : List Int) (l1 : List Int), l0.length ≤ maxLen → l0.length * 1 ≤ 140737488351232 → (∀ x ∈ l0, (Lit.int .u8 x).wf = true) → l1.length ≤ maxLen → l1.length * 1 ≤ 140737488351232 → (∀ x ∈ l1, (Lit.int .u8 x).wf = true) → ∃ k, laws_FnLaddersOfLucas.f k l0 l1 = some true
theorem laws_FnLaddersOfLucas.walk (P : laws_FnLaddersOfLucas.Pure) (a0 : Option Addr) (len0 cap0 : Nat) (z0 : List Int) (a1 : Option Addr) (len1 cap1 : Nat) (z1 : List Int) (w : World) (w0 : (a0 = none ∧ len0 = 0 ∧ cap0 = 0 ∧ z0 = []) ∨ ∃ x, a0 = some x ∧ len0 ≤ cap0 ∧ cap0 ≤ maxLen ∧ z0.length = cap0 ∧ (∀ i, i < z0.length → w.cell? (x.add i) = some (.int .u8 (z0.getD i 0))) ∧ ∀ n ∈ z0, (Lit.int .u8 n).wf = true) (y0 : len0 * 1 ≤ 140737488351232) (w1 : (a1 = none ∧ len1 = 0 ∧ cap1 = 0 ∧ z1 = []) ∨ ∃ x, a1 = some x ∧ len1 ≤ cap1 ∧ cap1 ≤ maxLen ∧ z1.length = cap1 ∧ (∀ i, i < z1.length → w.cell? (x.add i) = some (.int .u8 (z1.getD i 0))) ∧ ∀ n ∈ z1, (Lit.int .u8 n).wf = true) (y1 : len1 * 1 ≤ 140737488351232) :
    Calls Try.prog 10 #[.slice a0 len0 cap0, .slice a1 len1 cap1] w fun e w' => e = .returned (.bool true) ∧ Below w.heap.size w w' := by
  obtain ⟨l0, rfl, hr0, hm0, hw0, hc0⟩ := ReadsInt.ofRowC w0
  obtain ⟨l1, rfl, hr1, hm1, hw1, hc1⟩ := ReadsInt.ofRowC w1
  obtain ⟨k, h⟩ := P l0 l1 hm0 y0 hw0 hm1 y1 hw1
  refine (laws_FnLaddersOfLucas.calls k _ _ l0 _ _ l1 true w (Kd.C_of_reads (d := (0 : Int)) (h1 := fun _ => rfl) hr0) hc0 (Kd.C_of_reads (d := (0 : Int)) (h1 := fun _ => rfl) hr1) hc1 h).mono ?_
  rintro e w' ⟨rfl, hd⟩
  exact ⟨rfl, hd⟩

end Go.Proofs.Ytdmpgpmdgmejpaa.PFnLaddersOfLucas
