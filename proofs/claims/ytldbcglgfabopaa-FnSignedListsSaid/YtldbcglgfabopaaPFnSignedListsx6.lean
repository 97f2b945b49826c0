-- Written by gprint.py, a program of this session, out of the translation (a changed print).
import Derived.Test.YtldbcglgfabopaaPFnSignedListsx0
import Derived.Test.YtldbcglgfabopaaPFnSignedListsx1
import Derived.Test.YtldbcglgfabopaaPFnSignedListsx2
import Derived.Test.YtldbcglgfabopaaPFnSignedListsx3
import Derived.Test.YtldbcglgfabopaaPFnSignedListsx4
import Derived.Test.YtldbcglgfabopaaPFnSignedListsx5
namespace Go.Proofs.Ytldbcglgfabopaa.PFnSignedLists
open Go.RowKit Go.Proofs.YtldbcglgfabopaaW.PrintWords Go.Proofs.YtldbcglgfabopaaW.PrintLast Go.Proofs.YtldbcglgfabopaaW.PrintMore
attribute [local go_sem] max2_int min2_int max_two min_two max_three min_three max_four min_four   -- for this text's walks alone
set_option linter.unusedVariables false
set_option linter.unusedSimpArgs false

/-! ### laws_FnSignedLists: function 4 -/
mutual
def laws_FnSignedLists.j0 : Nat → List Int → Int → Int → List (List Int) → Bool → Int → Bool → Option (Bool)
  | 0, _, _, _, _, _, _, _ => none
  | k + 1, x1, x5, x6, x7, x8, x11, x90 => if x90 = true then (some false) else ((impl_LeastWeight.f x5 x6).bind fun bt255 => (if x8 = true then (if (bt255.2 != (decide (x11 > 0))) = true then (some false) else (laws_FnSignedLists.l0 k x1 x5 x6 x7 bt255.1 bt255.2 false x7 (x7.length : Int) 0)) else (laws_FnSignedLists.j2 k x1)))
def laws_FnSignedLists.j2 : Nat → List Int → Option (Bool)
  | 0, _ => none
  | k + 1, x1 => (spec_DrawCountSigned.f x1).bind fun bt264 => ((impl_CountSigned.f bt264.1 bt264.2).bind fun bt266 => ((spec_CountSigned.f k bt264.1 bt264.2).bind fun bt268 => ((impl_LeastWeight.f bt264.1 bt264.2).bind fun bt270 => ((spec_LeastWeight.f k bt264.1 bt264.2).bind fun bt272 => (if (bt266.2 == bt268.2) = true then (if bt266.1 = bt268.1 then (if (bt270.2 == bt272.2) = true then (if bt270.1 = bt272.1 then (if bt266.2 = true then (some (bt270.2 == (decide (bt266.1 > 0)))) else (some true)) else (some false)) else (some false)) else (some false)) else (some false))))))
def laws_FnSignedLists.l0 : Nat → List Int → Int → Int → List (List Int) → Int → Bool → Bool → List (List Int) → Int → Int → Option (Bool)
  | 0, _, _, _, _, _, _, _, _, _, _ => none
  | k + 1, x1, x5, x6, x7, x13, x14, x15, x102, x103, x104 => if x104 < x103 then (if 0 ≤ x104 then (if x104 < (x102.length : Int) then ((impl_FromSigned.f k (rd_L1 x102 x104)).bind fun bt258 => ((impl_WeightOf.f k (rd_L1 x102 x104)).bind fun bt260 => (if bt258.2 = true then (if bt258.1 = x5 then (if bt260.2 = true then (if ((rd_L1 x102 x104).length : Int) = x6 then (if bt260.1 < x13 then (some false) else (if x104 > 0 then (if 0 ≤ (wrap64 (x104 - 1)) then (if (wrap64 (x104 - 1)) < (x7.length : Int) then ((laws_rLess.f k (rd_L1 x7 (wrap64 (x104 - 1))) (rd_L1 x102 x104)).bind fun t263 => (if t263 = true then (if x15 = true then (laws_FnSignedLists.l0 k x1 x5 x6 x7 x13 x14 true x102 x103 (wrap64 (x104 + 1))) else (laws_FnSignedLists.l0 k x1 x5 x6 x7 x13 x14 (bt260.1 == x13) x102 x103 (wrap64 (x104 + 1)))) else (some false))) else (none)) else (none)) else (if x15 = true then (laws_FnSignedLists.l0 k x1 x5 x6 x7 x13 x14 true x102 x103 (wrap64 (x104 + 1))) else (laws_FnSignedLists.l0 k x1 x5 x6 x7 x13 x14 (bt260.1 == x13) x102 x103 (wrap64 (x104 + 1)))))) else (some false)) else (some false)) else (some false)) else (some false)))) else (none)) else (none)) else (if x14 = true then (if x15 = true then (laws_FnSignedLists.j2 k x1) else (some false)) else (laws_FnSignedLists.j2 k x1))
end
def laws_FnSignedLists.f (k : Nat) (l0 : List Int) (l1 : List Int) : Option (Bool) := (laws_big.f l0 l1).bind fun t241 => (if t241 = true then (some true) else ((spec_DrawAllSigned.f l0).bind fun bt242 => ((impl_AllSigned.f bt242.1 bt242.2).bind fun bt244 => ((spec_AllSigned.f k bt242.1 bt242.2).bind fun bt248 => ((impl_CountSigned.f bt242.1 bt242.2).bind fun bt252 => (if (bt244.2 != bt248.2) = true then (laws_FnSignedLists.j0 k l1 bt242.1 bt242.2 bt244.1 bt244.2 bt252.1 true) else ((laws_rSameLists.f k bt244.1 bt248.1).bind fun t254 => (if t254 = true then (if bt244.2 = true then (if bt252.2 = true then (if bt252.1 = (bt244.1.length : Int) then (laws_FnSignedLists.j0 k l1 bt242.1 bt242.2 bt244.1 bt244.2 bt252.1 false) else (laws_FnSignedLists.j0 k l1 bt242.1 bt242.2 bt244.1 bt244.2 bt252.1 true)) else (laws_FnSignedLists.j0 k l1 bt242.1 bt242.2 bt244.1 bt244.2 bt252.1 true)) else (if bt252.2 = true then (laws_FnSignedLists.j0 k l1 bt242.1 bt242.2 bt244.1 bt244.2 bt252.1 (decide (bt252.1 ≤ 300))) else (laws_FnSignedLists.j0 k l1 bt242.1 bt242.2 bt244.1 bt244.2 bt252.1 false))) else (laws_FnSignedLists.j0 k l1 bt242.1 bt242.2 bt244.1 bt244.2 bt252.1 true)))))))))
theorem laws_FnSignedLists.mono_l : ∀ k, (∀ y0 y1 y2 y3 y4 y5 y6, LeO (laws_FnSignedLists.j0 k y0 y1 y2 y3 y4 y5 y6) (laws_FnSignedLists.j0 (k + 1) y0 y1 y2 y3 y4 y5 y6)) ∧ (∀ y0, LeO (laws_FnSignedLists.j2 k y0) (laws_FnSignedLists.j2 (k + 1) y0)) ∧ (∀ y0 y1 y2 y3 y4 y5 y6 y7 y8 y9, LeO (laws_FnSignedLists.l0 k y0 y1 y2 y3 y4 y5 y6 y7 y8 y9) (laws_FnSignedLists.l0 (k + 1) y0 y1 y2 y3 y4 y5 y6 y7 y8 y9))
  | 0 => ⟨fun _ _ _ _ _ _ _ r h => by simp [laws_FnSignedLists.j0] at h, fun _ r h => by simp [laws_FnSignedLists.j2] at h, fun _ _ _ _ _ _ _ _ _ _ r h => by simp [laws_FnSignedLists.l0] at h⟩
  | k + 1 => by
    obtain ⟨ih0, ih1, ih2⟩ := laws_FnSignedLists.mono_l k
    refine ⟨?_, ?_, ?_⟩
    · intro y0 y1 y2 y3 y4 y5 y6
      unfold laws_FnSignedLists.j0
      repeat' first
      | (with_reducible exact ih0 _ _ _ _ _ _ _)
      | (with_reducible exact ih1 _)
      | (with_reducible exact ih2 _ _ _ _ _ _ _ _ _ _)
      | (with_reducible exact impl_FromSigned.mono _ _)
      | (with_reducible exact impl_WeightOf.mono _ _)
      | (with_reducible exact laws_rLess.mono _ _ _)
      | (with_reducible exact laws_rSameLists.mono _ _ _)
      | (with_reducible exact spec_AllSigned.mono _ _ _)
      | (with_reducible exact spec_CountSigned.mono _ _ _)
      | (with_reducible exact spec_LeastWeight.mono _ _ _)
      | (with_reducible exact LeO.refl _)
      | (with_reducible exact LeO.none _)
      | (with_reducible refine LeO.ite ?_ ?_)
      | (with_reducible refine LeO.bind ?_ (fun _ => ?_))
      | exact ih0 _ _ _ _ _ _ _
      | exact ih1 _
      | exact ih2 _ _ _ _ _ _ _ _ _ _
      | exact impl_FromSigned.mono _ _
      | exact impl_WeightOf.mono _ _
      | exact laws_rLess.mono _ _ _
      | exact laws_rSameLists.mono _ _ _
      | exact spec_AllSigned.mono _ _ _
      | exact spec_CountSigned.mono _ _ _
      | exact spec_LeastWeight.mono _ _ _
      | exact LeO.none _
      | refine LeO.ite ?_ ?_
      | refine LeO.bind ?_ (fun _ => ?_)
    · intro y0
      unfold laws_FnSignedLists.j2
      repeat' first
      | (with_reducible exact ih0 _ _ _ _ _ _ _)
      | (with_reducible exact ih1 _)
      | (with_reducible exact ih2 _ _ _ _ _ _ _ _ _ _)
      | (with_reducible exact impl_FromSigned.mono _ _)
      | (with_reducible exact impl_WeightOf.mono _ _)
      | (with_reducible exact laws_rLess.mono _ _ _)
      | (with_reducible exact laws_rSameLists.mono _ _ _)
      | (with_reducible exact spec_AllSigned.mono _ _ _)
      | (with_reducible exact spec_CountSigned.mono _ _ _)
      | (with_reducible exact spec_LeastWeight.mono _ _ _)
      | (with_reducible exact LeO.refl _)
      | (with_reducible exact LeO.none _)
      | (with_reducible refine LeO.ite ?_ ?_)
      | (with_reducible refine LeO.bind ?_ (fun _ => ?_))
      | exact ih0 _ _ _ _ _ _ _
      | exact ih1 _
      | exact ih2 _ _ _ _ _ _ _ _ _ _
      | exact impl_FromSigned.mono _ _
      | exact impl_WeightOf.mono _ _
      | exact laws_rLess.mono _ _ _
      | exact laws_rSameLists.mono _ _ _
      | exact spec_AllSigned.mono _ _ _
      | exact spec_CountSigned.mono _ _ _
      | exact spec_LeastWeight.mono _ _ _
      | exact LeO.none _
      | refine LeO.ite ?_ ?_
      | refine LeO.bind ?_ (fun _ => ?_)
    · intro y0 y1 y2 y3 y4 y5 y6 y7 y8 y9
      unfold laws_FnSignedLists.l0
      repeat' first
      | (with_reducible exact ih0 _ _ _ _ _ _ _)
      | (with_reducible exact ih1 _)
      | (with_reducible exact ih2 _ _ _ _ _ _ _ _ _ _)
      | (with_reducible exact impl_FromSigned.mono _ _)
      | (with_reducible exact impl_WeightOf.mono _ _)
      | (with_reducible exact laws_rLess.mono _ _ _)
      | (with_reducible exact laws_rSameLists.mono _ _ _)
      | (with_reducible exact spec_AllSigned.mono _ _ _)
      | (with_reducible exact spec_CountSigned.mono _ _ _)
      | (with_reducible exact spec_LeastWeight.mono _ _ _)
      | (with_reducible exact LeO.refl _)
      | (with_reducible exact LeO.none _)
      | (with_reducible refine LeO.ite ?_ ?_)
      | (with_reducible refine LeO.bind ?_ (fun _ => ?_))
      | exact ih0 _ _ _ _ _ _ _
      | exact ih1 _
      | exact ih2 _ _ _ _ _ _ _ _ _ _
      | exact impl_FromSigned.mono _ _
      | exact impl_WeightOf.mono _ _
      | exact laws_rLess.mono _ _ _
      | exact laws_rSameLists.mono _ _ _
      | exact spec_AllSigned.mono _ _ _
      | exact spec_CountSigned.mono _ _ _
      | exact spec_LeastWeight.mono _ _ _
      | exact LeO.none _
      | refine LeO.ite ?_ ?_
      | refine LeO.bind ?_ (fun _ => ?_)
theorem laws_FnSignedLists.mono : ∀ a0 a1 k, LeO (laws_FnSignedLists.f k a0 a1) (laws_FnSignedLists.f (k + 1) a0 a1) := by
  intro a0 a1 k
  obtain ⟨ih0, ih1, ih2⟩ := laws_FnSignedLists.mono_l k
  unfold laws_FnSignedLists.f
  repeat' first
      | (with_reducible exact ih0 _ _ _ _ _ _ _)
      | (with_reducible exact ih1 _)
      | (with_reducible exact ih2 _ _ _ _ _ _ _ _ _ _)
      | (with_reducible exact impl_FromSigned.mono _ _)
      | (with_reducible exact impl_WeightOf.mono _ _)
      | (with_reducible exact laws_rLess.mono _ _ _)
      | (with_reducible exact laws_rSameLists.mono _ _ _)
      | (with_reducible exact spec_AllSigned.mono _ _ _)
      | (with_reducible exact spec_CountSigned.mono _ _ _)
      | (with_reducible exact spec_LeastWeight.mono _ _ _)
      | (with_reducible exact LeO.refl _)
      | (with_reducible exact LeO.none _)
      | (with_reducible refine LeO.ite ?_ ?_)
      | (with_reducible refine LeO.bind ?_ (fun _ => ?_))
      | exact ih0 _ _ _ _ _ _ _
      | exact ih1 _
      | exact ih2 _ _ _ _ _ _ _ _ _ _
      | exact impl_FromSigned.mono _ _
      | exact impl_WeightOf.mono _ _
      | exact laws_rLess.mono _ _ _
      | exact laws_rSameLists.mono _ _ _
      | exact spec_AllSigned.mono _ _ _
      | exact spec_CountSigned.mono _ _ _
      | exact spec_LeastWeight.mono _ _ _
      | exact LeO.none _
      | refine LeO.ite ?_ ?_
      | refine LeO.bind ?_ (fun _ => ?_)
set_option maxHeartbeats 8000000 in
set_option maxRecDepth 100000 in
theorem laws_FnSignedLists.calls (k : Nat) (A0 : Option Addr) (c0 : Nat) (l0 : List Int) (A1 : Option Addr) (c1 : Nat) (l1 : List Int) (r : Bool) (w : World) (hr0 : Kd.C (Kd.int .u8) w A0 l0.length l0) (hc0 : l0.length ≤ c0) (hr1 : Kd.C (Kd.int .u8) w A1 l1.length l1) (hc1 : l1.length ≤ c1) (h : laws_FnSignedLists.f k l0 l1 = some r) :
    Calls Try.prog 4 #[.slice A0 l0.length c0, .slice A1 l1.length c1] w fun e w' => e = .returned (.bool r) ∧ Below w.heap.size w w' := by
  have HR0 := Aside0.mk hr0
  have HC0 := Aside0.mk hc0
  clear hr0 hc0
  have HR1 := Aside0.mk hr1
  have HC1 := Aside0.mk hc1
  clear hr1 hc1
  have HB := Aside0.mk (Below.refl w.heap.size w)
  have H : ((laws_big.f l0 l1).bind fun t241 => (if t241 = true then (some true) else ((spec_DrawAllSigned.f l0).bind fun bt242 => ((impl_AllSigned.f bt242.1 bt242.2).bind fun bt244 => ((spec_AllSigned.f k bt242.1 bt242.2).bind fun bt248 => ((impl_CountSigned.f bt242.1 bt242.2).bind fun bt252 => (if (bt244.2 != bt248.2) = true then (laws_FnSignedLists.j0 k l1 bt242.1 bt242.2 bt244.1 bt244.2 bt252.1 true) else ((laws_rSameLists.f k bt244.1 bt248.1).bind fun t254 => (if t254 = true then (if bt244.2 = true then (if bt252.2 = true then (if bt252.1 = (bt244.1.length : Int) then (laws_FnSignedLists.j0 k l1 bt242.1 bt242.2 bt244.1 bt244.2 bt252.1 false) else (laws_FnSignedLists.j0 k l1 bt242.1 bt242.2 bt244.1 bt244.2 bt252.1 true)) else (laws_FnSignedLists.j0 k l1 bt242.1 bt242.2 bt244.1 bt244.2 bt252.1 true)) else (if bt252.2 = true then (laws_FnSignedLists.j0 k l1 bt242.1 bt242.2 bt244.1 bt244.2 bt252.1 (decide (bt252.1 ≤ 300))) else (laws_FnSignedLists.j0 k l1 bt242.1 bt242.2 bt244.1 bt244.2 bt252.1 false))) else (laws_FnSignedLists.j0 k l1 bt242.1 bt242.2 bt244.1 bt244.2 bt252.1 true)))))))))) = some r := h
  clear h
  replace H := Option.bind_eq_some_iff.mp H
  obtain ⟨t241, A30, H⟩ := H
  replace H : (if t241 = true then (some true) else ((spec_DrawAllSigned.f l0).bind fun bt242 => ((impl_AllSigned.f bt242.1 bt242.2).bind fun bt244 => ((spec_AllSigned.f k bt242.1 bt242.2).bind fun bt248 => ((impl_CountSigned.f bt242.1 bt242.2).bind fun bt252 => (if (bt244.2 != bt248.2) = true then (laws_FnSignedLists.j0 k l1 bt242.1 bt242.2 bt244.1 bt244.2 bt252.1 true) else ((laws_rSameLists.f k bt244.1 bt248.1).bind fun t254 => (if t254 = true then (if bt244.2 = true then (if bt252.2 = true then (if bt252.1 = (bt244.1.length : Int) then (laws_FnSignedLists.j0 k l1 bt242.1 bt242.2 bt244.1 bt244.2 bt252.1 false) else (laws_FnSignedLists.j0 k l1 bt242.1 bt242.2 bt244.1 bt244.2 bt252.1 true)) else (laws_FnSignedLists.j0 k l1 bt242.1 bt242.2 bt244.1 bt244.2 bt252.1 true)) else (if bt252.2 = true then (laws_FnSignedLists.j0 k l1 bt242.1 bt242.2 bt244.1 bt244.2 bt252.1 (decide (bt252.1 ≤ 300))) else (laws_FnSignedLists.j0 k l1 bt242.1 bt242.2 bt244.1 bt244.2 bt252.1 false))) else (laws_FnSignedLists.j0 k l1 bt242.1 bt242.2 bt244.1 bt244.2 bt252.1 true))))))))) = some r := H
  have A3 := Aside0.mk A30
  clear A30
  by_cases c4 : t241 = true
  · as_aux_lemma =>
    subst c4
    have H1 : (some true) = some r := by rw [if_pos rfl] at H; exact H
    clear H
    have H := H1
    clear H1
    obtain rfl := Option.some.inj H
    go_enter Try.func4, Try.ntmps4
    go_wp2_with (first | ((with_reducible refine gate_callee (f := 11) rfl ?_); refine goesL_ (some 34) rfl rfl Try.func11 (by kernel_rfl) rfl #[.slice A0 l0.length c0, .slice A1 l1.length c1] rfl (by (try simp only [List.map_toArray, List.map_cons, List.map_nil]); first | done | rfl | (simp only [List.length_drop, List.length_take]; rfl)) ?_; (with_reducible refine (laws_big.calls _ _ l0 _ _ l1 true _ ?side1 ?side2 ?side3 ?side4 A3.out).mono ?_); (case side1 => repeat (first | exact HR0.out | (with_reducible refine Kd.C_alloc ?_ _) | (with_reducible refine Kd.C_drewN ?_ _) | (with_reducible refine Kd.C_drew ?_))); (case side2 => exact HC0.out); (case side3 => repeat (first | exact HR1.out | (with_reducible refine Kd.C_alloc ?_ _) | (with_reducible refine Kd.C_drewN ?_ _) | (with_reducible refine Kd.C_drew ?_))); (case side4 => exact HC1.out); rintro e w' ⟨rfl, ⟨nd, rfl⟩⟩; refine ⟨_, rfl, ?_⟩))
    go_ret
    exact ⟨by first | rfl | (simp [errW_none, errW_some] <;> rfl) | (simp [*, errW_none, errW_some] <;> rfl), by repeat (first | (with_reducible first | exact HB.out | apply below_alloc | apply pw_below_drewN | apply below_drew1) | exact HB.out)⟩
  · replace c4 := Bool.eq_false_iff.mpr c4
    subst c4
    have H1 : ((spec_DrawAllSigned.f l0).bind fun bt242 => ((impl_AllSigned.f bt242.1 bt242.2).bind fun bt244 => ((spec_AllSigned.f k bt242.1 bt242.2).bind fun bt248 => ((impl_CountSigned.f bt242.1 bt242.2).bind fun bt252 => (if (bt244.2 != bt248.2) = true then (laws_FnSignedLists.j0 k l1 bt242.1 bt242.2 bt244.1 bt244.2 bt252.1 true) else ((laws_rSameLists.f k bt244.1 bt248.1).bind fun t254 => (if t254 = true then (if bt244.2 = true then (if bt252.2 = true then (if bt252.1 = (bt244.1.length : Int) then (laws_FnSignedLists.j0 k l1 bt242.1 bt242.2 bt244.1 bt244.2 bt252.1 false) else (laws_FnSignedLists.j0 k l1 bt242.1 bt242.2 bt244.1 bt244.2 bt252.1 true)) else (laws_FnSignedLists.j0 k l1 bt242.1 bt242.2 bt244.1 bt244.2 bt252.1 true)) else (if bt252.2 = true then (laws_FnSignedLists.j0 k l1 bt242.1 bt242.2 bt244.1 bt244.2 bt252.1 (decide (bt252.1 ≤ 300))) else (laws_FnSignedLists.j0 k l1 bt242.1 bt242.2 bt244.1 bt244.2 bt252.1 false))) else (laws_FnSignedLists.j0 k l1 bt242.1 bt242.2 bt244.1 bt244.2 bt252.1 true)))))))) = some r := by rw [if_neg (show ¬ (false = true) by decide)] at H; exact H
    clear H
    have H := H1
    clear H1
    replace H := Option.bind_eq_some_iff.mp H
    obtain ⟨⟨t242, t243⟩, A50, H⟩ := H
    replace H : ((impl_AllSigned.f t242 t243).bind fun bt244 => ((spec_AllSigned.f k t242 t243).bind fun bt248 => ((impl_CountSigned.f t242 t243).bind fun bt252 => (if (bt244.2 != bt248.2) = true then (laws_FnSignedLists.j0 k l1 t242 t243 bt244.1 bt244.2 bt252.1 true) else ((laws_rSameLists.f k bt244.1 bt248.1).bind fun t254 => (if t254 = true then (if bt244.2 = true then (if bt252.2 = true then (if bt252.1 = (bt244.1.length : Int) then (laws_FnSignedLists.j0 k l1 t242 t243 bt244.1 bt244.2 bt252.1 false) else (laws_FnSignedLists.j0 k l1 t242 t243 bt244.1 bt244.2 bt252.1 true)) else (laws_FnSignedLists.j0 k l1 t242 t243 bt244.1 bt244.2 bt252.1 true)) else (if bt252.2 = true then (laws_FnSignedLists.j0 k l1 t242 t243 bt244.1 bt244.2 bt252.1 (decide (bt252.1 ≤ 300))) else (laws_FnSignedLists.j0 k l1 t242 t243 bt244.1 bt244.2 bt252.1 false))) else (laws_FnSignedLists.j0 k l1 t242 t243 bt244.1 bt244.2 bt252.1 true))))))) = some r := H
    have A5 := Aside0.mk A50
    clear A50
    replace H := Option.bind_eq_some_iff.mp H
    obtain ⟨⟨t244, t245⟩, A60, H⟩ := H
    replace H : ((spec_AllSigned.f k t242 t243).bind fun bt248 => ((impl_CountSigned.f t242 t243).bind fun bt252 => (if (t245 != bt248.2) = true then (laws_FnSignedLists.j0 k l1 t242 t243 t244 t245 bt252.1 true) else ((laws_rSameLists.f k t244 bt248.1).bind fun t254 => (if t254 = true then (if t245 = true then (if bt252.2 = true then (if bt252.1 = (t244.length : Int) then (laws_FnSignedLists.j0 k l1 t242 t243 t244 t245 bt252.1 false) else (laws_FnSignedLists.j0 k l1 t242 t243 t244 t245 bt252.1 true)) else (laws_FnSignedLists.j0 k l1 t242 t243 t244 t245 bt252.1 true)) else (if bt252.2 = true then (laws_FnSignedLists.j0 k l1 t242 t243 t244 t245 bt252.1 (decide (bt252.1 ≤ 300))) else (laws_FnSignedLists.j0 k l1 t242 t243 t244 t245 bt252.1 false))) else (laws_FnSignedLists.j0 k l1 t242 t243 t244 t245 bt252.1 true)))))) = some r := H
    have A6 := Aside0.mk A60
    clear A60
    replace H := Option.bind_eq_some_iff.mp H
    obtain ⟨⟨t248, t249⟩, A70, H⟩ := H
    replace H : ((impl_CountSigned.f t242 t243).bind fun bt252 => (if (t245 != t249) = true then (laws_FnSignedLists.j0 k l1 t242 t243 t244 t245 bt252.1 true) else ((laws_rSameLists.f k t244 t248).bind fun t254 => (if t254 = true then (if t245 = true then (if bt252.2 = true then (if bt252.1 = (t244.length : Int) then (laws_FnSignedLists.j0 k l1 t242 t243 t244 t245 bt252.1 false) else (laws_FnSignedLists.j0 k l1 t242 t243 t244 t245 bt252.1 true)) else (laws_FnSignedLists.j0 k l1 t242 t243 t244 t245 bt252.1 true)) else (if bt252.2 = true then (laws_FnSignedLists.j0 k l1 t242 t243 t244 t245 bt252.1 (decide (bt252.1 ≤ 300))) else (laws_FnSignedLists.j0 k l1 t242 t243 t244 t245 bt252.1 false))) else (laws_FnSignedLists.j0 k l1 t242 t243 t244 t245 bt252.1 true))))) = some r := H
    have A7 := Aside0.mk A70
    clear A70
    replace H := Option.bind_eq_some_iff.mp H
    obtain ⟨⟨t252, t253⟩, A80, H⟩ := H
    replace H : (if (t245 != t249) = true then (laws_FnSignedLists.j0 k l1 t242 t243 t244 t245 t252 true) else ((laws_rSameLists.f k t244 t248).bind fun t254 => (if t254 = true then (if t245 = true then (if t253 = true then (if t252 = (t244.length : Int) then (laws_FnSignedLists.j0 k l1 t242 t243 t244 t245 t252 false) else (laws_FnSignedLists.j0 k l1 t242 t243 t244 t245 t252 true)) else (laws_FnSignedLists.j0 k l1 t242 t243 t244 t245 t252 true)) else (if t253 = true then (laws_FnSignedLists.j0 k l1 t242 t243 t244 t245 t252 (decide (t252 ≤ 300))) else (laws_FnSignedLists.j0 k l1 t242 t243 t244 t245 t252 false))) else (laws_FnSignedLists.j0 k l1 t242 t243 t244 t245 t252 true)))) = some r := H
    have A8 := Aside0.mk A80
    clear A80
    have HC9 := Aside0.mk H
    clear H
    go_enter Try.func4, Try.ntmps4
    go_upto_region 7 with (first | ((with_reducible refine gate_callee (f := 11) rfl ?_); refine goesL_ (some 34) rfl rfl Try.func11 (by kernel_rfl) rfl #[.slice A0 l0.length c0, .slice A1 l1.length c1] rfl (by (try simp only [List.map_toArray, List.map_cons, List.map_nil]); first | done | rfl | (simp only [List.length_drop, List.length_take]; rfl)) ?_; (with_reducible refine (laws_big.calls _ _ l0 _ _ l1 false _ ?side1 ?side2 ?side3 ?side4 A3.out).mono ?_); (case side1 => repeat (first | exact HR0.out | (with_reducible refine Kd.C_alloc ?_ _) | (with_reducible refine Kd.C_drewN ?_ _) | (with_reducible refine Kd.C_drew ?_))); (case side2 => exact HC0.out); (case side3 => repeat (first | exact HR1.out | (with_reducible refine Kd.C_alloc ?_ _) | (with_reducible refine Kd.C_drewN ?_ _) | (with_reducible refine Kd.C_drew ?_))); (case side4 => exact HC1.out); rintro e w' ⟨rfl, ⟨nd, rfl⟩⟩; refine ⟨_, rfl, ?_⟩) | ((with_reducible refine gate_callee (f := 12) rfl ?_); refine goesL_ (some 37) rfl rfl Try.func12 (by kernel_rfl) rfl #[.slice A0 l0.length c0] rfl (by (try simp only [List.map_toArray, List.map_cons, List.map_nil]); first | done | rfl | (simp only [List.length_drop, List.length_take]; rfl)) ?_; (with_reducible refine (spec_DrawAllSigned.calls _ _ l0 t242 t243 _ ?side1 ?side2 A5.out).mono ?_); (case side1 => repeat (first | exact HR0.out | (with_reducible refine Kd.C_alloc ?_ _) | (with_reducible refine Kd.C_drewN ?_ _) | (with_reducible refine Kd.C_drew ?_))); (case side2 => exact HC0.out); rintro e w10 ⟨rfl, hb⟩; refine ⟨_, rfl, ?_⟩; have n0_ := Aside0.mk (below_step (by repeat (first | (with_reducible first | exact HB.out | apply below_alloc | apply pw_below_drewN | apply below_drew1) | exact HB.out)) hb); clear HB; have HB := n0_; clear n0_; (try clear hb); (try clear hb2); (try clear hk); (try clear hi)) | ((with_reducible refine gate_callee (f := 7) rfl ?_); refine goesL_ (some 43) rfl rfl Try.func7 (by kernel_rfl) rfl #[.int .i64 t242, .int .i64 t243] rfl (by (try simp only [List.map_toArray, List.map_cons, List.map_nil]); first | done | rfl | (simp only [List.length_drop, List.length_take]; rfl)) ?_; (with_reducible refine (impl_AllSigned.calls t242 t243 t244 t245 _ A6.out).mono ?_); rintro e w11 ⟨v246, rfl, ho0, hb⟩; refine ⟨_, rfl, ?_⟩; have n0_ := Aside0.mk (Kd.S_lower ho0 (below_size (by repeat (first | (with_reducible first | exact HB.out | apply below_alloc | apply pw_below_drewN | apply below_drew1) | exact HB.out)))); have n1_ := Aside0.mk (below_step (by repeat (first | (with_reducible first | exact HB.out | apply below_alloc | apply pw_below_drewN | apply below_drew1) | exact HB.out)) hb); clear HB; have HO247 := n0_; have HB := n1_; clear n0_ n1_; (try clear hb); (try clear hb2); (try clear hk); (try clear hi); (try clear ho0)) | ((with_reducible refine gate_callee (f := 6) rfl ?_); refine goesL_ (some 49) rfl rfl Try.func6 (by kernel_rfl) rfl #[.int .i64 t242, .int .i64 t243] rfl (by (try simp only [List.map_toArray, List.map_cons, List.map_nil]); first | done | rfl | (simp only [List.length_drop, List.length_take]; rfl)) ?_; (with_reducible refine (spec_AllSigned.calls k t242 t243 t248 t249 _ A7.out).mono ?_); rintro e w12 ⟨v250, rfl, ho0, hb⟩; refine ⟨_, rfl, ?_⟩; have n0_ := Aside0.mk (Kd.S_elder' (by (with_reducible repeat (first | apply Kd.S_alloc | apply Kd.S_drewN | apply Kd.S_drew)); exact HO247.out) (Kd.S_base ho0) hb); have n1_ := Aside0.mk (Kd.S_lower (Kd.S_new' ho0 (Kd.S_lt (by (with_reducible repeat (first | apply Kd.S_alloc | apply Kd.S_drewN | apply Kd.S_drew)); exact HO247.out))) (below_size (by repeat (first | (with_reducible first | exact HB.out | apply below_alloc | apply pw_below_drewN | apply below_drew1) | exact HB.out)))); have n2_ := Aside0.mk (below_step (by repeat (first | (with_reducible first | exact HB.out | apply below_alloc | apply pw_below_drewN | apply below_drew1) | exact HB.out)) hb); clear HO247; clear HB; have HO247 := n0_; have HO251 := n1_; have HB := n2_; clear n0_ n1_ n2_; (try clear hb); (try clear hb2); (try clear hk); (try clear hi); (try clear ho0)) | ((with_reducible refine gate_callee (f := 13) rfl ?_); refine goesL_ (some 55) rfl rfl Try.func13 (by kernel_rfl) rfl #[.int .i64 t242, .int .i64 t243] rfl (by (try simp only [List.map_toArray, List.map_cons, List.map_nil]); first | done | rfl | (simp only [List.length_drop, List.length_take]; rfl)) ?_; (with_reducible refine (impl_CountSigned.calls t242 t243 t252 t253 _ A8.out).mono ?_); rintro e w13 ⟨rfl, hb⟩; refine ⟨_, rfl, ?_⟩; have n0_ := Aside0.mk (Kd.S_below (by (with_reducible repeat (first | apply Kd.S_alloc | apply Kd.S_drewN | apply Kd.S_drew)); exact HO247.out) hb); have n1_ := Aside0.mk (Kd.S_below (by (with_reducible repeat (first | apply Kd.S_alloc | apply Kd.S_drewN | apply Kd.S_drew)); exact HO251.out) hb); have n2_ := Aside0.mk (below_step (by repeat (first | (with_reducible first | exact HB.out | apply below_alloc | apply pw_below_drewN | apply below_drew1) | exact HB.out)) hb); clear HO247; clear HO251; clear HB; have HO247 := n0_; have HO251 := n1_; have HB := n2_; clear n0_ n1_ n2_; (try clear hb); (try clear hb2); (try clear hk); (try clear hi)))
    (try simp only [Act.put, List.setIfInBounds_toArray, List.set_cons_zero, List.set_cons_succ])
    go_cut [90] (fun v90 wc => ∃ (kq : Nat) (x90_8 : Bool), v90 = .bool x90_8 ∧ Aside0 (laws_FnSignedLists.j0 kq l1 t242 t243 t244 t245 t252 x90_8 = some r) ∧ Aside0 (kq ≤ k) ∧ Aside0 (Kd.S (Kd.slice 3 (Kd.int .i64)) 34 wc w.heap.size (fun _ => True) v246 t244) ∧ Aside0 (Below w.heap.size w wc))
    case first =>
      have H := HC9.out
      clear HC9
      by_cases c14 : (t245 != t249) = true
      · rw [if_pos c14] at H
        have c14b0 : (t245 != t249) = true := c14
        (try (have c14b1 : decide (t245 = t249) = false := by simpa using c14))
        (try (have c14b2 : (t245 == t249) = false := by simpa using c14))
        (try (have c14b3 : ¬ (t245 = t249) := by simpa using c14))
        clear c14
        (first | rw [c14b0] | (simp only [i64_w, i32_w]; rw [c14b0]) | skip)
        have H' := Aside0.mk H
        clear H
        go_wp2
        go_meet
        case rel => exact ⟨_, (true), (by first | rfl | (simp; done) | (simp [*]; done)), H', ⟨by first | omega | exact Nat.le_refl _⟩, ⟨by (with_reducible repeat (first | apply Kd.S_alloc | apply Kd.S_drewN | apply Kd.S_drew)); exact Kd.S_mono HO247.out (fun _ hk => trivial)⟩, ⟨by repeat (first | (with_reducible first | exact HB.out | apply below_alloc | apply pw_below_drewN | apply below_drew1) | exact HB.out)⟩⟩
      · rw [if_neg c14] at H
        have c14b0 : (t245 != t249) = false := by simpa using c14
        (try (have c14b1 : decide (t245 = t249) = true := by simpa using c14))
        (try (have c14b2 : (t245 == t249) = true := by simpa using c14))
        clear c14
        (first | rw [c14b0] | (simp only [i64_w, i32_w]; rw [c14b0]) | skip)
        replace H := Option.bind_eq_some_iff.mp H
        obtain ⟨t254, A150, H⟩ := H
        replace H : (if t254 = true then (if t245 = true then (if t253 = true then (if t252 = (t244.length : Int) then (laws_FnSignedLists.j0 k l1 t242 t243 t244 t245 t252 false) else (laws_FnSignedLists.j0 k l1 t242 t243 t244 t245 t252 true)) else (laws_FnSignedLists.j0 k l1 t242 t243 t244 t245 t252 true)) else (if t253 = true then (laws_FnSignedLists.j0 k l1 t242 t243 t244 t245 t252 (decide (t252 ≤ 300))) else (laws_FnSignedLists.j0 k l1 t242 t243 t244 t245 t252 false))) else (laws_FnSignedLists.j0 k l1 t242 t243 t244 t245 t252 true)) = some r := H
        have A15 := Aside0.mk A150
        clear A150
        by_cases c16 : t254 = true
        · subst c16
          have H1 : (if t245 = true then (if t253 = true then (if t252 = (t244.length : Int) then (laws_FnSignedLists.j0 k l1 t242 t243 t244 t245 t252 false) else (laws_FnSignedLists.j0 k l1 t242 t243 t244 t245 t252 true)) else (laws_FnSignedLists.j0 k l1 t242 t243 t244 t245 t252 true)) else (if t253 = true then (laws_FnSignedLists.j0 k l1 t242 t243 t244 t245 t252 (decide (t252 ≤ 300))) else (laws_FnSignedLists.j0 k l1 t242 t243 t244 t245 t252 false))) = some r := by rw [if_pos rfl] at H; exact H
          clear H
          have H := H1
          clear H1
          by_cases c17 : t245 = true
          · subst c17
            have H1 : (if t253 = true then (if t252 = (t244.length : Int) then (laws_FnSignedLists.j0 k l1 t242 t243 t244 true t252 false) else (laws_FnSignedLists.j0 k l1 t242 t243 t244 true t252 true)) else (laws_FnSignedLists.j0 k l1 t242 t243 t244 true t252 true)) = some r := by rw [if_pos rfl] at H; exact H
            clear H
            have H := H1
            clear H1
            by_cases c18 : t253 = true
            · subst c18
              have H1 : (if t252 = (t244.length : Int) then (laws_FnSignedLists.j0 k l1 t242 t243 t244 true t252 false) else (laws_FnSignedLists.j0 k l1 t242 t243 t244 true t252 true)) = some r := by rw [if_pos rfl] at H; exact H
              clear H
              have H := H1
              clear H1
              by_cases c19 : t252 = (t244.length : Int)
              · rw [if_pos c19] at H
                have c19b0 : (t252 == (t244.length : Int)) = true := beq_iff_eq.mpr c19
                have c19b1 : (t252 != (t244.length : Int)) = false := bne_eq_false_iff_eq.mpr c19
                clear c19
                have H' := Aside0.mk H
                clear H
                obtain ⟨Ao20, co20, eo20⟩ := Kd.S_slice HO247.out
                subst eo20
                obtain ⟨Ao21, co21, eo21⟩ := Kd.S_slice HO251.out
                subst eo21
                go_wp2_with (first | (go_at_call 14; (with_reducible refine (laws_rSameLists.calls k _ _ t244 _ _ t248 true _ ?side1 ?side2 ?side3 ?side4 A15.out).mono ?_); (case side1 => repeat (first | exact (Kd.S_reads' HO247.out).2.2 | (with_reducible refine Kd.C_alloc ?_ _) | (with_reducible refine Kd.C_drewN ?_ _) | (with_reducible refine Kd.C_drew ?_))); (case side2 => exact (Kd.S_reads' HO247.out).2.1); (case side3 => repeat (first | exact (Kd.S_reads' HO251.out).2.2 | (with_reducible refine Kd.C_alloc ?_ _) | (with_reducible refine Kd.C_drewN ?_ _) | (with_reducible refine Kd.C_drew ?_))); (case side4 => exact (Kd.S_reads' HO251.out).2.1); rintro e w' ⟨rfl, ⟨nd, rfl⟩⟩))
                go_meet
                case rel => exact ⟨_, (false), (by first | rfl | (simp; done) | (simp [*]; done)), H', ⟨by first | omega | exact Nat.le_refl _⟩, ⟨by (with_reducible repeat (first | apply Kd.S_alloc | apply Kd.S_drewN | apply Kd.S_drew)); exact Kd.S_mono HO247.out (fun _ hk => trivial)⟩, ⟨by repeat (first | (with_reducible first | exact HB.out | apply below_alloc | apply pw_below_drewN | apply below_drew1) | exact HB.out)⟩⟩
              · rw [if_neg c19] at H
                have c19b0 : (t252 == (t244.length : Int)) = false := beq_eq_false_iff_ne.mpr c19
                have c19b1 : (t252 != (t244.length : Int)) = true := bne_iff_ne.mpr c19
                have H' := Aside0.mk H
                clear H
                obtain ⟨Ao22, co22, eo22⟩ := Kd.S_slice HO247.out
                subst eo22
                obtain ⟨Ao23, co23, eo23⟩ := Kd.S_slice HO251.out
                subst eo23
                go_wp2_with (first | (go_at_call 14; (with_reducible refine (laws_rSameLists.calls k _ _ t244 _ _ t248 true _ ?side1 ?side2 ?side3 ?side4 A15.out).mono ?_); (case side1 => repeat (first | exact (Kd.S_reads' HO247.out).2.2 | (with_reducible refine Kd.C_alloc ?_ _) | (with_reducible refine Kd.C_drewN ?_ _) | (with_reducible refine Kd.C_drew ?_))); (case side2 => exact (Kd.S_reads' HO247.out).2.1); (case side3 => repeat (first | exact (Kd.S_reads' HO251.out).2.2 | (with_reducible refine Kd.C_alloc ?_ _) | (with_reducible refine Kd.C_drewN ?_ _) | (with_reducible refine Kd.C_drew ?_))); (case side4 => exact (Kd.S_reads' HO251.out).2.1); rintro e w' ⟨rfl, ⟨nd, rfl⟩⟩))
                go_meet
                case rel => exact ⟨_, (true), (by first | rfl | (simp; done) | (simp [*]; done)), H', ⟨by first | omega | exact Nat.le_refl _⟩, ⟨by (with_reducible repeat (first | apply Kd.S_alloc | apply Kd.S_drewN | apply Kd.S_drew)); exact Kd.S_mono HO247.out (fun _ hk => trivial)⟩, ⟨by repeat (first | (with_reducible first | exact HB.out | apply below_alloc | apply pw_below_drewN | apply below_drew1) | exact HB.out)⟩⟩
            · replace c18 := Bool.eq_false_iff.mpr c18
              subst c18
              have H1 : (laws_FnSignedLists.j0 k l1 t242 t243 t244 true t252 true) = some r := by rw [if_neg (show ¬ (false = true) by decide)] at H; exact H
              clear H
              have H := H1
              clear H1
              have H' := Aside0.mk H
              clear H
              obtain ⟨Ao24, co24, eo24⟩ := Kd.S_slice HO247.out
              subst eo24
              obtain ⟨Ao25, co25, eo25⟩ := Kd.S_slice HO251.out
              subst eo25
              go_wp2_with (first | (go_at_call 14; (with_reducible refine (laws_rSameLists.calls k _ _ t244 _ _ t248 true _ ?side1 ?side2 ?side3 ?side4 A15.out).mono ?_); (case side1 => repeat (first | exact (Kd.S_reads' HO247.out).2.2 | (with_reducible refine Kd.C_alloc ?_ _) | (with_reducible refine Kd.C_drewN ?_ _) | (with_reducible refine Kd.C_drew ?_))); (case side2 => exact (Kd.S_reads' HO247.out).2.1); (case side3 => repeat (first | exact (Kd.S_reads' HO251.out).2.2 | (with_reducible refine Kd.C_alloc ?_ _) | (with_reducible refine Kd.C_drewN ?_ _) | (with_reducible refine Kd.C_drew ?_))); (case side4 => exact (Kd.S_reads' HO251.out).2.1); rintro e w' ⟨rfl, ⟨nd, rfl⟩⟩))
              go_meet
              case rel => exact ⟨_, (true), (by first | rfl | (simp; done) | (simp [*]; done)), H', ⟨by first | omega | exact Nat.le_refl _⟩, ⟨by (with_reducible repeat (first | apply Kd.S_alloc | apply Kd.S_drewN | apply Kd.S_drew)); exact Kd.S_mono HO247.out (fun _ hk => trivial)⟩, ⟨by repeat (first | (with_reducible first | exact HB.out | apply below_alloc | apply pw_below_drewN | apply below_drew1) | exact HB.out)⟩⟩
          · replace c17 := Bool.eq_false_iff.mpr c17
            subst c17
            have H1 : (if t253 = true then (laws_FnSignedLists.j0 k l1 t242 t243 t244 false t252 (decide (t252 ≤ 300))) else (laws_FnSignedLists.j0 k l1 t242 t243 t244 false t252 false)) = some r := by rw [if_neg (show ¬ (false = true) by decide)] at H; exact H
            clear H
            have H := H1
            clear H1
            by_cases c26 : t253 = true
            · subst c26
              have H1 : (laws_FnSignedLists.j0 k l1 t242 t243 t244 false t252 (decide (t252 ≤ 300))) = some r := by rw [if_pos rfl] at H; exact H
              clear H
              have H := H1
              clear H1
              have H' := Aside0.mk H
              clear H
              obtain ⟨Ao27, co27, eo27⟩ := Kd.S_slice HO247.out
              subst eo27
              obtain ⟨Ao28, co28, eo28⟩ := Kd.S_slice HO251.out
              subst eo28
              go_wp2_with (first | (go_at_call 14; (with_reducible refine (laws_rSameLists.calls k _ _ t244 _ _ t248 true _ ?side1 ?side2 ?side3 ?side4 A15.out).mono ?_); (case side1 => repeat (first | exact (Kd.S_reads' HO247.out).2.2 | (with_reducible refine Kd.C_alloc ?_ _) | (with_reducible refine Kd.C_drewN ?_ _) | (with_reducible refine Kd.C_drew ?_))); (case side2 => exact (Kd.S_reads' HO247.out).2.1); (case side3 => repeat (first | exact (Kd.S_reads' HO251.out).2.2 | (with_reducible refine Kd.C_alloc ?_ _) | (with_reducible refine Kd.C_drewN ?_ _) | (with_reducible refine Kd.C_drew ?_))); (case side4 => exact (Kd.S_reads' HO251.out).2.1); rintro e w' ⟨rfl, ⟨nd, rfl⟩⟩))
              go_meet
              case rel => exact ⟨_, (decide (t252 ≤ 300)), (by first | rfl | (simp; done) | (simp [*]; done)), H', ⟨by first | omega | exact Nat.le_refl _⟩, ⟨by (with_reducible repeat (first | apply Kd.S_alloc | apply Kd.S_drewN | apply Kd.S_drew)); exact Kd.S_mono HO247.out (fun _ hk => trivial)⟩, ⟨by repeat (first | (with_reducible first | exact HB.out | apply below_alloc | apply pw_below_drewN | apply below_drew1) | exact HB.out)⟩⟩
            · replace c26 := Bool.eq_false_iff.mpr c26
              subst c26
              have H1 : (laws_FnSignedLists.j0 k l1 t242 t243 t244 false t252 false) = some r := by rw [if_neg (show ¬ (false = true) by decide)] at H; exact H
              clear H
              have H := H1
              clear H1
              have H' := Aside0.mk H
              clear H
              obtain ⟨Ao29, co29, eo29⟩ := Kd.S_slice HO247.out
              subst eo29
              obtain ⟨Ao30, co30, eo30⟩ := Kd.S_slice HO251.out
              subst eo30
              go_wp2_with (first | (go_at_call 14; (with_reducible refine (laws_rSameLists.calls k _ _ t244 _ _ t248 true _ ?side1 ?side2 ?side3 ?side4 A15.out).mono ?_); (case side1 => repeat (first | exact (Kd.S_reads' HO247.out).2.2 | (with_reducible refine Kd.C_alloc ?_ _) | (with_reducible refine Kd.C_drewN ?_ _) | (with_reducible refine Kd.C_drew ?_))); (case side2 => exact (Kd.S_reads' HO247.out).2.1); (case side3 => repeat (first | exact (Kd.S_reads' HO251.out).2.2 | (with_reducible refine Kd.C_alloc ?_ _) | (with_reducible refine Kd.C_drewN ?_ _) | (with_reducible refine Kd.C_drew ?_))); (case side4 => exact (Kd.S_reads' HO251.out).2.1); rintro e w' ⟨rfl, ⟨nd, rfl⟩⟩))
              go_meet
              case rel => exact ⟨_, (false), (by first | rfl | (simp; done) | (simp [*]; done)), H', ⟨by first | omega | exact Nat.le_refl _⟩, ⟨by (with_reducible repeat (first | apply Kd.S_alloc | apply Kd.S_drewN | apply Kd.S_drew)); exact Kd.S_mono HO247.out (fun _ hk => trivial)⟩, ⟨by repeat (first | (with_reducible first | exact HB.out | apply below_alloc | apply pw_below_drewN | apply below_drew1) | exact HB.out)⟩⟩
        · replace c16 := Bool.eq_false_iff.mpr c16
          subst c16
          have H1 : (laws_FnSignedLists.j0 k l1 t242 t243 t244 t245 t252 true) = some r := by rw [if_neg (show ¬ (false = true) by decide)] at H; exact H
          clear H
          have H := H1
          clear H1
          have H' := Aside0.mk H
          clear H
          obtain ⟨Ao31, co31, eo31⟩ := Kd.S_slice HO247.out
          subst eo31
          obtain ⟨Ao32, co32, eo32⟩ := Kd.S_slice HO251.out
          subst eo32
          go_wp2_with (first | (go_at_call 14; (with_reducible refine (laws_rSameLists.calls k _ _ t244 _ _ t248 false _ ?side1 ?side2 ?side3 ?side4 A15.out).mono ?_); (case side1 => repeat (first | exact (Kd.S_reads' HO247.out).2.2 | (with_reducible refine Kd.C_alloc ?_ _) | (with_reducible refine Kd.C_drewN ?_ _) | (with_reducible refine Kd.C_drew ?_))); (case side2 => exact (Kd.S_reads' HO247.out).2.1); (case side3 => repeat (first | exact (Kd.S_reads' HO251.out).2.2 | (with_reducible refine Kd.C_alloc ?_ _) | (with_reducible refine Kd.C_drewN ?_ _) | (with_reducible refine Kd.C_drew ?_))); (case side4 => exact (Kd.S_reads' HO251.out).2.1); rintro e w' ⟨rfl, ⟨nd, rfl⟩⟩))
          go_meet
          case rel => exact ⟨_, (true), (by first | rfl | (simp; done) | (simp [*]; done)), H', ⟨by first | omega | exact Nat.le_refl _⟩, ⟨by (with_reducible repeat (first | apply Kd.S_alloc | apply Kd.S_drewN | apply Kd.S_drew)); exact Kd.S_mono HO247.out (fun _ hk => trivial)⟩, ⟨by repeat (first | (with_reducible first | exact HB.out | apply below_alloc | apply pw_below_drewN | apply below_drew1) | exact HB.out)⟩⟩
    case rest =>
      clear HC9
      try clear c1
      try clear c2
      try clear p2
      try clear c4
      try clear c6
      try clear c7
      try clear c11
      try clear c12
      try clear c13
      try clear c14
      try clear c14b0
      try clear c14b1
      try clear c14b2
      try clear c16
      try clear c17
      try clear c18
      try clear c19
      try clear c19b0
      try clear c19b1
      try clear c26
      obtain ⟨kq, x90_8, rfl, HA, HJ8, HO_7, HB⟩ := hcut
      cases kq with
      | zero => exact absurd HA.out (by simp [laws_FnSignedLists.j0])
      | succ kj8 =>
        have H := HA.out
        clear HA
        simp only [laws_FnSignedLists.j0] at H
        by_cases c33 : x90_8 = true
        · as_aux_lemma =>
          subst c33
          have H1 : (some false) = some r := by rw [if_pos rfl] at H; exact H
          clear H
          have H := H1
          clear H1
          obtain rfl := Option.some.inj H
          go_wp2
          go_ret
          exact ⟨by first | rfl | (simp [errW_none, errW_some] <;> rfl) | (simp [*, errW_none, errW_some] <;> rfl), by repeat (first | (with_reducible first | exact HB.out | apply below_alloc | apply pw_below_drewN | apply below_drew1) | exact HB.out)⟩
        · replace c33 := Bool.eq_false_iff.mpr c33
          subst c33
          have H1 : ((impl_LeastWeight.f t242 t243).bind fun bt255 => (if t245 = true then (if (bt255.2 != (decide (t252 > 0))) = true then (some false) else (laws_FnSignedLists.l0 kj8 l1 t242 t243 t244 bt255.1 bt255.2 false t244 (t244.length : Int) 0)) else (laws_FnSignedLists.j2 kj8 l1))) = some r := by rw [if_neg (show ¬ (false = true) by decide)] at H; exact H
          clear H
          have H := H1
          clear H1
          replace H := Option.bind_eq_some_iff.mp H
          obtain ⟨⟨t255, t256⟩, A340, H⟩ := H
          replace H : (if t245 = true then (if (t256 != (decide (t252 > 0))) = true then (some false) else (laws_FnSignedLists.l0 kj8 l1 t242 t243 t244 t255 t256 false t244 (t244.length : Int) 0)) else (laws_FnSignedLists.j2 kj8 l1)) = some r := H
          have A34 := Aside0.mk A340
          clear A340
          have HC35 := Aside0.mk H
          clear H
          go_upto_if 97 with (first | ((with_reducible refine gate_callee (f := 15) rfl ?_); refine goesL_ (some 94) rfl rfl Try.func15 (by kernel_rfl) rfl #[.int .i64 t242, .int .i64 t243] rfl (by (try simp only [List.map_toArray, List.map_cons, List.map_nil]); first | done | rfl | (simp only [List.length_drop, List.length_take]; rfl)) ?_; (with_reducible refine (impl_LeastWeight.calls t242 t243 t255 t256 _ A34.out).mono ?_); rintro e w36 ⟨rfl, hb⟩; refine ⟨_, rfl, ?_⟩; have n0_ := Aside0.mk (Kd.S_below (by (with_reducible repeat (first | apply Kd.S_alloc | apply Kd.S_drewN | apply Kd.S_drew)); exact HO_7.out) hb); have n1_ := Aside0.mk (below_step (by repeat (first | (with_reducible first | exact HB.out | apply below_alloc | apply pw_below_drewN | apply below_drew1) | exact HB.out)) hb); clear HO_7; clear HB; have HO_7 := n0_; have HB := n1_; clear n0_ n1_; (try clear hb); (try clear hb2); (try clear hk); (try clear hi)))
          (try simp only [Act.put, List.setIfInBounds_toArray, List.set_cons_zero, List.set_cons_succ])
          go_cut [] (fun wc => ∃ (kq : Nat), Aside0 (laws_FnSignedLists.j2 kq l1 = some r) ∧ Aside0 (kq ≤ kj8) ∧ Aside0 (Below w.heap.size w wc))
          case first =>
            have H := HC35.out
            clear HC35
            by_cases c37 : t245 = true
            · subst c37
              have H1 : (if (t256 != (decide (t252 > 0))) = true then (some false) else (laws_FnSignedLists.l0 kj8 l1 t242 t243 t244 t255 t256 false t244 (t244.length : Int) 0)) = some r := by rw [if_pos rfl] at H; exact H
              clear H
              have H := H1
              clear H1
              by_cases c38 : (t256 != (decide (t252 > 0))) = true
              · as_aux_lemma =>
                rw [if_pos c38] at H
                have c38b0 : (t256 != (decide (t252 > 0))) = true := c38
                (try (have c38b1 : decide (t256 = (decide (t252 > 0))) = false := by simpa using c38))
                (try (have c38b2 : (t256 == (decide (t252 > 0))) = false := by simpa using c38))
                (try (have c38b3 : ¬ (t256 = (decide (t252 > 0))) := by simpa using c38))
                clear c38
                (first | rw [c38b0] | (simp only [i64_w, i32_w]; rw [c38b0]) | skip)
                obtain rfl := Option.some.inj H
                go_wp2
                go_ret
                exact ⟨by first | rfl | (simp [errW_none, errW_some] <;> rfl) | (simp [*, errW_none, errW_some] <;> rfl), by repeat (first | (with_reducible first | exact HB.out | apply below_alloc | apply pw_below_drewN | apply below_drew1) | exact HB.out)⟩
              · rw [if_neg c38] at H
                have c38b0 : (t256 != (decide (t252 > 0))) = false := by simpa using c38
                (try (have c38b1 : decide (t256 = (decide (t252 > 0))) = true := by simpa using c38))
                (try (have c38b2 : (t256 == (decide (t252 > 0))) = true := by simpa using c38))
                clear c38
                (first | rw [c38b0] | (simp only [i64_w, i32_w]; rw [c38b0]) | skip)
                have H' := Aside0.mk H
                clear H
                obtain ⟨Ao39, co39, eo39⟩ := Kd.S_slice HO_7.out
                subst eo39
                go_wp2
                go_loopg [15, 104] kj8 (fun kq v15 v104 w' => ∃ (x15_2 : Bool) (x104_2 : Int), v15 = .bool x15_2 ∧ v104 = .int .i64 x104_2 ∧ Aside0 (laws_FnSignedLists.l0 kq l1 t242 t243 t244 t255 t256 x15_2 t244 (t244.length : Int) x104_2 = some r) ∧ Aside0 (kq ≤ kj8) ∧ Aside0 (Kd.S (Kd.slice 3 (Kd.int .i64)) 34 w' w.heap.size (fun _ => True) (.slice Ao39 t244.length co39) t244) ∧ Aside0 (Kd.S (Kd.slice 3 (Kd.int .i64)) 34 w' w.heap.size (fun _ => True) (.slice Ao39 t244.length co39) t244) ∧ Aside0 (Below w.heap.size w w'))
                case atStart => exact ⟨(false), (0), (by first | rfl | (simp; done) | (simp [*]; done)), (by first | rfl | (simp; done) | (simp [*]; done)), H', ⟨Nat.le_refl _⟩, ⟨by (with_reducible repeat (first | apply Kd.S_alloc | apply Kd.S_drewN | apply Kd.S_drew)); exact HO_7.out⟩, ⟨by (with_reducible repeat (first | apply Kd.S_alloc | apply Kd.S_drewN | apply Kd.S_drew)); exact HO_7.out⟩, ⟨by repeat (first | (with_reducible first | exact HB.out | apply below_alloc | apply pw_below_drewN | apply below_drew1) | exact HB.out)⟩⟩
                case round =>
                  clear H'
                  try clear c1
                  try clear c2
                  try clear p2
                  try clear c3
                  try clear c4
                  try clear c6
                  try clear c7
                  try clear c11
                  try clear c12
                  try clear c13
                  try clear c14
                  try clear c14b0
                  try clear c14b1
                  try clear c14b2
                  try clear c15
                  try clear c16
                  try clear c17
                  try clear c18
                  try clear c19
                  try clear c19b0
                  try clear c19b1
                  try clear c26
                  try clear c33
                  try clear c37
                  try clear c38
                  try clear c38b0
                  try clear c38b1
                  try clear c38b2
                  try clear p2
                  obtain ⟨x15_2, x104_2, rfl, rfl, HA, HK2, HO_7, HO_102, HB⟩ := hrel
                  cases gk with
                  | zero => exact absurd HA.out (by simp [laws_FnSignedLists.l0])
                  | succ k2 =>
                    have H := HA.out
                    clear HA
                    simp only [laws_FnSignedLists.l0] at H
                    by_cases c40 : x104_2 < (t244.length : Int)
                    · rw [if_pos c40] at H
                      have c40b0 : decide (x104_2 < (t244.length : Int)) = true := decide_eq_true c40
                      clear c40
                      by_cases c41 : 0 ≤ x104_2
                      · rw [if_pos c41] at H
                        have c41b0 : decide (0 ≤ x104_2) = true := decide_eq_true c41
                        clear c41
                        by_cases c42 : x104_2 < (t244.length : Int)
                        · rw [if_pos c42] at H
                          have c42b0 : decide (x104_2 < (t244.length : Int)) = true := decide_eq_true c42
                          clear c42
                          replace H := Option.bind_eq_some_iff.mp H
                          obtain ⟨⟨t258, t259⟩, A430, H⟩ := H
                          replace H : ((impl_WeightOf.f k2 (rd_L1 t244 x104_2)).bind fun bt260 => (if t259 = true then (if t258 = t242 then (if bt260.2 = true then (if ((rd_L1 t244 x104_2).length : Int) = t243 then (if bt260.1 < t255 then (some false) else (if x104_2 > 0 then (if 0 ≤ (wrap64 (x104_2 - 1)) then (if (wrap64 (x104_2 - 1)) < (t244.length : Int) then ((laws_rLess.f k2 (rd_L1 t244 (wrap64 (x104_2 - 1))) (rd_L1 t244 x104_2)).bind fun t263 => (if t263 = true then (if x15_2 = true then (laws_FnSignedLists.l0 k2 l1 t242 t243 t244 t255 t256 true t244 (t244.length : Int) (wrap64 (x104_2 + 1))) else (laws_FnSignedLists.l0 k2 l1 t242 t243 t244 t255 t256 (bt260.1 == t255) t244 (t244.length : Int) (wrap64 (x104_2 + 1)))) else (some false))) else (none)) else (none)) else (if x15_2 = true then (laws_FnSignedLists.l0 k2 l1 t242 t243 t244 t255 t256 true t244 (t244.length : Int) (wrap64 (x104_2 + 1))) else (laws_FnSignedLists.l0 k2 l1 t242 t243 t244 t255 t256 (bt260.1 == t255) t244 (t244.length : Int) (wrap64 (x104_2 + 1)))))) else (some false)) else (some false)) else (some false)) else (some false))) = some r := H
                          have A43 := Aside0.mk A430
                          clear A430
                          replace H := Option.bind_eq_some_iff.mp H
                          obtain ⟨⟨t260, t261⟩, A440, H⟩ := H
                          replace H : (if t259 = true then (if t258 = t242 then (if t261 = true then (if ((rd_L1 t244 x104_2).length : Int) = t243 then (if t260 < t255 then (some false) else (if x104_2 > 0 then (if 0 ≤ (wrap64 (x104_2 - 1)) then (if (wrap64 (x104_2 - 1)) < (t244.length : Int) then ((laws_rLess.f k2 (rd_L1 t244 (wrap64 (x104_2 - 1))) (rd_L1 t244 x104_2)).bind fun t263 => (if t263 = true then (if x15_2 = true then (laws_FnSignedLists.l0 k2 l1 t242 t243 t244 t255 t256 true t244 (t244.length : Int) (wrap64 (x104_2 + 1))) else (laws_FnSignedLists.l0 k2 l1 t242 t243 t244 t255 t256 (t260 == t255) t244 (t244.length : Int) (wrap64 (x104_2 + 1)))) else (some false))) else (none)) else (none)) else (if x15_2 = true then (laws_FnSignedLists.l0 k2 l1 t242 t243 t244 t255 t256 true t244 (t244.length : Int) (wrap64 (x104_2 + 1))) else (laws_FnSignedLists.l0 k2 l1 t242 t243 t244 t255 t256 (t260 == t255) t244 (t244.length : Int) (wrap64 (x104_2 + 1)))))) else (some false)) else (some false)) else (some false)) else (some false)) = some r := H
                          have A44 := Aside0.mk A440
                          clear A440
                          by_cases c45 : t259 = true
                          · subst c45
                            have H1 : (if t258 = t242 then (if t261 = true then (if ((rd_L1 t244 x104_2).length : Int) = t243 then (if t260 < t255 then (some false) else (if x104_2 > 0 then (if 0 ≤ (wrap64 (x104_2 - 1)) then (if (wrap64 (x104_2 - 1)) < (t244.length : Int) then ((laws_rLess.f k2 (rd_L1 t244 (wrap64 (x104_2 - 1))) (rd_L1 t244 x104_2)).bind fun t263 => (if t263 = true then (if x15_2 = true then (laws_FnSignedLists.l0 k2 l1 t242 t243 t244 t255 t256 true t244 (t244.length : Int) (wrap64 (x104_2 + 1))) else (laws_FnSignedLists.l0 k2 l1 t242 t243 t244 t255 t256 (t260 == t255) t244 (t244.length : Int) (wrap64 (x104_2 + 1)))) else (some false))) else (none)) else (none)) else (if x15_2 = true then (laws_FnSignedLists.l0 k2 l1 t242 t243 t244 t255 t256 true t244 (t244.length : Int) (wrap64 (x104_2 + 1))) else (laws_FnSignedLists.l0 k2 l1 t242 t243 t244 t255 t256 (t260 == t255) t244 (t244.length : Int) (wrap64 (x104_2 + 1)))))) else (some false)) else (some false)) else (some false)) = some r := by rw [if_pos rfl] at H; exact H
                            clear H
                            have H := H1
                            clear H1
                            by_cases c46 : t258 = t242
                            · rw [if_pos c46] at H
                              have c46b0 : (t258 == t242) = true := beq_iff_eq.mpr c46
                              have c46b1 : (t258 != t242) = false := bne_eq_false_iff_eq.mpr c46
                              clear c46
                              by_cases c47 : t261 = true
                              · subst c47
                                have H1 : (if ((rd_L1 t244 x104_2).length : Int) = t243 then (if t260 < t255 then (some false) else (if x104_2 > 0 then (if 0 ≤ (wrap64 (x104_2 - 1)) then (if (wrap64 (x104_2 - 1)) < (t244.length : Int) then ((laws_rLess.f k2 (rd_L1 t244 (wrap64 (x104_2 - 1))) (rd_L1 t244 x104_2)).bind fun t263 => (if t263 = true then (if x15_2 = true then (laws_FnSignedLists.l0 k2 l1 t242 t243 t244 t255 t256 true t244 (t244.length : Int) (wrap64 (x104_2 + 1))) else (laws_FnSignedLists.l0 k2 l1 t242 t243 t244 t255 t256 (t260 == t255) t244 (t244.length : Int) (wrap64 (x104_2 + 1)))) else (some false))) else (none)) else (none)) else (if x15_2 = true then (laws_FnSignedLists.l0 k2 l1 t242 t243 t244 t255 t256 true t244 (t244.length : Int) (wrap64 (x104_2 + 1))) else (laws_FnSignedLists.l0 k2 l1 t242 t243 t244 t255 t256 (t260 == t255) t244 (t244.length : Int) (wrap64 (x104_2 + 1)))))) else (some false)) = some r := by rw [if_pos rfl] at H; exact H
                                clear H
                                have H := H1
                                clear H1
                                by_cases c48 : ((rd_L1 t244 x104_2).length : Int) = t243
                                · rw [if_pos c48] at H
                                  have c48b0 : (((rd_L1 t244 x104_2).length : Int) == t243) = true := beq_iff_eq.mpr c48
                                  have c48b1 : (((rd_L1 t244 x104_2).length : Int) != t243) = false := bne_eq_false_iff_eq.mpr c48
                                  clear c48
                                  by_cases c49 : t260 < t255
                                  · as_aux_lemma =>
                                    rw [if_pos c49] at H
                                    have c49b0 : decide (t260 < t255) = true := decide_eq_true c49
                                    clear c49
                                    obtain rfl := Option.some.inj H
                                    have p257 : 0 ≤ (x104_2 : Int) := of_decide_eq_true (by first | (with_reducible assumption) | assumption)
                                    have q257 : x104_2 < (t244.length : Int) := of_decide_eq_true (by first | (with_reducible assumption) | assumption)
                                    obtain ⟨ad257, A257_0, c257_0, e257, hx257_0, hl257_0, hi257_0⟩ := at_L1 (Kd.S_reads' HO_102.out).2.2 x104_2 p257 q257
                                    cases e257
                                    obtain ⟨ce257, hce257, hMe257, hcc257⟩ := Kd.S_get HO_102.out [] x104_2 p257 (by first | exact q257 | exact of_decide_eq_true (by first | (with_reducible assumption) | assumption) | (have e_ := (Kd.S_reads' HO_102.out).1; omega))
                                    obtain ⟨ve257_0, rfl, ge257_0⟩ := hMe257
                                    have hv257_0 := hcc257 0 _ rfl
                                    rw [Nat.add_zero, show ((Kd.slice 3 (Kd.int .i64))).sz = 1 from rfl, Nat.mul_one] at hv257_0
                                    replace hv257_0 := Option.some.inj (hv257_0.symm.trans hx257_0)
                                    rw [hv257_0] at ge257_0
                                    have HL257_0 := Aside0.mk (show Kd.R (Kd.int .i64) 3 _ _ _ _ (rd_L1 t244 x104_2) from ge257_0)
                                    clear hv257_0 ge257_0
                                    clear hcc257 hce257
                                    have HR257_0 := Aside0.mk hi257_0
                                    have HC257_0 := Aside0.mk hl257_0
                                    clear hi257_0 hl257_0
                                    replace p257 := eq_true p257
                                    replace q257 := eq_true q257
                                    go_wp2_with (first | ((with_reducible refine gate_callee (f := 16) rfl ?_); refine goesL_ (some 111) rfl rfl Try.func16 (by kernel_rfl) rfl #[.slice A257_0 (rd_L1 t244 x104_2).length c257_0] rfl (by (try simp only [List.map_toArray, List.map_cons, List.map_nil]); first | done | rfl | (simp only [List.length_drop, List.length_take]; rfl)) ?_; (with_reducible refine (impl_FromSigned.calls k2 _ _ (rd_L1 t244 x104_2) t258 true _ ?side1 ?side2 A43.out).mono ?_); (case side1 => repeat (first | exact (by repeat (first | (with_reducible exact HR257_0.out) | (with_reducible refine Kd.C_alloc ?_ _) | (with_reducible refine Kd.C_drewN ?_ _) | (with_reducible refine Kd.C_drew ?_) | exact HR257_0.out)) | (with_reducible refine Kd.C_alloc ?_ _) | (with_reducible refine Kd.C_drewN ?_ _) | (with_reducible refine Kd.C_drew ?_))); (case side2 => exact HC257_0.out); rintro e w50 ⟨rfl, hb⟩; refine ⟨_, rfl, ?_⟩; have n0_ := Aside0.mk (Kd.S_below (by (with_reducible repeat (first | apply Kd.S_alloc | apply Kd.S_drewN | apply Kd.S_drew)); exact HO_7.out) hb); have n1_ := Aside0.mk (Kd.S_below (by (with_reducible repeat (first | apply Kd.S_alloc | apply Kd.S_drewN | apply Kd.S_drew)); exact HO_102.out) hb); have n2_ := Aside0.mk (Kd.R_below (by (with_reducible repeat (first | apply Kd.R_alloc | apply Kd.R_drewN | apply Kd.R_drew)); exact HL257_0.out) hb); have n3_ := Aside0.mk (Kd.C_below (by repeat (first | (with_reducible exact HR257_0.out) | (with_reducible refine Kd.C_alloc ?_ _) | (with_reducible refine Kd.C_drewN ?_ _) | (with_reducible refine Kd.C_drew ?_) | exact HR257_0.out)) hb); have n4_ := Aside0.mk (below_step (by repeat (first | (with_reducible first | exact HB.out | apply below_alloc | apply pw_below_drewN | apply below_drew1) | exact HB.out)) hb); clear HO_7; clear HO_102; clear HL257_0; clear HR257_0; clear HB; have HO_7 := n0_; have HO_102 := n1_; have HL257_0 := n2_; have HR257_0 := n3_; have HB := n4_; clear n0_ n1_ n2_ n3_ n4_; (try clear hb); (try clear hb2); (try clear hk); (try clear hi)) | ((with_reducible refine gate_callee (f := 17) rfl ?_); refine goesL_ (some 116) rfl rfl Try.func17 (by kernel_rfl) rfl #[.slice A257_0 (rd_L1 t244 x104_2).length c257_0] rfl (by (try simp only [List.map_toArray, List.map_cons, List.map_nil]); first | done | rfl | (simp only [List.length_drop, List.length_take]; rfl)) ?_; (with_reducible refine (impl_WeightOf.calls k2 _ _ (rd_L1 t244 x104_2) t260 true _ ?side1 ?side2 A44.out).mono ?_); (case side1 => repeat (first | exact (by repeat (first | (with_reducible exact HR257_0.out) | (with_reducible refine Kd.C_alloc ?_ _) | (with_reducible refine Kd.C_drewN ?_ _) | (with_reducible refine Kd.C_drew ?_) | exact HR257_0.out)) | (with_reducible refine Kd.C_alloc ?_ _) | (with_reducible refine Kd.C_drewN ?_ _) | (with_reducible refine Kd.C_drew ?_))); (case side2 => exact HC257_0.out); rintro e w' ⟨rfl, ⟨nd, rfl⟩⟩; refine ⟨_, rfl, ?_⟩))
                                    go_ret
                                    exact ⟨by first | rfl | (simp [errW_none, errW_some] <;> rfl) | (simp [*, errW_none, errW_some] <;> rfl), by repeat (first | (with_reducible first | exact HB.out | apply below_alloc | apply pw_below_drewN | apply below_drew1) | exact HB.out)⟩
                                  · rw [if_neg c49] at H
                                    have c49b0 : decide (t260 < t255) = false := decide_eq_false c49
                                    clear c49
                                    by_cases c51 : x104_2 > 0
                                    · rw [if_pos c51] at H
                                      have c51b0 : decide (0 < x104_2) = true := decide_eq_true c51
                                      clear c51
                                      obtain ⟨ji52, hji52⟩ : ∃ j_ : Int, (wrap64 (x104_2 - 1)) = j_ := ⟨_, rfl⟩
                                      replace H : (if 0 ≤ (ji52) then (if (ji52) < (t244.length : Int) then ((laws_rLess.f k2 (rd_L1 t244 (ji52)) (rd_L1 t244 x104_2)).bind fun t263 => (if t263 = true then (if x15_2 = true then (laws_FnSignedLists.l0 k2 l1 t242 t243 t244 t255 t256 true t244 (t244.length : Int) (wrap64 (x104_2 + 1))) else (laws_FnSignedLists.l0 k2 l1 t242 t243 t244 t255 t256 (t260 == t255) t244 (t244.length : Int) (wrap64 (x104_2 + 1)))) else (some false))) else (none)) else (none)) = some r := by first | (rw [hji52] at H; exact H) | (simp only [hji52] at H ⊢; exact H)
                                      (try rw [hji52] at A43)
                                      (try rw [hji52] at A44)
                                      have hji52w : (IntKind.i64.wrap (x104_2 - 1)) = ji52 := (i64_w _).trans hji52
                                      by_cases c53 : 0 ≤ (ji52)
                                      · rw [if_pos c53] at H
                                        have c53b0 : decide (0 ≤ (ji52)) = true := decide_eq_true c53
                                        clear c53
                                        by_cases c54 : (ji52) < (t244.length : Int)
                                        · rw [if_pos c54] at H
                                          have c54b0 : decide ((ji52) < (t244.length : Int)) = true := decide_eq_true c54
                                          clear c54
                                          replace H := Option.bind_eq_some_iff.mp H
                                          obtain ⟨t263, A550, H⟩ := H
                                          replace H : (if t263 = true then (if x15_2 = true then (laws_FnSignedLists.l0 k2 l1 t242 t243 t244 t255 t256 true t244 (t244.length : Int) (wrap64 (x104_2 + 1))) else (laws_FnSignedLists.l0 k2 l1 t242 t243 t244 t255 t256 (t260 == t255) t244 (t244.length : Int) (wrap64 (x104_2 + 1)))) else (some false)) = some r := H
                                          have A55 := Aside0.mk A550
                                          clear A550
                                          by_cases c56 : t263 = true
                                          · subst c56
                                            have H1 : (if x15_2 = true then (laws_FnSignedLists.l0 k2 l1 t242 t243 t244 t255 t256 true t244 (t244.length : Int) (wrap64 (x104_2 + 1))) else (laws_FnSignedLists.l0 k2 l1 t242 t243 t244 t255 t256 (t260 == t255) t244 (t244.length : Int) (wrap64 (x104_2 + 1)))) = some r := by rw [if_pos rfl] at H; exact H
                                            clear H
                                            have H := H1
                                            clear H1
                                            by_cases c57 : x15_2 = true
                                            · as_aux_lemma =>
                                              subst c57
                                              have H1 : (laws_FnSignedLists.l0 k2 l1 t242 t243 t244 t255 t256 true t244 (t244.length : Int) (wrap64 (x104_2 + 1))) = some r := by rw [if_pos rfl] at H; exact H
                                              clear H
                                              have H := H1
                                              clear H1
                                              have H' := Aside0.mk H
                                              clear H
                                              have p257 : 0 ≤ (x104_2 : Int) := of_decide_eq_true (by first | (with_reducible assumption) | assumption)
                                              have q257 : x104_2 < (t244.length : Int) := of_decide_eq_true (by first | (with_reducible assumption) | assumption)
                                              obtain ⟨ad257, A257_0, c257_0, e257, hx257_0, hl257_0, hi257_0⟩ := at_L1 (Kd.S_reads' HO_102.out).2.2 x104_2 p257 q257
                                              cases e257
                                              obtain ⟨ce257, hce257, hMe257, hcc257⟩ := Kd.S_get HO_102.out [] x104_2 p257 (by first | exact q257 | exact of_decide_eq_true (by first | (with_reducible assumption) | assumption) | (have e_ := (Kd.S_reads' HO_102.out).1; omega))
                                              obtain ⟨ve257_0, rfl, ge257_0⟩ := hMe257
                                              have hv257_0 := hcc257 0 _ rfl
                                              rw [Nat.add_zero, show ((Kd.slice 3 (Kd.int .i64))).sz = 1 from rfl, Nat.mul_one] at hv257_0
                                              replace hv257_0 := Option.some.inj (hv257_0.symm.trans hx257_0)
                                              rw [hv257_0] at ge257_0
                                              have HL257_0 := Aside0.mk (show Kd.R (Kd.int .i64) 3 _ _ _ _ (rd_L1 t244 x104_2) from ge257_0)
                                              clear hv257_0 ge257_0
                                              clear hcc257 hce257
                                              have HR257_0 := Aside0.mk hi257_0
                                              have HC257_0 := Aside0.mk hl257_0
                                              clear hi257_0 hl257_0
                                              replace p257 := eq_true p257
                                              replace q257 := eq_true q257
                                              go_wp2_with (first | ((with_reducible refine gate_callee (f := 16) rfl ?_); refine goesL_ (some 111) rfl rfl Try.func16 (by kernel_rfl) rfl #[.slice A257_0 (rd_L1 t244 x104_2).length c257_0] rfl (by (try simp only [List.map_toArray, List.map_cons, List.map_nil]); first | done | rfl | (simp only [List.length_drop, List.length_take]; rfl)) ?_; (with_reducible refine (impl_FromSigned.calls k2 _ _ (rd_L1 t244 x104_2) t258 true _ ?side1 ?side2 A43.out).mono ?_); (case side1 => repeat (first | exact (by repeat (first | (with_reducible exact HR257_0.out) | (with_reducible refine Kd.C_alloc ?_ _) | (with_reducible refine Kd.C_drewN ?_ _) | (with_reducible refine Kd.C_drew ?_) | exact HR257_0.out)) | (with_reducible refine Kd.C_alloc ?_ _) | (with_reducible refine Kd.C_drewN ?_ _) | (with_reducible refine Kd.C_drew ?_))); (case side2 => exact HC257_0.out); rintro e w58 ⟨rfl, hb⟩; refine ⟨_, rfl, ?_⟩; have n0_ := Aside0.mk (Kd.S_below (by (with_reducible repeat (first | apply Kd.S_alloc | apply Kd.S_drewN | apply Kd.S_drew)); exact HO_7.out) hb); have n1_ := Aside0.mk (Kd.S_below (by (with_reducible repeat (first | apply Kd.S_alloc | apply Kd.S_drewN | apply Kd.S_drew)); exact HO_102.out) hb); have n2_ := Aside0.mk (Kd.R_below (by (with_reducible repeat (first | apply Kd.R_alloc | apply Kd.R_drewN | apply Kd.R_drew)); exact HL257_0.out) hb); have n3_ := Aside0.mk (Kd.C_below (by repeat (first | (with_reducible exact HR257_0.out) | (with_reducible refine Kd.C_alloc ?_ _) | (with_reducible refine Kd.C_drewN ?_ _) | (with_reducible refine Kd.C_drew ?_) | exact HR257_0.out)) hb); have n4_ := Aside0.mk (below_step (by repeat (first | (with_reducible first | exact HB.out | apply below_alloc | apply pw_below_drewN | apply below_drew1) | exact HB.out)) hb); clear HO_7; clear HO_102; clear HL257_0; clear HR257_0; clear HB; have HO_7 := n0_; have HO_102 := n1_; have HL257_0 := n2_; have HR257_0 := n3_; have HB := n4_; clear n0_ n1_ n2_ n3_ n4_; (try clear hb); (try clear hb2); (try clear hk); (try clear hi)) | ((with_reducible refine gate_callee (f := 17) rfl ?_); refine goesL_ (some 116) rfl rfl Try.func17 (by kernel_rfl) rfl #[.slice A257_0 (rd_L1 t244 x104_2).length c257_0] rfl (by (try simp only [List.map_toArray, List.map_cons, List.map_nil]); first | done | rfl | (simp only [List.length_drop, List.length_take]; rfl)) ?_; (with_reducible refine (impl_WeightOf.calls k2 _ _ (rd_L1 t244 x104_2) t260 true _ ?side1 ?side2 A44.out).mono ?_); (case side1 => repeat (first | exact (by repeat (first | (with_reducible exact HR257_0.out) | (with_reducible refine Kd.C_alloc ?_ _) | (with_reducible refine Kd.C_drewN ?_ _) | (with_reducible refine Kd.C_drew ?_) | exact HR257_0.out)) | (with_reducible refine Kd.C_alloc ?_ _) | (with_reducible refine Kd.C_drewN ?_ _) | (with_reducible refine Kd.C_drew ?_))); (case side2 => exact HC257_0.out); rintro e w' ⟨rfl, ⟨nd, rfl⟩⟩; refine ⟨_, rfl, ?_⟩; have p262 : 0 ≤ ((ji52) : Int) := of_decide_eq_true (by first | (with_reducible assumption) | assumption); have q262 : (ji52) < (t244.length : Int) := of_decide_eq_true (by first | (with_reducible assumption) | assumption); obtain ⟨ad262, A262_0, c262_0, e262, hx262_0, hl262_0, hi262_0⟩ := at_L1 (Kd.S_reads' HO_7.out).2.2 (ji52) p262 q262; obtain rfl : ad257 = ad262 := (by injection e262); obtain ⟨ce262, hce262, hMe262, hcc262⟩ := Kd.S_get HO_7.out [] (ji52) p262 (by first | exact q262 | exact of_decide_eq_true (by first | (with_reducible assumption) | assumption) | (have e_ := (Kd.S_reads' HO_7.out).1; omega)); obtain ⟨ve262_0, rfl, ge262_0⟩ := hMe262; have hv262_0 := hcc262 0 _ rfl; rw [Nat.add_zero, show ((Kd.slice 3 (Kd.int .i64))).sz = 1 from rfl, Nat.mul_one] at hv262_0; replace hv262_0 := Option.some.inj (hv262_0.symm.trans hx262_0); rw [hv262_0] at ge262_0; have HL262_0 := Aside0.mk (show Kd.R (Kd.int .i64) 3 _ _ _ _ (rd_L1 t244 (ji52)) from ge262_0); clear hv262_0 ge262_0; clear hcc262 hce262; have HR262_0 := Aside0.mk hi262_0; have HC262_0 := Aside0.mk hl262_0; clear hi262_0 hl262_0; replace p262 := eq_true p262; replace q262 := eq_true q262) | (go_at_call 18; (with_reducible refine (laws_rLess.calls k2 _ _ (rd_L1 t244 (ji52)) _ _ (rd_L1 t244 x104_2) true _ ?side1 ?side2 ?side3 ?side4 A55.out).mono ?_); (case side1 => repeat (first | exact (by repeat (first | (with_reducible exact HR262_0.out) | (with_reducible refine Kd.C_alloc ?_ _) | (with_reducible refine Kd.C_drewN ?_ _) | (with_reducible refine Kd.C_drew ?_) | exact HR262_0.out)) | (with_reducible refine Kd.C_alloc ?_ _) | (with_reducible refine Kd.C_drewN ?_ _) | (with_reducible refine Kd.C_drew ?_))); (case side2 => exact HC262_0.out); (case side3 => repeat (first | exact (by repeat (first | (with_reducible exact HR257_0.out) | (with_reducible refine Kd.C_alloc ?_ _) | (with_reducible refine Kd.C_drewN ?_ _) | (with_reducible refine Kd.C_drew ?_) | exact HR257_0.out)) | (with_reducible refine Kd.C_alloc ?_ _) | (with_reducible refine Kd.C_drewN ?_ _) | (with_reducible refine Kd.C_drew ?_))); (case side4 => exact HC257_0.out); rintro e w' ⟨rfl, ⟨nd, rfl⟩⟩))
                                              go_roundg k2
                                              case measure => have := HJ8.out; have := HK2.out; omega
                                              case rel => exact ⟨(true), (wrap64 (x104_2 + 1)), (by first | rfl | (simp; done) | (simp [*]; done)), (by first | rfl | (simp; done) | (simp [*]; done)), H', ⟨by have := HJ8.out; have := HK2.out; omega⟩, ⟨by (with_reducible repeat (first | apply Kd.S_alloc | apply Kd.S_drewN | apply Kd.S_drew)); exact HO_7.out⟩, ⟨by (with_reducible repeat (first | apply Kd.S_alloc | apply Kd.S_drewN | apply Kd.S_drew)); exact HO_102.out⟩, ⟨by repeat (first | (with_reducible first | exact HB.out | apply below_alloc | apply pw_below_drewN | apply below_drew1) | exact HB.out)⟩⟩
                                            · as_aux_lemma =>
                                              replace c57 := Bool.eq_false_iff.mpr c57
                                              subst c57
                                              have H1 : (laws_FnSignedLists.l0 k2 l1 t242 t243 t244 t255 t256 (t260 == t255) t244 (t244.length : Int) (wrap64 (x104_2 + 1))) = some r := by rw [if_neg (show ¬ (false = true) by decide)] at H; exact H
                                              clear H
                                              have H := H1
                                              clear H1
                                              have H' := Aside0.mk H
                                              clear H
                                              have p257 : 0 ≤ (x104_2 : Int) := of_decide_eq_true (by first | (with_reducible assumption) | assumption)
                                              have q257 : x104_2 < (t244.length : Int) := of_decide_eq_true (by first | (with_reducible assumption) | assumption)
                                              obtain ⟨ad257, A257_0, c257_0, e257, hx257_0, hl257_0, hi257_0⟩ := at_L1 (Kd.S_reads' HO_102.out).2.2 x104_2 p257 q257
                                              cases e257
                                              obtain ⟨ce257, hce257, hMe257, hcc257⟩ := Kd.S_get HO_102.out [] x104_2 p257 (by first | exact q257 | exact of_decide_eq_true (by first | (with_reducible assumption) | assumption) | (have e_ := (Kd.S_reads' HO_102.out).1; omega))
                                              obtain ⟨ve257_0, rfl, ge257_0⟩ := hMe257
                                              have hv257_0 := hcc257 0 _ rfl
                                              rw [Nat.add_zero, show ((Kd.slice 3 (Kd.int .i64))).sz = 1 from rfl, Nat.mul_one] at hv257_0
                                              replace hv257_0 := Option.some.inj (hv257_0.symm.trans hx257_0)
                                              rw [hv257_0] at ge257_0
                                              have HL257_0 := Aside0.mk (show Kd.R (Kd.int .i64) 3 _ _ _ _ (rd_L1 t244 x104_2) from ge257_0)
                                              clear hv257_0 ge257_0
                                              clear hcc257 hce257
                                              have HR257_0 := Aside0.mk hi257_0
                                              have HC257_0 := Aside0.mk hl257_0
                                              clear hi257_0 hl257_0
                                              replace p257 := eq_true p257
                                              replace q257 := eq_true q257
                                              go_wp2_with (first | ((with_reducible refine gate_callee (f := 16) rfl ?_); refine goesL_ (some 111) rfl rfl Try.func16 (by kernel_rfl) rfl #[.slice A257_0 (rd_L1 t244 x104_2).length c257_0] rfl (by (try simp only [List.map_toArray, List.map_cons, List.map_nil]); first | done | rfl | (simp only [List.length_drop, List.length_take]; rfl)) ?_; (with_reducible refine (impl_FromSigned.calls k2 _ _ (rd_L1 t244 x104_2) t258 true _ ?side1 ?side2 A43.out).mono ?_); (case side1 => repeat (first | exact (by repeat (first | (with_reducible exact HR257_0.out) | (with_reducible refine Kd.C_alloc ?_ _) | (with_reducible refine Kd.C_drewN ?_ _) | (with_reducible refine Kd.C_drew ?_) | exact HR257_0.out)) | (with_reducible refine Kd.C_alloc ?_ _) | (with_reducible refine Kd.C_drewN ?_ _) | (with_reducible refine Kd.C_drew ?_))); (case side2 => exact HC257_0.out); rintro e w59 ⟨rfl, hb⟩; refine ⟨_, rfl, ?_⟩; have n0_ := Aside0.mk (Kd.S_below (by (with_reducible repeat (first | apply Kd.S_alloc | apply Kd.S_drewN | apply Kd.S_drew)); exact HO_7.out) hb); have n1_ := Aside0.mk (Kd.S_below (by (with_reducible repeat (first | apply Kd.S_alloc | apply Kd.S_drewN | apply Kd.S_drew)); exact HO_102.out) hb); have n2_ := Aside0.mk (Kd.R_below (by (with_reducible repeat (first | apply Kd.R_alloc | apply Kd.R_drewN | apply Kd.R_drew)); exact HL257_0.out) hb); have n3_ := Aside0.mk (Kd.C_below (by repeat (first | (with_reducible exact HR257_0.out) | (with_reducible refine Kd.C_alloc ?_ _) | (with_reducible refine Kd.C_drewN ?_ _) | (with_reducible refine Kd.C_drew ?_) | exact HR257_0.out)) hb); have n4_ := Aside0.mk (below_step (by repeat (first | (with_reducible first | exact HB.out | apply below_alloc | apply pw_below_drewN | apply below_drew1) | exact HB.out)) hb); clear HO_7; clear HO_102; clear HL257_0; clear HR257_0; clear HB; have HO_7 := n0_; have HO_102 := n1_; have HL257_0 := n2_; have HR257_0 := n3_; have HB := n4_; clear n0_ n1_ n2_ n3_ n4_; (try clear hb); (try clear hb2); (try clear hk); (try clear hi)) | ((with_reducible refine gate_callee (f := 17) rfl ?_); refine goesL_ (some 116) rfl rfl Try.func17 (by kernel_rfl) rfl #[.slice A257_0 (rd_L1 t244 x104_2).length c257_0] rfl (by (try simp only [List.map_toArray, List.map_cons, List.map_nil]); first | done | rfl | (simp only [List.length_drop, List.length_take]; rfl)) ?_; (with_reducible refine (impl_WeightOf.calls k2 _ _ (rd_L1 t244 x104_2) t260 true _ ?side1 ?side2 A44.out).mono ?_); (case side1 => repeat (first | exact (by repeat (first | (with_reducible exact HR257_0.out) | (with_reducible refine Kd.C_alloc ?_ _) | (with_reducible refine Kd.C_drewN ?_ _) | (with_reducible refine Kd.C_drew ?_) | exact HR257_0.out)) | (with_reducible refine Kd.C_alloc ?_ _) | (with_reducible refine Kd.C_drewN ?_ _) | (with_reducible refine Kd.C_drew ?_))); (case side2 => exact HC257_0.out); rintro e w' ⟨rfl, ⟨nd, rfl⟩⟩; refine ⟨_, rfl, ?_⟩; have p262 : 0 ≤ ((ji52) : Int) := of_decide_eq_true (by first | (with_reducible assumption) | assumption); have q262 : (ji52) < (t244.length : Int) := of_decide_eq_true (by first | (with_reducible assumption) | assumption); obtain ⟨ad262, A262_0, c262_0, e262, hx262_0, hl262_0, hi262_0⟩ := at_L1 (Kd.S_reads' HO_7.out).2.2 (ji52) p262 q262; obtain rfl : ad257 = ad262 := (by injection e262); obtain ⟨ce262, hce262, hMe262, hcc262⟩ := Kd.S_get HO_7.out [] (ji52) p262 (by first | exact q262 | exact of_decide_eq_true (by first | (with_reducible assumption) | assumption) | (have e_ := (Kd.S_reads' HO_7.out).1; omega)); obtain ⟨ve262_0, rfl, ge262_0⟩ := hMe262; have hv262_0 := hcc262 0 _ rfl; rw [Nat.add_zero, show ((Kd.slice 3 (Kd.int .i64))).sz = 1 from rfl, Nat.mul_one] at hv262_0; replace hv262_0 := Option.some.inj (hv262_0.symm.trans hx262_0); rw [hv262_0] at ge262_0; have HL262_0 := Aside0.mk (show Kd.R (Kd.int .i64) 3 _ _ _ _ (rd_L1 t244 (ji52)) from ge262_0); clear hv262_0 ge262_0; clear hcc262 hce262; have HR262_0 := Aside0.mk hi262_0; have HC262_0 := Aside0.mk hl262_0; clear hi262_0 hl262_0; replace p262 := eq_true p262; replace q262 := eq_true q262) | (go_at_call 18; (with_reducible refine (laws_rLess.calls k2 _ _ (rd_L1 t244 (ji52)) _ _ (rd_L1 t244 x104_2) true _ ?side1 ?side2 ?side3 ?side4 A55.out).mono ?_); (case side1 => repeat (first | exact (by repeat (first | (with_reducible exact HR262_0.out) | (with_reducible refine Kd.C_alloc ?_ _) | (with_reducible refine Kd.C_drewN ?_ _) | (with_reducible refine Kd.C_drew ?_) | exact HR262_0.out)) | (with_reducible refine Kd.C_alloc ?_ _) | (with_reducible refine Kd.C_drewN ?_ _) | (with_reducible refine Kd.C_drew ?_))); (case side2 => exact HC262_0.out); (case side3 => repeat (first | exact (by repeat (first | (with_reducible exact HR257_0.out) | (with_reducible refine Kd.C_alloc ?_ _) | (with_reducible refine Kd.C_drewN ?_ _) | (with_reducible refine Kd.C_drew ?_) | exact HR257_0.out)) | (with_reducible refine Kd.C_alloc ?_ _) | (with_reducible refine Kd.C_drewN ?_ _) | (with_reducible refine Kd.C_drew ?_))); (case side4 => exact HC257_0.out); rintro e w' ⟨rfl, ⟨nd, rfl⟩⟩))
                                              go_roundg k2
                                              case measure => have := HJ8.out; have := HK2.out; omega
                                              case rel => exact ⟨((t260 == t255)), (wrap64 (x104_2 + 1)), (by first | rfl | (simp; done) | (simp [*]; done)), (by first | rfl | (simp; done) | (simp [*]; done)), H', ⟨by have := HJ8.out; have := HK2.out; omega⟩, ⟨by (with_reducible repeat (first | apply Kd.S_alloc | apply Kd.S_drewN | apply Kd.S_drew)); exact HO_7.out⟩, ⟨by (with_reducible repeat (first | apply Kd.S_alloc | apply Kd.S_drewN | apply Kd.S_drew)); exact HO_102.out⟩, ⟨by repeat (first | (with_reducible first | exact HB.out | apply below_alloc | apply pw_below_drewN | apply below_drew1) | exact HB.out)⟩⟩
                                          · as_aux_lemma =>
                                            replace c56 := Bool.eq_false_iff.mpr c56
                                            subst c56
                                            have H1 : (some false) = some r := by rw [if_neg (show ¬ (false = true) by decide)] at H; exact H
                                            clear H
                                            have H := H1
                                            clear H1
                                            obtain rfl := Option.some.inj H
                                            have p257 : 0 ≤ (x104_2 : Int) := of_decide_eq_true (by first | (with_reducible assumption) | assumption)
                                            have q257 : x104_2 < (t244.length : Int) := of_decide_eq_true (by first | (with_reducible assumption) | assumption)
                                            obtain ⟨ad257, A257_0, c257_0, e257, hx257_0, hl257_0, hi257_0⟩ := at_L1 (Kd.S_reads' HO_102.out).2.2 x104_2 p257 q257
                                            cases e257
                                            obtain ⟨ce257, hce257, hMe257, hcc257⟩ := Kd.S_get HO_102.out [] x104_2 p257 (by first | exact q257 | exact of_decide_eq_true (by first | (with_reducible assumption) | assumption) | (have e_ := (Kd.S_reads' HO_102.out).1; omega))
                                            obtain ⟨ve257_0, rfl, ge257_0⟩ := hMe257
                                            have hv257_0 := hcc257 0 _ rfl
                                            rw [Nat.add_zero, show ((Kd.slice 3 (Kd.int .i64))).sz = 1 from rfl, Nat.mul_one] at hv257_0
                                            replace hv257_0 := Option.some.inj (hv257_0.symm.trans hx257_0)
                                            rw [hv257_0] at ge257_0
                                            have HL257_0 := Aside0.mk (show Kd.R (Kd.int .i64) 3 _ _ _ _ (rd_L1 t244 x104_2) from ge257_0)
                                            clear hv257_0 ge257_0
                                            clear hcc257 hce257
                                            have HR257_0 := Aside0.mk hi257_0
                                            have HC257_0 := Aside0.mk hl257_0
                                            clear hi257_0 hl257_0
                                            replace p257 := eq_true p257
                                            replace q257 := eq_true q257
                                            go_wp2_with (first | ((with_reducible refine gate_callee (f := 16) rfl ?_); refine goesL_ (some 111) rfl rfl Try.func16 (by kernel_rfl) rfl #[.slice A257_0 (rd_L1 t244 x104_2).length c257_0] rfl (by (try simp only [List.map_toArray, List.map_cons, List.map_nil]); first | done | rfl | (simp only [List.length_drop, List.length_take]; rfl)) ?_; (with_reducible refine (impl_FromSigned.calls k2 _ _ (rd_L1 t244 x104_2) t258 true _ ?side1 ?side2 A43.out).mono ?_); (case side1 => repeat (first | exact (by repeat (first | (with_reducible exact HR257_0.out) | (with_reducible refine Kd.C_alloc ?_ _) | (with_reducible refine Kd.C_drewN ?_ _) | (with_reducible refine Kd.C_drew ?_) | exact HR257_0.out)) | (with_reducible refine Kd.C_alloc ?_ _) | (with_reducible refine Kd.C_drewN ?_ _) | (with_reducible refine Kd.C_drew ?_))); (case side2 => exact HC257_0.out); rintro e w60 ⟨rfl, hb⟩; refine ⟨_, rfl, ?_⟩; have n0_ := Aside0.mk (Kd.S_below (by (with_reducible repeat (first | apply Kd.S_alloc | apply Kd.S_drewN | apply Kd.S_drew)); exact HO_7.out) hb); have n1_ := Aside0.mk (Kd.S_below (by (with_reducible repeat (first | apply Kd.S_alloc | apply Kd.S_drewN | apply Kd.S_drew)); exact HO_102.out) hb); have n2_ := Aside0.mk (Kd.R_below (by (with_reducible repeat (first | apply Kd.R_alloc | apply Kd.R_drewN | apply Kd.R_drew)); exact HL257_0.out) hb); have n3_ := Aside0.mk (Kd.C_below (by repeat (first | (with_reducible exact HR257_0.out) | (with_reducible refine Kd.C_alloc ?_ _) | (with_reducible refine Kd.C_drewN ?_ _) | (with_reducible refine Kd.C_drew ?_) | exact HR257_0.out)) hb); have n4_ := Aside0.mk (below_step (by repeat (first | (with_reducible first | exact HB.out | apply below_alloc | apply pw_below_drewN | apply below_drew1) | exact HB.out)) hb); clear HO_7; clear HO_102; clear HL257_0; clear HR257_0; clear HB; have HO_7 := n0_; have HO_102 := n1_; have HL257_0 := n2_; have HR257_0 := n3_; have HB := n4_; clear n0_ n1_ n2_ n3_ n4_; (try clear hb); (try clear hb2); (try clear hk); (try clear hi)) | ((with_reducible refine gate_callee (f := 17) rfl ?_); refine goesL_ (some 116) rfl rfl Try.func17 (by kernel_rfl) rfl #[.slice A257_0 (rd_L1 t244 x104_2).length c257_0] rfl (by (try simp only [List.map_toArray, List.map_cons, List.map_nil]); first | done | rfl | (simp only [List.length_drop, List.length_take]; rfl)) ?_; (with_reducible refine (impl_WeightOf.calls k2 _ _ (rd_L1 t244 x104_2) t260 true _ ?side1 ?side2 A44.out).mono ?_); (case side1 => repeat (first | exact (by repeat (first | (with_reducible exact HR257_0.out) | (with_reducible refine Kd.C_alloc ?_ _) | (with_reducible refine Kd.C_drewN ?_ _) | (with_reducible refine Kd.C_drew ?_) | exact HR257_0.out)) | (with_reducible refine Kd.C_alloc ?_ _) | (with_reducible refine Kd.C_drewN ?_ _) | (with_reducible refine Kd.C_drew ?_))); (case side2 => exact HC257_0.out); rintro e w' ⟨rfl, ⟨nd, rfl⟩⟩; refine ⟨_, rfl, ?_⟩; have p262 : 0 ≤ ((ji52) : Int) := of_decide_eq_true (by first | (with_reducible assumption) | assumption); have q262 : (ji52) < (t244.length : Int) := of_decide_eq_true (by first | (with_reducible assumption) | assumption); obtain ⟨ad262, A262_0, c262_0, e262, hx262_0, hl262_0, hi262_0⟩ := at_L1 (Kd.S_reads' HO_7.out).2.2 (ji52) p262 q262; obtain rfl : ad257 = ad262 := (by injection e262); obtain ⟨ce262, hce262, hMe262, hcc262⟩ := Kd.S_get HO_7.out [] (ji52) p262 (by first | exact q262 | exact of_decide_eq_true (by first | (with_reducible assumption) | assumption) | (have e_ := (Kd.S_reads' HO_7.out).1; omega)); obtain ⟨ve262_0, rfl, ge262_0⟩ := hMe262; have hv262_0 := hcc262 0 _ rfl; rw [Nat.add_zero, show ((Kd.slice 3 (Kd.int .i64))).sz = 1 from rfl, Nat.mul_one] at hv262_0; replace hv262_0 := Option.some.inj (hv262_0.symm.trans hx262_0); rw [hv262_0] at ge262_0; have HL262_0 := Aside0.mk (show Kd.R (Kd.int .i64) 3 _ _ _ _ (rd_L1 t244 (ji52)) from ge262_0); clear hv262_0 ge262_0; clear hcc262 hce262; have HR262_0 := Aside0.mk hi262_0; have HC262_0 := Aside0.mk hl262_0; clear hi262_0 hl262_0; replace p262 := eq_true p262; replace q262 := eq_true q262) | (go_at_call 18; (with_reducible refine (laws_rLess.calls k2 _ _ (rd_L1 t244 (ji52)) _ _ (rd_L1 t244 x104_2) false _ ?side1 ?side2 ?side3 ?side4 A55.out).mono ?_); (case side1 => repeat (first | exact (by repeat (first | (with_reducible exact HR262_0.out) | (with_reducible refine Kd.C_alloc ?_ _) | (with_reducible refine Kd.C_drewN ?_ _) | (with_reducible refine Kd.C_drew ?_) | exact HR262_0.out)) | (with_reducible refine Kd.C_alloc ?_ _) | (with_reducible refine Kd.C_drewN ?_ _) | (with_reducible refine Kd.C_drew ?_))); (case side2 => exact HC262_0.out); (case side3 => repeat (first | exact (by repeat (first | (with_reducible exact HR257_0.out) | (with_reducible refine Kd.C_alloc ?_ _) | (with_reducible refine Kd.C_drewN ?_ _) | (with_reducible refine Kd.C_drew ?_) | exact HR257_0.out)) | (with_reducible refine Kd.C_alloc ?_ _) | (with_reducible refine Kd.C_drewN ?_ _) | (with_reducible refine Kd.C_drew ?_))); (case side4 => exact HC257_0.out); rintro e w' ⟨rfl, ⟨nd, rfl⟩⟩))
                                            go_ret
                                            exact ⟨by first | rfl | (simp [errW_none, errW_some] <;> rfl) | (simp only [← hji52]; first | rfl | (simp [errW_none, errW_some] <;> rfl)) | (simp [*, errW_none, errW_some] <;> rfl), by repeat (first | (with_reducible first | exact HB.out | apply below_alloc | apply pw_below_drewN | apply below_drew1) | exact HB.out)⟩
                                        · rw [if_neg c54] at H
                                          exact absurd H (by simp)
                                      · rw [if_neg c53] at H
                                        exact absurd H (by simp)
                                    · rw [if_neg c51] at H
                                      have c51b0 : decide (0 < x104_2) = false := decide_eq_false c51
                                      clear c51
                                      by_cases c61 : x15_2 = true
                                      · as_aux_lemma =>
                                        subst c61
                                        have H1 : (laws_FnSignedLists.l0 k2 l1 t242 t243 t244 t255 t256 true t244 (t244.length : Int) (wrap64 (x104_2 + 1))) = some r := by rw [if_pos rfl] at H; exact H
                                        clear H
                                        have H := H1
                                        clear H1
                                        have H' := Aside0.mk H
                                        clear H
                                        have p257 : 0 ≤ (x104_2 : Int) := of_decide_eq_true (by first | (with_reducible assumption) | assumption)
                                        have q257 : x104_2 < (t244.length : Int) := of_decide_eq_true (by first | (with_reducible assumption) | assumption)
                                        obtain ⟨ad257, A257_0, c257_0, e257, hx257_0, hl257_0, hi257_0⟩ := at_L1 (Kd.S_reads' HO_102.out).2.2 x104_2 p257 q257
                                        cases e257
                                        obtain ⟨ce257, hce257, hMe257, hcc257⟩ := Kd.S_get HO_102.out [] x104_2 p257 (by first | exact q257 | exact of_decide_eq_true (by first | (with_reducible assumption) | assumption) | (have e_ := (Kd.S_reads' HO_102.out).1; omega))
                                        obtain ⟨ve257_0, rfl, ge257_0⟩ := hMe257
                                        have hv257_0 := hcc257 0 _ rfl
                                        rw [Nat.add_zero, show ((Kd.slice 3 (Kd.int .i64))).sz = 1 from rfl, Nat.mul_one] at hv257_0
                                        replace hv257_0 := Option.some.inj (hv257_0.symm.trans hx257_0)
                                        rw [hv257_0] at ge257_0
                                        have HL257_0 := Aside0.mk (show Kd.R (Kd.int .i64) 3 _ _ _ _ (rd_L1 t244 x104_2) from ge257_0)
                                        clear hv257_0 ge257_0
                                        clear hcc257 hce257
                                        have HR257_0 := Aside0.mk hi257_0
                                        have HC257_0 := Aside0.mk hl257_0
                                        clear hi257_0 hl257_0
                                        replace p257 := eq_true p257
                                        replace q257 := eq_true q257
                                        go_wp2_with (first | ((with_reducible refine gate_callee (f := 16) rfl ?_); refine goesL_ (some 111) rfl rfl Try.func16 (by kernel_rfl) rfl #[.slice A257_0 (rd_L1 t244 x104_2).length c257_0] rfl (by (try simp only [List.map_toArray, List.map_cons, List.map_nil]); first | done | rfl | (simp only [List.length_drop, List.length_take]; rfl)) ?_; (with_reducible refine (impl_FromSigned.calls k2 _ _ (rd_L1 t244 x104_2) t258 true _ ?side1 ?side2 A43.out).mono ?_); (case side1 => repeat (first | exact (by repeat (first | (with_reducible exact HR257_0.out) | (with_reducible refine Kd.C_alloc ?_ _) | (with_reducible refine Kd.C_drewN ?_ _) | (with_reducible refine Kd.C_drew ?_) | exact HR257_0.out)) | (with_reducible refine Kd.C_alloc ?_ _) | (with_reducible refine Kd.C_drewN ?_ _) | (with_reducible refine Kd.C_drew ?_))); (case side2 => exact HC257_0.out); rintro e w62 ⟨rfl, hb⟩; refine ⟨_, rfl, ?_⟩; have n0_ := Aside0.mk (Kd.S_below (by (with_reducible repeat (first | apply Kd.S_alloc | apply Kd.S_drewN | apply Kd.S_drew)); exact HO_7.out) hb); have n1_ := Aside0.mk (Kd.S_below (by (with_reducible repeat (first | apply Kd.S_alloc | apply Kd.S_drewN | apply Kd.S_drew)); exact HO_102.out) hb); have n2_ := Aside0.mk (Kd.R_below (by (with_reducible repeat (first | apply Kd.R_alloc | apply Kd.R_drewN | apply Kd.R_drew)); exact HL257_0.out) hb); have n3_ := Aside0.mk (Kd.C_below (by repeat (first | (with_reducible exact HR257_0.out) | (with_reducible refine Kd.C_alloc ?_ _) | (with_reducible refine Kd.C_drewN ?_ _) | (with_reducible refine Kd.C_drew ?_) | exact HR257_0.out)) hb); have n4_ := Aside0.mk (below_step (by repeat (first | (with_reducible first | exact HB.out | apply below_alloc | apply pw_below_drewN | apply below_drew1) | exact HB.out)) hb); clear HO_7; clear HO_102; clear HL257_0; clear HR257_0; clear HB; have HO_7 := n0_; have HO_102 := n1_; have HL257_0 := n2_; have HR257_0 := n3_; have HB := n4_; clear n0_ n1_ n2_ n3_ n4_; (try clear hb); (try clear hb2); (try clear hk); (try clear hi)) | ((with_reducible refine gate_callee (f := 17) rfl ?_); refine goesL_ (some 116) rfl rfl Try.func17 (by kernel_rfl) rfl #[.slice A257_0 (rd_L1 t244 x104_2).length c257_0] rfl (by (try simp only [List.map_toArray, List.map_cons, List.map_nil]); first | done | rfl | (simp only [List.length_drop, List.length_take]; rfl)) ?_; (with_reducible refine (impl_WeightOf.calls k2 _ _ (rd_L1 t244 x104_2) t260 true _ ?side1 ?side2 A44.out).mono ?_); (case side1 => repeat (first | exact (by repeat (first | (with_reducible exact HR257_0.out) | (with_reducible refine Kd.C_alloc ?_ _) | (with_reducible refine Kd.C_drewN ?_ _) | (with_reducible refine Kd.C_drew ?_) | exact HR257_0.out)) | (with_reducible refine Kd.C_alloc ?_ _) | (with_reducible refine Kd.C_drewN ?_ _) | (with_reducible refine Kd.C_drew ?_))); (case side2 => exact HC257_0.out); rintro e w' ⟨rfl, ⟨nd, rfl⟩⟩; refine ⟨_, rfl, ?_⟩))
                                        go_roundg k2
                                        case measure => have := HJ8.out; have := HK2.out; omega
                                        case rel => exact ⟨(true), (wrap64 (x104_2 + 1)), (by first | rfl | (simp; done) | (simp [*]; done)), (by first | rfl | (simp; done) | (simp [*]; done)), H', ⟨by have := HJ8.out; have := HK2.out; omega⟩, ⟨by (with_reducible repeat (first | apply Kd.S_alloc | apply Kd.S_drewN | apply Kd.S_drew)); exact HO_7.out⟩, ⟨by (with_reducible repeat (first | apply Kd.S_alloc | apply Kd.S_drewN | apply Kd.S_drew)); exact HO_102.out⟩, ⟨by repeat (first | (with_reducible first | exact HB.out | apply below_alloc | apply pw_below_drewN | apply below_drew1) | exact HB.out)⟩⟩
                                      · as_aux_lemma =>
                                        replace c61 := Bool.eq_false_iff.mpr c61
                                        subst c61
                                        have H1 : (laws_FnSignedLists.l0 k2 l1 t242 t243 t244 t255 t256 (t260 == t255) t244 (t244.length : Int) (wrap64 (x104_2 + 1))) = some r := by rw [if_neg (show ¬ (false = true) by decide)] at H; exact H
                                        clear H
                                        have H := H1
                                        clear H1
                                        have H' := Aside0.mk H
                                        clear H
                                        have p257 : 0 ≤ (x104_2 : Int) := of_decide_eq_true (by first | (with_reducible assumption) | assumption)
                                        have q257 : x104_2 < (t244.length : Int) := of_decide_eq_true (by first | (with_reducible assumption) | assumption)
                                        obtain ⟨ad257, A257_0, c257_0, e257, hx257_0, hl257_0, hi257_0⟩ := at_L1 (Kd.S_reads' HO_102.out).2.2 x104_2 p257 q257
                                        cases e257
                                        obtain ⟨ce257, hce257, hMe257, hcc257⟩ := Kd.S_get HO_102.out [] x104_2 p257 (by first | exact q257 | exact of_decide_eq_true (by first | (with_reducible assumption) | assumption) | (have e_ := (Kd.S_reads' HO_102.out).1; omega))
                                        obtain ⟨ve257_0, rfl, ge257_0⟩ := hMe257
                                        have hv257_0 := hcc257 0 _ rfl
                                        rw [Nat.add_zero, show ((Kd.slice 3 (Kd.int .i64))).sz = 1 from rfl, Nat.mul_one] at hv257_0
                                        replace hv257_0 := Option.some.inj (hv257_0.symm.trans hx257_0)
                                        rw [hv257_0] at ge257_0
                                        have HL257_0 := Aside0.mk (show Kd.R (Kd.int .i64) 3 _ _ _ _ (rd_L1 t244 x104_2) from ge257_0)
                                        clear hv257_0 ge257_0
                                        clear hcc257 hce257
                                        have HR257_0 := Aside0.mk hi257_0
                                        have HC257_0 := Aside0.mk hl257_0
                                        clear hi257_0 hl257_0
                                        replace p257 := eq_true p257
                                        replace q257 := eq_true q257
                                        go_wp2_with (first | ((with_reducible refine gate_callee (f := 16) rfl ?_); refine goesL_ (some 111) rfl rfl Try.func16 (by kernel_rfl) rfl #[.slice A257_0 (rd_L1 t244 x104_2).length c257_0] rfl (by (try simp only [List.map_toArray, List.map_cons, List.map_nil]); first | done | rfl | (simp only [List.length_drop, List.length_take]; rfl)) ?_; (with_reducible refine (impl_FromSigned.calls k2 _ _ (rd_L1 t244 x104_2) t258 true _ ?side1 ?side2 A43.out).mono ?_); (case side1 => repeat (first | exact (by repeat (first | (with_reducible exact HR257_0.out) | (with_reducible refine Kd.C_alloc ?_ _) | (with_reducible refine Kd.C_drewN ?_ _) | (with_reducible refine Kd.C_drew ?_) | exact HR257_0.out)) | (with_reducible refine Kd.C_alloc ?_ _) | (with_reducible refine Kd.C_drewN ?_ _) | (with_reducible refine Kd.C_drew ?_))); (case side2 => exact HC257_0.out); rintro e w63 ⟨rfl, hb⟩; refine ⟨_, rfl, ?_⟩; have n0_ := Aside0.mk (Kd.S_below (by (with_reducible repeat (first | apply Kd.S_alloc | apply Kd.S_drewN | apply Kd.S_drew)); exact HO_7.out) hb); have n1_ := Aside0.mk (Kd.S_below (by (with_reducible repeat (first | apply Kd.S_alloc | apply Kd.S_drewN | apply Kd.S_drew)); exact HO_102.out) hb); have n2_ := Aside0.mk (Kd.R_below (by (with_reducible repeat (first | apply Kd.R_alloc | apply Kd.R_drewN | apply Kd.R_drew)); exact HL257_0.out) hb); have n3_ := Aside0.mk (Kd.C_below (by repeat (first | (with_reducible exact HR257_0.out) | (with_reducible refine Kd.C_alloc ?_ _) | (with_reducible refine Kd.C_drewN ?_ _) | (with_reducible refine Kd.C_drew ?_) | exact HR257_0.out)) hb); have n4_ := Aside0.mk (below_step (by repeat (first | (with_reducible first | exact HB.out | apply below_alloc | apply pw_below_drewN | apply below_drew1) | exact HB.out)) hb); clear HO_7; clear HO_102; clear HL257_0; clear HR257_0; clear HB; have HO_7 := n0_; have HO_102 := n1_; have HL257_0 := n2_; have HR257_0 := n3_; have HB := n4_; clear n0_ n1_ n2_ n3_ n4_; (try clear hb); (try clear hb2); (try clear hk); (try clear hi)) | ((with_reducible refine gate_callee (f := 17) rfl ?_); refine goesL_ (some 116) rfl rfl Try.func17 (by kernel_rfl) rfl #[.slice A257_0 (rd_L1 t244 x104_2).length c257_0] rfl (by (try simp only [List.map_toArray, List.map_cons, List.map_nil]); first | done | rfl | (simp only [List.length_drop, List.length_take]; rfl)) ?_; (with_reducible refine (impl_WeightOf.calls k2 _ _ (rd_L1 t244 x104_2) t260 true _ ?side1 ?side2 A44.out).mono ?_); (case side1 => repeat (first | exact (by repeat (first | (with_reducible exact HR257_0.out) | (with_reducible refine Kd.C_alloc ?_ _) | (with_reducible refine Kd.C_drewN ?_ _) | (with_reducible refine Kd.C_drew ?_) | exact HR257_0.out)) | (with_reducible refine Kd.C_alloc ?_ _) | (with_reducible refine Kd.C_drewN ?_ _) | (with_reducible refine Kd.C_drew ?_))); (case side2 => exact HC257_0.out); rintro e w' ⟨rfl, ⟨nd, rfl⟩⟩; refine ⟨_, rfl, ?_⟩))
                                        go_roundg k2
                                        case measure => have := HJ8.out; have := HK2.out; omega
                                        case rel => exact ⟨((t260 == t255)), (wrap64 (x104_2 + 1)), (by first | rfl | (simp; done) | (simp [*]; done)), (by first | rfl | (simp; done) | (simp [*]; done)), H', ⟨by have := HJ8.out; have := HK2.out; omega⟩, ⟨by (with_reducible repeat (first | apply Kd.S_alloc | apply Kd.S_drewN | apply Kd.S_drew)); exact HO_7.out⟩, ⟨by (with_reducible repeat (first | apply Kd.S_alloc | apply Kd.S_drewN | apply Kd.S_drew)); exact HO_102.out⟩, ⟨by repeat (first | (with_reducible first | exact HB.out | apply below_alloc | apply pw_below_drewN | apply below_drew1) | exact HB.out)⟩⟩
                                · as_aux_lemma =>
                                  rw [if_neg c48] at H
                                  have c48b0 : (((rd_L1 t244 x104_2).length : Int) == t243) = false := beq_eq_false_iff_ne.mpr c48
                                  have c48b1 : (((rd_L1 t244 x104_2).length : Int) != t243) = true := bne_iff_ne.mpr c48
                                  obtain rfl := Option.some.inj H
                                  have p257 : 0 ≤ (x104_2 : Int) := of_decide_eq_true (by first | (with_reducible assumption) | assumption)
                                  have q257 : x104_2 < (t244.length : Int) := of_decide_eq_true (by first | (with_reducible assumption) | assumption)
                                  obtain ⟨ad257, A257_0, c257_0, e257, hx257_0, hl257_0, hi257_0⟩ := at_L1 (Kd.S_reads' HO_102.out).2.2 x104_2 p257 q257
                                  cases e257
                                  obtain ⟨ce257, hce257, hMe257, hcc257⟩ := Kd.S_get HO_102.out [] x104_2 p257 (by first | exact q257 | exact of_decide_eq_true (by first | (with_reducible assumption) | assumption) | (have e_ := (Kd.S_reads' HO_102.out).1; omega))
                                  obtain ⟨ve257_0, rfl, ge257_0⟩ := hMe257
                                  have hv257_0 := hcc257 0 _ rfl
                                  rw [Nat.add_zero, show ((Kd.slice 3 (Kd.int .i64))).sz = 1 from rfl, Nat.mul_one] at hv257_0
                                  replace hv257_0 := Option.some.inj (hv257_0.symm.trans hx257_0)
                                  rw [hv257_0] at ge257_0
                                  have HL257_0 := Aside0.mk (show Kd.R (Kd.int .i64) 3 _ _ _ _ (rd_L1 t244 x104_2) from ge257_0)
                                  clear hv257_0 ge257_0
                                  clear hcc257 hce257
                                  have HR257_0 := Aside0.mk hi257_0
                                  have HC257_0 := Aside0.mk hl257_0
                                  clear hi257_0 hl257_0
                                  replace p257 := eq_true p257
                                  replace q257 := eq_true q257
                                  go_wp2_with (first | ((with_reducible refine gate_callee (f := 16) rfl ?_); refine goesL_ (some 111) rfl rfl Try.func16 (by kernel_rfl) rfl #[.slice A257_0 (rd_L1 t244 x104_2).length c257_0] rfl (by (try simp only [List.map_toArray, List.map_cons, List.map_nil]); first | done | rfl | (simp only [List.length_drop, List.length_take]; rfl)) ?_; (with_reducible refine (impl_FromSigned.calls k2 _ _ (rd_L1 t244 x104_2) t258 true _ ?side1 ?side2 A43.out).mono ?_); (case side1 => repeat (first | exact (by repeat (first | (with_reducible exact HR257_0.out) | (with_reducible refine Kd.C_alloc ?_ _) | (with_reducible refine Kd.C_drewN ?_ _) | (with_reducible refine Kd.C_drew ?_) | exact HR257_0.out)) | (with_reducible refine Kd.C_alloc ?_ _) | (with_reducible refine Kd.C_drewN ?_ _) | (with_reducible refine Kd.C_drew ?_))); (case side2 => exact HC257_0.out); rintro e w64 ⟨rfl, hb⟩; refine ⟨_, rfl, ?_⟩; have n0_ := Aside0.mk (Kd.S_below (by (with_reducible repeat (first | apply Kd.S_alloc | apply Kd.S_drewN | apply Kd.S_drew)); exact HO_7.out) hb); have n1_ := Aside0.mk (Kd.S_below (by (with_reducible repeat (first | apply Kd.S_alloc | apply Kd.S_drewN | apply Kd.S_drew)); exact HO_102.out) hb); have n2_ := Aside0.mk (Kd.R_below (by (with_reducible repeat (first | apply Kd.R_alloc | apply Kd.R_drewN | apply Kd.R_drew)); exact HL257_0.out) hb); have n3_ := Aside0.mk (Kd.C_below (by repeat (first | (with_reducible exact HR257_0.out) | (with_reducible refine Kd.C_alloc ?_ _) | (with_reducible refine Kd.C_drewN ?_ _) | (with_reducible refine Kd.C_drew ?_) | exact HR257_0.out)) hb); have n4_ := Aside0.mk (below_step (by repeat (first | (with_reducible first | exact HB.out | apply below_alloc | apply pw_below_drewN | apply below_drew1) | exact HB.out)) hb); clear HO_7; clear HO_102; clear HL257_0; clear HR257_0; clear HB; have HO_7 := n0_; have HO_102 := n1_; have HL257_0 := n2_; have HR257_0 := n3_; have HB := n4_; clear n0_ n1_ n2_ n3_ n4_; (try clear hb); (try clear hb2); (try clear hk); (try clear hi)) | ((with_reducible refine gate_callee (f := 17) rfl ?_); refine goesL_ (some 116) rfl rfl Try.func17 (by kernel_rfl) rfl #[.slice A257_0 (rd_L1 t244 x104_2).length c257_0] rfl (by (try simp only [List.map_toArray, List.map_cons, List.map_nil]); first | done | rfl | (simp only [List.length_drop, List.length_take]; rfl)) ?_; (with_reducible refine (impl_WeightOf.calls k2 _ _ (rd_L1 t244 x104_2) t260 true _ ?side1 ?side2 A44.out).mono ?_); (case side1 => repeat (first | exact (by repeat (first | (with_reducible exact HR257_0.out) | (with_reducible refine Kd.C_alloc ?_ _) | (with_reducible refine Kd.C_drewN ?_ _) | (with_reducible refine Kd.C_drew ?_) | exact HR257_0.out)) | (with_reducible refine Kd.C_alloc ?_ _) | (with_reducible refine Kd.C_drewN ?_ _) | (with_reducible refine Kd.C_drew ?_))); (case side2 => exact HC257_0.out); rintro e w' ⟨rfl, ⟨nd, rfl⟩⟩; refine ⟨_, rfl, ?_⟩))
                                  go_ret
                                  exact ⟨by first | rfl | (simp [errW_none, errW_some] <;> rfl) | (simp [*, errW_none, errW_some] <;> rfl), by repeat (first | (with_reducible first | exact HB.out | apply below_alloc | apply pw_below_drewN | apply below_drew1) | exact HB.out)⟩
                              · as_aux_lemma =>
                                replace c47 := Bool.eq_false_iff.mpr c47
                                subst c47
                                have H1 : (some false) = some r := by rw [if_neg (show ¬ (false = true) by decide)] at H; exact H
                                clear H
                                have H := H1
                                clear H1
                                obtain rfl := Option.some.inj H
                                have p257 : 0 ≤ (x104_2 : Int) := of_decide_eq_true (by first | (with_reducible assumption) | assumption)
                                have q257 : x104_2 < (t244.length : Int) := of_decide_eq_true (by first | (with_reducible assumption) | assumption)
                                obtain ⟨ad257, A257_0, c257_0, e257, hx257_0, hl257_0, hi257_0⟩ := at_L1 (Kd.S_reads' HO_102.out).2.2 x104_2 p257 q257
                                cases e257
                                obtain ⟨ce257, hce257, hMe257, hcc257⟩ := Kd.S_get HO_102.out [] x104_2 p257 (by first | exact q257 | exact of_decide_eq_true (by first | (with_reducible assumption) | assumption) | (have e_ := (Kd.S_reads' HO_102.out).1; omega))
                                obtain ⟨ve257_0, rfl, ge257_0⟩ := hMe257
                                have hv257_0 := hcc257 0 _ rfl
                                rw [Nat.add_zero, show ((Kd.slice 3 (Kd.int .i64))).sz = 1 from rfl, Nat.mul_one] at hv257_0
                                replace hv257_0 := Option.some.inj (hv257_0.symm.trans hx257_0)
                                rw [hv257_0] at ge257_0
                                have HL257_0 := Aside0.mk (show Kd.R (Kd.int .i64) 3 _ _ _ _ (rd_L1 t244 x104_2) from ge257_0)
                                clear hv257_0 ge257_0
                                clear hcc257 hce257
                                have HR257_0 := Aside0.mk hi257_0
                                have HC257_0 := Aside0.mk hl257_0
                                clear hi257_0 hl257_0
                                replace p257 := eq_true p257
                                replace q257 := eq_true q257
                                go_wp2_with (first | ((with_reducible refine gate_callee (f := 16) rfl ?_); refine goesL_ (some 111) rfl rfl Try.func16 (by kernel_rfl) rfl #[.slice A257_0 (rd_L1 t244 x104_2).length c257_0] rfl (by (try simp only [List.map_toArray, List.map_cons, List.map_nil]); first | done | rfl | (simp only [List.length_drop, List.length_take]; rfl)) ?_; (with_reducible refine (impl_FromSigned.calls k2 _ _ (rd_L1 t244 x104_2) t258 true _ ?side1 ?side2 A43.out).mono ?_); (case side1 => repeat (first | exact (by repeat (first | (with_reducible exact HR257_0.out) | (with_reducible refine Kd.C_alloc ?_ _) | (with_reducible refine Kd.C_drewN ?_ _) | (with_reducible refine Kd.C_drew ?_) | exact HR257_0.out)) | (with_reducible refine Kd.C_alloc ?_ _) | (with_reducible refine Kd.C_drewN ?_ _) | (with_reducible refine Kd.C_drew ?_))); (case side2 => exact HC257_0.out); rintro e w65 ⟨rfl, hb⟩; refine ⟨_, rfl, ?_⟩; have n0_ := Aside0.mk (Kd.S_below (by (with_reducible repeat (first | apply Kd.S_alloc | apply Kd.S_drewN | apply Kd.S_drew)); exact HO_7.out) hb); have n1_ := Aside0.mk (Kd.S_below (by (with_reducible repeat (first | apply Kd.S_alloc | apply Kd.S_drewN | apply Kd.S_drew)); exact HO_102.out) hb); have n2_ := Aside0.mk (Kd.R_below (by (with_reducible repeat (first | apply Kd.R_alloc | apply Kd.R_drewN | apply Kd.R_drew)); exact HL257_0.out) hb); have n3_ := Aside0.mk (Kd.C_below (by repeat (first | (with_reducible exact HR257_0.out) | (with_reducible refine Kd.C_alloc ?_ _) | (with_reducible refine Kd.C_drewN ?_ _) | (with_reducible refine Kd.C_drew ?_) | exact HR257_0.out)) hb); have n4_ := Aside0.mk (below_step (by repeat (first | (with_reducible first | exact HB.out | apply below_alloc | apply pw_below_drewN | apply below_drew1) | exact HB.out)) hb); clear HO_7; clear HO_102; clear HL257_0; clear HR257_0; clear HB; have HO_7 := n0_; have HO_102 := n1_; have HL257_0 := n2_; have HR257_0 := n3_; have HB := n4_; clear n0_ n1_ n2_ n3_ n4_; (try clear hb); (try clear hb2); (try clear hk); (try clear hi)) | ((with_reducible refine gate_callee (f := 17) rfl ?_); refine goesL_ (some 116) rfl rfl Try.func17 (by kernel_rfl) rfl #[.slice A257_0 (rd_L1 t244 x104_2).length c257_0] rfl (by (try simp only [List.map_toArray, List.map_cons, List.map_nil]); first | done | rfl | (simp only [List.length_drop, List.length_take]; rfl)) ?_; (with_reducible refine (impl_WeightOf.calls k2 _ _ (rd_L1 t244 x104_2) t260 false _ ?side1 ?side2 A44.out).mono ?_); (case side1 => repeat (first | exact (by repeat (first | (with_reducible exact HR257_0.out) | (with_reducible refine Kd.C_alloc ?_ _) | (with_reducible refine Kd.C_drewN ?_ _) | (with_reducible refine Kd.C_drew ?_) | exact HR257_0.out)) | (with_reducible refine Kd.C_alloc ?_ _) | (with_reducible refine Kd.C_drewN ?_ _) | (with_reducible refine Kd.C_drew ?_))); (case side2 => exact HC257_0.out); rintro e w' ⟨rfl, ⟨nd, rfl⟩⟩; refine ⟨_, rfl, ?_⟩))
                                go_ret
                                exact ⟨by first | rfl | (simp [errW_none, errW_some] <;> rfl) | (simp [*, errW_none, errW_some] <;> rfl), by repeat (first | (with_reducible first | exact HB.out | apply below_alloc | apply pw_below_drewN | apply below_drew1) | exact HB.out)⟩
                            · as_aux_lemma =>
                              rw [if_neg c46] at H
                              have c46b0 : (t258 == t242) = false := beq_eq_false_iff_ne.mpr c46
                              have c46b1 : (t258 != t242) = true := bne_iff_ne.mpr c46
                              obtain rfl := Option.some.inj H
                              have p257 : 0 ≤ (x104_2 : Int) := of_decide_eq_true (by first | (with_reducible assumption) | assumption)
                              have q257 : x104_2 < (t244.length : Int) := of_decide_eq_true (by first | (with_reducible assumption) | assumption)
                              obtain ⟨ad257, A257_0, c257_0, e257, hx257_0, hl257_0, hi257_0⟩ := at_L1 (Kd.S_reads' HO_102.out).2.2 x104_2 p257 q257
                              cases e257
                              obtain ⟨ce257, hce257, hMe257, hcc257⟩ := Kd.S_get HO_102.out [] x104_2 p257 (by first | exact q257 | exact of_decide_eq_true (by first | (with_reducible assumption) | assumption) | (have e_ := (Kd.S_reads' HO_102.out).1; omega))
                              obtain ⟨ve257_0, rfl, ge257_0⟩ := hMe257
                              have hv257_0 := hcc257 0 _ rfl
                              rw [Nat.add_zero, show ((Kd.slice 3 (Kd.int .i64))).sz = 1 from rfl, Nat.mul_one] at hv257_0
                              replace hv257_0 := Option.some.inj (hv257_0.symm.trans hx257_0)
                              rw [hv257_0] at ge257_0
                              have HL257_0 := Aside0.mk (show Kd.R (Kd.int .i64) 3 _ _ _ _ (rd_L1 t244 x104_2) from ge257_0)
                              clear hv257_0 ge257_0
                              clear hcc257 hce257
                              have HR257_0 := Aside0.mk hi257_0
                              have HC257_0 := Aside0.mk hl257_0
                              clear hi257_0 hl257_0
                              replace p257 := eq_true p257
                              replace q257 := eq_true q257
                              go_wp2_with (first | ((with_reducible refine gate_callee (f := 16) rfl ?_); refine goesL_ (some 111) rfl rfl Try.func16 (by kernel_rfl) rfl #[.slice A257_0 (rd_L1 t244 x104_2).length c257_0] rfl (by (try simp only [List.map_toArray, List.map_cons, List.map_nil]); first | done | rfl | (simp only [List.length_drop, List.length_take]; rfl)) ?_; (with_reducible refine (impl_FromSigned.calls k2 _ _ (rd_L1 t244 x104_2) t258 true _ ?side1 ?side2 A43.out).mono ?_); (case side1 => repeat (first | exact (by repeat (first | (with_reducible exact HR257_0.out) | (with_reducible refine Kd.C_alloc ?_ _) | (with_reducible refine Kd.C_drewN ?_ _) | (with_reducible refine Kd.C_drew ?_) | exact HR257_0.out)) | (with_reducible refine Kd.C_alloc ?_ _) | (with_reducible refine Kd.C_drewN ?_ _) | (with_reducible refine Kd.C_drew ?_))); (case side2 => exact HC257_0.out); rintro e w66 ⟨rfl, hb⟩; refine ⟨_, rfl, ?_⟩; have n0_ := Aside0.mk (Kd.S_below (by (with_reducible repeat (first | apply Kd.S_alloc | apply Kd.S_drewN | apply Kd.S_drew)); exact HO_7.out) hb); have n1_ := Aside0.mk (Kd.S_below (by (with_reducible repeat (first | apply Kd.S_alloc | apply Kd.S_drewN | apply Kd.S_drew)); exact HO_102.out) hb); have n2_ := Aside0.mk (Kd.R_below (by (with_reducible repeat (first | apply Kd.R_alloc | apply Kd.R_drewN | apply Kd.R_drew)); exact HL257_0.out) hb); have n3_ := Aside0.mk (Kd.C_below (by repeat (first | (with_reducible exact HR257_0.out) | (with_reducible refine Kd.C_alloc ?_ _) | (with_reducible refine Kd.C_drewN ?_ _) | (with_reducible refine Kd.C_drew ?_) | exact HR257_0.out)) hb); have n4_ := Aside0.mk (below_step (by repeat (first | (with_reducible first | exact HB.out | apply below_alloc | apply pw_below_drewN | apply below_drew1) | exact HB.out)) hb); clear HO_7; clear HO_102; clear HL257_0; clear HR257_0; clear HB; have HO_7 := n0_; have HO_102 := n1_; have HL257_0 := n2_; have HR257_0 := n3_; have HB := n4_; clear n0_ n1_ n2_ n3_ n4_; (try clear hb); (try clear hb2); (try clear hk); (try clear hi)) | ((with_reducible refine gate_callee (f := 17) rfl ?_); refine goesL_ (some 116) rfl rfl Try.func17 (by kernel_rfl) rfl #[.slice A257_0 (rd_L1 t244 x104_2).length c257_0] rfl (by (try simp only [List.map_toArray, List.map_cons, List.map_nil]); first | done | rfl | (simp only [List.length_drop, List.length_take]; rfl)) ?_; (with_reducible refine (impl_WeightOf.calls k2 _ _ (rd_L1 t244 x104_2) t260 t261 _ ?side1 ?side2 A44.out).mono ?_); (case side1 => repeat (first | exact (by repeat (first | (with_reducible exact HR257_0.out) | (with_reducible refine Kd.C_alloc ?_ _) | (with_reducible refine Kd.C_drewN ?_ _) | (with_reducible refine Kd.C_drew ?_) | exact HR257_0.out)) | (with_reducible refine Kd.C_alloc ?_ _) | (with_reducible refine Kd.C_drewN ?_ _) | (with_reducible refine Kd.C_drew ?_))); (case side2 => exact HC257_0.out); rintro e w' ⟨rfl, ⟨nd, rfl⟩⟩; refine ⟨_, rfl, ?_⟩))
                              go_ret
                              exact ⟨by first | rfl | (simp [errW_none, errW_some] <;> rfl) | (simp [*, errW_none, errW_some] <;> rfl), by repeat (first | (with_reducible first | exact HB.out | apply below_alloc | apply pw_below_drewN | apply below_drew1) | exact HB.out)⟩
                          · as_aux_lemma =>
                            replace c45 := Bool.eq_false_iff.mpr c45
                            subst c45
                            have H1 : (some false) = some r := by rw [if_neg (show ¬ (false = true) by decide)] at H; exact H
                            clear H
                            have H := H1
                            clear H1
                            obtain rfl := Option.some.inj H
                            have p257 : 0 ≤ (x104_2 : Int) := of_decide_eq_true (by first | (with_reducible assumption) | assumption)
                            have q257 : x104_2 < (t244.length : Int) := of_decide_eq_true (by first | (with_reducible assumption) | assumption)
                            obtain ⟨ad257, A257_0, c257_0, e257, hx257_0, hl257_0, hi257_0⟩ := at_L1 (Kd.S_reads' HO_102.out).2.2 x104_2 p257 q257
                            cases e257
                            obtain ⟨ce257, hce257, hMe257, hcc257⟩ := Kd.S_get HO_102.out [] x104_2 p257 (by first | exact q257 | exact of_decide_eq_true (by first | (with_reducible assumption) | assumption) | (have e_ := (Kd.S_reads' HO_102.out).1; omega))
                            obtain ⟨ve257_0, rfl, ge257_0⟩ := hMe257
                            have hv257_0 := hcc257 0 _ rfl
                            rw [Nat.add_zero, show ((Kd.slice 3 (Kd.int .i64))).sz = 1 from rfl, Nat.mul_one] at hv257_0
                            replace hv257_0 := Option.some.inj (hv257_0.symm.trans hx257_0)
                            rw [hv257_0] at ge257_0
                            have HL257_0 := Aside0.mk (show Kd.R (Kd.int .i64) 3 _ _ _ _ (rd_L1 t244 x104_2) from ge257_0)
                            clear hv257_0 ge257_0
                            clear hcc257 hce257
                            have HR257_0 := Aside0.mk hi257_0
                            have HC257_0 := Aside0.mk hl257_0
                            clear hi257_0 hl257_0
                            replace p257 := eq_true p257
                            replace q257 := eq_true q257
                            go_wp2_with (first | ((with_reducible refine gate_callee (f := 16) rfl ?_); refine goesL_ (some 111) rfl rfl Try.func16 (by kernel_rfl) rfl #[.slice A257_0 (rd_L1 t244 x104_2).length c257_0] rfl (by (try simp only [List.map_toArray, List.map_cons, List.map_nil]); first | done | rfl | (simp only [List.length_drop, List.length_take]; rfl)) ?_; (with_reducible refine (impl_FromSigned.calls k2 _ _ (rd_L1 t244 x104_2) t258 false _ ?side1 ?side2 A43.out).mono ?_); (case side1 => repeat (first | exact (by repeat (first | (with_reducible exact HR257_0.out) | (with_reducible refine Kd.C_alloc ?_ _) | (with_reducible refine Kd.C_drewN ?_ _) | (with_reducible refine Kd.C_drew ?_) | exact HR257_0.out)) | (with_reducible refine Kd.C_alloc ?_ _) | (with_reducible refine Kd.C_drewN ?_ _) | (with_reducible refine Kd.C_drew ?_))); (case side2 => exact HC257_0.out); rintro e w67 ⟨rfl, hb⟩; refine ⟨_, rfl, ?_⟩; have n0_ := Aside0.mk (Kd.S_below (by (with_reducible repeat (first | apply Kd.S_alloc | apply Kd.S_drewN | apply Kd.S_drew)); exact HO_7.out) hb); have n1_ := Aside0.mk (Kd.S_below (by (with_reducible repeat (first | apply Kd.S_alloc | apply Kd.S_drewN | apply Kd.S_drew)); exact HO_102.out) hb); have n2_ := Aside0.mk (Kd.R_below (by (with_reducible repeat (first | apply Kd.R_alloc | apply Kd.R_drewN | apply Kd.R_drew)); exact HL257_0.out) hb); have n3_ := Aside0.mk (Kd.C_below (by repeat (first | (with_reducible exact HR257_0.out) | (with_reducible refine Kd.C_alloc ?_ _) | (with_reducible refine Kd.C_drewN ?_ _) | (with_reducible refine Kd.C_drew ?_) | exact HR257_0.out)) hb); have n4_ := Aside0.mk (below_step (by repeat (first | (with_reducible first | exact HB.out | apply below_alloc | apply pw_below_drewN | apply below_drew1) | exact HB.out)) hb); clear HO_7; clear HO_102; clear HL257_0; clear HR257_0; clear HB; have HO_7 := n0_; have HO_102 := n1_; have HL257_0 := n2_; have HR257_0 := n3_; have HB := n4_; clear n0_ n1_ n2_ n3_ n4_; (try clear hb); (try clear hb2); (try clear hk); (try clear hi)) | ((with_reducible refine gate_callee (f := 17) rfl ?_); refine goesL_ (some 116) rfl rfl Try.func17 (by kernel_rfl) rfl #[.slice A257_0 (rd_L1 t244 x104_2).length c257_0] rfl (by (try simp only [List.map_toArray, List.map_cons, List.map_nil]); first | done | rfl | (simp only [List.length_drop, List.length_take]; rfl)) ?_; (with_reducible refine (impl_WeightOf.calls k2 _ _ (rd_L1 t244 x104_2) t260 t261 _ ?side1 ?side2 A44.out).mono ?_); (case side1 => repeat (first | exact (by repeat (first | (with_reducible exact HR257_0.out) | (with_reducible refine Kd.C_alloc ?_ _) | (with_reducible refine Kd.C_drewN ?_ _) | (with_reducible refine Kd.C_drew ?_) | exact HR257_0.out)) | (with_reducible refine Kd.C_alloc ?_ _) | (with_reducible refine Kd.C_drewN ?_ _) | (with_reducible refine Kd.C_drew ?_))); (case side2 => exact HC257_0.out); rintro e w' ⟨rfl, ⟨nd, rfl⟩⟩; refine ⟨_, rfl, ?_⟩))
                            go_ret
                            exact ⟨by first | rfl | (simp [errW_none, errW_some] <;> rfl) | (simp [*, errW_none, errW_some] <;> rfl), by repeat (first | (with_reducible first | exact HB.out | apply below_alloc | apply pw_below_drewN | apply below_drew1) | exact HB.out)⟩
                        · rw [if_neg c42] at H
                          exact absurd H (by simp)
                      · rw [if_neg c41] at H
                        exact absurd H (by simp)
                    · rw [if_neg c40] at H
                      have c40b0 : decide (x104_2 < (t244.length : Int)) = false := decide_eq_false c40
                      clear c40
                      by_cases c68 : t256 = true
                      · subst c68
                        have H1 : (if x15_2 = true then (laws_FnSignedLists.j2 k2 l1) else (some false)) = some r := by rw [if_pos rfl] at H; exact H
                        clear H
                        have H := H1
                        clear H1
                        by_cases c69 : x15_2 = true
                        · subst c69
                          have H1 : (laws_FnSignedLists.j2 k2 l1) = some r := by rw [if_pos rfl] at H; exact H
                          clear H
                          have H := H1
                          clear H1
                          have H' := Aside0.mk H
                          clear H
                          go_wp2
                          go_meet
                          case rel => exact ⟨_, H', ⟨by have := HJ8.out; have := HK2.out; first | omega | exact Nat.le_refl _⟩, ⟨by repeat (first | (with_reducible first | exact HB.out | apply below_alloc | apply pw_below_drewN | apply below_drew1) | exact HB.out)⟩⟩
                        · as_aux_lemma =>
                          replace c69 := Bool.eq_false_iff.mpr c69
                          subst c69
                          have H1 : (some false) = some r := by rw [if_neg (show ¬ (false = true) by decide)] at H; exact H
                          clear H
                          have H := H1
                          clear H1
                          obtain rfl := Option.some.inj H
                          go_wp2
                          go_ret
                          exact ⟨by first | rfl | (simp [errW_none, errW_some] <;> rfl) | (simp [*, errW_none, errW_some] <;> rfl), by repeat (first | (with_reducible first | exact HB.out | apply below_alloc | apply pw_below_drewN | apply below_drew1) | exact HB.out)⟩
                      · replace c68 := Bool.eq_false_iff.mpr c68
                        subst c68
                        have H1 : (laws_FnSignedLists.j2 k2 l1) = some r := by rw [if_neg (show ¬ (false = true) by decide)] at H; exact H
                        clear H
                        have H := H1
                        clear H1
                        have H' := Aside0.mk H
                        clear H
                        go_wp2
                        go_meet
                        case rel => exact ⟨_, H', ⟨by have := HJ8.out; have := HK2.out; first | omega | exact Nat.le_refl _⟩, ⟨by repeat (first | (with_reducible first | exact HB.out | apply below_alloc | apply pw_below_drewN | apply below_drew1) | exact HB.out)⟩⟩
            · replace c37 := Bool.eq_false_iff.mpr c37
              subst c37
              have H1 : (laws_FnSignedLists.j2 kj8 l1) = some r := by rw [if_neg (show ¬ (false = true) by decide)] at H; exact H
              clear H
              have H := H1
              clear H1
              have H' := Aside0.mk H
              clear H
              go_wp2
              go_meet
              case rel => exact ⟨_, H', ⟨by have := HJ8.out; first | omega | exact Nat.le_refl _⟩, ⟨by repeat (first | (with_reducible first | exact HB.out | apply below_alloc | apply pw_below_drewN | apply below_drew1) | exact HB.out)⟩⟩
          case rest =>
            clear HC35
            try clear c1
            try clear c2
            try clear p2
            try clear q2
            try clear hx2
            try clear c3
            try clear c4
            try clear c5
            try clear c6
            try clear p6
            try clear c7
            try clear c11
            try clear c12
            try clear c13
            try clear c14
            try clear c14b0
            try clear c14b1
            try clear c14b2
            try clear c15
            try clear c16
            try clear c17
            try clear c18
            try clear c19
            try clear c19b0
            try clear c19b1
            try clear c25
            try clear p25
            try clear q25
            try clear hx25
            try clear c26
            try clear p26
            try clear q26
            try clear hx26
            try clear c33
            try clear c37
            try clear c38
            try clear c38b0
            try clear c38b1
            try clear c38b2
            try clear c40
            try clear c40b0
            try clear c41
            try clear c41b0
            try clear c42
            try clear c42b0
            try clear c45
            try clear c46
            try clear c46b0
            try clear c46b1
            try clear c47
            try clear c48
            try clear c48b0
            try clear c48b1
            try clear c49
            try clear c49b0
            try clear c51
            try clear c51b0
            try clear c53
            try clear c53b0
            try clear c54
            try clear c54b0
            try clear c56
            try clear c57
            try clear c61
            try clear p64
            try clear c68
            try clear c69
            try clear hx257_0
            try clear hx262_0
            try clear p2
            try clear p257
            try clear p262
            try clear q257
            try clear q262
            obtain ⟨kq, HA, HJ34, HB⟩ := hcut
            cases kq with
            | zero => exact absurd HA.out (by simp [laws_FnSignedLists.j2])
            | succ kj34 =>
              have H := HA.out
              clear HA
              simp only [laws_FnSignedLists.j2] at H
              replace H := Option.bind_eq_some_iff.mp H
              obtain ⟨⟨t264, t265⟩, A700, H⟩ := H
              replace H : ((impl_CountSigned.f t264 t265).bind fun bt266 => ((spec_CountSigned.f kj34 t264 t265).bind fun bt268 => ((impl_LeastWeight.f t264 t265).bind fun bt270 => ((spec_LeastWeight.f kj34 t264 t265).bind fun bt272 => (if (bt266.2 == bt268.2) = true then (if bt266.1 = bt268.1 then (if (bt270.2 == bt272.2) = true then (if bt270.1 = bt272.1 then (if bt266.2 = true then (some (bt270.2 == (decide (bt266.1 > 0)))) else (some true)) else (some false)) else (some false)) else (some false)) else (some false)))))) = some r := H
              have A70 := Aside0.mk A700
              clear A700
              replace H := Option.bind_eq_some_iff.mp H
              obtain ⟨⟨t266, t267⟩, A710, H⟩ := H
              replace H : ((spec_CountSigned.f kj34 t264 t265).bind fun bt268 => ((impl_LeastWeight.f t264 t265).bind fun bt270 => ((spec_LeastWeight.f kj34 t264 t265).bind fun bt272 => (if (t267 == bt268.2) = true then (if t266 = bt268.1 then (if (bt270.2 == bt272.2) = true then (if bt270.1 = bt272.1 then (if t267 = true then (some (bt270.2 == (decide (t266 > 0)))) else (some true)) else (some false)) else (some false)) else (some false)) else (some false))))) = some r := H
              have A71 := Aside0.mk A710
              clear A710
              replace H := Option.bind_eq_some_iff.mp H
              obtain ⟨⟨t268, t269⟩, A720, H⟩ := H
              replace H : ((impl_LeastWeight.f t264 t265).bind fun bt270 => ((spec_LeastWeight.f kj34 t264 t265).bind fun bt272 => (if (t267 == t269) = true then (if t266 = t268 then (if (bt270.2 == bt272.2) = true then (if bt270.1 = bt272.1 then (if t267 = true then (some (bt270.2 == (decide (t266 > 0)))) else (some true)) else (some false)) else (some false)) else (some false)) else (some false)))) = some r := H
              have A72 := Aside0.mk A720
              clear A720
              replace H := Option.bind_eq_some_iff.mp H
              obtain ⟨⟨t270, t271⟩, A730, H⟩ := H
              replace H : ((spec_LeastWeight.f kj34 t264 t265).bind fun bt272 => (if (t267 == t269) = true then (if t266 = t268 then (if (t271 == bt272.2) = true then (if t270 = bt272.1 then (if t267 = true then (some (t271 == (decide (t266 > 0)))) else (some true)) else (some false)) else (some false)) else (some false)) else (some false))) = some r := H
              have A73 := Aside0.mk A730
              clear A730
              replace H := Option.bind_eq_some_iff.mp H
              obtain ⟨⟨t272, t273⟩, A740, H⟩ := H
              replace H : (if (t267 == t269) = true then (if t266 = t268 then (if (t271 == t273) = true then (if t270 = t272 then (if t267 = true then (some (t271 == (decide (t266 > 0)))) else (some true)) else (some false)) else (some false)) else (some false)) else (some false)) = some r := H
              have A74 := Aside0.mk A740
              clear A740
              by_cases c75 : (t267 == t269) = true
              · rw [if_pos c75] at H
                have c75b0 : (t267 == t269) = true := c75
                (try (have c75b1 : decide (t267 = t269) = true := by simpa using c75))
                (try (have c75b2 : (t267 == t269) = true := by simpa using c75))
                clear c75
                by_cases c76 : t266 = t268
                · rw [if_pos c76] at H
                  have c76b0 : (t266 == t268) = true := beq_iff_eq.mpr c76
                  have c76b1 : (t266 != t268) = false := bne_eq_false_iff_eq.mpr c76
                  clear c76
                  by_cases c77 : (t271 == t273) = true
                  · rw [if_pos c77] at H
                    have c77b0 : (t271 == t273) = true := c77
                    (try (have c77b1 : decide (t271 = t273) = true := by simpa using c77))
                    (try (have c77b2 : (t271 == t273) = true := by simpa using c77))
                    clear c77
                    by_cases c78 : t270 = t272
                    · rw [if_pos c78] at H
                      have c78b0 : (t270 == t272) = true := beq_iff_eq.mpr c78
                      have c78b1 : (t270 != t272) = false := bne_eq_false_iff_eq.mpr c78
                      clear c78
                      by_cases c79 : t267 = true
                      · as_aux_lemma =>
                        subst c79
                        have H1 : (some (t271 == (decide (t266 > 0)))) = some r := by rw [if_pos rfl] at H; exact H
                        clear H
                        have H := H1
                        clear H1
                        obtain rfl := Option.some.inj H
                        go_wp2_with (first | ((with_reducible refine gate_callee (f := 19) rfl ?_); refine goesL_ (some 169) rfl rfl Try.func19 (by kernel_rfl) rfl #[.slice A1 l1.length c1] rfl (by (try simp only [List.map_toArray, List.map_cons, List.map_nil]); first | done | rfl | (simp only [List.length_drop, List.length_take]; rfl)) ?_; (with_reducible refine (spec_DrawCountSigned.calls _ _ l1 t264 t265 _ ?side1 ?side2 A70.out).mono ?_); (case side1 => repeat (first | exact (Kd.C_below HR1.out HB.out) | (with_reducible refine Kd.C_alloc ?_ _) | (with_reducible refine Kd.C_drewN ?_ _) | (with_reducible refine Kd.C_drew ?_))); (case side2 => exact HC1.out); rintro e w80 ⟨rfl, hb⟩; refine ⟨_, rfl, ?_⟩; have n0_ := Aside0.mk (below_step (by repeat (first | (with_reducible first | exact HB.out | apply below_alloc | apply pw_below_drewN | apply below_drew1) | exact HB.out)) hb); clear HB; have HB := n0_; clear n0_; (try clear hb); (try clear hb2); (try clear hk); (try clear hi)) | ((with_reducible refine gate_callee (f := 13) rfl ?_); refine goesL_ (some 175) rfl rfl Try.func13 (by kernel_rfl) rfl #[.int .i64 t264, .int .i64 t265] rfl (by (try simp only [List.map_toArray, List.map_cons, List.map_nil]); first | done | rfl | (simp only [List.length_drop, List.length_take]; rfl)) ?_; (with_reducible refine (impl_CountSigned.calls t264 t265 t266 true _ A71.out).mono ?_); rintro e w81 ⟨rfl, hb⟩; refine ⟨_, rfl, ?_⟩; have n0_ := Aside0.mk (below_step (by repeat (first | (with_reducible first | exact HB.out | apply below_alloc | apply pw_below_drewN | apply below_drew1) | exact HB.out)) hb); clear HB; have HB := n0_; clear n0_; (try clear hb); (try clear hb2); (try clear hk); (try clear hi)) | ((with_reducible refine gate_callee (f := 20) rfl ?_); refine goesL_ (some 181) rfl rfl Try.func20 (by kernel_rfl) rfl #[.int .i64 t264, .int .i64 t265] rfl (by (try simp only [List.map_toArray, List.map_cons, List.map_nil]); first | done | rfl | (simp only [List.length_drop, List.length_take]; rfl)) ?_; (with_reducible refine (spec_CountSigned.calls kj34 t264 t265 t268 t269 _ A72.out).mono ?_); rintro e w82 ⟨rfl, hb⟩; refine ⟨_, rfl, ?_⟩; have n0_ := Aside0.mk (below_step (by repeat (first | (with_reducible first | exact HB.out | apply below_alloc | apply pw_below_drewN | apply below_drew1) | exact HB.out)) hb); clear HB; have HB := n0_; clear n0_; (try clear hb); (try clear hb2); (try clear hk); (try clear hi)) | ((with_reducible refine gate_callee (f := 15) rfl ?_); refine goesL_ (some 187) rfl rfl Try.func15 (by kernel_rfl) rfl #[.int .i64 t264, .int .i64 t265] rfl (by (try simp only [List.map_toArray, List.map_cons, List.map_nil]); first | done | rfl | (simp only [List.length_drop, List.length_take]; rfl)) ?_; (with_reducible refine (impl_LeastWeight.calls t264 t265 t270 t271 _ A73.out).mono ?_); rintro e w83 ⟨rfl, hb⟩; refine ⟨_, rfl, ?_⟩; have n0_ := Aside0.mk (below_step (by repeat (first | (with_reducible first | exact HB.out | apply below_alloc | apply pw_below_drewN | apply below_drew1) | exact HB.out)) hb); clear HB; have HB := n0_; clear n0_; (try clear hb); (try clear hb2); (try clear hk); (try clear hi)) | ((with_reducible refine gate_callee (f := 21) rfl ?_); refine goesL_ (some 193) rfl rfl Try.func21 (by kernel_rfl) rfl #[.int .i64 t264, .int .i64 t265] rfl (by (try simp only [List.map_toArray, List.map_cons, List.map_nil]); first | done | rfl | (simp only [List.length_drop, List.length_take]; rfl)) ?_; (with_reducible refine (spec_LeastWeight.calls kj34 t264 t265 t272 t273 _ A74.out).mono ?_); rintro e w84 ⟨rfl, hb⟩; refine ⟨_, rfl, ?_⟩; have n0_ := Aside0.mk (below_step (by repeat (first | (with_reducible first | exact HB.out | apply below_alloc | apply pw_below_drewN | apply below_drew1) | exact HB.out)) hb); clear HB; have HB := n0_; clear n0_; (try clear hb); (try clear hb2); (try clear hk); (try clear hi)))
                        go_ret
                        exact ⟨by first | rfl | (simp [errW_none, errW_some] <;> rfl) | (simp [*, errW_none, errW_some] <;> rfl), by repeat (first | (with_reducible first | exact HB.out | apply below_alloc | apply pw_below_drewN | apply below_drew1) | exact HB.out)⟩
                      · as_aux_lemma =>
                        replace c79 := Bool.eq_false_iff.mpr c79
                        subst c79
                        have H1 : (some true) = some r := by rw [if_neg (show ¬ (false = true) by decide)] at H; exact H
                        clear H
                        have H := H1
                        clear H1
                        obtain rfl := Option.some.inj H
                        go_wp2_with (first | ((with_reducible refine gate_callee (f := 19) rfl ?_); refine goesL_ (some 169) rfl rfl Try.func19 (by kernel_rfl) rfl #[.slice A1 l1.length c1] rfl (by (try simp only [List.map_toArray, List.map_cons, List.map_nil]); first | done | rfl | (simp only [List.length_drop, List.length_take]; rfl)) ?_; (with_reducible refine (spec_DrawCountSigned.calls _ _ l1 t264 t265 _ ?side1 ?side2 A70.out).mono ?_); (case side1 => repeat (first | exact (Kd.C_below HR1.out HB.out) | (with_reducible refine Kd.C_alloc ?_ _) | (with_reducible refine Kd.C_drewN ?_ _) | (with_reducible refine Kd.C_drew ?_))); (case side2 => exact HC1.out); rintro e w85 ⟨rfl, hb⟩; refine ⟨_, rfl, ?_⟩; have n0_ := Aside0.mk (below_step (by repeat (first | (with_reducible first | exact HB.out | apply below_alloc | apply pw_below_drewN | apply below_drew1) | exact HB.out)) hb); clear HB; have HB := n0_; clear n0_; (try clear hb); (try clear hb2); (try clear hk); (try clear hi)) | ((with_reducible refine gate_callee (f := 13) rfl ?_); refine goesL_ (some 175) rfl rfl Try.func13 (by kernel_rfl) rfl #[.int .i64 t264, .int .i64 t265] rfl (by (try simp only [List.map_toArray, List.map_cons, List.map_nil]); first | done | rfl | (simp only [List.length_drop, List.length_take]; rfl)) ?_; (with_reducible refine (impl_CountSigned.calls t264 t265 t266 false _ A71.out).mono ?_); rintro e w86 ⟨rfl, hb⟩; refine ⟨_, rfl, ?_⟩; have n0_ := Aside0.mk (below_step (by repeat (first | (with_reducible first | exact HB.out | apply below_alloc | apply pw_below_drewN | apply below_drew1) | exact HB.out)) hb); clear HB; have HB := n0_; clear n0_; (try clear hb); (try clear hb2); (try clear hk); (try clear hi)) | ((with_reducible refine gate_callee (f := 20) rfl ?_); refine goesL_ (some 181) rfl rfl Try.func20 (by kernel_rfl) rfl #[.int .i64 t264, .int .i64 t265] rfl (by (try simp only [List.map_toArray, List.map_cons, List.map_nil]); first | done | rfl | (simp only [List.length_drop, List.length_take]; rfl)) ?_; (with_reducible refine (spec_CountSigned.calls kj34 t264 t265 t268 t269 _ A72.out).mono ?_); rintro e w87 ⟨rfl, hb⟩; refine ⟨_, rfl, ?_⟩; have n0_ := Aside0.mk (below_step (by repeat (first | (with_reducible first | exact HB.out | apply below_alloc | apply pw_below_drewN | apply below_drew1) | exact HB.out)) hb); clear HB; have HB := n0_; clear n0_; (try clear hb); (try clear hb2); (try clear hk); (try clear hi)) | ((with_reducible refine gate_callee (f := 15) rfl ?_); refine goesL_ (some 187) rfl rfl Try.func15 (by kernel_rfl) rfl #[.int .i64 t264, .int .i64 t265] rfl (by (try simp only [List.map_toArray, List.map_cons, List.map_nil]); first | done | rfl | (simp only [List.length_drop, List.length_take]; rfl)) ?_; (with_reducible refine (impl_LeastWeight.calls t264 t265 t270 t271 _ A73.out).mono ?_); rintro e w88 ⟨rfl, hb⟩; refine ⟨_, rfl, ?_⟩; have n0_ := Aside0.mk (below_step (by repeat (first | (with_reducible first | exact HB.out | apply below_alloc | apply pw_below_drewN | apply below_drew1) | exact HB.out)) hb); clear HB; have HB := n0_; clear n0_; (try clear hb); (try clear hb2); (try clear hk); (try clear hi)) | ((with_reducible refine gate_callee (f := 21) rfl ?_); refine goesL_ (some 193) rfl rfl Try.func21 (by kernel_rfl) rfl #[.int .i64 t264, .int .i64 t265] rfl (by (try simp only [List.map_toArray, List.map_cons, List.map_nil]); first | done | rfl | (simp only [List.length_drop, List.length_take]; rfl)) ?_; (with_reducible refine (spec_LeastWeight.calls kj34 t264 t265 t272 t273 _ A74.out).mono ?_); rintro e w89 ⟨rfl, hb⟩; refine ⟨_, rfl, ?_⟩; have n0_ := Aside0.mk (below_step (by repeat (first | (with_reducible first | exact HB.out | apply below_alloc | apply pw_below_drewN | apply below_drew1) | exact HB.out)) hb); clear HB; have HB := n0_; clear n0_; (try clear hb); (try clear hb2); (try clear hk); (try clear hi)))
                        go_ret
                        exact ⟨by first | rfl | (simp [errW_none, errW_some] <;> rfl) | (simp [*, errW_none, errW_some] <;> rfl), by repeat (first | (with_reducible first | exact HB.out | apply below_alloc | apply pw_below_drewN | apply below_drew1) | exact HB.out)⟩
                    · as_aux_lemma =>
                      rw [if_neg c78] at H
                      have c78b0 : (t270 == t272) = false := beq_eq_false_iff_ne.mpr c78
                      have c78b1 : (t270 != t272) = true := bne_iff_ne.mpr c78
                      obtain rfl := Option.some.inj H
                      go_wp2_with (first | ((with_reducible refine gate_callee (f := 19) rfl ?_); refine goesL_ (some 169) rfl rfl Try.func19 (by kernel_rfl) rfl #[.slice A1 l1.length c1] rfl (by (try simp only [List.map_toArray, List.map_cons, List.map_nil]); first | done | rfl | (simp only [List.length_drop, List.length_take]; rfl)) ?_; (with_reducible refine (spec_DrawCountSigned.calls _ _ l1 t264 t265 _ ?side1 ?side2 A70.out).mono ?_); (case side1 => repeat (first | exact (Kd.C_below HR1.out HB.out) | (with_reducible refine Kd.C_alloc ?_ _) | (with_reducible refine Kd.C_drewN ?_ _) | (with_reducible refine Kd.C_drew ?_))); (case side2 => exact HC1.out); rintro e w90 ⟨rfl, hb⟩; refine ⟨_, rfl, ?_⟩; have n0_ := Aside0.mk (below_step (by repeat (first | (with_reducible first | exact HB.out | apply below_alloc | apply pw_below_drewN | apply below_drew1) | exact HB.out)) hb); clear HB; have HB := n0_; clear n0_; (try clear hb); (try clear hb2); (try clear hk); (try clear hi)) | ((with_reducible refine gate_callee (f := 13) rfl ?_); refine goesL_ (some 175) rfl rfl Try.func13 (by kernel_rfl) rfl #[.int .i64 t264, .int .i64 t265] rfl (by (try simp only [List.map_toArray, List.map_cons, List.map_nil]); first | done | rfl | (simp only [List.length_drop, List.length_take]; rfl)) ?_; (with_reducible refine (impl_CountSigned.calls t264 t265 t266 t267 _ A71.out).mono ?_); rintro e w91 ⟨rfl, hb⟩; refine ⟨_, rfl, ?_⟩; have n0_ := Aside0.mk (below_step (by repeat (first | (with_reducible first | exact HB.out | apply below_alloc | apply pw_below_drewN | apply below_drew1) | exact HB.out)) hb); clear HB; have HB := n0_; clear n0_; (try clear hb); (try clear hb2); (try clear hk); (try clear hi)) | ((with_reducible refine gate_callee (f := 20) rfl ?_); refine goesL_ (some 181) rfl rfl Try.func20 (by kernel_rfl) rfl #[.int .i64 t264, .int .i64 t265] rfl (by (try simp only [List.map_toArray, List.map_cons, List.map_nil]); first | done | rfl | (simp only [List.length_drop, List.length_take]; rfl)) ?_; (with_reducible refine (spec_CountSigned.calls kj34 t264 t265 t268 t269 _ A72.out).mono ?_); rintro e w92 ⟨rfl, hb⟩; refine ⟨_, rfl, ?_⟩; have n0_ := Aside0.mk (below_step (by repeat (first | (with_reducible first | exact HB.out | apply below_alloc | apply pw_below_drewN | apply below_drew1) | exact HB.out)) hb); clear HB; have HB := n0_; clear n0_; (try clear hb); (try clear hb2); (try clear hk); (try clear hi)) | ((with_reducible refine gate_callee (f := 15) rfl ?_); refine goesL_ (some 187) rfl rfl Try.func15 (by kernel_rfl) rfl #[.int .i64 t264, .int .i64 t265] rfl (by (try simp only [List.map_toArray, List.map_cons, List.map_nil]); first | done | rfl | (simp only [List.length_drop, List.length_take]; rfl)) ?_; (with_reducible refine (impl_LeastWeight.calls t264 t265 t270 t271 _ A73.out).mono ?_); rintro e w93 ⟨rfl, hb⟩; refine ⟨_, rfl, ?_⟩; have n0_ := Aside0.mk (below_step (by repeat (first | (with_reducible first | exact HB.out | apply below_alloc | apply pw_below_drewN | apply below_drew1) | exact HB.out)) hb); clear HB; have HB := n0_; clear n0_; (try clear hb); (try clear hb2); (try clear hk); (try clear hi)) | ((with_reducible refine gate_callee (f := 21) rfl ?_); refine goesL_ (some 193) rfl rfl Try.func21 (by kernel_rfl) rfl #[.int .i64 t264, .int .i64 t265] rfl (by (try simp only [List.map_toArray, List.map_cons, List.map_nil]); first | done | rfl | (simp only [List.length_drop, List.length_take]; rfl)) ?_; (with_reducible refine (spec_LeastWeight.calls kj34 t264 t265 t272 t273 _ A74.out).mono ?_); rintro e w94 ⟨rfl, hb⟩; refine ⟨_, rfl, ?_⟩; have n0_ := Aside0.mk (below_step (by repeat (first | (with_reducible first | exact HB.out | apply below_alloc | apply pw_below_drewN | apply below_drew1) | exact HB.out)) hb); clear HB; have HB := n0_; clear n0_; (try clear hb); (try clear hb2); (try clear hk); (try clear hi)))
                      go_ret
                      exact ⟨by first | rfl | (simp [errW_none, errW_some] <;> rfl) | (simp [*, errW_none, errW_some] <;> rfl), by repeat (first | (with_reducible first | exact HB.out | apply below_alloc | apply pw_below_drewN | apply below_drew1) | exact HB.out)⟩
                  · as_aux_lemma =>
                    rw [if_neg c77] at H
                    have c77b0 : (t271 == t273) = false := by simpa using c77
                    (try (have c77b1 : decide (t271 = t273) = false := by simpa using c77))
                    (try (have c77b2 : (t271 == t273) = false := by simpa using c77))
                    (try (have c77b3 : ¬ (t271 = t273) := by simpa using c77))
                    clear c77
                    obtain rfl := Option.some.inj H
                    go_wp2_with (first | ((with_reducible refine gate_callee (f := 19) rfl ?_); refine goesL_ (some 169) rfl rfl Try.func19 (by kernel_rfl) rfl #[.slice A1 l1.length c1] rfl (by (try simp only [List.map_toArray, List.map_cons, List.map_nil]); first | done | rfl | (simp only [List.length_drop, List.length_take]; rfl)) ?_; (with_reducible refine (spec_DrawCountSigned.calls _ _ l1 t264 t265 _ ?side1 ?side2 A70.out).mono ?_); (case side1 => repeat (first | exact (Kd.C_below HR1.out HB.out) | (with_reducible refine Kd.C_alloc ?_ _) | (with_reducible refine Kd.C_drewN ?_ _) | (with_reducible refine Kd.C_drew ?_))); (case side2 => exact HC1.out); rintro e w95 ⟨rfl, hb⟩; refine ⟨_, rfl, ?_⟩; have n0_ := Aside0.mk (below_step (by repeat (first | (with_reducible first | exact HB.out | apply below_alloc | apply pw_below_drewN | apply below_drew1) | exact HB.out)) hb); clear HB; have HB := n0_; clear n0_; (try clear hb); (try clear hb2); (try clear hk); (try clear hi)) | ((with_reducible refine gate_callee (f := 13) rfl ?_); refine goesL_ (some 175) rfl rfl Try.func13 (by kernel_rfl) rfl #[.int .i64 t264, .int .i64 t265] rfl (by (try simp only [List.map_toArray, List.map_cons, List.map_nil]); first | done | rfl | (simp only [List.length_drop, List.length_take]; rfl)) ?_; (with_reducible refine (impl_CountSigned.calls t264 t265 t266 t267 _ A71.out).mono ?_); rintro e w96 ⟨rfl, hb⟩; refine ⟨_, rfl, ?_⟩; have n0_ := Aside0.mk (below_step (by repeat (first | (with_reducible first | exact HB.out | apply below_alloc | apply pw_below_drewN | apply below_drew1) | exact HB.out)) hb); clear HB; have HB := n0_; clear n0_; (try clear hb); (try clear hb2); (try clear hk); (try clear hi)) | ((with_reducible refine gate_callee (f := 20) rfl ?_); refine goesL_ (some 181) rfl rfl Try.func20 (by kernel_rfl) rfl #[.int .i64 t264, .int .i64 t265] rfl (by (try simp only [List.map_toArray, List.map_cons, List.map_nil]); first | done | rfl | (simp only [List.length_drop, List.length_take]; rfl)) ?_; (with_reducible refine (spec_CountSigned.calls kj34 t264 t265 t268 t269 _ A72.out).mono ?_); rintro e w97 ⟨rfl, hb⟩; refine ⟨_, rfl, ?_⟩; have n0_ := Aside0.mk (below_step (by repeat (first | (with_reducible first | exact HB.out | apply below_alloc | apply pw_below_drewN | apply below_drew1) | exact HB.out)) hb); clear HB; have HB := n0_; clear n0_; (try clear hb); (try clear hb2); (try clear hk); (try clear hi)) | ((with_reducible refine gate_callee (f := 15) rfl ?_); refine goesL_ (some 187) rfl rfl Try.func15 (by kernel_rfl) rfl #[.int .i64 t264, .int .i64 t265] rfl (by (try simp only [List.map_toArray, List.map_cons, List.map_nil]); first | done | rfl | (simp only [List.length_drop, List.length_take]; rfl)) ?_; (with_reducible refine (impl_LeastWeight.calls t264 t265 t270 t271 _ A73.out).mono ?_); rintro e w98 ⟨rfl, hb⟩; refine ⟨_, rfl, ?_⟩; have n0_ := Aside0.mk (below_step (by repeat (first | (with_reducible first | exact HB.out | apply below_alloc | apply pw_below_drewN | apply below_drew1) | exact HB.out)) hb); clear HB; have HB := n0_; clear n0_; (try clear hb); (try clear hb2); (try clear hk); (try clear hi)) | ((with_reducible refine gate_callee (f := 21) rfl ?_); refine goesL_ (some 193) rfl rfl Try.func21 (by kernel_rfl) rfl #[.int .i64 t264, .int .i64 t265] rfl (by (try simp only [List.map_toArray, List.map_cons, List.map_nil]); first | done | rfl | (simp only [List.length_drop, List.length_take]; rfl)) ?_; (with_reducible refine (spec_LeastWeight.calls kj34 t264 t265 t272 t273 _ A74.out).mono ?_); rintro e w99 ⟨rfl, hb⟩; refine ⟨_, rfl, ?_⟩; have n0_ := Aside0.mk (below_step (by repeat (first | (with_reducible first | exact HB.out | apply below_alloc | apply pw_below_drewN | apply below_drew1) | exact HB.out)) hb); clear HB; have HB := n0_; clear n0_; (try clear hb); (try clear hb2); (try clear hk); (try clear hi)))
                    go_ret
                    exact ⟨by first | rfl | (simp [errW_none, errW_some] <;> rfl) | (simp [*, errW_none, errW_some] <;> rfl), by repeat (first | (with_reducible first | exact HB.out | apply below_alloc | apply pw_below_drewN | apply below_drew1) | exact HB.out)⟩
                · as_aux_lemma =>
                  rw [if_neg c76] at H
                  have c76b0 : (t266 == t268) = false := beq_eq_false_iff_ne.mpr c76
                  have c76b1 : (t266 != t268) = true := bne_iff_ne.mpr c76
                  obtain rfl := Option.some.inj H
                  go_wp2_with (first | ((with_reducible refine gate_callee (f := 19) rfl ?_); refine goesL_ (some 169) rfl rfl Try.func19 (by kernel_rfl) rfl #[.slice A1 l1.length c1] rfl (by (try simp only [List.map_toArray, List.map_cons, List.map_nil]); first | done | rfl | (simp only [List.length_drop, List.length_take]; rfl)) ?_; (with_reducible refine (spec_DrawCountSigned.calls _ _ l1 t264 t265 _ ?side1 ?side2 A70.out).mono ?_); (case side1 => repeat (first | exact (Kd.C_below HR1.out HB.out) | (with_reducible refine Kd.C_alloc ?_ _) | (with_reducible refine Kd.C_drewN ?_ _) | (with_reducible refine Kd.C_drew ?_))); (case side2 => exact HC1.out); rintro e w100 ⟨rfl, hb⟩; refine ⟨_, rfl, ?_⟩; have n0_ := Aside0.mk (below_step (by repeat (first | (with_reducible first | exact HB.out | apply below_alloc | apply pw_below_drewN | apply below_drew1) | exact HB.out)) hb); clear HB; have HB := n0_; clear n0_; (try clear hb); (try clear hb2); (try clear hk); (try clear hi)) | ((with_reducible refine gate_callee (f := 13) rfl ?_); refine goesL_ (some 175) rfl rfl Try.func13 (by kernel_rfl) rfl #[.int .i64 t264, .int .i64 t265] rfl (by (try simp only [List.map_toArray, List.map_cons, List.map_nil]); first | done | rfl | (simp only [List.length_drop, List.length_take]; rfl)) ?_; (with_reducible refine (impl_CountSigned.calls t264 t265 t266 t267 _ A71.out).mono ?_); rintro e w101 ⟨rfl, hb⟩; refine ⟨_, rfl, ?_⟩; have n0_ := Aside0.mk (below_step (by repeat (first | (with_reducible first | exact HB.out | apply below_alloc | apply pw_below_drewN | apply below_drew1) | exact HB.out)) hb); clear HB; have HB := n0_; clear n0_; (try clear hb); (try clear hb2); (try clear hk); (try clear hi)) | ((with_reducible refine gate_callee (f := 20) rfl ?_); refine goesL_ (some 181) rfl rfl Try.func20 (by kernel_rfl) rfl #[.int .i64 t264, .int .i64 t265] rfl (by (try simp only [List.map_toArray, List.map_cons, List.map_nil]); first | done | rfl | (simp only [List.length_drop, List.length_take]; rfl)) ?_; (with_reducible refine (spec_CountSigned.calls kj34 t264 t265 t268 t269 _ A72.out).mono ?_); rintro e w102 ⟨rfl, hb⟩; refine ⟨_, rfl, ?_⟩; have n0_ := Aside0.mk (below_step (by repeat (first | (with_reducible first | exact HB.out | apply below_alloc | apply pw_below_drewN | apply below_drew1) | exact HB.out)) hb); clear HB; have HB := n0_; clear n0_; (try clear hb); (try clear hb2); (try clear hk); (try clear hi)) | ((with_reducible refine gate_callee (f := 15) rfl ?_); refine goesL_ (some 187) rfl rfl Try.func15 (by kernel_rfl) rfl #[.int .i64 t264, .int .i64 t265] rfl (by (try simp only [List.map_toArray, List.map_cons, List.map_nil]); first | done | rfl | (simp only [List.length_drop, List.length_take]; rfl)) ?_; (with_reducible refine (impl_LeastWeight.calls t264 t265 t270 t271 _ A73.out).mono ?_); rintro e w103 ⟨rfl, hb⟩; refine ⟨_, rfl, ?_⟩; have n0_ := Aside0.mk (below_step (by repeat (first | (with_reducible first | exact HB.out | apply below_alloc | apply pw_below_drewN | apply below_drew1) | exact HB.out)) hb); clear HB; have HB := n0_; clear n0_; (try clear hb); (try clear hb2); (try clear hk); (try clear hi)) | ((with_reducible refine gate_callee (f := 21) rfl ?_); refine goesL_ (some 193) rfl rfl Try.func21 (by kernel_rfl) rfl #[.int .i64 t264, .int .i64 t265] rfl (by (try simp only [List.map_toArray, List.map_cons, List.map_nil]); first | done | rfl | (simp only [List.length_drop, List.length_take]; rfl)) ?_; (with_reducible refine (spec_LeastWeight.calls kj34 t264 t265 t272 t273 _ A74.out).mono ?_); rintro e w104 ⟨rfl, hb⟩; refine ⟨_, rfl, ?_⟩; have n0_ := Aside0.mk (below_step (by repeat (first | (with_reducible first | exact HB.out | apply below_alloc | apply pw_below_drewN | apply below_drew1) | exact HB.out)) hb); clear HB; have HB := n0_; clear n0_; (try clear hb); (try clear hb2); (try clear hk); (try clear hi)))
                  go_ret
                  exact ⟨by first | rfl | (simp [errW_none, errW_some] <;> rfl) | (simp [*, errW_none, errW_some] <;> rfl), by repeat (first | (with_reducible first | exact HB.out | apply below_alloc | apply pw_below_drewN | apply below_drew1) | exact HB.out)⟩
              · as_aux_lemma =>
                rw [if_neg c75] at H
                have c75b0 : (t267 == t269) = false := by simpa using c75
                (try (have c75b1 : decide (t267 = t269) = false := by simpa using c75))
                (try (have c75b2 : (t267 == t269) = false := by simpa using c75))
                (try (have c75b3 : ¬ (t267 = t269) := by simpa using c75))
                clear c75
                obtain rfl := Option.some.inj H
                go_wp2_with (first | ((with_reducible refine gate_callee (f := 19) rfl ?_); refine goesL_ (some 169) rfl rfl Try.func19 (by kernel_rfl) rfl #[.slice A1 l1.length c1] rfl (by (try simp only [List.map_toArray, List.map_cons, List.map_nil]); first | done | rfl | (simp only [List.length_drop, List.length_take]; rfl)) ?_; (with_reducible refine (spec_DrawCountSigned.calls _ _ l1 t264 t265 _ ?side1 ?side2 A70.out).mono ?_); (case side1 => repeat (first | exact (Kd.C_below HR1.out HB.out) | (with_reducible refine Kd.C_alloc ?_ _) | (with_reducible refine Kd.C_drewN ?_ _) | (with_reducible refine Kd.C_drew ?_))); (case side2 => exact HC1.out); rintro e w105 ⟨rfl, hb⟩; refine ⟨_, rfl, ?_⟩; have n0_ := Aside0.mk (below_step (by repeat (first | (with_reducible first | exact HB.out | apply below_alloc | apply pw_below_drewN | apply below_drew1) | exact HB.out)) hb); clear HB; have HB := n0_; clear n0_; (try clear hb); (try clear hb2); (try clear hk); (try clear hi)) | ((with_reducible refine gate_callee (f := 13) rfl ?_); refine goesL_ (some 175) rfl rfl Try.func13 (by kernel_rfl) rfl #[.int .i64 t264, .int .i64 t265] rfl (by (try simp only [List.map_toArray, List.map_cons, List.map_nil]); first | done | rfl | (simp only [List.length_drop, List.length_take]; rfl)) ?_; (with_reducible refine (impl_CountSigned.calls t264 t265 t266 t267 _ A71.out).mono ?_); rintro e w106 ⟨rfl, hb⟩; refine ⟨_, rfl, ?_⟩; have n0_ := Aside0.mk (below_step (by repeat (first | (with_reducible first | exact HB.out | apply below_alloc | apply pw_below_drewN | apply below_drew1) | exact HB.out)) hb); clear HB; have HB := n0_; clear n0_; (try clear hb); (try clear hb2); (try clear hk); (try clear hi)) | ((with_reducible refine gate_callee (f := 20) rfl ?_); refine goesL_ (some 181) rfl rfl Try.func20 (by kernel_rfl) rfl #[.int .i64 t264, .int .i64 t265] rfl (by (try simp only [List.map_toArray, List.map_cons, List.map_nil]); first | done | rfl | (simp only [List.length_drop, List.length_take]; rfl)) ?_; (with_reducible refine (spec_CountSigned.calls kj34 t264 t265 t268 t269 _ A72.out).mono ?_); rintro e w107 ⟨rfl, hb⟩; refine ⟨_, rfl, ?_⟩; have n0_ := Aside0.mk (below_step (by repeat (first | (with_reducible first | exact HB.out | apply below_alloc | apply pw_below_drewN | apply below_drew1) | exact HB.out)) hb); clear HB; have HB := n0_; clear n0_; (try clear hb); (try clear hb2); (try clear hk); (try clear hi)) | ((with_reducible refine gate_callee (f := 15) rfl ?_); refine goesL_ (some 187) rfl rfl Try.func15 (by kernel_rfl) rfl #[.int .i64 t264, .int .i64 t265] rfl (by (try simp only [List.map_toArray, List.map_cons, List.map_nil]); first | done | rfl | (simp only [List.length_drop, List.length_take]; rfl)) ?_; (with_reducible refine (impl_LeastWeight.calls t264 t265 t270 t271 _ A73.out).mono ?_); rintro e w108 ⟨rfl, hb⟩; refine ⟨_, rfl, ?_⟩; have n0_ := Aside0.mk (below_step (by repeat (first | (with_reducible first | exact HB.out | apply below_alloc | apply pw_below_drewN | apply below_drew1) | exact HB.out)) hb); clear HB; have HB := n0_; clear n0_; (try clear hb); (try clear hb2); (try clear hk); (try clear hi)) | ((with_reducible refine gate_callee (f := 21) rfl ?_); refine goesL_ (some 193) rfl rfl Try.func21 (by kernel_rfl) rfl #[.int .i64 t264, .int .i64 t265] rfl (by (try simp only [List.map_toArray, List.map_cons, List.map_nil]); first | done | rfl | (simp only [List.length_drop, List.length_take]; rfl)) ?_; (with_reducible refine (spec_LeastWeight.calls kj34 t264 t265 t272 t273 _ A74.out).mono ?_); rintro e w109 ⟨rfl, hb⟩; refine ⟨_, rfl, ?_⟩; have n0_ := Aside0.mk (below_step (by repeat (first | (with_reducible first | exact HB.out | apply below_alloc | apply pw_below_drewN | apply below_drew1) | exact HB.out)) hb); clear HB; have HB := n0_; clear n0_; (try clear hb); (try clear hb2); (try clear hk); (try clear hi)))
                go_ret
                exact ⟨by first | rfl | (simp [errW_none, errW_some] <;> rfl) | (simp [*, errW_none, errW_some] <;> rfl), by repeat (first | (with_reducible first | exact HB.out | apply below_alloc | apply pw_below_drewN | apply below_drew1) | exact HB.out)⟩

/-- THE ONE PURE STATEMENT of laws_FnSignedLists: yours. -/
def laws_FnSignedLists.Pure : Prop := ∀ (l0 : List Int) (l1 : List Int), l0.length ≤ maxLen → l0.length * 1 ≤ 140737488351232 → (∀ x ∈ l0, (Lit.int .u8 x).wf = true) → l1.length ≤ maxLen → l1.length * 1 ≤ 140737488351232 → (∀ x ∈ l1, (Lit.int .u8 x).wf = true) → ∃ k, laws_FnSignedLists.f k l0 l1 = some true
theorem laws_FnSignedLists.walk (P : laws_FnSignedLists.Pure) (a0 : Option Addr) (len0 cap0 : Nat) (z0 : List Int) (a1 : Option Addr) (len1 cap1 : Nat) (z1 : List Int) (w : World) (w0 : (a0 = none ∧ len0 = 0 ∧ cap0 = 0 ∧ z0 = []) ∨ ∃ x, a0 = some x ∧ len0 ≤ cap0 ∧ cap0 ≤ maxLen ∧ z0.length = cap0 ∧ (∀ i, i < z0.length → w.cell? (x.add i) = some (.int .u8 (z0.getD i 0))) ∧ ∀ n ∈ z0, (Lit.int .u8 n).wf = true) (y0 : len0 * 1 ≤ 140737488351232) (w1 : (a1 = none ∧ len1 = 0 ∧ cap1 = 0 ∧ z1 = []) ∨ ∃ x, a1 = some x ∧ len1 ≤ cap1 ∧ cap1 ≤ maxLen ∧ z1.length = cap1 ∧ (∀ i, i < z1.length → w.cell? (x.add i) = some (.int .u8 (z1.getD i 0))) ∧ ∀ n ∈ z1, (Lit.int .u8 n).wf = true) (y1 : len1 * 1 ≤ 140737488351232) :
    Calls Try.prog 4 #[.slice a0 len0 cap0, .slice a1 len1 cap1] w fun e w' => e = .returned (.bool true) ∧ Below w.heap.size w w' := by
  obtain ⟨l0, rfl, hr0, hm0, hw0, hc0⟩ := ReadsInt.ofRowC w0
  obtain ⟨l1, rfl, hr1, hm1, hw1, hc1⟩ := ReadsInt.ofRowC w1
  obtain ⟨k, h⟩ := P l0 l1 hm0 y0 hw0 hm1 y1 hw1
  refine (laws_FnSignedLists.calls k _ _ l0 _ _ l1 true w (Kd.C_of_reads (d := (0 : Int)) (h1 := fun _ => rfl) hr0) hc0 (Kd.C_of_reads (d := (0 : Int)) (h1 := fun _ => rfl) hr1) hc1 h).mono ?_
  rintro e w' ⟨rfl, hd⟩
  exact ⟨rfl, hd⟩

end Go.Proofs.Ytldbcglgfabopaa.PFnSignedLists
