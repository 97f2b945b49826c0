-- Written by gprint.py, a program of this session, out of the translation (a changed print).
import Derived.Test.YtlmoemahamneoaaPFnSubtractionChainsx0
import Derived.Test.YtlmoemahamneoaaPFnSubtractionChainsx1
import Derived.Test.YtlmoemahamneoaaPFnSubtractionChainsx2
import Derived.Test.YtlmoemahamneoaaPFnSubtractionChainsx3
import Derived.Test.YtlmoemahamneoaaPFnSubtractionChainsx4
import Derived.Test.YtlmoemahamneoaaPFnSubtractionChainsx5
import Derived.Test.YtlmoemahamneoaaPFnSubtractionChainsx6
import Derived.Test.YtlmoemahamneoaaPFnSubtractionChainsx7
import Derived.Test.YtlmoemahamneoaaPFnSubtractionChainsx8
import Derived.Test.YtlmoemahamneoaaPFnSubtractionChainsx9
namespace Go.Proofs.Ytlmoemahamneoaa.PFnSubtractionChains
open Go.RowKit Go.Proofs.YtlmoemahamneoaaW.PrintWords Go.Proofs.YtlmoemahamneoaaW.PrintLast Go.Proofs.YtlmoemahamneoaaW.PrintMore
attribute [local go_sem] max2_int min2_int max_two min_two max_three min_three max_four min_four   -- for this text's walks alone
set_option linter.unusedVariables false
set_option linter.unusedSimpArgs false

/-! ### laws_FnSubtractionChains: function 13 -/
mutual
def laws_FnSubtractionChains.j0 : Nat → List Int → Int → List Int → Bool → Bool → Option (Bool)
  | 0, _, _, _, _, _ => none
  | k + 1, x1, x5, x6, x7, x48 => if x48 = true then (some false) else (if x7 = true then ((impl_SignedDigits.f k x5).bind fun bt355 => ((impl_WeightOf.f k bt355.1).bind fun bt359 => (if bt355.2 = true then (if bt359.2 = true then ((impl_IsSubtractionChain.f k x6).bind fun t361 => (if t361 = true then (if 0 ≤ (wrap64 ((x6.length : Int) - 1)) then (if (wrap64 ((x6.length : Int) - 1)) < (x6.length : Int) then (if (rd x6 (wrap64 ((x6.length : Int) - 1))) = x5 then (if (x6.length : Int) = (wrap64 ((wrap64 ((bt355.1.length : Int) + bt359.1)) - 1)) then (laws_FnSubtractionChains.j1 k x1) else (some false)) else (some false)) else (none)) else (none)) else (some false))) else (some false)) else (some false)))) else (laws_FnSubtractionChains.j1 k x1))
def laws_FnSubtractionChains.j1 : Nat → List Int → Option (Bool)
  | 0, _ => none
  | k + 1, x1 => (spec_DrawShortestSubtraction.f x1).bind fun bt363 => ((impl_ShortestSubtraction.f bt363.1 bt363.2).bind fun bt365 => ((impl_StarLength.f bt363.1).bind fun bt369 => ((spec_ShortestSubtraction.f k bt363.1 bt363.2).bind fun bt371 => (if (bt365.2 != bt371.2) = true then (laws_FnSubtractionChains.j2 k x1 bt363.1 bt363.2 bt365.1 bt365.2 bt369.1 bt369.2 true) else ((laws_rSame.f k bt365.1 bt371.1).bind fun t375 => (laws_FnSubtractionChains.j2 k x1 bt363.1 bt363.2 bt365.1 bt365.2 bt369.1 bt369.2 (!t375)))))))
def laws_FnSubtractionChains.j2 : Nat → List Int → Int → Int → List Int → Bool → Int → Bool → Bool → Option (Bool)
  | 0, _, _, _, _, _, _, _, _ => none
  | k + 1, x1, x14, x15, x16, x17, x18, x19, x121 => if x121 = true then (some false) else (if x17 = true then ((impl_IsSubtractionChain.f k x16).bind fun t376 => (if t376 = true then (if 0 ≤ (wrap64 ((x16.length : Int) - 1)) then (if (wrap64 ((x16.length : Int) - 1)) < (x16.length : Int) then (if (rd x16 (wrap64 ((x16.length : Int) - 1))) = x14 then (if x19 = true then (laws_FnSubtractionChains.j3 k x1 x15 x16 (decide ((x16.length : Int) > (wrap64 (x18 + 1))))) else (laws_FnSubtractionChains.j3 k x1 x15 x16 true)) else (laws_FnSubtractionChains.j3 k x1 x15 x16 true)) else (none)) else (none)) else (laws_FnSubtractionChains.j3 k x1 x15 x16 true))) else ((spec_DrawIsSubtractionChain.f k x1).bind fun t384 => ((impl_IsSubtractionChain.f k t384).bind fun t387 => ((spec_IsSubtractionChain.f k t384).bind fun t388 => (some (t387 == t388))))))
def laws_FnSubtractionChains.j3 : Nat → List Int → Int → List Int → Bool → Option (Bool)
  | 0, _, _, _, _ => none
  | k + 1, x1, x15, x16, x146 => if x146 = true then (some false) else (laws_FnSubtractionChains.l0 k x1 x15 x16 (x16.length : Int) 0)
def laws_FnSubtractionChains.l0 : Nat → List Int → Int → List Int → Int → Int → Option (Bool)
  | 0, _, _, _, _, _ => none
  | k + 1, x1, x15, x147, x148, x149 => if x149 < x148 then (if 0 ≤ x149 then (if x149 < (x147.length : Int) then (if (rd x147 x149) > x15 then (some false) else (laws_FnSubtractionChains.l0 k x1 x15 x147 x148 (wrap64 (x149 + 1)))) else (none)) else (none)) else ((spec_DrawIsSubtractionChain.f k x1).bind fun t379 => ((impl_IsSubtractionChain.f k t379).bind fun t382 => ((spec_IsSubtractionChain.f k t379).bind fun t383 => (some (t382 == t383)))))
end
def laws_FnSubtractionChains.f (k : Nat) (l0 : List Int) (l1 : List Int) : Option (Bool) := (laws_big.f l0 l1).bind fun t344 => (if t344 = true then (some true) else ((spec_DrawSubtractionChain.f l0).bind fun t345 => ((impl_SubtractionChain.f k t345).bind fun bt346 => ((spec_SubtractionChain.f k t345).bind fun bt350 => (if (bt346.2 != bt350.2) = true then (laws_FnSubtractionChains.j0 k l1 t345 bt346.1 bt346.2 true) else ((laws_rSame.f k bt346.1 bt350.1).bind fun t354 => (laws_FnSubtractionChains.j0 k l1 t345 bt346.1 bt346.2 (!t354))))))))
theorem laws_FnSubtractionChains.mono_l : ∀ k, (∀ y0 y1 y2 y3 y4, LeO (laws_FnSubtractionChains.j0 k y0 y1 y2 y3 y4) (laws_FnSubtractionChains.j0 (k + 1) y0 y1 y2 y3 y4)) ∧ (∀ y0, LeO (laws_FnSubtractionChains.j1 k y0) (laws_FnSubtractionChains.j1 (k + 1) y0)) ∧ (∀ y0 y1 y2 y3 y4 y5 y6 y7, LeO (laws_FnSubtractionChains.j2 k y0 y1 y2 y3 y4 y5 y6 y7) (laws_FnSubtractionChains.j2 (k + 1) y0 y1 y2 y3 y4 y5 y6 y7)) ∧ (∀ y0 y1 y2 y3, LeO (laws_FnSubtractionChains.j3 k y0 y1 y2 y3) (laws_FnSubtractionChains.j3 (k + 1) y0 y1 y2 y3)) ∧ (∀ y0 y1 y2 y3 y4, LeO (laws_FnSubtractionChains.l0 k y0 y1 y2 y3 y4) (laws_FnSubtractionChains.l0 (k + 1) y0 y1 y2 y3 y4))
  | 0 => ⟨fun _ _ _ _ _ r h => by simp [laws_FnSubtractionChains.j0] at h, fun _ r h => by simp [laws_FnSubtractionChains.j1] at h, fun _ _ _ _ _ _ _ _ r h => by simp [laws_FnSubtractionChains.j2] at h, fun _ _ _ _ r h => by simp [laws_FnSubtractionChains.j3] at h, fun _ _ _ _ _ r h => by simp [laws_FnSubtractionChains.l0] at h⟩
  | k + 1 => by
    obtain ⟨ih0, ih1, ih2, ih3, ih4⟩ := laws_FnSubtractionChains.mono_l k
    refine ⟨?_, ?_, ?_, ?_, ?_⟩
    · intro y0 y1 y2 y3 y4
      unfold laws_FnSubtractionChains.j0
      repeat' first
      | (with_reducible exact ih0 _ _ _ _ _)
      | (with_reducible exact ih1 _)
      | (with_reducible exact ih2 _ _ _ _ _ _ _ _)
      | (with_reducible exact ih3 _ _ _ _)
      | (with_reducible exact ih4 _ _ _ _ _)
      | (with_reducible exact impl_IsSubtractionChain.mono _ _)
      | (with_reducible exact impl_SignedDigits.mono _ _)
      | (with_reducible exact impl_SubtractionChain.mono _ _)
      | (with_reducible exact impl_WeightOf.mono _ _)
      | (with_reducible exact laws_rSame.mono _ _ _)
      | (with_reducible exact spec_DrawIsSubtractionChain.mono _ _)
      | (with_reducible exact spec_IsSubtractionChain.mono _ _)
      | (with_reducible exact spec_ShortestSubtraction.mono _ _ _)
      | (with_reducible exact spec_SubtractionChain.mono _ _)
      | (with_reducible exact LeO.refl _)
      | (with_reducible exact LeO.none _)
      | (with_reducible refine LeO.ite ?_ ?_)
      | (with_reducible refine LeO.bind ?_ (fun _ => ?_))
      | exact ih0 _ _ _ _ _
      | exact ih1 _
      | exact ih2 _ _ _ _ _ _ _ _
      | exact ih3 _ _ _ _
      | exact ih4 _ _ _ _ _
      | exact impl_IsSubtractionChain.mono _ _
      | exact impl_SignedDigits.mono _ _
      | exact impl_SubtractionChain.mono _ _
      | exact impl_WeightOf.mono _ _
      | exact laws_rSame.mono _ _ _
      | exact spec_DrawIsSubtractionChain.mono _ _
      | exact spec_IsSubtractionChain.mono _ _
      | exact spec_ShortestSubtraction.mono _ _ _
      | exact spec_SubtractionChain.mono _ _
      | exact LeO.none _
      | refine LeO.ite ?_ ?_
      | refine LeO.bind ?_ (fun _ => ?_)
    · intro y0
      unfold laws_FnSubtractionChains.j1
      repeat' first
      | (with_reducible exact ih0 _ _ _ _ _)
      | (with_reducible exact ih1 _)
      | (with_reducible exact ih2 _ _ _ _ _ _ _ _)
      | (with_reducible exact ih3 _ _ _ _)
      | (with_reducible exact ih4 _ _ _ _ _)
      | (with_reducible exact impl_IsSubtractionChain.mono _ _)
      | (with_reducible exact impl_SignedDigits.mono _ _)
      | (with_reducible exact impl_SubtractionChain.mono _ _)
      | (with_reducible exact impl_WeightOf.mono _ _)
      | (with_reducible exact laws_rSame.mono _ _ _)
      | (with_reducible exact spec_DrawIsSubtractionChain.mono _ _)
      | (with_reducible exact spec_IsSubtractionChain.mono _ _)
      | (with_reducible exact spec_ShortestSubtraction.mono _ _ _)
      | (with_reducible exact spec_SubtractionChain.mono _ _)
      | (with_reducible exact LeO.refl _)
      | (with_reducible exact LeO.none _)
      | (with_reducible refine LeO.ite ?_ ?_)
      | (with_reducible refine LeO.bind ?_ (fun _ => ?_))
      | exact ih0 _ _ _ _ _
      | exact ih1 _
      | exact ih2 _ _ _ _ _ _ _ _
      | exact ih3 _ _ _ _
      | exact ih4 _ _ _ _ _
      | exact impl_IsSubtractionChain.mono _ _
      | exact impl_SignedDigits.mono _ _
      | exact impl_SubtractionChain.mono _ _
      | exact impl_WeightOf.mono _ _
      | exact laws_rSame.mono _ _ _
      | exact spec_DrawIsSubtractionChain.mono _ _
      | exact spec_IsSubtractionChain.mono _ _
      | exact spec_ShortestSubtraction.mono _ _ _
      | exact spec_SubtractionChain.mono _ _
      | exact LeO.none _
      | refine LeO.ite ?_ ?_
      | refine LeO.bind ?_ (fun _ => ?_)
    · intro y0 y1 y2 y3 y4 y5 y6 y7
      unfold laws_FnSubtractionChains.j2
      repeat' first
      | (with_reducible exact ih0 _ _ _ _ _)
      | (with_reducible exact ih1 _)
      | (with_reducible exact ih2 _ _ _ _ _ _ _ _)
      | (with_reducible exact ih3 _ _ _ _)
      | (with_reducible exact ih4 _ _ _ _ _)
      | (with_reducible exact impl_IsSubtractionChain.mono _ _)
      | (with_reducible exact impl_SignedDigits.mono _ _)
      | (with_reducible exact impl_SubtractionChain.mono _ _)
      | (with_reducible exact impl_WeightOf.mono _ _)
      | (with_reducible exact laws_rSame.mono _ _ _)
      | (with_reducible exact spec_DrawIsSubtractionChain.mono _ _)
      | (with_reducible exact spec_IsSubtractionChain.mono _ _)
      | (with_reducible exact spec_ShortestSubtraction.mono _ _ _)
      | (with_reducible exact spec_SubtractionChain.mono _ _)
      | (with_reducible exact LeO.refl _)
      | (with_reducible exact LeO.none _)
      | (with_reducible refine LeO.ite ?_ ?_)
      | (with_reducible refine LeO.bind ?_ (fun _ => ?_))
      | exact ih0 _ _ _ _ _
      | exact ih1 _
      | exact ih2 _ _ _ _ _ _ _ _
      | exact ih3 _ _ _ _
      | exact ih4 _ _ _ _ _
      | exact impl_IsSubtractionChain.mono _ _
      | exact impl_SignedDigits.mono _ _
      | exact impl_SubtractionChain.mono _ _
      | exact impl_WeightOf.mono _ _
      | exact laws_rSame.mono _ _ _
      | exact spec_DrawIsSubtractionChain.mono _ _
      | exact spec_IsSubtractionChain.mono _ _
      | exact spec_ShortestSubtraction.mono _ _ _
      | exact spec_SubtractionChain.mono _ _
      | exact LeO.none _
      | refine LeO.ite ?_ ?_
      | refine LeO.bind ?_ (fun _ => ?_)
    · intro y0 y1 y2 y3
      unfold laws_FnSubtractionChains.j3
      repeat' first
      | (with_reducible exact ih0 _ _ _ _ _)
      | (with_reducible exact ih1 _)
      | (with_reducible exact ih2 _ _ _ _ _ _ _ _)
      | (with_reducible exact ih3 _ _ _ _)
      | (with_reducible exact ih4 _ _ _ _ _)
      | (with_reducible exact impl_IsSubtractionChain.mono _ _)
      | (with_reducible exact impl_SignedDigits.mono _ _)
      | (with_reducible exact impl_SubtractionChain.mono _ _)
      | (with_reducible exact impl_WeightOf.mono _ _)
      | (with_reducible exact laws_rSame.mono _ _ _)
      | (with_reducible exact spec_DrawIsSubtractionChain.mono _ _)
      | (with_reducible exact spec_IsSubtractionChain.mono _ _)
      | (with_reducible exact spec_ShortestSubtraction.mono _ _ _)
      | (with_reducible exact spec_SubtractionChain.mono _ _)
      | (with_reducible exact LeO.refl _)
      | (with_reducible exact LeO.none _)
      | (with_reducible refine LeO.ite ?_ ?_)
      | (with_reducible refine LeO.bind ?_ (fun _ => ?_))
      | exact ih0 _ _ _ _ _
      | exact ih1 _
      | exact ih2 _ _ _ _ _ _ _ _
      | exact ih3 _ _ _ _
      | exact ih4 _ _ _ _ _
      | exact impl_IsSubtractionChain.mono _ _
      | exact impl_SignedDigits.mono _ _
      | exact impl_SubtractionChain.mono _ _
      | exact impl_WeightOf.mono _ _
      | exact laws_rSame.mono _ _ _
      | exact spec_DrawIsSubtractionChain.mono _ _
      | exact spec_IsSubtractionChain.mono _ _
      | exact spec_ShortestSubtraction.mono _ _ _
      | exact spec_SubtractionChain.mono _ _
      | exact LeO.none _
      | refine LeO.ite ?_ ?_
      | refine LeO.bind ?_ (fun _ => ?_)
    · intro y0 y1 y2 y3 y4
      unfold laws_FnSubtractionChains.l0
      repeat' first
      | (with_reducible exact ih0 _ _ _ _ _)
      | (with_reducible exact ih1 _)
      | (with_reducible exact ih2 _ _ _ _ _ _ _ _)
      | (with_reducible exact ih3 _ _ _ _)
      | (with_reducible exact ih4 _ _ _ _ _)
      | (with_reducible exact impl_IsSubtractionChain.mono _ _)
      | (with_reducible exact impl_SignedDigits.mono _ _)
      | (with_reducible exact impl_SubtractionChain.mono _ _)
      | (with_reducible exact impl_WeightOf.mono _ _)
      | (with_reducible exact laws_rSame.mono _ _ _)
      | (with_reducible exact spec_DrawIsSubtractionChain.mono _ _)
      | (with_reducible exact spec_IsSubtractionChain.mono _ _)
      | (with_reducible exact spec_ShortestSubtraction.mono _ _ _)
      | (with_reducible exact spec_SubtractionChain.mono _ _)
      | (with_reducible exact LeO.refl _)
      | (with_reducible exact LeO.none _)
      | (with_reducible refine LeO.ite ?_ ?_)
      | (with_reducible refine LeO.bind ?_ (fun _ => ?_))
      | exact ih0 _ _ _ _ _
      | exact ih1 _
      | exact ih2 _ _ _ _ _ _ _ _
      | exact ih3 _ _ _ _
      | exact ih4 _ _ _ _ _
      | exact impl_IsSubtractionChain.mono _ _
      | exact impl_SignedDigits.mono _ _
      | exact impl_SubtractionChain.mono _ _
      | exact impl_WeightOf.mono _ _
      | exact laws_rSame.mono _ _ _
      | exact spec_DrawIsSubtractionChain.mono _ _
      | exact spec_IsSubtractionChain.mono _ _
      | exact spec_ShortestSubtraction.mono _ _ _
      | exact spec_SubtractionChain.mono _ _
      | exact LeO.none _
      | refine LeO.ite ?_ ?_
      | refine LeO.bind ?_ (fun _ => ?_)
theorem laws_FnSubtractionChains.mono : ∀ a0 a1 k, LeO (laws_FnSubtractionChains.f k a0 a1) (laws_FnSubtractionChains.f (k + 1) a0 a1) := by
  intro a0 a1 k
  obtain ⟨ih0, ih1, ih2, ih3, ih4⟩ := laws_FnSubtractionChains.mono_l k
  unfold laws_FnSubtractionChains.f
  repeat' first
      | (with_reducible exact ih0 _ _ _ _ _)
      | (with_reducible exact ih1 _)
      | (with_reducible exact ih2 _ _ _ _ _ _ _ _)
      | (with_reducible exact ih3 _ _ _ _)
      | (with_reducible exact ih4 _ _ _ _ _)
      | (with_reducible exact impl_IsSubtractionChain.mono _ _)
      | (with_reducible exact impl_SignedDigits.mono _ _)
      | (with_reducible exact impl_SubtractionChain.mono _ _)
      | (with_reducible exact impl_WeightOf.mono _ _)
      | (with_reducible exact laws_rSame.mono _ _ _)
      | (with_reducible exact spec_DrawIsSubtractionChain.mono _ _)
      | (with_reducible exact spec_IsSubtractionChain.mono _ _)
      | (with_reducible exact spec_ShortestSubtraction.mono _ _ _)
      | (with_reducible exact spec_SubtractionChain.mono _ _)
      | (with_reducible exact LeO.refl _)
      | (with_reducible exact LeO.none _)
      | (with_reducible refine LeO.ite ?_ ?_)
      | (with_reducible refine LeO.bind ?_ (fun _ => ?_))
      | exact ih0 _ _ _ _ _
      | exact ih1 _
      | exact ih2 _ _ _ _ _ _ _ _
      | exact ih3 _ _ _ _
      | exact ih4 _ _ _ _ _
      | exact impl_IsSubtractionChain.mono _ _
      | exact impl_SignedDigits.mono _ _
      | exact impl_SubtractionChain.mono _ _
      | exact impl_WeightOf.mono _ _
      | exact laws_rSame.mono _ _ _
      | exact spec_DrawIsSubtractionChain.mono _ _
      | exact spec_IsSubtractionChain.mono _ _
      | exact spec_ShortestSubtraction.mono _ _ _
      | exact spec_SubtractionChain.mono _ _
      | exact LeO.none _
      | refine LeO.ite ?_ ?_
      | refine LeO.bind ?_ (fun _ => ?_)
set_option maxHeartbeats 8000000 in
set_option maxRecDepth 100000 in
theorem laws_FnSubtractionChains.calls (k : Nat) (A0 : Option Addr) (c0 : Nat) (l0 : List Int) (A1 : Option Addr) (c1 : Nat) (l1 : List Int) (r : Bool) (w : World) (hr0 : Kd.C (Kd.int .u8) w A0 l0.length l0) (hc0 : l0.length ≤ c0) (hr1 : Kd.C (Kd.int .u8) w A1 l1.length l1) (hc1 : l1.length ≤ c1) (h : laws_FnSubtractionChains.f k l0 l1 = some r) :
    Calls Try.prog 13 #[.slice A0 l0.length c0, .slice A1 l1.length c1] w fun e w' => e = .returned (.bool r) ∧ Below w.heap.size w w' := by
  have HR0 := Aside0.mk hr0
  have HC0 := Aside0.mk hc0
  clear hr0 hc0
  have HR1 := Aside0.mk hr1
  have HC1 := Aside0.mk hc1
  clear hr1 hc1
  have HB := Aside0.mk (Below.refl w.heap.size w)
  have H : ((laws_big.f l0 l1).bind fun t344 => (if t344 = true then (some true) else ((spec_DrawSubtractionChain.f l0).bind fun t345 => ((impl_SubtractionChain.f k t345).bind fun bt346 => ((spec_SubtractionChain.f k t345).bind fun bt350 => (if (bt346.2 != bt350.2) = true then (laws_FnSubtractionChains.j0 k l1 t345 bt346.1 bt346.2 true) else ((laws_rSame.f k bt346.1 bt350.1).bind fun t354 => (laws_FnSubtractionChains.j0 k l1 t345 bt346.1 bt346.2 (!t354))))))))) = some r := h
  clear h
  replace H := Option.bind_eq_some_iff.mp H
  obtain ⟨t344, A30, H⟩ := H
  replace H : (if t344 = true then (some true) else ((spec_DrawSubtractionChain.f l0).bind fun t345 => ((impl_SubtractionChain.f k t345).bind fun bt346 => ((spec_SubtractionChain.f k t345).bind fun bt350 => (if (bt346.2 != bt350.2) = true then (laws_FnSubtractionChains.j0 k l1 t345 bt346.1 bt346.2 true) else ((laws_rSame.f k bt346.1 bt350.1).bind fun t354 => (laws_FnSubtractionChains.j0 k l1 t345 bt346.1 bt346.2 (!t354)))))))) = some r := H
  have A3 := Aside0.mk A30
  clear A30
  by_cases c4 : t344 = true
  · subst c4
    have H1 : (some true) = some r := by rw [if_pos rfl] at H; exact H
    clear H
    have H := H1
    clear H1
    obtain rfl := Option.some.inj H
    go_enter Try.func13, Try.ntmps13
    go_wp2_with (first | ((with_reducible refine gate_callee (f := 14) rfl ?_); refine goesL_ (some 27) rfl rfl Try.func14 (by kernel_rfl) rfl #[.slice A0 l0.length c0, .slice A1 l1.length c1] rfl (by (try simp only [List.map_toArray, List.map_cons, List.map_nil]); first | done | rfl | (simp only [List.length_drop, List.length_take]; rfl)) ?_; (with_reducible refine (laws_big.calls _ _ l0 _ _ l1 true _ ?side1 ?side2 ?side3 ?side4 A3.out).mono ?_); (case side1 => repeat (first | exact HR0.out | (with_reducible refine Kd.C_alloc ?_ _) | (with_reducible refine Kd.C_drewN ?_ _) | (with_reducible refine Kd.C_drew ?_))); (case side2 => exact HC0.out); (case side3 => repeat (first | exact HR1.out | (with_reducible refine Kd.C_alloc ?_ _) | (with_reducible refine Kd.C_drewN ?_ _) | (with_reducible refine Kd.C_drew ?_))); (case side4 => exact HC1.out); rintro e w' ⟨rfl, ⟨nd, rfl⟩⟩; refine ⟨_, rfl, ?_⟩))
    go_ret
    exact ⟨by first | rfl | (simp [errW_none, errW_some] <;> rfl) | (simp [*, errW_none, errW_some] <;> rfl), by repeat (first | (with_reducible first | exact HB.out | apply below_alloc | apply pw_below_drewN | apply below_drew1) | exact HB.out)⟩
  · replace c4 := Bool.eq_false_iff.mpr c4
    subst c4
    have H1 : ((spec_DrawSubtractionChain.f l0).bind fun t345 => ((impl_SubtractionChain.f k t345).bind fun bt346 => ((spec_SubtractionChain.f k t345).bind fun bt350 => (if (bt346.2 != bt350.2) = true then (laws_FnSubtractionChains.j0 k l1 t345 bt346.1 bt346.2 true) else ((laws_rSame.f k bt346.1 bt350.1).bind fun t354 => (laws_FnSubtractionChains.j0 k l1 t345 bt346.1 bt346.2 (!t354))))))) = some r := by rw [if_neg (show ¬ (false = true) by decide)] at H; exact H
    clear H
    have H := H1
    clear H1
    replace H := Option.bind_eq_some_iff.mp H
    obtain ⟨t345, A50, H⟩ := H
    replace H : ((impl_SubtractionChain.f k t345).bind fun bt346 => ((spec_SubtractionChain.f k t345).bind fun bt350 => (if (bt346.2 != bt350.2) = true then (laws_FnSubtractionChains.j0 k l1 t345 bt346.1 bt346.2 true) else ((laws_rSame.f k bt346.1 bt350.1).bind fun t354 => (laws_FnSubtractionChains.j0 k l1 t345 bt346.1 bt346.2 (!t354)))))) = some r := H
    have A5 := Aside0.mk A50
    clear A50
    replace H := Option.bind_eq_some_iff.mp H
    obtain ⟨⟨t346, t347⟩, A60, H⟩ := H
    replace H : ((spec_SubtractionChain.f k t345).bind fun bt350 => (if (t347 != bt350.2) = true then (laws_FnSubtractionChains.j0 k l1 t345 t346 t347 true) else ((laws_rSame.f k t346 bt350.1).bind fun t354 => (laws_FnSubtractionChains.j0 k l1 t345 t346 t347 (!t354))))) = some r := H
    have A6 := Aside0.mk A60
    clear A60
    replace H := Option.bind_eq_some_iff.mp H
    obtain ⟨⟨t350, t351⟩, A70, H⟩ := H
    replace H : (if (t347 != t351) = true then (laws_FnSubtractionChains.j0 k l1 t345 t346 t347 true) else ((laws_rSame.f k t346 t350).bind fun t354 => (laws_FnSubtractionChains.j0 k l1 t345 t346 t347 (!t354)))) = some r := H
    have A7 := Aside0.mk A70
    clear A70
    have HC8 := Aside0.mk H
    clear H
    go_enter Try.func13, Try.ntmps13
    go_upto_region 6 with (first | ((with_reducible refine gate_callee (f := 14) rfl ?_); refine goesL_ (some 27) rfl rfl Try.func14 (by kernel_rfl) rfl #[.slice A0 l0.length c0, .slice A1 l1.length c1] rfl (by (try simp only [List.map_toArray, List.map_cons, List.map_nil]); first | done | rfl | (simp only [List.length_drop, List.length_take]; rfl)) ?_; (with_reducible refine (laws_big.calls _ _ l0 _ _ l1 false _ ?side1 ?side2 ?side3 ?side4 A3.out).mono ?_); (case side1 => repeat (first | exact HR0.out | (with_reducible refine Kd.C_alloc ?_ _) | (with_reducible refine Kd.C_drewN ?_ _) | (with_reducible refine Kd.C_drew ?_))); (case side2 => exact HC0.out); (case side3 => repeat (first | exact HR1.out | (with_reducible refine Kd.C_alloc ?_ _) | (with_reducible refine Kd.C_drewN ?_ _) | (with_reducible refine Kd.C_drew ?_))); (case side4 => exact HC1.out); rintro e w' ⟨rfl, ⟨nd, rfl⟩⟩; refine ⟨_, rfl, ?_⟩) | ((with_reducible refine gate_callee (f := 75) rfl ?_); refine goesL_ (some 29) rfl rfl Try.func75 (by kernel_rfl) rfl #[.slice A0 l0.length c0] rfl (by (try simp only [List.map_toArray, List.map_cons, List.map_nil]); first | done | rfl | (simp only [List.length_drop, List.length_take]; rfl)) ?_; (with_reducible refine (spec_DrawSubtractionChain.calls _ _ l0 t345 _ ?side1 ?side2 A5.out).mono ?_); (case side1 => repeat (first | exact HR0.out | (with_reducible refine Kd.C_alloc ?_ _) | (with_reducible refine Kd.C_drewN ?_ _) | (with_reducible refine Kd.C_drew ?_))); (case side2 => exact HC0.out); rintro e w9 ⟨rfl, hb⟩; refine ⟨_, rfl, ?_⟩; have n0_ := Aside0.mk (below_step (by repeat (first | (with_reducible first | exact HB.out | apply below_alloc | apply pw_below_drewN | apply below_drew1) | exact HB.out)) hb); clear HB; have HB := n0_; clear n0_; (try clear hb); (try clear hb2); (try clear hk); (try clear hi)) | ((with_reducible refine gate_callee (f := 76) rfl ?_); refine goesL_ (some 32) rfl rfl Try.func76 (by kernel_rfl) rfl #[.int .i64 t345] rfl (by (try simp only [List.map_toArray, List.map_cons, List.map_nil]); first | done | rfl | (simp only [List.length_drop, List.length_take]; rfl)) ?_; (with_reducible refine (impl_SubtractionChain.calls k t345 t346 t347 _ A6.out).mono ?_); rintro e w10 ⟨v348, rfl, ho0, hb⟩; refine ⟨_, rfl, ?_⟩; have n0_ := Aside0.mk (Kd.R_lower ho0 (below_size (by repeat (first | (with_reducible first | exact HB.out | apply below_alloc | apply pw_below_drewN | apply below_drew1) | exact HB.out)))); have n1_ := Aside0.mk (below_step (by repeat (first | (with_reducible first | exact HB.out | apply below_alloc | apply pw_below_drewN | apply below_drew1) | exact HB.out)) hb); clear HB; have HO349 := n0_; have HB := n1_; clear n0_ n1_; (try clear hb); (try clear hb2); (try clear hk); (try clear hi); (try clear ho0)) | ((with_reducible refine gate_callee (f := 77) rfl ?_); refine goesL_ (some 37) rfl rfl Try.func77 (by kernel_rfl) rfl #[.int .i64 t345] rfl (by (try simp only [List.map_toArray, List.map_cons, List.map_nil]); first | done | rfl | (simp only [List.length_drop, List.length_take]; rfl)) ?_; (with_reducible refine (spec_SubtractionChain.calls k t345 t350 t351 _ A7.out).mono ?_); rintro e w11 ⟨v352, rfl, ho0, hb⟩; refine ⟨_, rfl, ?_⟩; have n0_ := Aside0.mk (Kd.R_elder' (by (with_reducible repeat (first | apply Kd.R_alloc | apply Kd.R_drewN | apply Kd.R_drew)); exact HO349.out) (Kd.R_base ho0) hb); have n1_ := Aside0.mk (Kd.R_lower (Kd.R_new' ho0 (Kd.R_lt (by (with_reducible repeat (first | apply Kd.R_alloc | apply Kd.R_drewN | apply Kd.R_drew)); exact HO349.out))) (below_size (by repeat (first | (with_reducible first | exact HB.out | apply below_alloc | apply pw_below_drewN | apply below_drew1) | exact HB.out)))); have n2_ := Aside0.mk (below_step (by repeat (first | (with_reducible first | exact HB.out | apply below_alloc | apply pw_below_drewN | apply below_drew1) | exact HB.out)) hb); clear HO349; clear HB; have HO349 := n0_; have HO353 := n1_; have HB := n2_; clear n0_ n1_ n2_; (try clear hb); (try clear hb2); (try clear hk); (try clear hi); (try clear ho0)))
    (try simp only [Act.put, List.setIfInBounds_toArray, List.set_cons_zero, List.set_cons_succ])
    go_cut [48] (fun v48 wc => ∃ (kq : Nat) (x48_7 : Bool), v48 = .bool x48_7 ∧ Aside0 (laws_FnSubtractionChains.j0 kq l1 t345 t346 t347 x48_7 = some r) ∧ Aside0 (kq ≤ k) ∧ Aside0 (Kd.R (Kd.int .i64) 3 wc w.heap.size (fun _ => True) v348 t346) ∧ Aside0 (Below w.heap.size w wc))
    case first =>
      have H := HC8.out
      clear HC8
      by_cases c12 : (t347 != t351) = true
      · rw [if_pos c12] at H
        have c12b0 : (t347 != t351) = true := c12
        (try (have c12b1 : decide (t347 = t351) = false := by simpa using c12))
        (try (have c12b2 : (t347 == t351) = false := by simpa using c12))
        (try (have c12b3 : ¬ (t347 = t351) := by simpa using c12))
        clear c12
        (first | rw [c12b0] | (simp only [i64_w, i32_w]; rw [c12b0]) | skip)
        have H' := Aside0.mk H
        clear H
        go_wp2
        go_meet
        case rel => exact ⟨_, (true), (by first | rfl | (simp; done) | (simp [*]; done)), H', ⟨by first | omega | exact Nat.le_refl _⟩, ⟨by (with_reducible repeat (first | apply Kd.R_alloc | apply Kd.R_drewN | apply Kd.R_drew)); exact Kd.R_mono HO349.out (fun _ hk => trivial)⟩, ⟨by repeat (first | (with_reducible first | exact HB.out | apply below_alloc | apply pw_below_drewN | apply below_drew1) | exact HB.out)⟩⟩
      · rw [if_neg c12] at H
        have c12b0 : (t347 != t351) = false := by simpa using c12
        (try (have c12b1 : decide (t347 = t351) = true := by simpa using c12))
        (try (have c12b2 : (t347 == t351) = true := by simpa using c12))
        clear c12
        (first | rw [c12b0] | (simp only [i64_w, i32_w]; rw [c12b0]) | skip)
        replace H := Option.bind_eq_some_iff.mp H
        obtain ⟨t354, A130, H⟩ := H
        replace H : (laws_FnSubtractionChains.j0 k l1 t345 t346 t347 (!t354)) = some r := H
        have A13 := Aside0.mk A130
        clear A130
        have H' := Aside0.mk H
        clear H
        obtain ⟨Ao14, co14, eo14⟩ := Kd.R_slice HO349.out
        subst eo14
        obtain ⟨Ao15, co15, eo15⟩ := Kd.R_slice HO353.out
        subst eo15
        go_wp2_with (first | (go_at_call 78; (with_reducible refine (laws_rSame.calls k _ _ t346 _ _ t350 t354 _ ?side1 ?side2 ?side3 ?side4 A13.out).mono ?_); (case side1 => repeat (first | exact (Kd.R_reads' HO349.out).2.2 | (with_reducible refine Kd.C_alloc ?_ _) | (with_reducible refine Kd.C_drewN ?_ _) | (with_reducible refine Kd.C_drew ?_))); (case side2 => exact (Kd.R_reads' HO349.out).2.1); (case side3 => repeat (first | exact (Kd.R_reads' HO353.out).2.2 | (with_reducible refine Kd.C_alloc ?_ _) | (with_reducible refine Kd.C_drewN ?_ _) | (with_reducible refine Kd.C_drew ?_))); (case side4 => exact (Kd.R_reads' HO353.out).2.1); rintro e w' ⟨rfl, ⟨nd, rfl⟩⟩))
        go_meet
        case rel => exact ⟨_, (!t354), (by first | rfl | (simp; done) | (simp [*]; done)), H', ⟨by first | omega | exact Nat.le_refl _⟩, ⟨by (with_reducible repeat (first | apply Kd.R_alloc | apply Kd.R_drewN | apply Kd.R_drew)); exact Kd.R_mono HO349.out (fun _ hk => trivial)⟩, ⟨by repeat (first | (with_reducible first | exact HB.out | apply below_alloc | apply pw_below_drewN | apply below_drew1) | exact HB.out)⟩⟩
    case rest =>
      clear HC8
      try clear c1
      try clear p2
      try clear c4
      try clear c7
      try clear c12
      try clear c12b0
      try clear c12b1
      try clear c12b2
      try clear c13
      try clear c14
      obtain ⟨kq, x48_7, rfl, HA, HJ7, HO_6, HB⟩ := hcut
      cases kq with
      | zero => exact absurd HA.out (by simp [laws_FnSubtractionChains.j0])
      | succ kj7 =>
        have H := HA.out
        clear HA
        simp only [laws_FnSubtractionChains.j0] at H
        by_cases c16 : x48_7 = true
        · subst c16
          have H1 : (some false) = some r := by rw [if_pos rfl] at H; exact H
          clear H
          have H := H1
          clear H1
          obtain rfl := Option.some.inj H
          go_wp2
          go_ret
          exact ⟨by first | rfl | (simp [errW_none, errW_some] <;> rfl) | (simp [*, errW_none, errW_some] <;> rfl), by repeat (first | (with_reducible first | exact HB.out | apply below_alloc | apply pw_below_drewN | apply below_drew1) | exact HB.out)⟩
        · replace c16 := Bool.eq_false_iff.mpr c16
          subst c16
          have H1 : (if t347 = true then ((impl_SignedDigits.f kj7 t345).bind fun bt355 => ((impl_WeightOf.f kj7 bt355.1).bind fun bt359 => (if bt355.2 = true then (if bt359.2 = true then ((impl_IsSubtractionChain.f kj7 t346).bind fun t361 => (if t361 = true then (if 0 ≤ (wrap64 ((t346.length : Int) - 1)) then (if (wrap64 ((t346.length : Int) - 1)) < (t346.length : Int) then (if (rd t346 (wrap64 ((t346.length : Int) - 1))) = t345 then (if (t346.length : Int) = (wrap64 ((wrap64 ((bt355.1.length : Int) + bt359.1)) - 1)) then (laws_FnSubtractionChains.j1 kj7 l1) else (some false)) else (some false)) else (none)) else (none)) else (some false))) else (some false)) else (some false)))) else (laws_FnSubtractionChains.j1 kj7 l1)) = some r := by rw [if_neg (show ¬ (false = true) by decide)] at H; exact H
          clear H
          have H := H1
          clear H1
          have HC17 := Aside0.mk H
          clear H
          go_upto_if 49 with (fail)
          go_cut [] (fun wc => ∃ (kq : Nat), Aside0 (laws_FnSubtractionChains.j1 kq l1 = some r) ∧ Aside0 (kq ≤ kj7) ∧ Aside0 (Below w.heap.size w wc))
          case first =>
            have H := HC17.out
            clear HC17
            by_cases c18 : t347 = true
            · subst c18
              have H1 : ((impl_SignedDigits.f kj7 t345).bind fun bt355 => ((impl_WeightOf.f kj7 bt355.1).bind fun bt359 => (if bt355.2 = true then (if bt359.2 = true then ((impl_IsSubtractionChain.f kj7 t346).bind fun t361 => (if t361 = true then (if 0 ≤ (wrap64 ((t346.length : Int) - 1)) then (if (wrap64 ((t346.length : Int) - 1)) < (t346.length : Int) then (if (rd t346 (wrap64 ((t346.length : Int) - 1))) = t345 then (if (t346.length : Int) = (wrap64 ((wrap64 ((bt355.1.length : Int) + bt359.1)) - 1)) then (laws_FnSubtractionChains.j1 kj7 l1) else (some false)) else (some false)) else (none)) else (none)) else (some false))) else (some false)) else (some false)))) = some r := by rw [if_pos rfl] at H; exact H
              clear H
              have H := H1
              clear H1
              replace H := Option.bind_eq_some_iff.mp H
              obtain ⟨⟨t355, t356⟩, A190, H⟩ := H
              replace H : ((impl_WeightOf.f kj7 t355).bind fun bt359 => (if t356 = true then (if bt359.2 = true then ((impl_IsSubtractionChain.f kj7 t346).bind fun t361 => (if t361 = true then (if 0 ≤ (wrap64 ((t346.length : Int) - 1)) then (if (wrap64 ((t346.length : Int) - 1)) < (t346.length : Int) then (if (rd t346 (wrap64 ((t346.length : Int) - 1))) = t345 then (if (t346.length : Int) = (wrap64 ((wrap64 ((t355.length : Int) + bt359.1)) - 1)) then (laws_FnSubtractionChains.j1 kj7 l1) else (some false)) else (some false)) else (none)) else (none)) else (some false))) else (some false)) else (some false))) = some r := H
              have A19 := Aside0.mk A190
              clear A190
              replace H := Option.bind_eq_some_iff.mp H
              obtain ⟨⟨t359, t360⟩, A200, H⟩ := H
              replace H : (if t356 = true then (if t360 = true then ((impl_IsSubtractionChain.f kj7 t346).bind fun t361 => (if t361 = true then (if 0 ≤ (wrap64 ((t346.length : Int) - 1)) then (if (wrap64 ((t346.length : Int) - 1)) < (t346.length : Int) then (if (rd t346 (wrap64 ((t346.length : Int) - 1))) = t345 then (if (t346.length : Int) = (wrap64 ((wrap64 ((t355.length : Int) + t359)) - 1)) then (laws_FnSubtractionChains.j1 kj7 l1) else (some false)) else (some false)) else (none)) else (none)) else (some false))) else (some false)) else (some false)) = some r := H
              have A20 := Aside0.mk A200
              clear A200
              by_cases c21 : t356 = true
              · subst c21
                have H1 : (if t360 = true then ((impl_IsSubtractionChain.f kj7 t346).bind fun t361 => (if t361 = true then (if 0 ≤ (wrap64 ((t346.length : Int) - 1)) then (if (wrap64 ((t346.length : Int) - 1)) < (t346.length : Int) then (if (rd t346 (wrap64 ((t346.length : Int) - 1))) = t345 then (if (t346.length : Int) = (wrap64 ((wrap64 ((t355.length : Int) + t359)) - 1)) then (laws_FnSubtractionChains.j1 kj7 l1) else (some false)) else (some false)) else (none)) else (none)) else (some false))) else (some false)) = some r := by rw [if_pos rfl] at H; exact H
                clear H
                have H := H1
                clear H1
                by_cases c22 : t360 = true
                · subst c22
                  have H1 : ((impl_IsSubtractionChain.f kj7 t346).bind fun t361 => (if t361 = true then (if 0 ≤ (wrap64 ((t346.length : Int) - 1)) then (if (wrap64 ((t346.length : Int) - 1)) < (t346.length : Int) then (if (rd t346 (wrap64 ((t346.length : Int) - 1))) = t345 then (if (t346.length : Int) = (wrap64 ((wrap64 ((t355.length : Int) + t359)) - 1)) then (laws_FnSubtractionChains.j1 kj7 l1) else (some false)) else (some false)) else (none)) else (none)) else (some false))) = some r := by rw [if_pos rfl] at H; exact H
                  clear H
                  have H := H1
                  clear H1
                  replace H := Option.bind_eq_some_iff.mp H
                  obtain ⟨t361, A230, H⟩ := H
                  replace H : (if t361 = true then (if 0 ≤ (wrap64 ((t346.length : Int) - 1)) then (if (wrap64 ((t346.length : Int) - 1)) < (t346.length : Int) then (if (rd t346 (wrap64 ((t346.length : Int) - 1))) = t345 then (if (t346.length : Int) = (wrap64 ((wrap64 ((t355.length : Int) + t359)) - 1)) then (laws_FnSubtractionChains.j1 kj7 l1) else (some false)) else (some false)) else (none)) else (none)) else (some false)) = some r := H
                  have A23 := Aside0.mk A230
                  clear A230
                  by_cases c24 : t361 = true
                  · subst c24
                    have H1 : (if 0 ≤ (wrap64 ((t346.length : Int) - 1)) then (if (wrap64 ((t346.length : Int) - 1)) < (t346.length : Int) then (if (rd t346 (wrap64 ((t346.length : Int) - 1))) = t345 then (if (t346.length : Int) = (wrap64 ((wrap64 ((t355.length : Int) + t359)) - 1)) then (laws_FnSubtractionChains.j1 kj7 l1) else (some false)) else (some false)) else (none)) else (none)) = some r := by rw [if_pos rfl] at H; exact H
                    clear H
                    have H := H1
                    clear H1
                    obtain ⟨ji25, hji25⟩ : ∃ j_ : Int, (wrap64 ((t346.length : Int) - 1)) = j_ := ⟨_, rfl⟩
                    replace H : (if 0 ≤ (ji25) then (if (ji25) < (t346.length : Int) then (if (rd t346 (ji25)) = t345 then (if (t346.length : Int) = (wrap64 ((wrap64 ((t355.length : Int) + t359)) - 1)) then (laws_FnSubtractionChains.j1 kj7 l1) else (some false)) else (some false)) else (none)) else (none)) = some r := by first | (rw [hji25] at H; exact H) | (simp only [hji25] at H ⊢; exact H)
                    (try rw [hji25] at A19)
                    (try rw [hji25] at A20)
                    (try rw [hji25] at A23)
                    have hji25w : (IntKind.i64.wrap ((t346.length : Int) - 1)) = ji25 := (i64_w _).trans hji25
                    by_cases c26 : 0 ≤ (ji25)
                    · rw [if_pos c26] at H
                      have c26b0 : decide (0 ≤ (ji25)) = true := decide_eq_true c26
                      clear c26
                      (first | rw [c26b0] | (simp only [i64_w, i32_w]; rw [c26b0]) | skip)
                      by_cases c27 : (ji25) < (t346.length : Int)
                      · rw [if_pos c27] at H
                        have c27b0 : decide ((ji25) < (t346.length : Int)) = true := decide_eq_true c27
                        clear c27
                        by_cases c28 : (rd t346 (ji25)) = t345
                        · rw [if_pos c28] at H
                          have c28b0 : ((rd t346 (ji25)) == t345) = true := beq_iff_eq.mpr c28
                          have c28b1 : ((rd t346 (ji25)) != t345) = false := bne_eq_false_iff_eq.mpr c28
                          clear c28
                          by_cases c29 : (t346.length : Int) = (wrap64 ((wrap64 ((t355.length : Int) + t359)) - 1))
                          · rw [if_pos c29] at H
                            have c29b0 : ((t346.length : Int) == (wrap64 ((wrap64 ((t355.length : Int) + t359)) - 1))) = true := beq_iff_eq.mpr c29
                            have c29b1 : ((t346.length : Int) != (wrap64 ((wrap64 ((t355.length : Int) + t359)) - 1))) = false := bne_eq_false_iff_eq.mpr c29
                            clear c29
                            have H' := Aside0.mk H
                            clear H
                            go_wp2_with (first | ((with_reducible refine gate_callee (f := 79) rfl ?_); refine goesL_ (some 52) rfl rfl Try.func79 (by kernel_rfl) rfl #[.int .i64 t345] rfl (by (try simp only [List.map_toArray, List.map_cons, List.map_nil]); first | done | rfl | (simp only [List.length_drop, List.length_take]; rfl)) ?_; (with_reducible refine (impl_SignedDigits.calls kj7 t345 t355 true _ A19.out).mono ?_); rintro e w30 ⟨v357, rfl, ho0, hb⟩; refine ⟨_, rfl, ?_⟩; have n0_ := Aside0.mk (Kd.R_elder' (by (with_reducible repeat (first | apply Kd.R_alloc | apply Kd.R_drewN | apply Kd.R_drew)); exact HO_6.out) (Kd.R_base ho0) hb); have n1_ := Aside0.mk (Kd.R_lower (Kd.R_new' ho0 (Kd.R_lt (by (with_reducible repeat (first | apply Kd.R_alloc | apply Kd.R_drewN | apply Kd.R_drew)); exact HO_6.out))) (below_size (by repeat (first | (with_reducible first | exact HB.out | apply below_alloc | apply pw_below_drewN | apply below_drew1) | exact HB.out)))); have n2_ := Aside0.mk (below_step (by repeat (first | (with_reducible first | exact HB.out | apply below_alloc | apply pw_below_drewN | apply below_drew1) | exact HB.out)) hb); clear HO_6; clear HB; have HO_6 := n0_; have HO358 := n1_; have HB := n2_; clear n0_ n1_ n2_; (try clear hb); (try clear hb2); (try clear hk); (try clear hi); (try clear ho0); obtain ⟨Ao31, co31, eo31⟩ := Kd.R_slice HO358.out; subst eo31) | ((with_reducible refine gate_callee (f := 80) rfl ?_); refine goesL_ (some 57) rfl rfl Try.func80 (by kernel_rfl) rfl #[.slice Ao31 t355.length co31] rfl (by (try simp only [List.map_toArray, List.map_cons, List.map_nil]); first | done | rfl | (simp only [List.length_drop, List.length_take]; rfl)) ?_; (with_reducible refine (impl_WeightOf.calls kj7 _ _ t355 t359 true _ ?side1 ?side2 A20.out).mono ?_); (case side1 => repeat (first | exact (Kd.R_reads' HO358.out).2.2 | (with_reducible refine Kd.C_alloc ?_ _) | (with_reducible refine Kd.C_drewN ?_ _) | (with_reducible refine Kd.C_drew ?_))); (case side2 => exact (Kd.R_reads' HO358.out).2.1); rintro e w' ⟨rfl, ⟨nd, rfl⟩⟩; refine ⟨_, rfl, ?_⟩; obtain ⟨Ao32, co32, eo32⟩ := Kd.R_slice HO_6.out; subst eo32) | (go_at_call 81; (with_reducible refine (impl_IsSubtractionChain.calls kj7 _ _ t346 true _ ?side1 ?side2 A23.out).mono ?_); (case side1 => repeat (first | exact (Kd.R_reads' HO_6.out).2.2 | (with_reducible refine Kd.C_alloc ?_ _) | (with_reducible refine Kd.C_drewN ?_ _) | (with_reducible refine Kd.C_drew ?_))); (case side2 => exact (Kd.R_reads' HO_6.out).2.1); rintro e w33 ⟨rfl, hb⟩; have n0_ := Aside0.mk (Kd.R_below (by (with_reducible repeat (first | apply Kd.R_alloc | apply Kd.R_drewN | apply Kd.R_drew)); exact HO_6.out) hb); have n1_ := Aside0.mk (Kd.R_below (by (with_reducible repeat (first | apply Kd.R_alloc | apply Kd.R_drewN | apply Kd.R_drew)); exact HO358.out) hb); have n2_ := Aside0.mk (below_step (by repeat (first | (with_reducible first | exact HB.out | apply below_alloc | apply pw_below_drewN | apply below_drew1) | exact HB.out)) hb); clear HO_6; clear HO358; clear HB; have HO_6 := n0_; have HO358 := n1_; have HB := n2_; clear n0_ n1_ n2_; (try clear hb); (try clear hb2); (try clear hk); (try clear hi); have p362 : 0 ≤ ((ji25) : Int) := of_decide_eq_true (by first | (with_reducible assumption) | assumption); have q362 : (ji25) < (t346.length : Int) := of_decide_eq_true (by first | (with_reducible assumption) | assumption); obtain ⟨ad362, e362, hx362_0⟩ := Kd.at_int (Kd.R_reads' HO_6.out).2.2 (ji25) p362 q362; cases e362; replace p362 := eq_true p362; replace q362 := eq_true q362))
                            go_meet
                            case rel => exact ⟨_, H', ⟨by have := HJ7.out; first | omega | exact Nat.le_refl _⟩, ⟨by repeat (first | (with_reducible first | exact HB.out | apply below_alloc | apply pw_below_drewN | apply below_drew1) | exact HB.out)⟩⟩
                          · rw [if_neg c29] at H
                            have c29b0 : ((t346.length : Int) == (wrap64 ((wrap64 ((t355.length : Int) + t359)) - 1))) = false := beq_eq_false_iff_ne.mpr c29
                            have c29b1 : ((t346.length : Int) != (wrap64 ((wrap64 ((t355.length : Int) + t359)) - 1))) = true := bne_iff_ne.mpr c29
                            obtain rfl := Option.some.inj H
                            go_wp2_with (first | ((with_reducible refine gate_callee (f := 79) rfl ?_); refine goesL_ (some 52) rfl rfl Try.func79 (by kernel_rfl) rfl #[.int .i64 t345] rfl (by (try simp only [List.map_toArray, List.map_cons, List.map_nil]); first | done | rfl | (simp only [List.length_drop, List.length_take]; rfl)) ?_; (with_reducible refine (impl_SignedDigits.calls kj7 t345 t355 true _ A19.out).mono ?_); rintro e w34 ⟨v357, rfl, ho0, hb⟩; refine ⟨_, rfl, ?_⟩; have n0_ := Aside0.mk (Kd.R_elder' (by (with_reducible repeat (first | apply Kd.R_alloc | apply Kd.R_drewN | apply Kd.R_drew)); exact HO_6.out) (Kd.R_base ho0) hb); have n1_ := Aside0.mk (Kd.R_lower (Kd.R_new' ho0 (Kd.R_lt (by (with_reducible repeat (first | apply Kd.R_alloc | apply Kd.R_drewN | apply Kd.R_drew)); exact HO_6.out))) (below_size (by repeat (first | (with_reducible first | exact HB.out | apply below_alloc | apply pw_below_drewN | apply below_drew1) | exact HB.out)))); have n2_ := Aside0.mk (below_step (by repeat (first | (with_reducible first | exact HB.out | apply below_alloc | apply pw_below_drewN | apply below_drew1) | exact HB.out)) hb); clear HO_6; clear HB; have HO_6 := n0_; have HO358 := n1_; have HB := n2_; clear n0_ n1_ n2_; (try clear hb); (try clear hb2); (try clear hk); (try clear hi); (try clear ho0); obtain ⟨Ao35, co35, eo35⟩ := Kd.R_slice HO358.out; subst eo35) | ((with_reducible refine gate_callee (f := 80) rfl ?_); refine goesL_ (some 57) rfl rfl Try.func80 (by kernel_rfl) rfl #[.slice Ao35 t355.length co35] rfl (by (try simp only [List.map_toArray, List.map_cons, List.map_nil]); first | done | rfl | (simp only [List.length_drop, List.length_take]; rfl)) ?_; (with_reducible refine (impl_WeightOf.calls kj7 _ _ t355 t359 true _ ?side1 ?side2 A20.out).mono ?_); (case side1 => repeat (first | exact (Kd.R_reads' HO358.out).2.2 | (with_reducible refine Kd.C_alloc ?_ _) | (with_reducible refine Kd.C_drewN ?_ _) | (with_reducible refine Kd.C_drew ?_))); (case side2 => exact (Kd.R_reads' HO358.out).2.1); rintro e w' ⟨rfl, ⟨nd, rfl⟩⟩; refine ⟨_, rfl, ?_⟩; obtain ⟨Ao36, co36, eo36⟩ := Kd.R_slice HO_6.out; subst eo36) | (go_at_call 81; (with_reducible refine (impl_IsSubtractionChain.calls kj7 _ _ t346 true _ ?side1 ?side2 A23.out).mono ?_); (case side1 => repeat (first | exact (Kd.R_reads' HO_6.out).2.2 | (with_reducible refine Kd.C_alloc ?_ _) | (with_reducible refine Kd.C_drewN ?_ _) | (with_reducible refine Kd.C_drew ?_))); (case side2 => exact (Kd.R_reads' HO_6.out).2.1); rintro e w37 ⟨rfl, hb⟩; have n0_ := Aside0.mk (Kd.R_below (by (with_reducible repeat (first | apply Kd.R_alloc | apply Kd.R_drewN | apply Kd.R_drew)); exact HO_6.out) hb); have n1_ := Aside0.mk (Kd.R_below (by (with_reducible repeat (first | apply Kd.R_alloc | apply Kd.R_drewN | apply Kd.R_drew)); exact HO358.out) hb); have n2_ := Aside0.mk (below_step (by repeat (first | (with_reducible first | exact HB.out | apply below_alloc | apply pw_below_drewN | apply below_drew1) | exact HB.out)) hb); clear HO_6; clear HO358; clear HB; have HO_6 := n0_; have HO358 := n1_; have HB := n2_; clear n0_ n1_ n2_; (try clear hb); (try clear hb2); (try clear hk); (try clear hi); have p362 : 0 ≤ ((ji25) : Int) := of_decide_eq_true (by first | (with_reducible assumption) | assumption); have q362 : (ji25) < (t346.length : Int) := of_decide_eq_true (by first | (with_reducible assumption) | assumption); obtain ⟨ad362, e362, hx362_0⟩ := Kd.at_int (Kd.R_reads' HO_6.out).2.2 (ji25) p362 q362; cases e362; replace p362 := eq_true p362; replace q362 := eq_true q362))
                            go_ret
                            exact ⟨by first | rfl | (simp [errW_none, errW_some] <;> rfl) | (simp only [← hji25]; first | rfl | (simp [errW_none, errW_some] <;> rfl)) | (simp [*, errW_none, errW_some] <;> rfl), by repeat (first | (with_reducible first | exact HB.out | apply below_alloc | apply pw_below_drewN | apply below_drew1) | exact HB.out)⟩
                        · rw [if_neg c28] at H
                          have c28b0 : ((rd t346 (ji25)) == t345) = false := beq_eq_false_iff_ne.mpr c28
                          have c28b1 : ((rd t346 (ji25)) != t345) = true := bne_iff_ne.mpr c28
                          obtain rfl := Option.some.inj H
                          go_wp2_with (first | ((with_reducible refine gate_callee (f := 79) rfl ?_); refine goesL_ (some 52) rfl rfl Try.func79 (by kernel_rfl) rfl #[.int .i64 t345] rfl (by (try simp only [List.map_toArray, List.map_cons, List.map_nil]); first | done | rfl | (simp only [List.length_drop, List.length_take]; rfl)) ?_; (with_reducible refine (impl_SignedDigits.calls kj7 t345 t355 true _ A19.out).mono ?_); rintro e w38 ⟨v357, rfl, ho0, hb⟩; refine ⟨_, rfl, ?_⟩; have n0_ := Aside0.mk (Kd.R_elder' (by (with_reducible repeat (first | apply Kd.R_alloc | apply Kd.R_drewN | apply Kd.R_drew)); exact HO_6.out) (Kd.R_base ho0) hb); have n1_ := Aside0.mk (Kd.R_lower (Kd.R_new' ho0 (Kd.R_lt (by (with_reducible repeat (first | apply Kd.R_alloc | apply Kd.R_drewN | apply Kd.R_drew)); exact HO_6.out))) (below_size (by repeat (first | (with_reducible first | exact HB.out | apply below_alloc | apply pw_below_drewN | apply below_drew1) | exact HB.out)))); have n2_ := Aside0.mk (below_step (by repeat (first | (with_reducible first | exact HB.out | apply below_alloc | apply pw_below_drewN | apply below_drew1) | exact HB.out)) hb); clear HO_6; clear HB; have HO_6 := n0_; have HO358 := n1_; have HB := n2_; clear n0_ n1_ n2_; (try clear hb); (try clear hb2); (try clear hk); (try clear hi); (try clear ho0); obtain ⟨Ao39, co39, eo39⟩ := Kd.R_slice HO358.out; subst eo39) | ((with_reducible refine gate_callee (f := 80) rfl ?_); refine goesL_ (some 57) rfl rfl Try.func80 (by kernel_rfl) rfl #[.slice Ao39 t355.length co39] rfl (by (try simp only [List.map_toArray, List.map_cons, List.map_nil]); first | done | rfl | (simp only [List.length_drop, List.length_take]; rfl)) ?_; (with_reducible refine (impl_WeightOf.calls kj7 _ _ t355 t359 true _ ?side1 ?side2 A20.out).mono ?_); (case side1 => repeat (first | exact (Kd.R_reads' HO358.out).2.2 | (with_reducible refine Kd.C_alloc ?_ _) | (with_reducible refine Kd.C_drewN ?_ _) | (with_reducible refine Kd.C_drew ?_))); (case side2 => exact (Kd.R_reads' HO358.out).2.1); rintro e w' ⟨rfl, ⟨nd, rfl⟩⟩; refine ⟨_, rfl, ?_⟩; obtain ⟨Ao40, co40, eo40⟩ := Kd.R_slice HO_6.out; subst eo40) | (go_at_call 81; (with_reducible refine (impl_IsSubtractionChain.calls kj7 _ _ t346 true _ ?side1 ?side2 A23.out).mono ?_); (case side1 => repeat (first | exact (Kd.R_reads' HO_6.out).2.2 | (with_reducible refine Kd.C_alloc ?_ _) | (with_reducible refine Kd.C_drewN ?_ _) | (with_reducible refine Kd.C_drew ?_))); (case side2 => exact (Kd.R_reads' HO_6.out).2.1); rintro e w41 ⟨rfl, hb⟩; have n0_ := Aside0.mk (Kd.R_below (by (with_reducible repeat (first | apply Kd.R_alloc | apply Kd.R_drewN | apply Kd.R_drew)); exact HO_6.out) hb); have n1_ := Aside0.mk (Kd.R_below (by (with_reducible repeat (first | apply Kd.R_alloc | apply Kd.R_drewN | apply Kd.R_drew)); exact HO358.out) hb); have n2_ := Aside0.mk (below_step (by repeat (first | (with_reducible first | exact HB.out | apply below_alloc | apply pw_below_drewN | apply below_drew1) | exact HB.out)) hb); clear HO_6; clear HO358; clear HB; have HO_6 := n0_; have HO358 := n1_; have HB := n2_; clear n0_ n1_ n2_; (try clear hb); (try clear hb2); (try clear hk); (try clear hi); have p362 : 0 ≤ ((ji25) : Int) := of_decide_eq_true (by first | (with_reducible assumption) | assumption); have q362 : (ji25) < (t346.length : Int) := of_decide_eq_true (by first | (with_reducible assumption) | assumption); obtain ⟨ad362, e362, hx362_0⟩ := Kd.at_int (Kd.R_reads' HO_6.out).2.2 (ji25) p362 q362; cases e362; replace p362 := eq_true p362; replace q362 := eq_true q362))
                          go_ret
                          exact ⟨by first | rfl | (simp [errW_none, errW_some] <;> rfl) | (simp only [← hji25]; first | rfl | (simp [errW_none, errW_some] <;> rfl)) | (simp [*, errW_none, errW_some] <;> rfl), by repeat (first | (with_reducible first | exact HB.out | apply below_alloc | apply pw_below_drewN | apply below_drew1) | exact HB.out)⟩
                      · rw [if_neg c27] at H
                        exact absurd H (by simp)
                    · rw [if_neg c26] at H
                      exact absurd H (by simp)
                  · replace c24 := Bool.eq_false_iff.mpr c24
                    subst c24
                    have H1 : (some false) = some r := by rw [if_neg (show ¬ (false = true) by decide)] at H; exact H
                    clear H
                    have H := H1
                    clear H1
                    obtain rfl := Option.some.inj H
                    go_wp2_with (first | ((with_reducible refine gate_callee (f := 79) rfl ?_); refine goesL_ (some 52) rfl rfl Try.func79 (by kernel_rfl) rfl #[.int .i64 t345] rfl (by (try simp only [List.map_toArray, List.map_cons, List.map_nil]); first | done | rfl | (simp only [List.length_drop, List.length_take]; rfl)) ?_; (with_reducible refine (impl_SignedDigits.calls kj7 t345 t355 true _ A19.out).mono ?_); rintro e w42 ⟨v357, rfl, ho0, hb⟩; refine ⟨_, rfl, ?_⟩; have n0_ := Aside0.mk (Kd.R_elder' (by (with_reducible repeat (first | apply Kd.R_alloc | apply Kd.R_drewN | apply Kd.R_drew)); exact HO_6.out) (Kd.R_base ho0) hb); have n1_ := Aside0.mk (Kd.R_lower (Kd.R_new' ho0 (Kd.R_lt (by (with_reducible repeat (first | apply Kd.R_alloc | apply Kd.R_drewN | apply Kd.R_drew)); exact HO_6.out))) (below_size (by repeat (first | (with_reducible first | exact HB.out | apply below_alloc | apply pw_below_drewN | apply below_drew1) | exact HB.out)))); have n2_ := Aside0.mk (below_step (by repeat (first | (with_reducible first | exact HB.out | apply below_alloc | apply pw_below_drewN | apply below_drew1) | exact HB.out)) hb); clear HO_6; clear HB; have HO_6 := n0_; have HO358 := n1_; have HB := n2_; clear n0_ n1_ n2_; (try clear hb); (try clear hb2); (try clear hk); (try clear hi); (try clear ho0); obtain ⟨Ao43, co43, eo43⟩ := Kd.R_slice HO358.out; subst eo43) | ((with_reducible refine gate_callee (f := 80) rfl ?_); refine goesL_ (some 57) rfl rfl Try.func80 (by kernel_rfl) rfl #[.slice Ao43 t355.length co43] rfl (by (try simp only [List.map_toArray, List.map_cons, List.map_nil]); first | done | rfl | (simp only [List.length_drop, List.length_take]; rfl)) ?_; (with_reducible refine (impl_WeightOf.calls kj7 _ _ t355 t359 true _ ?side1 ?side2 A20.out).mono ?_); (case side1 => repeat (first | exact (Kd.R_reads' HO358.out).2.2 | (with_reducible refine Kd.C_alloc ?_ _) | (with_reducible refine Kd.C_drewN ?_ _) | (with_reducible refine Kd.C_drew ?_))); (case side2 => exact (Kd.R_reads' HO358.out).2.1); rintro e w' ⟨rfl, ⟨nd, rfl⟩⟩; refine ⟨_, rfl, ?_⟩; obtain ⟨Ao44, co44, eo44⟩ := Kd.R_slice HO_6.out; subst eo44) | (go_at_call 81; (with_reducible refine (impl_IsSubtractionChain.calls kj7 _ _ t346 false _ ?side1 ?side2 A23.out).mono ?_); (case side1 => repeat (first | exact (Kd.R_reads' HO_6.out).2.2 | (with_reducible refine Kd.C_alloc ?_ _) | (with_reducible refine Kd.C_drewN ?_ _) | (with_reducible refine Kd.C_drew ?_))); (case side2 => exact (Kd.R_reads' HO_6.out).2.1); rintro e w45 ⟨rfl, hb⟩; have n0_ := Aside0.mk (Kd.R_below (by (with_reducible repeat (first | apply Kd.R_alloc | apply Kd.R_drewN | apply Kd.R_drew)); exact HO_6.out) hb); have n1_ := Aside0.mk (Kd.R_below (by (with_reducible repeat (first | apply Kd.R_alloc | apply Kd.R_drewN | apply Kd.R_drew)); exact HO358.out) hb); have n2_ := Aside0.mk (below_step (by repeat (first | (with_reducible first | exact HB.out | apply below_alloc | apply pw_below_drewN | apply below_drew1) | exact HB.out)) hb); clear HO_6; clear HO358; clear HB; have HO_6 := n0_; have HO358 := n1_; have HB := n2_; clear n0_ n1_ n2_; (try clear hb); (try clear hb2); (try clear hk); (try clear hi)))
                    go_ret
                    exact ⟨by first | rfl | (simp [errW_none, errW_some] <;> rfl) | (simp [*, errW_none, errW_some] <;> rfl), by repeat (first | (with_reducible first | exact HB.out | apply below_alloc | apply pw_below_drewN | apply below_drew1) | exact HB.out)⟩
                · replace c22 := Bool.eq_false_iff.mpr c22
                  subst c22
                  have H1 : (some false) = some r := by rw [if_neg (show ¬ (false = true) by decide)] at H; exact H
                  clear H
                  have H := H1
                  clear H1
                  obtain rfl := Option.some.inj H
                  go_wp2_with (first | ((with_reducible refine gate_callee (f := 79) rfl ?_); refine goesL_ (some 52) rfl rfl Try.func79 (by kernel_rfl) rfl #[.int .i64 t345] rfl (by (try simp only [List.map_toArray, List.map_cons, List.map_nil]); first | done | rfl | (simp only [List.length_drop, List.length_take]; rfl)) ?_; (with_reducible refine (impl_SignedDigits.calls kj7 t345 t355 true _ A19.out).mono ?_); rintro e w46 ⟨v357, rfl, ho0, hb⟩; refine ⟨_, rfl, ?_⟩; have n0_ := Aside0.mk (Kd.R_elder' (by (with_reducible repeat (first | apply Kd.R_alloc | apply Kd.R_drewN | apply Kd.R_drew)); exact HO_6.out) (Kd.R_base ho0) hb); have n1_ := Aside0.mk (Kd.R_lower (Kd.R_new' ho0 (Kd.R_lt (by (with_reducible repeat (first | apply Kd.R_alloc | apply Kd.R_drewN | apply Kd.R_drew)); exact HO_6.out))) (below_size (by repeat (first | (with_reducible first | exact HB.out | apply below_alloc | apply pw_below_drewN | apply below_drew1) | exact HB.out)))); have n2_ := Aside0.mk (below_step (by repeat (first | (with_reducible first | exact HB.out | apply below_alloc | apply pw_below_drewN | apply below_drew1) | exact HB.out)) hb); clear HO_6; clear HB; have HO_6 := n0_; have HO358 := n1_; have HB := n2_; clear n0_ n1_ n2_; (try clear hb); (try clear hb2); (try clear hk); (try clear hi); (try clear ho0); obtain ⟨Ao47, co47, eo47⟩ := Kd.R_slice HO358.out; subst eo47) | ((with_reducible refine gate_callee (f := 80) rfl ?_); refine goesL_ (some 57) rfl rfl Try.func80 (by kernel_rfl) rfl #[.slice Ao47 t355.length co47] rfl (by (try simp only [List.map_toArray, List.map_cons, List.map_nil]); first | done | rfl | (simp only [List.length_drop, List.length_take]; rfl)) ?_; (with_reducible refine (impl_WeightOf.calls kj7 _ _ t355 t359 false _ ?side1 ?side2 A20.out).mono ?_); (case side1 => repeat (first | exact (Kd.R_reads' HO358.out).2.2 | (with_reducible refine Kd.C_alloc ?_ _) | (with_reducible refine Kd.C_drewN ?_ _) | (with_reducible refine Kd.C_drew ?_))); (case side2 => exact (Kd.R_reads' HO358.out).2.1); rintro e w' ⟨rfl, ⟨nd, rfl⟩⟩; refine ⟨_, rfl, ?_⟩))
                  go_ret
                  exact ⟨by first | rfl | (simp [errW_none, errW_some] <;> rfl) | (simp [*, errW_none, errW_some] <;> rfl), by repeat (first | (with_reducible first | exact HB.out | apply below_alloc | apply pw_below_drewN | apply below_drew1) | exact HB.out)⟩
              · replace c21 := Bool.eq_false_iff.mpr c21
                subst c21
                have H1 : (some false) = some r := by rw [if_neg (show ¬ (false = true) by decide)] at H; exact H
                clear H
                have H := H1
                clear H1
                obtain rfl := Option.some.inj H
                go_wp2_with (first | ((with_reducible refine gate_callee (f := 79) rfl ?_); refine goesL_ (some 52) rfl rfl Try.func79 (by kernel_rfl) rfl #[.int .i64 t345] rfl (by (try simp only [List.map_toArray, List.map_cons, List.map_nil]); first | done | rfl | (simp only [List.length_drop, List.length_take]; rfl)) ?_; (with_reducible refine (impl_SignedDigits.calls kj7 t345 t355 false _ A19.out).mono ?_); rintro e w48 ⟨v357, rfl, ho0, hb⟩; refine ⟨_, rfl, ?_⟩; have n0_ := Aside0.mk (Kd.R_elder' (by (with_reducible repeat (first | apply Kd.R_alloc | apply Kd.R_drewN | apply Kd.R_drew)); exact HO_6.out) (Kd.R_base ho0) hb); have n1_ := Aside0.mk (Kd.R_lower (Kd.R_new' ho0 (Kd.R_lt (by (with_reducible repeat (first | apply Kd.R_alloc | apply Kd.R_drewN | apply Kd.R_drew)); exact HO_6.out))) (below_size (by repeat (first | (with_reducible first | exact HB.out | apply below_alloc | apply pw_below_drewN | apply below_drew1) | exact HB.out)))); have n2_ := Aside0.mk (below_step (by repeat (first | (with_reducible first | exact HB.out | apply below_alloc | apply pw_below_drewN | apply below_drew1) | exact HB.out)) hb); clear HO_6; clear HB; have HO_6 := n0_; have HO358 := n1_; have HB := n2_; clear n0_ n1_ n2_; (try clear hb); (try clear hb2); (try clear hk); (try clear hi); (try clear ho0); obtain ⟨Ao49, co49, eo49⟩ := Kd.R_slice HO358.out; subst eo49) | ((with_reducible refine gate_callee (f := 80) rfl ?_); refine goesL_ (some 57) rfl rfl Try.func80 (by kernel_rfl) rfl #[.slice Ao49 t355.length co49] rfl (by (try simp only [List.map_toArray, List.map_cons, List.map_nil]); first | done | rfl | (simp only [List.length_drop, List.length_take]; rfl)) ?_; (with_reducible refine (impl_WeightOf.calls kj7 _ _ t355 t359 t360 _ ?side1 ?side2 A20.out).mono ?_); (case side1 => repeat (first | exact (Kd.R_reads' HO358.out).2.2 | (with_reducible refine Kd.C_alloc ?_ _) | (with_reducible refine Kd.C_drewN ?_ _) | (with_reducible refine Kd.C_drew ?_))); (case side2 => exact (Kd.R_reads' HO358.out).2.1); rintro e w' ⟨rfl, ⟨nd, rfl⟩⟩; refine ⟨_, rfl, ?_⟩))
                go_ret
                exact ⟨by first | rfl | (simp [errW_none, errW_some] <;> rfl) | (simp [*, errW_none, errW_some] <;> rfl), by repeat (first | (with_reducible first | exact HB.out | apply below_alloc | apply pw_below_drewN | apply below_drew1) | exact HB.out)⟩
            · replace c18 := Bool.eq_false_iff.mpr c18
              subst c18
              have H1 : (laws_FnSubtractionChains.j1 kj7 l1) = some r := by rw [if_neg (show ¬ (false = true) by decide)] at H; exact H
              clear H
              have H := H1
              clear H1
              have H' := Aside0.mk H
              clear H
              go_wp2
              go_meet
              case rel => exact ⟨_, H', ⟨by have := HJ7.out; first | omega | exact Nat.le_refl _⟩, ⟨by repeat (first | (with_reducible first | exact HB.out | apply below_alloc | apply pw_below_drewN | apply below_drew1) | exact HB.out)⟩⟩
          case rest =>
            clear HC17
            try clear c1
            try clear c2
            try clear p2
            try clear p3
            try clear q3
            try clear hx3
            try clear c4
            try clear p6
            try clear c7
            try clear c8
            try clear c12
            try clear c12b0
            try clear c12b1
            try clear c12b2
            try clear c13
            try clear c14
            try clear c16
            try clear c18
            try clear c21
            try clear c22
            try clear c24
            try clear c26
            try clear c26b0
            try clear c27
            try clear c27b0
            try clear c28
            try clear c28b0
            try clear c28b1
            try clear c29
            try clear c29b0
            try clear c29b1
            try clear p36
            try clear q36
            try clear hx36
            try clear hx362_0
            try clear p2
            try clear p362
            try clear q362
            obtain ⟨kq, HA, HJ16, HB⟩ := hcut
            cases kq with
            | zero => exact absurd HA.out (by simp [laws_FnSubtractionChains.j1])
            | succ kj16 =>
              have H := HA.out
              clear HA
              simp only [laws_FnSubtractionChains.j1] at H
              replace H := Option.bind_eq_some_iff.mp H
              obtain ⟨⟨t363, t364⟩, A500, H⟩ := H
              replace H : ((impl_ShortestSubtraction.f t363 t364).bind fun bt365 => ((impl_StarLength.f t363).bind fun bt369 => ((spec_ShortestSubtraction.f kj16 t363 t364).bind fun bt371 => (if (bt365.2 != bt371.2) = true then (laws_FnSubtractionChains.j2 kj16 l1 t363 t364 bt365.1 bt365.2 bt369.1 bt369.2 true) else ((laws_rSame.f kj16 bt365.1 bt371.1).bind fun t375 => (laws_FnSubtractionChains.j2 kj16 l1 t363 t364 bt365.1 bt365.2 bt369.1 bt369.2 (!t375))))))) = some r := H
              have A50 := Aside0.mk A500
              clear A500
              replace H := Option.bind_eq_some_iff.mp H
              obtain ⟨⟨t365, t366⟩, A510, H⟩ := H
              replace H : ((impl_StarLength.f t363).bind fun bt369 => ((spec_ShortestSubtraction.f kj16 t363 t364).bind fun bt371 => (if (t366 != bt371.2) = true then (laws_FnSubtractionChains.j2 kj16 l1 t363 t364 t365 t366 bt369.1 bt369.2 true) else ((laws_rSame.f kj16 t365 bt371.1).bind fun t375 => (laws_FnSubtractionChains.j2 kj16 l1 t363 t364 t365 t366 bt369.1 bt369.2 (!t375)))))) = some r := H
              have A51 := Aside0.mk A510
              clear A510
              replace H := Option.bind_eq_some_iff.mp H
              obtain ⟨⟨t369, t370⟩, A520, H⟩ := H
              replace H : ((spec_ShortestSubtraction.f kj16 t363 t364).bind fun bt371 => (if (t366 != bt371.2) = true then (laws_FnSubtractionChains.j2 kj16 l1 t363 t364 t365 t366 t369 t370 true) else ((laws_rSame.f kj16 t365 bt371.1).bind fun t375 => (laws_FnSubtractionChains.j2 kj16 l1 t363 t364 t365 t366 t369 t370 (!t375))))) = some r := H
              have A52 := Aside0.mk A520
              clear A520
              replace H := Option.bind_eq_some_iff.mp H
              obtain ⟨⟨t371, t372⟩, A530, H⟩ := H
              replace H : (if (t366 != t372) = true then (laws_FnSubtractionChains.j2 kj16 l1 t363 t364 t365 t366 t369 t370 true) else ((laws_rSame.f kj16 t365 t371).bind fun t375 => (laws_FnSubtractionChains.j2 kj16 l1 t363 t364 t365 t366 t369 t370 (!t375)))) = some r := H
              have A53 := Aside0.mk A530
              clear A530
              have HC54 := Aside0.mk H
              clear H
              go_upto_region 17 with (first | ((with_reducible refine gate_callee (f := 82) rfl ?_); refine goesL_ (some 93) rfl rfl Try.func82 (by kernel_rfl) rfl #[.slice A1 l1.length c1] rfl (by (try simp only [List.map_toArray, List.map_cons, List.map_nil]); first | done | rfl | (simp only [List.length_drop, List.length_take]; rfl)) ?_; (with_reducible refine (spec_DrawShortestSubtraction.calls _ _ l1 t363 t364 _ ?side1 ?side2 A50.out).mono ?_); (case side1 => repeat (first | exact (Kd.C_below HR1.out HB.out) | (with_reducible refine Kd.C_alloc ?_ _) | (with_reducible refine Kd.C_drewN ?_ _) | (with_reducible refine Kd.C_drew ?_))); (case side2 => exact HC1.out); rintro e w55 ⟨rfl, hb⟩; refine ⟨_, rfl, ?_⟩; have n0_ := Aside0.mk (below_step (by repeat (first | (with_reducible first | exact HB.out | apply below_alloc | apply pw_below_drewN | apply below_drew1) | exact HB.out)) hb); clear HB; have HB := n0_; clear n0_; (try clear hb); (try clear hb2); (try clear hk); (try clear hi)) | ((with_reducible refine gate_callee (f := 83) rfl ?_); refine goesL_ (some 99) rfl rfl Try.func83 (by kernel_rfl) rfl #[.int .i64 t363, .int .i64 t364] rfl (by (try simp only [List.map_toArray, List.map_cons, List.map_nil]); first | done | rfl | (simp only [List.length_drop, List.length_take]; rfl)) ?_; (with_reducible refine (impl_ShortestSubtraction.calls t363 t364 t365 t366 _ A51.out).mono ?_); rintro e w56 ⟨v367, rfl, ho0, hb⟩; refine ⟨_, rfl, ?_⟩; have n0_ := Aside0.mk (Kd.R_lower ho0 (below_size (by repeat (first | (with_reducible first | exact HB.out | apply below_alloc | apply pw_below_drewN | apply below_drew1) | exact HB.out)))); have n1_ := Aside0.mk (below_step (by repeat (first | (with_reducible first | exact HB.out | apply below_alloc | apply pw_below_drewN | apply below_drew1) | exact HB.out)) hb); clear HB; have HO368 := n0_; have HB := n1_; clear n0_ n1_; (try clear hb); (try clear hb2); (try clear hk); (try clear hi); (try clear ho0)) | ((with_reducible refine gate_callee (f := 84) rfl ?_); refine goesL_ (some 104) rfl rfl Try.func84 (by kernel_rfl) rfl #[.int .i64 t363] rfl (by (try simp only [List.map_toArray, List.map_cons, List.map_nil]); first | done | rfl | (simp only [List.length_drop, List.length_take]; rfl)) ?_; (with_reducible refine (impl_StarLength.calls t363 t369 t370 _ A52.out).mono ?_); rintro e w57 ⟨rfl, hb⟩; refine ⟨_, rfl, ?_⟩; have n0_ := Aside0.mk (Kd.R_below (by (with_reducible repeat (first | apply Kd.R_alloc | apply Kd.R_drewN | apply Kd.R_drew)); exact HO368.out) hb); have n1_ := Aside0.mk (below_step (by repeat (first | (with_reducible first | exact HB.out | apply below_alloc | apply pw_below_drewN | apply below_drew1) | exact HB.out)) hb); clear HO368; clear HB; have HO368 := n0_; have HB := n1_; clear n0_ n1_; (try clear hb); (try clear hb2); (try clear hk); (try clear hi)) | ((with_reducible refine gate_callee (f := 85) rfl ?_); refine goesL_ (some 110) rfl rfl Try.func85 (by kernel_rfl) rfl #[.int .i64 t363, .int .i64 t364] rfl (by (try simp only [List.map_toArray, List.map_cons, List.map_nil]); first | done | rfl | (simp only [List.length_drop, List.length_take]; rfl)) ?_; (with_reducible refine (spec_ShortestSubtraction.calls kj16 t363 t364 t371 t372 _ A53.out).mono ?_); rintro e w58 ⟨v373, rfl, ho0, hb⟩; refine ⟨_, rfl, ?_⟩; have n0_ := Aside0.mk (Kd.R_elder' (by (with_reducible repeat (first | apply Kd.R_alloc | apply Kd.R_drewN | apply Kd.R_drew)); exact HO368.out) (Kd.R_base ho0) hb); have n1_ := Aside0.mk (Kd.R_lower (Kd.R_new' ho0 (Kd.R_lt (by (with_reducible repeat (first | apply Kd.R_alloc | apply Kd.R_drewN | apply Kd.R_drew)); exact HO368.out))) (below_size (by repeat (first | (with_reducible first | exact HB.out | apply below_alloc | apply pw_below_drewN | apply below_drew1) | exact HB.out)))); have n2_ := Aside0.mk (below_step (by repeat (first | (with_reducible first | exact HB.out | apply below_alloc | apply pw_below_drewN | apply below_drew1) | exact HB.out)) hb); clear HO368; clear HB; have HO368 := n0_; have HO374 := n1_; have HB := n2_; clear n0_ n1_ n2_; (try clear hb); (try clear hb2); (try clear hk); (try clear hi); (try clear ho0)))
              (try simp only [Act.put, List.setIfInBounds_toArray, List.set_cons_zero, List.set_cons_succ])
              go_cut [121] (fun v121 wc => ∃ (kq : Nat) (x121_53 : Bool), v121 = .bool x121_53 ∧ Aside0 (laws_FnSubtractionChains.j2 kq l1 t363 t364 t365 t366 t369 t370 x121_53 = some r) ∧ Aside0 (kq ≤ kj16) ∧ Aside0 (Kd.R (Kd.int .i64) 3 wc w.heap.size (fun _ => True) v367 t365) ∧ Aside0 (Below w.heap.size w wc))
              case first =>
                have H := HC54.out
                clear HC54
                by_cases c59 : (t366 != t372) = true
                · rw [if_pos c59] at H
                  have c59b0 : (t366 != t372) = true := c59
                  (try (have c59b1 : decide (t366 = t372) = false := by simpa using c59))
                  (try (have c59b2 : (t366 == t372) = false := by simpa using c59))
                  (try (have c59b3 : ¬ (t366 = t372) := by simpa using c59))
                  clear c59
                  (first | rw [c59b0] | (simp only [i64_w, i32_w]; rw [c59b0]) | skip)
                  have H' := Aside0.mk H
                  clear H
                  go_wp2
                  go_meet
                  case rel => exact ⟨_, (true), (by first | rfl | (simp; done) | (simp [*]; done)), H', ⟨by have := HJ7.out; have := HJ16.out; first | omega | exact Nat.le_refl _⟩, ⟨by (with_reducible repeat (first | apply Kd.R_alloc | apply Kd.R_drewN | apply Kd.R_drew)); exact Kd.R_mono HO368.out (fun _ hk => trivial)⟩, ⟨by repeat (first | (with_reducible first | exact HB.out | apply below_alloc | apply pw_below_drewN | apply below_drew1) | exact HB.out)⟩⟩
                · rw [if_neg c59] at H
                  have c59b0 : (t366 != t372) = false := by simpa using c59
                  (try (have c59b1 : decide (t366 = t372) = true := by simpa using c59))
                  (try (have c59b2 : (t366 == t372) = true := by simpa using c59))
                  clear c59
                  (first | rw [c59b0] | (simp only [i64_w, i32_w]; rw [c59b0]) | skip)
                  replace H := Option.bind_eq_some_iff.mp H
                  obtain ⟨t375, A600, H⟩ := H
                  replace H : (laws_FnSubtractionChains.j2 kj16 l1 t363 t364 t365 t366 t369 t370 (!t375)) = some r := H
                  have A60 := Aside0.mk A600
                  clear A600
                  have H' := Aside0.mk H
                  clear H
                  obtain ⟨Ao61, co61, eo61⟩ := Kd.R_slice HO368.out
                  subst eo61
                  obtain ⟨Ao62, co62, eo62⟩ := Kd.R_slice HO374.out
                  subst eo62
                  go_wp2_with (first | (go_at_call 78; (with_reducible refine (laws_rSame.calls kj16 _ _ t365 _ _ t371 t375 _ ?side1 ?side2 ?side3 ?side4 A60.out).mono ?_); (case side1 => repeat (first | exact (Kd.R_reads' HO368.out).2.2 | (with_reducible refine Kd.C_alloc ?_ _) | (with_reducible refine Kd.C_drewN ?_ _) | (with_reducible refine Kd.C_drew ?_))); (case side2 => exact (Kd.R_reads' HO368.out).2.1); (case side3 => repeat (first | exact (Kd.R_reads' HO374.out).2.2 | (with_reducible refine Kd.C_alloc ?_ _) | (with_reducible refine Kd.C_drewN ?_ _) | (with_reducible refine Kd.C_drew ?_))); (case side4 => exact (Kd.R_reads' HO374.out).2.1); rintro e w' ⟨rfl, ⟨nd, rfl⟩⟩))
                  go_meet
                  case rel => exact ⟨_, (!t375), (by first | rfl | (simp; done) | (simp [*]; done)), H', ⟨by have := HJ7.out; have := HJ16.out; first | omega | exact Nat.le_refl _⟩, ⟨by (with_reducible repeat (first | apply Kd.R_alloc | apply Kd.R_drewN | apply Kd.R_drew)); exact Kd.R_mono HO368.out (fun _ hk => trivial)⟩, ⟨by repeat (first | (with_reducible first | exact HB.out | apply below_alloc | apply pw_below_drewN | apply below_drew1) | exact HB.out)⟩⟩
              case rest =>
                clear HC54
                try clear c1
                try clear c2
                try clear p2
                try clear p3
                try clear q3
                try clear hx3
                try clear c4
                try clear c5
                try clear p6
                try clear c7
                try clear c8
                try clear c12
                try clear c12b0
                try clear c12b1
                try clear c12b2
                try clear c13
                try clear c14
                try clear c16
                try clear c18
                try clear c21
                try clear c22
                try clear c24
                try clear c26
                try clear c26b0
                try clear c27
                try clear c27b0
                try clear c28
                try clear c28b0
                try clear c28b1
                try clear c29
                try clear c29b0
                try clear c29b1
                try clear p36
                try clear q36
                try clear hx36
                try clear c59
                try clear c59b0
                try clear c59b1
                try clear c59b2
                try clear hx362_0
                try clear p2
                try clear p3
                try clear p36
                try clear p362
                try clear p6
                try clear q3
                try clear q36
                try clear q362
                obtain ⟨kq, x121_53, rfl, HA, HJ53, HO_16, HB⟩ := hcut
                cases kq with
                | zero => exact absurd HA.out (by simp [laws_FnSubtractionChains.j2])
                | succ kj53 =>
                  have H := HA.out
                  clear HA
                  simp only [laws_FnSubtractionChains.j2] at H
                  by_cases c63 : x121_53 = true
                  · subst c63
                    have H1 : (some false) = some r := by rw [if_pos rfl] at H; exact H
                    clear H
                    have H := H1
                    clear H1
                    obtain rfl := Option.some.inj H
                    go_wp2
                    go_ret
                    exact ⟨by first | rfl | (simp [errW_none, errW_some] <;> rfl) | (simp [*, errW_none, errW_some] <;> rfl), by repeat (first | (with_reducible first | exact HB.out | apply below_alloc | apply pw_below_drewN | apply below_drew1) | exact HB.out)⟩
                  · replace c63 := Bool.eq_false_iff.mpr c63
                    subst c63
                    have H1 : (if t366 = true then ((impl_IsSubtractionChain.f kj53 t365).bind fun t376 => (if t376 = true then (if 0 ≤ (wrap64 ((t365.length : Int) - 1)) then (if (wrap64 ((t365.length : Int) - 1)) < (t365.length : Int) then (if (rd t365 (wrap64 ((t365.length : Int) - 1))) = t363 then (if t370 = true then (laws_FnSubtractionChains.j3 kj53 l1 t364 t365 (decide ((t365.length : Int) > (wrap64 (t369 + 1))))) else (laws_FnSubtractionChains.j3 kj53 l1 t364 t365 true)) else (laws_FnSubtractionChains.j3 kj53 l1 t364 t365 true)) else (none)) else (none)) else (laws_FnSubtractionChains.j3 kj53 l1 t364 t365 true))) else ((spec_DrawIsSubtractionChain.f kj53 l1).bind fun t384 => ((impl_IsSubtractionChain.f kj53 t384).bind fun t387 => ((spec_IsSubtractionChain.f kj53 t384).bind fun t388 => (some (t387 == t388)))))) = some r := by rw [if_neg (show ¬ (false = true) by decide)] at H; exact H
                    clear H
                    have H := H1
                    clear H1
                    by_cases c64 : t366 = true
                    · subst c64
                      have H1 : ((impl_IsSubtractionChain.f kj53 t365).bind fun t376 => (if t376 = true then (if 0 ≤ (wrap64 ((t365.length : Int) - 1)) then (if (wrap64 ((t365.length : Int) - 1)) < (t365.length : Int) then (if (rd t365 (wrap64 ((t365.length : Int) - 1))) = t363 then (if t370 = true then (laws_FnSubtractionChains.j3 kj53 l1 t364 t365 (decide ((t365.length : Int) > (wrap64 (t369 + 1))))) else (laws_FnSubtractionChains.j3 kj53 l1 t364 t365 true)) else (laws_FnSubtractionChains.j3 kj53 l1 t364 t365 true)) else (none)) else (none)) else (laws_FnSubtractionChains.j3 kj53 l1 t364 t365 true))) = some r := by rw [if_pos rfl] at H; exact H
                      clear H
                      have H := H1
                      clear H1
                      have HC65 := Aside0.mk H
                      clear H
                      go_upto_region 20 with (fail)
                      go_cut [146] (fun v146 wc => ∃ (kq : Nat) (x146_64 : Bool), v146 = .bool x146_64 ∧ Aside0 (laws_FnSubtractionChains.j3 kq l1 t364 t365 x146_64 = some r) ∧ Aside0 (kq ≤ kj53) ∧ Aside0 (Kd.R (Kd.int .i64) 3 wc w.heap.size (fun _ => True) v367 t365) ∧ Aside0 (Below w.heap.size w wc))
                      case first =>
                        have H := HC65.out
                        clear HC65
                        replace H := Option.bind_eq_some_iff.mp H
                        obtain ⟨t376, A660, H⟩ := H
                        replace H : (if t376 = true then (if 0 ≤ (wrap64 ((t365.length : Int) - 1)) then (if (wrap64 ((t365.length : Int) - 1)) < (t365.length : Int) then (if (rd t365 (wrap64 ((t365.length : Int) - 1))) = t363 then (if t370 = true then (laws_FnSubtractionChains.j3 kj53 l1 t364 t365 (decide ((t365.length : Int) > (wrap64 (t369 + 1))))) else (laws_FnSubtractionChains.j3 kj53 l1 t364 t365 true)) else (laws_FnSubtractionChains.j3 kj53 l1 t364 t365 true)) else (none)) else (none)) else (laws_FnSubtractionChains.j3 kj53 l1 t364 t365 true)) = some r := H
                        have A66 := Aside0.mk A660
                        clear A660
                        by_cases c67 : t376 = true
                        · subst c67
                          have H1 : (if 0 ≤ (wrap64 ((t365.length : Int) - 1)) then (if (wrap64 ((t365.length : Int) - 1)) < (t365.length : Int) then (if (rd t365 (wrap64 ((t365.length : Int) - 1))) = t363 then (if t370 = true then (laws_FnSubtractionChains.j3 kj53 l1 t364 t365 (decide ((t365.length : Int) > (wrap64 (t369 + 1))))) else (laws_FnSubtractionChains.j3 kj53 l1 t364 t365 true)) else (laws_FnSubtractionChains.j3 kj53 l1 t364 t365 true)) else (none)) else (none)) = some r := by rw [if_pos rfl] at H; exact H
                          clear H
                          have H := H1
                          clear H1
                          obtain ⟨ji68, hji68⟩ : ∃ j_ : Int, (wrap64 ((t365.length : Int) - 1)) = j_ := ⟨_, rfl⟩
                          replace H : (if 0 ≤ (ji68) then (if (ji68) < (t365.length : Int) then (if (rd t365 (ji68)) = t363 then (if t370 = true then (laws_FnSubtractionChains.j3 kj53 l1 t364 t365 (decide ((t365.length : Int) > (wrap64 (t369 + 1))))) else (laws_FnSubtractionChains.j3 kj53 l1 t364 t365 true)) else (laws_FnSubtractionChains.j3 kj53 l1 t364 t365 true)) else (none)) else (none)) = some r := by first | (rw [hji68] at H; exact H) | (simp only [hji68] at H ⊢; exact H)
                          (try rw [hji68] at A66)
                          have hji68w : (IntKind.i64.wrap ((t365.length : Int) - 1)) = ji68 := (i64_w _).trans hji68
                          by_cases c69 : 0 ≤ (ji68)
                          · rw [if_pos c69] at H
                            have c69b0 : decide (0 ≤ (ji68)) = true := decide_eq_true c69
                            clear c69
                            (first | rw [c69b0] | (simp only [i64_w, i32_w]; rw [c69b0]) | skip)
                            by_cases c70 : (ji68) < (t365.length : Int)
                            · rw [if_pos c70] at H
                              have c70b0 : decide ((ji68) < (t365.length : Int)) = true := decide_eq_true c70
                              clear c70
                              by_cases c71 : (rd t365 (ji68)) = t363
                              · rw [if_pos c71] at H
                                have c71b0 : ((rd t365 (ji68)) == t363) = true := beq_iff_eq.mpr c71
                                have c71b1 : ((rd t365 (ji68)) != t363) = false := bne_eq_false_iff_eq.mpr c71
                                clear c71
                                by_cases c72 : t370 = true
                                · subst c72
                                  have H1 : (laws_FnSubtractionChains.j3 kj53 l1 t364 t365 (decide ((t365.length : Int) > (wrap64 (t369 + 1))))) = some r := by rw [if_pos rfl] at H; exact H
                                  clear H
                                  have H := H1
                                  clear H1
                                  have H' := Aside0.mk H
                                  clear H
                                  obtain ⟨Ao73, co73, eo73⟩ := Kd.R_slice HO_16.out
                                  subst eo73
                                  go_wp2_with (first | ((with_reducible refine gate_callee (f := 81) rfl ?_); refine goesL_ (some 124) rfl rfl Try.func81 (by kernel_rfl) rfl #[.slice Ao73 t365.length co73] rfl (by (try simp only [List.map_toArray, List.map_cons, List.map_nil]); first | done | rfl | (simp only [List.length_drop, List.length_take]; rfl)) ?_; (with_reducible refine (impl_IsSubtractionChain.calls kj53 _ _ t365 true _ ?side1 ?side2 A66.out).mono ?_); (case side1 => repeat (first | exact (Kd.R_reads' HO_16.out).2.2 | (with_reducible refine Kd.C_alloc ?_ _) | (with_reducible refine Kd.C_drewN ?_ _) | (with_reducible refine Kd.C_drew ?_))); (case side2 => exact (Kd.R_reads' HO_16.out).2.1); rintro e w74 ⟨rfl, hb⟩; refine ⟨_, rfl, ?_⟩; have n0_ := Aside0.mk (Kd.R_below (by (with_reducible repeat (first | apply Kd.R_alloc | apply Kd.R_drewN | apply Kd.R_drew)); exact HO_16.out) hb); have n1_ := Aside0.mk (below_step (by repeat (first | (with_reducible first | exact HB.out | apply below_alloc | apply pw_below_drewN | apply below_drew1) | exact HB.out)) hb); clear HO_16; clear HB; have HO_16 := n0_; have HB := n1_; clear n0_ n1_; (try clear hb); (try clear hb2); (try clear hk); (try clear hi); have p377 : 0 ≤ ((ji68) : Int) := of_decide_eq_true (by first | (with_reducible assumption) | assumption); have q377 : (ji68) < (t365.length : Int) := of_decide_eq_true (by first | (with_reducible assumption) | assumption); obtain ⟨ad377, e377, hx377_0⟩ := Kd.at_int (Kd.R_reads' HO_16.out).2.2 (ji68) p377 q377; cases e377; replace p377 := eq_true p377; replace q377 := eq_true q377))
                                  go_meet
                                  case rel => exact ⟨_, (decide ((t365.length : Int) > (wrap64 (t369 + 1)))), (by first | rfl | (simp; done) | (simp [*]; done)), H', ⟨by have := HJ7.out; have := HJ16.out; have := HJ53.out; first | omega | exact Nat.le_refl _⟩, ⟨by (with_reducible repeat (first | apply Kd.R_alloc | apply Kd.R_drewN | apply Kd.R_drew)); exact HO_16.out⟩, ⟨by repeat (first | (with_reducible first | exact HB.out | apply below_alloc | apply pw_below_drewN | apply below_drew1) | exact HB.out)⟩⟩
                                · replace c72 := Bool.eq_false_iff.mpr c72
                                  subst c72
                                  have H1 : (laws_FnSubtractionChains.j3 kj53 l1 t364 t365 true) = some r := by rw [if_neg (show ¬ (false = true) by decide)] at H; exact H
                                  clear H
                                  have H := H1
                                  clear H1
                                  have H' := Aside0.mk H
                                  clear H
                                  obtain ⟨Ao75, co75, eo75⟩ := Kd.R_slice HO_16.out
                                  subst eo75
                                  go_wp2_with (first | ((with_reducible refine gate_callee (f := 81) rfl ?_); refine goesL_ (some 124) rfl rfl Try.func81 (by kernel_rfl) rfl #[.slice Ao75 t365.length co75] rfl (by (try simp only [List.map_toArray, List.map_cons, List.map_nil]); first | done | rfl | (simp only [List.length_drop, List.length_take]; rfl)) ?_; (with_reducible refine (impl_IsSubtractionChain.calls kj53 _ _ t365 true _ ?side1 ?side2 A66.out).mono ?_); (case side1 => repeat (first | exact (Kd.R_reads' HO_16.out).2.2 | (with_reducible refine Kd.C_alloc ?_ _) | (with_reducible refine Kd.C_drewN ?_ _) | (with_reducible refine Kd.C_drew ?_))); (case side2 => exact (Kd.R_reads' HO_16.out).2.1); rintro e w76 ⟨rfl, hb⟩; refine ⟨_, rfl, ?_⟩; have n0_ := Aside0.mk (Kd.R_below (by (with_reducible repeat (first | apply Kd.R_alloc | apply Kd.R_drewN | apply Kd.R_drew)); exact HO_16.out) hb); have n1_ := Aside0.mk (below_step (by repeat (first | (with_reducible first | exact HB.out | apply below_alloc | apply pw_below_drewN | apply below_drew1) | exact HB.out)) hb); clear HO_16; clear HB; have HO_16 := n0_; have HB := n1_; clear n0_ n1_; (try clear hb); (try clear hb2); (try clear hk); (try clear hi); have p377 : 0 ≤ ((ji68) : Int) := of_decide_eq_true (by first | (with_reducible assumption) | assumption); have q377 : (ji68) < (t365.length : Int) := of_decide_eq_true (by first | (with_reducible assumption) | assumption); obtain ⟨ad377, e377, hx377_0⟩ := Kd.at_int (Kd.R_reads' HO_16.out).2.2 (ji68) p377 q377; cases e377; replace p377 := eq_true p377; replace q377 := eq_true q377))
                                  go_meet
                                  case rel => exact ⟨_, (true), (by first | rfl | (simp; done) | (simp [*]; done)), H', ⟨by have := HJ7.out; have := HJ16.out; have := HJ53.out; first | omega | exact Nat.le_refl _⟩, ⟨by (with_reducible repeat (first | apply Kd.R_alloc | apply Kd.R_drewN | apply Kd.R_drew)); exact HO_16.out⟩, ⟨by repeat (first | (with_reducible first | exact HB.out | apply below_alloc | apply pw_below_drewN | apply below_drew1) | exact HB.out)⟩⟩
                              · rw [if_neg c71] at H
                                have c71b0 : ((rd t365 (ji68)) == t363) = false := beq_eq_false_iff_ne.mpr c71
                                have c71b1 : ((rd t365 (ji68)) != t363) = true := bne_iff_ne.mpr c71
                                have H' := Aside0.mk H
                                clear H
                                obtain ⟨Ao77, co77, eo77⟩ := Kd.R_slice HO_16.out
                                subst eo77
                                go_wp2_with (first | ((with_reducible refine gate_callee (f := 81) rfl ?_); refine goesL_ (some 124) rfl rfl Try.func81 (by kernel_rfl) rfl #[.slice Ao77 t365.length co77] rfl (by (try simp only [List.map_toArray, List.map_cons, List.map_nil]); first | done | rfl | (simp only [List.length_drop, List.length_take]; rfl)) ?_; (with_reducible refine (impl_IsSubtractionChain.calls kj53 _ _ t365 true _ ?side1 ?side2 A66.out).mono ?_); (case side1 => repeat (first | exact (Kd.R_reads' HO_16.out).2.2 | (with_reducible refine Kd.C_alloc ?_ _) | (with_reducible refine Kd.C_drewN ?_ _) | (with_reducible refine Kd.C_drew ?_))); (case side2 => exact (Kd.R_reads' HO_16.out).2.1); rintro e w78 ⟨rfl, hb⟩; refine ⟨_, rfl, ?_⟩; have n0_ := Aside0.mk (Kd.R_below (by (with_reducible repeat (first | apply Kd.R_alloc | apply Kd.R_drewN | apply Kd.R_drew)); exact HO_16.out) hb); have n1_ := Aside0.mk (below_step (by repeat (first | (with_reducible first | exact HB.out | apply below_alloc | apply pw_below_drewN | apply below_drew1) | exact HB.out)) hb); clear HO_16; clear HB; have HO_16 := n0_; have HB := n1_; clear n0_ n1_; (try clear hb); (try clear hb2); (try clear hk); (try clear hi); have p377 : 0 ≤ ((ji68) : Int) := of_decide_eq_true (by first | (with_reducible assumption) | assumption); have q377 : (ji68) < (t365.length : Int) := of_decide_eq_true (by first | (with_reducible assumption) | assumption); obtain ⟨ad377, e377, hx377_0⟩ := Kd.at_int (Kd.R_reads' HO_16.out).2.2 (ji68) p377 q377; cases e377; replace p377 := eq_true p377; replace q377 := eq_true q377))
                                go_meet
                                case rel => exact ⟨_, (true), (by first | rfl | (simp; done) | (simp [*]; done)), H', ⟨by have := HJ7.out; have := HJ16.out; have := HJ53.out; first | omega | exact Nat.le_refl _⟩, ⟨by (with_reducible repeat (first | apply Kd.R_alloc | apply Kd.R_drewN | apply Kd.R_drew)); exact HO_16.out⟩, ⟨by repeat (first | (with_reducible first | exact HB.out | apply below_alloc | apply pw_below_drewN | apply below_drew1) | exact HB.out)⟩⟩
                            · rw [if_neg c70] at H
                              exact absurd H (by simp)
                          · rw [if_neg c69] at H
                            exact absurd H (by simp)
                        · replace c67 := Bool.eq_false_iff.mpr c67
                          subst c67
                          have H1 : (laws_FnSubtractionChains.j3 kj53 l1 t364 t365 true) = some r := by rw [if_neg (show ¬ (false = true) by decide)] at H; exact H
                          clear H
                          have H := H1
                          clear H1
                          have H' := Aside0.mk H
                          clear H
                          obtain ⟨Ao79, co79, eo79⟩ := Kd.R_slice HO_16.out
                          subst eo79
                          go_wp2_with (first | ((with_reducible refine gate_callee (f := 81) rfl ?_); refine goesL_ (some 124) rfl rfl Try.func81 (by kernel_rfl) rfl #[.slice Ao79 t365.length co79] rfl (by (try simp only [List.map_toArray, List.map_cons, List.map_nil]); first | done | rfl | (simp only [List.length_drop, List.length_take]; rfl)) ?_; (with_reducible refine (impl_IsSubtractionChain.calls kj53 _ _ t365 false _ ?side1 ?side2 A66.out).mono ?_); (case side1 => repeat (first | exact (Kd.R_reads' HO_16.out).2.2 | (with_reducible refine Kd.C_alloc ?_ _) | (with_reducible refine Kd.C_drewN ?_ _) | (with_reducible refine Kd.C_drew ?_))); (case side2 => exact (Kd.R_reads' HO_16.out).2.1); rintro e w80 ⟨rfl, hb⟩; refine ⟨_, rfl, ?_⟩; have n0_ := Aside0.mk (Kd.R_below (by (with_reducible repeat (first | apply Kd.R_alloc | apply Kd.R_drewN | apply Kd.R_drew)); exact HO_16.out) hb); have n1_ := Aside0.mk (below_step (by repeat (first | (with_reducible first | exact HB.out | apply below_alloc | apply pw_below_drewN | apply below_drew1) | exact HB.out)) hb); clear HO_16; clear HB; have HO_16 := n0_; have HB := n1_; clear n0_ n1_; (try clear hb); (try clear hb2); (try clear hk); (try clear hi)))
                          go_meet
                          case rel => exact ⟨_, (true), (by first | rfl | (simp; done) | (simp [*]; done)), H', ⟨by have := HJ7.out; have := HJ16.out; have := HJ53.out; first | omega | exact Nat.le_refl _⟩, ⟨by (with_reducible repeat (first | apply Kd.R_alloc | apply Kd.R_drewN | apply Kd.R_drew)); exact HO_16.out⟩, ⟨by repeat (first | (with_reducible first | exact HB.out | apply below_alloc | apply pw_below_drewN | apply below_drew1) | exact HB.out)⟩⟩
                      case rest =>
                        clear HC65
                        try clear c1
                        try clear c2
                        try clear p2
                        try clear p3
                        try clear q3
                        try clear hx3
                        try clear c4
                        try clear c5
                        try clear c6
                        try clear p6
                        try clear c7
                        try clear c8
                        try clear c12
                        try clear c12b0
                        try clear c12b1
                        try clear c12b2
                        try clear c13
                        try clear c14
                        try clear c16
                        try clear c18
                        try clear c21
                        try clear c22
                        try clear c24
                        try clear c26
                        try clear c26b0
                        try clear c27
                        try clear c27b0
                        try clear c28
                        try clear c28b0
                        try clear c28b1
                        try clear c29
                        try clear c29b0
                        try clear c29b1
                        try clear p36
                        try clear q36
                        try clear hx36
                        try clear p37
                        try clear q37
                        try clear hx37
                        try clear c59
                        try clear c59b0
                        try clear c59b1
                        try clear c59b2
                        try clear c63
                        try clear c64
                        try clear p64
                        try clear c67
                        try clear c69
                        try clear c69b0
                        try clear c70
                        try clear c70b0
                        try clear c71
                        try clear c71b0
                        try clear c71b1
                        try clear c72
                        try clear c75
                        try clear c76
                        try clear c77
                        try clear c79
                        try clear c80
                        try clear hx362_0
                        try clear hx377_0
                        try clear p2
                        try clear p3
                        try clear p36
                        try clear p362
                        try clear p377
                        try clear p6
                        try clear q3
                        try clear q36
                        try clear q362
                        try clear q377
                        obtain ⟨kq, x146_64, rfl, HA, HJ64, HO_16, HB⟩ := hcut
                        cases kq with
                        | zero => exact absurd HA.out (by simp [laws_FnSubtractionChains.j3])
                        | succ kj64 =>
                          have H := HA.out
                          clear HA
                          simp only [laws_FnSubtractionChains.j3] at H
                          by_cases c81 : x146_64 = true
                          · subst c81
                            have H1 : (some false) = some r := by rw [if_pos rfl] at H; exact H
                            clear H
                            have H := H1
                            clear H1
                            obtain rfl := Option.some.inj H
                            go_wp2
                            go_ret
                            exact ⟨by first | rfl | (simp [errW_none, errW_some] <;> rfl) | (simp [*, errW_none, errW_some] <;> rfl), by repeat (first | (with_reducible first | exact HB.out | apply below_alloc | apply pw_below_drewN | apply below_drew1) | exact HB.out)⟩
                          · replace c81 := Bool.eq_false_iff.mpr c81
                            subst c81
                            have H1 : (laws_FnSubtractionChains.l0 kj64 l1 t364 t365 (t365.length : Int) 0) = some r := by rw [if_neg (show ¬ (false = true) by decide)] at H; exact H
                            clear H
                            have H := H1
                            clear H1
                            have H' := Aside0.mk H
                            clear H
                            obtain ⟨Ao82, co82, eo82⟩ := Kd.R_slice HO_16.out
                            subst eo82
                            go_wp2
                            go_loopg [149] kj64 (fun kq v149 w' => ∃ (x149_5 : Int), v149 = .int .i64 x149_5 ∧ Aside0 (laws_FnSubtractionChains.l0 kq l1 t364 t365 (t365.length : Int) x149_5 = some r) ∧ Aside0 (kq ≤ kj64) ∧ Aside0 (Kd.R (Kd.int .i64) 3 w' w.heap.size (fun _ => True) (.slice Ao82 t365.length co82) t365) ∧ Aside0 (Below w.heap.size w w'))
                            case atStart => exact ⟨(0), (by first | rfl | (simp; done) | (simp [*]; done)), H', ⟨Nat.le_refl _⟩, ⟨by (with_reducible repeat (first | apply Kd.R_alloc | apply Kd.R_drewN | apply Kd.R_drew)); exact HO_16.out⟩, ⟨by repeat (first | (with_reducible first | exact HB.out | apply below_alloc | apply pw_below_drewN | apply below_drew1) | exact HB.out)⟩⟩
                            case round =>
                              clear H'
                              try clear c1
                              try clear c2
                              try clear p2
                              try clear p3
                              try clear q3
                              try clear hx3
                              try clear c4
                              try clear c5
                              try clear c6
                              try clear p6
                              try clear c7
                              try clear c8
                              try clear c12
                              try clear c12b0
                              try clear c12b1
                              try clear c12b2
                              try clear c13
                              try clear c14
                              try clear c16
                              try clear c18
                              try clear c21
                              try clear c22
                              try clear c24
                              try clear c26
                              try clear c26b0
                              try clear c27
                              try clear c27b0
                              try clear c28
                              try clear c28b0
                              try clear c28b1
                              try clear c29
                              try clear c29b0
                              try clear c29b1
                              try clear p36
                              try clear q36
                              try clear hx36
                              try clear p37
                              try clear q37
                              try clear hx37
                              try clear c59
                              try clear c59b0
                              try clear c59b1
                              try clear c59b2
                              try clear c63
                              try clear c64
                              try clear p64
                              try clear c67
                              try clear c69
                              try clear c69b0
                              try clear c70
                              try clear c70b0
                              try clear c71
                              try clear c71b0
                              try clear c71b1
                              try clear c72
                              try clear c75
                              try clear c76
                              try clear c77
                              try clear c79
                              try clear c80
                              try clear c81
                              try clear c82
                              try clear hx362_0
                              try clear hx377_0
                              try clear p2
                              try clear p3
                              try clear p36
                              try clear p362
                              try clear p37
                              try clear p377
                              try clear p6
                              try clear p64
                              try clear q3
                              try clear q36
                              try clear q362
                              try clear q37
                              try clear q377
                              obtain ⟨x149_5, rfl, HA, HK5, HO_147, HB⟩ := hrel
                              cases gk with
                              | zero => exact absurd HA.out (by simp [laws_FnSubtractionChains.l0])
                              | succ k5 =>
                                have H := HA.out
                                clear HA
                                simp only [laws_FnSubtractionChains.l0] at H
                                by_cases c83 : x149_5 < (t365.length : Int)
                                · rw [if_pos c83] at H
                                  have c83b0 : decide (x149_5 < (t365.length : Int)) = true := decide_eq_true c83
                                  clear c83
                                  by_cases c84 : 0 ≤ x149_5
                                  · rw [if_pos c84] at H
                                    have c84b0 : decide (0 ≤ x149_5) = true := decide_eq_true c84
                                    clear c84
                                    by_cases c85 : x149_5 < (t365.length : Int)
                                    · rw [if_pos c85] at H
                                      have c85b0 : decide (x149_5 < (t365.length : Int)) = true := decide_eq_true c85
                                      clear c85
                                      by_cases c86 : (rd t365 x149_5) > t364
                                      · rw [if_pos c86] at H
                                        have c86b0 : decide (t364 < (rd t365 x149_5)) = true := decide_eq_true c86
                                        clear c86
                                        obtain rfl := Option.some.inj H
                                        have p378 : 0 ≤ (x149_5 : Int) := of_decide_eq_true (by first | (with_reducible assumption) | assumption)
                                        have q378 : x149_5 < (t365.length : Int) := of_decide_eq_true (by first | (with_reducible assumption) | assumption)
                                        obtain ⟨ad378, e378, hx378_0⟩ := Kd.at_int (Kd.R_reads' HO_147.out).2.2 x149_5 p378 q378
                                        cases e378
                                        replace p378 := eq_true p378
                                        replace q378 := eq_true q378
                                        go_wp2
                                        go_ret
                                        exact ⟨by first | rfl | (simp [errW_none, errW_some] <;> rfl) | (simp [*, errW_none, errW_some] <;> rfl), by repeat (first | (with_reducible first | exact HB.out | apply below_alloc | apply pw_below_drewN | apply below_drew1) | exact HB.out)⟩
                                      · rw [if_neg c86] at H
                                        have c86b0 : decide (t364 < (rd t365 x149_5)) = false := decide_eq_false c86
                                        clear c86
                                        have H' := Aside0.mk H
                                        clear H
                                        have p378 : 0 ≤ (x149_5 : Int) := of_decide_eq_true (by first | (with_reducible assumption) | assumption)
                                        have q378 : x149_5 < (t365.length : Int) := of_decide_eq_true (by first | (with_reducible assumption) | assumption)
                                        obtain ⟨ad378, e378, hx378_0⟩ := Kd.at_int (Kd.R_reads' HO_147.out).2.2 x149_5 p378 q378
                                        cases e378
                                        replace p378 := eq_true p378
                                        replace q378 := eq_true q378
                                        go_wp2
                                        go_roundg k5
                                        case measure => have := HJ7.out; have := HJ16.out; have := HJ53.out; have := HJ64.out; have := HK5.out; omega
                                        case rel => exact ⟨(wrap64 (x149_5 + 1)), (by first | rfl | (simp; done) | (simp [*]; done)), H', ⟨by have := HJ7.out; have := HJ16.out; have := HJ53.out; have := HJ64.out; have := HK5.out; omega⟩, ⟨by (with_reducible repeat (first | apply Kd.R_alloc | apply Kd.R_drewN | apply Kd.R_drew)); exact HO_147.out⟩, ⟨by repeat (first | (with_reducible first | exact HB.out | apply below_alloc | apply pw_below_drewN | apply below_drew1) | exact HB.out)⟩⟩
                                    · rw [if_neg c85] at H
                                      exact absurd H (by simp)
                                  · rw [if_neg c84] at H
                                    exact absurd H (by simp)
                                · rw [if_neg c83] at H
                                  have c83b0 : decide (x149_5 < (t365.length : Int)) = false := decide_eq_false c83
                                  clear c83
                                  replace H := Option.bind_eq_some_iff.mp H
                                  obtain ⟨t379, A870, H⟩ := H
                                  replace H : ((impl_IsSubtractionChain.f k5 t379).bind fun t382 => ((spec_IsSubtractionChain.f k5 t379).bind fun t383 => (some (t382 == t383)))) = some r := H
                                  have A87 := Aside0.mk A870
                                  clear A870
                                  replace H := Option.bind_eq_some_iff.mp H
                                  obtain ⟨t382, A880, H⟩ := H
                                  replace H : ((spec_IsSubtractionChain.f k5 t379).bind fun t383 => (some (t382 == t383))) = some r := H
                                  have A88 := Aside0.mk A880
                                  clear A880
                                  replace H := Option.bind_eq_some_iff.mp H
                                  obtain ⟨t383, A890, H⟩ := H
                                  replace H : (some (t382 == t383)) = some r := H
                                  have A89 := Aside0.mk A890
                                  clear A890
                                  obtain rfl := Option.some.inj H
                                  go_wp2_with (first | ((with_reducible refine gate_callee (f := 86) rfl ?_); refine goesL_ (some 158) rfl rfl Try.func86 (by kernel_rfl) rfl #[.slice A1 l1.length c1] rfl (by (try simp only [List.map_toArray, List.map_cons, List.map_nil]); first | done | rfl | (simp only [List.length_drop, List.length_take]; rfl)) ?_; (with_reducible refine (spec_DrawIsSubtractionChain.calls k5 _ _ l1 t379 _ ?side1 ?side2 A87.out).mono ?_); (case side1 => repeat (first | exact (Kd.C_below HR1.out HB.out) | (with_reducible refine Kd.C_alloc ?_ _) | (with_reducible refine Kd.C_drewN ?_ _) | (with_reducible refine Kd.C_drew ?_))); (case side2 => exact HC1.out); rintro e w90 ⟨v380, rfl, ho0, hb⟩; refine ⟨_, rfl, ?_⟩; have n0_ := Aside0.mk (Kd.R_elder' (by (with_reducible repeat (first | apply Kd.R_alloc | apply Kd.R_drewN | apply Kd.R_drew)); exact HO_147.out) (Kd.R_base ho0) hb); have n1_ := Aside0.mk (Kd.R_lower (Kd.R_new' ho0 (Kd.R_lt (by (with_reducible repeat (first | apply Kd.R_alloc | apply Kd.R_drewN | apply Kd.R_drew)); exact HO_147.out))) (below_size (by repeat (first | (with_reducible first | exact HB.out | apply below_alloc | apply pw_below_drewN | apply below_drew1) | exact HB.out)))); have n2_ := Aside0.mk (below_step (by repeat (first | (with_reducible first | exact HB.out | apply below_alloc | apply pw_below_drewN | apply below_drew1) | exact HB.out)) hb); clear HO_147; clear HB; have HO_147 := n0_; have HO381 := n1_; have HB := n2_; clear n0_ n1_ n2_; (try clear hb); (try clear hb2); (try clear hk); (try clear hi); (try clear ho0); obtain ⟨Ao91, co91, eo91⟩ := Kd.R_slice HO381.out; subst eo91) | ((with_reducible refine gate_callee (f := 81) rfl ?_); refine goesL_ (some 160) rfl rfl Try.func81 (by kernel_rfl) rfl #[.slice Ao91 t379.length co91] rfl (by (try simp only [List.map_toArray, List.map_cons, List.map_nil]); first | done | rfl | (simp only [List.length_drop, List.length_take]; rfl)) ?_; (with_reducible refine (impl_IsSubtractionChain.calls k5 _ _ t379 t382 _ ?side1 ?side2 A88.out).mono ?_); (case side1 => repeat (first | exact (Kd.R_reads' HO381.out).2.2 | (with_reducible refine Kd.C_alloc ?_ _) | (with_reducible refine Kd.C_drewN ?_ _) | (with_reducible refine Kd.C_drew ?_))); (case side2 => exact (Kd.R_reads' HO381.out).2.1); rintro e w92 ⟨rfl, hb⟩; refine ⟨_, rfl, ?_⟩; have n0_ := Aside0.mk (Kd.R_below (by (with_reducible repeat (first | apply Kd.R_alloc | apply Kd.R_drewN | apply Kd.R_drew)); exact HO_147.out) hb); have n1_ := Aside0.mk (Kd.R_below (by (with_reducible repeat (first | apply Kd.R_alloc | apply Kd.R_drewN | apply Kd.R_drew)); exact HO381.out) hb); have n2_ := Aside0.mk (below_step (by repeat (first | (with_reducible first | exact HB.out | apply below_alloc | apply pw_below_drewN | apply below_drew1) | exact HB.out)) hb); clear HO_147; clear HO381; clear HB; have HO_147 := n0_; have HO381 := n1_; have HB := n2_; clear n0_ n1_ n2_; (try clear hb); (try clear hb2); (try clear hk); (try clear hi)) | ((with_reducible refine gate_callee (f := 87) rfl ?_); refine goesL_ (some 162) rfl rfl Try.func87 (by kernel_rfl) rfl #[.slice Ao91 t379.length co91] rfl (by (try simp only [List.map_toArray, List.map_cons, List.map_nil]); first | done | rfl | (simp only [List.length_drop, List.length_take]; rfl)) ?_; (with_reducible refine (spec_IsSubtractionChain.calls k5 _ _ t379 t383 _ ?side1 ?side2 A89.out).mono ?_); (case side1 => repeat (first | exact (Kd.R_reads' HO381.out).2.2 | (with_reducible refine Kd.C_alloc ?_ _) | (with_reducible refine Kd.C_drewN ?_ _) | (with_reducible refine Kd.C_drew ?_))); (case side2 => exact (Kd.R_reads' HO381.out).2.1); rintro e w' ⟨rfl, ⟨nd, rfl⟩⟩; refine ⟨_, rfl, ?_⟩))
                                  go_ret
                                  exact ⟨by first | rfl | (simp [errW_none, errW_some] <;> rfl) | (simp [*, errW_none, errW_some] <;> rfl), by repeat (first | (with_reducible first | exact HB.out | apply below_alloc | apply pw_below_drewN | apply below_drew1) | exact HB.out)⟩
                    · replace c64 := Bool.eq_false_iff.mpr c64
                      subst c64
                      have H1 : ((spec_DrawIsSubtractionChain.f kj53 l1).bind fun t384 => ((impl_IsSubtractionChain.f kj53 t384).bind fun t387 => ((spec_IsSubtractionChain.f kj53 t384).bind fun t388 => (some (t387 == t388))))) = some r := by rw [if_neg (show ¬ (false = true) by decide)] at H; exact H
                      clear H
                      have H := H1
                      clear H1
                      replace H := Option.bind_eq_some_iff.mp H
                      obtain ⟨t384, A930, H⟩ := H
                      replace H : ((impl_IsSubtractionChain.f kj53 t384).bind fun t387 => ((spec_IsSubtractionChain.f kj53 t384).bind fun t388 => (some (t387 == t388)))) = some r := H
                      have A93 := Aside0.mk A930
                      clear A930
                      replace H := Option.bind_eq_some_iff.mp H
                      obtain ⟨t387, A940, H⟩ := H
                      replace H : ((spec_IsSubtractionChain.f kj53 t384).bind fun t388 => (some (t387 == t388))) = some r := H
                      have A94 := Aside0.mk A940
                      clear A940
                      replace H := Option.bind_eq_some_iff.mp H
                      obtain ⟨t388, A950, H⟩ := H
                      replace H : (some (t387 == t388)) = some r := H
                      have A95 := Aside0.mk A950
                      clear A950
                      obtain rfl := Option.some.inj H
                      go_wp2_with (first | ((with_reducible refine gate_callee (f := 86) rfl ?_); refine goesL_ (some 158) rfl rfl Try.func86 (by kernel_rfl) rfl #[.slice A1 l1.length c1] rfl (by (try simp only [List.map_toArray, List.map_cons, List.map_nil]); first | done | rfl | (simp only [List.length_drop, List.length_take]; rfl)) ?_; (with_reducible refine (spec_DrawIsSubtractionChain.calls kj53 _ _ l1 t384 _ ?side1 ?side2 A93.out).mono ?_); (case side1 => repeat (first | exact (Kd.C_below HR1.out HB.out) | (with_reducible refine Kd.C_alloc ?_ _) | (with_reducible refine Kd.C_drewN ?_ _) | (with_reducible refine Kd.C_drew ?_))); (case side2 => exact HC1.out); rintro e w96 ⟨v385, rfl, ho0, hb⟩; refine ⟨_, rfl, ?_⟩; have n0_ := Aside0.mk (Kd.R_elder' (by (with_reducible repeat (first | apply Kd.R_alloc | apply Kd.R_drewN | apply Kd.R_drew)); exact HO_16.out) (Kd.R_base ho0) hb); have n1_ := Aside0.mk (Kd.R_lower (Kd.R_new' ho0 (Kd.R_lt (by (with_reducible repeat (first | apply Kd.R_alloc | apply Kd.R_drewN | apply Kd.R_drew)); exact HO_16.out))) (below_size (by repeat (first | (with_reducible first | exact HB.out | apply below_alloc | apply pw_below_drewN | apply below_drew1) | exact HB.out)))); have n2_ := Aside0.mk (below_step (by repeat (first | (with_reducible first | exact HB.out | apply below_alloc | apply pw_below_drewN | apply below_drew1) | exact HB.out)) hb); clear HO_16; clear HB; have HO_16 := n0_; have HO386 := n1_; have HB := n2_; clear n0_ n1_ n2_; (try clear hb); (try clear hb2); (try clear hk); (try clear hi); (try clear ho0); obtain ⟨Ao97, co97, eo97⟩ := Kd.R_slice HO386.out; subst eo97) | ((with_reducible refine gate_callee (f := 81) rfl ?_); refine goesL_ (some 160) rfl rfl Try.func81 (by kernel_rfl) rfl #[.slice Ao97 t384.length co97] rfl (by (try simp only [List.map_toArray, List.map_cons, List.map_nil]); first | done | rfl | (simp only [List.length_drop, List.length_take]; rfl)) ?_; (with_reducible refine (impl_IsSubtractionChain.calls kj53 _ _ t384 t387 _ ?side1 ?side2 A94.out).mono ?_); (case side1 => repeat (first | exact (Kd.R_reads' HO386.out).2.2 | (with_reducible refine Kd.C_alloc ?_ _) | (with_reducible refine Kd.C_drewN ?_ _) | (with_reducible refine Kd.C_drew ?_))); (case side2 => exact (Kd.R_reads' HO386.out).2.1); rintro e w98 ⟨rfl, hb⟩; refine ⟨_, rfl, ?_⟩; have n0_ := Aside0.mk (Kd.R_below (by (with_reducible repeat (first | apply Kd.R_alloc | apply Kd.R_drewN | apply Kd.R_drew)); exact HO_16.out) hb); have n1_ := Aside0.mk (Kd.R_below (by (with_reducible repeat (first | apply Kd.R_alloc | apply Kd.R_drewN | apply Kd.R_drew)); exact HO386.out) hb); have n2_ := Aside0.mk (below_step (by repeat (first | (with_reducible first | exact HB.out | apply below_alloc | apply pw_below_drewN | apply below_drew1) | exact HB.out)) hb); clear HO_16; clear HO386; clear HB; have HO_16 := n0_; have HO386 := n1_; have HB := n2_; clear n0_ n1_ n2_; (try clear hb); (try clear hb2); (try clear hk); (try clear hi)) | ((with_reducible refine gate_callee (f := 87) rfl ?_); refine goesL_ (some 162) rfl rfl Try.func87 (by kernel_rfl) rfl #[.slice Ao97 t384.length co97] rfl (by (try simp only [List.map_toArray, List.map_cons, List.map_nil]); first | done | rfl | (simp only [List.length_drop, List.length_take]; rfl)) ?_; (with_reducible refine (spec_IsSubtractionChain.calls kj53 _ _ t384 t388 _ ?side1 ?side2 A95.out).mono ?_); (case side1 => repeat (first | exact (Kd.R_reads' HO386.out).2.2 | (with_reducible refine Kd.C_alloc ?_ _) | (with_reducible refine Kd.C_drewN ?_ _) | (with_reducible refine Kd.C_drew ?_))); (case side2 => exact (Kd.R_reads' HO386.out).2.1); rintro e w' ⟨rfl, ⟨nd, rfl⟩⟩; refine ⟨_, rfl, ?_⟩))
                      go_ret
                      exact ⟨by first | rfl | (simp [errW_none, errW_some] <;> rfl) | (simp [*, errW_none, errW_some] <;> rfl), by repeat (first | (with_reducible first | exact HB.out | apply below_alloc | apply pw_below_drewN | apply below_drew1) | exact HB.out)⟩

/-- THE ONE PURE STATEMENT of laws_FnSubtractionChains: yours. -/
def laws_FnSubtractionChains.Pure : Prop := ∀ (l0 : List Int) (l1 : List Int), l0.length ≤ maxLen → l0.length * 1 ≤ 140737488351232 → (∀ x ∈ l0, (Lit.int .u8 x).wf = true) → l1.length ≤ maxLen → l1.length * 1 ≤ 140737488351232 → (∀ x ∈ l1, (Lit.int .u8 x).wf = true) → ∃ k, laws_FnSubtractionChains.f k l0 l1 = some true
theorem laws_FnSubtractionChains.walk (P : laws_FnSubtractionChains.Pure) (a0 : Option Addr) (len0 cap0 : Nat) (z0 : List Int) (a1 : Option Addr) (len1 cap1 : Nat) (z1 : List Int) (w : World) (w0 : (a0 = none ∧ len0 = 0 ∧ cap0 = 0 ∧ z0 = []) ∨ ∃ x, a0 = some x ∧ len0 ≤ cap0 ∧ cap0 ≤ maxLen ∧ z0.length = cap0 ∧ (∀ i, i < z0.length → w.cell? (x.add i) = some (.int .u8 (z0.getD i 0))) ∧ ∀ n ∈ z0, (Lit.int .u8 n).wf = true) (y0 : len0 * 1 ≤ 140737488351232) (w1 : (a1 = none ∧ len1 = 0 ∧ cap1 = 0 ∧ z1 = []) ∨ ∃ x, a1 = some x ∧ len1 ≤ cap1 ∧ cap1 ≤ maxLen ∧ z1.length = cap1 ∧ (∀ i, i < z1.length → w.cell? (x.add i) = some (.int .u8 (z1.getD i 0))) ∧ ∀ n ∈ z1, (Lit.int .u8 n).wf = true) (y1 : len1 * 1 ≤ 140737488351232) :
    Calls Try.prog 13 #[.slice a0 len0 cap0, .slice a1 len1 cap1] w fun e w' => e = .returned (.bool true) ∧ Below w.heap.size w w' := by
  obtain ⟨l0, rfl, hr0, hm0, hw0, hc0⟩ := ReadsInt.ofRowC w0
  obtain ⟨l1, rfl, hr1, hm1, hw1, hc1⟩ := ReadsInt.ofRowC w1
  obtain ⟨k, h⟩ := P l0 l1 hm0 y0 hw0 hm1 y1 hw1
  refine (laws_FnSubtractionChains.calls k _ _ l0 _ _ l1 true w (Kd.C_of_reads (d := (0 : Int)) (h1 := fun _ => rfl) hr0) hc0 (Kd.C_of_reads (d := (0 : Int)) (h1 := fun _ => rfl) hr1) hc1 h).mono ?_
  rintro e w' ⟨rfl, hd⟩
  exact ⟨rfl, hd⟩

end Go.Proofs.Ytlmoemahamneoaa.PFnSubtractionChains
