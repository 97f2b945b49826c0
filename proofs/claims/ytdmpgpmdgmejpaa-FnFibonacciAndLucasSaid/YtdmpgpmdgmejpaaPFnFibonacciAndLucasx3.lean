-- Written by gprint.py, a program of this session, out of the translation (a changed print).
import Derived.Test.YtdmpgpmdgmejpaaPFnFibonacciAndLucasx0
import Derived.Test.YtdmpgpmdgmejpaaPFnFibonacciAndLucasx1
import Derived.Test.YtdmpgpmdgmejpaaPFnFibonacciAndLucasx2
namespace Go.Proofs.Ytdmpgpmdgmejpaa.PFnFibonacciAndLucas
open Go.RowKit Go.Proofs.YtdmpgpmdgmejpaaW.PrintWords Go.Proofs.YtdmpgpmdgmejpaaW.PrintLast Go.Proofs.YtdmpgpmdgmejpaaW.PrintMore
attribute [local go_sem] max2_int min2_int max_two min_two max_three min_three max_four min_four   -- for this text's walks alone
set_option linter.unusedVariables false
set_option linter.unusedSimpArgs false

/-! ### laws_FnFibonacciAndLucas: function 8 -/
mutual
def laws_FnFibonacciAndLucas.j0 : Nat → Int → Int → Int → Int → Bool → Bool → Option (Bool)
  | 0, _, _, _, _, _, _ => none
  | k + 1, x5, x6, x7, x8, x12, x58 => if x58 = true then (some false) else (if x12 = true then ((impl_FibonacciPair.f k (wrap64 (x5 + 1)) x6).bind fun bt188 => (if bt188.2.2 = true then (if bt188.1 = x8 then ((laws_pMod.f (wrap64 (x7 + x8)) x6).bind fun t191 => (laws_FnFibonacciAndLucas.j1 k x5 x6 x7 x8 (bt188.2.1 != t191))) else (laws_FnFibonacciAndLucas.j1 k x5 x6 x7 x8 true)) else (laws_FnFibonacciAndLucas.j1 k x5 x6 x7 x8 false))) else (some true))
def laws_FnFibonacciAndLucas.j1 : Nat → Int → Int → Int → Int → Bool → Option (Bool)
  | 0, _, _, _, _, _ => none
  | k + 1, x5, x6, x7, x8, x83 => if x83 = true then (some false) else (if x5 = 0 then (laws_FnFibonacciAndLucas.j2 k x5 x6 x7 x8 true) else (laws_FnFibonacciAndLucas.j2 k x5 x6 x7 x8 (decide ((wrap64 (2 * x5)) > 1000000))))
def laws_FnFibonacciAndLucas.j2 : Nat → Int → Int → Int → Int → Bool → Option (Bool)
  | 0, _, _, _, _, _ => none
  | k + 1, x5, x6, x7, x8, x90 => if x90 = true then (some true) else ((impl_FibonacciPair.f k (wrap64 ((wrap64 (2 * x5)) - 1)) x6).bind fun bt192 => ((impl_FibonacciPair.f k (wrap64 (2 * x5)) x6).bind fun bt195 => ((impl_LucasByLadder.f k 3 x5 x6).bind fun bt198 => (if bt192.2.2 = true then (if bt195.2.2 = true then (if bt198.2 = true then ((laws_pMod.f (wrap64 (x7 * (wrap64 ((wrap64 (2 * x8)) - x7)))) x6).bind fun t200 => (if bt192.2.1 = t200 then ((laws_pMod.f (wrap64 (bt192.1 + bt195.2.1)) x6).bind fun t201 => (some (bt198.1 == t201))) else (some false))) else (some false)) else (some false)) else (some false)))))
end
def laws_FnFibonacciAndLucas.f (k : Nat) (l0 : List Int) (l1 : List Int) : Option (Bool) := (laws_big.f l0 l1).bind fun t179 => (if t179 = true then (some true) else ((spec_DrawFibonacciPair.f l0).bind fun bt180 => ((impl_FibonacciPair.f k bt180.1 bt180.2).bind fun bt182 => ((spec_FibonacciPair.f k bt180.1 bt180.2).bind fun bt185 => (if (bt182.2.2 != bt185.2.2) = true then (laws_FnFibonacciAndLucas.j0 k bt180.1 bt180.2 bt182.1 bt182.2.1 bt185.2.2 true) else (if bt182.1 = bt185.1 then (laws_FnFibonacciAndLucas.j0 k bt180.1 bt180.2 bt182.1 bt182.2.1 bt185.2.2 (bt182.2.1 != bt185.2.1)) else (laws_FnFibonacciAndLucas.j0 k bt180.1 bt180.2 bt182.1 bt182.2.1 bt185.2.2 true)))))))
theorem laws_FnFibonacciAndLucas.mono_l : ∀ k, (∀ y0 y1 y2 y3 y4 y5, LeO (laws_FnFibonacciAndLucas.j0 k y0 y1 y2 y3 y4 y5) (laws_FnFibonacciAndLucas.j0 (k + 1) y0 y1 y2 y3 y4 y5)) ∧ (∀ y0 y1 y2 y3 y4, LeO (laws_FnFibonacciAndLucas.j1 k y0 y1 y2 y3 y4) (laws_FnFibonacciAndLucas.j1 (k + 1) y0 y1 y2 y3 y4)) ∧ (∀ y0 y1 y2 y3 y4, LeO (laws_FnFibonacciAndLucas.j2 k y0 y1 y2 y3 y4) (laws_FnFibonacciAndLucas.j2 (k + 1) y0 y1 y2 y3 y4))
  | 0 => ⟨fun _ _ _ _ _ _ r h => by simp [laws_FnFibonacciAndLucas.j0] at h, fun _ _ _ _ _ r h => by simp [laws_FnFibonacciAndLucas.j1] at h, fun _ _ _ _ _ r h => by simp [laws_FnFibonacciAndLucas.j2] at h⟩
  | k + 1 => by
    obtain ⟨ih0, ih1, ih2⟩ := laws_FnFibonacciAndLucas.mono_l k
    refine ⟨?_, ?_, ?_⟩
    · intro y0 y1 y2 y3 y4 y5
      unfold laws_FnFibonacciAndLucas.j0
      repeat' first
      | (with_reducible exact ih0 _ _ _ _ _ _)
      | (with_reducible exact ih1 _ _ _ _ _)
      | (with_reducible exact ih2 _ _ _ _ _)
      | (with_reducible exact impl_FibonacciPair.mono _ _ _)
      | (with_reducible exact impl_LucasByLadder.mono _ _ _ _)
      | (with_reducible exact spec_FibonacciPair.mono _ _ _)
      | (with_reducible exact LeO.refl _)
      | (with_reducible exact LeO.none _)
      | (with_reducible refine LeO.ite ?_ ?_)
      | (with_reducible refine LeO.bind ?_ (fun _ => ?_))
      | exact ih0 _ _ _ _ _ _
      | exact ih1 _ _ _ _ _
      | exact ih2 _ _ _ _ _
      | exact impl_FibonacciPair.mono _ _ _
      | exact impl_LucasByLadder.mono _ _ _ _
      | exact spec_FibonacciPair.mono _ _ _
      | exact LeO.none _
      | refine LeO.ite ?_ ?_
      | refine LeO.bind ?_ (fun _ => ?_)
    · intro y0 y1 y2 y3 y4
      unfold laws_FnFibonacciAndLucas.j1
      repeat' first
      | (with_reducible exact ih0 _ _ _ _ _ _)
      | (with_reducible exact ih1 _ _ _ _ _)
      | (with_reducible exact ih2 _ _ _ _ _)
      | (with_reducible exact impl_FibonacciPair.mono _ _ _)
      | (with_reducible exact impl_LucasByLadder.mono _ _ _ _)
      | (with_reducible exact spec_FibonacciPair.mono _ _ _)
      | (with_reducible exact LeO.refl _)
      | (with_reducible exact LeO.none _)
      | (with_reducible refine LeO.ite ?_ ?_)
      | (with_reducible refine LeO.bind ?_ (fun _ => ?_))
      | exact ih0 _ _ _ _ _ _
      | exact ih1 _ _ _ _ _
      | exact ih2 _ _ _ _ _
      | exact impl_FibonacciPair.mono _ _ _
      | exact impl_LucasByLadder.mono _ _ _ _
      | exact spec_FibonacciPair.mono _ _ _
      | exact LeO.none _
      | refine LeO.ite ?_ ?_
      | refine LeO.bind ?_ (fun _ => ?_)
    · intro y0 y1 y2 y3 y4
      unfold laws_FnFibonacciAndLucas.j2
      repeat' first
      | (with_reducible exact ih0 _ _ _ _ _ _)
      | (with_reducible exact ih1 _ _ _ _ _)
      | (with_reducible exact ih2 _ _ _ _ _)
      | (with_reducible exact impl_FibonacciPair.mono _ _ _)
      | (with_reducible exact impl_LucasByLadder.mono _ _ _ _)
      | (with_reducible exact spec_FibonacciPair.mono _ _ _)
      | (with_reducible exact LeO.refl _)
      | (with_reducible exact LeO.none _)
      | (with_reducible refine LeO.ite ?_ ?_)
      | (with_reducible refine LeO.bind ?_ (fun _ => ?_))
      | exact ih0 _ _ _ _ _ _
      | exact ih1 _ _ _ _ _
      | exact ih2 _ _ _ _ _
      | exact impl_FibonacciPair.mono _ _ _
      | exact impl_LucasByLadder.mono _ _ _ _
      | exact spec_FibonacciPair.mono _ _ _
      | exact LeO.none _
      | refine LeO.ite ?_ ?_
      | refine LeO.bind ?_ (fun _ => ?_)
theorem laws_FnFibonacciAndLucas.mono : ∀ a0 a1 k, LeO (laws_FnFibonacciAndLucas.f k a0 a1) (laws_FnFibonacciAndLucas.f (k + 1) a0 a1) := by
  intro a0 a1 k
  obtain ⟨ih0, ih1, ih2⟩ := laws_FnFibonacciAndLucas.mono_l k
  unfold laws_FnFibonacciAndLucas.f
  repeat' first
      | (with_reducible exact ih0 _ _ _ _ _ _)
      | (with_reducible exact ih1 _ _ _ _ _)
      | (with_reducible exact ih2 _ _ _ _ _)
      | (with_reducible exact impl_FibonacciPair.mono _ _ _)
      | (with_reducible exact impl_LucasByLadder.mono _ _ _ _)
      | (with_reducible exact spec_FibonacciPair.mono _ _ _)
      | (with_reducible exact LeO.refl _)
      | (with_reducible exact LeO.none _)
      | (with_reducible refine LeO.ite ?_ ?_)
      | (with_reducible refine LeO.bind ?_ (fun _ => ?_))
      | exact ih0 _ _ _ _ _ _
      | exact ih1 _ _ _ _ _
      | exact ih2 _ _ _ _ _
      | exact impl_FibonacciPair.mono _ _ _
      | exact impl_LucasByLadder.mono _ _ _ _
      | exact spec_FibonacciPair.mono _ _ _
      | exact LeO.none _
      | refine LeO.ite ?_ ?_
      | refine LeO.bind ?_ (fun _ => ?_)
set_option maxHeartbeats 8000000 in
set_option maxRecDepth 100000 in
theorem laws_FnFibonacciAndLucas.calls (k : Nat) (A0 : Option Addr) (c0 : Nat) (l0 : List Int) (A1 : Option Addr) (c1 : Nat) (l1 : List Int) (r : Bool) (w : World) (hr0 : Kd.C (Kd.int .u8) w A0 l0.length l0) (hc0 : l0.length ≤ c0) (hr1 : Kd.C (Kd.int .u8) w A1 l1.length l1) (hc1 : l1.length ≤ c1) (h : laws_FnFibonacciAndLucas.f k l0 l1 = some r) :
    Calls Try.prog 8 #[.slice A0 l0.length c0, .slice A1 l1.length c1] w fun e w' => e = .returned (.bool r) ∧ Below w.heap.size w w' := by
  have HR0 := Aside0.mk hr0
  have HC0 := Aside0.mk hc0
  clear hr0 hc0
  have HR1 := Aside0.mk hr1
  have HC1 := Aside0.mk hc1
  clear hr1 hc1
  have HB := Aside0.mk (Below.refl w.heap.size w)
  have H : ((laws_big.f l0 l1).bind fun t179 => (if t179 = true then (some true) else ((spec_DrawFibonacciPair.f l0).bind fun bt180 => ((impl_FibonacciPair.f k bt180.1 bt180.2).bind fun bt182 => ((spec_FibonacciPair.f k bt180.1 bt180.2).bind fun bt185 => (if (bt182.2.2 != bt185.2.2) = true then (laws_FnFibonacciAndLucas.j0 k bt180.1 bt180.2 bt182.1 bt182.2.1 bt185.2.2 true) else (if bt182.1 = bt185.1 then (laws_FnFibonacciAndLucas.j0 k bt180.1 bt180.2 bt182.1 bt182.2.1 bt185.2.2 (bt182.2.1 != bt185.2.1)) else (laws_FnFibonacciAndLucas.j0 k bt180.1 bt180.2 bt182.1 bt182.2.1 bt185.2.2 true)))))))) = some r := h
  clear h
  replace H := Option.bind_eq_some_iff.mp H
  obtain ⟨t179, A30, H⟩ := H
  replace H : (if t179 = true then (some true) else ((spec_DrawFibonacciPair.f l0).bind fun bt180 => ((impl_FibonacciPair.f k bt180.1 bt180.2).bind fun bt182 => ((spec_FibonacciPair.f k bt180.1 bt180.2).bind fun bt185 => (if (bt182.2.2 != bt185.2.2) = true then (laws_FnFibonacciAndLucas.j0 k bt180.1 bt180.2 bt182.1 bt182.2.1 bt185.2.2 true) else (if bt182.1 = bt185.1 then (laws_FnFibonacciAndLucas.j0 k bt180.1 bt180.2 bt182.1 bt182.2.1 bt185.2.2 (bt182.2.1 != bt185.2.1)) else (laws_FnFibonacciAndLucas.j0 k bt180.1 bt180.2 bt182.1 bt182.2.1 bt185.2.2 true))))))) = some r := H
  have A3 := Aside0.mk A30
  clear A30
  by_cases c4 : t179 = true
  · subst c4
    have H1 : (some true) = some r := by rw [if_pos rfl] at H; exact H
    clear H
    have H := H1
    clear H1
    obtain rfl := Option.some.inj H
    go_enter Try.func8, Try.ntmps8
    go_wp2_with (first | ((with_reducible refine gate_callee (f := 31) rfl ?_); refine goesL_ (some 26) rfl rfl Try.func31 (by kernel_rfl) rfl #[.slice A0 l0.length c0, .slice A1 l1.length c1] rfl (by (try simp only [List.map_toArray, List.map_cons, List.map_nil]); first | done | rfl | (simp only [List.length_drop, List.length_take]; rfl)) ?_; (with_reducible refine (laws_big.calls _ _ l0 _ _ l1 true _ ?side1 ?side2 ?side3 ?side4 A3.out).mono ?_); (case side1 => repeat (first | exact HR0.out | (with_reducible refine Kd.C_alloc ?_ _) | (with_reducible refine Kd.C_drewN ?_ _) | (with_reducible refine Kd.C_drew ?_))); (case side2 => exact HC0.out); (case side3 => repeat (first | exact HR1.out | (with_reducible refine Kd.C_alloc ?_ _) | (with_reducible refine Kd.C_drewN ?_ _) | (with_reducible refine Kd.C_drew ?_))); (case side4 => exact HC1.out); rintro e w' ⟨rfl, ⟨nd, rfl⟩⟩; refine ⟨_, rfl, ?_⟩))
    go_ret
    exact ⟨by first | rfl | (simp [errW_none, errW_some] <;> rfl) | (simp [*, errW_none, errW_some] <;> rfl), by repeat (first | (with_reducible first | exact HB.out | apply below_alloc | apply pw_below_drewN | apply below_drew1) | exact HB.out)⟩
  · replace c4 := Bool.eq_false_iff.mpr c4
    subst c4
    have H1 : ((spec_DrawFibonacciPair.f l0).bind fun bt180 => ((impl_FibonacciPair.f k bt180.1 bt180.2).bind fun bt182 => ((spec_FibonacciPair.f k bt180.1 bt180.2).bind fun bt185 => (if (bt182.2.2 != bt185.2.2) = true then (laws_FnFibonacciAndLucas.j0 k bt180.1 bt180.2 bt182.1 bt182.2.1 bt185.2.2 true) else (if bt182.1 = bt185.1 then (laws_FnFibonacciAndLucas.j0 k bt180.1 bt180.2 bt182.1 bt182.2.1 bt185.2.2 (bt182.2.1 != bt185.2.1)) else (laws_FnFibonacciAndLucas.j0 k bt180.1 bt180.2 bt182.1 bt182.2.1 bt185.2.2 true)))))) = some r := by rw [if_neg (show ¬ (false = true) by decide)] at H; exact H
    clear H
    have H := H1
    clear H1
    replace H := Option.bind_eq_some_iff.mp H
    obtain ⟨⟨t180, t181⟩, A50, H⟩ := H
    replace H : ((impl_FibonacciPair.f k t180 t181).bind fun bt182 => ((spec_FibonacciPair.f k t180 t181).bind fun bt185 => (if (bt182.2.2 != bt185.2.2) = true then (laws_FnFibonacciAndLucas.j0 k t180 t181 bt182.1 bt182.2.1 bt185.2.2 true) else (if bt182.1 = bt185.1 then (laws_FnFibonacciAndLucas.j0 k t180 t181 bt182.1 bt182.2.1 bt185.2.2 (bt182.2.1 != bt185.2.1)) else (laws_FnFibonacciAndLucas.j0 k t180 t181 bt182.1 bt182.2.1 bt185.2.2 true))))) = some r := H
    have A5 := Aside0.mk A50
    clear A50
    replace H := Option.bind_eq_some_iff.mp H
    obtain ⟨⟨t182, t183, t184⟩, A60, H⟩ := H
    replace H : ((spec_FibonacciPair.f k t180 t181).bind fun bt185 => (if (t184 != bt185.2.2) = true then (laws_FnFibonacciAndLucas.j0 k t180 t181 t182 t183 bt185.2.2 true) else (if t182 = bt185.1 then (laws_FnFibonacciAndLucas.j0 k t180 t181 t182 t183 bt185.2.2 (t183 != bt185.2.1)) else (laws_FnFibonacciAndLucas.j0 k t180 t181 t182 t183 bt185.2.2 true)))) = some r := H
    have A6 := Aside0.mk A60
    clear A60
    replace H := Option.bind_eq_some_iff.mp H
    obtain ⟨⟨t185, t186, t187⟩, A70, H⟩ := H
    replace H : (if (t184 != t187) = true then (laws_FnFibonacciAndLucas.j0 k t180 t181 t182 t183 t187 true) else (if t182 = t185 then (laws_FnFibonacciAndLucas.j0 k t180 t181 t182 t183 t187 (t183 != t186)) else (laws_FnFibonacciAndLucas.j0 k t180 t181 t182 t183 t187 true))) = some r := H
    have A7 := Aside0.mk A70
    clear A70
    have HC8 := Aside0.mk H
    clear H
    go_enter Try.func8, Try.ntmps8
    go_upto_region 6 with (first | ((with_reducible refine gate_callee (f := 31) rfl ?_); refine goesL_ (some 26) rfl rfl Try.func31 (by kernel_rfl) rfl #[.slice A0 l0.length c0, .slice A1 l1.length c1] rfl (by (try simp only [List.map_toArray, List.map_cons, List.map_nil]); first | done | rfl | (simp only [List.length_drop, List.length_take]; rfl)) ?_; (with_reducible refine (laws_big.calls _ _ l0 _ _ l1 false _ ?side1 ?side2 ?side3 ?side4 A3.out).mono ?_); (case side1 => repeat (first | exact HR0.out | (with_reducible refine Kd.C_alloc ?_ _) | (with_reducible refine Kd.C_drewN ?_ _) | (with_reducible refine Kd.C_drew ?_))); (case side2 => exact HC0.out); (case side3 => repeat (first | exact HR1.out | (with_reducible refine Kd.C_alloc ?_ _) | (with_reducible refine Kd.C_drewN ?_ _) | (with_reducible refine Kd.C_drew ?_))); (case side4 => exact HC1.out); rintro e w' ⟨rfl, ⟨nd, rfl⟩⟩; refine ⟨_, rfl, ?_⟩) | ((with_reducible refine gate_callee (f := 32) rfl ?_); refine goesL_ (some 29) rfl rfl Try.func32 (by kernel_rfl) rfl #[.slice A0 l0.length c0] rfl (by (try simp only [List.map_toArray, List.map_cons, List.map_nil]); first | done | rfl | (simp only [List.length_drop, List.length_take]; rfl)) ?_; (with_reducible refine (spec_DrawFibonacciPair.calls _ _ l0 t180 t181 _ ?side1 ?side2 A5.out).mono ?_); (case side1 => repeat (first | exact HR0.out | (with_reducible refine Kd.C_alloc ?_ _) | (with_reducible refine Kd.C_drewN ?_ _) | (with_reducible refine Kd.C_drew ?_))); (case side2 => exact HC0.out); rintro e w9 ⟨rfl, hb⟩; refine ⟨_, rfl, ?_⟩; have n0_ := Aside0.mk (below_step (by repeat (first | (with_reducible first | exact HB.out | apply below_alloc | apply pw_below_drewN | apply below_drew1) | exact HB.out)) hb); clear HB; have HB := n0_; clear n0_; (try clear hb); (try clear hb2); (try clear hk); (try clear hi)) | ((with_reducible refine gate_callee (f := 18) rfl ?_); refine goesL_ (some 35) rfl rfl Try.func18 (by kernel_rfl) rfl #[.int .i64 t180, .int .i64 t181] rfl (by (try simp only [List.map_toArray, List.map_cons, List.map_nil]); first | done | rfl | (simp only [List.length_drop, List.length_take]; rfl)) ?_; (with_reducible refine (impl_FibonacciPair.calls k t180 t181 t182 t183 t184 _ A6.out).mono ?_); rintro e w' ⟨rfl, ⟨nd, rfl⟩⟩; refine ⟨_, rfl, ?_⟩) | ((with_reducible refine gate_callee (f := 17) rfl ?_); refine goesL_ (some 42) rfl rfl Try.func17 (by kernel_rfl) rfl #[.int .i64 t180, .int .i64 t181] rfl (by (try simp only [List.map_toArray, List.map_cons, List.map_nil]); first | done | rfl | (simp only [List.length_drop, List.length_take]; rfl)) ?_; (with_reducible refine (spec_FibonacciPair.calls k t180 t181 t185 t186 t187 _ A7.out).mono ?_); rintro e w' ⟨rfl, ⟨nd, rfl⟩⟩; refine ⟨_, rfl, ?_⟩))
    (try simp only [Act.put, List.setIfInBounds_toArray, List.set_cons_zero, List.set_cons_succ])
    go_cut [58] (fun v58 wc => ∃ (kq : Nat) (x58_7 : Bool), v58 = .bool x58_7 ∧ Aside0 (laws_FnFibonacciAndLucas.j0 kq t180 t181 t182 t183 t187 x58_7 = some r) ∧ Aside0 (kq ≤ k) ∧ Aside0 (Below w.heap.size w wc))
    case first =>
      have H := HC8.out
      clear HC8
      by_cases c10 : (t184 != t187) = true
      · rw [if_pos c10] at H
        have c10b0 : (t184 != t187) = true := c10
        (try (have c10b1 : decide (t184 = t187) = false := by simpa using c10))
        (try (have c10b2 : (t184 == t187) = false := by simpa using c10))
        (try (have c10b3 : ¬ (t184 = t187) := by simpa using c10))
        clear c10
        (first | rw [c10b0] | (simp only [i64_w, i32_w]; rw [c10b0]) | skip)
        have H' := Aside0.mk H
        clear H
        go_wp2
        go_meet
        case rel => exact ⟨_, (true), (by first | rfl | (simp; done) | (simp [*]; done)), H', ⟨by first | omega | exact Nat.le_refl _⟩, ⟨by repeat (first | (with_reducible first | exact HB.out | apply below_alloc | apply pw_below_drewN | apply below_drew1) | exact HB.out)⟩⟩
      · rw [if_neg c10] at H
        have c10b0 : (t184 != t187) = false := by simpa using c10
        (try (have c10b1 : decide (t184 = t187) = true := by simpa using c10))
        (try (have c10b2 : (t184 == t187) = true := by simpa using c10))
        clear c10
        (first | rw [c10b0] | (simp only [i64_w, i32_w]; rw [c10b0]) | skip)
        by_cases c11 : t182 = t185
        · rw [if_pos c11] at H
          have c11b0 : (t182 == t185) = true := beq_iff_eq.mpr c11
          have c11b1 : (t182 != t185) = false := bne_eq_false_iff_eq.mpr c11
          clear c11
          have H' := Aside0.mk H
          clear H
          go_wp2
          go_meet
          case rel => exact ⟨_, ((t183 != t186)), (by first | rfl | (simp; done) | (simp [*]; done)), H', ⟨by first | omega | exact Nat.le_refl _⟩, ⟨by repeat (first | (with_reducible first | exact HB.out | apply below_alloc | apply pw_below_drewN | apply below_drew1) | exact HB.out)⟩⟩
        · rw [if_neg c11] at H
          have c11b0 : (t182 == t185) = false := beq_eq_false_iff_ne.mpr c11
          have c11b1 : (t182 != t185) = true := bne_iff_ne.mpr c11
          have H' := Aside0.mk H
          clear H
          go_wp2
          go_meet
          case rel => exact ⟨_, (true), (by first | rfl | (simp; done) | (simp [*]; done)), H', ⟨by first | omega | exact Nat.le_refl _⟩, ⟨by repeat (first | (with_reducible first | exact HB.out | apply below_alloc | apply pw_below_drewN | apply below_drew1) | exact HB.out)⟩⟩
    case rest =>
      clear HC8
      try clear c1
      try clear p2
      try clear c3
      try clear c4
      try clear c8
      try clear c10
      try clear c10b0
      try clear c10b1
      try clear c10b2
      try clear c11
      try clear c11b0
      try clear c11b1
      obtain ⟨kq, x58_7, rfl, HA, HJ7, HB⟩ := hcut
      cases kq with
      | zero => exact absurd HA.out (by simp [laws_FnFibonacciAndLucas.j0])
      | succ kj7 =>
        have H := HA.out
        clear HA
        simp only [laws_FnFibonacciAndLucas.j0] at H
        by_cases c12 : x58_7 = true
        · subst c12
          have H1 : (some false) = some r := by rw [if_pos rfl] at H; exact H
          clear H
          have H := H1
          clear H1
          obtain rfl := Option.some.inj H
          go_wp2
          go_ret
          exact ⟨by first | rfl | (simp [errW_none, errW_some] <;> rfl) | (simp [*, errW_none, errW_some] <;> rfl), by repeat (first | (with_reducible first | exact HB.out | apply below_alloc | apply pw_below_drewN | apply below_drew1) | exact HB.out)⟩
        · replace c12 := Bool.eq_false_iff.mpr c12
          subst c12
          have H1 : (if t187 = true then ((impl_FibonacciPair.f kj7 (wrap64 (t180 + 1)) t181).bind fun bt188 => (if bt188.2.2 = true then (if bt188.1 = t183 then ((laws_pMod.f (wrap64 (t182 + t183)) t181).bind fun t191 => (laws_FnFibonacciAndLucas.j1 kj7 t180 t181 t182 t183 (bt188.2.1 != t191))) else (laws_FnFibonacciAndLucas.j1 kj7 t180 t181 t182 t183 true)) else (laws_FnFibonacciAndLucas.j1 kj7 t180 t181 t182 t183 false))) else (some true)) = some r := by rw [if_neg (show ¬ (false = true) by decide)] at H; exact H
          clear H
          have H := H1
          clear H1
          by_cases c13 : t187 = true
          · subst c13
            have H1 : ((impl_FibonacciPair.f kj7 (wrap64 (t180 + 1)) t181).bind fun bt188 => (if bt188.2.2 = true then (if bt188.1 = t183 then ((laws_pMod.f (wrap64 (t182 + t183)) t181).bind fun t191 => (laws_FnFibonacciAndLucas.j1 kj7 t180 t181 t182 t183 (bt188.2.1 != t191))) else (laws_FnFibonacciAndLucas.j1 kj7 t180 t181 t182 t183 true)) else (laws_FnFibonacciAndLucas.j1 kj7 t180 t181 t182 t183 false))) = some r := by rw [if_pos rfl] at H; exact H
            clear H
            have H := H1
            clear H1
            replace H := Option.bind_eq_some_iff.mp H
            obtain ⟨⟨t188, t189, t190⟩, A140, H⟩ := H
            replace H : (if t190 = true then (if t188 = t183 then ((laws_pMod.f (wrap64 (t182 + t183)) t181).bind fun t191 => (laws_FnFibonacciAndLucas.j1 kj7 t180 t181 t182 t183 (t189 != t191))) else (laws_FnFibonacciAndLucas.j1 kj7 t180 t181 t182 t183 true)) else (laws_FnFibonacciAndLucas.j1 kj7 t180 t181 t182 t183 false)) = some r := H
            have A14 := Aside0.mk A140
            clear A140
            have HC15 := Aside0.mk H
            clear H
            go_upto_region 11 with (first | ((with_reducible refine gate_callee (f := 18) rfl ?_); refine goesL_ (some 65) rfl rfl Try.func18 (by kernel_rfl) rfl #[.int .i64 (wrap64 (t180 + 1)), .int .i64 t181] rfl (by (try simp only [List.map_toArray, List.map_cons, List.map_nil]); first | done | rfl | (simp only [List.length_drop, List.length_take]; rfl)) ?_; (with_reducible refine (impl_FibonacciPair.calls kj7 (wrap64 (t180 + 1)) t181 t188 t189 t190 _ A14.out).mono ?_); rintro e w' ⟨rfl, ⟨nd, rfl⟩⟩; refine ⟨_, rfl, ?_⟩))
            (try simp only [Act.put, List.setIfInBounds_toArray, List.set_cons_zero, List.set_cons_succ])
            go_cut [83] (fun v83 wc => ∃ (kq : Nat) (x83_14 : Bool), v83 = .bool x83_14 ∧ Aside0 (laws_FnFibonacciAndLucas.j1 kq t180 t181 t182 t183 x83_14 = some r) ∧ Aside0 (kq ≤ kj7) ∧ Aside0 (Below w.heap.size w wc))
            case first =>
              have H := HC15.out
              clear HC15
              by_cases c16 : t190 = true
              · subst c16
                have H1 : (if t188 = t183 then ((laws_pMod.f (wrap64 (t182 + t183)) t181).bind fun t191 => (laws_FnFibonacciAndLucas.j1 kj7 t180 t181 t182 t183 (t189 != t191))) else (laws_FnFibonacciAndLucas.j1 kj7 t180 t181 t182 t183 true)) = some r := by rw [if_pos rfl] at H; exact H
                clear H
                have H := H1
                clear H1
                by_cases c17 : t188 = t183
                · rw [if_pos c17] at H
                  have c17b0 : (t188 == t183) = true := beq_iff_eq.mpr c17
                  have c17b1 : (t188 != t183) = false := bne_eq_false_iff_eq.mpr c17
                  clear c17
                  (first | rw [c17b0] | (simp only [i64_w, i32_w]; rw [c17b0]) | skip)
                  replace H := Option.bind_eq_some_iff.mp H
                  obtain ⟨t191, A180, H⟩ := H
                  replace H : (laws_FnFibonacciAndLucas.j1 kj7 t180 t181 t182 t183 (t189 != t191)) = some r := H
                  have A18 := Aside0.mk A180
                  clear A180
                  have H' := Aside0.mk H
                  clear H
                  go_wp2_with (first | (go_at_call 33; (with_reducible refine (laws_pMod.calls (wrap64 (t182 + t183)) t181 t191 _ A18.out).mono ?_); rintro e w' ⟨rfl, ⟨nd, rfl⟩⟩))
                  go_meet
                  case rel => exact ⟨_, ((t189 != t191)), (by first | rfl | (simp; done) | (simp [*]; done)), H', ⟨by have := HJ7.out; first | omega | exact Nat.le_refl _⟩, ⟨by repeat (first | (with_reducible first | exact HB.out | apply below_alloc | apply pw_below_drewN | apply below_drew1) | exact HB.out)⟩⟩
                · rw [if_neg c17] at H
                  have c17b0 : (t188 == t183) = false := beq_eq_false_iff_ne.mpr c17
                  have c17b1 : (t188 != t183) = true := bne_iff_ne.mpr c17
                  (first | rw [c17b0] | (simp only [i64_w, i32_w]; rw [c17b0]) | skip)
                  have H' := Aside0.mk H
                  clear H
                  go_wp2
                  go_meet
                  case rel => exact ⟨_, (true), (by first | rfl | (simp; done) | (simp [*]; done)), H', ⟨by have := HJ7.out; first | omega | exact Nat.le_refl _⟩, ⟨by repeat (first | (with_reducible first | exact HB.out | apply below_alloc | apply pw_below_drewN | apply below_drew1) | exact HB.out)⟩⟩
              · replace c16 := Bool.eq_false_iff.mpr c16
                subst c16
                have H1 : (laws_FnFibonacciAndLucas.j1 kj7 t180 t181 t182 t183 false) = some r := by rw [if_neg (show ¬ (false = true) by decide)] at H; exact H
                clear H
                have H := H1
                clear H1
                have H' := Aside0.mk H
                clear H
                go_wp2
                go_meet
                case rel => exact ⟨_, (false), (by first | rfl | (simp; done) | (simp [*]; done)), H', ⟨by have := HJ7.out; first | omega | exact Nat.le_refl _⟩, ⟨by repeat (first | (with_reducible first | exact HB.out | apply below_alloc | apply pw_below_drewN | apply below_drew1) | exact HB.out)⟩⟩
            case rest =>
              clear HC15
              try clear c1
              try clear p2
              try clear c3
              try clear c4
              try clear p6
              try clear c8
              try clear c10
              try clear c10b0
              try clear c10b1
              try clear c10b2
              try clear c11
              try clear c11b0
              try clear c11b1
              try clear c12
              try clear c13
              try clear c16
              try clear c17
              try clear c17b0
              try clear c17b1
              try clear c18
              try clear p2
              obtain ⟨kq, x83_14, rfl, HA, HJ14, HB⟩ := hcut
              cases kq with
              | zero => exact absurd HA.out (by simp [laws_FnFibonacciAndLucas.j1])
              | succ kj14 =>
                have H := HA.out
                clear HA
                simp only [laws_FnFibonacciAndLucas.j1] at H
                by_cases c19 : x83_14 = true
                · subst c19
                  have H1 : (some false) = some r := by rw [if_pos rfl] at H; exact H
                  clear H
                  have H := H1
                  clear H1
                  obtain rfl := Option.some.inj H
                  go_wp2
                  go_ret
                  exact ⟨by first | rfl | (simp [errW_none, errW_some] <;> rfl) | (simp [*, errW_none, errW_some] <;> rfl), by repeat (first | (with_reducible first | exact HB.out | apply below_alloc | apply pw_below_drewN | apply below_drew1) | exact HB.out)⟩
                · replace c19 := Bool.eq_false_iff.mpr c19
                  subst c19
                  have H1 : (if t180 = 0 then (laws_FnFibonacciAndLucas.j2 kj14 t180 t181 t182 t183 true) else (laws_FnFibonacciAndLucas.j2 kj14 t180 t181 t182 t183 (decide ((wrap64 (2 * t180)) > 1000000)))) = some r := by rw [if_neg (show ¬ (false = true) by decide)] at H; exact H
                  clear H
                  have H := H1
                  clear H1
                  have HC20 := Aside0.mk H
                  clear H
                  go_upto_region 13 with (fail)
                  go_cut [90] (fun v90 wc => ∃ (kq : Nat) (x90_19 : Bool), v90 = .bool x90_19 ∧ Aside0 (laws_FnFibonacciAndLucas.j2 kq t180 t181 t182 t183 x90_19 = some r) ∧ Aside0 (kq ≤ kj14) ∧ Aside0 (Below w.heap.size w wc))
                  case first =>
                    have H := HC20.out
                    clear HC20
                    by_cases c21 : t180 = 0
                    · rw [if_pos c21] at H
                      have c21b0 : (t180 == 0) = true := beq_iff_eq.mpr c21
                      have c21b1 : (t180 != 0) = false := bne_eq_false_iff_eq.mpr c21
                      clear c21
                      (first | rw [c21b0] | (simp only [i64_w, i32_w]; rw [c21b0]) | skip)
                      have H' := Aside0.mk H
                      clear H
                      go_wp2
                      go_meet
                      case rel => exact ⟨_, (true), (by first | rfl | (simp; done) | (simp [*]; done)), H', ⟨by have := HJ7.out; have := HJ14.out; first | omega | exact Nat.le_refl _⟩, ⟨by repeat (first | (with_reducible first | exact HB.out | apply below_alloc | apply pw_below_drewN | apply below_drew1) | exact HB.out)⟩⟩
                    · rw [if_neg c21] at H
                      have c21b0 : (t180 == 0) = false := beq_eq_false_iff_ne.mpr c21
                      have c21b1 : (t180 != 0) = true := bne_iff_ne.mpr c21
                      (first | rw [c21b0] | (simp only [i64_w, i32_w]; rw [c21b0]) | skip)
                      have H' := Aside0.mk H
                      clear H
                      go_wp2
                      go_meet
                      case rel => exact ⟨_, (decide ((wrap64 (2 * t180)) > 1000000)), (by first | rfl | (simp; done) | (simp [*]; done)), H', ⟨by have := HJ7.out; have := HJ14.out; first | omega | exact Nat.le_refl _⟩, ⟨by repeat (first | (with_reducible first | exact HB.out | apply below_alloc | apply pw_below_drewN | apply below_drew1) | exact HB.out)⟩⟩
                  case rest =>
                    clear HC20
                    try clear c1
                    try clear c2
                    try clear p2
                    try clear c3
                    try clear c4
                    try clear p6
                    try clear c8
                    try clear c10
                    try clear c10b0
                    try clear c10b1
                    try clear c10b2
                    try clear c11
                    try clear c11b0
                    try clear c11b1
                    try clear c12
                    try clear c13
                    try clear c16
                    try clear c17
                    try clear c17b0
                    try clear c17b1
                    try clear c18
                    try clear c19
                    try clear c21
                    try clear c21b0
                    try clear c21b1
                    try clear p2
                    try clear p6
                    obtain ⟨kq, x90_19, rfl, HA, HJ19, HB⟩ := hcut
                    cases kq with
                    | zero => exact absurd HA.out (by simp [laws_FnFibonacciAndLucas.j2])
                    | succ kj19 =>
                      have H := HA.out
                      clear HA
                      simp only [laws_FnFibonacciAndLucas.j2] at H
                      by_cases c22 : x90_19 = true
                      · subst c22
                        have H1 : (some true) = some r := by rw [if_pos rfl] at H; exact H
                        clear H
                        have H := H1
                        clear H1
                        obtain rfl := Option.some.inj H
                        go_wp2
                        go_ret
                        exact ⟨by first | rfl | (simp [errW_none, errW_some] <;> rfl) | (simp [*, errW_none, errW_some] <;> rfl), by repeat (first | (with_reducible first | exact HB.out | apply below_alloc | apply pw_below_drewN | apply below_drew1) | exact HB.out)⟩
                      · replace c22 := Bool.eq_false_iff.mpr c22
                        subst c22
                        have H1 : ((impl_FibonacciPair.f kj19 (wrap64 ((wrap64 (2 * t180)) - 1)) t181).bind fun bt192 => ((impl_FibonacciPair.f kj19 (wrap64 (2 * t180)) t181).bind fun bt195 => ((impl_LucasByLadder.f kj19 3 t180 t181).bind fun bt198 => (if bt192.2.2 = true then (if bt195.2.2 = true then (if bt198.2 = true then ((laws_pMod.f (wrap64 (t182 * (wrap64 ((wrap64 (2 * t183)) - t182)))) t181).bind fun t200 => (if bt192.2.1 = t200 then ((laws_pMod.f (wrap64 (bt192.1 + bt195.2.1)) t181).bind fun t201 => (some (bt198.1 == t201))) else (some false))) else (some false)) else (some false)) else (some false))))) = some r := by rw [if_neg (show ¬ (false = true) by decide)] at H; exact H
                        clear H
                        have H := H1
                        clear H1
                        replace H := Option.bind_eq_some_iff.mp H
                        obtain ⟨⟨t192, t193, t194⟩, A230, H⟩ := H
                        replace H : ((impl_FibonacciPair.f kj19 (wrap64 (2 * t180)) t181).bind fun bt195 => ((impl_LucasByLadder.f kj19 3 t180 t181).bind fun bt198 => (if t194 = true then (if bt195.2.2 = true then (if bt198.2 = true then ((laws_pMod.f (wrap64 (t182 * (wrap64 ((wrap64 (2 * t183)) - t182)))) t181).bind fun t200 => (if t193 = t200 then ((laws_pMod.f (wrap64 (t192 + bt195.2.1)) t181).bind fun t201 => (some (bt198.1 == t201))) else (some false))) else (some false)) else (some false)) else (some false)))) = some r := H
                        have A23 := Aside0.mk A230
                        clear A230
                        replace H := Option.bind_eq_some_iff.mp H
                        obtain ⟨⟨t195, t196, t197⟩, A240, H⟩ := H
                        replace H : ((impl_LucasByLadder.f kj19 3 t180 t181).bind fun bt198 => (if t194 = true then (if t197 = true then (if bt198.2 = true then ((laws_pMod.f (wrap64 (t182 * (wrap64 ((wrap64 (2 * t183)) - t182)))) t181).bind fun t200 => (if t193 = t200 then ((laws_pMod.f (wrap64 (t192 + t196)) t181).bind fun t201 => (some (bt198.1 == t201))) else (some false))) else (some false)) else (some false)) else (some false))) = some r := H
                        have A24 := Aside0.mk A240
                        clear A240
                        replace H := Option.bind_eq_some_iff.mp H
                        obtain ⟨⟨t198, t199⟩, A250, H⟩ := H
                        replace H : (if t194 = true then (if t197 = true then (if t199 = true then ((laws_pMod.f (wrap64 (t182 * (wrap64 ((wrap64 (2 * t183)) - t182)))) t181).bind fun t200 => (if t193 = t200 then ((laws_pMod.f (wrap64 (t192 + t196)) t181).bind fun t201 => (some (t198 == t201))) else (some false))) else (some false)) else (some false)) else (some false)) = some r := H
                        have A25 := Aside0.mk A250
                        clear A250
                        by_cases c26 : t194 = true
                        · subst c26
                          have H1 : (if t197 = true then (if t199 = true then ((laws_pMod.f (wrap64 (t182 * (wrap64 ((wrap64 (2 * t183)) - t182)))) t181).bind fun t200 => (if t193 = t200 then ((laws_pMod.f (wrap64 (t192 + t196)) t181).bind fun t201 => (some (t198 == t201))) else (some false))) else (some false)) else (some false)) = some r := by rw [if_pos rfl] at H; exact H
                          clear H
                          have H := H1
                          clear H1
                          by_cases c27 : t197 = true
                          · subst c27
                            have H1 : (if t199 = true then ((laws_pMod.f (wrap64 (t182 * (wrap64 ((wrap64 (2 * t183)) - t182)))) t181).bind fun t200 => (if t193 = t200 then ((laws_pMod.f (wrap64 (t192 + t196)) t181).bind fun t201 => (some (t198 == t201))) else (some false))) else (some false)) = some r := by rw [if_pos rfl] at H; exact H
                            clear H
                            have H := H1
                            clear H1
                            by_cases c28 : t199 = true
                            · subst c28
                              have H1 : ((laws_pMod.f (wrap64 (t182 * (wrap64 ((wrap64 (2 * t183)) - t182)))) t181).bind fun t200 => (if t193 = t200 then ((laws_pMod.f (wrap64 (t192 + t196)) t181).bind fun t201 => (some (t198 == t201))) else (some false))) = some r := by rw [if_pos rfl] at H; exact H
                              clear H
                              have H := H1
                              clear H1
                              replace H := Option.bind_eq_some_iff.mp H
                              obtain ⟨t200, A290, H⟩ := H
                              replace H : (if t193 = t200 then ((laws_pMod.f (wrap64 (t192 + t196)) t181).bind fun t201 => (some (t198 == t201))) else (some false)) = some r := H
                              have A29 := Aside0.mk A290
                              clear A290
                              by_cases c30 : t193 = t200
                              · rw [if_pos c30] at H
                                have c30b0 : (t193 == t200) = true := beq_iff_eq.mpr c30
                                have c30b1 : (t193 != t200) = false := bne_eq_false_iff_eq.mpr c30
                                clear c30
                                replace H := Option.bind_eq_some_iff.mp H
                                obtain ⟨t201, A310, H⟩ := H
                                replace H : (some (t198 == t201)) = some r := H
                                have A31 := Aside0.mk A310
                                clear A310
                                obtain rfl := Option.some.inj H
                                go_wp2_with (first | ((with_reducible refine gate_callee (f := 18) rfl ?_); refine goesL_ (some 96) rfl rfl Try.func18 (by kernel_rfl) rfl #[.int .i64 (wrap64 ((wrap64 (2 * t180)) - 1)), .int .i64 t181] rfl (by (try simp only [List.map_toArray, List.map_cons, List.map_nil]); first | done | rfl | (simp only [List.length_drop, List.length_take]; rfl)) ?_; (with_reducible refine (impl_FibonacciPair.calls kj19 (wrap64 ((wrap64 (2 * t180)) - 1)) t181 t192 t193 true _ A23.out).mono ?_); rintro e w' ⟨rfl, ⟨nd, rfl⟩⟩; refine ⟨_, rfl, ?_⟩) | ((with_reducible refine gate_callee (f := 18) rfl ?_); refine goesL_ (some 104) rfl rfl Try.func18 (by kernel_rfl) rfl #[.int .i64 (wrap64 (2 * t180)), .int .i64 t181] rfl (by (try simp only [List.map_toArray, List.map_cons, List.map_nil]); first | done | rfl | (simp only [List.length_drop, List.length_take]; rfl)) ?_; (with_reducible refine (impl_FibonacciPair.calls kj19 (wrap64 (2 * t180)) t181 t195 t196 true _ A24.out).mono ?_); rintro e w' ⟨rfl, ⟨nd, rfl⟩⟩; refine ⟨_, rfl, ?_⟩) | ((with_reducible refine gate_callee (f := 20) rfl ?_); refine goesL_ (some 111) rfl rfl Try.func20 (by kernel_rfl) rfl #[.int .i64 3, .int .i64 t180, .int .i64 t181] rfl (by (try simp only [List.map_toArray, List.map_cons, List.map_nil]); first | done | rfl | (simp only [List.length_drop, List.length_take]; rfl)) ?_; (with_reducible refine (impl_LucasByLadder.calls kj19 3 t180 t181 t198 true _ A25.out).mono ?_); rintro e w' ⟨rfl, ⟨nd, rfl⟩⟩; refine ⟨_, rfl, ?_⟩) | (go_at_call 33; (with_reducible refine (laws_pMod.calls (wrap64 (t182 * (wrap64 ((wrap64 (2 * t183)) - t182)))) t181 t200 _ A29.out).mono ?_); rintro e w' ⟨rfl, ⟨nd, rfl⟩⟩) | (go_at_call 33; (with_reducible refine (laws_pMod.calls (wrap64 (t192 + t196)) t181 t201 _ A31.out).mono ?_); rintro e w' ⟨rfl, ⟨nd, rfl⟩⟩))
                                go_ret
                                exact ⟨by first | rfl | (simp [errW_none, errW_some] <;> rfl) | (simp [*, errW_none, errW_some] <;> rfl), by repeat (first | (with_reducible first | exact HB.out | apply below_alloc | apply pw_below_drewN | apply below_drew1) | exact HB.out)⟩
                              · rw [if_neg c30] at H
                                have c30b0 : (t193 == t200) = false := beq_eq_false_iff_ne.mpr c30
                                have c30b1 : (t193 != t200) = true := bne_iff_ne.mpr c30
                                obtain rfl := Option.some.inj H
                                go_wp2_with (first | ((with_reducible refine gate_callee (f := 18) rfl ?_); refine goesL_ (some 96) rfl rfl Try.func18 (by kernel_rfl) rfl #[.int .i64 (wrap64 ((wrap64 (2 * t180)) - 1)), .int .i64 t181] rfl (by (try simp only [List.map_toArray, List.map_cons, List.map_nil]); first | done | rfl | (simp only [List.length_drop, List.length_take]; rfl)) ?_; (with_reducible refine (impl_FibonacciPair.calls kj19 (wrap64 ((wrap64 (2 * t180)) - 1)) t181 t192 t193 true _ A23.out).mono ?_); rintro e w' ⟨rfl, ⟨nd, rfl⟩⟩; refine ⟨_, rfl, ?_⟩) | ((with_reducible refine gate_callee (f := 18) rfl ?_); refine goesL_ (some 104) rfl rfl Try.func18 (by kernel_rfl) rfl #[.int .i64 (wrap64 (2 * t180)), .int .i64 t181] rfl (by (try simp only [List.map_toArray, List.map_cons, List.map_nil]); first | done | rfl | (simp only [List.length_drop, List.length_take]; rfl)) ?_; (with_reducible refine (impl_FibonacciPair.calls kj19 (wrap64 (2 * t180)) t181 t195 t196 true _ A24.out).mono ?_); rintro e w' ⟨rfl, ⟨nd, rfl⟩⟩; refine ⟨_, rfl, ?_⟩) | ((with_reducible refine gate_callee (f := 20) rfl ?_); refine goesL_ (some 111) rfl rfl Try.func20 (by kernel_rfl) rfl #[.int .i64 3, .int .i64 t180, .int .i64 t181] rfl (by (try simp only [List.map_toArray, List.map_cons, List.map_nil]); first | done | rfl | (simp only [List.length_drop, List.length_take]; rfl)) ?_; (with_reducible refine (impl_LucasByLadder.calls kj19 3 t180 t181 t198 true _ A25.out).mono ?_); rintro e w' ⟨rfl, ⟨nd, rfl⟩⟩; refine ⟨_, rfl, ?_⟩) | (go_at_call 33; (with_reducible refine (laws_pMod.calls (wrap64 (t182 * (wrap64 ((wrap64 (2 * t183)) - t182)))) t181 t200 _ A29.out).mono ?_); rintro e w' ⟨rfl, ⟨nd, rfl⟩⟩))
                                go_ret
                                exact ⟨by first | rfl | (simp [errW_none, errW_some] <;> rfl) | (simp [*, errW_none, errW_some] <;> rfl), by repeat (first | (with_reducible first | exact HB.out | apply below_alloc | apply pw_below_drewN | apply below_drew1) | exact HB.out)⟩
                            · replace c28 := Bool.eq_false_iff.mpr c28
                              subst c28
                              have H1 : (some false) = some r := by rw [if_neg (show ¬ (false = true) by decide)] at H; exact H
                              clear H
                              have H := H1
                              clear H1
                              obtain rfl := Option.some.inj H
                              go_wp2_with (first | ((with_reducible refine gate_callee (f := 18) rfl ?_); refine goesL_ (some 96) rfl rfl Try.func18 (by kernel_rfl) rfl #[.int .i64 (wrap64 ((wrap64 (2 * t180)) - 1)), .int .i64 t181] rfl (by (try simp only [List.map_toArray, List.map_cons, List.map_nil]); first | done | rfl | (simp only [List.length_drop, List.length_take]; rfl)) ?_; (with_reducible refine (impl_FibonacciPair.calls kj19 (wrap64 ((wrap64 (2 * t180)) - 1)) t181 t192 t193 true _ A23.out).mono ?_); rintro e w' ⟨rfl, ⟨nd, rfl⟩⟩; refine ⟨_, rfl, ?_⟩) | ((with_reducible refine gate_callee (f := 18) rfl ?_); refine goesL_ (some 104) rfl rfl Try.func18 (by kernel_rfl) rfl #[.int .i64 (wrap64 (2 * t180)), .int .i64 t181] rfl (by (try simp only [List.map_toArray, List.map_cons, List.map_nil]); first | done | rfl | (simp only [List.length_drop, List.length_take]; rfl)) ?_; (with_reducible refine (impl_FibonacciPair.calls kj19 (wrap64 (2 * t180)) t181 t195 t196 true _ A24.out).mono ?_); rintro e w' ⟨rfl, ⟨nd, rfl⟩⟩; refine ⟨_, rfl, ?_⟩) | ((with_reducible refine gate_callee (f := 20) rfl ?_); refine goesL_ (some 111) rfl rfl Try.func20 (by kernel_rfl) rfl #[.int .i64 3, .int .i64 t180, .int .i64 t181] rfl (by (try simp only [List.map_toArray, List.map_cons, List.map_nil]); first | done | rfl | (simp only [List.length_drop, List.length_take]; rfl)) ?_; (with_reducible refine (impl_LucasByLadder.calls kj19 3 t180 t181 t198 false _ A25.out).mono ?_); rintro e w' ⟨rfl, ⟨nd, rfl⟩⟩; refine ⟨_, rfl, ?_⟩))
                              go_ret
                              exact ⟨by first | rfl | (simp [errW_none, errW_some] <;> rfl) | (simp [*, errW_none, errW_some] <;> rfl), by repeat (first | (with_reducible first | exact HB.out | apply below_alloc | apply pw_below_drewN | apply below_drew1) | exact HB.out)⟩
                          · replace c27 := Bool.eq_false_iff.mpr c27
                            subst c27
                            have H1 : (some false) = some r := by rw [if_neg (show ¬ (false = true) by decide)] at H; exact H
                            clear H
                            have H := H1
                            clear H1
                            obtain rfl := Option.some.inj H
                            go_wp2_with (first | ((with_reducible refine gate_callee (f := 18) rfl ?_); refine goesL_ (some 96) rfl rfl Try.func18 (by kernel_rfl) rfl #[.int .i64 (wrap64 ((wrap64 (2 * t180)) - 1)), .int .i64 t181] rfl (by (try simp only [List.map_toArray, List.map_cons, List.map_nil]); first | done | rfl | (simp only [List.length_drop, List.length_take]; rfl)) ?_; (with_reducible refine (impl_FibonacciPair.calls kj19 (wrap64 ((wrap64 (2 * t180)) - 1)) t181 t192 t193 true _ A23.out).mono ?_); rintro e w' ⟨rfl, ⟨nd, rfl⟩⟩; refine ⟨_, rfl, ?_⟩) | ((with_reducible refine gate_callee (f := 18) rfl ?_); refine goesL_ (some 104) rfl rfl Try.func18 (by kernel_rfl) rfl #[.int .i64 (wrap64 (2 * t180)), .int .i64 t181] rfl (by (try simp only [List.map_toArray, List.map_cons, List.map_nil]); first | done | rfl | (simp only [List.length_drop, List.length_take]; rfl)) ?_; (with_reducible refine (impl_FibonacciPair.calls kj19 (wrap64 (2 * t180)) t181 t195 t196 false _ A24.out).mono ?_); rintro e w' ⟨rfl, ⟨nd, rfl⟩⟩; refine ⟨_, rfl, ?_⟩) | ((with_reducible refine gate_callee (f := 20) rfl ?_); refine goesL_ (some 111) rfl rfl Try.func20 (by kernel_rfl) rfl #[.int .i64 3, .int .i64 t180, .int .i64 t181] rfl (by (try simp only [List.map_toArray, List.map_cons, List.map_nil]); first | done | rfl | (simp only [List.length_drop, List.length_take]; rfl)) ?_; (with_reducible refine (impl_LucasByLadder.calls kj19 3 t180 t181 t198 t199 _ A25.out).mono ?_); rintro e w' ⟨rfl, ⟨nd, rfl⟩⟩; refine ⟨_, rfl, ?_⟩))
                            go_ret
                            exact ⟨by first | rfl | (simp [errW_none, errW_some] <;> rfl) | (simp [*, errW_none, errW_some] <;> rfl), by repeat (first | (with_reducible first | exact HB.out | apply below_alloc | apply pw_below_drewN | apply below_drew1) | exact HB.out)⟩
                        · replace c26 := Bool.eq_false_iff.mpr c26
                          subst c26
                          have H1 : (some false) = some r := by rw [if_neg (show ¬ (false = true) by decide)] at H; exact H
                          clear H
                          have H := H1
                          clear H1
                          obtain rfl := Option.some.inj H
                          go_wp2_with (first | ((with_reducible refine gate_callee (f := 18) rfl ?_); refine goesL_ (some 96) rfl rfl Try.func18 (by kernel_rfl) rfl #[.int .i64 (wrap64 ((wrap64 (2 * t180)) - 1)), .int .i64 t181] rfl (by (try simp only [List.map_toArray, List.map_cons, List.map_nil]); first | done | rfl | (simp only [List.length_drop, List.length_take]; rfl)) ?_; (with_reducible refine (impl_FibonacciPair.calls kj19 (wrap64 ((wrap64 (2 * t180)) - 1)) t181 t192 t193 false _ A23.out).mono ?_); rintro e w' ⟨rfl, ⟨nd, rfl⟩⟩; refine ⟨_, rfl, ?_⟩) | ((with_reducible refine gate_callee (f := 18) rfl ?_); refine goesL_ (some 104) rfl rfl Try.func18 (by kernel_rfl) rfl #[.int .i64 (wrap64 (2 * t180)), .int .i64 t181] rfl (by (try simp only [List.map_toArray, List.map_cons, List.map_nil]); first | done | rfl | (simp only [List.length_drop, List.length_take]; rfl)) ?_; (with_reducible refine (impl_FibonacciPair.calls kj19 (wrap64 (2 * t180)) t181 t195 t196 t197 _ A24.out).mono ?_); rintro e w' ⟨rfl, ⟨nd, rfl⟩⟩; refine ⟨_, rfl, ?_⟩) | ((with_reducible refine gate_callee (f := 20) rfl ?_); refine goesL_ (some 111) rfl rfl Try.func20 (by kernel_rfl) rfl #[.int .i64 3, .int .i64 t180, .int .i64 t181] rfl (by (try simp only [List.map_toArray, List.map_cons, List.map_nil]); first | done | rfl | (simp only [List.length_drop, List.length_take]; rfl)) ?_; (with_reducible refine (impl_LucasByLadder.calls kj19 3 t180 t181 t198 t199 _ A25.out).mono ?_); rintro e w' ⟨rfl, ⟨nd, rfl⟩⟩; refine ⟨_, rfl, ?_⟩))
                          go_ret
                          exact ⟨by first | rfl | (simp [errW_none, errW_some] <;> rfl) | (simp [*, errW_none, errW_some] <;> rfl), by repeat (first | (with_reducible first | exact HB.out | apply below_alloc | apply pw_below_drewN | apply below_drew1) | exact HB.out)⟩
          · replace c13 := Bool.eq_false_iff.mpr c13
            subst c13
            have H1 : (some true) = some r := by rw [if_neg (show ¬ (false = true) by decide)] at H; exact H
            clear H
            have H := H1
            clear H1
            obtain rfl := Option.some.inj H
            go_wp2
            go_ret
            exact ⟨by first | rfl | (simp [errW_none, errW_some] <;> rfl) | (simp [*, errW_none, errW_some] <;> rfl), by repeat (first | (with_reducible first | exact HB.out | apply below_alloc | apply pw_below_drewN | apply below_drew1) | exact HB.out)⟩

/-- THE ONE PURE STATEMENT of laws_FnFibonacciAndLucas: yours. -/
def laws_FnFibonacciAndLucas.Pure : Prop := ∀ (l0 : List Int) (l1 : List Int), l0.length ≤ maxLen → l0.length * 1 ≤ 140737488351232 → (∀ x ∈ l0, (Lit.int .u8 x).wf = true) → l1.length ≤ maxLen → l1.length * 1 ≤ 140737488351232 → (∀ x ∈ l1, (Lit.int .u8 x).wf = true) → ∃ k, laws_FnFibonacciAndLucas.f k l0 l1 = some true
theorem laws_FnFibonacciAndLucas.walk (P : laws_FnFibonacciAndLucas.Pure) (a0 : Option Addr) (len0 cap0 : Nat) (z0 : List Int) (a1 : Option Addr) (len1 cap1 : Nat) (z1 : List Int) (w : World) (w0 : (a0 = none ∧ len0 = 0 ∧ cap0 = 0 ∧ z0 = []) ∨ ∃ x, a0 = some x ∧ len0 ≤ cap0 ∧ cap0 ≤ maxLen ∧ z0.length = cap0 ∧ (∀ i, i < z0.length → w.cell? (x.add i) = some (.int .u8 (z0.getD i 0))) ∧ ∀ n ∈ z0, (Lit.int .u8 n).wf = true) (y0 : len0 * 1 ≤ 140737488351232) (w1 : (a1 = none ∧ len1 = 0 ∧ cap1 = 0 ∧ z1 = []) ∨ ∃ x, a1 = some x ∧ len1 ≤ cap1 ∧ cap1 ≤ maxLen ∧ z1.length = cap1 ∧ (∀ i, i < z1.length → w.cell? (x.add i) = some (.int .u8 (z1.getD i 0))) ∧ ∀ n ∈ z1, (Lit.int .u8 n).wf = true) (y1 : len1 * 1 ≤ 140737488351232) :
    Calls Try.prog 8 #[.slice a0 len0 cap0, .slice a1 len1 cap1] w fun e w' => e = .returned (.bool true) ∧ Below w.heap.size w w' := by
  obtain ⟨l0, rfl, hr0, hm0, hw0, hc0⟩ := ReadsInt.ofRowC w0
  obtain ⟨l1, rfl, hr1, hm1, hw1, hc1⟩ := ReadsInt.ofRowC w1
  obtain ⟨k, h⟩ := P l0 l1 hm0 y0 hw0 hm1 y1 hw1
  refine (laws_FnFibonacciAndLucas.calls k _ _ l0 _ _ l1 true w (Kd.C_of_reads (d := (0 : Int)) (h1 := fun _ => rfl) hr0) hc0 (Kd.C_of_reads (d := (0 : Int)) (h1 := fun _ => rfl) hr1) hc1 h).mono ?_
  rintro e w' ⟨rfl, hd⟩
  exact ⟨rfl, hd⟩

end Go.Proofs.Ytdmpgpmdgmejpaa.PFnFibonacciAndLucas
