-- Written by gprint.py, a program of this session, out of the translation (a changed print).
import Derived.Test.YtlmoemahamneoaaPFnSubtractionChainsx0
import Derived.Test.YtlmoemahamneoaaPFnSubtractionChainsx1
import Derived.Test.YtlmoemahamneoaaPFnSubtractionChainsx2
namespace Go.Proofs.Ytlmoemahamneoaa.PFnSubtractionChains
open Go.RowKit Go.Proofs.YtlmoemahamneoaaW.PrintWords Go.Proofs.YtlmoemahamneoaaW.PrintLast Go.Proofs.YtlmoemahamneoaaW.PrintMore
attribute [local go_sem] max2_int min2_int max_two min_two max_three min_three max_four min_four   -- for this text's walks alone
set_option linter.unusedVariables false
set_option linter.unusedSimpArgs false

/-! ### impl_rest: function 136 -/
def impl_rest.f (a0 : Int) (a1 : Int) : Option (Int) := if a1 = 0 then (none) else (some (Int.tmod (wrap64 ((Int.tmod a0 a1) + a1)) a1))
set_option maxHeartbeats 8000000 in
set_option maxRecDepth 100000 in
theorem impl_rest.calls (a0 : Int) (a1 : Int) (r : Int) (w : World) (h : impl_rest.f a0 a1 = some r) :
    Calls Try.prog 136 #[.int .i64 a0, .int .i64 a1] w fun e w' => e = .returned (.int .i64 r) ∧ Drawn0 w w' := by
  have H : (if a1 = 0 then (none) else (some (Int.tmod (wrap64 ((Int.tmod a0 a1) + a1)) a1))) = some r := h
  clear h
  by_cases c3 : a1 = 0
  · rw [if_pos c3] at H
    exact absurd H (by simp)
  · rw [if_neg c3] at H
    have c3b0 : (a1 == 0) = false := beq_eq_false_iff_ne.mpr c3
    have c3b1 : (a1 != 0) = true := bne_iff_ne.mpr c3
    obtain rfl := Option.some.inj H
    go_enter Try.func136, Try.ntmps136
    go_wp2
    go_ret
    exact ⟨by first | rfl | (simp; done) | (simp [*]; done), by repeat (first | exact Drawn0.refl _ | apply Drawn0.step)⟩

/-! ### impl_windowed: function 171 -/
def impl_windowed.l0 : Nat → Int → Int → List Int → Option (List Int)
  | 0, _, _, _ => none
  | k + 1, x0, x1, x5 => if x0 = 0 then (some x5) else (if (Int.tmod x0 2) = 0 then (if x5.length < 17592186044416 then (impl_windowed.l0 k (wrap64 (Int.tdiv (wrap64 (x0 - 0)) 2)) x1 (x5 ++ [0])) else (none)) else (if 0 ≤ x1 then ((impl_rest.f x0 (shl .i64 1 x1)).bind fun t169 => (if 0 ≤ (wrap64 (x1 - 1)) then (if t169 > (shl .i64 1 (wrap64 (x1 - 1))) then (if x5.length < 17592186044416 then (impl_windowed.l0 k (wrap64 (Int.tdiv (wrap64 (x0 - (wrap64 (t169 - (shl .i64 1 x1))))) 2)) x1 (x5 ++ [wrap64 (t169 - (shl .i64 1 x1))])) else (none)) else (if x5.length < 17592186044416 then (impl_windowed.l0 k (wrap64 (Int.tdiv (wrap64 (x0 - t169)) 2)) x1 (x5 ++ [t169])) else (none))) else (none))) else (none)))
def impl_windowed.f (k : Nat) (a0 : Int) (a1 : Int) : Option (List Int) := impl_windowed.l0 k a0 a1 (([] : List Int))
theorem impl_windowed.mono_l : ∀ k, (∀ y0 y1 y2, LeO (impl_windowed.l0 k y0 y1 y2) (impl_windowed.l0 (k + 1) y0 y1 y2))
  | 0 => fun _ _ _ r h => by simp [impl_windowed.l0] at h
  | k + 1 => by
    have ih0 := impl_windowed.mono_l k
    · intro y0 y1 y2
      unfold impl_windowed.l0
      repeat' first
      | (with_reducible exact ih0 _ _ _)
      | (with_reducible exact LeO.refl _)
      | (with_reducible exact LeO.none _)
      | (with_reducible refine LeO.ite ?_ ?_)
      | (with_reducible refine LeO.bind ?_ (fun _ => ?_))
      | exact ih0 _ _ _
      | exact LeO.none _
      | refine LeO.ite ?_ ?_
      | refine LeO.bind ?_ (fun _ => ?_)
theorem impl_windowed.mono : ∀ a0 a1 k, LeO (impl_windowed.f k a0 a1) (impl_windowed.f (k + 1) a0 a1) := by
  intro a0 a1 k
  have ih0 := impl_windowed.mono_l k
  unfold impl_windowed.f
  repeat' first
      | (with_reducible exact ih0 _ _ _)
      | (with_reducible exact LeO.refl _)
      | (with_reducible exact LeO.none _)
      | (with_reducible refine LeO.ite ?_ ?_)
      | (with_reducible refine LeO.bind ?_ (fun _ => ?_))
      | exact ih0 _ _ _
      | exact LeO.none _
      | refine LeO.ite ?_ ?_
      | refine LeO.bind ?_ (fun _ => ?_)
set_option maxHeartbeats 8000000 in
set_option maxRecDepth 100000 in
theorem impl_windowed.calls (k : Nat) (a0 : Int) (a1 : Int) (r : List Int) (w : World) (h : impl_windowed.f k a0 a1 = some r) :
    Calls Try.prog 171 #[.int .i64 a0, .int .i64 a1] w fun e w' => ∃ v0_ : Value, e = .returned (v0_) ∧ Kd.R (Kd.int .i64) 3 w' w.heap.size (fun _ => True) v0_ r ∧ Below w.heap.size w w' := by
  have HB := Aside0.mk (Below.refl w.heap.size w)
  have H : (impl_windowed.l0 k a0 a1 (([] : List Int))) = some r := h
  clear h
  obtain ⟨y163, hy163⟩ : ∃ y_ : List Int, y_ = (([] : List Int)) := ⟨_, rfl⟩
  replace H : (impl_windowed.l0 k a0 a1 y163) = some r := by first | (rw [hy163]; with_reducible exact H) | (have H2_ := (Option.bind_some _ _).symm.trans H; rw [hy163]; with_reducible exact H2_) | (have H2_ := (Option.bind_some _ _).symm.trans H; with_reducible exact H2_) | with_reducible exact H | (rw [hy163]; exact H) | exact H
  have Ny163 := Aside0.mk hy163
  clear hy163
  have H' := Aside0.mk H
  clear H
  go_enter Try.func171, Try.ntmps171
  go_wp2_with (first | ((with_reducible refine gate_dst (N := 7) rfl ?_); refine Kd.R_lit (Kd.int .i64) _ 3 ?hg (N := 7) ?hd (xs := ([] : List Int)) (inner := []) (ok := fun _ => True) (okp := fun _ => True) ?hr ?hp (fun _ hk => hk) trivial (Below.refl _ _) (Nat.le_refl _) (by simp) ?_; (case hd => rfl); (case hg => rfl); (case hr => first | (go_simp; done) | (go_simp; rfl)); (case hp => exact (Reps.none _ _)); intro v164 w3 ho4 hb hg_ hnew_; clear hg_ hnew_; (first | rw [← Ny163.out] at ho4 | (simp only [Int.reduceToNat] at ho4; rw [← Ny163.out] at ho4)); have n0_ := Aside0.mk (Kd.R_lower ho4 (below_size (by repeat (first | (with_reducible first | exact HB.out | apply below_alloc | apply pw_below_drewN | apply below_drew1) | exact HB.out)))); have n1_ := Aside0.mk (below_step (by repeat (first | (with_reducible first | exact HB.out | apply below_alloc | apply pw_below_drewN | apply below_drew1) | exact HB.out)) hb); clear HB; have HO165 := n0_; have HB := n1_; clear n0_ n1_; clear hb ho4))
  go_loopg [0, 5] k (fun kq v0 v5 w' => ∃ (x0_1 : Int) (x5_1 : List Int), v0 = .int .i64 x0_1 ∧ Aside0 (impl_windowed.l0 kq x0_1 a1 x5_1 = some r) ∧ Aside0 (kq ≤ k) ∧ Aside0 (Kd.R (Kd.int .i64) 3 w' w.heap.size (fun _ => True) v5 x5_1) ∧ Aside0 (Below w.heap.size w w'))
  case atStart => exact ⟨(a0), (y163), (by first | rfl | (simp; done) | (simp [*]; done)), H', ⟨Nat.le_refl _⟩, ⟨by (with_reducible repeat (first | apply Kd.R_alloc | apply Kd.R_drewN | apply Kd.R_drew)); exact HO165.out⟩, ⟨by repeat (first | (with_reducible first | exact HB.out | apply below_alloc | apply pw_below_drewN | apply below_drew1) | exact HB.out)⟩⟩
  case round =>
    clear H'
    try clear c1
    try clear p2
    obtain ⟨x0_1, x5_1, rfl, HA, HK1, HO_5, HB⟩ := hrel
    cases gk with
    | zero => exact absurd HA.out (by simp [impl_windowed.l0])
    | succ k1 =>
      have H := HA.out
      clear HA
      simp only [impl_windowed.l0] at H
      by_cases c5 : x0_1 = 0
      · rw [if_pos c5] at H
        have c5b0 : (x0_1 == 0) = true := beq_iff_eq.mpr c5
        have c5b1 : (x0_1 != 0) = false := bne_eq_false_iff_eq.mpr c5
        clear c5
        obtain rfl := Option.some.inj H
        go_wp2
        go_ret
        exact ⟨_, by first | rfl | (simp [errW_none, errW_some] <;> rfl) | (simp [*, errW_none, errW_some] <;> rfl), by (with_reducible repeat (first | apply Kd.R_alloc | apply Kd.R_drewN | apply Kd.R_drew)); exact HO_5.out, by repeat (first | (with_reducible first | exact HB.out | apply below_alloc | apply pw_below_drewN | apply below_drew1) | exact HB.out)⟩
      · rw [if_neg c5] at H
        have c5b0 : (x0_1 == 0) = false := beq_eq_false_iff_ne.mpr c5
        have c5b1 : (x0_1 != 0) = true := bne_iff_ne.mpr c5
        by_cases c6 : (Int.tmod x0_1 2) = 0
        · rw [if_pos c6] at H
          have c6b0 : ((Int.tmod x0_1 2) == 0) = true := beq_iff_eq.mpr c6
          have c6b1 : ((Int.tmod x0_1 2) != 0) = false := bne_eq_false_iff_eq.mpr c6
          clear c6
          by_cases c7 : x5_1.length < 17592186044416
          · rw [if_pos c7] at H
            have LMc7 := Aside0.mk c7
            clear c7
            obtain ⟨y166, hy166⟩ : ∃ y_ : List Int, y_ = (x5_1 ++ [0]) := ⟨_, rfl⟩
            replace H : (impl_windowed.l0 k1 (wrap64 (Int.tdiv (wrap64 (x0_1 - 0)) 2)) a1 y166) = some r := by first | (rw [hy166]; with_reducible exact H) | (have H2_ := (Option.bind_some _ _).symm.trans H; rw [hy166]; with_reducible exact H2_) | (have H2_ := (Option.bind_some _ _).symm.trans H; with_reducible exact H2_) | with_reducible exact H | (rw [hy166]; exact H) | exact H
            have Ny166 := Aside0.mk hy166
            clear hy166
            have H' := Aside0.mk H
            clear H
            go_wp2_with (first | ((with_reducible refine gate_builtin (b := .append) (xs := #[.tmp 31, .tmp 33]) rfl ?_); at_builtin; refine Kd.R_append (Kd.int .i64) (w0 := w) w.heap.size rfl (.tmp 31) (.tmp 33) 29 3 (.int .i64 0) 8 rfl Try.underlying29 info3 rfl (by decide) (by omega) u5 x5_1 0 [.int .i64 0] (fun _ => True) (fun _ => False) rfl rfl ?aP (fun _ hk => hk.elim) ?aF ?aO ?aB ?aS ?aL ?_; (case aP => exact rfl); (case aB => exact (by repeat (first | (with_reducible first | exact HB.out | apply below_alloc | apply pw_below_drewN | apply below_drew1) | exact HB.out))); (case aF => exact (fun _ _ => trivial)); (case aO => exact (by (with_reducible repeat (first | apply Kd.R_alloc | apply Kd.R_drewN | apply Kd.R_drew)); exact HO_5.out)); (case aS => exact (below_size (by repeat (first | (with_reducible first | exact HB.out | apply below_alloc | apply pw_below_drewN | apply below_drew1) | exact HB.out)))); (case aL => have := LMc7.out; omega); intro v167 w8 ho hb hg hat; rw [← Ny166.out] at ho; have n0_ := Aside0.mk (hb); have n1_ := Aside0.mk (ho); clear HB; clear HO_5; have HB := n0_; have HO168 := n1_; clear n0_ n1_; clear ho hb hg hat))
            go_roundg k1
            case measure => have := HK1.out; omega
            case rel => exact ⟨(wrap64 (Int.tdiv (wrap64 (x0_1 - 0)) 2)), (y166), (by first | rfl | (simp; done) | (simp [*]; done)), H', ⟨by have := HK1.out; omega⟩, ⟨by (with_reducible repeat (first | apply Kd.R_alloc | apply Kd.R_drewN | apply Kd.R_drew)); exact HO168.out⟩, ⟨by repeat (first | (with_reducible first | exact HB.out | apply below_alloc | apply pw_below_drewN | apply below_drew1) | exact HB.out)⟩⟩
          · rw [if_neg c7] at H
            exact absurd H (by simp)
        · rw [if_neg c6] at H
          have c6b0 : ((Int.tmod x0_1 2) == 0) = false := beq_eq_false_iff_ne.mpr c6
          have c6b1 : ((Int.tmod x0_1 2) != 0) = true := bne_iff_ne.mpr c6
          by_cases c9 : 0 ≤ a1
          · rw [if_pos c9] at H
            have c9b0 := eq_true c9
            have c9b1 : decide (0 ≤ a1) = true := decide_eq_true c9
            clear c9
            obtain ⟨ji10, hji10⟩ : ∃ j_ : Int, (shl .i64 1 a1) = j_ := ⟨_, rfl⟩
            replace H : ((impl_rest.f x0_1 (ji10)).bind fun t169 => (if 0 ≤ (wrap64 (a1 - 1)) then (if t169 > (shl .i64 1 (wrap64 (a1 - 1))) then (if x5_1.length < 17592186044416 then (impl_windowed.l0 k1 (wrap64 (Int.tdiv (wrap64 (x0_1 - (wrap64 (t169 - (ji10))))) 2)) a1 (x5_1 ++ [wrap64 (t169 - (ji10))])) else (none)) else (if x5_1.length < 17592186044416 then (impl_windowed.l0 k1 (wrap64 (Int.tdiv (wrap64 (x0_1 - t169)) 2)) a1 (x5_1 ++ [t169])) else (none))) else (none))) = some r := by first | (rw [hji10] at H; exact H) | (simp only [hji10] at H ⊢; exact H)
            have hji10_ : (IntKind.i64.wrap (1 * 2 ^ min a1.toNat 64)) = ji10 := hji10
            have hji10z : a1 ≤ 64 → (IntKind.i64.wrap (1 * 2 ^ a1.toNat)) = ji10 := shl_small hji10
            have hji10u : (IntKind.i64.wrap (2 ^ min a1.toNat 64)) = ji10 := by have h_ := hji10_; rw [Int.one_mul] at h_; exact h_
            have hji10v : a1 ≤ 64 → (IntKind.i64.wrap (2 ^ a1.toNat)) = ji10 := fun hle_ => by have h_ := hji10z hle_; rw [Int.one_mul] at h_; exact h_
            have hji10y : (wrap64 (1 * 2 ^ min a1.toNat 64)) = ji10 := (i64_w _).symm.trans hji10_
            have hji10x : a1 ≤ 64 → (wrap64 (1 * 2 ^ a1.toNat)) = ji10 := fun h_ => (i64_w _).symm.trans (hji10z h_)
            replace H := Option.bind_eq_some_iff.mp H
            obtain ⟨t169, A110, H⟩ := H
            replace H : (if 0 ≤ (wrap64 (a1 - 1)) then (if t169 > (shl .i64 1 (wrap64 (a1 - 1))) then (if x5_1.length < 17592186044416 then (impl_windowed.l0 k1 (wrap64 (Int.tdiv (wrap64 (x0_1 - (wrap64 (t169 - (ji10))))) 2)) a1 (x5_1 ++ [wrap64 (t169 - (ji10))])) else (none)) else (if x5_1.length < 17592186044416 then (impl_windowed.l0 k1 (wrap64 (Int.tdiv (wrap64 (x0_1 - t169)) 2)) a1 (x5_1 ++ [t169])) else (none))) else (none)) = some r := H
            have A11 := Aside0.mk A110
            clear A110
            obtain ⟨ji12, hji12⟩ : ∃ j_ : Int, (wrap64 (a1 - 1)) = j_ := ⟨_, rfl⟩
            replace H : (if 0 ≤ (ji12) then (if t169 > (shl .i64 1 (ji12)) then (if x5_1.length < 17592186044416 then (impl_windowed.l0 k1 (wrap64 (Int.tdiv (wrap64 (x0_1 - (wrap64 (t169 - (ji10))))) 2)) a1 (x5_1 ++ [wrap64 (t169 - (ji10))])) else (none)) else (if x5_1.length < 17592186044416 then (impl_windowed.l0 k1 (wrap64 (Int.tdiv (wrap64 (x0_1 - t169)) 2)) a1 (x5_1 ++ [t169])) else (none))) else (none)) = some r := by first | (rw [hji12] at H; exact H) | (simp only [hji12] at H ⊢; exact H)
            (try rw [hji12] at A11)
            have hji12w : (IntKind.i64.wrap (a1 - 1)) = ji12 := (i64_w _).trans hji12
            by_cases c13 : 0 ≤ (ji12)
            · rw [if_pos c13] at H
              have c13b0 := eq_true c13
              have c13b1 : decide (0 ≤ (ji12)) = true := decide_eq_true c13
              clear c13
              obtain ⟨ji14, hji14⟩ : ∃ j_ : Int, (shl .i64 1 (ji12)) = j_ := ⟨_, rfl⟩
              replace H : (if t169 > (ji14) then (if x5_1.length < 17592186044416 then (impl_windowed.l0 k1 (wrap64 (Int.tdiv (wrap64 (x0_1 - (wrap64 (t169 - (ji10))))) 2)) a1 (x5_1 ++ [wrap64 (t169 - (ji10))])) else (none)) else (if x5_1.length < 17592186044416 then (impl_windowed.l0 k1 (wrap64 (Int.tdiv (wrap64 (x0_1 - t169)) 2)) a1 (x5_1 ++ [t169])) else (none))) = some r := by first | (rw [hji14] at H; exact H) | (simp only [hji14] at H ⊢; exact H)
              (try rw [hji14] at A11)
              have hji14_ : (IntKind.i64.wrap (1 * 2 ^ min (ji12).toNat 64)) = ji14 := hji14
              have hji14z : (ji12) ≤ 64 → (IntKind.i64.wrap (1 * 2 ^ (ji12).toNat)) = ji14 := shl_small hji14
              have hji14u : (IntKind.i64.wrap (2 ^ min (ji12).toNat 64)) = ji14 := by have h_ := hji14_; rw [Int.one_mul] at h_; exact h_
              have hji14v : (ji12) ≤ 64 → (IntKind.i64.wrap (2 ^ (ji12).toNat)) = ji14 := fun hle_ => by have h_ := hji14z hle_; rw [Int.one_mul] at h_; exact h_
              have hji14y : (wrap64 (1 * 2 ^ min (ji12).toNat 64)) = ji14 := (i64_w _).symm.trans hji14_
              have hji14x : (ji12) ≤ 64 → (wrap64 (1 * 2 ^ (ji12).toNat)) = ji14 := fun h_ => (i64_w _).symm.trans (hji14z h_)
              by_cases c15 : t169 > (ji14)
              · rw [if_pos c15] at H
                have c15b0 : decide ((ji14) < t169) = true := decide_eq_true c15
                clear c15
                have c16b0 := eq_true (of_decide_eq_true (by first | (with_reducible assumption) | assumption) : 0 ≤ a1)
                by_cases c17 : x5_1.length < 17592186044416
                · rw [if_pos c17] at H
                  have LMc17 := Aside0.mk c17
                  clear c17
                  obtain ⟨y170, hy170⟩ : ∃ y_ : List Int, y_ = (x5_1 ++ [wrap64 (t169 - (ji10))]) := ⟨_, rfl⟩
                  replace H : (impl_windowed.l0 k1 (wrap64 (Int.tdiv (wrap64 (x0_1 - (wrap64 (t169 - (ji10))))) 2)) a1 y170) = some r := by first | (rw [hy170]; with_reducible exact H) | (have H2_ := (Option.bind_some _ _).symm.trans H; rw [hy170]; with_reducible exact H2_) | (have H2_ := (Option.bind_some _ _).symm.trans H; with_reducible exact H2_) | with_reducible exact H | (rw [hy170]; exact H) | exact H
                  have Ny170 := Aside0.mk hy170
                  clear hy170
                  have H' := Aside0.mk H
                  clear H
                  go_wp2_with (first | ((with_reducible refine gate_callee (f := 136) rfl ?_); refine goesL_ (some 18) rfl rfl Try.func136 (by kernel_rfl) rfl #[.int .i64 x0_1, .int .i64 ji10] rfl (by (try simp only [List.map_toArray, List.map_cons, List.map_nil]); first | done | (simp only [hji10]; rfl) | rfl | (simp only [List.length_drop, List.length_take]; rfl)) ?_; (with_reducible refine (impl_rest.calls x0_1 ji10 t169 _ A11.out).mono ?_); rintro e w' ⟨rfl, ⟨nd, rfl⟩⟩; refine ⟨_, rfl, ?_⟩) | ((with_reducible refine gate_builtin (b := .append) (xs := #[.tmp 31, .tmp 33]) rfl ?_); at_builtin; refine Kd.R_append (Kd.int .i64) (w0 := w) w.heap.size rfl (.tmp 31) (.tmp 33) 29 3 (.int .i64 0) 8 rfl Try.underlying29 info3 rfl (by decide) (by omega) u5 x5_1 (wrap64 (t169 - (ji10))) [.int .i64 (wrap64 (t169 - (ji10)))] (fun _ => True) (fun _ => False) rfl rfl ?aP (fun _ hk => hk.elim) ?aF ?aO ?aB ?aS ?aL ?_; (case aP => exact rfl); (case aB => exact (by repeat (first | (with_reducible first | exact HB.out | apply below_alloc | apply pw_below_drewN | apply below_drew1) | exact HB.out))); (case aF => exact (fun _ _ => trivial)); (case aO => exact (by (with_reducible repeat (first | apply Kd.R_alloc | apply Kd.R_drewN | apply Kd.R_drew)); exact HO_5.out)); (case aS => exact (below_size (by repeat (first | (with_reducible first | exact HB.out | apply below_alloc | apply pw_below_drewN | apply below_drew1) | exact HB.out)))); (case aL => have := LMc17.out; omega); intro v171 w18 ho hb hg hat; rw [← Ny170.out] at ho; have n0_ := Aside0.mk (hb); have n1_ := Aside0.mk (ho); clear HB; clear HO_5; have HB := n0_; have HO172 := n1_; clear n0_ n1_; clear ho hb hg hat))
                  go_roundg k1
                  case measure => have := HK1.out; omega
                  case rel => exact ⟨(wrap64 (Int.tdiv (wrap64 (x0_1 - (wrap64 (t169 - (ji10))))) 2)), (y170), (by first | rfl | (simp; done) | (simp only [← hji10] <;> (first | rfl | simp)) | (simp [*]; done)), H', ⟨by have := HK1.out; omega⟩, ⟨by (with_reducible repeat (first | apply Kd.R_alloc | apply Kd.R_drewN | apply Kd.R_drew)); exact HO172.out⟩, ⟨by repeat (first | (with_reducible first | exact HB.out | apply below_alloc | apply pw_below_drewN | apply below_drew1) | exact HB.out)⟩⟩
                · rw [if_neg c17] at H
                  exact absurd H (by simp)
              · rw [if_neg c15] at H
                have c15b0 : decide ((ji14) < t169) = false := decide_eq_false c15
                clear c15
                by_cases c19 : x5_1.length < 17592186044416
                · rw [if_pos c19] at H
                  have LMc19 := Aside0.mk c19
                  clear c19
                  obtain ⟨y173, hy173⟩ : ∃ y_ : List Int, y_ = (x5_1 ++ [t169]) := ⟨_, rfl⟩
                  replace H : (impl_windowed.l0 k1 (wrap64 (Int.tdiv (wrap64 (x0_1 - t169)) 2)) a1 y173) = some r := by first | (rw [hy173]; with_reducible exact H) | (have H2_ := (Option.bind_some _ _).symm.trans H; rw [hy173]; with_reducible exact H2_) | (have H2_ := (Option.bind_some _ _).symm.trans H; with_reducible exact H2_) | with_reducible exact H | (rw [hy173]; exact H) | exact H
                  have Ny173 := Aside0.mk hy173
                  clear hy173
                  have H' := Aside0.mk H
                  clear H
                  go_wp2_with (first | ((with_reducible refine gate_callee (f := 136) rfl ?_); refine goesL_ (some 18) rfl rfl Try.func136 (by kernel_rfl) rfl #[.int .i64 x0_1, .int .i64 ji10] rfl (by (try simp only [List.map_toArray, List.map_cons, List.map_nil]); first | done | (simp only [hji10]; rfl) | rfl | (simp only [List.length_drop, List.length_take]; rfl)) ?_; (with_reducible refine (impl_rest.calls x0_1 ji10 t169 _ A11.out).mono ?_); rintro e w' ⟨rfl, ⟨nd, rfl⟩⟩; refine ⟨_, rfl, ?_⟩) | ((with_reducible refine gate_builtin (b := .append) (xs := #[.tmp 31, .tmp 33]) rfl ?_); at_builtin; refine Kd.R_append (Kd.int .i64) (w0 := w) w.heap.size rfl (.tmp 31) (.tmp 33) 29 3 (.int .i64 0) 8 rfl Try.underlying29 info3 rfl (by decide) (by omega) u5 x5_1 t169 [.int .i64 t169] (fun _ => True) (fun _ => False) rfl rfl ?aP (fun _ hk => hk.elim) ?aF ?aO ?aB ?aS ?aL ?_; (case aP => exact rfl); (case aB => exact (by repeat (first | (with_reducible first | exact HB.out | apply below_alloc | apply pw_below_drewN | apply below_drew1) | exact HB.out))); (case aF => exact (fun _ _ => trivial)); (case aO => exact (by (with_reducible repeat (first | apply Kd.R_alloc | apply Kd.R_drewN | apply Kd.R_drew)); exact HO_5.out)); (case aS => exact (below_size (by repeat (first | (with_reducible first | exact HB.out | apply below_alloc | apply pw_below_drewN | apply below_drew1) | exact HB.out)))); (case aL => have := LMc19.out; omega); intro v174 w20 ho hb hg hat; rw [← Ny173.out] at ho; have n0_ := Aside0.mk (hb); have n1_ := Aside0.mk (ho); clear HB; clear HO_5; have HB := n0_; have HO175 := n1_; clear n0_ n1_; clear ho hb hg hat))
                  go_roundg k1
                  case measure => have := HK1.out; omega
                  case rel => exact ⟨(wrap64 (Int.tdiv (wrap64 (x0_1 - t169)) 2)), (y173), (by first | rfl | (simp; done) | (simp [*]; done)), H', ⟨by have := HK1.out; omega⟩, ⟨by (with_reducible repeat (first | apply Kd.R_alloc | apply Kd.R_drewN | apply Kd.R_drew)); exact HO175.out⟩, ⟨by repeat (first | (with_reducible first | exact HB.out | apply below_alloc | apply pw_below_drewN | apply below_drew1) | exact HB.out)⟩⟩
                · rw [if_neg c19] at H
                  exact absurd H (by simp)
            · rw [if_neg c13] at H
              exact absurd H (by simp)
          · rw [if_neg c9] at H
            exact absurd H (by simp)

/-! ### impl_SubtractionChain: function 76 -/
/-- The last number of a list. -/
def lastD (l : List Int) : Int := l.getD (l.length - 1) 0
/-- What one digit puts behind a chain. -/
def chStep (out : List Int) (d : Int) : List Int := if d = 0 then out ++ [wrap64 (2 * lastD out)] else (out ++ [wrap64 (2 * lastD out)]) ++ [wrap64 (wrap64 (2 * lastD out) + d)]
def chP (pre : List (Int × Int)) : List Int := pre.foldl (fun out p => chStep out p.2) [1]
def chainW (D : List Int) : List Int := (D.take (D.length - 1)).reverse.foldl chStep [1]
theorem chP_snoc (pre : List (Int × Int)) (x : Int × Int) : chP (pre ++ [x]) = chStep (chP pre) x.2 := by simp [chP]
theorem chStep_len (out : List Int) (d : Int) : out.length + 1 ≤ (chStep out d).length ∧ (chStep out d).length ≤ out.length + 2 := by
  unfold chStep
  split <;> simp <;> omega
theorem chP_len : ∀ (pre : List (Int × Int)), 1 ≤ (chP pre).length ∧ (chP pre).length ≤ 2 * pre.length + 1 := by
  have key : ∀ (pre : List (Int × Int)) (out : List Int), out.length ≤ (pre.foldl (fun out p => chStep out p.2) out).length ∧ (pre.foldl (fun out p => chStep out p.2) out).length ≤ 2 * pre.length + out.length := by
    intro pre
    induction pre with
    | nil => intro out; simp
    | cons x pre ih =>
      intro out
      have h1 := ih (chStep out x.2)
      have h2 := chStep_len out x.2
      simp only [List.foldl_cons, List.length_cons]
      omega
  intro pre
  have := key pre [1]
  exact this
theorem sc_upto (zs : List Int) : ∀ k, k ≤ zs.length → (YtlmoemahamneoaaBack.upto (YtlmoemahamneoaaBack.pairAt zs) k).map Prod.snd = (zs.drop (zs.length - k)).reverse := by
  intro k
  induction k with
  | zero => intro _; simp [YtlmoemahamneoaaBack.upto]
  | succ k ih =>
    intro hk
    rw [YtlmoemahamneoaaBack.upto_succ, List.map_append, ih (by omega)]
    have e : zs.length - k = (zs.length - (k + 1)) + 1 := by omega
    have hlt : zs.length - (k + 1) < zs.length := by omega
    rw [List.drop_eq_getElem_cons hlt, ← e, List.reverse_cons]
    congr 1
    simp only [List.map_cons, List.map_nil, YtlmoemahamneoaaBack.pairAt]
    rw [show zs.length - 1 - k = zs.length - (k + 1) by omega, List.getElem?_eq_getElem hlt]; rfl
theorem chP_all (D : List Int) : chP (YtlmoemahamneoaaBack.pairs (D.take (D.length - 1))) = chainW D := by
  have h := sc_upto (D.take (D.length - 1)) (D.take (D.length - 1)).length (Nat.le_refl _)
  rw [Nat.sub_self, List.drop_zero] at h
  unfold chP chainW
  rw [← h]
  unfold YtlmoemahamneoaaBack.pairs
  rw [List.foldl_map]
theorem sc_info : (Try.prog.info? 3).map (fun i => (i.zero, i.size, i.bytes)) = some (some (.int .i64 0), 1, 8) := by kernel_rfl
theorem sc_boxed_own {β : Type} (B : Nat) (t : TypeId) (v : Value) : Own (fun (_ : β) W => Boxed W B t v) := fun s X Y row hs hg hr => hs.kept hg (fun e => by
  obtain ⟨o, ho, hc⟩ := hr B e.symm
  rw [show X.heap[B]? = _ from hs] at ho
  cases ho
  cases hc)
attribute [local go_sem] Oper.semAt_some in
open Go.Shelf in
set_option maxRecDepth 100000 in
set_option maxHeartbeats 4000000 in
theorem subchain_in (F : Fence) (n : Nat) (h3 : F.fn 76) (h5 : F.fn 99) (h7 : F.fn 188) (g1 : F.fn 163) (g2 : F.fn 171) (g3 : F.fn 81) (hro : F.round = none) (hn : 3 ≤ n) (a0 : Int) (D : List Int) (hD : 0 < D.length) (hD2 : D.length ≤ 1000) (b : Bool) (w : World)
    (H1 : ∀ W, CallsIn F (n - 1) Try.prog 163 #[.int .i64 a0] W fun e w' => e = .returned (.bool true) ∧ Below W.heap.size W w')
    (H2 : ∀ W, CallsIn F (n - 1) Try.prog 171 #[.int .i64 a0, .int .i64 2] W fun e w' => ∃ v, e = .returned v ∧ Kd.R (Kd.int .i64) 3 w' W.heap.size (fun _ => True) v D ∧ Below W.heap.size W w')
    (H3 : ∀ W A c, Kd.C (Kd.int .i64) W A (chainW D).length (chainW D) → (chainW D).length ≤ c → CallsIn F (n - 1) Try.prog 81 #[.slice A (chainW D).length c] W fun e w' => e = .returned (.bool b) ∧ Below W.heap.size W w') :
    CallsIn F n Try.prog 76 #[.int .i64 a0] w fun e W' => ∃ v, e = .returned (.tuple #[v, .bool b]) ∧ Kd.R (Kd.int .i64) 3 W' w.heap.size (fun _ => True) v (if b then chainW D else []) ∧ Below w.heap.size w W' := by
  have h1 : 1 ≤ n := by omega
  obtain ⟨i0, hi, hz0, hz1, hz2⟩ := info_parts sc_info
  refine callsIn_of_wp_marks Try.func76 rfl h3 ?_ hro
  simp only [Try.ntmps76, List.size_toArray, List.length_cons, List.length_nil, Nat.reduceAdd, Nat.reduceSub, Array.replicate_succ, Array.replicate_zero, List.push_toArray, List.append_toArray, List.nil_append, List.cons_append]
  have HB := Go.Lib.hid (Below.refl w.heap.size w)
  have H1' := Go.Lib.hid H1
  have H2' := Go.Lib.hid H2
  have H3' := Go.Lib.hid H3
  clear H1 H2 H3
  gi_wp2_with (gi_at_call 163; refine (H1'.out _).mono ?_; rintro e w1 ⟨rfl, hb_⟩; have n_ := Go.Lib.hid (below_step HB.out hb_); clear HB hb_; have HB := n_; clear n_)
  obtain ⟨zs, hzs⟩ : ∃ zs, zs = D.take (D.length - 1) := ⟨_, rfl⟩
  have hzl : zs.length = D.length - 1 := by rw [hzs, List.length_take]; omega
  have hw1 : wrap64 ((D.length : Int) - 1) = (D.length : Int) - 1 := by unfold wrap64; omega
  have hcut := fun A c hc => cut_to (P := Try.prog) 29 3 .i64 Try.underlying29 hi A D.length c ((D.length : Int) - 1) (by omega) (by omega) hc
  rw [show ((D.length : Int) - 1).toNat = zs.length by omega] at hcut
  have HCUT := Go.Lib.hid hcut
  have HZ := Go.Lib.hid (And.intro hzs hzl)
  clear hcut hzl hzs
  gi_wp2_with (gi_at_call 171; refine (H2'.out _).mono ?_; rintro e w2 ⟨v0, rfl, hR_, hb_⟩; have n_ := Go.Lib.hid (below_step HB.out hb_); clear HB hb_; have HB := n_; clear n_; obtain ⟨A, c, rfl, hlc, hC_⟩ := Kd.R_reads hR_; have HC := Go.Lib.hid hC_; have hcut := HCUT.out A c hlc; clear hR_ hC_)
  gi_wp2_with (gi_at_call 99; refine (YtlmoemahamneoaaBack.back_in F (n - 1) h5 hro _ _ _ _).mono ?_; rintro e w' ⟨rfl, rfl⟩)
  have hzl := HZ.out.2
  have hz1000 : zs.length < 1000 := by omega
  have hCz : Kd.C (Kd.int .i64) w2 A zs.length zs := by
    have hk := Kd.C_take (m := zs.length) HC.out (by omega)
    have h := HZ.out.1
    rw [← hzl] at h
    rw [← h] at hk
    exact hk
  have hI := YtlmoemahamneoaaBack.ints_of hCz (Nat.le_refl w2.heap.size) (c := c)
  have bO := Boxed.new (w2.alloc (.cells #[.int .i64 1] 3)) 29 (.slice (some ⟨w2.heap.size, 0, none⟩) 1 1)
  rw [World.size_alloc] at bO
  have bB := blk_new ((w2.alloc (.cells #[.int .i64 1] 3)).alloc (.cells #[.slice (some ⟨w2.heap.size, 0, none⟩) 1 1] 29)) (.cells #[.slice A zs.length c] 29)
  rw [World.size_alloc, World.size_alloc] at bB
  have hB0 : Below w2.heap.size w2 (((w2.alloc (.cells #[.int .i64 1] 3)).alloc (.cells #[.slice (some ⟨w2.heap.size, 0, none⟩) 1 1] 29)).alloc (.cells #[.slice A zs.length c] 29)) := (((Below.refl _ w2).alloc (Nat.le_refl _) _).alloc (by simp) _).alloc (by simp; omega) _
  have ro : (((w2.alloc (.cells #[.int .i64 1] 3)).alloc (.cells #[.slice (some ⟨w2.heap.size, 0, none⟩) 1 1] 29)).alloc (.cells #[.slice A zs.length c] 29)).ownsRow w2.heap.size 3 1 (.slice (some ⟨w2.heap.size, 0, none⟩) 1 1) 1 [.int .i64 1] := by
    refine World.ownsRow.alloc (World.ownsRow.alloc ?_ _) _
    have := World.ownsRow_lit (base := w2.heap.size) (e := 3) (size := 1) w2 #[.int .i64 1] 1 (Nat.le_refl _) (by decide) rfl
    simpa using this
  have hreach : zs.length * 8 ≤ 140737488351232 := by omega
  clear hzl
  refine wpIn_rangeFunc_ownG hro h1 (gf := 188) (lb := #[.pointer (some ⟨w2.heap.size + 1 + 1, 0, none⟩)]) rfl h7 (enters_of Try.func188 (by kernel_rfl) rfl)
    (YtlmoemahamneoaaBack.back_stops F (n - 1) h7 hro (by omega) (w2.heap.size + 1 + 1) w2.heap.size _ zs hreach _ (by simp) (by simp; omega) bB (hI.below hB0)) YtlmoemahamneoaaBack.KeepB.trans (YtlmoemahamneoaaBack.keepB_b (by simp; omega)) (Below.refl _ _) (fun _ => rfl)
    (fun pre W => ((∃ v, Boxed W (w2.heap.size + 1) 29 v ∧ W.ownsRow w2.heap.size 3 1 v (chP pre).length ((chP pre).map (Value.int .i64)) ∧ True) ∧ Boxed W (w2.heap.size + 1 + 1) 29 (.slice A zs.length c)) ∧ Below w2.heap.size w2 W)
    (fun _ _ _ => False)
    (OwnFrom.and (OwnFrom.and (Own.from (holdsRow_own w2.heap.size (w2.heap.size + 1) 29 3 1 (fun pre => (chP pre).length) (fun pre => (chP pre).map (Value.int .i64)) (fun _ _ => True)) _) (Own.from (sc_boxed_own _ _ _) _)) (ownFrom_below (Nat.le_refl _) (by simp; omega)))
    (fun _ _ _ _ _ hs _ _ => hs)
    ⟨⟨⟨_, bO.alloc _, by simpa [chP] using ro, trivial⟩, bB⟩, hB0⟩
    (fun x => { tmps := #[.int .i64 a0, undef, .slice none 0 0, .bool false, .slice A D.length c, .pointer (some ⟨w2.heap.size + 1, 0, none⟩), undef, .int .i64 x.2, undef, .int .i64 a0, .bool true, .bool false, .int .i64 a0, .slice A D.length c, .slice (some ⟨w2.heap.size, 0, none⟩) 1 1, .slice A D.length c, .slice A D.length c, .int .i64 D.length, .int .i64 ((D.length : Int) - 1), .slice A zs.length c, .func (.func 188) #[] #[.pointer (some ⟨w2.heap.size + 1 + 1, 0, none⟩)], .int .i64 x.1, .int .i64 x.2, undef, undef, undef, undef, undef, undef, undef, undef, undef, undef, undef, undef, undef, undef, undef, undef, undef, undef, undef, undef, undef, undef, undef], defers := [] }) ?assign ?body ?done ?stop
  case assign =>
    intro l x W K hK
    gi_wp2
    exact hK
  case body =>
    rintro l pre x W ⟨⟨⟨v, hv, hrow, _⟩, hbb⟩, hB⟩ hlt
    have hlen := chP_len pre
    obtain ⟨P, hP⟩ : ∃ P, chP pre = P := ⟨_, rfl⟩
    rw [hP] at hlen hrow
    obtain ⟨q, hq⟩ : ∃ q, P.length = q + 1 := ⟨P.length - 1, by omega⟩
    obtain ⟨g, cap, rfl⟩ := ownsRow_succ (k := q) (by rw [← hq]; exact hrow)
    rw [← hq] at hv hrow
    have hpos : 0 < P.length := by omega
    have hlast : P[P.length - 1]? = some (lastD P) := by
      unfold lastD
      rw [List.getD_eq_getElem?_getD, List.getElem?_eq_getElem (by omega)]; rfl
    have hcl : W.cell? ⟨g, P.length - 1, none⟩ = some (.int .i64 (lastD P)) := by
      rw [hrow.cellAt (P.length - 1) (by omega), List.getElem?_map, hlast]; rfl
    have hfl := hrow.frozenAt (P.length - 1)
    have hP5 : P.length ≤ 5000 := by omega
    have hcb := hv.cell
    have hfb := hv.frozen
    obtain ⟨X, hX⟩ : ∃ X, wrap64 (2 * lastD P) = X := ⟨_, rfl⟩
    have hstep : chP (pre ++ [x]) = if x.2 = 0 then P ++ [X] else (P ++ [X]) ++ [wrap64 (X + x.2)] := by rw [chP_snoc, hP]; unfold chStep; rw [hX]
    have hb1 : P.length + 1 ≤ maxLen := by simp only [maxLen]; omega
    have hb2' : (P.length + 1) * 8 ≤ 140737488355328 := by omega
    have hb3 : P.length + 1 + 1 ≤ maxLen := by simp only [maxLen]; omega
    have hb4 : (P.length + 1 + 1) * 8 ≤ 140737488355328 := by omega
    have hWs := hB.size
    by_cases hd : x.2 = 0
    · have hd1 : (x.2 != 0) = false := by rw [hd]; rfl
      rw [if_pos hd] at hstep
      clear hq hlen hd
      gi_wp2_with (gi_at_builtin; refine wpListIn_append_own _ rfl (.tmp 30) (.tmp 32) 29 rfl w2.heap.size 3 i0 (.int .i64 0) 1 8 Try.underlying29 hi hz0 hz1 hz2 rfl (by decide) _ P.length (P.map (Value.int .i64)) rfl (hrow.alloc _) ⟨W.heap.size, 0, none⟩ 1 1 [.int .i64 X] rfl rfl (by intro j u hj; exact cell_one_new W _ _ j u hj) (by simp [Value.oneCell']) hb1 hb2' (Nat.le_trans hWs (by simp)) ?_; intro v' w1 hown' hgrow _; obtain ⟨g', cap', rfl⟩ := ownsRow_succ hown'; obtain ⟨hv1, hv2, hr2, hk2, hb2⟩ := Boxed.appended (tmp := .cells #[.int .i64 X] 3) hv (by decide) hrow hWs (Nat.le_succ _) hown' hgrow; have hbb2 := (((hbb.alloc _).kept hgrow (hbb.not_row (by decide) hrow)).other (B' := w2.heap.size + 1) (by omega) (.slice (some ⟨g', 0, none⟩) (P.length + 1) cap')); have hc1 := hv1.cell; have hf1 := hv1.frozen)
      exact ⟨hk2.from _, ⟨hb2, fun cs t fr e => by have e' := e.symm.trans hbb; cases e'; exact hbb2⟩, ⟨⟨⟨_, hv2, by rw [hstep, List.length_append, List.map_append]; exact hr2, trivial⟩, hbb2⟩, hB.trans hb2⟩⟩
    · have hd1 : (x.2 != 0) = true := bne_iff_ne.mpr hd
      rw [if_neg hd] at hstep
      obtain ⟨Y, hY⟩ : ∃ Y, wrap64 (X + x.2) = Y := ⟨_, rfl⟩
      rw [hY] at hstep
      clear hq hlen hd
      gi_wp2_with (first
        | (gi_at_builtin; refine wpListIn_append_own _ rfl (.tmp 30) (.tmp 32) 29 rfl w2.heap.size 3 i0 (.int .i64 0) 1 8 Try.underlying29 hi hz0 hz1 hz2 rfl (by decide) _ P.length (P.map (Value.int .i64)) rfl (hrow.alloc _) ⟨W.heap.size, 0, none⟩ 1 1 [.int .i64 X] rfl rfl (by intro j u hj; exact cell_one_new W _ _ j u hj) (by simp [Value.oneCell']) hb1 hb2' (Nat.le_trans hWs (by simp)) ?_; intro v' w1 hown' hgrow _; obtain ⟨g', cap', rfl⟩ := ownsRow_succ hown'; obtain ⟨hv1, hv2, hr2, hk2, hb2⟩ := Boxed.appended (tmp := .cells #[.int .i64 X] 3) hv (by decide) hrow hWs (Nat.le_succ _) hown' hgrow; have hbb2 := (((hbb.alloc _).kept hgrow (hbb.not_row (by decide) hrow)).other (B' := w2.heap.size + 1) (by omega) (.slice (some ⟨g', 0, none⟩) (P.length + 1) cap')); have hc1 := hv1.cell; have hf1 := hv1.frozen)
        | (gi_at_builtin; refine wpListIn_append_own _ rfl (.tmp 36) (.tmp 40) 29 rfl w2.heap.size 3 i0 (.int .i64 0) 1 8 Try.underlying29 hi hz0 hz1 hz2 rfl (by decide) _ (P.length + 1) (P.map (Value.int .i64) ++ [.int .i64 X]) rfl (hr2.alloc _) ⟨_, 0, none⟩ 1 1 [.int .i64 Y] rfl rfl (by intro j u hj; have hn_ := cell_one_new (w1.setCell ⟨w2.heap.size + 1, 0, none⟩ (.slice (some ⟨g', 0, none⟩) (P.length + 1) cap')) (.int .i64 Y) 3 j u hj; rw [World.size_setCell] at hn_; exact hn_) (by simp [Value.oneCell']) hb3 hb4 (Nat.le_trans hWs (by have := hb2.size; simp at this ⊢; omega)) ?_; intro v3 w3 hown3 hgrow3 _; obtain ⟨g3, cap3, rfl⟩ := ownsRow_succ hown3; obtain ⟨hv3, hv4, hr4, hk4, hb4_⟩ := Boxed.appended (tmp := .cells #[.int .i64 Y] 3) hv2 (by decide) hr2 (Nat.le_trans hWs hb2.size) (Nat.le_succ _) hown3 hgrow3; have hbb4 := (((hbb2.alloc _).kept hgrow3 (hbb2.not_row (by decide) hr2)).other (B' := w2.heap.size + 1) (by omega) (.slice (some ⟨g3, 0, none⟩) (P.length + 1 + 1) cap3)); have hc3 := hv3.cell; have hf3 := hv3.frozen))
      exact ⟨(hk2.trans hk4).from _, ⟨hb2.trans hb4_, fun cs t fr e => by have e' := e.symm.trans hbb; cases e'; exact hbb4⟩, ⟨⟨⟨_, hv4, by rw [hstep, List.length_append, List.length_append, List.map_append, List.map_append]; exact hr4, trivial⟩, hbb4⟩, hB.trans (hb2.trans hb4_)⟩⟩
  case done =>
    rintro E ys W hE rfl ⟨⟨⟨v, hv, hrow, _⟩, _⟩, hB⟩ hK
    have hall : chP (YtlmoemahamneoaaBack.pairs zs) = chainW D := by rw [HZ.out.1]; exact chP_all D
    rw [hall] at hrow
    have hR : Kd.R (Kd.int .i64) 3 W w2.heap.size (fun _ => True) v (chainW D) := Kd.R_of_own hrow (fun _ _ => trivial)
    obtain ⟨A2, c2, rfl, hl2, hC2⟩ := Kd.R_reads hR
    have HC2 := Go.Lib.hid (H3'.out W A2 c2 hC2 hl2)
    have HRW := Go.Lib.hid hrow
    have HBW := Go.Lib.hid (below_step HB.out hB)
    have HV := Go.Lib.hid hv
    have hc := hv.cell
    clear hR hC2 hrow hall hB hv
    cases b
    · gi_wp2_with (gi_at_call 81; refine HC2.out.mono ?_; rintro e w3 ⟨rfl, hb_⟩; have hc3 := (hb_.cell (p := ⟨w2.heap.size + 1, 0, none⟩) HV.out.lt).trans hc; have HB3 := Go.Lib.hid hb_; clear hb_)
      have hK3 := (HB3.out.block E (blk_lt hK)).trans hK
      have hE2 : w.heap.size ≤ E := by have := HB.out.size; simp at hE; omega
      refine ⟨by simp, .inl ⟨_, _, rfl, run_takeDeferred hK3, ?_⟩⟩
      exact ⟨_, results_tmp2 rfl _ _ _, _, rfl, Kd.R_nil _ _ _ _ _, (below_step HBW.out HB3.out).trans (belowK_b (w := w) (Nat.le_refl _) w3 E _ _ hE2 hK3 rfl rfl)⟩
    · gi_wp2_with (gi_at_call 81; refine HC2.out.mono ?_; rintro e w3 ⟨rfl, hb_⟩; have hc3 := (hb_.cell (p := ⟨w2.heap.size + 1, 0, none⟩) HV.out.lt).trans hc; have HB3 := Go.Lib.hid hb_; clear hb_)
      have hK3 := (HB3.out.block E (blk_lt hK)).trans hK
      have hE2 : w.heap.size ≤ E := by have := HB.out.size; simp at hE; omega
      refine ⟨by simp, .inl ⟨_, _, rfl, run_takeDeferred hK3, ?_⟩⟩
      exact ⟨_, results_tmp2 rfl _ _ _, _, rfl, Kd.R_of_own (own_weaken (ownsRow_putObj (pw_own_below HRW.out HB3.out) (.deferred none) hK3 rfl) HB.out.size) (fun _ _ => trivial), (below_step HBW.out HB3.out).trans (belowK_b (w := w) (Nat.le_refl _) w3 E _ _ hE2 hK3 rfl rfl)⟩
  case stop =>
    rintro D c pre W _ _ h _
    exact h.elim
theorem sc_number (n : Int) : impl_isNumber.f n = some (decide (1 ≤ n) && decide (n ≤ 1000000)) := by
  simp only [impl_isNumber.f, impl_in.f]
  by_cases h : n ≥ 1
  · simp [h, show 1 ≤ n from h]
  · simp [h, show ¬ 1 ≤ n from h]
theorem sc_drawn {w w1 : World} (hd : Drawn0 w w1) : Below w.heap.size w w1 := by
  obtain ⟨q, rfl⟩ := YtlmoemahamneoaaHand.of_drawn hd
  exact ⟨rfl, rfl, rfl, Nat.le_refl _, fun _ _ => rfl⟩
set_option maxRecDepth 100000 in
set_option maxHeartbeats 2000000 in
theorem subchain_none (a0 : Int) (w : World) (h : impl_isNumber.f a0 = some false) : Calls Try.prog 76 #[.int .i64 a0] w fun e w' => ∃ v0_ : Value, e = .returned (.tuple #[v0_, .bool false]) ∧ Kd.R (Kd.int .i64) 3 w' w.heap.size (fun _ => True) v0_ [] ∧ Below w.heap.size w w' := by
  have W1 := Go.Lib.hid h
  clear h
  go_enter Try.func76, Try.ntmps76
  go_wp2_with (go_at_call 163; refine (impl_isNumber.calls _ _ _ W1.out).mono ?_; rintro e w1 ⟨rfl, hd_⟩; have HB := Go.Lib.hid (sc_drawn hd_); clear hd_)
  go_ret2
  exact ⟨_, rfl, Kd.R_nil _ _ _ _ _, HB.out⟩
def impl_SubtractionChain.f (k : Nat) (a0 : Int) : Option (List Int × Bool) := if 1 ≤ a0 ∧ a0 ≤ 1000000 then (impl_windowed.f k a0 2).bind fun D => (if 0 < D.length ∧ D.length ≤ 1000 then (impl_IsSubtractionChain.f k (chainW D)).bind fun b => some (if b = true then chainW D else [], b) else none) else some ([], false)
theorem impl_SubtractionChain.calls (k : Nat) (a0 : Int) (r1 : List Int) (r2 : Bool) (w : World) (h : impl_SubtractionChain.f k a0 = some (r1, r2)) :
    Calls Try.prog 76 #[.int .i64 a0] w fun e w' => ∃ v0_ : Value, e = .returned (.tuple #[v0_, .bool r2]) ∧ Kd.R (Kd.int .i64) 3 w' w.heap.size (fun _ => True) v0_ r1 ∧ Below w.heap.size w w' := by
  unfold impl_SubtractionChain.f at h
  have hn := sc_number a0
  by_cases h1 : 1 ≤ a0 ∧ a0 ≤ 1000000
  · rw [if_pos h1] at h
    rw [decide_eq_true h1.1, decide_eq_true h1.2] at hn
    obtain ⟨D, hD, h⟩ := Option.bind_eq_some_iff.mp h
    by_cases h2 : 0 < D.length ∧ D.length ≤ 1000
    · rw [if_pos h2] at h
      obtain ⟨b, hb, h⟩ := Option.bind_eq_some_iff.mp h
      obtain ⟨e1, rfl⟩ := Prod.mk.inj (Option.some.inj h)
      have := subchain_in Fence.wide 5 trivial trivial trivial trivial trivial trivial rfl (by omega) a0 D h2.1 h2.2 b w
        (fun W => callsIn_wide.2 ((impl_isNumber.calls a0 true W hn).mono fun e w' ⟨he, hd⟩ => ⟨he, sc_drawn hd⟩))
        (fun W => callsIn_wide.2 (impl_windowed.calls k a0 2 D W hD))
        (fun W A c hC hc => callsIn_wide.2 (impl_IsSubtractionChain.calls k A c (chainW D) b W hC hc hb))
      refine (callsIn_wide.1 this).mono fun e w' ⟨v, he, hR, hB⟩ => ⟨v, he, ?_, hB⟩
      rw [← e1]
      exact hR
    · rw [if_neg h2] at h; cases h
  · rw [if_neg h1] at h
    obtain ⟨rfl, rfl⟩ := Prod.mk.inj (Option.some.inj h)
    refine subchain_none a0 w ?_
    rw [hn]
    congr 1
    rw [Bool.and_eq_false_iff, decide_eq_false_iff_not, decide_eq_false_iff_not]
    omega
theorem impl_SubtractionChain.mono : ∀ (a0 : Int) (k : Nat), LeO (impl_SubtractionChain.f k a0) (impl_SubtractionChain.f (k + 1) a0) := by
  intro a0 k
  unfold impl_SubtractionChain.f
  repeat' first
    | (with_reducible exact impl_windowed.mono _ _ _)
    | (with_reducible exact impl_IsSubtractionChain.mono _ _)
    | (with_reducible exact LeO.refl _)
    | (with_reducible refine LeO.ite ?_ ?_)
    | (with_reducible refine LeO.bind ?_ (fun _ => ?_))

/-! ### spec_l1In: function 93 -/
def spec_l1In.f (a0 : Int) (a1 : Int) (a2 : Int) : Option (Bool) := if a0 ≥ a1 then (some (decide (a0 ≤ a2))) else (some false)
set_option maxHeartbeats 8000000 in
set_option maxRecDepth 100000 in
theorem spec_l1In.calls (a0 : Int) (a1 : Int) (a2 : Int) (r : Bool) (w : World) (h : spec_l1In.f a0 a1 a2 = some r) :
    Calls Try.prog 93 #[.int .i64 a0, .int .i64 a1, .int .i64 a2] w fun e w' => e = .returned (.bool r) ∧ Drawn0 w w' := by
  have H : (if a0 ≥ a1 then (some (decide (a0 ≤ a2))) else (some false)) = some r := h
  clear h
  by_cases c4 : a0 ≥ a1
  · rw [if_pos c4] at H
    have c4b0 : decide (a1 ≤ a0) = true := decide_eq_true c4
    clear c4
    obtain rfl := Option.some.inj H
    go_enter Try.func93, Try.ntmps93
    go_wp2
    go_ret
    exact ⟨by first | rfl | (simp; done) | (simp [*]; done), by repeat (first | exact Drawn0.refl _ | apply Drawn0.step)⟩
  · rw [if_neg c4] at H
    have c4b0 : decide (a1 ≤ a0) = false := decide_eq_false c4
    clear c4
    obtain rfl := Option.some.inj H
    go_enter Try.func93, Try.ntmps93
    go_wp2
    go_ret
    exact ⟨by first | rfl | (simp; done) | (simp [*]; done), by repeat (first | exact Drawn0.refl _ | apply Drawn0.step)⟩

/-! ### spec_l1All: function 156 -/
def spec_l1All.l0 : Nat → Int → Int → List Int → Int → Int → Option (Bool)
  | 0, _, _, _, _, _ => none
  | k + 1, x1, x2, x9, x10, x11 => if x11 < x10 then (if 0 ≤ x11 then (if x11 < (x9.length : Int) then ((spec_l1In.f (rd x9 x11) x1 x2).bind fun t177 => (if t177 = true then (spec_l1All.l0 k x1 x2 x9 x10 (wrap64 (x11 + 1))) else (some false))) else (none)) else (none)) else (some true)
def spec_l1All.f (k : Nat) (l0 : List Int) (a1 : Int) (a2 : Int) : Option (Bool) := spec_l1All.l0 k a1 a2 l0 (l0.length : Int) 0
theorem spec_l1All.mono_l : ∀ k, (∀ y0 y1 y2 y3 y4, LeO (spec_l1All.l0 k y0 y1 y2 y3 y4) (spec_l1All.l0 (k + 1) y0 y1 y2 y3 y4))
  | 0 => fun _ _ _ _ _ r h => by simp [spec_l1All.l0] at h
  | k + 1 => by
    have ih0 := spec_l1All.mono_l k
    · intro y0 y1 y2 y3 y4
      unfold spec_l1All.l0
      repeat' first
      | (with_reducible exact ih0 _ _ _ _ _)
      | (with_reducible exact LeO.refl _)
      | (with_reducible exact LeO.none _)
      | (with_reducible refine LeO.ite ?_ ?_)
      | (with_reducible refine LeO.bind ?_ (fun _ => ?_))
      | exact ih0 _ _ _ _ _
      | exact LeO.none _
      | refine LeO.ite ?_ ?_
      | refine LeO.bind ?_ (fun _ => ?_)
theorem spec_l1All.mono : ∀ a0 a1 a2 k, LeO (spec_l1All.f k a0 a1 a2) (spec_l1All.f (k + 1) a0 a1 a2) := by
  intro a0 a1 a2 k
  have ih0 := spec_l1All.mono_l k
  unfold spec_l1All.f
  repeat' first
      | (with_reducible exact ih0 _ _ _ _ _)
      | (with_reducible exact LeO.refl _)
      | (with_reducible exact LeO.none _)
      | (with_reducible refine LeO.ite ?_ ?_)
      | (with_reducible refine LeO.bind ?_ (fun _ => ?_))
      | exact ih0 _ _ _ _ _
      | exact LeO.none _
      | refine LeO.ite ?_ ?_
      | refine LeO.bind ?_ (fun _ => ?_)
set_option maxHeartbeats 8000000 in
set_option maxRecDepth 100000 in
theorem spec_l1All.calls (k : Nat) (A0 : Option Addr) (c0 : Nat) (l0 : List Int) (a1 : Int) (a2 : Int) (r : Bool) (w : World) (hr0 : Kd.C (Kd.int .i64) w A0 l0.length l0) (hc0 : l0.length ≤ c0) (h : spec_l1All.f k l0 a1 a2 = some r) :
    Calls Try.prog 156 #[.slice A0 l0.length c0, .int .i64 a1, .int .i64 a2] w fun e w' => e = .returned (.bool r) ∧ Drawn0 w w' := by
  have HR0 := Aside0.mk hr0
  have HC0 := Aside0.mk hc0
  clear hr0 hc0
  have H : (spec_l1All.l0 k a1 a2 l0 (l0.length : Int) 0) = some r := h
  clear h
  have H' := Aside0.mk H
  clear H
  go_enter Try.func156, Try.ntmps156
  go_wp2
  go_loopg [11] k (fun kq v11 w' => ∃ (x11_1 : Int), v11 = .int .i64 x11_1 ∧ Aside0 (spec_l1All.l0 kq a1 a2 l0 (l0.length : Int) x11_1 = some r) ∧ Aside0 (kq ≤ k) ∧ Drawn0 w w')
  case atStart => exact ⟨(0), (by first | rfl | (simp; done) | (simp [*]; done)), H', ⟨Nat.le_refl _⟩, by repeat (first | exact Drawn0.refl _ | apply Drawn0.step)⟩
  case round =>
    clear H'
    try clear c1
    try clear p2
    obtain ⟨x11_1, rfl, HA, HK1, ⟨m1, rfl⟩⟩ := hrel
    cases gk with
    | zero => exact absurd HA.out (by simp [spec_l1All.l0])
    | succ k1 =>
      have H := HA.out
      clear HA
      simp only [spec_l1All.l0] at H
      by_cases c4 : x11_1 < (l0.length : Int)
      · rw [if_pos c4] at H
        have c4b0 : decide (x11_1 < (l0.length : Int)) = true := decide_eq_true c4
        clear c4
        by_cases c5 : 0 ≤ x11_1
        · rw [if_pos c5] at H
          have c5b0 : decide (0 ≤ x11_1) = true := decide_eq_true c5
          clear c5
          by_cases c6 : x11_1 < (l0.length : Int)
          · rw [if_pos c6] at H
            have c6b0 : decide (x11_1 < (l0.length : Int)) = true := decide_eq_true c6
            clear c6
            replace H := Option.bind_eq_some_iff.mp H
            obtain ⟨t177, A70, H⟩ := H
            replace H : (if t177 = true then (spec_l1All.l0 k1 a1 a2 l0 (l0.length : Int) (wrap64 (x11_1 + 1))) else (some false)) = some r := H
            have A7 := Aside0.mk A70
            clear A70
            by_cases c8 : t177 = true
            · subst c8
              have H1 : (spec_l1All.l0 k1 a1 a2 l0 (l0.length : Int) (wrap64 (x11_1 + 1))) = some r := by rw [if_pos rfl] at H; exact H
              clear H
              have H := H1
              clear H1
              have H' := Aside0.mk H
              clear H
              have p176 : 0 ≤ (x11_1 : Int) := of_decide_eq_true (by first | (with_reducible assumption) | assumption)
              have q176 : x11_1 < (l0.length : Int) := of_decide_eq_true (by first | (with_reducible assumption) | assumption)
              obtain ⟨ad176, e176, hx176_0⟩ := Kd.at_int HR0.out x11_1 p176 q176
              cases e176
              replace p176 := eq_true p176
              replace q176 := eq_true q176
              go_wp2_with (first | ((with_reducible refine gate_callee (f := 93) rfl ?_); refine goesL_ (some 18) rfl rfl Try.func93 (by kernel_rfl) rfl #[.int .i64 (rd l0 x11_1), .int .i64 a1, .int .i64 a2] rfl (by (try simp only [List.map_toArray, List.map_cons, List.map_nil]); first | done | rfl | (simp only [List.length_drop, List.length_take]; rfl)) ?_; (with_reducible refine (spec_l1In.calls (rd l0 x11_1) a1 a2 true _ A7.out).mono ?_); rintro e w' ⟨rfl, ⟨nd, rfl⟩⟩; refine ⟨_, rfl, ?_⟩))
              go_roundg k1
              case measure => have := HK1.out; omega
              case rel => exact ⟨(wrap64 (x11_1 + 1)), (by first | rfl | (simp; done) | (simp [*]; done)), H', ⟨by have := HK1.out; omega⟩, by repeat (first | exact Drawn0.refl _ | apply Drawn0.step)⟩
            · replace c8 := Bool.eq_false_iff.mpr c8
              subst c8
              have H1 : (some false) = some r := by rw [if_neg (show ¬ (false = true) by decide)] at H; exact H
              clear H
              have H := H1
              clear H1
              obtain rfl := Option.some.inj H
              have p176 : 0 ≤ (x11_1 : Int) := of_decide_eq_true (by first | (with_reducible assumption) | assumption)
              have q176 : x11_1 < (l0.length : Int) := of_decide_eq_true (by first | (with_reducible assumption) | assumption)
              obtain ⟨ad176, e176, hx176_0⟩ := Kd.at_int HR0.out x11_1 p176 q176
              cases e176
              replace p176 := eq_true p176
              replace q176 := eq_true q176
              go_wp2_with (first | ((with_reducible refine gate_callee (f := 93) rfl ?_); refine goesL_ (some 18) rfl rfl Try.func93 (by kernel_rfl) rfl #[.int .i64 (rd l0 x11_1), .int .i64 a1, .int .i64 a2] rfl (by (try simp only [List.map_toArray, List.map_cons, List.map_nil]); first | done | rfl | (simp only [List.length_drop, List.length_take]; rfl)) ?_; (with_reducible refine (spec_l1In.calls (rd l0 x11_1) a1 a2 false _ A7.out).mono ?_); rintro e w' ⟨rfl, ⟨nd, rfl⟩⟩; refine ⟨_, rfl, ?_⟩))
              go_ret
              exact ⟨by first | rfl | (simp; done) | (simp [*]; done), by repeat (first | exact Drawn0.refl _ | apply Drawn0.step)⟩
          · rw [if_neg c6] at H
            exact absurd H (by simp)
        · rw [if_neg c5] at H
          exact absurd H (by simp)
      · rw [if_neg c4] at H
        have c4b0 : decide (x11_1 < (l0.length : Int)) = false := decide_eq_false c4
        clear c4
        obtain rfl := Option.some.inj H
        go_wp2
        go_ret
        exact ⟨by first | rfl | (simp; done) | (simp [*]; done), by repeat (first | exact Drawn0.refl _ | apply Drawn0.step)⟩

/-! ### spec_siOdd: function 243 -/
def spec_siOdd.f (a0 : Int) : Option (Bool) := some ((Int.tmod a0 2) != 0)
set_option maxHeartbeats 8000000 in
set_option maxRecDepth 100000 in
theorem spec_siOdd.calls (a0 : Int) (r : Bool) (w : World) (h : spec_siOdd.f a0 = some r) :
    Calls Try.prog 243 #[.int .i64 a0] w fun e w' => e = .returned (.bool r) ∧ Drawn0 w w' := by
  have H : (some ((Int.tmod a0 2) != 0)) = some r := h
  clear h
  obtain rfl := Option.some.inj H
  go_enter Try.func243, Try.ntmps243
  go_wp2
  go_ret
  exact ⟨by first | rfl | (simp; done) | (simp [*]; done), by repeat (first | exact Drawn0.refl _ | apply Drawn0.step)⟩

/-! ### spec_siWindow: function 226 -/
def spec_siWindow.l0 : Nat → Int → List Int → Int → Option (List Int)
  | 0, _, _, _ => none
  | k + 1, x0, x5, x6 => if x0 = 0 then (some x5) else ((spec_siOdd.f x0).bind fun t178 => (if t178 = true then (if x6 = 0 then (none) else (if (Int.tmod (wrap64 ((Int.tmod x0 x6) + x6)) x6) > (wrap64 (Int.tdiv x6 2)) then (if x5.length < 17592186044416 then (spec_siWindow.l0 k (wrap64 (Int.tdiv (wrap64 (x0 - (wrap64 ((Int.tmod (wrap64 ((Int.tmod x0 x6) + x6)) x6) - x6)))) 2)) (x5 ++ [wrap64 ((Int.tmod (wrap64 ((Int.tmod x0 x6) + x6)) x6) - x6)]) x6) else (none)) else (if x5.length < 17592186044416 then (spec_siWindow.l0 k (wrap64 (Int.tdiv (wrap64 (x0 - (Int.tmod (wrap64 ((Int.tmod x0 x6) + x6)) x6))) 2)) (x5 ++ [Int.tmod (wrap64 ((Int.tmod x0 x6) + x6)) x6]) x6) else (none)))) else (if x5.length < 17592186044416 then (spec_siWindow.l0 k (wrap64 (Int.tdiv (wrap64 (x0 - 0)) 2)) (x5 ++ [0]) x6) else (none))))
def spec_siWindow.f (k : Nat) (a0 : Int) (a1 : Int) : Option (List Int) := if 0 ≤ a1 then (spec_siWindow.l0 k a0 ([] : List Int) (shl .i64 1 a1)) else (none)
theorem spec_siWindow.mono_l : ∀ k, (∀ y0 y1 y2, LeO (spec_siWindow.l0 k y0 y1 y2) (spec_siWindow.l0 (k + 1) y0 y1 y2))
  | 0 => fun _ _ _ r h => by simp [spec_siWindow.l0] at h
  | k + 1 => by
    have ih0 := spec_siWindow.mono_l k
    · intro y0 y1 y2
      unfold spec_siWindow.l0
      repeat' first
      | (with_reducible exact ih0 _ _ _)
      | (with_reducible exact LeO.refl _)
      | (with_reducible exact LeO.none _)
      | (with_reducible refine LeO.ite ?_ ?_)
      | (with_reducible refine LeO.bind ?_ (fun _ => ?_))
      | exact ih0 _ _ _
      | exact LeO.none _
      | refine LeO.ite ?_ ?_
      | refine LeO.bind ?_ (fun _ => ?_)
theorem spec_siWindow.mono : ∀ a0 a1 k, LeO (spec_siWindow.f k a0 a1) (spec_siWindow.f (k + 1) a0 a1) := by
  intro a0 a1 k
  have ih0 := spec_siWindow.mono_l k
  unfold spec_siWindow.f
  repeat' first
      | (with_reducible exact ih0 _ _ _)
      | (with_reducible exact LeO.refl _)
      | (with_reducible exact LeO.none _)
      | (with_reducible refine LeO.ite ?_ ?_)
      | (with_reducible refine LeO.bind ?_ (fun _ => ?_))
      | exact ih0 _ _ _
      | exact LeO.none _
      | refine LeO.ite ?_ ?_
      | refine LeO.bind ?_ (fun _ => ?_)
set_option maxHeartbeats 8000000 in
set_option maxRecDepth 100000 in
theorem spec_siWindow.calls (k : Nat) (a0 : Int) (a1 : Int) (r : List Int) (w : World) (h : spec_siWindow.f k a0 a1 = some r) :
    Calls Try.prog 226 #[.int .i64 a0, .int .i64 a1] w fun e w' => ∃ v0_ : Value, e = .returned (v0_) ∧ Kd.R (Kd.int .i64) 3 w' w.heap.size (fun _ => True) v0_ r ∧ Below w.heap.size w w' := by
  have HB := Aside0.mk (Below.refl w.heap.size w)
  have H : (if 0 ≤ a1 then (spec_siWindow.l0 k a0 ([] : List Int) (shl .i64 1 a1)) else (none)) = some r := h
  clear h
  by_cases c3 : 0 ≤ a1
  · rw [if_pos c3] at H
    have c3b0 := eq_true c3
    have c3b1 : decide (0 ≤ a1) = true := decide_eq_true c3
    clear c3
    obtain ⟨ji4, hji4⟩ : ∃ j_ : Int, (shl .i64 1 a1) = j_ := ⟨_, rfl⟩
    replace H : (spec_siWindow.l0 k a0 ([] : List Int) ji4) = some r := by first | (rw [hji4] at H; exact H) | (simp only [hji4] at H ⊢; exact H)
    have hji4_ : (IntKind.i64.wrap (1 * 2 ^ min a1.toNat 64)) = ji4 := hji4
    have hji4z : a1 ≤ 64 → (IntKind.i64.wrap (1 * 2 ^ a1.toNat)) = ji4 := shl_small hji4
    have hji4u : (IntKind.i64.wrap (2 ^ min a1.toNat 64)) = ji4 := by have h_ := hji4_; rw [Int.one_mul] at h_; exact h_
    have hji4v : a1 ≤ 64 → (IntKind.i64.wrap (2 ^ a1.toNat)) = ji4 := fun hle_ => by have h_ := hji4z hle_; rw [Int.one_mul] at h_; exact h_
    have hji4y : (wrap64 (1 * 2 ^ min a1.toNat 64)) = ji4 := (i64_w _).symm.trans hji4_
    have hji4x : a1 ≤ 64 → (wrap64 (1 * 2 ^ a1.toNat)) = ji4 := fun h_ => (i64_w _).symm.trans (hji4z h_)
    have H' := Aside0.mk H
    clear H
    go_enter Try.func226, Try.ntmps226
    go_wp2
    go_loopg [0, 5] k (fun kq v0 v5 w' => ∃ (x0_1 : Int) (x5_1 : List Int), v0 = .int .i64 x0_1 ∧ Aside0 (spec_siWindow.l0 kq x0_1 x5_1 ji4 = some r) ∧ Aside0 (kq ≤ k) ∧ Aside0 (Kd.R (Kd.int .i64) 3 w' w.heap.size (fun _ => True) v5 x5_1) ∧ Aside0 (Below w.heap.size w w'))
    case atStart => exact ⟨(a0), (([] : List Int)), (by first | rfl | (simp; done) | (simp [*]; done)), H', ⟨Nat.le_refl _⟩, ⟨by first | exact Kd.R_nil _ _ _ _ _ | exact Kd.N_nil _ _ _ _ _ | exact Kd.V_nil _ _ _ _ _ | exact Kd.Q_nil _ _ _ _ _ | exact Kd.S_nil _ _ _ _ _⟩, ⟨by repeat (first | (with_reducible first | exact HB.out | apply below_alloc | apply pw_below_drewN | apply below_drew1) | exact HB.out)⟩⟩
    case round =>
      clear H'
      try clear c2
      try clear p2
      try clear c3
      try clear c3b0
      try clear c3b1
      obtain ⟨x0_1, x5_1, rfl, HA, HK1, HO_5, HB⟩ := hrel
      cases gk with
      | zero => exact absurd HA.out (by simp [spec_siWindow.l0])
      | succ k1 =>
        have H := HA.out
        clear HA
        simp only [spec_siWindow.l0] at H
        by_cases c5 : x0_1 = 0
        · rw [if_pos c5] at H
          have c5b0 : (x0_1 == 0) = true := beq_iff_eq.mpr c5
          have c5b1 : (x0_1 != 0) = false := bne_eq_false_iff_eq.mpr c5
          clear c5
          obtain rfl := Option.some.inj H
          go_wp2
          go_ret
          exact ⟨_, by first | rfl | (simp [errW_none, errW_some] <;> rfl) | (simp only [← hji4]; first | rfl | (simp [errW_none, errW_some] <;> rfl)) | (simp [*, errW_none, errW_some] <;> rfl), by (with_reducible repeat (first | apply Kd.R_alloc | apply Kd.R_drewN | apply Kd.R_drew)); exact HO_5.out, by repeat (first | (with_reducible first | exact HB.out | apply below_alloc | apply pw_below_drewN | apply below_drew1) | exact HB.out)⟩
        · rw [if_neg c5] at H
          have c5b0 : (x0_1 == 0) = false := beq_eq_false_iff_ne.mpr c5
          have c5b1 : (x0_1 != 0) = true := bne_iff_ne.mpr c5
          replace H := Option.bind_eq_some_iff.mp H
          obtain ⟨t178, A60, H⟩ := H
          replace H : (if t178 = true then (if ji4 = 0 then (none) else (if (Int.tmod (wrap64 ((Int.tmod x0_1 ji4) + ji4)) ji4) > (wrap64 (Int.tdiv ji4 2)) then (if x5_1.length < 17592186044416 then (spec_siWindow.l0 k1 (wrap64 (Int.tdiv (wrap64 (x0_1 - (wrap64 ((Int.tmod (wrap64 ((Int.tmod x0_1 ji4) + ji4)) ji4) - ji4)))) 2)) (x5_1 ++ [wrap64 ((Int.tmod (wrap64 ((Int.tmod x0_1 ji4) + ji4)) ji4) - ji4)]) ji4) else (none)) else (if x5_1.length < 17592186044416 then (spec_siWindow.l0 k1 (wrap64 (Int.tdiv (wrap64 (x0_1 - (Int.tmod (wrap64 ((Int.tmod x0_1 ji4) + ji4)) ji4))) 2)) (x5_1 ++ [Int.tmod (wrap64 ((Int.tmod x0_1 ji4) + ji4)) ji4]) ji4) else (none)))) else (if x5_1.length < 17592186044416 then (spec_siWindow.l0 k1 (wrap64 (Int.tdiv (wrap64 (x0_1 - 0)) 2)) (x5_1 ++ [0]) ji4) else (none))) = some r := H
          have A6 := Aside0.mk A60
          clear A60
          by_cases c7 : t178 = true
          · subst c7
            have H1 : (if ji4 = 0 then (none) else (if (Int.tmod (wrap64 ((Int.tmod x0_1 ji4) + ji4)) ji4) > (wrap64 (Int.tdiv ji4 2)) then (if x5_1.length < 17592186044416 then (spec_siWindow.l0 k1 (wrap64 (Int.tdiv (wrap64 (x0_1 - (wrap64 ((Int.tmod (wrap64 ((Int.tmod x0_1 ji4) + ji4)) ji4) - ji4)))) 2)) (x5_1 ++ [wrap64 ((Int.tmod (wrap64 ((Int.tmod x0_1 ji4) + ji4)) ji4) - ji4)]) ji4) else (none)) else (if x5_1.length < 17592186044416 then (spec_siWindow.l0 k1 (wrap64 (Int.tdiv (wrap64 (x0_1 - (Int.tmod (wrap64 ((Int.tmod x0_1 ji4) + ji4)) ji4))) 2)) (x5_1 ++ [Int.tmod (wrap64 ((Int.tmod x0_1 ji4) + ji4)) ji4]) ji4) else (none)))) = some r := by rw [if_pos rfl] at H; exact H
            clear H
            have H := H1
            clear H1
            by_cases c8 : ji4 = 0
            · rw [if_pos c8] at H
              exact absurd H (by simp)
            · rw [if_neg c8] at H
              have c8b0 : (ji4 == 0) = false := beq_eq_false_iff_ne.mpr c8
              have c8b1 : (ji4 != 0) = true := bne_iff_ne.mpr c8
              by_cases c9 : (Int.tmod (wrap64 ((Int.tmod x0_1 ji4) + ji4)) ji4) > (wrap64 (Int.tdiv ji4 2))
              · rw [if_pos c9] at H
                have c9b0 : decide ((wrap64 (Int.tdiv ji4 2)) < (Int.tmod (wrap64 ((Int.tmod x0_1 ji4) + ji4)) ji4)) = true := decide_eq_true c9
                clear c9
                by_cases c10 : x5_1.length < 17592186044416
                · rw [if_pos c10] at H
                  have LMc10 := Aside0.mk c10
                  clear c10
                  obtain ⟨y179, hy179⟩ : ∃ y_ : List Int, y_ = (x5_1 ++ [wrap64 ((Int.tmod (wrap64 ((Int.tmod x0_1 ji4) + ji4)) ji4) - ji4)]) := ⟨_, rfl⟩
                  replace H : (spec_siWindow.l0 k1 (wrap64 (Int.tdiv (wrap64 (x0_1 - (wrap64 ((Int.tmod (wrap64 ((Int.tmod x0_1 ji4) + ji4)) ji4) - ji4)))) 2)) y179 ji4) = some r := by first | (rw [hy179]; with_reducible exact H) | (have H2_ := (Option.bind_some _ _).symm.trans H; rw [hy179]; with_reducible exact H2_) | (have H2_ := (Option.bind_some _ _).symm.trans H; with_reducible exact H2_) | with_reducible exact H | (rw [hy179]; exact H) | exact H
                  have Ny179 := Aside0.mk hy179
                  clear hy179
                  have H' := Aside0.mk H
                  clear H
                  go_wp2_with (first | ((with_reducible refine gate_callee (f := 243) rfl ?_); refine goesL_ (some 13) rfl rfl Try.func243 (by kernel_rfl) rfl #[.int .i64 x0_1] rfl (by (try simp only [List.map_toArray, List.map_cons, List.map_nil]); first | done | rfl | (simp only [List.length_drop, List.length_take]; rfl)) ?_; (with_reducible refine (spec_siOdd.calls x0_1 true _ A6.out).mono ?_); rintro e w' ⟨rfl, ⟨nd, rfl⟩⟩; refine ⟨_, rfl, ?_⟩) | ((with_reducible refine gate_builtin (b := .append) (xs := #[.tmp 28, .tmp 30]) rfl ?_); at_builtin; refine Kd.R_append (Kd.int .i64) (w0 := w) w.heap.size rfl (.tmp 28) (.tmp 30) 29 3 (.int .i64 0) 8 rfl Try.underlying29 info3 rfl (by decide) (by omega) u5 x5_1 (wrap64 ((Int.tmod (wrap64 ((Int.tmod x0_1 ji4) + ji4)) ji4) - ji4)) [.int .i64 (wrap64 ((Int.tmod (wrap64 ((Int.tmod x0_1 ji4) + ji4)) ji4) - ji4))] (fun _ => True) (fun _ => False) rfl rfl ?aP (fun _ hk => hk.elim) ?aF ?aO ?aB ?aS ?aL ?_; (case aP => exact rfl); (case aB => exact (by repeat (first | (with_reducible first | exact HB.out | apply below_alloc | apply pw_below_drewN | apply below_drew1) | exact HB.out))); (case aF => exact (fun _ _ => trivial)); (case aO => exact (by (with_reducible repeat (first | apply Kd.R_alloc | apply Kd.R_drewN | apply Kd.R_drew)); exact HO_5.out)); (case aS => exact (below_size (by repeat (first | (with_reducible first | exact HB.out | apply below_alloc | apply pw_below_drewN | apply below_drew1) | exact HB.out)))); (case aL => have := LMc10.out; omega); intro v180 w11 ho hb hg hat; rw [← Ny179.out] at ho; have n0_ := Aside0.mk (hb); have n1_ := Aside0.mk (ho); clear HB; clear HO_5; have HB := n0_; have HO181 := n1_; clear n0_ n1_; clear ho hb hg hat))
                  go_roundg k1
                  case measure => have := HK1.out; omega
                  case rel => exact ⟨(wrap64 (Int.tdiv (wrap64 (x0_1 - (wrap64 ((Int.tmod (wrap64 ((Int.tmod x0_1 ji4) + ji4)) ji4) - ji4)))) 2)), (y179), (by first | rfl | (simp; done) | (simp only [← hji4] <;> (first | rfl | simp)) | (simp [*]; done)), H', ⟨by have := HK1.out; omega⟩, ⟨by (with_reducible repeat (first | apply Kd.R_alloc | apply Kd.R_drewN | apply Kd.R_drew)); exact HO181.out⟩, ⟨by repeat (first | (with_reducible first | exact HB.out | apply below_alloc | apply pw_below_drewN | apply below_drew1) | exact HB.out)⟩⟩
                · rw [if_neg c10] at H
                  exact absurd H (by simp)
              · rw [if_neg c9] at H
                have c9b0 : decide ((wrap64 (Int.tdiv ji4 2)) < (Int.tmod (wrap64 ((Int.tmod x0_1 ji4) + ji4)) ji4)) = false := decide_eq_false c9
                clear c9
                by_cases c12 : x5_1.length < 17592186044416
                · rw [if_pos c12] at H
                  have LMc12 := Aside0.mk c12
                  clear c12
                  obtain ⟨y182, hy182⟩ : ∃ y_ : List Int, y_ = (x5_1 ++ [Int.tmod (wrap64 ((Int.tmod x0_1 ji4) + ji4)) ji4]) := ⟨_, rfl⟩
                  replace H : (spec_siWindow.l0 k1 (wrap64 (Int.tdiv (wrap64 (x0_1 - (Int.tmod (wrap64 ((Int.tmod x0_1 ji4) + ji4)) ji4))) 2)) y182 ji4) = some r := by first | (rw [hy182]; with_reducible exact H) | (have H2_ := (Option.bind_some _ _).symm.trans H; rw [hy182]; with_reducible exact H2_) | (have H2_ := (Option.bind_some _ _).symm.trans H; with_reducible exact H2_) | with_reducible exact H | (rw [hy182]; exact H) | exact H
                  have Ny182 := Aside0.mk hy182
                  clear hy182
                  have H' := Aside0.mk H
                  clear H
                  go_wp2_with (first | ((with_reducible refine gate_callee (f := 243) rfl ?_); refine goesL_ (some 13) rfl rfl Try.func243 (by kernel_rfl) rfl #[.int .i64 x0_1] rfl (by (try simp only [List.map_toArray, List.map_cons, List.map_nil]); first | done | rfl | (simp only [List.length_drop, List.length_take]; rfl)) ?_; (with_reducible refine (spec_siOdd.calls x0_1 true _ A6.out).mono ?_); rintro e w' ⟨rfl, ⟨nd, rfl⟩⟩; refine ⟨_, rfl, ?_⟩) | ((with_reducible refine gate_builtin (b := .append) (xs := #[.tmp 28, .tmp 30]) rfl ?_); at_builtin; refine Kd.R_append (Kd.int .i64) (w0 := w) w.heap.size rfl (.tmp 28) (.tmp 30) 29 3 (.int .i64 0) 8 rfl Try.underlying29 info3 rfl (by decide) (by omega) u5 x5_1 (Int.tmod (wrap64 ((Int.tmod x0_1 ji4) + ji4)) ji4) [.int .i64 (Int.tmod (wrap64 ((Int.tmod x0_1 ji4) + ji4)) ji4)] (fun _ => True) (fun _ => False) rfl rfl ?aP (fun _ hk => hk.elim) ?aF ?aO ?aB ?aS ?aL ?_; (case aP => exact rfl); (case aB => exact (by repeat (first | (with_reducible first | exact HB.out | apply below_alloc | apply pw_below_drewN | apply below_drew1) | exact HB.out))); (case aF => exact (fun _ _ => trivial)); (case aO => exact (by (with_reducible repeat (first | apply Kd.R_alloc | apply Kd.R_drewN | apply Kd.R_drew)); exact HO_5.out)); (case aS => exact (below_size (by repeat (first | (with_reducible first | exact HB.out | apply below_alloc | apply pw_below_drewN | apply below_drew1) | exact HB.out)))); (case aL => have := LMc12.out; omega); intro v183 w13 ho hb hg hat; rw [← Ny182.out] at ho; have n0_ := Aside0.mk (hb); have n1_ := Aside0.mk (ho); clear HB; clear HO_5; have HB := n0_; have HO184 := n1_; clear n0_ n1_; clear ho hb hg hat))
                  go_roundg k1
                  case measure => have := HK1.out; omega
                  case rel => exact ⟨(wrap64 (Int.tdiv (wrap64 (x0_1 - (Int.tmod (wrap64 ((Int.tmod x0_1 ji4) + ji4)) ji4))) 2)), (y182), (by first | rfl | (simp; done) | (simp only [← hji4] <;> (first | rfl | simp)) | (simp [*]; done)), H', ⟨by have := HK1.out; omega⟩, ⟨by (with_reducible repeat (first | apply Kd.R_alloc | apply Kd.R_drewN | apply Kd.R_drew)); exact HO184.out⟩, ⟨by repeat (first | (with_reducible first | exact HB.out | apply below_alloc | apply pw_below_drewN | apply below_drew1) | exact HB.out)⟩⟩
                · rw [if_neg c12] at H
                  exact absurd H (by simp)
          · replace c7 := Bool.eq_false_iff.mpr c7
            subst c7
            have H1 : (if x5_1.length < 17592186044416 then (spec_siWindow.l0 k1 (wrap64 (Int.tdiv (wrap64 (x0_1 - 0)) 2)) (x5_1 ++ [0]) ji4) else (none)) = some r := by rw [if_neg (show ¬ (false = true) by decide)] at H; exact H
            clear H
            have H := H1
            clear H1
            by_cases c14 : x5_1.length < 17592186044416
            · rw [if_pos c14] at H
              have LMc14 := Aside0.mk c14
              clear c14
              obtain ⟨y185, hy185⟩ : ∃ y_ : List Int, y_ = (x5_1 ++ [0]) := ⟨_, rfl⟩
              replace H : (spec_siWindow.l0 k1 (wrap64 (Int.tdiv (wrap64 (x0_1 - 0)) 2)) y185 ji4) = some r := by first | (rw [hy185]; with_reducible exact H) | (have H2_ := (Option.bind_some _ _).symm.trans H; rw [hy185]; with_reducible exact H2_) | (have H2_ := (Option.bind_some _ _).symm.trans H; with_reducible exact H2_) | with_reducible exact H | (rw [hy185]; exact H) | exact H
              have Ny185 := Aside0.mk hy185
              clear hy185
              have H' := Aside0.mk H
              clear H
              go_wp2_with (first | ((with_reducible refine gate_callee (f := 243) rfl ?_); refine goesL_ (some 13) rfl rfl Try.func243 (by kernel_rfl) rfl #[.int .i64 x0_1] rfl (by (try simp only [List.map_toArray, List.map_cons, List.map_nil]); first | done | rfl | (simp only [List.length_drop, List.length_take]; rfl)) ?_; (with_reducible refine (spec_siOdd.calls x0_1 false _ A6.out).mono ?_); rintro e w' ⟨rfl, ⟨nd, rfl⟩⟩; refine ⟨_, rfl, ?_⟩) | ((with_reducible refine gate_builtin (b := .append) (xs := #[.tmp 28, .tmp 30]) rfl ?_); at_builtin; refine Kd.R_append (Kd.int .i64) (w0 := w) w.heap.size rfl (.tmp 28) (.tmp 30) 29 3 (.int .i64 0) 8 rfl Try.underlying29 info3 rfl (by decide) (by omega) u5 x5_1 0 [.int .i64 0] (fun _ => True) (fun _ => False) rfl rfl ?aP (fun _ hk => hk.elim) ?aF ?aO ?aB ?aS ?aL ?_; (case aP => exact rfl); (case aB => exact (by repeat (first | (with_reducible first | exact HB.out | apply below_alloc | apply pw_below_drewN | apply below_drew1) | exact HB.out))); (case aF => exact (fun _ _ => trivial)); (case aO => exact (by (with_reducible repeat (first | apply Kd.R_alloc | apply Kd.R_drewN | apply Kd.R_drew)); exact HO_5.out)); (case aS => exact (below_size (by repeat (first | (with_reducible first | exact HB.out | apply below_alloc | apply pw_below_drewN | apply below_drew1) | exact HB.out)))); (case aL => have := LMc14.out; omega); intro v186 w15 ho hb hg hat; rw [← Ny185.out] at ho; have n0_ := Aside0.mk (hb); have n1_ := Aside0.mk (ho); clear HB; clear HO_5; have HB := n0_; have HO187 := n1_; clear n0_ n1_; clear ho hb hg hat))
              go_roundg k1
              case measure => have := HK1.out; omega
              case rel => exact ⟨(wrap64 (Int.tdiv (wrap64 (x0_1 - 0)) 2)), (y185), (by first | rfl | (simp; done) | (simp [*]; done)), H', ⟨by have := HK1.out; omega⟩, ⟨by (with_reducible repeat (first | apply Kd.R_alloc | apply Kd.R_drewN | apply Kd.R_drew)); exact HO187.out⟩, ⟨by repeat (first | (with_reducible first | exact HB.out | apply below_alloc | apply pw_below_drewN | apply below_drew1) | exact HB.out)⟩⟩
            · rw [if_neg c14] at H
              exact absurd H (by simp)
  · rw [if_neg c3] at H
    exact absurd H (by simp)

/-! ### spec_siChain: function 172 -/
def spec_siChain.l0 : Nat → List Int → List Int → Int → Int → Option (List Int)
  | 0, _, _, _, _ => none
  | k + 1, x3, x4, x5, x6 => if x6 ≥ 0 then (if x4.length < 17592186044416 then ((some (x4 ++ [wrap64 (x5 * 2)] : List Int)).bind fun y194 => (if 0 ≤ x6 then (if x6 < (x3.length : Int) then (if (rd x3 x6) = 0 then (spec_siChain.l0 k x3 y194 (wrap64 (x5 * 2)) (wrap64 (x6 - 1))) else (if y194.length < 17592186044416 then (spec_siChain.l0 k x3 (y194 ++ [wrap64 ((wrap64 (x5 * 2)) + (rd x3 x6))]) (wrap64 ((wrap64 (x5 * 2)) + (rd x3 x6))) (wrap64 (x6 - 1))) else (none))) else (none)) else (none))) else (none)) else (some x4)
def spec_siChain.f (k : Nat) (a0 : Int) : Option (List Int) := (spec_siWindow.f k a0 2).bind fun t188 => (spec_siChain.l0 k t188 (([1] : List Int)) 1 (wrap64 ((t188.length : Int) - 2)))
theorem spec_siChain.mono_l : ∀ k, (∀ y0 y1 y2 y3, LeO (spec_siChain.l0 k y0 y1 y2 y3) (spec_siChain.l0 (k + 1) y0 y1 y2 y3))
  | 0 => fun _ _ _ _ r h => by simp [spec_siChain.l0] at h
  | k + 1 => by
    have ih0 := spec_siChain.mono_l k
    · intro y0 y1 y2 y3
      unfold spec_siChain.l0
      repeat' first
      | (with_reducible exact ih0 _ _ _ _)
      | (with_reducible exact spec_siWindow.mono _ _ _)
      | (with_reducible exact LeO.refl _)
      | (with_reducible exact LeO.none _)
      | (with_reducible refine LeO.ite ?_ ?_)
      | (with_reducible refine LeO.bind ?_ (fun _ => ?_))
      | exact ih0 _ _ _ _
      | exact spec_siWindow.mono _ _ _
      | exact LeO.none _
      | refine LeO.ite ?_ ?_
      | refine LeO.bind ?_ (fun _ => ?_)
theorem spec_siChain.mono : ∀ a0 k, LeO (spec_siChain.f k a0) (spec_siChain.f (k + 1) a0) := by
  intro a0 k
  have ih0 := spec_siChain.mono_l k
  unfold spec_siChain.f
  repeat' first
      | (with_reducible exact ih0 _ _ _ _)
      | (with_reducible exact spec_siWindow.mono _ _ _)
      | (with_reducible exact LeO.refl _)
      | (with_reducible exact LeO.none _)
      | (with_reducible refine LeO.ite ?_ ?_)
      | (with_reducible refine LeO.bind ?_ (fun _ => ?_))
      | exact ih0 _ _ _ _
      | exact spec_siWindow.mono _ _ _
      | exact LeO.none _
      | refine LeO.ite ?_ ?_
      | refine LeO.bind ?_ (fun _ => ?_)
set_option maxHeartbeats 8000000 in
set_option maxRecDepth 100000 in
theorem spec_siChain.calls (k : Nat) (a0 : Int) (r : List Int) (w : World) (h : spec_siChain.f k a0 = some r) :
    Calls Try.prog 172 #[.int .i64 a0] w fun e w' => ∃ v0_ : Value, e = .returned (v0_) ∧ Kd.R (Kd.int .i64) 3 w' w.heap.size (fun _ => True) v0_ r ∧ Below w.heap.size w w' := by
  have HB := Aside0.mk (Below.refl w.heap.size w)
  have H : ((spec_siWindow.f k a0 2).bind fun t188 => (spec_siChain.l0 k t188 (([1] : List Int)) 1 (wrap64 ((t188.length : Int) - 2)))) = some r := h
  clear h
  replace H := Option.bind_eq_some_iff.mp H
  obtain ⟨t188, A20, H⟩ := H
  replace H : (spec_siChain.l0 k t188 (([1] : List Int)) 1 (wrap64 ((t188.length : Int) - 2))) = some r := H
  have A2 := Aside0.mk A20
  clear A20
  obtain ⟨y191, hy191⟩ : ∃ y_ : List Int, y_ = (([1] : List Int)) := ⟨_, rfl⟩
  replace H : (spec_siChain.l0 k t188 y191 1 (wrap64 ((t188.length : Int) - 2))) = some r := by first | (rw [hy191]; with_reducible exact H) | (have H2_ := (Option.bind_some _ _).symm.trans H; rw [hy191]; with_reducible exact H2_) | (have H2_ := (Option.bind_some _ _).symm.trans H; with_reducible exact H2_) | with_reducible exact H | (rw [hy191]; exact H) | exact H
  have Ny191 := Aside0.mk hy191
  clear hy191
  have H' := Aside0.mk H
  clear H
  go_enter Try.func172, Try.ntmps172
  go_wp2_with (first | ((with_reducible refine gate_callee (f := 226) rfl ?_); refine goesL_ (some 8) rfl rfl Try.func226 (by kernel_rfl) rfl #[.int .i64 a0, .int .i64 2] rfl (by (try simp only [List.map_toArray, List.map_cons, List.map_nil]); first | done | rfl | (simp only [List.length_drop, List.length_take]; rfl)) ?_; (with_reducible refine (spec_siWindow.calls k a0 2 t188 _ A2.out).mono ?_); rintro e w3 ⟨v189, rfl, ho0, hb⟩; refine ⟨_, rfl, ?_⟩; have n0_ := Aside0.mk (Kd.R_lower ho0 (below_size (by repeat (first | (with_reducible first | exact HB.out | apply below_alloc | apply pw_below_drewN | apply below_drew1) | exact HB.out)))); have n1_ := Aside0.mk (below_step (by repeat (first | (with_reducible first | exact HB.out | apply below_alloc | apply pw_below_drewN | apply below_drew1) | exact HB.out)) hb); clear HB; have HO190 := n0_; have HB := n1_; clear n0_ n1_; (try clear hb); (try clear hb2); (try clear hk); (try clear hi); (try clear ho0)) | ((with_reducible refine gate_dst (N := 9) rfl ?_); refine Kd.R_lit (Kd.int .i64) _ 3 ?hg (N := 9) ?hd (xs := ([1] : List Int)) (inner := [.int .i64 1]) (ok := fun _ => True) (okp := fun _ => True) ?hr ?hp (fun _ hk => hk) trivial (Below.refl _ _) (Nat.le_refl _) (by simp) ?_; (case hd => rfl); (case hg => rfl); (case hr => first | (go_simp; done) | (go_simp; rfl)); (case hp => exact (Reps.one (show Kd.M (Kd.int .i64) _ _ _ 1 [.int .i64 1] from rfl) (Reps.none _ _))); intro v192 w4 ho5 hb hg_ hnew_; clear hg_ hnew_; (first | rw [← Ny191.out] at ho5 | (simp only [Int.reduceToNat] at ho5; rw [← Ny191.out] at ho5)); have n0_ := Aside0.mk (Kd.R_elder' (by (with_reducible repeat (first | apply Kd.R_alloc | apply Kd.R_drewN | apply Kd.R_drew)); exact HO190.out) (Kd.R_base ho5) hb); have n1_ := Aside0.mk (Kd.R_lower (Kd.R_new' ho5 (Kd.R_lt (by (with_reducible repeat (first | apply Kd.R_alloc | apply Kd.R_drewN | apply Kd.R_drew)); exact HO190.out))) (below_size (by repeat (first | (with_reducible first | exact HB.out | apply below_alloc | apply pw_below_drewN | apply below_drew1) | exact HB.out)))); have n2_ := Aside0.mk (below_step (by repeat (first | (with_reducible first | exact HB.out | apply below_alloc | apply pw_below_drewN | apply below_drew1) | exact HB.out)) hb); clear HO190; clear HB; have HO190 := n0_; have HO193 := n1_; have HB := n2_; clear n0_ n1_ n2_; clear hb ho5; obtain ⟨Ao6, co6, eo6⟩ := Kd.R_slice HO190.out; subst eo6))
  go_loopg [4, 5, 6] k (fun kq v4 v5 v6 w' => ∃ (x4_1 : List Int) (x5_1 : Int) (x6_1 : Int), v5 = .int .i64 x5_1 ∧ v6 = .int .i64 x6_1 ∧ Aside0 (spec_siChain.l0 kq t188 x4_1 x5_1 x6_1 = some r) ∧ Aside0 (kq ≤ k) ∧ Aside0 (Kd.R (Kd.int .i64) 3 w' w.heap.size (fun k_ => some k_ ≠ (v4 : Value).ownBlock) (.slice Ao6 t188.length co6) t188) ∧ Aside0 (Kd.R (Kd.int .i64) 3 w' w.heap.size (fun k_ => some k_ ≠ ((.slice Ao6 t188.length co6) : Value).ownBlock) v4 x4_1) ∧ Aside0 (Below w.heap.size w w'))
  case atStart => exact ⟨(y191), (1), (wrap64 ((t188.length : Int) - 2)), (by first | rfl | (simp; done) | (simp [*]; done)), (by first | rfl | (simp; done) | (simp [*]; done)), H', ⟨Nat.le_refl _⟩, ⟨by (with_reducible repeat (first | apply Kd.R_alloc | apply Kd.R_drewN | apply Kd.R_drew)); exact Kd.R_mono HO190.out (fun _ hk => hk.2)⟩, ⟨by (with_reducible repeat (first | apply Kd.R_alloc | apply Kd.R_drewN | apply Kd.R_drew)); exact Kd.R_mono HO193.out (fun _ hk => hk.2)⟩, ⟨by repeat (first | (with_reducible first | exact HB.out | apply below_alloc | apply pw_below_drewN | apply below_drew1) | exact HB.out)⟩⟩
  case round =>
    clear H'
    try clear c1
    try clear c2
    try clear p2
    try clear p6
    obtain ⟨x4_1, x5_1, x6_1, rfl, rfl, HA, HK1, HO_3, HO_4, HB⟩ := hrel
    cases gk with
    | zero => exact absurd HA.out (by simp [spec_siChain.l0])
    | succ k1 =>
      have H := HA.out
      clear HA
      simp only [spec_siChain.l0] at H
      by_cases c7 : x6_1 ≥ 0
      · rw [if_pos c7] at H
        have c7b0 : decide (0 ≤ x6_1) = true := decide_eq_true c7
        clear c7
        by_cases c8 : x4_1.length < 17592186044416
        · rw [if_pos c8] at H
          have LMc8 := Aside0.mk c8
          clear c8
          obtain ⟨y194, hy194⟩ : ∃ y_ : List Int, y_ = (x4_1 ++ [wrap64 (x5_1 * 2)]) := ⟨_, rfl⟩
          replace H : (if 0 ≤ x6_1 then (if x6_1 < (t188.length : Int) then (if (rd t188 x6_1) = 0 then (spec_siChain.l0 k1 t188 y194 (wrap64 (x5_1 * 2)) (wrap64 (x6_1 - 1))) else (if y194.length < 17592186044416 then (spec_siChain.l0 k1 t188 (y194 ++ [wrap64 ((wrap64 (x5_1 * 2)) + (rd t188 x6_1))]) (wrap64 ((wrap64 (x5_1 * 2)) + (rd t188 x6_1))) (wrap64 (x6_1 - 1))) else (none))) else (none)) else (none)) = some r := by first | (rw [hy194]; with_reducible exact H) | (have H2_ := (Option.bind_some _ _).symm.trans H; rw [hy194]; with_reducible exact H2_) | (have H2_ := (Option.bind_some _ _).symm.trans H; with_reducible exact H2_) | with_reducible exact H | (rw [hy194]; exact H) | exact H
          have Ny194 := Aside0.mk hy194
          clear hy194
          by_cases c9 : 0 ≤ x6_1
          · rw [if_pos c9] at H
            have c9b0 : decide (0 ≤ x6_1) = true := decide_eq_true c9
            clear c9
            by_cases c10 : x6_1 < (t188.length : Int)
            · rw [if_pos c10] at H
              have c10b0 : decide (x6_1 < (t188.length : Int)) = true := decide_eq_true c10
              clear c10
              by_cases c11 : (rd t188 x6_1) = 0
              · rw [if_pos c11] at H
                have c11b0 : ((rd t188 x6_1) == 0) = true := beq_iff_eq.mpr c11
                have c11b1 : ((rd t188 x6_1) != 0) = false := bne_eq_false_iff_eq.mpr c11
                clear c11
                have H' := Aside0.mk H
                clear H
                go_wp2_with (first | ((with_reducible refine gate_builtin (b := .append) (xs := #[.tmp 19, .tmp 21]) rfl ?_); at_builtin; refine Kd.R_append (Kd.int .i64) (w0 := w) w.heap.size rfl (.tmp 19) (.tmp 21) 29 3 (.int .i64 0) 8 rfl Try.underlying29 info3 rfl (by decide) (by omega) u4 x4_1 (wrap64 (x5_1 * 2)) [.int .i64 (wrap64 (x5_1 * 2))] (fun k_ => some k_ ≠ (.slice Ao6 t188.length co6 : Value).ownBlock) (fun _ => False) rfl rfl ?aP (fun _ hk => hk.elim) ?aF ?aO ?aB ?aS ?aL ?_; (case aP => exact rfl); (case aB => exact (by repeat (first | (with_reducible first | exact HB.out | apply below_alloc | apply pw_below_drewN | apply below_drew1) | exact HB.out))); (case aF => exact (fun k_ hk => Kd.fresh' (Kd.R_lt (by (with_reducible repeat (first | apply Kd.R_alloc | apply Kd.R_drewN | apply Kd.R_drew)); exact HO_3.out)) k_ hk)); (case aO => exact (by (with_reducible repeat (first | apply Kd.R_alloc | apply Kd.R_drewN | apply Kd.R_drew)); exact HO_4.out)); (case aS => exact (below_size (by repeat (first | (with_reducible first | exact HB.out | apply below_alloc | apply pw_below_drewN | apply below_drew1) | exact HB.out)))); (case aL => have := LMc8.out; omega); intro v195 w12 ho hb hg hat; rw [← Ny194.out] at ho; have n0_ := Aside0.mk (Kd.R_after (ok := (fun _ => True)) (by (with_reducible repeat (first | apply Kd.R_alloc | apply Kd.R_drewN | apply Kd.R_drew)); exact Kd.R_mono HO_3.out (fun _ hk => ⟨trivial, hk⟩)) hg hat); have n1_ := Aside0.mk (hb); have n2_ := Aside0.mk (ho); clear HO_3; clear HB; clear HO_4; have HO_3 := n0_; have HB := n1_; have HO196 := n2_; clear n0_ n1_ n2_; clear ho hb hg hat; have p197 : 0 ≤ (x6_1 : Int) := of_decide_eq_true (by first | (with_reducible assumption) | assumption); have q197 : x6_1 < (t188.length : Int) := of_decide_eq_true (by first | (with_reducible assumption) | assumption); obtain ⟨ad197, e197, hx197_0⟩ := Kd.at_int (Kd.R_reads' HO_3.out).2.2 x6_1 p197 q197; cases e197; replace p197 := eq_true p197; replace q197 := eq_true q197))
                go_roundg k1
                case measure => have := HK1.out; omega
                case rel => exact ⟨(y194), (wrap64 (x5_1 * 2)), (wrap64 (x6_1 - 1)), (by first | rfl | (simp; done) | (simp [*]; done)), (by first | rfl | (simp; done) | (simp [*]; done)), H', ⟨by have := HK1.out; omega⟩, ⟨by (with_reducible repeat (first | apply Kd.R_alloc | apply Kd.R_drewN | apply Kd.R_drew)); exact Kd.R_mono HO_3.out (fun _ hk => hk.2)⟩, ⟨by (with_reducible repeat (first | apply Kd.R_alloc | apply Kd.R_drewN | apply Kd.R_drew)); exact HO196.out⟩, ⟨by repeat (first | (with_reducible first | exact HB.out | apply below_alloc | apply pw_below_drewN | apply below_drew1) | exact HB.out)⟩⟩
              · rw [if_neg c11] at H
                have c11b0 : ((rd t188 x6_1) == 0) = false := beq_eq_false_iff_ne.mpr c11
                have c11b1 : ((rd t188 x6_1) != 0) = true := bne_iff_ne.mpr c11
                by_cases c13 : y194.length < 17592186044416
                · rw [if_pos c13] at H
                  have LMc13 := Aside0.mk c13
                  clear c13
                  obtain ⟨y199, hy199⟩ : ∃ y_ : List Int, y_ = (y194 ++ [wrap64 ((wrap64 (x5_1 * 2)) + (rd t188 x6_1))]) := ⟨_, rfl⟩
                  replace H : (spec_siChain.l0 k1 t188 y199 (wrap64 ((wrap64 (x5_1 * 2)) + (rd t188 x6_1))) (wrap64 (x6_1 - 1))) = some r := by first | (rw [hy199]; with_reducible exact H) | (have H2_ := (Option.bind_some _ _).symm.trans H; rw [hy199]; with_reducible exact H2_) | (have H2_ := (Option.bind_some _ _).symm.trans H; with_reducible exact H2_) | with_reducible exact H | (rw [hy199]; exact H) | exact H
                  have Ny199 := Aside0.mk hy199
                  clear hy199
                  have H' := Aside0.mk H
                  clear H
                  go_wp2_with (first | ((with_reducible refine gate_builtin (b := .append) (xs := #[.tmp 19, .tmp 21]) rfl ?_); at_builtin; refine Kd.R_append (Kd.int .i64) (w0 := w) w.heap.size rfl (.tmp 19) (.tmp 21) 29 3 (.int .i64 0) 8 rfl Try.underlying29 info3 rfl (by decide) (by omega) u4 x4_1 (wrap64 (x5_1 * 2)) [.int .i64 (wrap64 (x5_1 * 2))] (fun k_ => some k_ ≠ (.slice Ao6 t188.length co6 : Value).ownBlock) (fun _ => False) rfl rfl ?aP (fun _ hk => hk.elim) ?aF ?aO ?aB ?aS ?aL ?_; (case aP => exact rfl); (case aB => exact (by repeat (first | (with_reducible first | exact HB.out | apply below_alloc | apply pw_below_drewN | apply below_drew1) | exact HB.out))); (case aF => exact (fun k_ hk => Kd.fresh' (Kd.R_lt (by (with_reducible repeat (first | apply Kd.R_alloc | apply Kd.R_drewN | apply Kd.R_drew)); exact HO_3.out)) k_ hk)); (case aO => exact (by (with_reducible repeat (first | apply Kd.R_alloc | apply Kd.R_drewN | apply Kd.R_drew)); exact HO_4.out)); (case aS => exact (below_size (by repeat (first | (with_reducible first | exact HB.out | apply below_alloc | apply pw_below_drewN | apply below_drew1) | exact HB.out)))); (case aL => have := LMc8.out; omega); intro v195 w14 ho hb hg hat; rw [← Ny194.out] at ho; have n0_ := Aside0.mk (Kd.R_after (ok := (fun _ => True)) (by (with_reducible repeat (first | apply Kd.R_alloc | apply Kd.R_drewN | apply Kd.R_drew)); exact Kd.R_mono HO_3.out (fun _ hk => ⟨trivial, hk⟩)) hg hat); have n1_ := Aside0.mk (hb); have n2_ := Aside0.mk (ho); clear HO_3; clear HB; clear HO_4; have HO_3 := n0_; have HB := n1_; have HO196 := n2_; clear n0_ n1_ n2_; clear ho hb hg hat; have p197 : 0 ≤ (x6_1 : Int) := of_decide_eq_true (by first | (with_reducible assumption) | assumption); have q197 : x6_1 < (t188.length : Int) := of_decide_eq_true (by first | (with_reducible assumption) | assumption); obtain ⟨ad197, e197, hx197_0⟩ := Kd.at_int (Kd.R_reads' HO_3.out).2.2 x6_1 p197 q197; cases e197; replace p197 := eq_true p197; replace q197 := eq_true q197; have p198 : 0 ≤ (x6_1 : Int) := of_decide_eq_true (by first | (with_reducible assumption) | assumption); have q198 : x6_1 < (t188.length : Int) := of_decide_eq_true (by first | (with_reducible assumption) | assumption); obtain ⟨ad198, e198, hx198_0⟩ := Kd.at_int (Kd.R_reads' HO_3.out).2.2 x6_1 p198 q198; obtain rfl : ad197 = ad198 := (by injection e198); replace p198 := eq_true p198; replace q198 := eq_true q198) | ((with_reducible refine gate_builtin (b := .append) (xs := #[.tmp 34, .tmp 36]) rfl ?_); at_builtin; refine Kd.R_append (Kd.int .i64) (w0 := w) w.heap.size rfl (.tmp 34) (.tmp 36) 29 3 (.int .i64 0) 8 rfl Try.underlying29 info3 rfl (by decide) (by omega) v195 y194 (wrap64 ((wrap64 (x5_1 * 2)) + (rd t188 x6_1))) [.int .i64 (wrap64 ((wrap64 (x5_1 * 2)) + (rd t188 x6_1)))] (fun k_ => some k_ ≠ (.slice (some ad197) t188.length co6 : Value).ownBlock) (fun _ => False) rfl rfl ?aP (fun _ hk => hk.elim) ?aF ?aO ?aB ?aS ?aL ?_; (case aP => exact rfl); (case aB => exact (by repeat (first | (with_reducible first | exact HB.out | apply below_alloc | apply pw_below_drewN | apply below_drew1) | exact HB.out))); (case aF => exact (fun k_ hk => Kd.fresh' (Kd.R_lt (by (with_reducible repeat (first | apply Kd.R_alloc | apply Kd.R_drewN | apply Kd.R_drew)); exact HO_3.out)) k_ hk)); (case aO => exact (by (with_reducible repeat (first | apply Kd.R_alloc | apply Kd.R_drewN | apply Kd.R_drew)); exact HO196.out)); (case aS => exact (below_size (by repeat (first | (with_reducible first | exact HB.out | apply below_alloc | apply pw_below_drewN | apply below_drew1) | exact HB.out)))); (case aL => have := LMc13.out; omega); intro v200 w15 ho hb hg hat; rw [← Ny199.out] at ho; have n0_ := Aside0.mk (Kd.R_after (ok := (fun _ => True)) (by (with_reducible repeat (first | apply Kd.R_alloc | apply Kd.R_drewN | apply Kd.R_drew)); exact HO_3.out) hg hat); have n1_ := Aside0.mk (hb); have n2_ := Aside0.mk (ho); clear HO_3; clear HB; clear HO196; have HO_3 := n0_; have HB := n1_; have HO201 := n2_; clear n0_ n1_ n2_; clear ho hb hg hat))
                  go_roundg k1
                  case measure => have := HK1.out; omega
                  case rel => exact ⟨(y199), (wrap64 ((wrap64 (x5_1 * 2)) + (rd t188 x6_1))), (wrap64 (x6_1 - 1)), (by first | rfl | (simp; done) | (simp [*]; done)), (by first | rfl | (simp; done) | (simp [*]; done)), H', ⟨by have := HK1.out; omega⟩, ⟨by (with_reducible repeat (first | apply Kd.R_alloc | apply Kd.R_drewN | apply Kd.R_drew)); exact Kd.R_mono HO_3.out (fun _ hk => hk.2)⟩, ⟨by (with_reducible repeat (first | apply Kd.R_alloc | apply Kd.R_drewN | apply Kd.R_drew)); exact HO201.out⟩, ⟨by repeat (first | (with_reducible first | exact HB.out | apply below_alloc | apply pw_below_drewN | apply below_drew1) | exact HB.out)⟩⟩
                · rw [if_neg c13] at H
                  exact absurd H (by simp)
            · rw [if_neg c10] at H
              exact absurd H (by simp)
          · rw [if_neg c9] at H
            exact absurd H (by simp)
        · rw [if_neg c8] at H
          exact absurd H (by simp)
      · rw [if_neg c7] at H
        have c7b0 : decide (0 ≤ x6_1) = false := decide_eq_false c7
        clear c7
        obtain rfl := Option.some.inj H
        go_wp2
        go_ret
        exact ⟨_, by first | rfl | (simp [errW_none, errW_some] <;> rfl) | (simp [*, errW_none, errW_some] <;> rfl), by (with_reducible repeat (first | apply Kd.R_alloc | apply Kd.R_drewN | apply Kd.R_drew)); exact Kd.R_mono HO_4.out (fun _ hk => trivial), by repeat (first | (with_reducible first | exact HB.out | apply below_alloc | apply pw_below_drewN | apply below_drew1) | exact HB.out)⟩

end Go.Proofs.Ytlmoemahamneoaa.PFnSubtractionChains
