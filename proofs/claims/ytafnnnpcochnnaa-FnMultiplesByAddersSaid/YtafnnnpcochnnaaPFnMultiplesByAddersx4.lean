-- Written by gprint.py, a program of this session, out of the translation (a changed print).
import Derived.Test.YtafnnnpcochnnaaPFnMultiplesByAddersx0
import Derived.Test.YtafnnnpcochnnaaPFnMultiplesByAddersx2
import Derived.Test.YtafnnnpcochnnaaPFnMultiplesByAddersx3
namespace Go.Proofs.Ytafnnnpcochnnaa.PFnMultiplesByAdders
open Go.RowKit Go.Proofs.YtafnnnpcochnnaaW.PrintWords Go.Proofs.YtafnnnpcochnnaaW.PrintLast Go.Proofs.YtafnnnpcochnnaaW.PrintMore
attribute [local go_sem] max2_int min2_int max_two min_two max_three min_three max_four min_four   -- for this text's walks alone
set_option linter.unusedVariables false
set_option linter.unusedSimpArgs false

/-! ### impl_windowed: function 92 -/
def impl_windowed.l0 : Nat → Int → Int → List Int → Option (List Int)
  | 0, _, _, _ => none
  | k + 1, x0, x1, x5 => if x0 = 0 then (some x5) else (if (Int.tmod x0 2) = 0 then (if x5.length < 17592186044416 then (impl_windowed.l0 k (wrap64 (Int.tdiv (wrap64 (x0 - 0)) 2)) x1 (x5 ++ [0])) else (none)) else (if 0 ≤ x1 then ((impl_rest.f x0 (shl .i64 1 x1)).bind fun t185 => (if 0 ≤ (wrap64 (x1 - 1)) then (if t185 > (shl .i64 1 (wrap64 (x1 - 1))) then (if x5.length < 17592186044416 then (impl_windowed.l0 k (wrap64 (Int.tdiv (wrap64 (x0 - (wrap64 (t185 - (shl .i64 1 x1))))) 2)) x1 (x5 ++ [wrap64 (t185 - (shl .i64 1 x1))])) else (none)) else (if x5.length < 17592186044416 then (impl_windowed.l0 k (wrap64 (Int.tdiv (wrap64 (x0 - t185)) 2)) x1 (x5 ++ [t185])) else (none))) else (none))) else (none)))
def impl_windowed.f (k : Nat) (a0 : Int) (a1 : Int) : Option (List Int) := impl_windowed.l0 k a0 a1 (([] : List Int))
theorem impl_windowed.mono_l : ∀ k, (∀ y0 y1 y2, LeO (impl_windowed.l0 k y0 y1 y2) (impl_windowed.l0 (k + 1) y0 y1 y2))
  | 0 => fun _ _ _ r h => by simp [impl_windowed.l0] at h
  | k + 1 => by
    have ih0 := impl_windowed.mono_l k
    · intro y0 y1 y2
      unfold impl_windowed.l0
      repeat' first
      | (with_reducible exact ih0 _ _ _)
      | (with_reducible exact LeO.refl _)
      | (with_reducible exact LeO.none _)
      | (with_reducible refine LeO.ite ?_ ?_)
      | (with_reducible refine LeO.bind ?_ (fun _ => ?_))
      | exact ih0 _ _ _
      | exact LeO.none _
      | refine LeO.ite ?_ ?_
      | refine LeO.bind ?_ (fun _ => ?_)
theorem impl_windowed.mono : ∀ a0 a1 k, LeO (impl_windowed.f k a0 a1) (impl_windowed.f (k + 1) a0 a1) := by
  intro a0 a1 k
  have ih0 := impl_windowed.mono_l k
  unfold impl_windowed.f
  repeat' first
      | (with_reducible exact ih0 _ _ _)
      | (with_reducible exact LeO.refl _)
      | (with_reducible exact LeO.none _)
      | (with_reducible refine LeO.ite ?_ ?_)
      | (with_reducible refine LeO.bind ?_ (fun _ => ?_))
      | exact ih0 _ _ _
      | exact LeO.none _
      | refine LeO.ite ?_ ?_
      | refine LeO.bind ?_ (fun _ => ?_)
set_option maxHeartbeats 8000000 in
set_option maxRecDepth 100000 in
theorem impl_windowed.calls (k : Nat) (a0 : Int) (a1 : Int) (r : List Int) (w : World) (h : impl_windowed.f k a0 a1 = some r) :
    Calls Try.prog 92 #[.int .i64 a0, .int .i64 a1] w fun e w' => ∃ v0_ : Value, e = .returned (v0_) ∧ Kd.R (Kd.int .i64) 3 w' w.heap.size (fun _ => True) v0_ r ∧ Below w.heap.size w w' := by
  have HB := Aside0.mk (Below.refl w.heap.size w)
  have H : (impl_windowed.l0 k a0 a1 (([] : List Int))) = some r := h
  clear h
  obtain ⟨y179, hy179⟩ : ∃ y_ : List Int, y_ = (([] : List Int)) := ⟨_, rfl⟩
  replace H : (impl_windowed.l0 k a0 a1 y179) = some r := by first | (rw [hy179]; with_reducible exact H) | (have H2_ := (Option.bind_some _ _).symm.trans H; rw [hy179]; with_reducible exact H2_) | (have H2_ := (Option.bind_some _ _).symm.trans H; with_reducible exact H2_) | with_reducible exact H | (rw [hy179]; exact H) | exact H
  have Ny179 := Aside0.mk hy179
  clear hy179
  have H' := Aside0.mk H
  clear H
  go_enter Try.func92, Try.ntmps92
  go_wp2_with (first | ((with_reducible refine gate_dst (N := 7) rfl ?_); refine Kd.R_lit (Kd.int .i64) _ 3 ?hg (N := 7) ?hd (xs := ([] : List Int)) (inner := []) (ok := fun _ => True) (okp := fun _ => True) ?hr ?hp (fun _ hk => hk) trivial (Below.refl _ _) (Nat.le_refl _) (by simp) ?_; (case hd => rfl); (case hg => rfl); (case hr => first | (go_simp; done) | (go_simp; rfl)); (case hp => exact (Reps.none _ _)); intro v180 w3 ho4 hb hg_ hnew_; clear hg_ hnew_; (first | rw [← Ny179.out] at ho4 | (simp only [Int.reduceToNat] at ho4; rw [← Ny179.out] at ho4)); have n0_ := Aside0.mk (Kd.R_lower ho4 (below_size (by repeat (first | (with_reducible first | exact HB.out | apply below_alloc | apply pw_below_drewN | apply below_drew1) | exact HB.out)))); have n1_ := Aside0.mk (below_step (by repeat (first | (with_reducible first | exact HB.out | apply below_alloc | apply pw_below_drewN | apply below_drew1) | exact HB.out)) hb); clear HB; have HO181 := n0_; have HB := n1_; clear n0_ n1_; clear hb ho4))
  go_loopg [0, 5] k (fun kq v0 v5 w' => ∃ (x0_1 : Int) (x5_1 : List Int), v0 = .int .i64 x0_1 ∧ Aside0 (impl_windowed.l0 kq x0_1 a1 x5_1 = some r) ∧ Aside0 (kq ≤ k) ∧ Aside0 (Kd.R (Kd.int .i64) 3 w' w.heap.size (fun _ => True) v5 x5_1) ∧ Aside0 (Below w.heap.size w w'))
  case atStart => exact ⟨(a0), (y179), (by first | rfl | (simp; done) | (simp [*]; done)), H', ⟨Nat.le_refl _⟩, ⟨by (with_reducible repeat (first | apply Kd.R_alloc | apply Kd.R_drewN | apply Kd.R_drew)); exact HO181.out⟩, ⟨by repeat (first | (with_reducible first | exact HB.out | apply below_alloc | apply pw_below_drewN | apply below_drew1) | exact HB.out)⟩⟩
  case round =>
    clear H'
    try clear p2
    obtain ⟨x0_1, x5_1, rfl, HA, HK1, HO_5, HB⟩ := hrel
    cases gk with
    | zero => exact absurd HA.out (by simp [impl_windowed.l0])
    | succ k1 =>
      have H := HA.out
      clear HA
      simp only [impl_windowed.l0] at H
      by_cases c5 : x0_1 = 0
      · rw [if_pos c5] at H
        have c5b0 : (x0_1 == 0) = true := beq_iff_eq.mpr c5
        have c5b1 : (x0_1 != 0) = false := bne_eq_false_iff_eq.mpr c5
        clear c5
        obtain rfl := Option.some.inj H
        go_wp2
        go_ret
        exact ⟨_, by first | rfl | (simp [errW_none, errW_some] <;> rfl) | (simp [*, errW_none, errW_some] <;> rfl), by (with_reducible repeat (first | apply Kd.R_alloc | apply Kd.R_drewN | apply Kd.R_drew)); exact HO_5.out, by repeat (first | (with_reducible first | exact HB.out | apply below_alloc | apply pw_below_drewN | apply below_drew1) | exact HB.out)⟩
      · rw [if_neg c5] at H
        have c5b0 : (x0_1 == 0) = false := beq_eq_false_iff_ne.mpr c5
        have c5b1 : (x0_1 != 0) = true := bne_iff_ne.mpr c5
        by_cases c6 : (Int.tmod x0_1 2) = 0
        · rw [if_pos c6] at H
          have c6b0 : ((Int.tmod x0_1 2) == 0) = true := beq_iff_eq.mpr c6
          have c6b1 : ((Int.tmod x0_1 2) != 0) = false := bne_eq_false_iff_eq.mpr c6
          clear c6
          by_cases c7 : x5_1.length < 17592186044416
          · rw [if_pos c7] at H
            have LMc7 := Aside0.mk c7
            clear c7
            obtain ⟨y182, hy182⟩ : ∃ y_ : List Int, y_ = (x5_1 ++ [0]) := ⟨_, rfl⟩
            replace H : (impl_windowed.l0 k1 (wrap64 (Int.tdiv (wrap64 (x0_1 - 0)) 2)) a1 y182) = some r := by first | (rw [hy182]; with_reducible exact H) | (have H2_ := (Option.bind_some _ _).symm.trans H; rw [hy182]; with_reducible exact H2_) | (have H2_ := (Option.bind_some _ _).symm.trans H; with_reducible exact H2_) | with_reducible exact H | (rw [hy182]; exact H) | exact H
            have Ny182 := Aside0.mk hy182
            clear hy182
            have H' := Aside0.mk H
            clear H
            go_wp2_with (first | ((with_reducible refine gate_builtin (b := .append) (xs := #[.tmp 31, .tmp 33]) rfl ?_); at_builtin; refine Kd.R_append (Kd.int .i64) (w0 := w) w.heap.size rfl (.tmp 31) (.tmp 33) 22 3 (.int .i64 0) 8 rfl Try.underlying22 info3 rfl (by decide) (by omega) u5 x5_1 0 [.int .i64 0] (fun _ => True) (fun _ => False) rfl rfl ?aP (fun _ hk => hk.elim) ?aF ?aO ?aB ?aS ?aL ?_; (case aP => exact rfl); (case aB => exact (by repeat (first | (with_reducible first | exact HB.out | apply below_alloc | apply pw_below_drewN | apply below_drew1) | exact HB.out))); (case aF => exact (fun _ _ => trivial)); (case aO => exact (by (with_reducible repeat (first | apply Kd.R_alloc | apply Kd.R_drewN | apply Kd.R_drew)); exact HO_5.out)); (case aS => exact (below_size (by repeat (first | (with_reducible first | exact HB.out | apply below_alloc | apply pw_below_drewN | apply below_drew1) | exact HB.out)))); (case aL => have := LMc7.out; omega); intro v183 w8 ho hb hg hat; rw [← Ny182.out] at ho; have n0_ := Aside0.mk (hb); have n1_ := Aside0.mk (ho); clear HB; clear HO_5; have HB := n0_; have HO184 := n1_; clear n0_ n1_; clear ho hb hg hat))
            go_roundg k1
            case measure => have := HK1.out; omega
            case rel => exact ⟨(wrap64 (Int.tdiv (wrap64 (x0_1 - 0)) 2)), (y182), (by first | rfl | (simp; done) | (simp [*]; done)), H', ⟨by have := HK1.out; omega⟩, ⟨by (with_reducible repeat (first | apply Kd.R_alloc | apply Kd.R_drewN | apply Kd.R_drew)); exact HO184.out⟩, ⟨by repeat (first | (with_reducible first | exact HB.out | apply below_alloc | apply pw_below_drewN | apply below_drew1) | exact HB.out)⟩⟩
          · rw [if_neg c7] at H
            exact absurd H (by simp)
        · rw [if_neg c6] at H
          have c6b0 : ((Int.tmod x0_1 2) == 0) = false := beq_eq_false_iff_ne.mpr c6
          have c6b1 : ((Int.tmod x0_1 2) != 0) = true := bne_iff_ne.mpr c6
          by_cases c9 : 0 ≤ a1
          · rw [if_pos c9] at H
            have c9b0 := eq_true c9
            have c9b1 : decide (0 ≤ a1) = true := decide_eq_true c9
            clear c9
            obtain ⟨ji10, hji10⟩ : ∃ j_ : Int, (shl .i64 1 a1) = j_ := ⟨_, rfl⟩
            replace H : ((impl_rest.f x0_1 (ji10)).bind fun t185 => (if 0 ≤ (wrap64 (a1 - 1)) then (if t185 > (shl .i64 1 (wrap64 (a1 - 1))) then (if x5_1.length < 17592186044416 then (impl_windowed.l0 k1 (wrap64 (Int.tdiv (wrap64 (x0_1 - (wrap64 (t185 - (ji10))))) 2)) a1 (x5_1 ++ [wrap64 (t185 - (ji10))])) else (none)) else (if x5_1.length < 17592186044416 then (impl_windowed.l0 k1 (wrap64 (Int.tdiv (wrap64 (x0_1 - t185)) 2)) a1 (x5_1 ++ [t185])) else (none))) else (none))) = some r := by first | (rw [hji10] at H; exact H) | (simp only [hji10] at H ⊢; exact H)
            have hji10_ : (IntKind.i64.wrap (1 * 2 ^ min a1.toNat 64)) = ji10 := hji10
            have hji10z : a1 ≤ 64 → (IntKind.i64.wrap (1 * 2 ^ a1.toNat)) = ji10 := shl_small hji10
            have hji10u : (IntKind.i64.wrap (2 ^ min a1.toNat 64)) = ji10 := by have h_ := hji10_; rw [Int.one_mul] at h_; exact h_
            have hji10v : a1 ≤ 64 → (IntKind.i64.wrap (2 ^ a1.toNat)) = ji10 := fun hle_ => by have h_ := hji10z hle_; rw [Int.one_mul] at h_; exact h_
            have hji10y : (wrap64 (1 * 2 ^ min a1.toNat 64)) = ji10 := (i64_w _).symm.trans hji10_
            have hji10x : a1 ≤ 64 → (wrap64 (1 * 2 ^ a1.toNat)) = ji10 := fun h_ => (i64_w _).symm.trans (hji10z h_)
            replace H := Option.bind_eq_some_iff.mp H
            obtain ⟨t185, A110, H⟩ := H
            replace H : (if 0 ≤ (wrap64 (a1 - 1)) then (if t185 > (shl .i64 1 (wrap64 (a1 - 1))) then (if x5_1.length < 17592186044416 then (impl_windowed.l0 k1 (wrap64 (Int.tdiv (wrap64 (x0_1 - (wrap64 (t185 - (ji10))))) 2)) a1 (x5_1 ++ [wrap64 (t185 - (ji10))])) else (none)) else (if x5_1.length < 17592186044416 then (impl_windowed.l0 k1 (wrap64 (Int.tdiv (wrap64 (x0_1 - t185)) 2)) a1 (x5_1 ++ [t185])) else (none))) else (none)) = some r := H
            have A11 := Aside0.mk A110
            clear A110
            obtain ⟨ji12, hji12⟩ : ∃ j_ : Int, (wrap64 (a1 - 1)) = j_ := ⟨_, rfl⟩
            replace H : (if 0 ≤ (ji12) then (if t185 > (shl .i64 1 (ji12)) then (if x5_1.length < 17592186044416 then (impl_windowed.l0 k1 (wrap64 (Int.tdiv (wrap64 (x0_1 - (wrap64 (t185 - (ji10))))) 2)) a1 (x5_1 ++ [wrap64 (t185 - (ji10))])) else (none)) else (if x5_1.length < 17592186044416 then (impl_windowed.l0 k1 (wrap64 (Int.tdiv (wrap64 (x0_1 - t185)) 2)) a1 (x5_1 ++ [t185])) else (none))) else (none)) = some r := by first | (rw [hji12] at H; exact H) | (simp only [hji12] at H ⊢; exact H)
            (try rw [hji12] at A11)
            have hji12w : (IntKind.i64.wrap (a1 - 1)) = ji12 := (i64_w _).trans hji12
            by_cases c13 : 0 ≤ (ji12)
            · rw [if_pos c13] at H
              have c13b0 := eq_true c13
              have c13b1 : decide (0 ≤ (ji12)) = true := decide_eq_true c13
              clear c13
              obtain ⟨ji14, hji14⟩ : ∃ j_ : Int, (shl .i64 1 (ji12)) = j_ := ⟨_, rfl⟩
              replace H : (if t185 > (ji14) then (if x5_1.length < 17592186044416 then (impl_windowed.l0 k1 (wrap64 (Int.tdiv (wrap64 (x0_1 - (wrap64 (t185 - (ji10))))) 2)) a1 (x5_1 ++ [wrap64 (t185 - (ji10))])) else (none)) else (if x5_1.length < 17592186044416 then (impl_windowed.l0 k1 (wrap64 (Int.tdiv (wrap64 (x0_1 - t185)) 2)) a1 (x5_1 ++ [t185])) else (none))) = some r := by first | (rw [hji14] at H; exact H) | (simp only [hji14] at H ⊢; exact H)
              (try rw [hji14] at A11)
              have hji14_ : (IntKind.i64.wrap (1 * 2 ^ min (ji12).toNat 64)) = ji14 := hji14
              have hji14z : (ji12) ≤ 64 → (IntKind.i64.wrap (1 * 2 ^ (ji12).toNat)) = ji14 := shl_small hji14
              have hji14u : (IntKind.i64.wrap (2 ^ min (ji12).toNat 64)) = ji14 := by have h_ := hji14_; rw [Int.one_mul] at h_; exact h_
              have hji14v : (ji12) ≤ 64 → (IntKind.i64.wrap (2 ^ (ji12).toNat)) = ji14 := fun hle_ => by have h_ := hji14z hle_; rw [Int.one_mul] at h_; exact h_
              have hji14y : (wrap64 (1 * 2 ^ min (ji12).toNat 64)) = ji14 := (i64_w _).symm.trans hji14_
              have hji14x : (ji12) ≤ 64 → (wrap64 (1 * 2 ^ (ji12).toNat)) = ji14 := fun h_ => (i64_w _).symm.trans (hji14z h_)
              by_cases c15 : t185 > (ji14)
              · rw [if_pos c15] at H
                have c15b0 : decide ((ji14) < t185) = true := decide_eq_true c15
                clear c15
                have c16b0 := eq_true (of_decide_eq_true (by first | (with_reducible assumption) | assumption) : 0 ≤ a1)
                by_cases c17 : x5_1.length < 17592186044416
                · rw [if_pos c17] at H
                  have LMc17 := Aside0.mk c17
                  clear c17
                  obtain ⟨y186, hy186⟩ : ∃ y_ : List Int, y_ = (x5_1 ++ [wrap64 (t185 - (ji10))]) := ⟨_, rfl⟩
                  replace H : (impl_windowed.l0 k1 (wrap64 (Int.tdiv (wrap64 (x0_1 - (wrap64 (t185 - (ji10))))) 2)) a1 y186) = some r := by first | (rw [hy186]; with_reducible exact H) | (have H2_ := (Option.bind_some _ _).symm.trans H; rw [hy186]; with_reducible exact H2_) | (have H2_ := (Option.bind_some _ _).symm.trans H; with_reducible exact H2_) | with_reducible exact H | (rw [hy186]; exact H) | exact H
                  have Ny186 := Aside0.mk hy186
                  clear hy186
                  have H' := Aside0.mk H
                  clear H
                  go_wp2_with (first | ((with_reducible refine gate_callee (f := 130) rfl ?_); refine goesL_ (some 18) rfl rfl Try.func130 (by kernel_rfl) rfl #[.int .i64 x0_1, .int .i64 ji10] rfl (by (try simp only [List.map_toArray, List.map_cons, List.map_nil]); first | done | (simp only [hji10]; rfl) | rfl | (simp only [List.length_drop, List.length_take]; rfl)) ?_; (with_reducible refine (impl_rest.calls x0_1 ji10 t185 _ A11.out).mono ?_); rintro e w' ⟨rfl, ⟨nd, rfl⟩⟩; refine ⟨_, rfl, ?_⟩) | ((with_reducible refine gate_builtin (b := .append) (xs := #[.tmp 31, .tmp 33]) rfl ?_); at_builtin; refine Kd.R_append (Kd.int .i64) (w0 := w) w.heap.size rfl (.tmp 31) (.tmp 33) 22 3 (.int .i64 0) 8 rfl Try.underlying22 info3 rfl (by decide) (by omega) u5 x5_1 (wrap64 (t185 - (ji10))) [.int .i64 (wrap64 (t185 - (ji10)))] (fun _ => True) (fun _ => False) rfl rfl ?aP (fun _ hk => hk.elim) ?aF ?aO ?aB ?aS ?aL ?_; (case aP => exact rfl); (case aB => exact (by repeat (first | (with_reducible first | exact HB.out | apply below_alloc | apply pw_below_drewN | apply below_drew1) | exact HB.out))); (case aF => exact (fun _ _ => trivial)); (case aO => exact (by (with_reducible repeat (first | apply Kd.R_alloc | apply Kd.R_drewN | apply Kd.R_drew)); exact HO_5.out)); (case aS => exact (below_size (by repeat (first | (with_reducible first | exact HB.out | apply below_alloc | apply pw_below_drewN | apply below_drew1) | exact HB.out)))); (case aL => have := LMc17.out; omega); intro v187 w18 ho hb hg hat; rw [← Ny186.out] at ho; have n0_ := Aside0.mk (hb); have n1_ := Aside0.mk (ho); clear HB; clear HO_5; have HB := n0_; have HO188 := n1_; clear n0_ n1_; clear ho hb hg hat))
                  go_roundg k1
                  case measure => have := HK1.out; omega
                  case rel => exact ⟨(wrap64 (Int.tdiv (wrap64 (x0_1 - (wrap64 (t185 - (ji10))))) 2)), (y186), (by first | rfl | (simp; done) | (simp only [← hji10] <;> (first | rfl | simp)) | (simp [*]; done)), H', ⟨by have := HK1.out; omega⟩, ⟨by (with_reducible repeat (first | apply Kd.R_alloc | apply Kd.R_drewN | apply Kd.R_drew)); exact HO188.out⟩, ⟨by repeat (first | (with_reducible first | exact HB.out | apply below_alloc | apply pw_below_drewN | apply below_drew1) | exact HB.out)⟩⟩
                · rw [if_neg c17] at H
                  exact absurd H (by simp)
              · rw [if_neg c15] at H
                have c15b0 : decide ((ji14) < t185) = false := decide_eq_false c15
                clear c15
                by_cases c19 : x5_1.length < 17592186044416
                · rw [if_pos c19] at H
                  have LMc19 := Aside0.mk c19
                  clear c19
                  obtain ⟨y189, hy189⟩ : ∃ y_ : List Int, y_ = (x5_1 ++ [t185]) := ⟨_, rfl⟩
                  replace H : (impl_windowed.l0 k1 (wrap64 (Int.tdiv (wrap64 (x0_1 - t185)) 2)) a1 y189) = some r := by first | (rw [hy189]; with_reducible exact H) | (have H2_ := (Option.bind_some _ _).symm.trans H; rw [hy189]; with_reducible exact H2_) | (have H2_ := (Option.bind_some _ _).symm.trans H; with_reducible exact H2_) | with_reducible exact H | (rw [hy189]; exact H) | exact H
                  have Ny189 := Aside0.mk hy189
                  clear hy189
                  have H' := Aside0.mk H
                  clear H
                  go_wp2_with (first | ((with_reducible refine gate_callee (f := 130) rfl ?_); refine goesL_ (some 18) rfl rfl Try.func130 (by kernel_rfl) rfl #[.int .i64 x0_1, .int .i64 ji10] rfl (by (try simp only [List.map_toArray, List.map_cons, List.map_nil]); first | done | (simp only [hji10]; rfl) | rfl | (simp only [List.length_drop, List.length_take]; rfl)) ?_; (with_reducible refine (impl_rest.calls x0_1 ji10 t185 _ A11.out).mono ?_); rintro e w' ⟨rfl, ⟨nd, rfl⟩⟩; refine ⟨_, rfl, ?_⟩) | ((with_reducible refine gate_builtin (b := .append) (xs := #[.tmp 31, .tmp 33]) rfl ?_); at_builtin; refine Kd.R_append (Kd.int .i64) (w0 := w) w.heap.size rfl (.tmp 31) (.tmp 33) 22 3 (.int .i64 0) 8 rfl Try.underlying22 info3 rfl (by decide) (by omega) u5 x5_1 t185 [.int .i64 t185] (fun _ => True) (fun _ => False) rfl rfl ?aP (fun _ hk => hk.elim) ?aF ?aO ?aB ?aS ?aL ?_; (case aP => exact rfl); (case aB => exact (by repeat (first | (with_reducible first | exact HB.out | apply below_alloc | apply pw_below_drewN | apply below_drew1) | exact HB.out))); (case aF => exact (fun _ _ => trivial)); (case aO => exact (by (with_reducible repeat (first | apply Kd.R_alloc | apply Kd.R_drewN | apply Kd.R_drew)); exact HO_5.out)); (case aS => exact (below_size (by repeat (first | (with_reducible first | exact HB.out | apply below_alloc | apply pw_below_drewN | apply below_drew1) | exact HB.out)))); (case aL => have := LMc19.out; omega); intro v190 w20 ho hb hg hat; rw [← Ny189.out] at ho; have n0_ := Aside0.mk (hb); have n1_ := Aside0.mk (ho); clear HB; clear HO_5; have HB := n0_; have HO191 := n1_; clear n0_ n1_; clear ho hb hg hat))
                  go_roundg k1
                  case measure => have := HK1.out; omega
                  case rel => exact ⟨(wrap64 (Int.tdiv (wrap64 (x0_1 - t185)) 2)), (y189), (by first | rfl | (simp; done) | (simp [*]; done)), H', ⟨by have := HK1.out; omega⟩, ⟨by (with_reducible repeat (first | apply Kd.R_alloc | apply Kd.R_drewN | apply Kd.R_drew)); exact HO191.out⟩, ⟨by repeat (first | (with_reducible first | exact HB.out | apply below_alloc | apply pw_below_drewN | apply below_drew1) | exact HB.out)⟩⟩
                · rw [if_neg c19] at H
                  exact absurd H (by simp)
            · rw [if_neg c13] at H
              exact absurd H (by simp)
          · rw [if_neg c9] at H
            exact absurd H (by simp)

/-! ### impl_addersOf: function 107 -/
/-- The places of the digits other than 0, as they come. -/
def plP (pre : List (Int × Int)) : List Int := (pre.filter fun p => p.2 != 0).map Prod.fst
theorem plP_snoc (pre : List (Int × Int)) (x : Int × Int) : plP (pre ++ [x]) = if x.2 = 0 then plP pre else plP pre ++ [x.1] := by
  unfold plP
  rw [List.filter_append]
  by_cases h : x.2 = 0
  · rw [if_pos h]; simp [h]
  · rw [if_neg h]; simp [h]
theorem plP_len (pre : List (Int × Int)) : (plP pre).length ≤ pre.length := by
  unfold plP
  rw [List.length_map]
  exact List.length_filter_le ..
def placesOf (D : List Int) : List Int := plP (YtafnnnpcochnnaaBack.pairs D)
/-- The k-th adder. -/
def adK (D P : List Int) (k : Nat) : S69 := ⟨(k : Int) - 1, if k = 1 then rd P 0 else 0, 0, rd P (k : Int), decide (rd D (rd P (k : Int)) < 0)⟩
def adTo (D P : List Int) (m : Nat) : List S69 := (List.range m).map fun j => adK D P (j + 1)
theorem adTo_succ (D P : List Int) (m : Nat) : adTo D P (m + 1) = adTo D P m ++ [adK D P (m + 1)] := by simp [adTo, List.range_succ]
theorem adTo_succ' (D P : List Int) (m : Nat) (h : 1 ≤ m) : adTo D P m = adTo D P (m - 1) ++ [adK D P m] := by
  obtain ⟨j, rfl⟩ : ∃ j, m = j + 1 := ⟨m - 1, by omega⟩
  rw [Nat.add_sub_cancel, adTo_succ]
theorem adTo_len (D P : List Int) (m : Nat) : (adTo D P m).length = m := by simp [adTo]
def adCells (x : S69) : List Value := [.int .i64 x.f0, .int .i64 x.f1, .int .i64 x.f2, .int .i64 x.f3, .bool x.f4]
theorem ao_info : (Try.prog.info? 3).map (fun i => (i.zero, i.size, i.bytes)) = some (some (.int .i64 0), 1, 8) := by kernel_rfl
theorem ao_info2 : (Try.prog.info? 69).map (fun i => (i.zero, i.size, i.bytes)) = some (some (.agg #[.int .i64 0, .int .i64 0, .int .i64 0, .int .i64 0, .bool false]), 5, 40) := by kernel_rfl
theorem ao_boxed_own {β : Type} (B : Nat) (t : TypeId) (v : Value) : Own (fun (_ : β) W => Boxed W B t v) := fun s X Y row hs hg hr => hs.kept hg (fun e => by
  obtain ⟨o, ho, hc⟩ := hr B e.symm
  rw [show X.heap[B]? = _ from hs] at ho
  cases ho
  cases hc)
theorem ao_blk_own {β : Type} (B : Nat) (cs : Array Value) (t : TypeId) : Own (fun (_ : β) W => W.heap[B]? = some (.cells cs t (0, 0))) := fun s X Y row hs hg hr => (hg.block B (blk_lt hs) (fun e => by
  obtain ⟨o, ho, hc⟩ := hr B e.symm
  rw [hs] at ho
  cases ho
  cases hc)).trans hs
theorem ao_apart {W : World} {b1 b2 e1 e2 s1 s2 n1 n2 : Nat} {v1 v2 : Value} {x1 x2 : List Value} (h1 : W.ownsRow b1 e1 s1 v1 n1 x1) (h2 : W.ownsRow b2 e2 s2 v2 n2 x2) (hne : e1 ≠ e2) : v1.ownBlock = none ∨ v1.ownBlock ≠ v2.ownBlock := by
  cases hv : v1.ownBlock with
  | none => exact .inl rfl
  | some k =>
    refine .inr fun e => ?_
    obtain ⟨c1, hc1⟩ := own_typed h1 k hv
    obtain ⟨c2, hc2⟩ := own_typed h2 k e.symm
    rw [hc1] at hc2
    injection hc2 with hc2
    injection hc2 with _ hc2
    exact hne hc2
theorem ao_end {wr W5 w1 : World} {α : Type} {R : α → List Value → Prop} {n0 B E k : Nat} {u v : Value} {xs : List Value} {ps : List α} (hbl : Below wr.heap.size wr W5) (hv : Boxed wr B 22 v) (hrow : wr.ownsRow n0 3 1 v k xs) (hE : wr.heap[E]? = some (.deferred (some [])))
    (hout : OwnRow R 69 5 wr n0 u ps) (hg : W5.grownBy w1 u.ownBlock) : Boxed w1 B 22 v ∧ w1.ownsRow n0 3 1 v k xs ∧ w1.heap[E]? = some (.deferred (some [])) := by
  have hv5 : Boxed W5 B 22 v := blk_below hv hbl
  have ho5 := hout.below hbl
  have hr5 := pw_own_below hrow hbl
  have hE5 := blk_below hE hbl
  obtain ⟨inner, hoi, _⟩ := ho5
  refine ⟨hv5.kept hg (hv5.not_row (by decide) hoi), own_other hr5 hg (own_type_ne hr5 hoi (by decide)), blk_grown hE5 hg ?_⟩
  intro e
  obtain ⟨cs, hcs⟩ := own_typed hoi E e.symm
  rw [hE5] at hcs
  cases hcs
theorem ao_R {w1 : World} {base n0 E : Nat} {v : Value} {xs : List S69} (h : OwnRow (fun (x : S69) cs => cs = adCells x) 69 5 w1 n0 v xs) (hb : base ≤ n0) (hE : w1.heap[E]? = some (.deferred (some []))) :
    Kd.R k69 69 (w1.putObj E (.deferred none)) base (fun _ => True) v xs := by
  obtain ⟨inner, ho, hr⟩ := h
  refine ⟨fun _ _ => trivial, inner, own_weaken (ownsRow_putObj ho (.deferred none) hE rfl) hb, hr.imp_ ?_⟩
  rintro p c rfl
  exact k69_mkM _ _ _ p
theorem placesP_range (D : List Int) : ∀ p ∈ placesOf D, 0 ≤ p ∧ p < (D.length : Int) := by
  intro p hp
  unfold placesOf plP YtafnnnpcochnnaaBack.pairs YtafnnnpcochnnaaBack.upto at hp
  rw [List.mem_map] at hp
  obtain ⟨x, hx, rfl⟩ := hp
  rw [List.mem_filter, List.mem_map] at hx
  obtain ⟨⟨k, hk, rfl⟩, _⟩ := hx
  rw [List.mem_range] at hk
  unfold YtafnnnpcochnnaaBack.pairAt
  dsimp only
  omega
theorem places_len (D : List Int) : (placesOf D).length ≤ D.length := by
  have := plP_len (YtafnnnpcochnnaaBack.pairs D)
  unfold placesOf
  have h2 : (YtafnnnpcochnnaaBack.pairs D).length = D.length := by unfold YtafnnnpcochnnaaBack.pairs; rw [YtafnnnpcochnnaaBack.upto_length]
  omega
attribute [local go_sem] Oper.semAt_some in
open Go.Shelf in
set_option maxRecDepth 100000 in
set_option maxHeartbeats 4000000 in
theorem addersOf_in (a0 : Int) (D : List Int) (hD2 : D.length ≤ 1000) (w : World)
    (H2 : ∀ W, Calls Try.prog 92 #[.int .i64 a0, .int .i64 2] W fun e w' => ∃ v, e = .returned v ∧ Kd.R (Kd.int .i64) 3 w' W.heap.size (fun _ => True) v D ∧ Below W.heap.size W w') :
    CallsIn Fence.wide 5 Try.prog 107 #[.int .i64 a0] w fun e W' => ∃ v, e = .returned v ∧ Kd.R k69 69 W' w.heap.size (fun _ => True) v (adTo D (placesOf D) ((placesOf D).length - 1)) ∧ Below w.heap.size w W' := by
  obtain ⟨i0, hi, hz0, hz1, hz2⟩ := info_parts ao_info
  obtain ⟨i5, hj, hy0, hy1, hy2⟩ := info_parts ao_info2
  refine callsIn_of_wp_marks (F := Fence.wide) Try.func107 rfl trivial ?_ rfl
  refine wpIn_wide.2 ?_
  simp only [Try.ntmps107, List.size_toArray, List.length_cons, List.length_nil, Nat.reduceAdd, Nat.reduceSub, Array.replicate_succ, Array.replicate_zero, List.push_toArray, List.append_toArray, List.nil_append, List.cons_append]
  have HB := Go.Lib.hid (Below.refl w.heap.size w)
  have H2' := Go.Lib.hid H2
  clear H2
  go_wp2_with (first
    | (go_at_call 92; refine (H2'.out _).mono ?_; rintro e w2 ⟨v0, rfl, hR_, hb_⟩; have n_ := Go.Lib.hid (below_step HB.out hb_); clear HB hb_; have HB := n_; clear n_; obtain ⟨A, c, rfl, hlc, hC_⟩ := Kd.R_reads hR_; have HC := Go.Lib.hid hC_; clear hR_ hC_)
    | (go_at_call 93; refine (callsIn_wide.1 (YtafnnnpcochnnaaBack.back_in Fence.wide 5 trivial rfl _ _ _ _)).mono ?_; rintro e w' ⟨rfl, rfl⟩))
  have hI : YtafnnnpcochnnaaBack.Ints w2.heap.size w2 (.slice A D.length c) D := YtafnnnpcochnnaaBack.ints_of HC.out (Nat.le_refl w2.heap.size) (c := c)
  have bO := Boxed.new ((w2.alloc (.cells #[] 69)).alloc (.cells #[] 3)) 22 (.slice (some ⟨w2.heap.size + 1, 0, none⟩) 0 0)
  rw [World.size_alloc, World.size_alloc] at bO
  have bB := blk_new (((w2.alloc (.cells #[] 69)).alloc (.cells #[] 3)).alloc (.cells #[.slice (some ⟨w2.heap.size + 1, 0, none⟩) 0 0] 22)) (.cells #[.slice A D.length c] 22)
  rw [World.size_alloc, World.size_alloc, World.size_alloc] at bB
  have hB0 : Below w2.heap.size w2 ((((w2.alloc (.cells #[] 69)).alloc (.cells #[] 3)).alloc (.cells #[.slice (some ⟨w2.heap.size + 1, 0, none⟩) 0 0] 22)).alloc (.cells #[.slice A D.length c] 22)) := ((((Below.refl _ w2).alloc (Nat.le_refl _) _).alloc (by simp) _).alloc (by simp; omega) _).alloc (by simp; omega) _
  have bA := blk_alloc (blk_alloc (blk_alloc (blk_new w2 (.cells #[] 69)) (.cells #[] 3)) (.cells #[.slice (some ⟨w2.heap.size + 1, 0, none⟩) 0 0] 22)) (.cells #[.slice A D.length c] 22)
  have ro : ((((w2.alloc (.cells #[] 69)).alloc (.cells #[] 3)).alloc (.cells #[.slice (some ⟨w2.heap.size + 1, 0, none⟩) 0 0] 22)).alloc (.cells #[.slice A D.length c] 22)).ownsRow w2.heap.size 3 1 (.slice (some ⟨w2.heap.size + 1, 0, none⟩) 0 0) 0 [] := by
    refine World.ownsRow.alloc (World.ownsRow.alloc ⟨rfl, .inr ⟨w2.heap.size + 1, 0, #[], rfl, Nat.le_succ _, ?_, Nat.le_refl _, by decide, rfl, rfl⟩⟩ _) _
    have := blk_new (w2.alloc (.cells #[] 69)) (.cells #[] 3)
    rw [World.size_alloc] at this
    exact this
  have hreach : D.length * 8 ≤ 140737488351232 := by omega
  have hpl := places_len D
  refine (wpIn_wide (n := 5)).1 ?_
  refine wpIn_rangeFunc_ownG (F := Fence.wide) (n := 5) rfl (by omega) (gf := 131) (lb := #[.pointer (some ⟨w2.heap.size + 1 + 1 + 1, 0, none⟩)]) rfl trivial (enters_of Try.func131 (by kernel_rfl) rfl)
    (YtafnnnpcochnnaaBack.back_stops Fence.wide (5 - 1) trivial rfl (by omega) (w2.heap.size + 1 + 1 + 1) w2.heap.size _ D hreach _ (by simp) (by simp; omega) bB (hI.below hB0)) YtafnnnpcochnnaaBack.KeepB.trans (YtafnnnpcochnnaaBack.keepB_b (by simp; omega)) (Below.refl _ _) (fun _ => rfl)
    (fun pre W => ((∃ v, Boxed W (w2.heap.size + 1 + 1) 22 v ∧ W.ownsRow w2.heap.size 3 1 v (plP pre).length ((plP pre).map (Value.int .i64)) ∧ True) ∧ Boxed W (w2.heap.size + 1 + 1 + 1) 22 (.slice A D.length c) ∧ W.heap[w2.heap.size]? = some (.cells #[] 69 (0, 0))) ∧ Below w2.heap.size w2 W)
    (fun _ _ _ => False)
    (OwnFrom.and (OwnFrom.and (Own.from (holdsRow_own w2.heap.size (w2.heap.size + 1 + 1) 22 3 1 (fun pre => (plP pre).length) (fun pre => (plP pre).map (Value.int .i64)) (fun _ _ => True)) _) (OwnFrom.and (Own.from (ao_boxed_own _ _ _) _) (Own.from (ao_blk_own _ _ _) _))) (ownFrom_below (Nat.le_refl _) (by simp; omega)))
    (fun _ _ _ _ _ hs _ _ => hs)
    ⟨⟨⟨_, bO.alloc _, by simpa [plP] using ro, trivial⟩, bB, bA⟩, hB0⟩
    (fun x => { tmps := #[.int .i64 a0, undef, .slice none 0 0, .slice A D.length c, .slice (some ⟨w2.heap.size, 0, none⟩) 0 0, .pointer (some ⟨w2.heap.size + 1 + 1, 0, none⟩), .int .i64 x.1, .int .i64 x.2, undef, undef, .int .i64 a0, .slice A D.length c, .slice (some ⟨w2.heap.size, 0, none⟩) 0 0, .slice (some ⟨w2.heap.size + 1, 0, none⟩) 0 0, .slice A D.length c, .func (.func 131) #[] #[.pointer (some ⟨w2.heap.size + 1 + 1 + 1, 0, none⟩)], .int .i64 x.1, .int .i64 x.2, undef, undef, undef, undef, undef, undef, undef, undef, undef, undef, undef, undef, undef, undef, undef, undef, undef, undef, undef, undef, undef, undef, undef, undef, undef, undef, undef, undef, undef, undef, undef, undef, undef, undef, undef, undef, undef, undef], defers := [] }) ?assign ?body ?done ?stop
  case assign =>
    intro l x W K hK
    gi_wp2
    exact hK
  case body =>
    rintro l pre x W ⟨⟨⟨v, hv, hrow, _⟩, hbb, hba⟩, hB⟩ hlt
    have hlen := plP_len pre
    have hcb := hv.cell
    have hfb := hv.frozen
    have hWs := hB.size
    have hstep := plP_snoc pre x
    obtain ⟨P, hP⟩ : ∃ P, plP pre = P := ⟨_, rfl⟩
    rw [hP] at hlen hrow hstep
    have hb1 : P.length + 1 ≤ maxLen := by simp only [maxLen]; omega
    have hb2' : (P.length + 1) * 8 ≤ 140737488355328 := by omega
    by_cases hd : x.2 = 0
    · have hd1 : (x.2 != 0) = false := by rw [hd]; rfl
      rw [if_pos hd] at hstep
      clear hlen hd
      gi_wp2
      exact ⟨(KeepsOthers.refl W).from _, YtafnnnpcochnnaaBack.KeepB.refl _ _ _, ⟨⟨⟨_, hv, by rw [hstep]; exact hrow, trivial⟩, hbb, hba⟩, hB⟩⟩
    · have hd1 : (x.2 != 0) = true := bne_iff_ne.mpr hd
      rw [if_neg hd] at hstep
      have hca : ∀ o, (W.alloc o).cell? ⟨w2.heap.size + 1 + 1, 0, none⟩ = some v := fun o => (hv.alloc o).cell
      clear hlen hd
      gi_wp2_with (gi_at_builtin; refine wpListIn_append_own _ rfl (.tmp 20) (.tmp 22) 22 rfl w2.heap.size 3 i0 (.int .i64 0) 1 8 Try.underlying22 hi hz0 hz1 hz2 rfl (by decide) _ P.length (P.map (Value.int .i64)) rfl (hrow.alloc _) ⟨W.heap.size, 0, none⟩ 1 1 [.int .i64 x.1] rfl rfl (by intro j u hj; exact cell_one_new W _ _ j u hj) (by simp [Value.oneCell']) hb1 hb2' (Nat.le_trans hWs (by simp)) ?_; intro v' w1 hown' hgrow _; obtain ⟨g', cap', rfl⟩ := ownsRow_succ hown'; obtain ⟨hv1, hv2, hr2, hk2, hb2⟩ := Boxed.appended (tmp := .cells #[.int .i64 x.1] 3) hv (by decide) hrow hWs (show w2.heap.size ≤ w2.heap.size + 1 + 1 by omega) hown' hgrow; have hbb2 := (((hbb.alloc _).kept hgrow (hbb.not_row (by decide) hrow)).other (B' := w2.heap.size + 1 + 1) (by omega) (.slice (some ⟨g', 0, none⟩) (P.length + 1) cap')); have hba2 := blk_far (blk_grown (blk_alloc hba (.cells #[.int .i64 x.1] 3)) hgrow (own_ne hrow hba (by decide))) (p := ⟨w2.heap.size + 1 + 1, 0, none⟩) (by dsimp only; omega) (.slice (some ⟨g', 0, none⟩) (P.length + 1) cap'); have hc1 := hv1.cell; have hf1 := hv1.frozen)
      exact ⟨hk2.from _, ⟨hb2, fun cs t fr e => by have e' := e.symm.trans hbb; cases e'; exact hbb2⟩, ⟨⟨⟨_, hv2, by rw [hstep, List.length_append, List.map_append]; exact hr2, trivial⟩, hbb2, hba2⟩, hB.trans hb2⟩⟩
  case done =>
    rintro E ys W hE rfl ⟨⟨⟨v, hv, hrow, _⟩, _, hba⟩, hB⟩ hK
    have hall : plP (YtafnnnpcochnnaaBack.pairs D) = placesOf D := rfl
    rw [hall] at hrow
    have hrange := placesP_range D
    obtain ⟨P, hP⟩ : ∃ P, placesOf D = P := ⟨_, rfl⟩
    rw [hP] at hrow hpl hrange
    have HPP := Go.Lib.hid hP
    clear hP
    have HV := Go.Lib.hid hv
    have HROW := Go.Lib.hid hrow
    have HBA := Go.Lib.hid hba
    have HBW := Go.Lib.hid hB
    have HRA := Go.Lib.hid hrange
    clear hv hrow hba hB hrange hall
    have hcv := HV.out.cell
    go_wp2
    go_loopw [4, 8] (fun u k W3 => ∃ m : Nat, 1 ≤ m ∧ (1 < m → m ≤ P.length) ∧ k = .int .i64 (m : Int) ∧ Boxed W3 (w2.heap.size + 1 + 1) 22 v ∧ W3.ownsRow w2.heap.size 3 1 v P.length (P.map (Value.int .i64)) ∧ OwnRow (fun (x : S69) cs => cs = adCells x) 69 5 W3 w2.heap.size u (adTo D P (m - 1)) ∧ Below w2.heap.size w2 W3 ∧ W3.heap[E]? = some (.deferred (some []))) (fun _ k _ => (P.length - intOf k).toNat)
    case atStart =>
      refine ⟨1, by omega, by omega, rfl, HV.out, HROW.out, ⟨[], ⟨rfl, .inr ⟨w2.heap.size, 0, #[], rfl, Nat.le_refl _, HBA.out, Nat.le_refl _, by decide, rfl, rfl⟩⟩, Reps.none _ _⟩, HBW.out, hK⟩
    case round =>
      obtain ⟨m, hm1, hm2, rfl, hv, hrow, hout, hB, hE3⟩ := hrel
      by_cases hlt : m < P.length
      · obtain ⟨q, hq⟩ : ∃ q, P.length = q + 1 := ⟨P.length - 1, by omega⟩
        obtain ⟨g, cap, hvf⟩ := ownsRow_succ (k := q) (by rw [← hq]; exact hrow)
        rw [← hq] at hvf
        subst hvf
        have hcb := hv.cell
        have hcm : wr.cell? ⟨g, m, none⟩ = some (.int .i64 (rd P (m : Int))) := by
          rw [hrow.cellAt m (by omega), List.getElem?_map, List.getElem?_eq_getElem hlt]
          simp [rd, hlt]
        have hc0 : wr.cell? ⟨g, 0, none⟩ = some (.int .i64 (rd P 0)) := by
          rw [hrow.cellAt 0 (by omega), List.getElem?_map, List.getElem?_eq_getElem (by omega)]
          simp [rd, show 0 < P.length by omega]
        have hfm := hrow.frozenAt m
        have hf0 := hrow.frozenAt 0
        have hrg := HRA.out (rd P (m : Int)) (by unfold rd; rw [Int.toNat_natCast, List.getD_eq_getElem?_getD, List.getElem?_eq_getElem hlt]; exact List.getElem_mem hlt)
        obtain ⟨ad, hA, hcd⟩ := Kd.at_int (Kd.C_below HC.out hB) (rd P (m : Int)) hrg.1 hrg.2
        subst hA
        have hfd : True := trivial
        obtain ⟨p, hp⟩ : ∃ p, rd P (m : Int) = p := ⟨_, rfl⟩
        have hadk : adK D P m = ⟨(m : Int) - 1, if m = 1 then rd P 0 else 0, 0, p, decide (rd D p < 0)⟩ := by unfold adK; rw [hp]
        rw [hp] at hcm hrg hcd
        have hr0 := hrg.1
        have hr1 := hrg.2
        have hm1000 : m ≤ 1000 := by omega
        have HRANGE := Go.Lib.hid (And.intro hm1 hm2)
        have HROW3 := Go.Lib.hid hrow
        have HOUT := Go.Lib.hid hout
        have HB3 := Go.Lib.hid hB
        have HE3 := Go.Lib.hid hE3
        have HV3 := Go.Lib.hid hv
        clear hrow hout hB hE3 hv hq hm2 hrg
        go_wp2
        have eg : wr.heap.size ≠ g := World.new_ne wr ⟨g, m, none⟩ hcm
        have eb : wr.heap.size ≠ w2.heap.size + 1 + 1 := World.new_ne wr ⟨w2.heap.size + 1 + 1, 0, none⟩ hcb
        have ea : wr.heap.size ≠ (ad.add p.toNat).block := World.new_ne wr (ad.add p.toNat) hcd
        go_region_held3 (fun w' => w'.cell? ⟨w2.heap.size + 1 + 1, 0, none⟩ = some (.slice (some ⟨g, 0, none⟩) P.length cap) ∧ w'.cell? ⟨g, m, none⟩ = some (.int .i64 p) ∧ w'.cell? (ad.add p.toNat) = some (.int .i64 (rd D p))) (go_keep) (fail)
        obtain ⟨W4, hW4⟩ : ∃ W4, (wr.alloc (.cells #[.int .i64 (IntKind.i64.wrap ((m : Int) - 1)), .int .i64 0, .int .i64 0, .int .i64 p, .bool (decide (rd D p < 0))] 69)).drew = W4 := ⟨_, rfl⟩
        have hbx : W4.heap[wr.heap.size]? = some (.cells #[.int .i64 (IntKind.i64.wrap ((m : Int) - 1)), .int .i64 0, .int .i64 0, .int .i64 p, .bool (decide (rd D p < 0))] 69 (0, 0)) := by rw [← hW4]; exact blk_drew (blk_new wr _)
        have hbl : Below wr.heap.size wr W4 := by rw [← hW4]; exact ((Below.refl _ _).alloc (Nat.le_refl _) _).drew
        rw [hW4]
        clear hW4
        rw [show IntKind.i64.wrap ((m : Int) - 1) = (m : Int) - 1 from IntWalk.i64_in _ (by omega)] at hbx ⊢
        have hcb4 : W4.cell? ⟨w2.heap.size + 1 + 1, 0, none⟩ = some (.slice (some ⟨g, 0, none⟩) P.length cap) := Boxed.cell (blk_below HV3.out hbl)
        have hc04 : W4.cell? ⟨g, 0, none⟩ = some (.int .i64 (rd P 0)) := by
          have hq0 : 0 < P.length := by omega
          rw [(pw_own_below HROW3.out hbl).cellAt 0 (by omega), List.getElem?_map, List.getElem?_eq_getElem hq0]
          simp [rd, hq0]
        have hf04 : W4.frozen? ⟨g, 0, none⟩ = false := (pw_own_below HROW3.out hbl).frozenAt 0
        have hx0 : W4.cell? ⟨wr.heap.size, 0, none⟩ = some (.int .i64 ((m : Int) - 1)) := by rw [blk_cell hbx]; rfl
        have hx1 : W4.cell? ⟨wr.heap.size, 1, none⟩ = some (.int .i64 0) := by rw [blk_cell hbx]; rfl
        have hx2 : W4.cell? ⟨wr.heap.size, 2, none⟩ = some (.int .i64 0) := by rw [blk_cell hbx]; rfl
        have hx3 : W4.cell? ⟨wr.heap.size, 3, none⟩ = some (.int .i64 p) := by rw [blk_cell hbx]; rfl
        have hx4 : W4.cell? ⟨wr.heap.size, 4, none⟩ = some (.bool (decide (rd D p < 0))) := by rw [blk_cell hbx]; rfl
        have hxf : ∀ i, W4.frozen? ⟨wr.heap.size, i, none⟩ = false := blk_frozen hbx
        have hxf1 := hxf 1
        obtain ⟨s, hs⟩ : ∃ s, adTo D P (m - 1) ++ [adK D P m] = s := ⟨_, rfl⟩
        have HSN := Go.Lib.hid (show adTo D P (m + 1 - 1) = s by rw [← hs, ← adTo_succ', Nat.add_sub_cancel]; exact hm1)
        have HS := Go.Lib.hid hs
        clear hs
        have HXF := Go.Lib.hid hxf
        have HADK := Go.Lib.hid hadk
        have hxf0 := hxf 0
        clear hxf
        by_cases hmm : m = 1
        · subst hmm
          have hp0 : 1 < P.length := hlt
          have hbl5 : Below wr.heap.size wr (W4.setCell ⟨wr.heap.size, 1, none⟩ (.int .i64 (rd P 0))) := hbl.setCell (Nat.le_refl _) _
          have HSZ := Go.Lib.hid (show (Value.slice (some ⟨W4.heap.size, 0, none⟩) 1 1) = .slice (some ⟨(W4.setCell ⟨wr.heap.size, 1, none⟩ (.int .i64 (rd P 0))).heap.size, 0, none⟩) 1 1 by simp)
          have HONE := Go.Lib.hid (show ∀ u ∈ ([.int .i64 0, .int .i64 (rd P 0), .int .i64 0, .int .i64 p, .bool (decide (rd D p < 0))] : List Value), u.oneCell' = true by simp [Value.oneCell'])
          have HLE := Go.Lib.hid (show ((adTo D P (1 - 1)).length + 1) * 40 ≤ 140737488355328 by rw [adTo_len]; omega)
          have HPK := Go.Lib.hid (show ([.int .i64 0, .int .i64 (rd P 0), .int .i64 0, .int .i64 p, .bool (decide (rd D p < 0))] : List Value) = adCells (adK D P 1) by rw [hadk]; simp [adCells])
          go_wp2_with (at_builtin; (refine OwnRow.append (W := W4.setCell ⟨wr.heap.size, 1, none⟩ (.int .i64 (rd P 0))) w2.heap.size rfl (.tmp 51) (.tmp 53) 41 69 (.agg #[.int .i64 0, .int .i64 0, .int .i64 0, .int .i64 0, .bool false]) 5 40 rfl Try.underlying41 ao_info2 rfl (Nat.zero_lt_succ 4) (Nat.zero_lt_succ 39) u4 (adTo D P (1 - 1)) (adK D P 1) [.int .i64 0, .int .i64 (rd P 0), .int .i64 0, .int .i64 p, .bool (decide (rd D p < 0))] rfl ?hx HPK.out rfl HONE.out (HOUT.out.below hbl5) (HB3.out.trans (hbl5.mono HB3.out.size)) (Nat.le_trans HB3.out.size hbl5.size) HLE.out ?_; (case hx => first | exact rfl | exact HSZ.out | (simp; done)); intro v1 w1 hown1 hb1 hg1 _; obtain ⟨nv, nr, nE⟩ := ao_end hbl5 HV3.out HROW3.out HE3.out HOUT.out hg1))
          exact ⟨⟨2, by omega, fun _ => by omega, rfl, nv, nr, by rw [HSN.out, ← HS.out]; exact hown1, hb1, nE⟩, by simp only [intOf]; omega⟩
        · have hm2 : ¬ ((m : Int) = 1) := by omega
          have HONE := Go.Lib.hid (show ∀ u ∈ ([.int .i64 ((m : Int) - 1), .int .i64 0, .int .i64 0, .int .i64 p, .bool (decide (rd D p < 0))] : List Value), u.oneCell' = true by simp [Value.oneCell'])
          have HLE := Go.Lib.hid (show ((adTo D P (m - 1)).length + 1) * 40 ≤ 140737488355328 by rw [adTo_len]; omega)
          have HPK := Go.Lib.hid (show ([.int .i64 ((m : Int) - 1), .int .i64 0, .int .i64 0, .int .i64 p, .bool (decide (rd D p < 0))] : List Value) = adCells (adK D P m) by rw [hadk, if_neg hmm]; rfl)
          go_wp2_with (at_builtin; refine OwnRow.append (W := W4) w2.heap.size rfl (.tmp 51) (.tmp 53) 41 69 (.agg #[.int .i64 0, .int .i64 0, .int .i64 0, .int .i64 0, .bool false]) 5 40 rfl Try.underlying41 ao_info2 rfl (Nat.zero_lt_succ 4) (Nat.zero_lt_succ 39) u4 (adTo D P (m - 1)) (adK D P m) [.int .i64 ((m : Int) - 1), .int .i64 0, .int .i64 0, .int .i64 p, .bool (decide (rd D p < 0))] rfl ?hx HPK.out rfl HONE.out (HOUT.out.below hbl) (HB3.out.trans (hbl.mono HB3.out.size)) (Nat.le_trans HB3.out.size hbl.size) HLE.out ?_; (case hx => first | exact rfl | exact HSZ.out | (simp; done)); intro v1 w1 hown1 hb1 hg1 _; obtain ⟨nv, nr, nE⟩ := ao_end hbl HV3.out HROW3.out HE3.out HOUT.out hg1)
          exact ⟨⟨m + 1, by omega, fun _ => by omega, by rw [Int.natCast_add, Int.natCast_one], nv, nr, by rw [HSN.out, ← HS.out]; exact hown1, hb1, nE⟩, by simp only [intOf]; omega⟩
      · have hlen : m - 1 = P.length - 1 := by
          by_cases h : 1 < m
          · have := hm2 h; omega
          · omega
        rw [hlen] at hout
        have hcb := hv.cell
        obtain ⟨Av, cv, hvv⟩ := own_slice hrow
        have hfall : ¬ ((m : Int) < (P.length : Int)) := by omega
        subst hvv
        have HOUT := Go.Lib.hid hout
        have HB3 := Go.Lib.hid hB
        have HE3 := Go.Lib.hid hE3
        clear hout hB hE3 hrow hv hm2 hlen hlt
        go_wp2
        have hE2 : w.heap.size ≤ E := by have := HB.out.size; simp at hE; omega
        refine ⟨by simp, .inl ⟨_, _, rfl, run_takeDeferred HE3.out, ?_⟩⟩
        exact ⟨_, results_tmp rfl _ _ _, _, rfl, by rw [HPP.out]; exact ao_R HOUT.out HB.out.size HE3.out, (below_step HB.out HB3.out).trans (belowK_b (w := w) (Nat.le_refl _) wr E _ _ hE2 HE3.out rfl rfl)⟩
  case stop =>
    rintro D c pre W _ _ h _
    exact h.elim
def impl_addersOf.f (k : Nat) (a0 : Int) : Option (List S69) := (impl_windowed.f k a0 2).bind fun D => if D.length ≤ 1000 then some (adTo D (placesOf D) ((placesOf D).length - 1)) else none
theorem impl_addersOf.calls (k : Nat) (a0 : Int) (r : List S69) (w : World) (h : impl_addersOf.f k a0 = some r) :
    Calls Try.prog 107 #[.int .i64 a0] w fun e w' => ∃ v0_ : Value, e = .returned v0_ ∧ Kd.R k69 69 w' w.heap.size (fun _ => True) v0_ r ∧ Below w.heap.size w w' := by
  unfold impl_addersOf.f at h
  obtain ⟨D, hD, h⟩ := Option.bind_eq_some_iff.mp h
  by_cases h2 : D.length ≤ 1000
  · rw [if_pos h2] at h
    cases h
    exact callsIn_wide.1 (addersOf_in a0 D h2 w (fun W => impl_windowed.calls k a0 2 D W hD))
  · rw [if_neg h2] at h; cases h
theorem impl_addersOf.mono : ∀ (a0 : Int) (k : Nat), LeO (impl_addersOf.f k a0) (impl_addersOf.f (k + 1) a0) := by
  intro a0 k
  unfold impl_addersOf.f
  repeat' first
    | (with_reducible exact impl_windowed.mono _ _ _)
    | (with_reducible exact LeO.refl _)
    | (with_reducible refine LeO.ite ?_ ?_)
    | (with_reducible refine LeO.bind ?_ (fun _ => ?_))

/-! ### impl_AddersOf: function 35 -/
def impl_AddersOf.f : Nat → Int → Option ((List (S69)) × Bool)
  | 0, _ => none
  | k + 1, a0 => (impl_signedOk.f a0).bind fun t192 => (if t192 = true then (if a0 = 0 then (some ((([(⟨0, 0, 0, 0, true⟩ : S69)] : List (S69))), true)) else (if a0 = 1 then (some (([] : List (S69)), true)) else (if a0 < 0 then ((impl_AddersOf.f k (wrap64 (-a0))).bind fun bt196 => (if bt196.1.length < 3518437208883 then (some ((bt196.1 ++ [(⟨(bt196.1.length : Int), 0, (bt196.1.length : Int), 1, true⟩ : S69)]), bt196.2)) else (none))) else (if (Go.bits .and .i64 a0 (wrap64 (a0 - 1))) = 0 then ((impl_digits.f k a0 2).bind fun t203 => (some ((([(⟨0, wrap64 ((t203.length : Int) - 2), 0, wrap64 ((t203.length : Int) - 2), false⟩ : S69)] : List (S69))), true))) else ((impl_addersOf.f k a0).bind fun t209 => (some (t209, true))))))) else (some (([] : List (S69)), false)))
theorem impl_AddersOf.mono_l : ∀ k, (∀ y0, LeO (impl_AddersOf.f k y0) (impl_AddersOf.f (k + 1) y0))
  | 0 => fun _ r h => by simp [impl_AddersOf.f] at h
  | k + 1 => by
    have ih0 := impl_AddersOf.mono_l k
    · intro y0
      unfold impl_AddersOf.f
      repeat' first
      | (with_reducible exact ih0 _)
      | (with_reducible exact impl_addersOf.mono _ _)
      | (with_reducible exact impl_digits.mono _ _ _)
      | (with_reducible exact LeO.refl _)
      | (with_reducible exact LeO.none _)
      | (with_reducible refine LeO.ite ?_ ?_)
      | (with_reducible refine LeO.bind ?_ (fun _ => ?_))
      | exact ih0 _
      | exact impl_addersOf.mono _ _
      | exact impl_digits.mono _ _ _
      | exact LeO.none _
      | refine LeO.ite ?_ ?_
      | refine LeO.bind ?_ (fun _ => ?_)
theorem impl_AddersOf.mono : ∀ a0 k, LeO (impl_AddersOf.f k a0) (impl_AddersOf.f (k + 1) a0) := by
  intro a0 k
  have ih0 := impl_AddersOf.mono_l k
  exact ih0 a0
set_option maxHeartbeats 8000000 in
set_option maxRecDepth 100000 in
theorem impl_AddersOf.calls (k : Nat) : ∀ (a0 : Int) (r1 : List (S69)) (r2 : Bool) (w : World) (h : impl_AddersOf.f k a0 = some (r1, r2)),
    Calls Try.prog 35 #[.int .i64 a0] w fun e w' => ∃ v0_ : Value, e = .returned (.tuple #[v0_, .bool r2]) ∧ Kd.R k69 69 w' w.heap.size (fun _ => True) v0_ r1 ∧ Below w.heap.size w w' := by
  induction k using Nat.strongRecOn with
  | _ k ih =>
  intro a0 r1 r2 w h
  cases k with
  | zero => exact absurd h (by simp [impl_AddersOf.f])
  | succ k =>
  simp only [impl_AddersOf.f] at h
  have hu69 := Try.underlying69
  have HB := Aside0.mk (Below.refl w.heap.size w)
  have H : ((impl_signedOk.f a0).bind fun t192 => (if t192 = true then (if a0 = 0 then (some ((([(⟨0, 0, 0, 0, true⟩ : S69)] : List (S69))), true)) else (if a0 = 1 then (some (([] : List (S69)), true)) else (if a0 < 0 then ((impl_AddersOf.f k (wrap64 (-a0))).bind fun bt196 => (if bt196.1.length < 3518437208883 then (some ((bt196.1 ++ [(⟨(bt196.1.length : Int), 0, (bt196.1.length : Int), 1, true⟩ : S69)]), bt196.2)) else (none))) else (if (Go.bits .and .i64 a0 (wrap64 (a0 - 1))) = 0 then ((impl_digits.f k a0 2).bind fun t203 => (some ((([(⟨0, wrap64 ((t203.length : Int) - 2), 0, wrap64 ((t203.length : Int) - 2), false⟩ : S69)] : List (S69))), true))) else ((impl_addersOf.f k a0).bind fun t209 => (some (t209, true))))))) else (some (([] : List (S69)), false)))) = some (r1, r2) := h
  clear h
  replace H := Option.bind_eq_some_iff.mp H
  obtain ⟨t192, A20, H⟩ := H
  replace H : (if t192 = true then (if a0 = 0 then (some ((([(⟨0, 0, 0, 0, true⟩ : S69)] : List (S69))), true)) else (if a0 = 1 then (some (([] : List (S69)), true)) else (if a0 < 0 then ((impl_AddersOf.f k (wrap64 (-a0))).bind fun bt196 => (if bt196.1.length < 3518437208883 then (some ((bt196.1 ++ [(⟨(bt196.1.length : Int), 0, (bt196.1.length : Int), 1, true⟩ : S69)]), bt196.2)) else (none))) else (if (Go.bits .and .i64 a0 (wrap64 (a0 - 1))) = 0 then ((impl_digits.f k a0 2).bind fun t203 => (some ((([(⟨0, wrap64 ((t203.length : Int) - 2), 0, wrap64 ((t203.length : Int) - 2), false⟩ : S69)] : List (S69))), true))) else ((impl_addersOf.f k a0).bind fun t209 => (some (t209, true))))))) else (some (([] : List (S69)), false))) = some (r1, r2) := H
  have A2 := Aside0.mk A20
  clear A20
  by_cases c3 : t192 = true
  · subst c3
    have H1 : (if a0 = 0 then (some ((([(⟨0, 0, 0, 0, true⟩ : S69)] : List (S69))), true)) else (if a0 = 1 then (some (([] : List (S69)), true)) else (if a0 < 0 then ((impl_AddersOf.f k (wrap64 (-a0))).bind fun bt196 => (if bt196.1.length < 3518437208883 then (some ((bt196.1 ++ [(⟨(bt196.1.length : Int), 0, (bt196.1.length : Int), 1, true⟩ : S69)]), bt196.2)) else (none))) else (if (Go.bits .and .i64 a0 (wrap64 (a0 - 1))) = 0 then ((impl_digits.f k a0 2).bind fun t203 => (some ((([(⟨0, wrap64 ((t203.length : Int) - 2), 0, wrap64 ((t203.length : Int) - 2), false⟩ : S69)] : List (S69))), true))) else ((impl_addersOf.f k a0).bind fun t209 => (some (t209, true))))))) = some (r1, r2) := by rw [if_pos rfl] at H; exact H
    clear H
    have H := H1
    clear H1
    by_cases c4 : a0 = 0
    · rw [if_pos c4] at H
      have c4b0 : (a0 == 0) = true := beq_iff_eq.mpr c4
      have c4b1 : (a0 != 0) = false := bne_eq_false_iff_eq.mpr c4
      clear c4
      obtain ⟨y193, hy193⟩ : ∃ y_ : List (S69), y_ = (([(⟨0, 0, 0, 0, true⟩ : S69)] : List (S69))) := ⟨_, rfl⟩
      replace H : (some (y193, true)) = some (r1, r2) := by first | (rw [hy193]; with_reducible exact H) | (have H2_ := (Option.bind_some _ _).symm.trans H; rw [hy193]; with_reducible exact H2_) | (have H2_ := (Option.bind_some _ _).symm.trans H; with_reducible exact H2_) | with_reducible exact H | (rw [hy193]; exact H) | exact H
      have Ny193 := Aside0.mk hy193
      clear hy193
      simp only [Option.some.injEq, Prod.mk.injEq] at H
      obtain ⟨rfl, rfl⟩ := H
      go_enter Try.func35, Try.ntmps35
      go_wp2_with (first | ((with_reducible refine gate_callee (f := 88) rfl ?_); refine goesL_ (some 9) rfl rfl Try.func88 (by kernel_rfl) rfl #[.int .i64 a0] rfl (by (try simp only [List.map_toArray, List.map_cons, List.map_nil]); first | done | rfl | (simp only [List.length_drop, List.length_take]; rfl)) ?_; (with_reducible refine (impl_signedOk.calls a0 true _ A2.out).mono ?_); rintro e w' ⟨rfl, ⟨nd, rfl⟩⟩; refine ⟨_, rfl, ?_⟩) | ((with_reducible refine gate_dst (N := 15) rfl ?_); refine Kd.R_lit k69 _ 69 ?hg (N := 15) ?hd (xs := ([(⟨0, 0, 0, 0, true⟩ : S69)] : List (S69))) (inner := [.int .i64 0, .int .i64 0, .int .i64 0, .int .i64 0, .bool true]) (ok := fun _ => True) (okp := fun _ => True) ?hr ?hp (fun _ hk => hk) trivial (Below.refl _ _) (Nat.le_refl _) (by simp) ?_; (case hd => rfl); (case hg => rfl); (case hr => first | (go_simp; done) | (go_simp; rfl)); (case hp => exact (Reps.c5 (show Kd.M k69 _ _ _ (⟨0, 0, 0, 0, true⟩ : S69) [.int .i64 0, .int .i64 0, .int .i64 0, .int .i64 0, .bool true] from (k69_mkM _ _ _ (⟨0, 0, 0, 0, true⟩ : S69) )) (Reps.none _ _))); intro v194 w5 ho6 hb hg_ hnew_; clear hg_ hnew_; (first | rw [← Ny193.out] at ho6 | (simp only [Int.reduceToNat] at ho6; rw [← Ny193.out] at ho6)); have n0_ := Aside0.mk (Kd.R_lower ho6 (below_size (by repeat (first | (with_reducible first | exact HB.out | apply below_alloc | apply pw_below_drewN | apply below_drew1) | exact HB.out)))); have n1_ := Aside0.mk (below_step (by repeat (first | (with_reducible first | exact HB.out | apply below_alloc | apply pw_below_drewN | apply below_drew1) | exact HB.out)) hb); clear HB; have HO195 := n0_; have HB := n1_; clear n0_ n1_; clear hb ho6))
      go_ret2
      exact ⟨_, by first | rfl | (simp [errW_none, errW_some] <;> rfl) | (simp [*, errW_none, errW_some] <;> rfl), by (with_reducible repeat (first | apply Kd.R_alloc | apply Kd.R_drewN | apply Kd.R_drew)); exact HO195.out, by repeat (first | (with_reducible first | exact HB.out | apply below_alloc | apply pw_below_drewN | apply below_drew1) | exact HB.out)⟩
    · rw [if_neg c4] at H
      have c4b0 : (a0 == 0) = false := beq_eq_false_iff_ne.mpr c4
      have c4b1 : (a0 != 0) = true := bne_iff_ne.mpr c4
      by_cases c7 : a0 = 1
      · rw [if_pos c7] at H
        have c7b0 : (a0 == 1) = true := beq_iff_eq.mpr c7
        have c7b1 : (a0 != 1) = false := bne_eq_false_iff_eq.mpr c7
        clear c7
        simp only [Option.some.injEq, Prod.mk.injEq] at H
        obtain ⟨rfl, rfl⟩ := H
        go_enter Try.func35, Try.ntmps35
        go_wp2_with (first | ((with_reducible refine gate_callee (f := 88) rfl ?_); refine goesL_ (some 9) rfl rfl Try.func88 (by kernel_rfl) rfl #[.int .i64 a0] rfl (by (try simp only [List.map_toArray, List.map_cons, List.map_nil]); first | done | rfl | (simp only [List.length_drop, List.length_take]; rfl)) ?_; (with_reducible refine (impl_signedOk.calls a0 true _ A2.out).mono ?_); rintro e w' ⟨rfl, ⟨nd, rfl⟩⟩; refine ⟨_, rfl, ?_⟩))
        go_ret2
        exact ⟨_, by first | rfl | (simp [errW_none, errW_some] <;> rfl) | (simp [*, errW_none, errW_some] <;> rfl), by first | exact Kd.R_nil _ _ _ _ _ | exact Kd.N_nil _ _ _ _ _ | exact Kd.V_nil _ _ _ _ _ | exact Kd.Q_nil _ _ _ _ _ | exact Kd.S_nil _ _ _ _ _, by repeat (first | (with_reducible first | exact HB.out | apply below_alloc | apply pw_below_drewN | apply below_drew1) | exact HB.out)⟩
      · rw [if_neg c7] at H
        have c7b0 : (a0 == 1) = false := beq_eq_false_iff_ne.mpr c7
        have c7b1 : (a0 != 1) = true := bne_iff_ne.mpr c7
        by_cases c8 : a0 < 0
        · rw [if_pos c8] at H
          have c8b0 : decide (a0 < 0) = true := decide_eq_true c8
          clear c8
          replace H := Option.bind_eq_some_iff.mp H
          obtain ⟨⟨t196, t197⟩, A90, H⟩ := H
          replace H : (if t196.length < 3518437208883 then (some ((t196 ++ [(⟨(t196.length : Int), 0, (t196.length : Int), 1, true⟩ : S69)]), t197)) else (none)) = some (r1, r2) := H
          have A9 := Aside0.mk A90
          clear A90
          by_cases c10 : t196.length < 3518437208883
          · rw [if_pos c10] at H
            have LMc10 := Aside0.mk c10
            clear c10
            obtain ⟨y200, hy200⟩ : ∃ y_ : List (S69), y_ = (t196 ++ [(⟨(t196.length : Int), 0, (t196.length : Int), 1, true⟩ : S69)]) := ⟨_, rfl⟩
            replace H : (some (y200, t197)) = some (r1, r2) := by first | (rw [hy200]; with_reducible exact H) | (have H2_ := (Option.bind_some _ _).symm.trans H; rw [hy200]; with_reducible exact H2_) | (have H2_ := (Option.bind_some _ _).symm.trans H; with_reducible exact H2_) | with_reducible exact H | (rw [hy200]; exact H) | exact H
            have Ny200 := Aside0.mk hy200
            clear hy200
            simp only [Option.some.injEq, Prod.mk.injEq] at H
            obtain ⟨rfl, rfl⟩ := H
            go_enter Try.func35, Try.ntmps35
            go_wp2_with (first | ((with_reducible refine gate_callee (f := 88) rfl ?_); refine goesL_ (some 9) rfl rfl Try.func88 (by kernel_rfl) rfl #[.int .i64 a0] rfl (by (try simp only [List.map_toArray, List.map_cons, List.map_nil]); first | done | rfl | (simp only [List.length_drop, List.length_take]; rfl)) ?_; (with_reducible refine (impl_signedOk.calls a0 true _ A2.out).mono ?_); rintro e w' ⟨rfl, ⟨nd, rfl⟩⟩; refine ⟨_, rfl, ?_⟩) | ((with_reducible refine gate_callee (f := 35) rfl ?_); refine goesL_ (some 25) rfl rfl Try.func35 (by kernel_rfl) rfl #[.int .i64 (wrap64 (-a0))] rfl (by (try simp only [List.map_toArray, List.map_cons, List.map_nil]); first | done | rfl | (simp only [List.length_drop, List.length_take]; rfl)) ?_; (with_reducible refine (ih k (by omega) (wrap64 (-a0)) t196 t197 _ A9.out).mono ?_); rintro e w11 ⟨v198, rfl, ho0, hb⟩; refine ⟨_, rfl, ?_⟩; have n0_ := Aside0.mk (Kd.R_lower ho0 (below_size (by repeat (first | (with_reducible first | exact HB.out | apply below_alloc | apply pw_below_drewN | apply below_drew1) | exact HB.out)))); have n1_ := Aside0.mk (below_step (by repeat (first | (with_reducible first | exact HB.out | apply below_alloc | apply pw_below_drewN | apply below_drew1) | exact HB.out)) hb); clear HB; have HO199 := n0_; have HB := n1_; clear n0_ n1_; (try clear hb); (try clear hb2); (try clear hk); (try clear hi); (try clear ho0); obtain ⟨Ao12, co12, eo12⟩ := Kd.R_slice HO199.out; subst eo12) | ((with_reducible refine gate_builtin (b := .append) (xs := #[.tmp 30, .tmp 34]) rfl ?_); at_builtin; refine Kd.R_append k69 (w0 := w) w.heap.size rfl (.tmp 30) (.tmp 34) 41 69 (.agg #[(.int .i64 0), (.int .i64 0), (.int .i64 0), (.int .i64 0), (.bool false)]) 40 rfl Try.underlying41 info69 rfl (by decide) (by omega) (.slice Ao12 t196.length co12) t196 (⟨(t196.length : Int), 0, (t196.length : Int), 1, true⟩ : S69) [.int .i64 (t196.length : Int), .int .i64 0, .int .i64 (t196.length : Int), .int .i64 1, .bool true] (fun _ => True) (fun _ => False) rfl rfl ?aP (fun _ hk => hk.elim) ?aF ?aO ?aB ?aS ?aL ?_; (case aP => exact k69_mkM _ _ _ (⟨(t196.length : Int), 0, (t196.length : Int), 1, true⟩ : S69)); (case aB => exact (by repeat (first | (with_reducible first | exact HB.out | apply below_alloc | apply pw_below_drewN | apply below_drew1) | exact HB.out))); (case aF => exact (fun _ _ => trivial)); (case aO => exact (by (with_reducible repeat (first | apply Kd.R_alloc | apply Kd.R_drewN | apply Kd.R_drew)); exact HO199.out)); (case aS => exact (below_size (by repeat (first | (with_reducible first | exact HB.out | apply below_alloc | apply pw_below_drewN | apply below_drew1) | exact HB.out)))); (case aL => have := LMc10.out; omega); intro v201 w13 ho hb hg hat; rw [← Ny200.out] at ho; have n0_ := Aside0.mk (hb); have n1_ := Aside0.mk (ho); clear HB; clear HO199; have HB := n0_; have HO202 := n1_; clear n0_ n1_; clear ho hb hg hat))
            go_ret2
            exact ⟨_, by first | rfl | (simp [errW_none, errW_some] <;> rfl) | (simp [*, errW_none, errW_some] <;> rfl), by (with_reducible repeat (first | apply Kd.R_alloc | apply Kd.R_drewN | apply Kd.R_drew)); exact HO202.out, by repeat (first | (with_reducible first | exact HB.out | apply below_alloc | apply pw_below_drewN | apply below_drew1) | exact HB.out)⟩
          · rw [if_neg c10] at H
            exact absurd H (by simp)
        · rw [if_neg c8] at H
          have c8b0 : decide (a0 < 0) = false := decide_eq_false c8
          clear c8
          by_cases c14 : (Go.bits .and .i64 a0 (wrap64 (a0 - 1))) = 0
          · rw [if_pos c14] at H
            have c14b0 : ((Go.bits .and .i64 a0 (wrap64 (a0 - 1))) == 0) = true := beq_iff_eq.mpr c14
            have c14b1 : ((Go.bits .and .i64 a0 (wrap64 (a0 - 1))) != 0) = false := bne_eq_false_iff_eq.mpr c14
            clear c14
            replace H := Option.bind_eq_some_iff.mp H
            obtain ⟨t203, A150, H⟩ := H
            replace H : (some ((([(⟨0, wrap64 ((t203.length : Int) - 2), 0, wrap64 ((t203.length : Int) - 2), false⟩ : S69)] : List (S69))), true)) = some (r1, r2) := H
            have A15 := Aside0.mk A150
            clear A150
            obtain ⟨y206, hy206⟩ : ∃ y_ : List (S69), y_ = (([(⟨0, wrap64 ((t203.length : Int) - 2), 0, wrap64 ((t203.length : Int) - 2), false⟩ : S69)] : List (S69))) := ⟨_, rfl⟩
            replace H : (some (y206, true)) = some (r1, r2) := by first | (rw [hy206]; with_reducible exact H) | (have H2_ := (Option.bind_some _ _).symm.trans H; rw [hy206]; with_reducible exact H2_) | (have H2_ := (Option.bind_some _ _).symm.trans H; with_reducible exact H2_) | with_reducible exact H | (rw [hy206]; exact H) | exact H
            have Ny206 := Aside0.mk hy206
            clear hy206
            simp only [Option.some.injEq, Prod.mk.injEq] at H
            obtain ⟨rfl, rfl⟩ := H
            go_enter Try.func35, Try.ntmps35
            go_wp2_with (first | ((with_reducible refine gate_callee (f := 88) rfl ?_); refine goesL_ (some 9) rfl rfl Try.func88 (by kernel_rfl) rfl #[.int .i64 a0] rfl (by (try simp only [List.map_toArray, List.map_cons, List.map_nil]); first | done | rfl | (simp only [List.length_drop, List.length_take]; rfl)) ?_; (with_reducible refine (impl_signedOk.calls a0 true _ A2.out).mono ?_); rintro e w' ⟨rfl, ⟨nd, rfl⟩⟩; refine ⟨_, rfl, ?_⟩) | ((with_reducible refine gate_callee (f := 106) rfl ?_); refine goesL_ (some 44) rfl rfl Try.func106 (by kernel_rfl) rfl #[.int .i64 a0, .int .i64 2] rfl (by (try simp only [List.map_toArray, List.map_cons, List.map_nil]); first | done | rfl | (simp only [List.length_drop, List.length_take]; rfl)) ?_; (with_reducible refine (impl_digits.calls k a0 2 t203 _ A15.out).mono ?_); rintro e w16 ⟨v204, rfl, ho0, hb⟩; refine ⟨_, rfl, ?_⟩; have n0_ := Aside0.mk (Kd.R_lower ho0 (below_size (by repeat (first | (with_reducible first | exact HB.out | apply below_alloc | apply pw_below_drewN | apply below_drew1) | exact HB.out)))); have n1_ := Aside0.mk (below_step (by repeat (first | (with_reducible first | exact HB.out | apply below_alloc | apply pw_below_drewN | apply below_drew1) | exact HB.out)) hb); clear HB; have HO205 := n0_; have HB := n1_; clear n0_ n1_; (try clear hb); (try clear hb2); (try clear hk); (try clear hi); (try clear ho0); obtain ⟨Ao17, co17, eo17⟩ := Kd.R_slice HO205.out; subst eo17) | ((with_reducible refine gate_dst (N := 50) rfl ?_); refine Kd.R_lit k69 _ 69 ?hg (N := 50) ?hd (xs := ([(⟨0, wrap64 ((t203.length : Int) - 2), 0, wrap64 ((t203.length : Int) - 2), false⟩ : S69)] : List (S69))) (inner := [.int .i64 0, .int .i64 (wrap64 ((t203.length : Int) - 2)), .int .i64 0, .int .i64 (wrap64 ((t203.length : Int) - 2)), .bool false]) (ok := fun _ => True) (okp := fun _ => True) ?hr ?hp (fun _ hk => hk) trivial (Below.refl _ _) (Nat.le_refl _) (by simp) ?_; (case hd => rfl); (case hg => rfl); (case hr => first | (go_simp; done) | (go_simp; rfl)); (case hp => exact (Reps.c5 (show Kd.M k69 _ _ _ (⟨0, wrap64 ((t203.length : Int) - 2), 0, wrap64 ((t203.length : Int) - 2), false⟩ : S69) [.int .i64 0, .int .i64 (wrap64 ((t203.length : Int) - 2)), .int .i64 0, .int .i64 (wrap64 ((t203.length : Int) - 2)), .bool false] from (k69_mkM _ _ _ (⟨0, wrap64 ((t203.length : Int) - 2), 0, wrap64 ((t203.length : Int) - 2), false⟩ : S69) )) (Reps.none _ _))); intro v207 w18 ho19 hb hg_ hnew_; clear hg_ hnew_; (first | rw [← Ny206.out] at ho19 | (simp only [Int.reduceToNat] at ho19; rw [← Ny206.out] at ho19)); have n0_ := Aside0.mk (Kd.R_below (by (with_reducible repeat (first | apply Kd.R_alloc | apply Kd.R_drewN | apply Kd.R_drew)); exact HO205.out) hb); have n1_ := Aside0.mk (Kd.R_lower ho19 (below_size (by repeat (first | (with_reducible first | exact HB.out | apply below_alloc | apply pw_below_drewN | apply below_drew1) | exact HB.out)))); have n2_ := Aside0.mk (below_step (by repeat (first | (with_reducible first | exact HB.out | apply below_alloc | apply pw_below_drewN | apply below_drew1) | exact HB.out)) hb); clear HO205; clear HB; have HO205 := n0_; have HO208 := n1_; have HB := n2_; clear n0_ n1_ n2_; clear hb ho19))
            go_ret2
            exact ⟨_, by first | rfl | (simp [errW_none, errW_some] <;> rfl) | (simp [*, errW_none, errW_some] <;> rfl), by (with_reducible repeat (first | apply Kd.R_alloc | apply Kd.R_drewN | apply Kd.R_drew)); exact HO208.out, by repeat (first | (with_reducible first | exact HB.out | apply below_alloc | apply pw_below_drewN | apply below_drew1) | exact HB.out)⟩
          · rw [if_neg c14] at H
            have c14b0 : ((Go.bits .and .i64 a0 (wrap64 (a0 - 1))) == 0) = false := beq_eq_false_iff_ne.mpr c14
            have c14b1 : ((Go.bits .and .i64 a0 (wrap64 (a0 - 1))) != 0) = true := bne_iff_ne.mpr c14
            replace H := Option.bind_eq_some_iff.mp H
            obtain ⟨t209, A200, H⟩ := H
            replace H : (some (t209, true)) = some (r1, r2) := H
            have A20 := Aside0.mk A200
            clear A200
            simp only [Option.some.injEq, Prod.mk.injEq] at H
            obtain ⟨rfl, rfl⟩ := H
            go_enter Try.func35, Try.ntmps35
            go_wp2_with (first | ((with_reducible refine gate_callee (f := 88) rfl ?_); refine goesL_ (some 9) rfl rfl Try.func88 (by kernel_rfl) rfl #[.int .i64 a0] rfl (by (try simp only [List.map_toArray, List.map_cons, List.map_nil]); first | done | rfl | (simp only [List.length_drop, List.length_take]; rfl)) ?_; (with_reducible refine (impl_signedOk.calls a0 true _ A2.out).mono ?_); rintro e w' ⟨rfl, ⟨nd, rfl⟩⟩; refine ⟨_, rfl, ?_⟩) | ((with_reducible refine gate_callee (f := 107) rfl ?_); refine goesL_ (some 52) rfl rfl Try.func107 (by kernel_rfl) rfl #[.int .i64 a0] rfl (by (try simp only [List.map_toArray, List.map_cons, List.map_nil]); first | done | rfl | (simp only [List.length_drop, List.length_take]; rfl)) ?_; (with_reducible refine (impl_addersOf.calls k a0 t209 _ A20.out).mono ?_); rintro e w21 ⟨v210, rfl, ho0, hb⟩; refine ⟨_, rfl, ?_⟩; have n0_ := Aside0.mk (Kd.R_lower ho0 (below_size (by repeat (first | (with_reducible first | exact HB.out | apply below_alloc | apply pw_below_drewN | apply below_drew1) | exact HB.out)))); have n1_ := Aside0.mk (below_step (by repeat (first | (with_reducible first | exact HB.out | apply below_alloc | apply pw_below_drewN | apply below_drew1) | exact HB.out)) hb); clear HB; have HO211 := n0_; have HB := n1_; clear n0_ n1_; (try clear hb); (try clear hb2); (try clear hk); (try clear hi); (try clear ho0)))
            go_ret2
            exact ⟨_, by first | rfl | (simp [errW_none, errW_some] <;> rfl) | (simp [*, errW_none, errW_some] <;> rfl), by (with_reducible repeat (first | apply Kd.R_alloc | apply Kd.R_drewN | apply Kd.R_drew)); exact HO211.out, by repeat (first | (with_reducible first | exact HB.out | apply below_alloc | apply pw_below_drewN | apply below_drew1) | exact HB.out)⟩
  · replace c3 := Bool.eq_false_iff.mpr c3
    subst c3
    have H1 : (some (([] : List (S69)), false)) = some (r1, r2) := by rw [if_neg (show ¬ (false = true) by decide)] at H; exact H
    clear H
    have H := H1
    clear H1
    simp only [Option.some.injEq, Prod.mk.injEq] at H
    obtain ⟨rfl, rfl⟩ := H
    go_enter Try.func35, Try.ntmps35
    go_wp2_with (first | ((with_reducible refine gate_callee (f := 88) rfl ?_); refine goesL_ (some 9) rfl rfl Try.func88 (by kernel_rfl) rfl #[.int .i64 a0] rfl (by (try simp only [List.map_toArray, List.map_cons, List.map_nil]); first | done | rfl | (simp only [List.length_drop, List.length_take]; rfl)) ?_; (with_reducible refine (impl_signedOk.calls a0 false _ A2.out).mono ?_); rintro e w' ⟨rfl, ⟨nd, rfl⟩⟩; refine ⟨_, rfl, ?_⟩))
    go_ret2
    exact ⟨_, by first | rfl | (simp [errW_none, errW_some] <;> rfl) | (simp [*, errW_none, errW_some] <;> rfl), by first | exact Kd.R_nil _ _ _ _ _ | exact Kd.N_nil _ _ _ _ _ | exact Kd.V_nil _ _ _ _ _ | exact Kd.Q_nil _ _ _ _ _ | exact Kd.S_nil _ _ _ _ _, by repeat (first | (with_reducible first | exact HB.out | apply below_alloc | apply pw_below_drewN | apply below_drew1) | exact HB.out)⟩

/-! ### laws_big: function 37 -/
def laws_big.f (l0 : List Int) (l1 : List Int) : Option (Bool) := if (l0.length : Int) > 1048576 then (some true) else (some (decide ((l1.length : Int) > (wrap64 (1048576 - (l0.length : Int))))))
set_option maxHeartbeats 8000000 in
set_option maxRecDepth 100000 in
theorem laws_big.calls (A0 : Option Addr) (c0 : Nat) (l0 : List Int) (A1 : Option Addr) (c1 : Nat) (l1 : List Int) (r : Bool) (w : World) (hr0 : Kd.C (Kd.int .u8) w A0 l0.length l0) (hc0 : l0.length ≤ c0) (hr1 : Kd.C (Kd.int .u8) w A1 l1.length l1) (hc1 : l1.length ≤ c1) (h : laws_big.f l0 l1 = some r) :
    Calls Try.prog 37 #[.slice A0 l0.length c0, .slice A1 l1.length c1] w fun e w' => e = .returned (.bool r) ∧ Drawn0 w w' := by
  have HR0 := Aside0.mk hr0
  have HC0 := Aside0.mk hc0
  clear hr0 hc0
  have HR1 := Aside0.mk hr1
  have HC1 := Aside0.mk hc1
  clear hr1 hc1
  have H : (if (l0.length : Int) > 1048576 then (some true) else (some (decide ((l1.length : Int) > (wrap64 (1048576 - (l0.length : Int))))))) = some r := h
  clear h
  by_cases c3 : (l0.length : Int) > 1048576
  · rw [if_pos c3] at H
    have c3b0 : decide (1048576 < (l0.length : Int)) = true := decide_eq_true c3
    have c3b1 : decide (1048576 < l0.length) = true := decide_eq_true (by omega)
    clear c3
    obtain rfl := Option.some.inj H
    go_enter Try.func37, Try.ntmps37
    go_wp2
    go_ret
    exact ⟨by first | rfl | (simp; done) | (simp [*]; done), by repeat (first | exact Drawn0.refl _ | apply Drawn0.step)⟩
  · rw [if_neg c3] at H
    have c3b0 : decide (1048576 < (l0.length : Int)) = false := decide_eq_false c3
    have c3b1 : decide (1048576 < l0.length) = false := decide_eq_false (by omega)
    clear c3
    obtain rfl := Option.some.inj H
    go_enter Try.func37, Try.ntmps37
    go_wp2
    go_ret
    exact ⟨by first | rfl | (simp; done) | (simp [*]; done), by repeat (first | exact Drawn0.refl _ | apply Drawn0.step)⟩

/-! ### impl_SignedDigits: function 50 -/
def impl_SignedDigits.f (k : Nat) (a0 : Int) : Option (List Int × Bool) := (impl_signedOk.f a0).bind fun t212 => (if t212 = true then ((impl_windowed.f k a0 2).bind fun t213 => (some (t213, true))) else (some (([] : List Int), false)))
theorem impl_SignedDigits.mono : ∀ a0 k, LeO (impl_SignedDigits.f k a0) (impl_SignedDigits.f (k + 1) a0) := by
  intro a0 k
  unfold impl_SignedDigits.f
  repeat' first
      | (with_reducible exact impl_windowed.mono _ _ _)
      | (with_reducible exact LeO.refl _)
      | (with_reducible exact LeO.none _)
      | (with_reducible refine LeO.ite ?_ ?_)
      | (with_reducible refine LeO.bind ?_ (fun _ => ?_))
      | exact impl_windowed.mono _ _ _
      | exact LeO.none _
      | refine LeO.ite ?_ ?_
      | refine LeO.bind ?_ (fun _ => ?_)
set_option maxHeartbeats 8000000 in
set_option maxRecDepth 100000 in
theorem impl_SignedDigits.calls (k : Nat) (a0 : Int) (r1 : List Int) (r2 : Bool) (w : World) (h : impl_SignedDigits.f k a0 = some (r1, r2)) :
    Calls Try.prog 50 #[.int .i64 a0] w fun e w' => ∃ v0_ : Value, e = .returned (.tuple #[v0_, .bool r2]) ∧ Kd.R (Kd.int .i64) 3 w' w.heap.size (fun _ => True) v0_ r1 ∧ Below w.heap.size w w' := by
  have HB := Aside0.mk (Below.refl w.heap.size w)
  have H : ((impl_signedOk.f a0).bind fun t212 => (if t212 = true then ((impl_windowed.f k a0 2).bind fun t213 => (some (t213, true))) else (some (([] : List Int), false)))) = some (r1, r2) := h
  clear h
  replace H := Option.bind_eq_some_iff.mp H
  obtain ⟨t212, A20, H⟩ := H
  replace H : (if t212 = true then ((impl_windowed.f k a0 2).bind fun t213 => (some (t213, true))) else (some (([] : List Int), false))) = some (r1, r2) := H
  have A2 := Aside0.mk A20
  clear A20
  by_cases c3 : t212 = true
  · subst c3
    have H1 : ((impl_windowed.f k a0 2).bind fun t213 => (some (t213, true))) = some (r1, r2) := by rw [if_pos rfl] at H; exact H
    clear H
    have H := H1
    clear H1
    replace H := Option.bind_eq_some_iff.mp H
    obtain ⟨t213, A40, H⟩ := H
    replace H : (some (t213, true)) = some (r1, r2) := H
    have A4 := Aside0.mk A40
    clear A40
    simp only [Option.some.injEq, Prod.mk.injEq] at H
    obtain ⟨rfl, rfl⟩ := H
    go_enter Try.func50, Try.ntmps50
    go_wp2_with (first | ((with_reducible refine gate_callee (f := 88) rfl ?_); refine goesL_ (some 5) rfl rfl Try.func88 (by kernel_rfl) rfl #[.int .i64 a0] rfl (by (try simp only [List.map_toArray, List.map_cons, List.map_nil]); first | done | rfl | (simp only [List.length_drop, List.length_take]; rfl)) ?_; (with_reducible refine (impl_signedOk.calls a0 true _ A2.out).mono ?_); rintro e w' ⟨rfl, ⟨nd, rfl⟩⟩; refine ⟨_, rfl, ?_⟩) | ((with_reducible refine gate_callee (f := 92) rfl ?_); refine goesL_ (some 8) rfl rfl Try.func92 (by kernel_rfl) rfl #[.int .i64 a0, .int .i64 2] rfl (by (try simp only [List.map_toArray, List.map_cons, List.map_nil]); first | done | rfl | (simp only [List.length_drop, List.length_take]; rfl)) ?_; (with_reducible refine (impl_windowed.calls k a0 2 t213 _ A4.out).mono ?_); rintro e w5 ⟨v214, rfl, ho0, hb⟩; refine ⟨_, rfl, ?_⟩; have n0_ := Aside0.mk (Kd.R_lower ho0 (below_size (by repeat (first | (with_reducible first | exact HB.out | apply below_alloc | apply pw_below_drewN | apply below_drew1) | exact HB.out)))); have n1_ := Aside0.mk (below_step (by repeat (first | (with_reducible first | exact HB.out | apply below_alloc | apply pw_below_drewN | apply below_drew1) | exact HB.out)) hb); clear HB; have HO215 := n0_; have HB := n1_; clear n0_ n1_; (try clear hb); (try clear hb2); (try clear hk); (try clear hi); (try clear ho0)))
    go_ret2
    exact ⟨_, by first | rfl | (simp [errW_none, errW_some] <;> rfl) | (simp [*, errW_none, errW_some] <;> rfl), by (with_reducible repeat (first | apply Kd.R_alloc | apply Kd.R_drewN | apply Kd.R_drew)); exact HO215.out, by repeat (first | (with_reducible first | exact HB.out | apply below_alloc | apply pw_below_drewN | apply below_drew1) | exact HB.out)⟩
  · replace c3 := Bool.eq_false_iff.mpr c3
    subst c3
    have H1 : (some (([] : List Int), false)) = some (r1, r2) := by rw [if_neg (show ¬ (false = true) by decide)] at H; exact H
    clear H
    have H := H1
    clear H1
    simp only [Option.some.injEq, Prod.mk.injEq] at H
    obtain ⟨rfl, rfl⟩ := H
    go_enter Try.func50, Try.ntmps50
    go_wp2_with (first | ((with_reducible refine gate_callee (f := 88) rfl ?_); refine goesL_ (some 5) rfl rfl Try.func88 (by kernel_rfl) rfl #[.int .i64 a0] rfl (by (try simp only [List.map_toArray, List.map_cons, List.map_nil]); first | done | rfl | (simp only [List.length_drop, List.length_take]; rfl)) ?_; (with_reducible refine (impl_signedOk.calls a0 false _ A2.out).mono ?_); rintro e w' ⟨rfl, ⟨nd, rfl⟩⟩; refine ⟨_, rfl, ?_⟩))
    go_ret2
    exact ⟨_, by first | rfl | (simp [errW_none, errW_some] <;> rfl) | (simp [*, errW_none, errW_some] <;> rfl), by first | exact Kd.R_nil _ _ _ _ _ | exact Kd.N_nil _ _ _ _ _ | exact Kd.V_nil _ _ _ _ _ | exact Kd.Q_nil _ _ _ _ _ | exact Kd.S_nil _ _ _ _ _, by repeat (first | (with_reducible first | exact HB.out | apply below_alloc | apply pw_below_drewN | apply below_drew1) | exact HB.out)⟩

/-! ### impl_isDigits_1: function 136 -/
def impl_isDigits_1.f (a0 : Int) : Option (Bool) := (impl_in.f a0 (-1) 1).bind fun t216 => (some (!t216))
set_option maxHeartbeats 8000000 in
set_option maxRecDepth 100000 in
theorem impl_isDigits_1.calls (a0 : Int) (r : Bool) (w : World) (h : impl_isDigits_1.f a0 = some r) :
    Calls Try.prog 136 #[.int .i64 a0] w fun e w' => e = .returned (.bool r) ∧ Drawn0 w w' := by
  have H : ((impl_in.f a0 (-1) 1).bind fun t216 => (some (!t216))) = some r := h
  clear h
  replace H := Option.bind_eq_some_iff.mp H
  obtain ⟨t216, A20, H⟩ := H
  replace H : (some (!t216)) = some r := H
  have A2 := Aside0.mk A20
  clear A20
  obtain rfl := Option.some.inj H
  go_enter Try.func136, Try.ntmps136
  go_wp2_with (first | ((with_reducible refine gate_callee (f := 86) rfl ?_); refine goesL_ (some 4) rfl rfl Try.func86 (by kernel_rfl) rfl #[.int .i64 a0, .int .i64 (-1), .int .i64 1] rfl (by (try simp only [List.map_toArray, List.map_cons, List.map_nil]); first | done | rfl | (simp only [List.length_drop, List.length_take]; rfl)) ?_; (with_reducible refine (impl_in.calls a0 (-1) 1 t216 _ A2.out).mono ?_); rintro e w' ⟨rfl, ⟨nd, rfl⟩⟩; refine ⟨_, rfl, ?_⟩))
  go_ret
  exact ⟨by first | rfl | (simp; done) | (simp [*]; done), by repeat (first | exact Drawn0.refl _ | apply Drawn0.step)⟩

/-! ### impl_isDigits: function 108 -/
def signedB (l : List Int) : Bool := decide (l.length ≤ 24) && l.all fun d => decide (-1 ≤ d) && decide (d ≤ 1)
def impl_isDigits.f (l0 : List Int) : Option (Bool) := some (signedB l0)
set_option maxHeartbeats 1000000 in
set_option maxRecDepth 100000 in
theorem impl_isDigits.calls (A0 : Option Addr) (c0 : Nat) (l0 : List Int) (r : Bool) (w : World) (hr0 : Kd.C (Kd.int .i64) w A0 l0.length l0) (hc0 : l0.length ≤ c0) (h : impl_isDigits.f l0 = some r) :
    Calls Try.prog 108 #[.slice A0 l0.length c0] w fun e w' => e = .returned (.bool r) ∧ Drawn0 w w' := by
  have hcon : Calls Try.prog 84 #[.slice A0 l0.length c0, .func (.func 136) #[] #[]] w fun e w' => e = .returned (.bool (l0.any fun d => !(decide (-1 ≤ d) && decide (d ≤ 1)))) ∧ Drawn0 w w' := by
    rcases YtafnnnpcochnnaaHand.int_slice hr0 with h0 | ⟨b, off, rfl, _, hcells⟩
    · subst h0
      exact (Try.slices_ContainsFunc_empty (α := Int) A0 c0 _ w).mono fun e w' ⟨he, hw⟩ => ⟨he, by rw [hw]; exact Drawn0.refl _⟩
    · have eg : ∀ args w, (callFunc 136 args).run Try.prog w = .ok (.enter 136 args) w := enters_of Try.func136 (by kernel_rfl) rfl
      have hp : Go.Proofs.PredAt Try.prog 136 #[] (Value.int .i64) (fun d => !(decide (-1 ≤ d) && decide (d ≤ 1))) w := fun W x _ => by
        show Calls Try.prog 136 #[.int .i64 x] W _
        refine (impl_isDigits_1.calls x (!(decide (-1 ≤ x) && decide (x ≤ 1))) W ?_).mono fun e w' ⟨he, hw⟩ => ⟨he, YtafnnnpcochnnaaHand.of_drawn hw⟩
        simp only [impl_isDigits_1.f, impl_in.f]
        by_cases h1 : x ≥ -1
        · simp [h1, show -1 ≤ x from h1]
        · simp [h1, show ¬ -1 ≤ x from h1]
      have := Try.slices_ContainsFunc (Value.int .i64) _ 136 #[] eg b off l0.length c0 l0 w hp (Nat.le_refl _) (YtafnnnpcochnnaaHand.int_len hr0) (fun j hj => by rw [hcells j hj, YtafnnnpcochnnaaHand.getD_bang])
      rw [List.take_length] at this
      exact this.mono fun e w' ⟨he, hw⟩ => ⟨he, YtafnnnpcochnnaaHand.drawn_of hw⟩
  obtain rfl := Option.some.inj h
  have e1 : signedB l0 = (decide (l0.length ≤ 24) && !(l0.any fun d => !(decide (-1 ≤ d) && decide (d ≤ 1)))) := by
    unfold signedB
    rw [List.not_any_eq_all_not]
    simp
  rw [e1]
  generalize (l0.any fun d => !(decide (-1 ≤ d) && decide (d ≤ 1))) = b at hcon ⊢
  clear hr0 hc0 h e1
  by_cases hl : l0.length ≤ 24
  · have hd : decide ((l0.length : Int) ≤ 24) = true := decide_eq_true (by omega)
    go_enter Try.func108, Try.ntmps108
    go_wp2_with (go_at_call 84; refine hcon.mono ?_; rintro e w' ⟨rfl, ⟨⟨q, rfl⟩⟩⟩)
    go_ret
    exact ⟨by simp [hl], by repeat (first | exact Drawn0.refl _ | apply Drawn0.step)⟩
  · have hd : decide ((l0.length : Int) ≤ 24) = false := decide_eq_false (by omega)
    clear hcon
    go_enter Try.func108, Try.ntmps108
    go_wp2
    go_ret
    exact ⟨by simp [hl], Drawn0.refl _⟩

/-! ### impl_weight: function 122 -/
def impl_weight.l0 : Nat → Int → List Int → Int → Int → Option (Int)
  | 0, _, _, _, _ => none
  | k + 1, x3, x6, x7, x8 => if x8 < x7 then (if 0 ≤ x8 then (if x8 < (x6.length : Int) then (if (rd x6 x8) = 0 then (impl_weight.l0 k x3 x6 x7 (wrap64 (x8 + 1))) else (impl_weight.l0 k (wrap64 (x3 + 1)) x6 x7 (wrap64 (x8 + 1)))) else (none)) else (none)) else (some x3)
def impl_weight.f (k : Nat) (l0 : List Int) : Option (Int) := impl_weight.l0 k 0 l0 (l0.length : Int) 0
theorem impl_weight.mono_l : ∀ k, (∀ y0 y1 y2 y3, LeO (impl_weight.l0 k y0 y1 y2 y3) (impl_weight.l0 (k + 1) y0 y1 y2 y3))
  | 0 => fun _ _ _ _ r h => by simp [impl_weight.l0] at h
  | k + 1 => by
    have ih0 := impl_weight.mono_l k
    · intro y0 y1 y2 y3
      unfold impl_weight.l0
      repeat' first
      | (with_reducible exact ih0 _ _ _ _)
      | (with_reducible exact LeO.refl _)
      | (with_reducible exact LeO.none _)
      | (with_reducible refine LeO.ite ?_ ?_)
      | (with_reducible refine LeO.bind ?_ (fun _ => ?_))
      | exact ih0 _ _ _ _
      | exact LeO.none _
      | refine LeO.ite ?_ ?_
      | refine LeO.bind ?_ (fun _ => ?_)
theorem impl_weight.mono : ∀ a0 k, LeO (impl_weight.f k a0) (impl_weight.f (k + 1) a0) := by
  intro a0 k
  have ih0 := impl_weight.mono_l k
  unfold impl_weight.f
  repeat' first
      | (with_reducible exact ih0 _ _ _ _)
      | (with_reducible exact LeO.refl _)
      | (with_reducible exact LeO.none _)
      | (with_reducible refine LeO.ite ?_ ?_)
      | (with_reducible refine LeO.bind ?_ (fun _ => ?_))
      | exact ih0 _ _ _ _
      | exact LeO.none _
      | refine LeO.ite ?_ ?_
      | refine LeO.bind ?_ (fun _ => ?_)
set_option maxHeartbeats 8000000 in
set_option maxRecDepth 100000 in
theorem impl_weight.calls (k : Nat) (A0 : Option Addr) (c0 : Nat) (l0 : List Int) (r : Int) (w : World) (hr0 : Kd.C (Kd.int .i64) w A0 l0.length l0) (hc0 : l0.length ≤ c0) (h : impl_weight.f k l0 = some r) :
    Calls Try.prog 122 #[.slice A0 l0.length c0] w fun e w' => e = .returned (.int .i64 r) ∧ Drawn0 w w' := by
  have HR0 := Aside0.mk hr0
  have HC0 := Aside0.mk hc0
  clear hr0 hc0
  have H : (impl_weight.l0 k 0 l0 (l0.length : Int) 0) = some r := h
  clear h
  have H' := Aside0.mk H
  clear H
  go_enter Try.func122, Try.ntmps122
  go_wp2
  go_loopg [3, 8] k (fun kq v3 v8 w' => ∃ (x3_1 : Int) (x8_1 : Int), v3 = .int .i64 x3_1 ∧ v8 = .int .i64 x8_1 ∧ Aside0 (impl_weight.l0 kq x3_1 l0 (l0.length : Int) x8_1 = some r) ∧ Aside0 (kq ≤ k) ∧ Drawn0 w w')
  case atStart => exact ⟨(0), (0), (by first | rfl | (simp; done) | (simp [*]; done)), (by first | rfl | (simp; done) | (simp [*]; done)), H', ⟨Nat.le_refl _⟩, by repeat (first | exact Drawn0.refl _ | apply Drawn0.step)⟩
  case round =>
    clear H'
    try clear c1
    obtain ⟨x3_1, x8_1, rfl, rfl, HA, HK1, ⟨m1, rfl⟩⟩ := hrel
    cases gk with
    | zero => exact absurd HA.out (by simp [impl_weight.l0])
    | succ k1 =>
      have H := HA.out
      clear HA
      simp only [impl_weight.l0] at H
      by_cases c2 : x8_1 < (l0.length : Int)
      · rw [if_pos c2] at H
        have c2b0 : decide (x8_1 < (l0.length : Int)) = true := decide_eq_true c2
        clear c2
        by_cases c3 : 0 ≤ x8_1
        · rw [if_pos c3] at H
          have c3b0 : decide (0 ≤ x8_1) = true := decide_eq_true c3
          clear c3
          by_cases c4 : x8_1 < (l0.length : Int)
          · rw [if_pos c4] at H
            have c4b0 : decide (x8_1 < (l0.length : Int)) = true := decide_eq_true c4
            clear c4
            by_cases c5 : (rd l0 x8_1) = 0
            · rw [if_pos c5] at H
              have c5b0 : ((rd l0 x8_1) == 0) = true := beq_iff_eq.mpr c5
              have c5b1 : ((rd l0 x8_1) != 0) = false := bne_eq_false_iff_eq.mpr c5
              clear c5
              have H' := Aside0.mk H
              clear H
              have p217 : 0 ≤ (x8_1 : Int) := of_decide_eq_true (by first | (with_reducible assumption) | assumption)
              have q217 : x8_1 < (l0.length : Int) := of_decide_eq_true (by first | (with_reducible assumption) | assumption)
              obtain ⟨ad217, e217, hx217_0⟩ := Kd.at_int HR0.out x8_1 p217 q217
              cases e217
              replace p217 := eq_true p217
              replace q217 := eq_true q217
              go_wp2
              go_roundg k1
              case measure => have := HK1.out; omega
              case rel => exact ⟨(x3_1), (wrap64 (x8_1 + 1)), (by first | rfl | (simp; done) | (simp [*]; done)), (by first | rfl | (simp; done) | (simp [*]; done)), H', ⟨by have := HK1.out; omega⟩, by repeat (first | exact Drawn0.refl _ | apply Drawn0.step)⟩
            · rw [if_neg c5] at H
              have c5b0 : ((rd l0 x8_1) == 0) = false := beq_eq_false_iff_ne.mpr c5
              have c5b1 : ((rd l0 x8_1) != 0) = true := bne_iff_ne.mpr c5
              have H' := Aside0.mk H
              clear H
              have p217 : 0 ≤ (x8_1 : Int) := of_decide_eq_true (by first | (with_reducible assumption) | assumption)
              have q217 : x8_1 < (l0.length : Int) := of_decide_eq_true (by first | (with_reducible assumption) | assumption)
              obtain ⟨ad217, e217, hx217_0⟩ := Kd.at_int HR0.out x8_1 p217 q217
              cases e217
              replace p217 := eq_true p217
              replace q217 := eq_true q217
              go_wp2
              go_roundg k1
              case measure => have := HK1.out; omega
              case rel => exact ⟨(wrap64 (x3_1 + 1)), (wrap64 (x8_1 + 1)), (by first | rfl | (simp; done) | (simp [*]; done)), (by first | rfl | (simp; done) | (simp [*]; done)), H', ⟨by have := HK1.out; omega⟩, by repeat (first | exact Drawn0.refl _ | apply Drawn0.step)⟩
          · rw [if_neg c4] at H
            exact absurd H (by simp)
        · rw [if_neg c3] at H
          exact absurd H (by simp)
      · rw [if_neg c2] at H
        have c2b0 : decide (x8_1 < (l0.length : Int)) = false := decide_eq_false c2
        clear c2
        obtain rfl := Option.some.inj H
        go_wp2
        go_ret
        exact ⟨by first | rfl | (simp; done) | (simp [*]; done), by repeat (first | exact Drawn0.refl _ | apply Drawn0.step)⟩

end Go.Proofs.Ytafnnnpcochnnaa.PFnMultiplesByAdders
