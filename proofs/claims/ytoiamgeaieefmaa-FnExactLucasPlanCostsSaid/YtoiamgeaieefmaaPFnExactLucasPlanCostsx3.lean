-- Written by gprint.py, a program of this session, out of the translation (a changed print).
import Derived.Test.YtoiamgeaieefmaaPFnExactLucasPlanCostsx0
import Derived.Test.YtoiamgeaieefmaaPFnExactLucasPlanCostsx1
import Derived.Test.YtoiamgeaieefmaaPFnExactLucasPlanCostsx2
namespace Go.Proofs.Ytoiamgeaieefmaa.PFnExactLucasPlanCosts
open Go.RowKit Go.Proofs.YtoiamgeaieefmaaW.PrintWords Go.Proofs.YtoiamgeaieefmaaW.PrintLast Go.Proofs.YtoiamgeaieefmaaW.PrintMore
attribute [local go_sem] max2_int min2_int max_two min_two max_three min_three max_four min_four   -- for this text's walks alone
set_option linter.unusedVariables false
set_option linter.unusedSimpArgs false

/-! ### spec_meEnd: function 43 -/
def spec_meEnd.f (a0_0 : Int) (l0_1 : List (S79)) (l0_2 : List Int) (a1 : Int) : Option (Int × (List (S79)) × List Int) := some (a0_0, l0_1, (([a1] : List Int)))
set_option maxHeartbeats 8000000 in
set_option maxRecDepth 100000 in
theorem spec_meEnd.calls (a0_0 : Int) (P0_1_ : Nat → Prop) (u9000_ : Value) (l0_1 : List (S79)) (A0_2 : Option Addr) (c0_2 : Nat) (l0_2 : List Int) (a1 : Int) (r1 : Int) (r2 : List (S79)) (r3 : List Int) (w0 w : World) (hB : Below w0.heap.size w0 w) (ho0_1 : Kd.R k79 79 w w0.heap.size P0_1_ u9000_ l0_1) (hr0_2 : ∀ W_, Kept w W_ (fun k_ => P0_1_ k_) → Kd.C (Kd.int .i64) W_ A0_2 l0_2.length l0_2) (hc0_2 : l0_2.length ≤ c0_2) (h : spec_meEnd.f a0_0 l0_1 l0_2 a1 = some (r1, r2, r3)) :
    Calls Try.prog 43 #[.agg #[.int .i64 a0_0, u9000_, .slice A0_2 l0_2.length c0_2], .int .i64 a1] w fun e w' => ∃ v1_ v2_ : Value, e = .returned (.agg #[.int .i64 r1, v1_, v2_]) ∧ Kd.R k79 79 w' w0.heap.size (fun k_ => (P0_1_ k_ ∨ w.heap.size ≤ k_)) v1_ r2 ∧ Kd.R (Kd.int .i64) 3 w' w0.heap.size (fun k_ => (P0_1_ k_ ∨ w.heap.size ≤ k_)) v2_ r3 ∧ Below w0.heap.size w0 w' ∧ Kept w w' (fun k_ => P0_1_ k_) := by
  have hu28 := Try.underlying28
  have HO0_1 := Aside0.mk (show Kd.R k79 79 w w0.heap.size (fun k_ => (P0_1_ k_ ∨ w.heap.size ≤ k_)) u9000_ l0_1 from Kd.R_mono ho0_1 (fun k_ hk => (.inl hk)))
  have HR0_2 := Aside0.mk hr0_2
  have HC0_2 := Aside0.mk hc0_2
  clear hr0_2 hc0_2
  have HK := Aside0.mk (Kept.refl w (fun k_ => P0_1_ k_))
  have HW0 := Aside0.mk hB.size
  have HB := Aside0.mk hB
  clear hB
  have H : (some (a0_0, l0_1, (([a1] : List Int)))) = some (r1, r2, r3) := h
  clear h
  obtain ⟨y183, hy183⟩ : ∃ y_ : List Int, y_ = (([a1] : List Int)) := ⟨_, rfl⟩
  replace H : (some (a0_0, l0_1, y183)) = some (r1, r2, r3) := by first | (rw [hy183]; with_reducible exact H) | (have H2_ := (Option.bind_some _ _).symm.trans H; rw [hy183]; with_reducible exact H2_) | (have H2_ := (Option.bind_some _ _).symm.trans H; with_reducible exact H2_) | with_reducible exact H | (rw [hy183]; exact H) | exact H
  have Ny183 := Aside0.mk hy183
  clear hy183
  simp only [Option.some.injEq, Prod.mk.injEq] at H
  obtain ⟨rfl, rfl, rfl⟩ := H
  obtain ⟨Ao3, co3, eo3⟩ := Kd.R_slice HO0_1.out
  subst eo3
  go_enter Try.func43, Try.ntmps43
  go_wp2_with (first | ((with_reducible refine gate_dst (N := 2) rfl ?_); refine box_event ?hg (N := 2) ?hd (cs := #[.int .i64 a0_0, .slice Ao3 l0_1.length co3, .slice A0_2 l0_2.length c0_2]) (t := 28) ?hr ?_; (case hd => rfl); (case hg => rfl); (case hr => first | (go_simp; done) | (go_simp; rfl)); intro gb181 hg w4 hbox hb; have n0_ := Aside0.mk (Kd.R_below (by (with_reducible repeat (first | apply Kd.R_alloc | apply Kd.R_drewN | apply Kd.R_drew)); exact HO0_1.out) hb); have n1_ := Aside0.mk (Kept.below (S := (fun k_ => P0_1_ k_)) (by repeat (first | (with_reducible first | exact HK.out | apply Kept.alloc | apply Kept.drewN | apply Kept.drew) | exact HK.out)) hb); have n2_ := Aside0.mk (below_step (by repeat (first | (with_reducible first | exact HB.out | apply below_alloc | apply pw_below_drewN | apply below_drew1) | exact HB.out)) hb); have n3_ := Aside0.mk (hbox); have n4_ := Aside0.mk ((by rw [hg]; exact (by first | exact HK.out.1 | exact (show Kept w _ (fun k_ => P0_1_ k_) from by repeat (first | (with_reducible first | exact HK.out | apply Kept.alloc | apply Kept.drewN | apply Kept.drew) | exact HK.out)).1) : w.heap.size ≤ gb181)); have n5_ := Aside0.mk ((by rw [hg]; exact (below_size (by repeat (first | (with_reducible first | exact HB.out | apply below_alloc | apply pw_below_drewN | apply below_drew1) | exact HB.out))) : w0.heap.size ≤ gb181)); clear HO0_1; clear HK; clear HB; have HO0_1 := n0_; have HK := n1_; have HB := n2_; have BK181 := n3_; have GW181 := n4_; have GE181 := n5_; clear n0_ n1_ n2_ n3_ n4_ n5_; clear hb hbox hg) | ((with_reducible refine gate_dst (N := 4) rfl ?_); refine box_event ?hg (N := 4) ?hd (cs := #[.int .i64 0, .slice none 0 0, .slice none 0 0]) (t := 28) ?hr ?_; (case hd => rfl); (case hg => rfl); (case hr => first | (go_simp; done) | (go_simp; rfl)); intro gb182 hg w5 hbox hb; have n0_ := Aside0.mk (Kd.R_below (by (with_reducible repeat (first | apply Kd.R_alloc | apply Kd.R_drewN | apply Kd.R_drew)); exact HO0_1.out) hb); have n1_ := Aside0.mk (blk_below (g := gb181) (o := .cells #[.int .i64 a0_0, .slice Ao3 l0_1.length co3, .slice A0_2 l0_2.length c0_2] 28 (0, 0)) (by (with_reducible repeat (first | refine blk_drewN ?_ _ | refine blk_drew ?_ | refine blk_alloc ?_ _)); exact BK181.out) hb); have n2_ := Aside0.mk (Kept.below (S := (fun k_ => P0_1_ k_)) (by repeat (first | (with_reducible first | exact HK.out | apply Kept.alloc | apply Kept.drewN | apply Kept.drew | refine Kept.setCell ?_ (.inr GW181.out) _) | exact HK.out)) hb); have n3_ := Aside0.mk (below_step (by repeat (first | (with_reducible first | exact HB.out | apply below_alloc | apply pw_below_drewN | apply below_drew1 | refine below_set ?_ GE181.out) | exact HB.out)) hb); have n4_ := Aside0.mk (hbox); have n5_ := Aside0.mk ((by rw [hg]; exact (by first | exact HK.out.1 | exact (show Kept w _ (fun k_ => P0_1_ k_) from by repeat (first | (with_reducible first | exact HK.out | apply Kept.alloc | apply Kept.drewN | apply Kept.drew | refine Kept.setCell ?_ (.inr GW181.out) _) | exact HK.out)).1) : w.heap.size ≤ gb182)); have n6_ := Aside0.mk ((by rw [hg]; exact (below_size (by repeat (first | (with_reducible first | exact HB.out | apply below_alloc | apply pw_below_drewN | apply below_drew1 | refine below_set ?_ GE181.out) | exact HB.out))) : w0.heap.size ≤ gb182)); have n7_ := Aside0.mk ((by rw [hg]; exact Nat.ne_of_lt (blk_lt (g := gb181) (o := .cells #[.int .i64 a0_0, .slice Ao3 l0_1.length co3, .slice A0_2 l0_2.length c0_2] 28 (0, 0)) (by (with_reducible repeat (first | refine blk_drewN ?_ _ | refine blk_drew ?_ | refine blk_alloc ?_ _)); exact BK181.out)) : gb181 ≠ gb182)); have n8_ := Aside0.mk ((by rw [hg]; exact Nat.ne_of_gt (blk_lt (g := gb181) (o := .cells #[.int .i64 a0_0, .slice Ao3 l0_1.length co3, .slice A0_2 l0_2.length c0_2] 28 (0, 0)) (by (with_reducible repeat (first | refine blk_drewN ?_ _ | refine blk_drew ?_ | refine blk_alloc ?_ _)); exact BK181.out)) : gb182 ≠ gb181)); clear HO0_1; clear BK181; clear HK; clear HB; have HO0_1 := n0_; have BK181 := n1_; have HK := n2_; have HB := n3_; have BK182 := n4_; have GW182 := n5_; have GE182 := n6_; have NB181_182 := n7_; have NB182_181 := n8_; clear n0_ n1_ n2_ n3_ n4_ n5_ n6_ n7_ n8_; clear hb hbox hg; have hnb6 := NB181_182.out; have hnc6 := NB182_181.out; have hcz7_0 : w5.cell? ⟨gb181, 0, none⟩ = some (.int .i64 a0_0) := (blk_cell BK181.out 0).trans rfl; have hcz7_1 : w5.cell? ⟨gb181, 1, none⟩ = some (.slice Ao3 l0_1.length co3) := (blk_cell BK181.out 1).trans rfl; have hcz7_2 : w5.cell? ⟨gb181, 2, none⟩ = some (.slice A0_2 l0_2.length c0_2) := (blk_cell BK181.out 2).trans rfl; have hfz7_0 := blk_frozen BK181.out 0; have hfz7_1 := blk_frozen BK181.out 1; have hfz7_2 := blk_frozen BK181.out 2) | ((with_reducible refine gate_dst (N := 10) rfl ?_); refine Kd.R_lit (Kd.int .i64) _ 3 ?hg (N := 10) ?hd (xs := ([a1] : List Int)) (inner := [.int .i64 a1]) (ok := fun _ => True) (okp := fun _ => True) ?hr ?hp (fun _ hk => hk) trivial (Below.refl _ _) (Nat.le_refl _) (by simp) ?_; (case hd => rfl); (case hg => rfl); (case hr => first | (go_simp; done) | (go_simp; rfl)); (case hp => exact (Reps.one (show Kd.M (Kd.int .i64) _ _ _ a1 [.int .i64 a1] from rfl) (Reps.none _ _))); intro v184 w8 ho9 hb hg_ hnew_; clear hg_ hnew_; (first | rw [← Ny183.out] at ho9 | (simp only [Int.reduceToNat] at ho9; rw [← Ny183.out] at ho9)); have n0_ := Aside0.mk (Kd.R_below (by (with_reducible repeat (first | apply Kd.R_alloc | apply Kd.R_drewN | apply Kd.R_drew)); exact HO0_1.out) hb); have n1_ := Aside0.mk (Kd.R_lower (Kd.R_newM (M := fun k_ => (P0_1_ k_ ∨ w.heap.size ≤ k_)) ho9 (by first | exact HK.out.1 | exact (show Kept w _ (fun k_ => P0_1_ k_) from by repeat (first | (with_reducible first | exact HK.out | apply Kept.alloc | apply Kept.drewN | apply Kept.drew | refine Kept.setCell ?_ (.inr GW181.out) _ | refine Kept.setCell ?_ (.inr GW182.out) _) | exact HK.out)).1) (fun k_ h_ => .inr h_)) (below_size (by repeat (first | (with_reducible first | exact HB.out | apply below_alloc | apply pw_below_drewN | apply below_drew1 | refine below_set ?_ GE181.out | refine below_set ?_ GE182.out) | exact HB.out)))); have n2_ := Aside0.mk (blk_below (g := gb181) (o := .cells #[.int .i64 a0_0, .slice Ao3 l0_1.length co3, .slice A0_2 l0_2.length c0_2] 28 (0, 0)) (by (with_reducible repeat (first | refine blk_drewN ?_ _ | refine blk_drew ?_ | refine blk_alloc ?_ _)); exact BK181.out) hb); have n3_ := Aside0.mk (blk_below (g := gb182) (o := .cells #[.int .i64 0, .slice none 0 0, .slice none 0 0] 28 (0, 0)) (by (with_reducible repeat (first | refine blk_drewN ?_ _ | refine blk_drew ?_ | refine blk_alloc ?_ _)); exact BK182.out) hb); have n4_ := Aside0.mk (Kept.below (S := (fun k_ => P0_1_ k_)) (by repeat (first | (with_reducible first | exact HK.out | apply Kept.alloc | apply Kept.drewN | apply Kept.drew | refine Kept.setCell ?_ (.inr GW181.out) _ | refine Kept.setCell ?_ (.inr GW182.out) _) | exact HK.out)) hb); have n5_ := Aside0.mk (below_step (by repeat (first | (with_reducible first | exact HB.out | apply below_alloc | apply pw_below_drewN | apply below_drew1 | refine below_set ?_ GE181.out | refine below_set ?_ GE182.out) | exact HB.out)) hb); clear HO0_1; clear BK181; clear BK182; clear HK; clear HB; have HO0_1 := n0_; have HO185 := n1_; have BK181 := n2_; have BK182 := n3_; have HK := n4_; have HB := n5_; clear n0_ n1_ n2_ n3_ n4_ n5_; clear hb ho9; obtain ⟨Ao10, co10, eo10⟩ := Kd.R_slice HO185.out; subst eo10; have hcz11_0 : w8.cell? ⟨gb182, 0, none⟩ = some (.int .i64 0) := (blk_cell BK182.out 0).trans rfl; have hcz11_1 : w8.cell? ⟨gb182, 1, none⟩ = some (.slice none 0 0) := (blk_cell BK182.out 1).trans rfl; have hcz11_2 : w8.cell? ⟨gb182, 2, none⟩ = some (.slice none 0 0) := (blk_cell BK182.out 2).trans rfl; have hfz11_0 := blk_frozen BK182.out 0; have hfz11_1 := blk_frozen BK182.out 1; have hfz11_2 := blk_frozen BK182.out 2))
  refine bodyPost_ret (results_cell_row rfl _ _ gb182 28 #[.int .i64 a0_0, .slice Ao3 l0_1.length co3, .slice Ao10 y183.length co10] (0, 0) _ rfl (by (with_reducible repeat (first | refine blk_drewN ?_ _ | refine blk_drew ?_ | refine blk_alloc ?_ _)); refine blk_put (cs := #[.int .i64 a0_0, .slice Ao3 l0_1.length co3, .slice none 0 0]) ?_ 2 _ rfl; (with_reducible repeat (first | refine blk_drewN ?_ _ | refine blk_drew ?_ | refine blk_alloc ?_ _)); refine blk_put (cs := #[.int .i64 a0_0, .slice none 0 0, .slice none 0 0]) ?_ 1 _ rfl; (with_reducible repeat (first | refine blk_drewN ?_ _ | refine blk_drew ?_ | refine blk_alloc ?_ _)); refine blk_put (cs := #[.int .i64 0, .slice none 0 0, .slice none 0 0]) ?_ 0 _ rfl; (with_reducible repeat (first | refine blk_drewN ?_ _ | refine blk_drew ?_ | refine blk_alloc ?_ _)); exact BK182.out) Try.underlying28 rfl (by kernel_rfl)) rfl ?_
  exact ⟨_, _, by first | rfl | (simp [errW_none, errW_some] <;> rfl) | (simp [*, errW_none, errW_some] <;> rfl), by (with_reducible repeat (first | apply Kd.R_alloc | apply Kd.R_drewN | apply Kd.R_drew)); exact Kd.R_mono (Kd.R_far (p := ⟨gb182, 2, none⟩) (Kd.R_far (p := ⟨gb182, 1, none⟩) (Kd.R_far (p := ⟨gb182, 0, none⟩) (Kd.R_types HO0_1.out BK182.out (by decide)) (fun _ hk => hk.2) (.int .i64 a0_0)) (fun _ hk => hk.2) (.slice Ao3 l0_1.length co3)) (fun _ hk => hk.2) (.slice Ao10 y183.length co10)) (fun _ hk => hk.1), by (with_reducible repeat (first | apply Kd.R_alloc | apply Kd.R_drewN | apply Kd.R_drew)); exact Kd.R_mono (Kd.R_far (p := ⟨gb182, 2, none⟩) (Kd.R_far (p := ⟨gb182, 1, none⟩) (Kd.R_far (p := ⟨gb182, 0, none⟩) (Kd.R_types HO185.out BK182.out (by decide)) (fun _ hk => hk.2) (.int .i64 a0_0)) (fun _ hk => hk.2) (.slice Ao3 l0_1.length co3)) (fun _ hk => hk.2) (.slice Ao10 y183.length co10)) (fun _ hk => hk.1.1), by repeat (first | (with_reducible first | exact HB.out | apply below_alloc | apply pw_below_drewN | apply below_drew1 | refine below_set ?_ GE181.out | refine below_set ?_ GE182.out) | exact HB.out), by repeat (first | (with_reducible first | exact HK.out | apply Kept.alloc | apply Kept.drewN | apply Kept.drew | refine Kept.setCell ?_ (.inr GW181.out) _ | refine Kept.setCell ?_ (.inr GW182.out) _) | exact HK.out)⟩

/-! ### spec_meDigits: function 50 -/
def spec_meDigits.l0 : Nat → Int → Int → List Int → Option (List Int)
  | 0, _, _, _ => none
  | k + 1, x0, x1, x5 => if x0 > 0 then (if x1 = 0 then (none) else (if x5.length < 17592186044416 then (spec_meDigits.l0 k (wrap64 (Int.tdiv x0 x1)) x1 (x5 ++ [Int.tmod x0 x1])) else (none))) else (some x5)
def spec_meDigits.f (k : Nat) (a0 : Int) (a1 : Int) : Option (List Int) := spec_meDigits.l0 k a0 a1 ([] : List Int)
theorem spec_meDigits.mono_l : ∀ k, (∀ y0 y1 y2, LeO (spec_meDigits.l0 k y0 y1 y2) (spec_meDigits.l0 (k + 1) y0 y1 y2))
  | 0 => fun _ _ _ r h => by simp [spec_meDigits.l0] at h
  | k + 1 => by
    have ih0 := spec_meDigits.mono_l k
    · intro y0 y1 y2
      unfold spec_meDigits.l0
      repeat' first
      | (with_reducible exact ih0 _ _ _)
      | (with_reducible exact LeO.refl _)
      | (with_reducible exact LeO.none _)
      | (with_reducible refine LeO.ite ?_ ?_)
      | (with_reducible refine LeO.bind ?_ (fun _ => ?_))
      | exact ih0 _ _ _
      | exact LeO.none _
      | refine LeO.ite ?_ ?_
      | refine LeO.bind ?_ (fun _ => ?_)
theorem spec_meDigits.mono : ∀ a0 a1 k, LeO (spec_meDigits.f k a0 a1) (spec_meDigits.f (k + 1) a0 a1) := by
  intro a0 a1 k
  have ih0 := spec_meDigits.mono_l k
  unfold spec_meDigits.f
  repeat' first
      | (with_reducible exact ih0 _ _ _)
      | (with_reducible exact LeO.refl _)
      | (with_reducible exact LeO.none _)
      | (with_reducible refine LeO.ite ?_ ?_)
      | (with_reducible refine LeO.bind ?_ (fun _ => ?_))
      | exact ih0 _ _ _
      | exact LeO.none _
      | refine LeO.ite ?_ ?_
      | refine LeO.bind ?_ (fun _ => ?_)
set_option maxHeartbeats 8000000 in
set_option maxRecDepth 100000 in
theorem spec_meDigits.calls (k : Nat) (a0 : Int) (a1 : Int) (r : List Int) (w : World) (h : spec_meDigits.f k a0 a1 = some r) :
    Calls Try.prog 50 #[.int .i64 a0, .int .i64 a1] w fun e w' => ∃ v0_ : Value, e = .returned (v0_) ∧ Kd.R (Kd.int .i64) 3 w' w.heap.size (fun _ => True) v0_ r ∧ Below w.heap.size w w' := by
  have HB := Aside0.mk (Below.refl w.heap.size w)
  have H : (spec_meDigits.l0 k a0 a1 ([] : List Int)) = some r := h
  clear h
  have H' := Aside0.mk H
  clear H
  go_enter Try.func50, Try.ntmps50
  go_wp2
  go_loopg [0, 5] k (fun kq v0 v5 w' => ∃ (x0_1 : Int) (x5_1 : List Int), v0 = .int .i64 x0_1 ∧ Aside0 (spec_meDigits.l0 kq x0_1 a1 x5_1 = some r) ∧ Aside0 (kq ≤ k) ∧ Aside0 (Kd.R (Kd.int .i64) 3 w' w.heap.size (fun _ => True) v5 x5_1) ∧ Aside0 (Below w.heap.size w w'))
  case atStart => exact ⟨(a0), (([] : List Int)), (by first | rfl | (simp; done) | (simp [*]; done)), H', ⟨Nat.le_refl _⟩, ⟨by first | exact Kd.R_nil _ _ _ _ _ | exact Kd.N_nil _ _ _ _ _ | exact Kd.V_nil _ _ _ _ _ | exact Kd.Q_nil _ _ _ _ _ | exact Kd.S_nil _ _ _ _ _⟩, ⟨by repeat (first | (with_reducible first | exact HB.out | apply below_alloc | apply pw_below_drewN | apply below_drew1) | exact HB.out)⟩⟩
  case round =>
    clear H'
    try clear p2
    obtain ⟨x0_1, x5_1, rfl, HA, HK1, HO_5, HB⟩ := hrel
    cases gk with
    | zero => exact absurd HA.out (by simp [spec_meDigits.l0])
    | succ k1 =>
      have H := HA.out
      clear HA
      simp only [spec_meDigits.l0] at H
      by_cases c3 : x0_1 > 0
      · rw [if_pos c3] at H
        have c3b0 : decide (0 < x0_1) = true := decide_eq_true c3
        clear c3
        by_cases c4 : a1 = 0
        · rw [if_pos c4] at H
          exact absurd H (by simp)
        · rw [if_neg c4] at H
          have c4b0 : (a1 == 0) = false := beq_eq_false_iff_ne.mpr c4
          have c4b1 : (a1 != 0) = true := bne_iff_ne.mpr c4
          by_cases c5 : x5_1.length < 17592186044416
          · rw [if_pos c5] at H
            have LMc5 := Aside0.mk c5
            clear c5
            obtain ⟨y186, hy186⟩ : ∃ y_ : List Int, y_ = (x5_1 ++ [Int.tmod x0_1 a1]) := ⟨_, rfl⟩
            replace H : (spec_meDigits.l0 k1 (wrap64 (Int.tdiv x0_1 a1)) a1 y186) = some r := by first | (rw [hy186]; with_reducible exact H) | (have H2_ := (Option.bind_some _ _).symm.trans H; rw [hy186]; with_reducible exact H2_) | (have H2_ := (Option.bind_some _ _).symm.trans H; with_reducible exact H2_) | with_reducible exact H | (rw [hy186]; exact H) | exact H
            have Ny186 := Aside0.mk hy186
            clear hy186
            have H' := Aside0.mk H
            clear H
            go_wp2_with (first | ((with_reducible refine gate_builtin (b := .append) (xs := #[.tmp 11, .tmp 15]) rfl ?_); at_builtin; refine Kd.R_append (Kd.int .i64) (w0 := w) w.heap.size rfl (.tmp 11) (.tmp 15) 24 3 (.int .i64 0) 8 rfl Try.underlying24 info3 rfl (by decide) (by omega) u5 x5_1 (Int.tmod x0_1 a1) [.int .i64 (Int.tmod x0_1 a1)] (fun _ => True) (fun _ => False) rfl rfl ?aP (fun _ hk => hk.elim) ?aF ?aO ?aB ?aS ?aL ?_; (case aP => exact rfl); (case aB => exact (by repeat (first | (with_reducible first | exact HB.out | apply below_alloc | apply pw_below_drewN | apply below_drew1) | exact HB.out))); (case aF => exact (fun _ _ => trivial)); (case aO => exact (by (with_reducible repeat (first | apply Kd.R_alloc | apply Kd.R_drewN | apply Kd.R_drew)); exact HO_5.out)); (case aS => exact (below_size (by repeat (first | (with_reducible first | exact HB.out | apply below_alloc | apply pw_below_drewN | apply below_drew1) | exact HB.out)))); (case aL => have := LMc5.out; omega); intro v187 w6 ho hb hg hat; rw [← Ny186.out] at ho; have n0_ := Aside0.mk (hb); have n1_ := Aside0.mk (ho); clear HB; clear HO_5; have HB := n0_; have HO188 := n1_; clear n0_ n1_; clear ho hb hg hat))
            go_roundg k1
            case measure => have := HK1.out; omega
            case rel => exact ⟨(wrap64 (Int.tdiv x0_1 a1)), (y186), (by first | rfl | (simp; done) | (simp [*]; done)), H', ⟨by have := HK1.out; omega⟩, ⟨by (with_reducible repeat (first | apply Kd.R_alloc | apply Kd.R_drewN | apply Kd.R_drew)); exact HO188.out⟩, ⟨by repeat (first | (with_reducible first | exact HB.out | apply below_alloc | apply pw_below_drewN | apply below_drew1) | exact HB.out)⟩⟩
          · rw [if_neg c5] at H
            exact absurd H (by simp)
      · rw [if_neg c3] at H
        have c3b0 : decide (0 < x0_1) = false := decide_eq_false c3
        clear c3
        obtain rfl := Option.some.inj H
        go_wp2
        go_ret
        exact ⟨_, by first | rfl | (simp [errW_none, errW_some] <;> rfl) | (simp [*, errW_none, errW_some] <;> rfl), by (with_reducible repeat (first | apply Kd.R_alloc | apply Kd.R_drewN | apply Kd.R_drew)); exact HO_5.out, by repeat (first | (with_reducible first | exact HB.out | apply below_alloc | apply pw_below_drewN | apply below_drew1) | exact HB.out)⟩

/-! ### spec_meBinary: function 56 -/
def spec_meBinary.l0 : Nat → List Int → Int → Int → Int → List (S79) → List Int → Option (Int × (List (S79)) × List Int)
  | 0, _, _, _, _, _, _ => none
  | k + 1, x3, x5, x6, x194000, x194001, x194002 => if x6 ≥ 0 then ((spec_meTimes.f x194000 x194001 x194002 x5 x5).bind fun bt201 => (if 0 ≤ x6 then (if x6 < (x3.length : Int) then (if (rd x3 x6) = 1 then ((spec_meTimes.f bt201.1 bt201.2.1 bt201.2.2.1 bt201.2.2.2 0).bind fun bt210 => (spec_meBinary.l0 k x3 bt210.2.2.2 (wrap64 (x6 - 1)) bt210.1 bt210.2.1 bt210.2.2.1)) else (spec_meBinary.l0 k x3 bt201.2.2.2 (wrap64 (x6 - 1)) bt201.1 bt201.2.1 bt201.2.2.1)) else (none)) else (none))) else ((spec_meEnd.f x194000 x194001 x194002 x5).bind fun bt194 => (some (bt194.1, bt194.2.1, bt194.2.2)))
def spec_meBinary.f (k : Nat) (a0 : Int) : Option (Int × (List (S79)) × List Int) := (spec_meDigits.f k a0 2).bind fun t190 => (spec_meBinary.l0 k t190 0 (wrap64 ((t190.length : Int) - 2)) 1 ([] : List (S79)) ([] : List Int))
theorem spec_meBinary.mono_l : ∀ k, (∀ y0 y1 y2 y3 y4 y5, LeO (spec_meBinary.l0 k y0 y1 y2 y3 y4 y5) (spec_meBinary.l0 (k + 1) y0 y1 y2 y3 y4 y5))
  | 0 => fun _ _ _ _ _ _ r h => by simp [spec_meBinary.l0] at h
  | k + 1 => by
    have ih0 := spec_meBinary.mono_l k
    · intro y0 y1 y2 y3 y4 y5
      unfold spec_meBinary.l0
      repeat' first
      | (with_reducible exact ih0 _ _ _ _ _ _)
      | (with_reducible exact spec_meDigits.mono _ _ _)
      | (with_reducible exact LeO.refl _)
      | (with_reducible exact LeO.none _)
      | (with_reducible refine LeO.ite ?_ ?_)
      | (with_reducible refine LeO.bind ?_ (fun _ => ?_))
      | exact ih0 _ _ _ _ _ _
      | exact spec_meDigits.mono _ _ _
      | exact LeO.none _
      | refine LeO.ite ?_ ?_
      | refine LeO.bind ?_ (fun _ => ?_)
theorem spec_meBinary.mono : ∀ a0 k, LeO (spec_meBinary.f k a0) (spec_meBinary.f (k + 1) a0) := by
  intro a0 k
  have ih0 := spec_meBinary.mono_l k
  unfold spec_meBinary.f
  repeat' first
      | (with_reducible exact ih0 _ _ _ _ _ _)
      | (with_reducible exact spec_meDigits.mono _ _ _)
      | (with_reducible exact LeO.refl _)
      | (with_reducible exact LeO.none _)
      | (with_reducible refine LeO.ite ?_ ?_)
      | (with_reducible refine LeO.bind ?_ (fun _ => ?_))
      | exact ih0 _ _ _ _ _ _
      | exact spec_meDigits.mono _ _ _
      | exact LeO.none _
      | refine LeO.ite ?_ ?_
      | refine LeO.bind ?_ (fun _ => ?_)
set_option maxHeartbeats 8000000 in
set_option maxRecDepth 100000 in
theorem spec_meBinary.calls (k : Nat) (a0 : Int) (r1 : Int) (r2 : List (S79)) (r3 : List Int) (w : World) (h : spec_meBinary.f k a0 = some (r1, r2, r3)) :
    Calls Try.prog 56 #[.int .i64 a0] w fun e w' => ∃ v1_ v2_ : Value, e = .returned (.agg #[.int .i64 r1, v1_, v2_]) ∧ Kd.R k79 79 w' w.heap.size (fun _ => True) v1_ r2 ∧ Kd.R (Kd.int .i64) 3 w' w.heap.size (fun _ => True) v2_ r3 ∧ Below w.heap.size w w' := by
  have hu28 := Try.underlying28
  have HB := Aside0.mk (Below.refl w.heap.size w)
  have H : ((spec_meDigits.f k a0 2).bind fun t190 => (spec_meBinary.l0 k t190 0 (wrap64 ((t190.length : Int) - 2)) 1 ([] : List (S79)) ([] : List Int))) = some (r1, r2, r3) := h
  clear h
  replace H := Option.bind_eq_some_iff.mp H
  obtain ⟨t190, A20, H⟩ := H
  replace H : (spec_meBinary.l0 k t190 0 (wrap64 ((t190.length : Int) - 2)) 1 ([] : List (S79)) ([] : List Int)) = some (r1, r2, r3) := H
  have A2 := Aside0.mk A20
  clear A20
  have H' := Aside0.mk H
  clear H
  go_enter Try.func56, Try.ntmps56
  go_wp2_with (first | ((with_reducible refine gate_dst (N := 2) rfl ?_); refine box_event ?hg (N := 2) ?hd (cs := #[.int .i64 0, .slice none 0 0, .slice none 0 0]) (t := 28) ?hr ?_; (case hd => rfl); (case hg => rfl); (case hr => first | (go_simp; done) | (go_simp; rfl)); intro gb189 hg w3 hbox hb; have n0_ := Aside0.mk (below_step (by repeat (first | (with_reducible first | exact HB.out | apply below_alloc | apply pw_below_drewN | apply below_drew1) | exact HB.out)) hb); have n1_ := Aside0.mk (hbox); have n2_ := Aside0.mk ((by rw [hg]; exact (below_size (by repeat (first | (with_reducible first | exact HB.out | apply below_alloc | apply pw_below_drewN | apply below_drew1) | exact HB.out))) : w.heap.size ≤ gb189)); have n3_ := Aside0.mk ((by rw [hg]; exact (below_size (by repeat (first | (with_reducible first | exact HB.out | apply below_alloc | apply pw_below_drewN | apply below_drew1) | exact HB.out))) : w.heap.size ≤ gb189)); clear HB; have HB := n0_; have BK189 := n1_; have GW189 := n2_; have GE189 := n3_; clear n0_ n1_ n2_ n3_; clear hb hbox hg) | ((with_reducible refine gate_callee (f := 50) rfl ?_); refine goesL_ (some 8) rfl rfl Try.func50 (by kernel_rfl) rfl #[.int .i64 a0, .int .i64 2] rfl (by (try simp only [List.map_toArray, List.map_cons, List.map_nil]); first | done | rfl | (simp only [List.length_drop, List.length_take]; rfl)) ?_; (with_reducible refine (spec_meDigits.calls k a0 2 t190 _ A2.out).mono ?_); rintro e w4 ⟨v191, rfl, ho0, hb⟩; refine ⟨_, rfl, ?_⟩; have n0_ := Aside0.mk (Kd.R_lower ho0 (below_size (by repeat (first | (with_reducible first | exact HB.out | apply below_alloc | apply pw_below_drewN | apply below_drew1 | refine below_set ?_ GE189.out) | exact HB.out)))); have n1_ := Aside0.mk (blk_below (g := gb189) (o := .cells #[.int .i64 0, .slice none 0 0, .slice none 0 0] 28 (0, 0)) (by (with_reducible repeat (first | refine blk_drewN ?_ _ | refine blk_drew ?_ | refine blk_alloc ?_ _)); exact BK189.out) hb); have n2_ := Aside0.mk (below_step (by repeat (first | (with_reducible first | exact HB.out | apply below_alloc | apply pw_below_drewN | apply below_drew1 | refine below_set ?_ GE189.out) | exact HB.out)) hb); clear BK189; clear HB; have HO192 := n0_; have BK189 := n1_; have HB := n2_; clear n0_ n1_ n2_; (try clear hb); (try clear hb2); (try clear hk); (try clear hi); (try clear ho0)) | ((with_reducible refine gate_dst (N := 4) rfl ?_); refine box_event ?hg (N := 4) ?hd (cs := #[.int .i64 0, .slice none 0 0, .slice none 0 0]) (t := 28) ?hr ?_; (case hd => rfl); (case hg => rfl); (case hr => first | (go_simp; done) | (go_simp; rfl)); intro gb193 hg w5 hbox hb; have n0_ := Aside0.mk (Kd.R_below (by (with_reducible repeat (first | apply Kd.R_alloc | apply Kd.R_drewN | apply Kd.R_drew)); exact HO192.out) hb); have n1_ := Aside0.mk (blk_below (g := gb189) (o := .cells #[.int .i64 0, .slice none 0 0, .slice none 0 0] 28 (0, 0)) (by (with_reducible repeat (first | refine blk_drewN ?_ _ | refine blk_drew ?_ | refine blk_alloc ?_ _)); exact BK189.out) hb); have n2_ := Aside0.mk (below_step (by repeat (first | (with_reducible first | exact HB.out | apply below_alloc | apply pw_below_drewN | apply below_drew1 | refine below_set ?_ GE189.out) | exact HB.out)) hb); have n3_ := Aside0.mk (hbox); have n4_ := Aside0.mk ((by rw [hg]; exact (below_size (by repeat (first | (with_reducible first | exact HB.out | apply below_alloc | apply pw_below_drewN | apply below_drew1 | refine below_set ?_ GE189.out) | exact HB.out))) : w.heap.size ≤ gb193)); have n5_ := Aside0.mk ((by rw [hg]; exact (below_size (by repeat (first | (with_reducible first | exact HB.out | apply below_alloc | apply pw_below_drewN | apply below_drew1 | refine below_set ?_ GE189.out) | exact HB.out))) : w.heap.size ≤ gb193)); have n6_ := Aside0.mk ((by rw [hg]; exact Nat.ne_of_lt (blk_lt (g := gb189) (o := .cells #[.int .i64 0, .slice none 0 0, .slice none 0 0] 28 (0, 0)) (by (with_reducible repeat (first | refine blk_drewN ?_ _ | refine blk_drew ?_ | refine blk_alloc ?_ _)); exact BK189.out)) : gb189 ≠ gb193)); have n7_ := Aside0.mk ((by rw [hg]; exact Nat.ne_of_gt (blk_lt (g := gb189) (o := .cells #[.int .i64 0, .slice none 0 0, .slice none 0 0] 28 (0, 0)) (by (with_reducible repeat (first | refine blk_drewN ?_ _ | refine blk_drew ?_ | refine blk_alloc ?_ _)); exact BK189.out)) : gb193 ≠ gb189)); clear HO192; clear BK189; clear HB; have HO192 := n0_; have BK189 := n1_; have HB := n2_; have BK193 := n3_; have GW193 := n4_; have GE193 := n5_; have NB189_193 := n6_; have NB193_189 := n7_; clear n0_ n1_ n2_ n3_ n4_ n5_ n6_ n7_; clear hb hbox hg; have hnb6 := NB193_189.out; have hnc6 := NB189_193.out; have hcz7_0 : w5.cell? ⟨gb193, 0, none⟩ = some (.int .i64 0) := (blk_cell BK193.out 0).trans rfl; have hcz7_1 : w5.cell? ⟨gb193, 1, none⟩ = some (.slice none 0 0) := (blk_cell BK193.out 1).trans rfl; have hcz7_2 : w5.cell? ⟨gb193, 2, none⟩ = some (.slice none 0 0) := (blk_cell BK193.out 2).trans rfl; have hfz7_0 := blk_frozen BK193.out 0; have hfz7_1 := blk_frozen BK193.out 1; have hfz7_2 := blk_frozen BK193.out 2; obtain ⟨Ao8, co8, eo8⟩ := Kd.R_slice HO192.out; subst eo8))
  go_loopg [5, 6] k (fun kq v5 v6 w' => ∃ (x5_1 : Int) (x6_1 : Int) (x194000_1 : Int) (x194001_1 : List (S79)) (x194002_1 : List Int) (u194001 : Value) (u194002 : Value), v5 = .int .i64 x5_1 ∧ v6 = .int .i64 x6_1 ∧ Aside0 (spec_meBinary.l0 kq t190 x5_1 x6_1 x194000_1 x194001_1 x194002_1 = some (r1, r2, r3)) ∧ Aside0 (kq ≤ k) ∧ Aside0 (Kd.R (Kd.int .i64) 3 w' w.heap.size (fun k_ => some k_ ≠ (u194002 : Value).ownBlock) (.slice Ao8 t190.length co8) t190) ∧ Aside0 (Kd.R k79 79 w' w.heap.size (fun _ => True) u194001 x194001_1) ∧ Aside0 (Kd.R (Kd.int .i64) 3 w' w.heap.size (fun k_ => some k_ ≠ ((.slice Ao8 t190.length co8) : Value).ownBlock) u194002 x194002_1) ∧ Aside0 (w'.heap[gb189]? = some (.cells #[.int .i64 0, (.slice none 0 0), (.slice none 0 0)] 28 (0, 0))) ∧ Aside0 (w'.heap[gb193]? = some (.cells #[.int .i64 x194000_1, u194001, u194002] 28 (0, 0))) ∧ Aside0 (Below w.heap.size w w'))
  case atStart => exact ⟨(0), (wrap64 ((t190.length : Int) - 2)), (1), (([] : List (S79))), (([] : List Int)), (.slice none 0 0), (.slice none 0 0), (by first | rfl | (simp; done) | (simp [*]; done)), (by first | rfl | (simp; done) | (simp [*]; done)), H', ⟨Nat.le_refl _⟩, ⟨by (with_reducible repeat (first | apply Kd.R_alloc | apply Kd.R_drewN | apply Kd.R_drew)); exact Kd.R_mono (Kd.R_far (p := ⟨gb193, 2, none⟩) (Kd.R_far (p := ⟨gb193, 1, none⟩) (Kd.R_far (p := ⟨gb193, 0, none⟩) (Kd.R_types HO192.out BK193.out (by decide)) (fun _ hk => hk.2) (.int .i64 1)) (fun _ hk => hk.2) (.slice none 0 0)) (fun _ hk => hk.2) (.slice none 0 0)) (fun _ hk => (by simp [Value.ownBlock]))⟩, ⟨by first | exact Kd.R_nil _ _ _ _ _ | exact Kd.N_nil _ _ _ _ _ | exact Kd.V_nil _ _ _ _ _ | exact Kd.Q_nil _ _ _ _ _ | exact Kd.S_nil _ _ _ _ _⟩, ⟨by first | exact Kd.R_nil _ _ _ _ _ | exact Kd.N_nil _ _ _ _ _ | exact Kd.V_nil _ _ _ _ _ | exact Kd.Q_nil _ _ _ _ _ | exact Kd.S_nil _ _ _ _ _⟩, ⟨by (with_reducible repeat (first | refine blk_drewN ?_ _ | refine blk_drew ?_ | refine blk_alloc ?_ _)); refine blk_far ?_ NB189_193.out _; (with_reducible repeat (first | refine blk_drewN ?_ _ | refine blk_drew ?_ | refine blk_alloc ?_ _)); refine blk_far ?_ NB189_193.out _; (with_reducible repeat (first | refine blk_drewN ?_ _ | refine blk_drew ?_ | refine blk_alloc ?_ _)); refine blk_far ?_ NB189_193.out _; (with_reducible repeat (first | refine blk_drewN ?_ _ | refine blk_drew ?_ | refine blk_alloc ?_ _)); exact BK189.out⟩, ⟨by (with_reducible repeat (first | refine blk_drewN ?_ _ | refine blk_drew ?_ | refine blk_alloc ?_ _)); refine blk_put (cs := #[.int .i64 1, .slice none 0 0, .slice none 0 0]) ?_ 2 _ rfl; (with_reducible repeat (first | refine blk_drewN ?_ _ | refine blk_drew ?_ | refine blk_alloc ?_ _)); refine blk_put (cs := #[.int .i64 1, .slice none 0 0, .slice none 0 0]) ?_ 1 _ rfl; (with_reducible repeat (first | refine blk_drewN ?_ _ | refine blk_drew ?_ | refine blk_alloc ?_ _)); refine blk_put (cs := #[.int .i64 0, .slice none 0 0, .slice none 0 0]) ?_ 0 _ rfl; (with_reducible repeat (first | refine blk_drewN ?_ _ | refine blk_drew ?_ | refine blk_alloc ?_ _)); exact BK193.out⟩, ⟨by repeat (first | (with_reducible first | exact HB.out | apply below_alloc | apply pw_below_drewN | apply below_drew1 | refine below_set ?_ GE189.out | refine below_set ?_ GE193.out) | exact HB.out)⟩⟩
  case round =>
    clear H'
    try clear p2
    try clear c5
    try clear c6
    try clear p6
    try clear hcz7_0
    try clear hcz7_1
    try clear hcz7_2
    try clear hfz7_0
    try clear hfz7_1
    try clear hfz7_2
    obtain ⟨x5_1, x6_1, x194000_1, x194001_1, x194002_1, u194001, u194002, rfl, rfl, HA, HK1, HO_3, HO_194001, HO_194002, BK189, BK193, HB⟩ := hrel
    cases gk with
    | zero => exact absurd HA.out (by simp [spec_meBinary.l0])
    | succ k1 =>
      have H := HA.out
      clear HA
      simp only [spec_meBinary.l0] at H
      by_cases c9 : x6_1 ≥ 0
      · rw [if_pos c9] at H
        have c9b0 : decide (0 ≤ x6_1) = true := decide_eq_true c9
        clear c9
        replace H := Option.bind_eq_some_iff.mp H
        obtain ⟨⟨t201, t202, t205, t208⟩, A100, H⟩ := H
        replace H : (if 0 ≤ x6_1 then (if x6_1 < (t190.length : Int) then (if (rd t190 x6_1) = 1 then ((spec_meTimes.f t201 t202 t205 t208 0).bind fun bt210 => (spec_meBinary.l0 k1 t190 bt210.2.2.2 (wrap64 (x6_1 - 1)) bt210.1 bt210.2.1 bt210.2.2.1)) else (spec_meBinary.l0 k1 t190 t208 (wrap64 (x6_1 - 1)) t201 t202 t205)) else (none)) else (none)) = some (r1, r2, r3) := H
        have A10 := Aside0.mk A100
        clear A100
        by_cases c11 : 0 ≤ x6_1
        · rw [if_pos c11] at H
          have c11b0 : decide (0 ≤ x6_1) = true := decide_eq_true c11
          clear c11
          by_cases c12 : x6_1 < (t190.length : Int)
          · rw [if_pos c12] at H
            have c12b0 : decide (x6_1 < (t190.length : Int)) = true := decide_eq_true c12
            clear c12
            by_cases c13 : (rd t190 x6_1) = 1
            · rw [if_pos c13] at H
              have c13b0 : ((rd t190 x6_1) == 1) = true := beq_iff_eq.mpr c13
              have c13b1 : ((rd t190 x6_1) != 1) = false := bne_eq_false_iff_eq.mpr c13
              clear c13
              replace H := Option.bind_eq_some_iff.mp H
              obtain ⟨⟨t210, t211, t214, t217⟩, A140, H⟩ := H
              replace H : (spec_meBinary.l0 k1 t190 t217 (wrap64 (x6_1 - 1)) t210 t211 t214) = some (r1, r2, r3) := H
              have A14 := Aside0.mk A140
              clear A140
              have H' := Aside0.mk H
              clear H
              have hnb15 := NB193_189.out
              have hnc15 := NB189_193.out
              have hcz16_0 : wr.cell? ⟨gb193, 0, none⟩ = some (.int .i64 x194000_1) := (blk_cell BK193.out 0).trans rfl
              have hcz16_1 : wr.cell? ⟨gb193, 1, none⟩ = some (u194001) := (blk_cell BK193.out 1).trans rfl
              have hcz16_2 : wr.cell? ⟨gb193, 2, none⟩ = some (u194002) := (blk_cell BK193.out 2).trans rfl
              have hfz16_0 := blk_frozen BK193.out 0
              have hfz16_1 := blk_frozen BK193.out 1
              have hfz16_2 := blk_frozen BK193.out 2
              obtain ⟨Ao17, co17, eo17⟩ := Kd.R_slice HO_194001.out
              subst eo17
              obtain ⟨Ao18, co18, eo18⟩ := Kd.R_slice HO_194002.out
              subst eo18
              go_wp2_with (first | ((with_reducible refine gate_callee (f := 41) rfl ?_); refine goesL_ (some 21) rfl rfl Try.func41 (by kernel_rfl) rfl #[.agg #[.int .i64 x194000_1, .slice Ao17 x194001_1.length co17, .slice Ao18 x194002_1.length co18], .int .i64 x5_1, .int .i64 x5_1] rfl (by (try simp only [List.map_toArray, List.map_cons, List.map_nil]); first | done | rfl | (simp only [List.length_drop, List.length_take]; rfl)) ?_; (with_reducible refine (spec_meTimes.calls x194000_1 _ _ x194001_1 _ _ x194002_1 x5_1 x5_1 t201 t202 t205 t208 _ ?side1 ?side2 ?side3 ?side4 A10.out).mono ?_); (case side1 => repeat (first | exact (Kd.R_reads' HO_194001.out).2.2 | (with_reducible refine Kd.C_alloc ?_ _) | (with_reducible refine Kd.C_drewN ?_ _) | (with_reducible refine Kd.C_drew ?_))); (case side2 => exact (Kd.R_reads' HO_194001.out).2.1); (case side3 => repeat (first | exact (Kd.R_reads' HO_194002.out).2.2 | (with_reducible refine Kd.C_alloc ?_ _) | (with_reducible refine Kd.C_drewN ?_ _) | (with_reducible refine Kd.C_drew ?_))); (case side4 => exact (Kd.R_reads' HO_194002.out).2.1); rintro e w19 ⟨v203, v206, rfl, ho0, ho1, hb⟩; refine ⟨_, rfl, ?_⟩; have n0_ := Aside0.mk (Kd.R_elder' (by (with_reducible repeat (first | apply Kd.R_alloc | apply Kd.R_drewN | apply Kd.R_drew)); exact HO_3.out) (Kd.R_base ho1) hb); have n1_ := Aside0.mk (Kd.R_elder' (by (with_reducible repeat (first | apply Kd.R_alloc | apply Kd.R_drewN | apply Kd.R_drew)); exact HO_194001.out) (Kd.R_base ho0) hb); have n2_ := Aside0.mk (Kd.R_elder' (by (with_reducible repeat (first | apply Kd.R_alloc | apply Kd.R_drewN | apply Kd.R_drew)); exact HO_194002.out) (Kd.R_base ho1) hb); have n3_ := Aside0.mk (Kd.R_lower (Kd.R_new' ho0 (Kd.R_lt (by (with_reducible repeat (first | apply Kd.R_alloc | apply Kd.R_drewN | apply Kd.R_drew)); exact HO_194001.out))) (below_size (by repeat (first | (with_reducible first | exact HB.out | apply below_alloc | apply pw_below_drewN | apply below_drew1 | refine below_set ?_ GE189.out | refine below_set ?_ GE193.out) | exact HB.out)))); have n4_ := Aside0.mk (Kd.R_lower (Kd.R_new' (Kd.R_new' ho1 (Kd.R_lt (by (with_reducible repeat (first | apply Kd.R_alloc | apply Kd.R_drewN | apply Kd.R_drew)); exact HO_3.out))) (Kd.R_lt (by (with_reducible repeat (first | apply Kd.R_alloc | apply Kd.R_drewN | apply Kd.R_drew)); exact HO_194002.out))) (below_size (by repeat (first | (with_reducible first | exact HB.out | apply below_alloc | apply pw_below_drewN | apply below_drew1 | refine below_set ?_ GE189.out | refine below_set ?_ GE193.out) | exact HB.out)))); have n5_ := Aside0.mk (blk_below (g := gb189) (o := .cells #[.int .i64 0, .slice none 0 0, .slice none 0 0] 28 (0, 0)) (by (with_reducible repeat (first | refine blk_drewN ?_ _ | refine blk_drew ?_ | refine blk_alloc ?_ _)); exact BK189.out) hb); have n6_ := Aside0.mk (blk_below (g := gb193) (o := .cells #[.int .i64 x194000_1, .slice Ao17 x194001_1.length co17, .slice Ao18 x194002_1.length co18] 28 (0, 0)) (by (with_reducible repeat (first | refine blk_drewN ?_ _ | refine blk_drew ?_ | refine blk_alloc ?_ _)); exact BK193.out) hb); have n7_ := Aside0.mk (below_step (by repeat (first | (with_reducible first | exact HB.out | apply below_alloc | apply pw_below_drewN | apply below_drew1 | refine below_set ?_ GE189.out | refine below_set ?_ GE193.out) | exact HB.out)) hb); clear HO_3; clear HO_194001; clear HO_194002; clear BK189; clear BK193; clear HB; have HO_3 := n0_; have HO_194001 := n1_; have HO_194002 := n2_; have HO204 := n3_; have HO207 := n4_; have BK189 := n5_; have BK193 := n6_; have HB := n7_; clear n0_ n1_ n2_ n3_ n4_ n5_ n6_ n7_; (try clear hb); (try clear hb2); (try clear hk); (try clear hi); (try clear ho0); (try clear ho1); have hcz20_0 : w19.cell? ⟨gb193, 0, none⟩ = some (.int .i64 x194000_1) := (blk_cell BK193.out 0).trans rfl; have hcz20_1 : w19.cell? ⟨gb193, 1, none⟩ = some (.slice Ao17 x194001_1.length co17) := (blk_cell BK193.out 1).trans rfl; have hcz20_2 : w19.cell? ⟨gb193, 2, none⟩ = some (.slice Ao18 x194002_1.length co18) := (blk_cell BK193.out 2).trans rfl; have hfz20_0 := blk_frozen BK193.out 0; have hfz20_1 := blk_frozen BK193.out 1; have hfz20_2 := blk_frozen BK193.out 2; obtain ⟨Ao21, co21, eo21⟩ := Kd.R_slice HO204.out; subst eo21; obtain ⟨Ao22, co22, eo22⟩ := Kd.R_slice HO207.out; subst eo22; have p209 : 0 ≤ (x6_1 : Int) := of_decide_eq_true (by first | (with_reducible assumption) | assumption); have q209 : x6_1 < (t190.length : Int) := of_decide_eq_true (by first | (with_reducible assumption) | assumption); obtain ⟨ad209, e209, hx209_0⟩ := Kd.at_int (Kd.R_reads' HO_3.out).2.2 x6_1 p209 q209; cases e209; have hn209_0 : ad209.block ≠ gb193 := Kd.own_blk (Kd.R_ne HO_3.out BK193.out (by decide)); have hn209_1 : ad209.block ≠ gb193 := Kd.own_blk (Kd.R_ne HO_3.out BK193.out (by decide)); have hn209_2 : ad209.block ≠ gb193 := Kd.own_blk (Kd.R_ne HO_3.out BK193.out (by decide)); replace hx209_0 := (cell_far (p := ⟨gb193, 0, none⟩) (by first | (rw [add_block]; exact hn209_0) | (show (Addr.add _ _).block ≠ _; rw [add_block]; exact hn209_0) | exact hn209_0) (.int .i64 t201)).trans hx209_0; replace hx209_0 := (cell_far (p := ⟨gb193, 1, none⟩) (by first | (rw [add_block]; exact hn209_1) | (show (Addr.add _ _).block ≠ _; rw [add_block]; exact hn209_1) | exact hn209_1) (.slice Ao21 t202.length co21)).trans hx209_0; replace hx209_0 := (cell_far (p := ⟨gb193, 2, none⟩) (by first | (rw [add_block]; exact hn209_2) | (show (Addr.add _ _).block ≠ _; rw [add_block]; exact hn209_2) | exact hn209_2) (.slice Ao22 t205.length co22)).trans hx209_0; clear hn209_0; clear hn209_1; clear hn209_2; replace p209 := eq_true p209; replace q209 := eq_true q209) | ((with_reducible refine gate_callee (f := 41) rfl ?_); refine goesL_ (some 32) rfl rfl Try.func41 (by kernel_rfl) rfl #[.agg #[.int .i64 t201, .slice Ao21 t202.length co21, .slice Ao22 t205.length co22], .int .i64 t208, .int .i64 0] rfl (by (try simp only [List.map_toArray, List.map_cons, List.map_nil]); first | done | rfl | (simp only [List.length_drop, List.length_take]; rfl)) ?_; (with_reducible refine (spec_meTimes.calls t201 _ _ t202 _ _ t205 t208 0 t210 t211 t214 t217 _ ?side1 ?side2 ?side3 ?side4 A14.out).mono ?_); (case side1 => refine (Kd.R_reads' (e := 79) (base := w.heap.size) (ok := fun k_ => (True ∧ some k_ ≠ (.slice Ao17 x194001_1.length co17 : Value).ownBlock)) (n := t202.length) (c := co21) ?_).2.2; exact (by (with_reducible repeat (first | apply Kd.R_alloc | apply Kd.R_drewN | apply Kd.R_drew)); exact (Kd.R_mono (Kd.R_far (p := ⟨gb193, 2, none⟩) (Kd.R_far (p := ⟨gb193, 1, none⟩) (Kd.R_far (p := ⟨gb193, 0, none⟩) (Kd.R_types HO204.out BK193.out (by decide)) (fun _ hk => hk.2) (.int .i64 t201)) (fun _ hk => hk.2) (.slice Ao21 t202.length co21)) (fun _ hk => hk.2) (.slice Ao22 t205.length co22)) (fun _ h_ => h_.1)))); (case side2 => exact (Kd.R_reads' HO204.out).2.1); (case side3 => refine (Kd.R_reads' (e := 3) (base := w.heap.size) (ok := fun k_ => ((True ∧ some k_ ≠ (.slice (some ad209) t190.length co8 : Value).ownBlock) ∧ some k_ ≠ (.slice Ao18 x194002_1.length co18 : Value).ownBlock)) (n := t205.length) (c := co22) ?_).2.2; exact (by (with_reducible repeat (first | apply Kd.R_alloc | apply Kd.R_drewN | apply Kd.R_drew)); exact (Kd.R_mono (Kd.R_far (p := ⟨gb193, 2, none⟩) (Kd.R_far (p := ⟨gb193, 1, none⟩) (Kd.R_far (p := ⟨gb193, 0, none⟩) (Kd.R_types HO207.out BK193.out (by decide)) (fun _ hk => hk.2) (.int .i64 t201)) (fun _ hk => hk.2) (.slice Ao21 t202.length co21)) (fun _ hk => hk.2) (.slice Ao22 t205.length co22)) (fun _ h_ => h_.1)))); (case side4 => exact (Kd.R_reads' HO207.out).2.1); rintro e w23 ⟨v212, v215, rfl, ho0, ho1, hb⟩; refine ⟨_, rfl, ?_⟩; have n0_ := Aside0.mk (Kd.R_elder' (by (with_reducible repeat (first | apply Kd.R_alloc | apply Kd.R_drewN | apply Kd.R_drew)); exact (Kd.R_mono (Kd.R_far (p := ⟨gb193, 2, none⟩) (Kd.R_far (p := ⟨gb193, 1, none⟩) (Kd.R_far (p := ⟨gb193, 0, none⟩) (Kd.R_types HO_3.out BK193.out (by decide)) (fun _ hk => hk.2) (.int .i64 t201)) (fun _ hk => hk.2) (.slice Ao21 t202.length co21)) (fun _ hk => hk.2) (.slice Ao22 t205.length co22)) (fun _ h_ => h_.1))) (Kd.R_base ho1) hb); have n1_ := Aside0.mk (Kd.R_elder' (by (with_reducible repeat (first | apply Kd.R_alloc | apply Kd.R_drewN | apply Kd.R_drew)); exact (Kd.R_mono (Kd.R_far (p := ⟨gb193, 2, none⟩) (Kd.R_far (p := ⟨gb193, 1, none⟩) (Kd.R_far (p := ⟨gb193, 0, none⟩) (Kd.R_types HO_194001.out BK193.out (by decide)) (fun _ hk => hk.2) (.int .i64 t201)) (fun _ hk => hk.2) (.slice Ao21 t202.length co21)) (fun _ hk => hk.2) (.slice Ao22 t205.length co22)) (fun _ h_ => h_.1))) (Kd.R_base ho0) hb); have n2_ := Aside0.mk (Kd.R_elder' (by (with_reducible repeat (first | apply Kd.R_alloc | apply Kd.R_drewN | apply Kd.R_drew)); exact (Kd.R_mono (Kd.R_far (p := ⟨gb193, 2, none⟩) (Kd.R_far (p := ⟨gb193, 1, none⟩) (Kd.R_far (p := ⟨gb193, 0, none⟩) (Kd.R_types HO_194002.out BK193.out (by decide)) (fun _ hk => hk.2) (.int .i64 t201)) (fun _ hk => hk.2) (.slice Ao21 t202.length co21)) (fun _ hk => hk.2) (.slice Ao22 t205.length co22)) (fun _ h_ => h_.1))) (Kd.R_base ho1) hb); have n3_ := Aside0.mk (Kd.R_elder' (by (with_reducible repeat (first | apply Kd.R_alloc | apply Kd.R_drewN | apply Kd.R_drew)); exact (Kd.R_mono (Kd.R_far (p := ⟨gb193, 2, none⟩) (Kd.R_far (p := ⟨gb193, 1, none⟩) (Kd.R_far (p := ⟨gb193, 0, none⟩) (Kd.R_types HO204.out BK193.out (by decide)) (fun _ hk => hk.2) (.int .i64 t201)) (fun _ hk => hk.2) (.slice Ao21 t202.length co21)) (fun _ hk => hk.2) (.slice Ao22 t205.length co22)) (fun _ h_ => h_.1))) (Kd.R_base ho0) hb); have n4_ := Aside0.mk (Kd.R_elder' (by (with_reducible repeat (first | apply Kd.R_alloc | apply Kd.R_drewN | apply Kd.R_drew)); exact (Kd.R_mono (Kd.R_far (p := ⟨gb193, 2, none⟩) (Kd.R_far (p := ⟨gb193, 1, none⟩) (Kd.R_far (p := ⟨gb193, 0, none⟩) (Kd.R_types HO207.out BK193.out (by decide)) (fun _ hk => hk.2) (.int .i64 t201)) (fun _ hk => hk.2) (.slice Ao21 t202.length co21)) (fun _ hk => hk.2) (.slice Ao22 t205.length co22)) (fun _ h_ => h_.1))) (Kd.R_base ho1) hb); have n5_ := Aside0.mk (Kd.R_lower (Kd.R_new' (Kd.R_new' ho0 (Kd.R_lt (by (with_reducible repeat (first | apply Kd.R_alloc | apply Kd.R_drewN | apply Kd.R_drew)); exact (Kd.R_mono (Kd.R_far (p := ⟨gb193, 2, none⟩) (Kd.R_far (p := ⟨gb193, 1, none⟩) (Kd.R_far (p := ⟨gb193, 0, none⟩) (Kd.R_types HO_194001.out BK193.out (by decide)) (fun _ hk => hk.2) (.int .i64 t201)) (fun _ hk => hk.2) (.slice Ao21 t202.length co21)) (fun _ hk => hk.2) (.slice Ao22 t205.length co22)) (fun _ h_ => h_.1))))) (Kd.R_lt (by (with_reducible repeat (first | apply Kd.R_alloc | apply Kd.R_drewN | apply Kd.R_drew)); exact (Kd.R_mono (Kd.R_far (p := ⟨gb193, 2, none⟩) (Kd.R_far (p := ⟨gb193, 1, none⟩) (Kd.R_far (p := ⟨gb193, 0, none⟩) (Kd.R_types HO204.out BK193.out (by decide)) (fun _ hk => hk.2) (.int .i64 t201)) (fun _ hk => hk.2) (.slice Ao21 t202.length co21)) (fun _ hk => hk.2) (.slice Ao22 t205.length co22)) (fun _ h_ => h_.1))))) (below_size (by repeat (first | (with_reducible first | exact HB.out | apply below_alloc | apply pw_below_drewN | apply below_drew1 | refine below_set ?_ GE189.out | refine below_set ?_ GE193.out) | exact HB.out)))); have n6_ := Aside0.mk (Kd.R_lower (Kd.R_new' (Kd.R_new' (Kd.R_new' ho1 (Kd.R_lt (by (with_reducible repeat (first | apply Kd.R_alloc | apply Kd.R_drewN | apply Kd.R_drew)); exact (Kd.R_mono (Kd.R_far (p := ⟨gb193, 2, none⟩) (Kd.R_far (p := ⟨gb193, 1, none⟩) (Kd.R_far (p := ⟨gb193, 0, none⟩) (Kd.R_types HO_3.out BK193.out (by decide)) (fun _ hk => hk.2) (.int .i64 t201)) (fun _ hk => hk.2) (.slice Ao21 t202.length co21)) (fun _ hk => hk.2) (.slice Ao22 t205.length co22)) (fun _ h_ => h_.1))))) (Kd.R_lt (by (with_reducible repeat (first | apply Kd.R_alloc | apply Kd.R_drewN | apply Kd.R_drew)); exact (Kd.R_mono (Kd.R_far (p := ⟨gb193, 2, none⟩) (Kd.R_far (p := ⟨gb193, 1, none⟩) (Kd.R_far (p := ⟨gb193, 0, none⟩) (Kd.R_types HO_194002.out BK193.out (by decide)) (fun _ hk => hk.2) (.int .i64 t201)) (fun _ hk => hk.2) (.slice Ao21 t202.length co21)) (fun _ hk => hk.2) (.slice Ao22 t205.length co22)) (fun _ h_ => h_.1))))) (Kd.R_lt (by (with_reducible repeat (first | apply Kd.R_alloc | apply Kd.R_drewN | apply Kd.R_drew)); exact (Kd.R_mono (Kd.R_far (p := ⟨gb193, 2, none⟩) (Kd.R_far (p := ⟨gb193, 1, none⟩) (Kd.R_far (p := ⟨gb193, 0, none⟩) (Kd.R_types HO207.out BK193.out (by decide)) (fun _ hk => hk.2) (.int .i64 t201)) (fun _ hk => hk.2) (.slice Ao21 t202.length co21)) (fun _ hk => hk.2) (.slice Ao22 t205.length co22)) (fun _ h_ => h_.1))))) (below_size (by repeat (first | (with_reducible first | exact HB.out | apply below_alloc | apply pw_below_drewN | apply below_drew1 | refine below_set ?_ GE189.out | refine below_set ?_ GE193.out) | exact HB.out)))); have n7_ := Aside0.mk (blk_below (g := gb189) (o := .cells #[.int .i64 0, .slice none 0 0, .slice none 0 0] 28 (0, 0)) (by (with_reducible repeat (first | refine blk_drewN ?_ _ | refine blk_drew ?_ | refine blk_alloc ?_ _)); refine blk_far ?_ NB189_193.out _; (with_reducible repeat (first | refine blk_drewN ?_ _ | refine blk_drew ?_ | refine blk_alloc ?_ _)); refine blk_far ?_ NB189_193.out _; (with_reducible repeat (first | refine blk_drewN ?_ _ | refine blk_drew ?_ | refine blk_alloc ?_ _)); refine blk_far ?_ NB189_193.out _; (with_reducible repeat (first | refine blk_drewN ?_ _ | refine blk_drew ?_ | refine blk_alloc ?_ _)); exact BK189.out) hb); have n8_ := Aside0.mk (blk_below (g := gb193) (o := .cells #[.int .i64 t201, .slice Ao21 t202.length co21, .slice Ao22 t205.length co22] 28 (0, 0)) (by (with_reducible repeat (first | refine blk_drewN ?_ _ | refine blk_drew ?_ | refine blk_alloc ?_ _)); refine blk_put (cs := #[.int .i64 t201, .slice Ao21 t202.length co21, .slice Ao18 x194002_1.length co18]) ?_ 2 _ rfl; (with_reducible repeat (first | refine blk_drewN ?_ _ | refine blk_drew ?_ | refine blk_alloc ?_ _)); refine blk_put (cs := #[.int .i64 t201, .slice Ao17 x194001_1.length co17, .slice Ao18 x194002_1.length co18]) ?_ 1 _ rfl; (with_reducible repeat (first | refine blk_drewN ?_ _ | refine blk_drew ?_ | refine blk_alloc ?_ _)); refine blk_put (cs := #[.int .i64 x194000_1, .slice Ao17 x194001_1.length co17, .slice Ao18 x194002_1.length co18]) ?_ 0 _ rfl; (with_reducible repeat (first | refine blk_drewN ?_ _ | refine blk_drew ?_ | refine blk_alloc ?_ _)); exact BK193.out) hb); have n9_ := Aside0.mk (below_step (by repeat (first | (with_reducible first | exact HB.out | apply below_alloc | apply pw_below_drewN | apply below_drew1 | refine below_set ?_ GE189.out | refine below_set ?_ GE193.out) | exact HB.out)) hb); clear HO_3; clear HO_194001; clear HO_194002; clear HO204; clear HO207; clear BK189; clear BK193; clear HB; have HO_3 := n0_; have HO_194001 := n1_; have HO_194002 := n2_; have HO204 := n3_; have HO207 := n4_; have HO213 := n5_; have HO216 := n6_; have BK189 := n7_; have BK193 := n8_; have HB := n9_; clear n0_ n1_ n2_ n3_ n4_ n5_ n6_ n7_ n8_ n9_; (try clear hb); (try clear hb2); (try clear hk); (try clear hi); (try clear ho0); (try clear ho1); have hcz24_0 : w23.cell? ⟨gb193, 0, none⟩ = some (.int .i64 t201) := (blk_cell BK193.out 0).trans rfl; have hcz24_1 : w23.cell? ⟨gb193, 1, none⟩ = some (.slice Ao21 t202.length co21) := (blk_cell BK193.out 1).trans rfl; have hcz24_2 : w23.cell? ⟨gb193, 2, none⟩ = some (.slice Ao22 t205.length co22) := (blk_cell BK193.out 2).trans rfl; have hfz24_0 := blk_frozen BK193.out 0; have hfz24_1 := blk_frozen BK193.out 1; have hfz24_2 := blk_frozen BK193.out 2; obtain ⟨Ao25, co25, eo25⟩ := Kd.R_slice HO213.out; subst eo25; obtain ⟨Ao26, co26, eo26⟩ := Kd.R_slice HO216.out; subst eo26))
              go_roundg k1
              case measure => have := HK1.out; omega
              case rel => exact ⟨(t217), (wrap64 (x6_1 - 1)), (t210), (t211), (t214), (.slice Ao25 t211.length co25), (.slice Ao26 t214.length co26), (by first | rfl | (simp; done) | (simp [*]; done)), (by first | rfl | (simp; done) | (simp [*]; done)), H', ⟨by have := HK1.out; omega⟩, ⟨by (with_reducible repeat (first | apply Kd.R_alloc | apply Kd.R_drewN | apply Kd.R_drew)); exact Kd.R_mono (Kd.R_far (p := ⟨gb193, 2, none⟩) (Kd.R_far (p := ⟨gb193, 1, none⟩) (Kd.R_far (p := ⟨gb193, 0, none⟩) (Kd.R_types HO_3.out BK193.out (by decide)) (fun _ hk => hk.2) (.int .i64 t210)) (fun _ hk => hk.2) (.slice Ao25 t211.length co25)) (fun _ hk => hk.2) (.slice Ao26 t214.length co26)) (fun _ hk => hk.1.2)⟩, ⟨by (with_reducible repeat (first | apply Kd.R_alloc | apply Kd.R_drewN | apply Kd.R_drew)); exact Kd.R_mono (Kd.R_far (p := ⟨gb193, 2, none⟩) (Kd.R_far (p := ⟨gb193, 1, none⟩) (Kd.R_far (p := ⟨gb193, 0, none⟩) (Kd.R_types HO213.out BK193.out (by decide)) (fun _ hk => hk.2) (.int .i64 t210)) (fun _ hk => hk.2) (.slice Ao25 t211.length co25)) (fun _ hk => hk.2) (.slice Ao26 t214.length co26)) (fun _ hk => trivial)⟩, ⟨by (with_reducible repeat (first | apply Kd.R_alloc | apply Kd.R_drewN | apply Kd.R_drew)); exact Kd.R_mono (Kd.R_far (p := ⟨gb193, 2, none⟩) (Kd.R_far (p := ⟨gb193, 1, none⟩) (Kd.R_far (p := ⟨gb193, 0, none⟩) (Kd.R_types HO216.out BK193.out (by decide)) (fun _ hk => hk.2) (.int .i64 t210)) (fun _ hk => hk.2) (.slice Ao25 t211.length co25)) (fun _ hk => hk.2) (.slice Ao26 t214.length co26)) (fun _ hk => hk.1.1.1.2)⟩, ⟨by (with_reducible repeat (first | refine blk_drewN ?_ _ | refine blk_drew ?_ | refine blk_alloc ?_ _)); refine blk_far ?_ NB189_193.out _; (with_reducible repeat (first | refine blk_drewN ?_ _ | refine blk_drew ?_ | refine blk_alloc ?_ _)); refine blk_far ?_ NB189_193.out _; (with_reducible repeat (first | refine blk_drewN ?_ _ | refine blk_drew ?_ | refine blk_alloc ?_ _)); refine blk_far ?_ NB189_193.out _; (with_reducible repeat (first | refine blk_drewN ?_ _ | refine blk_drew ?_ | refine blk_alloc ?_ _)); exact BK189.out⟩, ⟨by (with_reducible repeat (first | refine blk_drewN ?_ _ | refine blk_drew ?_ | refine blk_alloc ?_ _)); refine blk_put (cs := #[.int .i64 t210, .slice Ao25 t211.length co25, .slice Ao22 t205.length co22]) ?_ 2 _ rfl; (with_reducible repeat (first | refine blk_drewN ?_ _ | refine blk_drew ?_ | refine blk_alloc ?_ _)); refine blk_put (cs := #[.int .i64 t210, .slice Ao21 t202.length co21, .slice Ao22 t205.length co22]) ?_ 1 _ rfl; (with_reducible repeat (first | refine blk_drewN ?_ _ | refine blk_drew ?_ | refine blk_alloc ?_ _)); refine blk_put (cs := #[.int .i64 t201, .slice Ao21 t202.length co21, .slice Ao22 t205.length co22]) ?_ 0 _ rfl; (with_reducible repeat (first | refine blk_drewN ?_ _ | refine blk_drew ?_ | refine blk_alloc ?_ _)); exact BK193.out⟩, ⟨by repeat (first | (with_reducible first | exact HB.out | apply below_alloc | apply pw_below_drewN | apply below_drew1 | refine below_set ?_ GE189.out | refine below_set ?_ GE193.out) | exact HB.out)⟩⟩
            · rw [if_neg c13] at H
              have c13b0 : ((rd t190 x6_1) == 1) = false := beq_eq_false_iff_ne.mpr c13
              have c13b1 : ((rd t190 x6_1) != 1) = true := bne_iff_ne.mpr c13
              have H' := Aside0.mk H
              clear H
              have hnb27 := NB193_189.out
              have hnc27 := NB189_193.out
              have hcz28_0 : wr.cell? ⟨gb193, 0, none⟩ = some (.int .i64 x194000_1) := (blk_cell BK193.out 0).trans rfl
              have hcz28_1 : wr.cell? ⟨gb193, 1, none⟩ = some (u194001) := (blk_cell BK193.out 1).trans rfl
              have hcz28_2 : wr.cell? ⟨gb193, 2, none⟩ = some (u194002) := (blk_cell BK193.out 2).trans rfl
              have hfz28_0 := blk_frozen BK193.out 0
              have hfz28_1 := blk_frozen BK193.out 1
              have hfz28_2 := blk_frozen BK193.out 2
              obtain ⟨Ao29, co29, eo29⟩ := Kd.R_slice HO_194001.out
              subst eo29
              obtain ⟨Ao30, co30, eo30⟩ := Kd.R_slice HO_194002.out
              subst eo30
              go_wp2_with (first | ((with_reducible refine gate_callee (f := 41) rfl ?_); refine goesL_ (some 21) rfl rfl Try.func41 (by kernel_rfl) rfl #[.agg #[.int .i64 x194000_1, .slice Ao29 x194001_1.length co29, .slice Ao30 x194002_1.length co30], .int .i64 x5_1, .int .i64 x5_1] rfl (by (try simp only [List.map_toArray, List.map_cons, List.map_nil]); first | done | rfl | (simp only [List.length_drop, List.length_take]; rfl)) ?_; (with_reducible refine (spec_meTimes.calls x194000_1 _ _ x194001_1 _ _ x194002_1 x5_1 x5_1 t201 t202 t205 t208 _ ?side1 ?side2 ?side3 ?side4 A10.out).mono ?_); (case side1 => repeat (first | exact (Kd.R_reads' HO_194001.out).2.2 | (with_reducible refine Kd.C_alloc ?_ _) | (with_reducible refine Kd.C_drewN ?_ _) | (with_reducible refine Kd.C_drew ?_))); (case side2 => exact (Kd.R_reads' HO_194001.out).2.1); (case side3 => repeat (first | exact (Kd.R_reads' HO_194002.out).2.2 | (with_reducible refine Kd.C_alloc ?_ _) | (with_reducible refine Kd.C_drewN ?_ _) | (with_reducible refine Kd.C_drew ?_))); (case side4 => exact (Kd.R_reads' HO_194002.out).2.1); rintro e w31 ⟨v203, v206, rfl, ho0, ho1, hb⟩; refine ⟨_, rfl, ?_⟩; have n0_ := Aside0.mk (Kd.R_elder' (by (with_reducible repeat (first | apply Kd.R_alloc | apply Kd.R_drewN | apply Kd.R_drew)); exact HO_3.out) (Kd.R_base ho1) hb); have n1_ := Aside0.mk (Kd.R_elder' (by (with_reducible repeat (first | apply Kd.R_alloc | apply Kd.R_drewN | apply Kd.R_drew)); exact HO_194001.out) (Kd.R_base ho0) hb); have n2_ := Aside0.mk (Kd.R_elder' (by (with_reducible repeat (first | apply Kd.R_alloc | apply Kd.R_drewN | apply Kd.R_drew)); exact HO_194002.out) (Kd.R_base ho1) hb); have n3_ := Aside0.mk (Kd.R_lower (Kd.R_new' ho0 (Kd.R_lt (by (with_reducible repeat (first | apply Kd.R_alloc | apply Kd.R_drewN | apply Kd.R_drew)); exact HO_194001.out))) (below_size (by repeat (first | (with_reducible first | exact HB.out | apply below_alloc | apply pw_below_drewN | apply below_drew1 | refine below_set ?_ GE189.out | refine below_set ?_ GE193.out) | exact HB.out)))); have n4_ := Aside0.mk (Kd.R_lower (Kd.R_new' (Kd.R_new' ho1 (Kd.R_lt (by (with_reducible repeat (first | apply Kd.R_alloc | apply Kd.R_drewN | apply Kd.R_drew)); exact HO_3.out))) (Kd.R_lt (by (with_reducible repeat (first | apply Kd.R_alloc | apply Kd.R_drewN | apply Kd.R_drew)); exact HO_194002.out))) (below_size (by repeat (first | (with_reducible first | exact HB.out | apply below_alloc | apply pw_below_drewN | apply below_drew1 | refine below_set ?_ GE189.out | refine below_set ?_ GE193.out) | exact HB.out)))); have n5_ := Aside0.mk (blk_below (g := gb189) (o := .cells #[.int .i64 0, .slice none 0 0, .slice none 0 0] 28 (0, 0)) (by (with_reducible repeat (first | refine blk_drewN ?_ _ | refine blk_drew ?_ | refine blk_alloc ?_ _)); exact BK189.out) hb); have n6_ := Aside0.mk (blk_below (g := gb193) (o := .cells #[.int .i64 x194000_1, .slice Ao29 x194001_1.length co29, .slice Ao30 x194002_1.length co30] 28 (0, 0)) (by (with_reducible repeat (first | refine blk_drewN ?_ _ | refine blk_drew ?_ | refine blk_alloc ?_ _)); exact BK193.out) hb); have n7_ := Aside0.mk (below_step (by repeat (first | (with_reducible first | exact HB.out | apply below_alloc | apply pw_below_drewN | apply below_drew1 | refine below_set ?_ GE189.out | refine below_set ?_ GE193.out) | exact HB.out)) hb); clear HO_3; clear HO_194001; clear HO_194002; clear BK189; clear BK193; clear HB; have HO_3 := n0_; have HO_194001 := n1_; have HO_194002 := n2_; have HO204 := n3_; have HO207 := n4_; have BK189 := n5_; have BK193 := n6_; have HB := n7_; clear n0_ n1_ n2_ n3_ n4_ n5_ n6_ n7_; (try clear hb); (try clear hb2); (try clear hk); (try clear hi); (try clear ho0); (try clear ho1); have hcz32_0 : w31.cell? ⟨gb193, 0, none⟩ = some (.int .i64 x194000_1) := (blk_cell BK193.out 0).trans rfl; have hcz32_1 : w31.cell? ⟨gb193, 1, none⟩ = some (.slice Ao29 x194001_1.length co29) := (blk_cell BK193.out 1).trans rfl; have hcz32_2 : w31.cell? ⟨gb193, 2, none⟩ = some (.slice Ao30 x194002_1.length co30) := (blk_cell BK193.out 2).trans rfl; have hfz32_0 := blk_frozen BK193.out 0; have hfz32_1 := blk_frozen BK193.out 1; have hfz32_2 := blk_frozen BK193.out 2; obtain ⟨Ao33, co33, eo33⟩ := Kd.R_slice HO204.out; subst eo33; obtain ⟨Ao34, co34, eo34⟩ := Kd.R_slice HO207.out; subst eo34; have p209 : 0 ≤ (x6_1 : Int) := of_decide_eq_true (by first | (with_reducible assumption) | assumption); have q209 : x6_1 < (t190.length : Int) := of_decide_eq_true (by first | (with_reducible assumption) | assumption); obtain ⟨ad209, e209, hx209_0⟩ := Kd.at_int (Kd.R_reads' HO_3.out).2.2 x6_1 p209 q209; cases e209; have hn209_0 : ad209.block ≠ gb193 := Kd.own_blk (Kd.R_ne HO_3.out BK193.out (by decide)); have hn209_1 : ad209.block ≠ gb193 := Kd.own_blk (Kd.R_ne HO_3.out BK193.out (by decide)); have hn209_2 : ad209.block ≠ gb193 := Kd.own_blk (Kd.R_ne HO_3.out BK193.out (by decide)); replace hx209_0 := (cell_far (p := ⟨gb193, 0, none⟩) (by first | (rw [add_block]; exact hn209_0) | (show (Addr.add _ _).block ≠ _; rw [add_block]; exact hn209_0) | exact hn209_0) (.int .i64 t201)).trans hx209_0; replace hx209_0 := (cell_far (p := ⟨gb193, 1, none⟩) (by first | (rw [add_block]; exact hn209_1) | (show (Addr.add _ _).block ≠ _; rw [add_block]; exact hn209_1) | exact hn209_1) (.slice Ao33 t202.length co33)).trans hx209_0; replace hx209_0 := (cell_far (p := ⟨gb193, 2, none⟩) (by first | (rw [add_block]; exact hn209_2) | (show (Addr.add _ _).block ≠ _; rw [add_block]; exact hn209_2) | exact hn209_2) (.slice Ao34 t205.length co34)).trans hx209_0; clear hn209_0; clear hn209_1; clear hn209_2; replace p209 := eq_true p209; replace q209 := eq_true q209))
              go_roundg k1
              case measure => have := HK1.out; omega
              case rel => exact ⟨(t208), (wrap64 (x6_1 - 1)), (t201), (t202), (t205), (.slice Ao33 t202.length co33), (.slice Ao34 t205.length co34), (by first | rfl | (simp; done) | (simp [*]; done)), (by first | rfl | (simp; done) | (simp [*]; done)), H', ⟨by have := HK1.out; omega⟩, ⟨by (with_reducible repeat (first | apply Kd.R_alloc | apply Kd.R_drewN | apply Kd.R_drew)); exact Kd.R_mono (Kd.R_far (p := ⟨gb193, 2, none⟩) (Kd.R_far (p := ⟨gb193, 1, none⟩) (Kd.R_far (p := ⟨gb193, 0, none⟩) (Kd.R_types HO_3.out BK193.out (by decide)) (fun _ hk => hk.2) (.int .i64 t201)) (fun _ hk => hk.2) (.slice Ao33 t202.length co33)) (fun _ hk => hk.2) (.slice Ao34 t205.length co34)) (fun _ hk => hk.1.2)⟩, ⟨by (with_reducible repeat (first | apply Kd.R_alloc | apply Kd.R_drewN | apply Kd.R_drew)); exact Kd.R_mono (Kd.R_far (p := ⟨gb193, 2, none⟩) (Kd.R_far (p := ⟨gb193, 1, none⟩) (Kd.R_far (p := ⟨gb193, 0, none⟩) (Kd.R_types HO204.out BK193.out (by decide)) (fun _ hk => hk.2) (.int .i64 t201)) (fun _ hk => hk.2) (.slice Ao33 t202.length co33)) (fun _ hk => hk.2) (.slice Ao34 t205.length co34)) (fun _ hk => trivial)⟩, ⟨by (with_reducible repeat (first | apply Kd.R_alloc | apply Kd.R_drewN | apply Kd.R_drew)); exact Kd.R_mono (Kd.R_far (p := ⟨gb193, 2, none⟩) (Kd.R_far (p := ⟨gb193, 1, none⟩) (Kd.R_far (p := ⟨gb193, 0, none⟩) (Kd.R_types HO207.out BK193.out (by decide)) (fun _ hk => hk.2) (.int .i64 t201)) (fun _ hk => hk.2) (.slice Ao33 t202.length co33)) (fun _ hk => hk.2) (.slice Ao34 t205.length co34)) (fun _ hk => hk.1.1.2)⟩, ⟨by (with_reducible repeat (first | refine blk_drewN ?_ _ | refine blk_drew ?_ | refine blk_alloc ?_ _)); refine blk_far ?_ NB189_193.out _; (with_reducible repeat (first | refine blk_drewN ?_ _ | refine blk_drew ?_ | refine blk_alloc ?_ _)); refine blk_far ?_ NB189_193.out _; (with_reducible repeat (first | refine blk_drewN ?_ _ | refine blk_drew ?_ | refine blk_alloc ?_ _)); refine blk_far ?_ NB189_193.out _; (with_reducible repeat (first | refine blk_drewN ?_ _ | refine blk_drew ?_ | refine blk_alloc ?_ _)); exact BK189.out⟩, ⟨by (with_reducible repeat (first | refine blk_drewN ?_ _ | refine blk_drew ?_ | refine blk_alloc ?_ _)); refine blk_put (cs := #[.int .i64 t201, .slice Ao33 t202.length co33, .slice Ao30 x194002_1.length co30]) ?_ 2 _ rfl; (with_reducible repeat (first | refine blk_drewN ?_ _ | refine blk_drew ?_ | refine blk_alloc ?_ _)); refine blk_put (cs := #[.int .i64 t201, .slice Ao29 x194001_1.length co29, .slice Ao30 x194002_1.length co30]) ?_ 1 _ rfl; (with_reducible repeat (first | refine blk_drewN ?_ _ | refine blk_drew ?_ | refine blk_alloc ?_ _)); refine blk_put (cs := #[.int .i64 x194000_1, .slice Ao29 x194001_1.length co29, .slice Ao30 x194002_1.length co30]) ?_ 0 _ rfl; (with_reducible repeat (first | refine blk_drewN ?_ _ | refine blk_drew ?_ | refine blk_alloc ?_ _)); exact BK193.out⟩, ⟨by repeat (first | (with_reducible first | exact HB.out | apply below_alloc | apply pw_below_drewN | apply below_drew1 | refine below_set ?_ GE189.out | refine below_set ?_ GE193.out) | exact HB.out)⟩⟩
          · rw [if_neg c12] at H
            exact absurd H (by simp)
        · rw [if_neg c11] at H
          exact absurd H (by simp)
      · rw [if_neg c9] at H
        have c9b0 : decide (0 ≤ x6_1) = false := decide_eq_false c9
        clear c9
        replace H := Option.bind_eq_some_iff.mp H
        obtain ⟨⟨t194, t195, t198⟩, A350, H⟩ := H
        replace H : (some (t194, t195, t198)) = some (r1, r2, r3) := H
        have A35 := Aside0.mk A350
        clear A350
        simp only [Option.some.injEq, Prod.mk.injEq] at H
        obtain ⟨rfl, rfl, rfl⟩ := H
        have hnb36 := NB193_189.out
        have hnc36 := NB189_193.out
        have hcz37_0 : wr.cell? ⟨gb193, 0, none⟩ = some (.int .i64 x194000_1) := (blk_cell BK193.out 0).trans rfl
        have hcz37_1 : wr.cell? ⟨gb193, 1, none⟩ = some (u194001) := (blk_cell BK193.out 1).trans rfl
        have hcz37_2 : wr.cell? ⟨gb193, 2, none⟩ = some (u194002) := (blk_cell BK193.out 2).trans rfl
        have hfz37_0 := blk_frozen BK193.out 0
        have hfz37_1 := blk_frozen BK193.out 1
        have hfz37_2 := blk_frozen BK193.out 2
        obtain ⟨Ao38, co38, eo38⟩ := Kd.R_slice HO_194001.out
        subst eo38
        obtain ⟨Ao39, co39, eo39⟩ := Kd.R_slice HO_194002.out
        subst eo39
        go_wp2_with (first | ((with_reducible refine gate_callee (f := 43) rfl ?_); refine goesL_ (some 37) rfl rfl Try.func43 (by kernel_rfl) rfl #[.agg #[.int .i64 x194000_1, .slice Ao38 x194001_1.length co38, .slice Ao39 x194002_1.length co39], .int .i64 x5_1] rfl (by (try simp only [List.map_toArray, List.map_cons, List.map_nil]); first | done | rfl | (simp only [List.length_drop, List.length_take]; rfl)) ?_; (with_reducible refine (spec_meEnd.calls x194000_1 (fun k_ => some k_ = (.slice Ao38 x194001_1.length co38 : Value).ownBlock) (.slice Ao38 x194001_1.length co38) x194001_1 _ _ x194002_1 x5_1 t194 t195 t198 w _ ?side1 ?side2 ?side3 ?side4 A35.out).mono ?_); (case side1 => repeat (first | (with_reducible first | exact HB.out | apply below_alloc | apply pw_below_drewN | apply below_drew1 | refine below_set ?_ GE189.out | refine below_set ?_ GE193.out) | exact HB.out)); (case side2 => exact Kd.R_tight rfl HO_194001.out); (case side3 => exact Kd.C_kept_own ((Kd.R_apart' HO_194002.out (Kd.R_typed HO_194001.out) (by decide))) (fun k_ hk_ hs_ => (hk_.2) hs_)); (case side4 => exact (Kd.R_reads' HO_194002.out).2.1); rintro e w40 ⟨v196, v199, rfl, ho0, ho1, hb, hkp⟩; refine ⟨_, rfl, ?_⟩; have n0_ := Aside0.mk (Kd.R_mono (ok' := fun k_ => some k_ ≠ (.slice Ao39 x194002_1.length co39 : Value).ownBlock ∧ some k_ ≠ (v199 : Value).ownBlock) (Kd.R_keptB ((Kd.R_apart' HO_3.out (Kd.R_typed HO_194001.out) (by decide))) hkp (fun k_ hk_ hs_ => (hk_.2) hs_)) (fun k_ hk_ => ⟨hk_.1.1, fun e_ => Or.elim (ho1.1 k_ e_.symm) (fun hs_ => hk_.2.1 hs_) (fun hn_ => Nat.not_le.2 hk_.2.2 hn_)⟩)); have n1_ := Aside0.mk (Kd.R_mono (ok' := fun k_ => some k_ ≠ (.slice Ao8 t190.length co8 : Value).ownBlock ∧ some k_ ≠ (v199 : Value).ownBlock) (Kd.R_keptB ((Kd.R_apart' HO_194002.out (Kd.R_typed HO_194001.out) (by decide))) hkp (fun k_ hk_ hs_ => (hk_.2) hs_)) (fun k_ hk_ => ⟨hk_.1.1, fun e_ => Or.elim (ho1.1 k_ e_.symm) (fun hs_ => hk_.2.1 hs_) (fun hn_ => Nat.not_le.2 hk_.2.2 hn_)⟩)); have n2_ := Aside0.mk (blk_kept (by (with_reducible repeat (first | refine blk_drewN ?_ _ | refine blk_drew ?_ | refine blk_alloc ?_ _)); exact BK189.out) hkp (fun hs_ => (fun e_ => (Kd.R_ne HO_194001.out BK189.out (by decide)) e_) hs_)); have n3_ := Aside0.mk (blk_kept (by (with_reducible repeat (first | refine blk_drewN ?_ _ | refine blk_drew ?_ | refine blk_alloc ?_ _)); exact BK193.out) hkp (fun hs_ => (fun e_ => (Kd.R_ne HO_194001.out BK193.out (by decide)) e_) hs_)); have n4_ := Aside0.mk (Kd.R_mono (ok' := fun k_ => True) ho0 (fun k_ hk_ => trivial)); have n5_ := Aside0.mk (Kd.R_mono (ok' := fun k_ => some k_ ≠ (.slice Ao8 t190.length co8 : Value).ownBlock ∧ some k_ ≠ (.slice Ao39 x194002_1.length co39 : Value).ownBlock) ho1 (fun k_ hk_ => ⟨Or.elim hk_ (fun hs_ => fun e_ => ((((Kd.R_apart' HO_3.out (Kd.R_typed HO_194001.out) (by decide))).1 k_ e_.symm).2) hs_) (fun hn_ => (Kd.fresh' (Kd.R_lt (by (with_reducible repeat (first | apply Kd.R_alloc | apply Kd.R_drewN | apply Kd.R_drew)); exact HO_3.out)) k_ hn_)), Or.elim hk_ (fun hs_ => fun e_ => ((((Kd.R_apart' HO_194002.out (Kd.R_typed HO_194001.out) (by decide))).1 k_ e_.symm).2) hs_) (fun hn_ => (Kd.fresh' (Kd.R_lt (by (with_reducible repeat (first | apply Kd.R_alloc | apply Kd.R_drewN | apply Kd.R_drew)); exact HO_194002.out)) k_ hn_))⟩)); have n6_ := Aside0.mk (hb); clear HO_3; clear HO_194002; clear BK189; clear BK193; clear HB; clear HO_194001; have HO_3 := n0_; have HO_194002 := n1_; have BK189 := n2_; have BK193 := n3_; have HO197 := n4_; have HO200 := n5_; have HB := n6_; clear n0_ n1_ n2_ n3_ n4_ n5_ n6_; (try clear hb); (try clear hkp); (try clear ho0); (try clear ho1); have hcz41_0 : w40.cell? ⟨gb189, 0, none⟩ = some (.int .i64 0) := (blk_cell BK189.out 0).trans rfl; have hcz41_1 : w40.cell? ⟨gb189, 1, none⟩ = some (.slice none 0 0) := (blk_cell BK189.out 1).trans rfl; have hcz41_2 : w40.cell? ⟨gb189, 2, none⟩ = some (.slice none 0 0) := (blk_cell BK189.out 2).trans rfl; have hfz41_0 := blk_frozen BK189.out 0; have hfz41_1 := blk_frozen BK189.out 1; have hfz41_2 := blk_frozen BK189.out 2; obtain ⟨Ao42, co42, eo42⟩ := Kd.R_slice HO197.out; subst eo42; obtain ⟨Ao43, co43, eo43⟩ := Kd.R_slice HO200.out; subst eo43))
        refine bodyPost_ret (results_cell_row rfl _ _ gb189 28 #[.int .i64 t194, .slice Ao42 t195.length co42, .slice Ao43 t198.length co43] (0, 0) _ rfl (by (with_reducible repeat (first | refine blk_drewN ?_ _ | refine blk_drew ?_ | refine blk_alloc ?_ _)); refine blk_put (cs := #[.int .i64 t194, .slice Ao42 t195.length co42, .slice none 0 0]) ?_ 2 _ rfl; (with_reducible repeat (first | refine blk_drewN ?_ _ | refine blk_drew ?_ | refine blk_alloc ?_ _)); refine blk_put (cs := #[.int .i64 t194, .slice none 0 0, .slice none 0 0]) ?_ 1 _ rfl; (with_reducible repeat (first | refine blk_drewN ?_ _ | refine blk_drew ?_ | refine blk_alloc ?_ _)); refine blk_put (cs := #[.int .i64 0, .slice none 0 0, .slice none 0 0]) ?_ 0 _ rfl; (with_reducible repeat (first | refine blk_drewN ?_ _ | refine blk_drew ?_ | refine blk_alloc ?_ _)); exact BK189.out) Try.underlying28 rfl (by kernel_rfl)) rfl ?_
        exact ⟨_, _, by first | rfl | (simp [errW_none, errW_some] <;> rfl) | (simp [*, errW_none, errW_some] <;> rfl), by (with_reducible repeat (first | apply Kd.R_alloc | apply Kd.R_drewN | apply Kd.R_drew)); exact Kd.R_mono (Kd.R_far (p := ⟨gb189, 2, none⟩) (Kd.R_far (p := ⟨gb189, 1, none⟩) (Kd.R_far (p := ⟨gb189, 0, none⟩) (Kd.R_types HO197.out BK189.out (by decide)) (fun _ hk => hk.2) (.int .i64 t194)) (fun _ hk => hk.2) (.slice Ao42 t195.length co42)) (fun _ hk => hk.2) (.slice Ao43 t198.length co43)) (fun _ hk => trivial), by (with_reducible repeat (first | apply Kd.R_alloc | apply Kd.R_drewN | apply Kd.R_drew)); exact Kd.R_mono (Kd.R_far (p := ⟨gb189, 2, none⟩) (Kd.R_far (p := ⟨gb189, 1, none⟩) (Kd.R_far (p := ⟨gb189, 0, none⟩) (Kd.R_types HO200.out BK189.out (by decide)) (fun _ hk => hk.2) (.int .i64 t194)) (fun _ hk => hk.2) (.slice Ao42 t195.length co42)) (fun _ hk => hk.2) (.slice Ao43 t198.length co43)) (fun _ hk => trivial), by repeat (first | (with_reducible first | exact HB.out | apply below_alloc | apply pw_below_drewN | apply below_drew1 | refine below_set ?_ GE189.out | refine below_set ?_ GE193.out) | exact HB.out)⟩

/-! ### spec_LucasPlanCosts: function 24 -/
def spec_LucasPlanCosts.f (k : Nat) (a0 : Int) : Option (Int × Int × Bool) := (spec_luIndex.f a0).bind fun t218 => (if t218 = true then ((spec_luChain.f k a0).bind fun t219 => ((spec_meBinary.f k a0).bind fun bt222 => (some (wrap64 ((t219.length : Int) - 1), (bt222.2.1.length : Int), true)))) else (some (0, 0, false)))
theorem spec_LucasPlanCosts.mono : ∀ a0 k, LeO (spec_LucasPlanCosts.f k a0) (spec_LucasPlanCosts.f (k + 1) a0) := by
  intro a0 k
  unfold spec_LucasPlanCosts.f
  exact LeO.bind (LeO.refl _) (fun _ => LeO.ite (LeO.bind (spec_luChain.mono _ _) (fun _ => LeO.bind (spec_meBinary.mono _ _) (fun _ => LeO.refl _))) (LeO.refl _))
theorem lpc_field (w : World) (i : Int) (A : Option Addr) (n c : Nat) (u : Value) : (Go.Instr.field 28 (.agg #[.int .i64 i, .slice A n c, u]) 1).run Try.prog w = .ok (.slice A n c) w := by kernel_rfl
attribute [local go_sem] lpc_field in
set_option maxRecDepth 100000 in
set_option maxHeartbeats 1000000 in
theorem spec_LucasPlanCosts.calls (k : Nat) (a0 : Int) (r1 : Int) (r2 : Int) (r3 : Bool) (w : World) (h : spec_LucasPlanCosts.f k a0 = some (r1, r2, r3)) :
    Calls Try.prog 24 #[.int .i64 a0] w fun e w' => e = .returned (.tuple #[.int .i64 r1, .int .i64 r2, .bool r3]) ∧ Below w.heap.size w w' := by
  unfold spec_LucasPlanCosts.f at h
  obtain ⟨c, hc, h1⟩ := Option.bind_eq_some_iff.mp h
  clear h
  cases c with
  | false =>
    rw [if_neg (by decide)] at h1
    simp only [Option.some.injEq, Prod.mk.injEq] at h1
    obtain ⟨rfl, rfl, rfl⟩ := h1
    have HC := Go.Lib.hid hc
    clear hc
    go_enter Try.func24, Try.ntmps24
    go_wp2_with (go_at_call 54; refine (spec_luIndex.calls _ _ _ HC.out).mono ?_; rintro e w2 ⟨rfl, ⟨⟨q, rfl⟩⟩⟩)
    go_ret3
    exact ⟨rfl, pw_below_drewN (Below.refl _ _) _⟩
  | true =>
    rw [if_pos rfl] at h1
    obtain ⟨l, hl, h2⟩ := Option.bind_eq_some_iff.mp h1
    obtain ⟨⟨b1, b2, b3⟩, hb, h3⟩ := Option.bind_eq_some_iff.mp h2
    simp only [Option.some.injEq, Prod.mk.injEq] at h3
    obtain ⟨rfl, rfl, rfl⟩ := h3
    have HC := Go.Lib.hid hc
    have HL := Go.Lib.hid hl
    have HB := Go.Lib.hid hb
    clear hc hl hb h1 h2
    go_enter Try.func24, Try.ntmps24
    go_wp2_with (go_at_call 54; refine (spec_luIndex.calls _ _ _ HC.out).mono ?_; rintro e w2 ⟨rfl, ⟨⟨q, rfl⟩⟩⟩; have HB2 := Go.Lib.hid (pw_below_drewN (Below.refl w.heap.size w) q); obtain ⟨w2, hw2⟩ : ∃ w2, w.drewN q = w2 := ⟨_, rfl⟩; rw [hw2] at HB2 ⊢; clear hw2)
    refine (spec_luChain.calls k a0 l w2 HL.out).mono ?_
    rintro e w3 ⟨v3, rfl, hr_, hb_⟩
    obtain ⟨A3, c3, rfl⟩ := Kd.R_slice hr_
    have HB3 := Go.Lib.hid (HB2.out.trans (hb_.mono HB2.out.size))
    clear hr_ hb_
    go_wp2_with (go_at_call 56; refine (spec_meBinary.calls k a0 b1 b2 b3 w3 HB.out).mono ?_; rintro e w4 ⟨v4, v5, rfl, hr_, -, hb_⟩; obtain ⟨A4, c4, rfl⟩ := Kd.R_slice hr_; have HB4 := Go.Lib.hid (HB3.out.trans (hb_.mono HB3.out.size)); clear hr_ hb_)
    go_ret3
    exact ⟨rfl, HB4.out⟩

/-! ### impl_in: function 27 -/
def impl_in.f (a0 : Int) (a1 : Int) (a2 : Int) : Option (Bool) := if a0 ≥ a1 then (some (decide (a0 ≤ a2))) else (some false)
set_option maxHeartbeats 8000000 in
set_option maxRecDepth 100000 in
theorem impl_in.calls (a0 : Int) (a1 : Int) (a2 : Int) (r : Bool) (w : World) (h : impl_in.f a0 a1 a2 = some r) :
    Calls Try.prog 27 #[.int .i64 a0, .int .i64 a1, .int .i64 a2] w fun e w' => e = .returned (.bool r) ∧ Drawn0 w w' := by
  have H : (if a0 ≥ a1 then (some (decide (a0 ≤ a2))) else (some false)) = some r := h
  clear h
  by_cases c4 : a0 ≥ a1
  · rw [if_pos c4] at H
    have c4b0 : decide (a1 ≤ a0) = true := decide_eq_true c4
    clear c4
    obtain rfl := Option.some.inj H
    go_enter Try.func27, Try.ntmps27
    go_wp2
    go_ret
    exact ⟨by first | rfl | (simp; done) | (simp [*]; done), by repeat (first | exact Drawn0.refl _ | apply Drawn0.step)⟩
  · rw [if_neg c4] at H
    have c4b0 : decide (a1 ≤ a0) = false := decide_eq_false c4
    clear c4
    obtain rfl := Option.some.inj H
    go_enter Try.func27, Try.ntmps27
    go_wp2
    go_ret
    exact ⟨by first | rfl | (simp; done) | (simp [*]; done), by repeat (first | exact Drawn0.refl _ | apply Drawn0.step)⟩

/-! ### impl_step: function 64 -/
def impl_step.f (a0 : Int) (a1 : Int) : Option (Int × Int) := some (mn a0 a1, mx a0 a1)
set_option maxHeartbeats 8000000 in
set_option maxRecDepth 100000 in
theorem impl_step.calls (a0 : Int) (a1 : Int) (r1 : Int) (r2 : Int) (w : World) (h : impl_step.f a0 a1 = some (r1, r2)) :
    Calls Try.prog 64 #[.int .i64 a0, .int .i64 a1] w fun e w' => e = .returned (.agg #[.int .i64 r1, .int .i64 r2]) ∧ Below w.heap.size w w' := by
  have hu79 := Try.underlying79
  have HB := Aside0.mk (Below.refl w.heap.size w)
  have H : (some (mn a0 a1, mx a0 a1)) = some (r1, r2) := h
  clear h
  obtain ⟨ji3, hji3⟩ : ∃ j_ : Int, (mn a0 a1) = j_ := ⟨_, rfl⟩
  replace H : (some (ji3, mx a0 a1)) = some (r1, r2) := by first | (rw [hji3] at H; exact H) | (simp only [hji3] at H ⊢; exact H)
  have hji3_ : (if a1 < a0 then a1 else a0) = ji3 := hji3
  obtain ⟨ji4, hji4⟩ : ∃ j_ : Int, (mx a0 a1) = j_ := ⟨_, rfl⟩
  replace H : (some (ji3, ji4)) = some (r1, r2) := by first | (rw [hji4] at H; exact H) | (simp only [hji4] at H ⊢; exact H)
  have hji4_ : (if a0 < a1 then a1 else a0) = ji4 := hji4
  simp only [Option.some.injEq, Prod.mk.injEq] at H
  obtain ⟨rfl, rfl⟩ := H
  go_enter Try.func64, Try.ntmps64
  go_wp2_with (first | ((with_reducible refine gate_dst (N := 4) rfl ?_); refine box_event ?hg (N := 4) ?hd (cs := #[.int .i64 0, .int .i64 0]) (t := 79) ?hr ?_; (case hd => rfl); (case hg => rfl); (case hr => first | (go_simp; done) | (go_simp; rfl)); intro gb218 hg w5 hbox hb; have n0_ := Aside0.mk (below_step (by repeat (first | (with_reducible first | exact HB.out | apply below_alloc | apply pw_below_drewN | apply below_drew1) | exact HB.out)) hb); have n1_ := Aside0.mk (hbox); have n2_ := Aside0.mk ((by rw [hg]; exact (below_size (by repeat (first | (with_reducible first | exact HB.out | apply below_alloc | apply pw_below_drewN | apply below_drew1) | exact HB.out))) : w.heap.size ≤ gb218)); have n3_ := Aside0.mk ((by rw [hg]; exact (below_size (by repeat (first | (with_reducible first | exact HB.out | apply below_alloc | apply pw_below_drewN | apply below_drew1) | exact HB.out))) : w.heap.size ≤ gb218)); clear HB; have HB := n0_; have BK218 := n1_; have GW218 := n2_; have GE218 := n3_; clear n0_ n1_ n2_ n3_; clear hb hbox hg; have hcz6_0 : w5.cell? ⟨gb218, 0, none⟩ = some (.int .i64 0) := (blk_cell BK218.out 0).trans rfl; have hcz6_1 : w5.cell? ⟨gb218, 1, none⟩ = some (.int .i64 0) := (blk_cell BK218.out 1).trans rfl; have hfz6_0 := blk_frozen BK218.out 0; have hfz6_1 := blk_frozen BK218.out 1))
  refine bodyPost_ret (results_cell_row rfl _ _ gb218 79 #[.int .i64 ji3, .int .i64 ji4] (0, 0) _ rfl (by (with_reducible repeat (first | refine blk_drewN ?_ _ | refine blk_drew ?_ | refine blk_alloc ?_ _)); refine blk_put (cs := #[.int .i64 ji3, .int .i64 0]) ?_ 1 _ rfl; (with_reducible repeat (first | refine blk_drewN ?_ _ | refine blk_drew ?_ | refine blk_alloc ?_ _)); refine blk_put (cs := #[.int .i64 0, .int .i64 0]) ?_ 0 _ rfl; (with_reducible repeat (first | refine blk_drewN ?_ _ | refine blk_drew ?_ | refine blk_alloc ?_ _)); exact BK218.out) Try.underlying79 rfl (by kernel_rfl)) rfl ?_
  exact ⟨by first | rfl | (simp [errW_none, errW_some] <;> rfl) | (simp only [← hji3, ← hji4]; first | rfl | (simp [errW_none, errW_some] <;> rfl)) | (simp [*, errW_none, errW_some] <;> rfl), by repeat (first | (with_reducible first | exact HB.out | apply below_alloc | apply pw_below_drewN | apply below_drew1 | refine below_set ?_ GE218.out) | exact HB.out)⟩

/-! ### impl_maker_multiply: function 33, the maker of plans -/
/-- What lies of a maker: its box, and the row of steps of its own. -/
def MkAt (base B : Nat) (inp : Int) (os : List S79) (w0 W : World) : Prop := ∃ u, W.heap[B]? = some (.cells #[.int .i64 inp, u, .slice none 0 0] 74 (0, 0)) ∧ Kd.R k79 79 W base (fun _ => True) u os ∧ Below base w0 W ∧ base ≤ B ∧ base ≤ w0.heap.size
/-- What is kept by what is written: all blocks but the maker's box and those of steps. -/
def MkKeep (B : Nat) (W W1 : World) : Prop := (∀ k cs t, 79 ≠ t → k ≠ B → W.heap[k]? = some (.cells cs t (0, 0)) → W1.heap[k]? = some (.cells cs t (0, 0))) ∧ KeepsOthers W W1
theorem mk_keep_trans {B : Nat} {W W1 W2 : World} (h : MkKeep B W W1) (h2 : MkKeep B W1 W2) : MkKeep B W W2 := ⟨fun k cs t ht hk e => h2.1 k cs t ht hk (h.1 k cs t ht hk e), h.2.trans h2.2⟩
theorem mk_keep_below {B n : Nat} {W W1 : World} (h : Below W.heap.size W W1) : MkKeep B W W1 := ⟨fun _ _ _ _ _ e => blk_below e h, KeepsOthers.of_grownBy (grown_of_below h none) (fun j o e => by cases e)⟩
theorem mk_keep_refl (B : Nat) (W : World) : MkKeep B W W := ⟨fun _ _ _ _ _ e => e, KeepsOthers.of_grownBy (grown_of_below (Below.refl _ W) none) (fun j o e => by cases e)⟩
def MkHold (p : Prop) : Prop := p
theorem mk_hold {p : Prop} (h : MkHold p) : p := h
def mkT1 : Bool × List (List Nat × List Nat) := (true, [([], []), ([], []), ([1], [1]), ([2], [2]), ([3], [3]), ([4], [4]), ([], []), ([], []), ([6, 7], [6, 7]), ([8], [8]), ([5, 9, 8], [5, 9]), ([0, 0, 1, 2, 3, 4, 5, 6, 7, 8, 9, 10], [0]), ([11, 0, 1, 2, 3, 4, 5, 6, 7, 8, 9, 10], [11]), ([12, 0, 1, 2, 3, 4, 5, 6, 7, 8, 9, 10], [12]), ([13, 10, 10, 0, 1, 2, 3, 4, 5, 6, 7, 8, 9, 10], [10, 13])])
def mkB1 : List Nat := [0, 0, 2, 6, 14, 30, 0, 0, 192, 448, 1022, 2047, 4095, 8191, 16383]
theorem mk_tab1 : rtab .any (opsOf Try.f33 1) = mkT1 := by kernel_rfl
theorem mk_bits1 : waitsOk mkT1.2 mkB1 = true := by kernel_rfl
theorem mk_own {base : Nat} {W : World} {u : Value} {os : List S79} (h : Kd.R k79 79 W base (fun _ => True) u os) : ∀ (j : Nat) (o : Obj), u.ownBlock = some j → W.heap[j]? = some o → o.isCells = true := by
  intro j o hj ho
  obtain ⟨_, inner, hw, _⟩ := h
  rcases hw.2 with ⟨rfl, _⟩ | ⟨g, cap, cur, rfl, _, hg, _⟩
  · cases hj
  · have : g = j := by simpa [Value.ownBlock] using hj
    subst this
    rw [hg] at ho
    cases ho
    rfl
theorem mk_fin {inp : Int} {n : Nat} (h1 : 0 ≤ inp) (h2 : inp ≤ 100000) (h3 : n ≤ 100000) : wrap64 (wrap64 (inp + ((n + 1 : Nat) : Int)) - 1) = inp + n := by
  have e1 : wrap64 (inp + ((n + 1 : Nat) : Int)) = inp + ((n + 1 : Nat) : Int) := IntWalk.wrap64_in _ (by omega)
  rw [e1]
  have e2 : inp + ((n + 1 : Nat) : Int) - 1 = inp + n := by omega
  rw [e2]
  exact IntWalk.wrap64_in _ (by omega)
section
set_option maxRecDepth 100000
theorem mk_many (g : Nat) (inp : Int) (A1 : Option Addr) (n1 c1 : Nat) (W : World) (h0 : W.cell? ⟨g, 0, none⟩ = some (.int .i64 inp)) (h1 : W.cell? ⟨g, 1, none⟩ = some (.slice A1 n1 c1)) :
    Calls Try.prog 65 #[.pointer (some ⟨g, 0, none⟩)] W fun e w' => e = .returned (.int .i64 (wrap64 (inp + (n1 : Int)))) ∧ ∃ q, w' = W.drewN q := by
  go_enter Try.func65, Try.ntmps65
  go_wp2
  refine wp_region_still_lit (by kernel_rfl) (by kernel_rfl) ?_
  change wpStill _ _ (World.drew _) _ _ _
  repeat still_step
  refine wpStill_nil ?_
  go_wp2
  go_ret
  exact ⟨by rw [IntWalk.i64_left]; rfl, 1, rfl⟩
attribute [local go_sem] Oper.semAt_some in
set_option maxHeartbeats 1000000 in
theorem multiply_in (base B : Nat) (inp : Int) (os : List S79) (w0 W : World) (a b : Int) (h : MkAt base B inp os w0 W) (hi : 0 ≤ inp ∧ inp ≤ 100000) (hl : os.length ≤ 100000) :
    Calls Try.prog 33 #[.pointer (some ⟨B, 0, none⟩), .int .i64 a, .int .i64 b] W fun e W' => e = .returned (.int .i64 (inp + (os.length : Int))) ∧ MkAt base B inp (os ++ [⟨mn a b, mx a b⟩]) w0 W' ∧ MkKeep B W W' := by
  obtain ⟨u, hb, hR, hB, hge, hbw⟩ := h
  obtain ⟨A, c, e⟩ := Kd.R_slice hR
  subst e
  have HF := Aside0.mk (mk_fin hi.1 hi.2 hl)
  have hl16 : (os.length + 1) * 16 ≤ 140737488355328 := by omega
  have BX := Aside0.mk hb
  have OR := Aside0.mk hR
  have BW := Aside0.mk hB
  have HGE := Aside0.mk hge
  have HW0 := Aside0.mk hbw
  have HK := Aside0.mk (mk_keep_refl B W)
  clear hb hR hB hge hbw hi hl
  have s0 : W.cell? ⟨B, 1, none⟩ = some (.slice A os.length c) := (blk_cell BX.out 1).trans rfl
  go_enter Try.func33, Try.ntmps33
  go_wp2
  refine start_ (n := 15) (S := fun w' => w'.cell? ⟨B, 1, none⟩ = some (.slice A os.length c)) (ds := [14]) #[false, false, false, false, false, false, false, false, false, false, false, false, false, false, false] (by kernel_rfl) rfl rfl ((blk_cell BX.out 1).trans rfl) (fun hHeld => ?_)
  refine with_tabW mk_tab1 mk_bits1 (fun HT_ HW_ => ?_)
  have n0_ := Aside0.mk (Kd.R_drew OR.out)
  have n1_ := Aside0.mk (blk_drew BX.out)
  have n2_ := Aside0.mk (below_drew BW.out)
  have n3_ := Aside0.mk (mk_keep_trans HK.out (mk_keep_below (B := B) (n := 0) (below_drew (Below.refl _ W))))
  clear OR BX BW HK s0
  have OR := n0_
  have BX := n1_
  have BW := n2_
  have HK := n3_
  clear n0_ n1_ n2_ n3_
  generalize W.drew = w1 at OR BX BW HK hHeld ⊢
  refine pure_ (i := 0) (N := some 7) (v := ?_) (a' := ?_) #[true, false, false, false, false, false, false, false, false, false, false, false, false, false, false] rfl rfl (any_of HT_.out (by kernel_rfl)) (fun _ _ _ h => h) (Or.inl ⟨by rfl, ?_⟩) ?_ ?_
  rotate_left
  · intro w'
    go_simp
    with_reducible rfl
  rotate_left
  · simp only [Act.put, List.setIfInBounds_toArray, List.set_cons_zero, List.set_cons_succ, i64_w, i32_w]
    rfl
  refine pure_ (i := 1) (N := some 8) (v := ?_) (a' := ?_) #[true, true, false, false, false, false, false, false, false, false, false, false, false, false, false] rfl rfl (any_of HT_.out (by kernel_rfl)) (fun _ _ _ h => h) (Or.inl ⟨by rfl, ?_⟩) ?_ ?_
  rotate_left
  · intro w'
    go_simp
    with_reducible rfl
  rotate_left
  · simp only [Act.put, List.setIfInBounds_toArray, List.set_cons_zero, List.set_cons_succ, i64_w, i32_w]
    rfl
  refine pure_ (i := 2) (N := some 9) (v := ?_) (a' := ?_) #[true, true, true, false, false, false, false, false, false, false, false, false, false, false, false] rfl rfl (any_of HT_.out (by kernel_rfl)) (fun _ _ _ h => h) (Or.inl ⟨by rfl, ?_⟩) ?_ ?_
  rotate_left
  · intro w'
    go_simp
    with_reducible rfl
  rotate_left
  · simp only [Act.put, List.setIfInBounds_toArray, List.set_cons_zero, List.set_cons_succ, i64_w, i32_w]
    rfl
  refine pure_ (i := 3) (N := some 10) (v := ?_) (a' := ?_) #[true, true, true, true, false, false, false, false, false, false, false, false, false, false, false] rfl rfl (any_of HT_.out (by kernel_rfl)) (fun _ _ _ h => h) (Or.inl ⟨by rfl, ?_⟩) ?_ ?_
  rotate_left
  · intro w'
    go_simp
    with_reducible rfl
  rotate_left
  · simp only [Act.put, List.setIfInBounds_toArray, List.set_cons_zero, List.set_cons_succ, i64_w, i32_w]
    rfl
  refine pure_ (i := 4) (N := some 11) (v := ?_) (a' := ?_) #[true, true, true, true, true, false, false, false, false, false, false, false, false, false, false] rfl rfl (any_of HT_.out (by kernel_rfl)) (fun _ _ _ h => h) (Or.inl ⟨by rfl, ?_⟩) ?_ ?_
  rotate_left
  · intro w'
    go_simp
    with_reducible rfl
  rotate_left
  · simp only [Act.put, List.setIfInBounds_toArray, List.set_cons_zero, List.set_cons_succ, i64_w, i32_w]
    rfl
  refine pure_ (i := 6) (N := some 13) (v := ?_) (a' := ?_) #[true, true, true, true, true, false, true, false, false, false, false, false, false, false, false] rfl rfl (any_of HT_.out (by kernel_rfl)) (fun _ _ _ h => h) (Or.inl ⟨by rfl, ?_⟩) ?_ ?_
  rotate_left
  · intro w'
    go_simp
    with_reducible rfl
  rotate_left
  · simp only [Act.put, List.setIfInBounds_toArray, List.set_cons_zero, List.set_cons_succ, i64_w, i32_w]
    rfl
  refine pure_ (i := 7) (N := some 14) (v := ?_) (a' := ?_) #[true, true, true, true, true, false, true, true, false, false, false, false, false, false, false] rfl rfl (any_of HT_.out (by kernel_rfl)) (fun _ _ _ h => h) (Or.inl ⟨by rfl, ?_⟩) ?_ ?_
  rotate_left
  · intro w'
    go_simp
    with_reducible rfl
  rotate_left
  · simp only [Act.put, List.setIfInBounds_toArray, List.set_cons_zero, List.set_cons_succ, i64_w, i32_w]
    rfl
  refine take_ (i := 5) (N := some 12) (v := ?_) (a' := ?_) #[true, true, true, true, true, true, true, true, false, false, false, false, false, false, false] rfl rfl (take_ofW HT_.out HW_.out (by kernel_rfl)) (fun _ _ _ h => h) (Or.inl ⟨by rfl, ?_⟩) hHeld ?_ ?_
  rotate_left
  · rintro w' s0
    go_simp
    with_reducible rfl
  rotate_left
  · simp only [Act.put, List.setIfInBounds_toArray, List.set_cons_zero, List.set_cons_succ, i64_w, i32_w]
    rfl
  refine one_ (i := 8) (N := some 15) #[true, true, true, true, true, true, true, true, true, false, false, false, false, false, false] rfl rfl (one_of HT_.out (by kernel_rfl)) (by decide) (fun K hK => ?_)
  refine goes_ Try.func64 (by kernel_rfl) rfl #[.int .i64 a, .int .i64 b] (by rfl) rfl rfl (by (try simp only [List.map_toArray, List.map_cons, List.map_nil]); first | done | rfl) ?_
  with_reducible refine (impl_step.calls a b (mn a b) (mx a b) _ rfl).mono ?_
  rintro e w2 ⟨rfl, hb⟩
  refine ⟨_, rfl, ?_⟩
  have n0_ := Aside0.mk (Kd.R_below OR.out hb)
  have n1_ := Aside0.mk (blk_below BX.out hb)
  have n2_ := Aside0.mk (BW.out.trans (hb.mono (Nat.le_trans HW0.out BW.out.size)))
  have n3_ := Aside0.mk (mk_keep_trans HK.out (mk_keep_below (B := B) (n := 0) hb))
  clear OR BX BW HK hb
  have OR := n0_
  have BX := n1_
  have BW := n2_
  have HK := n3_
  clear n0_ n1_ n2_ n3_
  refine hK.out _ _ ((blk_cell BX.out 1).trans rfl) (fun hHeld => ?_)
  clear hK K
  refine norm_ (a' := ?_) ?_ ?_
  rotate_left
  · show Act.put _ (some 15) _ = _
    simp only [Act.put, List.setIfInBounds_toArray, List.set_cons_zero, List.set_cons_succ, i64_w, i32_w]
    rfl
  refine one_ (i := 9) (N := some 16) #[true, true, true, true, true, true, true, true, true, true, false, false, false, false, false] rfl rfl (one_of HT_.out (by kernel_rfl)) (by decide) (fun K hK => ?_)
  refine value_ (w1 := ?_) (v := ?_) (by rfl) rfl ?_ ?_
  rotate_left 2
  · go_simp
    constructor
    · rfl
    · rfl
  refine hK.out _ _ ((blk_cell (blk_alloc BX.out _) 1).trans rfl) (fun hHeld => ?_)
  clear hK K
  refine norm_ (a' := ?_) ?_ ?_
  rotate_left
  · show Act.put _ (some 16) _ = _
    simp only [Act.put, List.setIfInBounds_toArray, List.set_cons_zero, List.set_cons_succ, i64_w, i32_w]
    rfl
  refine one_ (i := 10) (N := some 17) #[true, true, true, true, true, true, true, true, true, true, true, false, false, false, false] rfl rfl (one_of HT_.out (by kernel_rfl)) (by decide) (fun K hK => ?_)
  refine Kd.R_append_step k79 (w0 := w0) base (by rfl) (.tmp 12) (.tmp 16) 26 79 (.agg #[(.int .i64 0), (.int .i64 0)]) 16 rfl Try.underlying26 info79 rfl (by decide) (by decide) (.slice A os.length c) os (⟨mn a b, mx a b⟩ : S79) [.int .i64 (mn a b), .int .i64 (mx a b)] (fun _ => True) (fun _ => False) rfl rfl ?aP (fun _ hk => hk.elim) ?aF ?aO ?aB ?aS hl16 ?_
  (case aP => exact k79_mkM _ _ _ (⟨mn a b, mx a b⟩ : S79))
  (case aF => exact fun _ _ => trivial)
  (case aO => exact OR.out)
  (case aB => exact BW.out)
  (case aS => exact Nat.le_trans HW0.out BW.out.size)
  intro v8 w3 ho hb hg hat
  have n0_ := Aside0.mk (ho)
  have n1_ := Aside0.mk (mk_keep_trans HK.out (⟨fun k cs t ht _ e => blk_grown e hg (Kd.R_ne OR.out e ht), KeepsOthers.of_grownBy hg (mk_own OR.out)⟩ : MkKeep B w2 w3))
  have n2_ := Aside0.mk (blk_grown BX.out hg (Kd.R_ne OR.out BX.out (by decide)))
  have n3_ := Aside0.mk (hb)
  clear OR HK BX BW ho hb hg hat
  have OR := n0_
  have HK := n1_
  have BX := n2_
  have BW := n3_
  clear n0_ n1_ n2_ n3_
  obtain ⟨os2, hos2⟩ : ∃ os2, os ++ [(⟨mn a b, mx a b⟩ : S79)] = os2 := ⟨_, rfl⟩
  have HO2 := Aside0.mk hos2
  rw [hos2] at OR
  clear hos2
  obtain ⟨Ao, co, eo⟩ := Kd.R_slice OR.out
  subst eo
  refine hK.out _ _ ((blk_cell BX.out 1).trans rfl) (fun hHeld => ?_)
  clear hK K
  refine norm_ (a' := ?_) ?_ ?_
  rotate_left
  · show Act.put _ (some 17) _ = _
    simp only [Act.put, List.setIfInBounds_toArray, List.set_cons_zero, List.set_cons_succ, i64_w, i32_w]
    rfl
  refine pure_ (i := 11) (N := some 18) (v := ?_) (a' := ?_) #[true, true, true, true, true, true, true, true, true, true, true, true, false, false, false] rfl rfl (any_of HT_.out (by kernel_rfl)) (fun _ _ _ h => h) (Or.inl ⟨by rfl, ?_⟩) ?_ ?_
  rotate_left
  · intro w'
    go_simp
    with_reducible rfl
  rotate_left
  · simp only [Act.put, List.setIfInBounds_toArray, List.set_cons_zero, List.set_cons_succ, i64_w, i32_w]
    rfl
  refine pure_ (i := 12) (N := some 19) (v := ?_) (a' := ?_) #[true, true, true, true, true, true, true, true, true, true, true, true, true, false, false] rfl rfl (any_of HT_.out (by kernel_rfl)) (fun _ _ _ h => h) (Or.inl ⟨by rfl, ?_⟩) ?_ ?_
  rotate_left
  · intro w'
    go_simp
    with_reducible rfl
  rotate_left
  · simp only [Act.put, List.setIfInBounds_toArray, List.set_cons_zero, List.set_cons_succ, i64_w, i32_w]
    rfl
  refine pure_ (i := 13) (N := some 20) (v := ?_) (a' := ?_) #[true, true, true, true, true, true, true, true, true, true, true, true, true, true, false] rfl rfl (any_of HT_.out (by kernel_rfl)) (fun _ _ _ h => h) (Or.inl ⟨by rfl, ?_⟩) ?_ ?_
  rotate_left
  · intro w'
    go_simp
    with_reducible rfl
  rotate_left
  · simp only [Act.put, List.setIfInBounds_toArray, List.set_cons_zero, List.set_cons_succ, i64_w, i32_w]
    rfl
  refine last_ (i := 14) (N := none) #[true, true, true, true, true, true, true, true, true, true, true, true, true, true, true] rfl rfl (one_of HT_.out (by kernel_rfl)) (by decide) (fun K hK => ?_)
  have hs_ : w3.cell? ⟨B, 1, none⟩ = some (.slice A os.length c) := (blk_cell BX.out 1).trans rfl
  have hfs_ := blk_frozen BX.out 1
  refine skip_ (w1 := ?_) (by rfl) rfl ?_ ?_
  rotate_left
  · go_simp
    rfl
  refine hK.out _ _ ?_
  clear hK K
  refine done_ (done_of HT_.out (by kernel_rfl)) ?_
  have n0_ := Aside0.mk (Kd.R_mono (ok' := fun _ => True) (Kd.R_far (p := ⟨B, 1, none⟩) (Kd.R_types OR.out BX.out (by decide)) (fun _ hk => hk.2) (.slice Ao os2.length co)) (fun _ hk => trivial))
  have n1_ := Aside0.mk (mk_keep_trans HK.out (⟨fun k cs t ht hk e => blk_far e hk _, KeepsOthers.setCell _ _ _⟩ : MkKeep B w3 (w3.setCell ⟨B, 1, none⟩ (.slice Ao os2.length co))))
  have n2_ := Aside0.mk (blk_put BX.out 1 (.slice Ao os2.length co) rfl)
  have n3_ := Aside0.mk (BW.out.setCell (p := ⟨B, 1, none⟩) HGE.out (.slice Ao os2.length co))
  clear OR HK BX BW hs_ hfs_ hHeld
  have OR := n0_
  have HK := n1_
  have BX := n2_
  have BW := n3_
  clear n0_ n1_ n2_ n3_
  generalize w3.setCell ⟨B, 1, none⟩ (.slice Ao os2.length co) = w4 at OR BX BW HK ⊢
  have HM := Go.Lib.hid (mk_many B inp Ao os2.length co w4 ((blk_cell BX.out 0).trans rfl) ((blk_cell BX.out 1).trans rfl))
  go_wp2_with (go_at_call 65; refine HM.out.mono ?_; rintro e w5 ⟨rfl, ⟨q, rfl⟩⟩)
  go_ret
  have hbq := pw_below_drewN (Below.refl w4.heap.size w4) q
  refine ⟨?_, ⟨.slice Ao os2.length co, blk_below BX.out hbq, ?_, BW.out.trans (hbq.mono (Nat.le_trans HW0.out BW.out.size)), HGE.out, HW0.out⟩, mk_keep_trans HK.out (mk_keep_below (B := B) (n := 0) hbq)⟩
  · rw [← HO2.out, List.length_append, List.length_singleton]
    refine Eq.trans (b := .returned (.int .i64 (wrap64 (wrap64 (inp + ((os.length + 1 : Nat) : Int)) - 1)))) rfl ?_
    rw [HF.out]
  · rw [HO2.out]
    exact Kd.R_below OR.out hbq
theorem multiply_at (base B : Nat) (inp : Int) (os : List S79) (w0 W : World) (a b v : Int) (h : MkAt base B inp os w0 W) (hi : 0 ≤ inp ∧ inp ≤ 100000) (hl : os.length ≤ 100000) (hv : inp + (os.length : Int) = v) :
    Calls Try.prog 33 #[.pointer (some ⟨B, 0, none⟩), .int .i64 a, .int .i64 b] W fun e W' => e = .returned (.int .i64 v) ∧ MkAt base B inp (os ++ [⟨mn a b, mx a b⟩]) w0 W' ∧ MkKeep B W W' := by
  subst hv
  exact multiply_in base B inp os w0 W a b h hi hl
/-- What 'times' leaves: the steps, and the value. -/
def mkTimes (inp : Int) (s : List S79 × Int) (b : Int) : List S79 × Int := if s.2 < 0 then (s.1, b) else (s.1 ++ [⟨mn s.2 b, mx s.2 b⟩], inp + (s.1.length : Int))
set_option maxHeartbeats 1000000 in
theorem times_in (base B : Nat) (inp : Int) (os : List S79) (w0 W : World) (a b : Int) (h : MkAt base B inp os w0 W) (hi : 0 ≤ inp ∧ inp ≤ 100000) (hl : os.length ≤ 100000) (s : List S79 × Int) (hs : mkTimes inp (os, a) b = s) :
    Calls Try.prog 34 #[.pointer (some ⟨B, 0, none⟩), .int .i64 a, .int .i64 b] W fun e W' => e = .returned (.int .i64 s.2) ∧ MkAt base B inp s.1 w0 W' ∧ MkKeep B W W' := by
  subst hs
  unfold mkTimes
  by_cases ha : a < 0
  · have hd : decide (a < 0) = true := decide_eq_true ha
    rw [if_pos (show ((os, a) : List S79 × Int).2 < 0 from ha)]
    have H := Aside0.mk h
    clear h hi hl ha
    go_enter Try.func34, Try.ntmps34
    go_wp2
    go_ret
    exact ⟨rfl, H.out, mk_keep_refl _ _⟩
  · have hd : decide (a < 0) = false := decide_eq_false ha
    rw [if_neg (show ¬ ((os, a) : List S79 × Int).2 < 0 from ha)]
    have H := Aside0.mk (multiply_in base B inp os w0 W a b h hi hl)
    clear h hi hl ha
    go_enter Try.func34, Try.ntmps34
    go_wp2_with (go_at_call 33; refine H.out.mono ?_; rintro e w4 ⟨rfl, hw_, hk_⟩; have HW4 := Aside0.mk hw_; have HK4 := Aside0.mk hk_; clear hw_ hk_)
    go_ret
    exact ⟨rfl, HW4.out, HK4.out⟩
set_option maxHeartbeats 1000000 in
theorem newMaker_in (inp : Int) (W : World) :
    Calls Try.prog 31 #[.int .i64 inp] W fun e W' => e = .returned (.pointer (some ⟨W.heap.size, 0, none⟩)) ∧ W' = W.alloc (.cells #[.int .i64 inp, .slice none 0 0, .slice none 0 0] 74 ) := by
  go_enter Try.func31, Try.ntmps31
  go_wp2
  go_ret
  exact ⟨rfl, rfl⟩
theorem mk_new (base : Nat) (inp : Int) (w0 W : World) (h : Below base w0 W) (hb : base ≤ w0.heap.size) : MkAt base W.heap.size inp [] w0 (W.alloc (.cells #[.int .i64 inp, .slice none 0 0, .slice none 0 0] 74)) := ⟨_, blk_new W _, Kd.R_nil _ _ _ _ _, h.alloc (Nat.le_trans hb h.size) _, Nat.le_trans hb h.size, hb⟩
set_option maxHeartbeats 1000000 in
theorem plan_in (base B : Nat) (inp : Int) (os : List S79) (w0 W : World) (A2 : Option Addr) (n2 c2 : Nat) (h : MkAt base B inp os w0 W) :
    Calls Try.prog 36 #[.pointer (some ⟨B, 0, none⟩), .slice A2 n2 c2] W fun e W' => ∃ u, e = .returned (.agg #[.int .i64 inp, u, .slice A2 n2 c2]) ∧ Kd.R k79 79 W' base (fun _ => True) u os ∧ Below base w0 W' ∧ MkKeep B W W' := by
  obtain ⟨u, hb, hR, hB, hge, hbw⟩ := h
  obtain ⟨A, c, e⟩ := Kd.R_slice hR
  subst e
  have BX := Aside0.mk (blk_alloc hb (.cells #[.int .i64 0, .slice none 0 0, .slice none 0 0] 28))
  have BN := Aside0.mk (blk_new W (.cells #[.int .i64 0, .slice none 0 0, .slice none 0 0] 28))
  have OR := Aside0.mk (Kd.R_alloc hR (.cells #[.int .i64 0, .slice none 0 0, .slice none 0 0] 28))
  have BW := Aside0.mk (hB.alloc (Nat.le_trans hbw hB.size) (.cells #[.int .i64 0, .slice none 0 0, .slice none 0 0] 28))
  have HGE := Aside0.mk hge
  have HGW := Aside0.mk (Nat.le_trans hbw hB.size)
  have HK := Aside0.mk (⟨fun _ _ _ _ _ e => blk_alloc e _, KeepsOthers.of_grownBy (grown_of_below (below_alloc (Below.refl W.heap.size W) _) none) (fun j o e => by cases e)⟩ : MkKeep B W (W.alloc (.cells #[.int .i64 0, .slice none 0 0, .slice none 0 0] 28)))
  have HNE := Aside0.mk (Nat.ne_of_lt (blk_lt hb))
  clear hb hR hB hge hbw
  have k0 : (W.alloc (.cells #[.int .i64 0, .slice none 0 0, .slice none 0 0] 28)).cell? ⟨B, 0, none⟩ = some (.int .i64 inp) := (blk_cell BX.out 0).trans rfl
  have k1 : (W.alloc (.cells #[.int .i64 0, .slice none 0 0, .slice none 0 0] 28)).cell? ⟨B, 1, none⟩ = some (.slice A os.length c) := (blk_cell BX.out 1).trans rfl
  have k2 : (W.alloc (.cells #[.int .i64 0, .slice none 0 0, .slice none 0 0] 28)).cell? ⟨B, 2, none⟩ = some (.slice none 0 0) := (blk_cell BX.out 2).trans rfl
  have f2 := blk_frozen BX.out 2
  have BM := Aside0.mk (blk_far BN.out (p := ⟨B, 2, none⟩) (fun e => HNE.out e.symm) (.slice A2 n2 c2))
  have m0 := blk_frozen BM.out 0
  have m1 := blk_frozen BM.out 1
  have m2 := blk_frozen BM.out 2
  have z0 : ((W.alloc (.cells #[.int .i64 0, .slice none 0 0, .slice none 0 0] 28)).setCell ⟨B, 2, none⟩ (.slice A2 n2 c2)).cell? ⟨W.heap.size, 0, none⟩ = some (.int .i64 0) := (blk_cell BM.out 0).trans rfl
  have z1 : ((W.alloc (.cells #[.int .i64 0, .slice none 0 0, .slice none 0 0] 28)).setCell ⟨B, 2, none⟩ (.slice A2 n2 c2)).cell? ⟨W.heap.size, 1, none⟩ = some (.slice none 0 0) := (blk_cell BM.out 1).trans rfl
  have z2 : ((W.alloc (.cells #[.int .i64 0, .slice none 0 0, .slice none 0 0] 28)).setCell ⟨B, 2, none⟩ (.slice A2 n2 c2)).cell? ⟨W.heap.size, 2, none⟩ = some (.slice none 0 0) := (blk_cell BM.out 2).trans rfl
  go_enter Try.func36, Try.ntmps36
  go_wp2
  have HN := Aside0.mk HGW.out
  have b1 := blk_put (blk_put (blk_put BM.out 0 (.int .i64 inp) rfl) 1 (.slice A os.length c) rfl) 2 (.slice A2 n2 c2) rfl
  refine bodyPost_ret (results_cell_row rfl _ _ W.heap.size 28 #[.int .i64 inp, .slice A os.length c, .slice A2 n2 c2] (0, 0) _ rfl b1 Try.underlying28 rfl (by kernel_rfl)) rfl ?_
  have r1 := Kd.R_mono (ok' := fun _ => True) (Kd.R_far (p := ⟨B, 2, none⟩) (Kd.R_types OR.out BX.out (by decide)) (fun _ hk => hk.2) (.slice A2 n2 c2)) (fun _ _ => trivial)
  have r2 := Kd.R_mono (ok' := fun _ => True) (Kd.R_far (p := ⟨W.heap.size, 0, none⟩) (Kd.R_types r1 BM.out (by decide)) (fun _ hk => hk.2) (.int .i64 inp)) (fun _ _ => trivial)
  have r3 := Kd.R_mono (ok' := fun _ => True) (Kd.R_far (p := ⟨W.heap.size, 1, none⟩) (Kd.R_types r2 (blk_put BM.out 0 (.int .i64 inp) rfl) (by decide)) (fun _ hk => hk.2) (.slice A os.length c)) (fun _ _ => trivial)
  have r4 := Kd.R_mono (ok' := fun _ => True) (Kd.R_far (p := ⟨W.heap.size, 2, none⟩) (Kd.R_types r3 (blk_put (blk_put BM.out 0 (.int .i64 inp) rfl) 1 (.slice A os.length c) rfl) (by decide)) (fun _ hk => hk.2) (.slice A2 n2 c2)) (fun _ _ => trivial)
  refine ⟨_, rfl, r4, (((BW.out.setCell (p := ⟨B, 2, none⟩) HGE.out _).setCell (p := ⟨W.heap.size, 0, none⟩) HN.out _).setCell (p := ⟨W.heap.size, 1, none⟩) HN.out _).setCell (p := ⟨W.heap.size, 2, none⟩) HN.out _, ?_⟩
  refine ⟨fun k cs t ht hk e => ?_, HK.out.2.trans ((KeepsOthers.setCell _ _ _).trans ((KeepsOthers.setCell _ _ _).trans ((KeepsOthers.setCell _ _ _).trans (KeepsOthers.setCell _ _ _))))⟩
  have hne : k ≠ W.heap.size := Nat.ne_of_lt (blk_lt e)
  exact blk_far (blk_far (blk_far (blk_far (HK.out.1 k cs t ht hk e) hk _) (p := ⟨W.heap.size, 0, none⟩) hne _) (p := ⟨W.heap.size, 1, none⟩) hne _) (p := ⟨W.heap.size, 2, none⟩) hne _
end
/-- The steps and the outputs that a function over plans hands back, with the world behind. -/
def TpPost (w : World) (r1 : Int) (r2 : List S79) (r3 : List Int) (r4 : Bool) : Ending → World → Prop := fun e w' => ∃ v1 v2 : Value, e = .returned (.tuple #[.agg #[.int .i64 r1, v1, v2], .bool r4]) ∧ Kd.R k79 79 w' w.heap.size (fun _ => True) v1 r2 ∧ Kd.R (Kd.int .i64) 3 w' w.heap.size (fun _ => True) v2 r3 ∧ Below w.heap.size w w'
theorem tp_cells {W : World} {X : Nat} (h : W.heap[X]? = some (.cells #[.int .i64 0, .slice none 0 0, .slice none 0 0] 28 (0, 0))) : W.cell? ⟨X, 0, none⟩ = some (.int .i64 0) ∧ W.cell? ⟨X, 1, none⟩ = some (.slice none 0 0) ∧ W.cell? ⟨X, 2, none⟩ = some (.slice none 0 0) ∧ W.frozen? ⟨X, 0, none⟩ = false ∧ W.frozen? ⟨X, 1, none⟩ = false ∧ W.frozen? ⟨X, 2, none⟩ = false := ⟨(blk_cell h 0).trans rfl, (blk_cell h 1).trans rfl, (blk_cell h 2).trans rfl, blk_frozen h 0, blk_frozen h 1, blk_frozen h 2⟩
theorem tp_zero {w W : World} (hX : W.heap[w.heap.size]? = some (.cells #[.int .i64 0, .slice none 0 0, .slice none 0 0] 28 (0, 0))) (hB : Below w.heap.size w W) : TpPost w 0 [] [] false (.returned (.tuple #[.agg #[.int .i64 0, .slice none 0 0, .slice none 0 0], .bool false])) (((W.setCell ⟨w.heap.size, 0, none⟩ (.int .i64 0)).setCell ⟨w.heap.size, 1, none⟩ (.slice none 0 0)).setCell ⟨w.heap.size, 2, none⟩ (.slice none 0 0)) :=
  ⟨_, _, rfl, Kd.R_nil _ _ _ _ _, Kd.R_nil _ _ _ _ _, ((hB.setCell (p := ⟨w.heap.size, 0, none⟩) (Nat.le_refl _) _).setCell (p := ⟨w.heap.size, 1, none⟩) (Nat.le_refl _) _).setCell (p := ⟨w.heap.size, 2, none⟩) (Nat.le_refl _) _⟩
theorem mk_alloc {base B : Nat} {inp : Int} {os : List S79} {w0 W : World} (h : MkAt base B inp os w0 W) (o : Obj) : MkAt base B inp os w0 (W.alloc o) := by
  obtain ⟨u, hbx, hR, hB, hge, hbw⟩ := h
  exact ⟨u, blk_alloc hbx o, Kd.R_alloc hR o, hB.alloc (Nat.le_trans hbw hB.size) o, hge, hbw⟩
theorem mk_ints {base B : Nat} {W W1 : World} {v : Value} {xs : List Int} {bx : Array Value} (h : Kd.R (Kd.int .i64) 3 W base (fun _ => True) v xs) (hB : W.heap[B]? = some (.cells bx 74 (0, 0))) (hk : MkKeep B W W1) : Kd.R (Kd.int .i64) 3 W1 base (fun _ => True) v xs := by
  refine Kd.R_mono (Kd.R_step (Kd.R_bound h) (fun k hk1 _ => ?_)) (fun _ _ => trivial)
  obtain ⟨_, _, _, q, hq, cells, hc⟩ := hk1
  have hq3 : q = 3 := by simpa [Kd.int, Kd.scalar] using hq
  subst hq3
  have hne : k ≠ B := fun e => by subst e; rw [hB] at hc; injection hc with hc; injection hc with _ hc; exact absurd hc (by decide)
  rw [hk.1 k cells _ (by decide) hne hc, hc]
/-- The end of a plan that is made: its outputs in a row of their own, told. -/
theorem tp_end {w W : World} {r1 : Int} {r2 : List S79} {r3 : List Int} {r4 : Bool} {u1 u2 : Value} (hX : W.heap[w.heap.size]? = some (.cells #[.int .i64 0, .slice none 0 0, .slice none 0 0] 28 (0, 0))) (hB : Below w.heap.size w W) (h1 : Kd.R k79 79 W w.heap.size (fun _ => True) u1 r2) (h2 : Kd.R (Kd.int .i64) 3 W w.heap.size (fun _ => True) u2 r3) :
    TpPost w r1 r2 r3 r4 (.returned (.tuple #[.agg #[.int .i64 r1, u1, u2], .bool r4])) (((W.setCell ⟨w.heap.size, 0, none⟩ (.int .i64 r1)).setCell ⟨w.heap.size, 1, none⟩ u1).setCell ⟨w.heap.size, 2, none⟩ u2) := by
  have x1 := blk_put hX 0 (.int .i64 r1) rfl
  have x2 := blk_put x1 1 u1 rfl
  refine ⟨_, _, rfl, ?_, ?_, ((hB.setCell (p := ⟨w.heap.size, 0, none⟩) (Nat.le_refl _) _).setCell (p := ⟨w.heap.size, 1, none⟩) (Nat.le_refl _) _).setCell (p := ⟨w.heap.size, 2, none⟩) (Nat.le_refl _) _⟩
  · have a1 := Kd.R_mono (ok' := fun _ => True) (Kd.R_far (p := ⟨w.heap.size, 0, none⟩) (Kd.R_types h1 hX (by decide)) (fun _ hk => hk.2) (.int .i64 r1)) (fun _ _ => trivial)
    have a2 := Kd.R_mono (ok' := fun _ => True) (Kd.R_far (p := ⟨w.heap.size, 1, none⟩) (Kd.R_types a1 x1 (by decide)) (fun _ hk => hk.2) u1) (fun _ _ => trivial)
    exact Kd.R_mono (ok' := fun _ => True) (Kd.R_far (p := ⟨w.heap.size, 2, none⟩) (Kd.R_types a2 x2 (by decide)) (fun _ hk => hk.2) u2) (fun _ _ => trivial)
  · have a1 := Kd.R_mono (ok' := fun _ => True) (Kd.R_far (p := ⟨w.heap.size, 0, none⟩) (Kd.R_types h2 hX (by decide)) (fun _ hk => hk.2) (.int .i64 r1)) (fun _ _ => trivial)
    have a2 := Kd.R_mono (ok' := fun _ => True) (Kd.R_far (p := ⟨w.heap.size, 1, none⟩) (Kd.R_types a1 x1 (by decide)) (fun _ hk => hk.2) u1) (fun _ _ => trivial)
    exact Kd.R_mono (ok' := fun _ => True) (Kd.R_far (p := ⟨w.heap.size, 2, none⟩) (Kd.R_types a2 x2 (by decide)) (fun _ hk => hk.2) u2) (fun _ _ => trivial)
theorem mk_below {base B : Nat} {inp : Int} {os : List S79} {w0 W W1 : World} (h : MkAt base B inp os w0 W) (hb : Below W.heap.size W W1) : MkAt base B inp os w0 W1 := by
  obtain ⟨u, hbx, hR, hB, hge, hbw⟩ := h
  exact ⟨u, blk_below hbx hb, Kd.R_below hR hb, hB.trans (hb.mono (Nat.le_trans hbw hB.size)), hge, hbw⟩

end Go.Proofs.Ytoiamgeaieefmaa.PFnExactLucasPlanCosts
