-- Written by gprint.py, a program of this session, out of the translation (a changed print).
import Derived.Test.YtlmoemahamneoaaPFnExactCodeOfPlanx0
import Derived.Test.YtlmoemahamneoaaPFnExactCodeOfPlanx5
import Derived.Test.YtlmoemahamneoaaPFnExactCodeOfPlanx7
namespace Go.Proofs.Ytlmoemahamneoaa.PFnExactCodeOfPlan
open Go.RowKit Go.Proofs.YtlmoemahamneoaaW.PrintWords Go.Proofs.YtlmoemahamneoaaW.PrintLast Go.Proofs.YtlmoemahamneoaaW.PrintMore
-- shrunk
open Go.Proofs.YtlmoemahamneoaaW.PrintWords.Aside0 renaming mk → zz
open Go.Proofs.YtlmoemahamneoaaW.PrintWords renaming pw_below_drewN → zq, below_alloc → zj, below_drew1 → zw, below_set → zx, below_step → zk, below_size → zv, blk_alloc → qz, blk_drewN → qq, blk_drew → qj, blk_cell → qw, blk_frozen → qx, blk_put → qk, blk_below → qv, gate_callee → yx, gate_dst → yk, box_event → yv, gate_guard → vv
open Go.World renaming block_lt_of_cell? → jz
open Go.Proofs.YtlmoemahamneoaaW.PrintWords.Kd renaming R_alloc → jq, R_drewN → jj, R_drew → jw, C_alloc → jx, C_drewN → jk, C_drew → jv, C_below → yz, R_mono → vz, R_below → vq, R_reads' → vj, R_slice → vw
open List renaming map_toArray → yq, length_drop → yj, length_take → yw
open Go.Proofs.YtlmoemahamneoaaW.PrintWords.LeO renaming bind → vx, refl → vk
open Go.Proofs.YtlmoemahamneoaaW.PrintLast renaming goesL_ → kz
attribute [local go_sem] max2_int min2_int max_two min_two max_three min_three max_four min_four   -- for this text's walks alone
set_option linter.unusedVariables false
set_option linter.unusedSimpArgs false

/-! ### spec_CodeOfPlan: function 37 -/
mutual
def spec_CodeOfPlan.j0 : Nat → Bool → Int → List (S133) → List Int → Option ((List (S109)) × Int × Bool)
 | 0, _, _, _, _ => none
 | k + 1, x20, x257000, x257001, x257002 => if x20 = true then (some (([] : List (S109)), 0, false)) else (if 0 < (x257002.length : Int) then (spec_CodeOfPlan.l0 k x257001 (x257001.length : Int) 0 ([] : List (S109)) (rd x257002 0)) else (none))
def spec_CodeOfPlan.l0 : Nat → List (S133) → Int → Int → List (S109) → Int → Option ((List (S109)) × Int × Bool)
 | 0, _, _, _, _, _ => none
 | k + 1, x28, x29, x30, x261000, x261001 => if x30 < x29 then (if 0 ≤ x30 then (if x30 < (x28.length : Int) then (if x261000.length < 5864062014805 then (spec_CodeOfPlan.l0 k x28 x29 (wrap64 (x30 + 1)) (x261000 ++ [(⟨3, (rd_T133 x28 x30).f0, (rd_T133 x28 x30).f1⟩ : S109)]) x261001) else (none)) else (none)) else (none)) else ((spec_poIf.f k x261000 x261001).bind fun bt266 => (some (bt266.1, bt266.2.1, bt266.2.2)))
end
def spec_CodeOfPlan.f (k : Nat) (a0_0 : Int) (l0_1 : List (S133)) (l0_2 : List Int) : Option ((List (S109)) × Int × Bool) := (spec_plGood.f k a0_0 l0_1 l0_2).bind fun t258 => (if t258 = true then (if a0_0 = 1 then (spec_CodeOfPlan.j0 k ((l0_2.length : Int) != 1) a0_0 l0_1 l0_2) else (spec_CodeOfPlan.j0 k true a0_0 l0_1 l0_2)) else (spec_CodeOfPlan.j0 k true a0_0 l0_1 l0_2))
theorem spec_CodeOfPlan.mono_l : ∀ k, (∀ y0 y1 y2 y3, LeO (spec_CodeOfPlan.j0 k y0 y1 y2 y3) (spec_CodeOfPlan.j0 (k + 1) y0 y1 y2 y3)) ∧ (∀ y0 y1 y2 y3 y4, LeO (spec_CodeOfPlan.l0 k y0 y1 y2 y3 y4) (spec_CodeOfPlan.l0 (k + 1) y0 y1 y2 y3 y4))
 | 0 => ⟨fun _ _ _ _ r h => by simp [spec_CodeOfPlan.j0] at h, fun _ _ _ _ _ r h => by simp [spec_CodeOfPlan.l0] at h⟩
 | k + 1 => by
  obtain ⟨ih0, ih1⟩ := spec_CodeOfPlan.mono_l k
  refine ⟨?_, ?_⟩
  ·intro y0 y1 y2 y3
   unfold spec_CodeOfPlan.j0
   repeat' first
   | (with_reducible exact ih0 _ _ _ _)
   | (with_reducible exact ih1 _ _ _ _ _)
   | (with_reducible exact spec_plGood.mono _ _ _ _)
   | (with_reducible exact spec_poIf.mono _ _ _)
   | (with_reducible exact vk _)
   | (with_reducible exact LeO.none _)
   | (with_reducible refine LeO.ite ?_ ?_)
   | (with_reducible refine vx ?_ (fun _ => ?_))
   | exact ih0 _ _ _ _
   | exact ih1 _ _ _ _ _
   | exact spec_plGood.mono _ _ _ _
   | exact spec_poIf.mono _ _ _
   | exact LeO.none _
   | refine LeO.ite ?_ ?_
   | refine vx ?_ (fun _ => ?_)
  ·intro y0 y1 y2 y3 y4
   unfold spec_CodeOfPlan.l0
   repeat' first
   | (with_reducible exact ih0 _ _ _ _)
   | (with_reducible exact ih1 _ _ _ _ _)
   | (with_reducible exact spec_plGood.mono _ _ _ _)
   | (with_reducible exact spec_poIf.mono _ _ _)
   | (with_reducible exact vk _)
   | (with_reducible exact LeO.none _)
   | (with_reducible refine LeO.ite ?_ ?_)
   | (with_reducible refine vx ?_ (fun _ => ?_))
   | exact ih0 _ _ _ _
   | exact ih1 _ _ _ _ _
   | exact spec_plGood.mono _ _ _ _
   | exact spec_poIf.mono _ _ _
   | exact LeO.none _
   | refine LeO.ite ?_ ?_
   | refine vx ?_ (fun _ => ?_)
theorem spec_CodeOfPlan.mono : ∀ a0 a1 a2 k, LeO (spec_CodeOfPlan.f k a0 a1 a2) (spec_CodeOfPlan.f (k + 1) a0 a1 a2) := by
 intro a0 a1 a2 k
 obtain ⟨ih0, ih1⟩ := spec_CodeOfPlan.mono_l k
 unfold spec_CodeOfPlan.f
 repeat' first
   | (with_reducible exact ih0 _ _ _ _)
   | (with_reducible exact ih1 _ _ _ _ _)
   | (with_reducible exact spec_plGood.mono _ _ _ _)
   | (with_reducible exact spec_poIf.mono _ _ _)
   | (with_reducible exact vk _)
   | (with_reducible exact LeO.none _)
   | (with_reducible refine LeO.ite ?_ ?_)
   | (with_reducible refine vx ?_ (fun _ => ?_))
   | exact ih0 _ _ _ _
   | exact ih1 _ _ _ _ _
   | exact spec_plGood.mono _ _ _ _
   | exact spec_poIf.mono _ _ _
   | exact LeO.none _
   | refine LeO.ite ?_ ?_
   | refine vx ?_ (fun _ => ?_)
set_option maxHeartbeats 8000000 in
set_option maxRecDepth 100000 in
theorem spec_CodeOfPlan.calls (k : Nat) (a0_0 : Int) (A0_1 : Option Addr) (c0_1 : Nat) (l0_1 : List (S133)) (A0_2 : Option Addr) (c0_2 : Nat) (l0_2 : List Int) (r1 : List (S109)) (r2 : Int) (r3 : Bool) (w : World) (hr0_1 : Kd.C k133 w A0_1 l0_1.length l0_1) (hc0_1 : l0_1.length ≤ c0_1) (hr0_2 : Kd.C (Kd.int .i64) w A0_2 l0_2.length l0_2) (hc0_2 : l0_2.length ≤ c0_2) (h : spec_CodeOfPlan.f k a0_0 l0_1 l0_2 = some (r1, r2, r3)) :
  Calls Try.prog 37 #[.agg #[.int .i64 a0_0, .slice A0_1 l0_1.length c0_1, .slice A0_2 l0_2.length c0_2]] w fun e w' => ∃ v0_ : Value, e = .returned (.tuple #[.agg #[v0_, .int .i64 r2], .bool r3]) ∧ Kd.R k109 109 w' w.heap.size (fun _ => True) v0_ r1 ∧ Below w.heap.size w w' := by
 have hu59 := Try.underlying59
 have hu32 := Try.underlying32
 have hu133 := Try.underlying133
 have hu109 := Try.underlying109
 have HR0_1 := zz hr0_1
 have HC0_1 := zz hc0_1
 clear hr0_1 hc0_1
 have HR0_2 := zz hr0_2
 have HC0_2 := zz hc0_2
 clear hr0_2 hc0_2
 have HB := zz (Below.refl w.heap.size w)
 have H : ((spec_plGood.f k a0_0 l0_1 l0_2).bind fun t258 => (if t258 = true then (if a0_0 = 1 then (spec_CodeOfPlan.j0 k ((l0_2.length : Int) != 1) a0_0 l0_1 l0_2) else (spec_CodeOfPlan.j0 k true a0_0 l0_1 l0_2)) else (spec_CodeOfPlan.j0 k true a0_0 l0_1 l0_2))) = some (r1, r2, r3) := h
 clear h
 have HC2 := zz H
 clear H
 go_enter Try.func37, Try.ntmps37
 go_upto_region 1 with (first | ((with_reducible refine yk (N := 1) rfl ?_); (try (refine vv (by rfl) ?_; dsimp only)); refine yv ?hg (N := 1) ?hd (cs := #[.int .i64 a0_0, .slice A0_1 l0_1.length c0_1, .slice A0_2 l0_2.length c0_2]) (t := 59) ?hr ?_; (case hd => rfl); (case hg => rfl); (case hr => first | (go_simp; done) | (go_simp; rfl)); intro gb256 hg w3 hbox hb; have n0_ := zz (zk (by repeat (first | (with_reducible first | exact HB.out | apply zj | apply zq | apply zw) | exact HB.out)) hb); have n1_ := zz (hbox); have n2_ := zz ((by rw [hg]; exact (zv (by repeat (first | (with_reducible first | exact HB.out | apply zj | apply zq | apply zw) | exact HB.out))) : w.heap.size ≤ gb256)); have n3_ := zz ((by rw [hg]; exact (zv (by repeat (first | (with_reducible first | exact HB.out | apply zj | apply zq | apply zw) | exact HB.out))) : w.heap.size ≤ gb256)); clear HB; have HB := n0_; have BK256 := n1_; have GW256 := n2_; have GE256 := n3_; clear n0_ n1_ n2_ n3_; clear hb hbox hg) | ((with_reducible refine yk (N := 2) rfl ?_); (try (refine vv (by rfl) ?_; dsimp only)); refine yv ?hg (N := 2) ?hd (cs := #[.slice none 0 0, .int .i64 0]) (t := 32) ?hr ?_; (case hd => rfl); (case hg => rfl); (case hr => first | (go_simp; done) | (go_simp; rfl)); intro gb257 hg w4 hbox hb; have n0_ := zz (qv (g := gb256) (o := .cells #[.int .i64 a0_0, .slice A0_1 l0_1.length c0_1, .slice A0_2 l0_2.length c0_2] 59 (0, 0)) (by (with_reducible repeat (first | refine qq ?_ _ | refine qj ?_ | refine qz ?_ _)); exact BK256.out) hb); have n1_ := zz (zk (by repeat (first | (with_reducible first | exact HB.out | apply zj | apply zq | apply zw | refine zx ?_ GE256.out) | exact HB.out)) hb); have n2_ := zz (hbox); have n3_ := zz ((by rw [hg]; exact (zv (by repeat (first | (with_reducible first | exact HB.out | apply zj | apply zq | apply zw | refine zx ?_ GE256.out) | exact HB.out))) : w.heap.size ≤ gb257)); have n4_ := zz ((by rw [hg]; exact (zv (by repeat (first | (with_reducible first | exact HB.out | apply zj | apply zq | apply zw | refine zx ?_ GE256.out) | exact HB.out))) : w.heap.size ≤ gb257)); have n5_ := zz ((by rw [hg]; exact Nat.ne_of_lt (blk_lt (g := gb256) (o := .cells #[.int .i64 a0_0, .slice A0_1 l0_1.length c0_1, .slice A0_2 l0_2.length c0_2] 59 (0, 0)) (by (with_reducible repeat (first | refine qq ?_ _ | refine qj ?_ | refine qz ?_ _)); exact BK256.out)) : gb256 ≠ gb257)); have n6_ := zz ((by rw [hg]; exact Nat.ne_of_gt (blk_lt (g := gb256) (o := .cells #[.int .i64 a0_0, .slice A0_1 l0_1.length c0_1, .slice A0_2 l0_2.length c0_2] 59 (0, 0)) (by (with_reducible repeat (first | refine qq ?_ _ | refine qj ?_ | refine qz ?_ _)); exact BK256.out)) : gb257 ≠ gb256)); clear BK256; clear HB; have BK256 := n0_; have HB := n1_; have BK257 := n2_; have GW257 := n3_; have GE257 := n4_; have NB256_257 := n5_; have NB257_256 := n6_; clear n0_ n1_ n2_ n3_ n4_ n5_ n6_; clear hb hbox hg))
 (try simp only [Act.put, List.setIfInBounds_toArray, List.set_cons_zero, List.set_cons_succ])
 go_cut [20] (fun v20 wc => ∃ (kq : Nat) (x20_1 : Bool), v20 = .bool x20_1 ∧ Aside0 (spec_CodeOfPlan.j0 kq x20_1 a0_0 l0_1 l0_2 = some (r1, r2, r3)) ∧ Aside0 (kq ≤ k) ∧ Aside0 (wc.heap[gb256]? = some (.cells #[.int .i64 a0_0, (.slice A0_1 l0_1.length c0_1), (.slice A0_2 l0_2.length c0_2)] 59 (0, 0))) ∧ Aside0 (wc.heap[gb257]? = some (.cells #[(.slice none 0 0), .int .i64 0] 32 (0, 0))) ∧ Aside0 (Below w.heap.size w wc))
 case first =>
  have H := HC2.out
  clear HC2
  replace H := Option.bind_eq_some_iff.mp H
  obtain ⟨t258, A50, H⟩ := H
  replace H : (if t258 = true then (if a0_0 = 1 then (spec_CodeOfPlan.j0 k ((l0_2.length : Int) != 1) a0_0 l0_1 l0_2) else (spec_CodeOfPlan.j0 k true a0_0 l0_1 l0_2)) else (spec_CodeOfPlan.j0 k true a0_0 l0_1 l0_2)) = some (r1, r2, r3) := H
  have A5 := zz A50
  clear A50
  by_cases c6 : t258 = true
  ·subst c6
   have H1 : (if a0_0 = 1 then (spec_CodeOfPlan.j0 k ((l0_2.length : Int) != 1) a0_0 l0_1 l0_2) else (spec_CodeOfPlan.j0 k true a0_0 l0_1 l0_2)) = some (r1, r2, r3) := by rw [if_pos rfl] at H; exact H
   clear H
   have H := H1
   clear H1
   by_cases c7 : a0_0 = 1
   ·rw [if_pos c7] at H
    have c7b0 : (a0_0 == 1) = true := beq_iff_eq.mpr c7
    have c7b1 : (a0_0 != 1) = false := bne_eq_false_iff_eq.mpr c7
    clear c7
    (first | rw [c7b0] | (simp only [i64_w, i32_w]; rw [c7b0]) | skip)
    have H' := zz H
    clear H
    have hnb8 := NB256_257.out
    have hnc8 := NB257_256.out
    have hcz9_0 : w4.cell? ⟨gb256, 0, none⟩ = some (.int .i64 a0_0) := (qw BK256.out 0).trans rfl
    have hcz9_1 : w4.cell? ⟨gb256, 1, none⟩ = some (.slice A0_1 l0_1.length c0_1) := (qw BK256.out 1).trans rfl
    have hcz9_2 : w4.cell? ⟨gb256, 2, none⟩ = some (.slice A0_2 l0_2.length c0_2) := (qw BK256.out 2).trans rfl
    have hfz9_0 := qx BK256.out 0
    have hfz9_1 := qx BK256.out 1
    have hfz9_2 := qx BK256.out 2
    go_wp2_with (first | ((with_reducible refine yx (f := 122) rfl ?_); refine kz (some 8) rfl rfl Try.func122 (by kernel_rfl) rfl #[.agg #[.int .i64 a0_0, .slice A0_1 l0_1.length c0_1, .slice A0_2 l0_2.length c0_2]] rfl (by (try simp only [yq, List.map_cons, List.map_nil]); first | done | rfl | (simp only [yj, yw]; rfl)) ?_; (with_reducible refine (spec_plGood.calls k a0_0 _ _ l0_1 _ _ l0_2 true _ ?side1 ?side2 ?side3 ?side4 A5.out).mono ?_); (case side1 => repeat (first | exact (yz HR0_1.out HB.out) | (with_reducible refine jx ?_ _) | (with_reducible refine jk ?_ _) | (with_reducible refine jv ?_))); (case side2 => exact HC0_1.out); (case side3 => repeat (first | exact (yz HR0_2.out HB.out) | (with_reducible refine jx ?_ _) | (with_reducible refine jk ?_ _) | (with_reducible refine jv ?_))); (case side4 => exact HC0_2.out); rintro e w10 ⟨rfl, hb⟩; refine ⟨_, rfl, ?_⟩; have n0_ := zz (qv (g := gb256) (o := .cells #[.int .i64 a0_0, .slice A0_1 l0_1.length c0_1, .slice A0_2 l0_2.length c0_2] 59 (0, 0)) (by (with_reducible repeat (first | refine qq ?_ _ | refine qj ?_ | refine qz ?_ _)); exact BK256.out) hb); have n1_ := zz (qv (g := gb257) (o := .cells #[.slice none 0 0, .int .i64 0] 32 (0, 0)) (by (with_reducible repeat (first | refine qq ?_ _ | refine qj ?_ | refine qz ?_ _)); exact BK257.out) hb); have n2_ := zz (zk (by repeat (first | (with_reducible first | exact HB.out | apply zj | apply zq | apply zw | refine zx ?_ GE256.out | refine zx ?_ GE257.out) | exact HB.out)) hb); clear BK256; clear BK257; clear HB; have BK256 := n0_; have BK257 := n1_; have HB := n2_; clear n0_ n1_ n2_; (try clear hb); (try clear hb2); (try clear hk); (try clear hi); have hcz11_0 : w10.cell? ⟨gb256, 0, none⟩ = some (.int .i64 a0_0) := (qw BK256.out 0).trans rfl; have hcz11_1 : w10.cell? ⟨gb256, 1, none⟩ = some (.slice A0_1 l0_1.length c0_1) := (qw BK256.out 1).trans rfl; have hcz11_2 : w10.cell? ⟨gb256, 2, none⟩ = some (.slice A0_2 l0_2.length c0_2) := (qw BK256.out 2).trans rfl; have hfz11_0 := qx BK256.out 0; have hfz11_1 := qx BK256.out 1; have hfz11_2 := qx BK256.out 2))
    go_meet
    case rel => exact ⟨_, (((l0_2.length : Int) != 1)), (by first | rfl | (simp; done) | (simp [*]; done)), H', ⟨by first | omega | exact Nat.le_refl _⟩, ⟨by (with_reducible repeat (first | refine qq ?_ _ | refine qj ?_ | refine qz ?_ _)); exact BK256.out⟩, ⟨by (with_reducible repeat (first | refine qq ?_ _ | refine qj ?_ | refine qz ?_ _)); exact BK257.out⟩, ⟨by repeat (first | (with_reducible first | exact HB.out | apply zj | apply zq | apply zw | refine zx ?_ GE256.out | refine zx ?_ GE257.out) | exact HB.out)⟩⟩
   ·rw [if_neg c7] at H
    have c7b0 : (a0_0 == 1) = false := beq_eq_false_iff_ne.mpr c7
    have c7b1 : (a0_0 != 1) = true := bne_iff_ne.mpr c7
    (first | rw [c7b0] | (simp only [i64_w, i32_w]; rw [c7b0]) | skip)
    have H' := zz H
    clear H
    have hnb12 := NB256_257.out
    have hnc12 := NB257_256.out
    have hcz13_0 : w4.cell? ⟨gb256, 0, none⟩ = some (.int .i64 a0_0) := (qw BK256.out 0).trans rfl
    have hcz13_1 : w4.cell? ⟨gb256, 1, none⟩ = some (.slice A0_1 l0_1.length c0_1) := (qw BK256.out 1).trans rfl
    have hcz13_2 : w4.cell? ⟨gb256, 2, none⟩ = some (.slice A0_2 l0_2.length c0_2) := (qw BK256.out 2).trans rfl
    have hfz13_0 := qx BK256.out 0
    have hfz13_1 := qx BK256.out 1
    have hfz13_2 := qx BK256.out 2
    go_wp2_with (first | ((with_reducible refine yx (f := 122) rfl ?_); refine kz (some 8) rfl rfl Try.func122 (by kernel_rfl) rfl #[.agg #[.int .i64 a0_0, .slice A0_1 l0_1.length c0_1, .slice A0_2 l0_2.length c0_2]] rfl (by (try simp only [yq, List.map_cons, List.map_nil]); first | done | rfl | (simp only [yj, yw]; rfl)) ?_; (with_reducible refine (spec_plGood.calls k a0_0 _ _ l0_1 _ _ l0_2 true _ ?side1 ?side2 ?side3 ?side4 A5.out).mono ?_); (case side1 => repeat (first | exact (yz HR0_1.out HB.out) | (with_reducible refine jx ?_ _) | (with_reducible refine jk ?_ _) | (with_reducible refine jv ?_))); (case side2 => exact HC0_1.out); (case side3 => repeat (first | exact (yz HR0_2.out HB.out) | (with_reducible refine jx ?_ _) | (with_reducible refine jk ?_ _) | (with_reducible refine jv ?_))); (case side4 => exact HC0_2.out); rintro e w14 ⟨rfl, hb⟩; refine ⟨_, rfl, ?_⟩; have n0_ := zz (qv (g := gb256) (o := .cells #[.int .i64 a0_0, .slice A0_1 l0_1.length c0_1, .slice A0_2 l0_2.length c0_2] 59 (0, 0)) (by (with_reducible repeat (first | refine qq ?_ _ | refine qj ?_ | refine qz ?_ _)); exact BK256.out) hb); have n1_ := zz (qv (g := gb257) (o := .cells #[.slice none 0 0, .int .i64 0] 32 (0, 0)) (by (with_reducible repeat (first | refine qq ?_ _ | refine qj ?_ | refine qz ?_ _)); exact BK257.out) hb); have n2_ := zz (zk (by repeat (first | (with_reducible first | exact HB.out | apply zj | apply zq | apply zw | refine zx ?_ GE256.out | refine zx ?_ GE257.out) | exact HB.out)) hb); clear BK256; clear BK257; clear HB; have BK256 := n0_; have BK257 := n1_; have HB := n2_; clear n0_ n1_ n2_; (try clear hb); (try clear hb2); (try clear hk); (try clear hi); have hcz15_0 : w14.cell? ⟨gb256, 0, none⟩ = some (.int .i64 a0_0) := (qw BK256.out 0).trans rfl; have hcz15_1 : w14.cell? ⟨gb256, 1, none⟩ = some (.slice A0_1 l0_1.length c0_1) := (qw BK256.out 1).trans rfl; have hcz15_2 : w14.cell? ⟨gb256, 2, none⟩ = some (.slice A0_2 l0_2.length c0_2) := (qw BK256.out 2).trans rfl; have hfz15_0 := qx BK256.out 0; have hfz15_1 := qx BK256.out 1; have hfz15_2 := qx BK256.out 2))
    go_meet
    case rel => exact ⟨_, (true), (by first | rfl | (simp; done) | (simp [*]; done)), H', ⟨by first | omega | exact Nat.le_refl _⟩, ⟨by (with_reducible repeat (first | refine qq ?_ _ | refine qj ?_ | refine qz ?_ _)); exact BK256.out⟩, ⟨by (with_reducible repeat (first | refine qq ?_ _ | refine qj ?_ | refine qz ?_ _)); exact BK257.out⟩, ⟨by repeat (first | (with_reducible first | exact HB.out | apply zj | apply zq | apply zw | refine zx ?_ GE256.out | refine zx ?_ GE257.out) | exact HB.out)⟩⟩
  ·replace c6 := Bool.eq_false_iff.mpr c6
   subst c6
   have H1 : (spec_CodeOfPlan.j0 k true a0_0 l0_1 l0_2) = some (r1, r2, r3) := by rw [if_neg (show ¬ (false = true) by decide)] at H; exact H
   clear H
   have H := H1
   clear H1
   have H' := zz H
   clear H
   have hnb16 := NB256_257.out
   have hnc16 := NB257_256.out
   have hcz17_0 : w4.cell? ⟨gb256, 0, none⟩ = some (.int .i64 a0_0) := (qw BK256.out 0).trans rfl
   have hcz17_1 : w4.cell? ⟨gb256, 1, none⟩ = some (.slice A0_1 l0_1.length c0_1) := (qw BK256.out 1).trans rfl
   have hcz17_2 : w4.cell? ⟨gb256, 2, none⟩ = some (.slice A0_2 l0_2.length c0_2) := (qw BK256.out 2).trans rfl
   have hfz17_0 := qx BK256.out 0
   have hfz17_1 := qx BK256.out 1
   have hfz17_2 := qx BK256.out 2
   go_wp2_with (first | ((with_reducible refine yx (f := 122) rfl ?_); refine kz (some 8) rfl rfl Try.func122 (by kernel_rfl) rfl #[.agg #[.int .i64 a0_0, .slice A0_1 l0_1.length c0_1, .slice A0_2 l0_2.length c0_2]] rfl (by (try simp only [yq, List.map_cons, List.map_nil]); first | done | rfl | (simp only [yj, yw]; rfl)) ?_; (with_reducible refine (spec_plGood.calls k a0_0 _ _ l0_1 _ _ l0_2 false _ ?side1 ?side2 ?side3 ?side4 A5.out).mono ?_); (case side1 => repeat (first | exact (yz HR0_1.out HB.out) | (with_reducible refine jx ?_ _) | (with_reducible refine jk ?_ _) | (with_reducible refine jv ?_))); (case side2 => exact HC0_1.out); (case side3 => repeat (first | exact (yz HR0_2.out HB.out) | (with_reducible refine jx ?_ _) | (with_reducible refine jk ?_ _) | (with_reducible refine jv ?_))); (case side4 => exact HC0_2.out); rintro e w18 ⟨rfl, hb⟩; refine ⟨_, rfl, ?_⟩; have n0_ := zz (qv (g := gb256) (o := .cells #[.int .i64 a0_0, .slice A0_1 l0_1.length c0_1, .slice A0_2 l0_2.length c0_2] 59 (0, 0)) (by (with_reducible repeat (first | refine qq ?_ _ | refine qj ?_ | refine qz ?_ _)); exact BK256.out) hb); have n1_ := zz (qv (g := gb257) (o := .cells #[.slice none 0 0, .int .i64 0] 32 (0, 0)) (by (with_reducible repeat (first | refine qq ?_ _ | refine qj ?_ | refine qz ?_ _)); exact BK257.out) hb); have n2_ := zz (zk (by repeat (first | (with_reducible first | exact HB.out | apply zj | apply zq | apply zw | refine zx ?_ GE256.out | refine zx ?_ GE257.out) | exact HB.out)) hb); clear BK256; clear BK257; clear HB; have BK256 := n0_; have BK257 := n1_; have HB := n2_; clear n0_ n1_ n2_; (try clear hb); (try clear hb2); (try clear hk); (try clear hi)))
   go_meet
   case rel => exact ⟨_, (true), (by first | rfl | (simp; done) | (simp [*]; done)), H', ⟨by first | omega | exact Nat.le_refl _⟩, ⟨by (with_reducible repeat (first | refine qq ?_ _ | refine qj ?_ | refine qz ?_ _)); exact BK256.out⟩, ⟨by (with_reducible repeat (first | refine qq ?_ _ | refine qj ?_ | refine qz ?_ _)); exact BK257.out⟩, ⟨by repeat (first | (with_reducible first | exact HB.out | apply zj | apply zq | apply zw | refine zx ?_ GE256.out | refine zx ?_ GE257.out) | exact HB.out)⟩⟩
 case rest =>
  clear HC2
  try clear c1
  try clear p2
  try clear c3
  try clear c6
  try clear c7
  try clear c7b0
  try clear c7b1
  try clear c8
  try clear c12
  try clear c16
  try clear hcz11_0
  try clear hcz11_1
  try clear hcz11_2
  try clear hcz13_0
  try clear hcz13_1
  try clear hcz13_2
  try clear hcz15_0
  try clear hcz15_1
  try clear hcz15_2
  try clear hcz17_0
  try clear hcz17_1
  try clear hcz17_2
  try clear hcz9_0
  try clear hcz9_1
  try clear hcz9_2
  try clear hfz11_0
  try clear hfz11_1
  try clear hfz11_2
  try clear hfz13_0
  try clear hfz13_1
  try clear hfz13_2
  try clear hfz15_0
  try clear hfz15_1
  try clear hfz15_2
  try clear hfz17_0
  try clear hfz17_1
  try clear hfz17_2
  try clear hfz9_0
  try clear hfz9_1
  try clear hfz9_2
  obtain ⟨kq, x20_1, rfl, HA, HJ1, BK256, BK257, HB⟩ := hcut
  cases kq with
  | zero => exact absurd HA.out (by simp [spec_CodeOfPlan.j0])
  | succ kj1 =>
   have H := HA.out
   clear HA
   simp only [spec_CodeOfPlan.j0] at H
   by_cases c19 : x20_1 = true
   ·subst c19
    have H1 : (some (([] : List (S109)), 0, false)) = some (r1, r2, r3) := by rw [if_pos rfl] at H; exact H
    clear H
    have H := H1
    clear H1
    simp only [Option.some.injEq, Prod.mk.injEq] at H
    obtain ⟨rfl, rfl, rfl⟩ := H
    have hnb20 := NB257_256.out
    have hnc20 := NB256_257.out
    have hcz21_0 : wc.cell? ⟨gb257, 0, none⟩ = some (.slice none 0 0) := (qw BK257.out 0).trans rfl
    have hcz21_1 : wc.cell? ⟨gb257, 1, none⟩ = some (.int .i64 0) := (qw BK257.out 1).trans rfl
    have hfz21_0 := qx BK257.out 0
    have hfz21_1 := qx BK257.out 1
    go_wp2
    refine bodyPost_ret (results_ct rfl _ _ gb257 32 #[.slice none 0 0, .int .i64 0] (0, 0) _ rfl (by (with_reducible repeat (first | refine qq ?_ _ | refine qj ?_ | refine qz ?_ _)); refine qk (cs := #[.slice none 0 0, .int .i64 0]) ?_ 1 _ rfl; (with_reducible repeat (first | refine qq ?_ _ | refine qj ?_ | refine qz ?_ _)); refine qk (cs := #[.slice none 0 0, .int .i64 0]) ?_ 0 _ rfl; (with_reducible repeat (first | refine qq ?_ _ | refine qj ?_ | refine qz ?_ _)); exact BK257.out) Try.underlying32 rfl (by kernel_rfl)) rfl ?_
    exact ⟨_, by first | rfl | (simp [errW_none, errW_some] <;> rfl) | (simp [*, errW_none, errW_some] <;> rfl), by first | exact Kd.R_nil _ _ _ _ _ | exact Kd.N_nil _ _ _ _ _ | exact Kd.V_nil _ _ _ _ _ | exact Kd.Q_nil _ _ _ _ _ | exact Kd.S_nil _ _ _ _ _, by repeat (first | (with_reducible first | exact HB.out | apply zj | apply zq | apply zw | refine zx ?_ GE256.out | refine zx ?_ GE257.out) | exact HB.out)⟩
   ·replace c19 := Bool.eq_false_iff.mpr c19
    subst c19
    have H1 : (if 0 < (l0_2.length : Int) then (spec_CodeOfPlan.l0 kj1 l0_1 (l0_1.length : Int) 0 ([] : List (S109)) (rd l0_2 0)) else (none)) = some (r1, r2, r3) := by rw [if_neg (show ¬ (false = true) by decide)] at H; exact H
    clear H
    have H := H1
    clear H1
    by_cases c22 : 0 < (l0_2.length : Int)
    ·rw [if_pos c22] at H
     have c22b0 : decide (0 < (l0_2.length : Int)) = true := decide_eq_true c22
     have c22b1 : decide (0 < l0_2.length) = true := decide_eq_true (by omega)
     clear c22
     have H' := zz H
     clear H
     have hnb23 := NB256_257.out
     have hnc23 := NB257_256.out
     have hcz24_0 : wc.cell? ⟨gb256, 0, none⟩ = some (.int .i64 a0_0) := (qw BK256.out 0).trans rfl
     have hcz24_1 : wc.cell? ⟨gb256, 1, none⟩ = some (.slice A0_1 l0_1.length c0_1) := (qw BK256.out 1).trans rfl
     have hcz24_2 : wc.cell? ⟨gb256, 2, none⟩ = some (.slice A0_2 l0_2.length c0_2) := (qw BK256.out 2).trans rfl
     have hfz24_0 := qx BK256.out 0
     have hfz24_1 := qx BK256.out 1
     have hfz24_2 := qx BK256.out 2
     have p259 : 0 ≤ (0 : Int) := (by omega)
     have q259 : 0 < (l0_2.length : Int) := of_decide_eq_true (by first | (with_reducible assumption) | assumption)
     obtain ⟨ad259, e259, hx259_0⟩ := Kd.at_int HR0_2.out 0 p259 q259
     cases e259
     have qi259 : (0 < l0_2.length) = True := eq_true (by omega)
     (try rw [show ((0 : Int)).toNat = 0 from rfl] at hx259_0)
     (try rw [Addr.add_zero'] at hx259_0)
     replace hx259_0 := (HB.out.cell (jz w _ hx259_0)).trans hx259_0
     replace p259 := eq_true p259
     replace q259 := eq_true q259
     go_wp2_with (first | ((with_reducible refine yk (N := 4) rfl ?_); (try (refine vv (by rfl) ?_; dsimp only)); refine yv ?hg (N := 4) ?hd (cs := #[.slice none 0 0, .int .i64 0]) (t := 32) ?hr ?_; (case hd => rfl); (case hg => rfl); (case hr => first | (go_simp; done) | (go_simp; rfl)); intro gb260 hg w25 hbox hb; have n0_ := zz (qv (g := gb256) (o := .cells #[.int .i64 a0_0, .slice A0_1 l0_1.length c0_1, .slice (some ad259) l0_2.length c0_2] 59 (0, 0)) (by (with_reducible repeat (first | refine qq ?_ _ | refine qj ?_ | refine qz ?_ _)); exact BK256.out) hb); have n1_ := zz (qv (g := gb257) (o := .cells #[.slice none 0 0, .int .i64 0] 32 (0, 0)) (by (with_reducible repeat (first | refine qq ?_ _ | refine qj ?_ | refine qz ?_ _)); exact BK257.out) hb); have n2_ := zz (zk (by repeat (first | (with_reducible first | exact HB.out | apply zj | apply zq | apply zw | refine zx ?_ GE256.out | refine zx ?_ GE257.out) | exact HB.out)) hb); have n3_ := zz (hbox); have n4_ := zz ((by rw [hg]; exact (zv (by repeat (first | (with_reducible first | exact HB.out | apply zj | apply zq | apply zw | refine zx ?_ GE256.out | refine zx ?_ GE257.out) | exact HB.out))) : w.heap.size ≤ gb260)); have n5_ := zz ((by rw [hg]; exact (zv (by repeat (first | (with_reducible first | exact HB.out | apply zj | apply zq | apply zw | refine zx ?_ GE256.out | refine zx ?_ GE257.out) | exact HB.out))) : w.heap.size ≤ gb260)); have n6_ := zz ((by rw [hg]; exact Nat.ne_of_lt (blk_lt (g := gb256) (o := .cells #[.int .i64 a0_0, .slice A0_1 l0_1.length c0_1, .slice (some ad259) l0_2.length c0_2] 59 (0, 0)) (by (with_reducible repeat (first | refine qq ?_ _ | refine qj ?_ | refine qz ?_ _)); exact BK256.out)) : gb256 ≠ gb260)); have n7_ := zz ((by rw [hg]; exact Nat.ne_of_gt (blk_lt (g := gb256) (o := .cells #[.int .i64 a0_0, .slice A0_1 l0_1.length c0_1, .slice (some ad259) l0_2.length c0_2] 59 (0, 0)) (by (with_reducible repeat (first | refine qq ?_ _ | refine qj ?_ | refine qz ?_ _)); exact BK256.out)) : gb260 ≠ gb256)); have n8_ := zz ((by rw [hg]; exact Nat.ne_of_lt (blk_lt (g := gb257) (o := .cells #[.slice none 0 0, .int .i64 0] 32 (0, 0)) (by (with_reducible repeat (first | refine qq ?_ _ | refine qj ?_ | refine qz ?_ _)); exact BK257.out)) : gb257 ≠ gb260)); have n9_ := zz ((by rw [hg]; exact Nat.ne_of_gt (blk_lt (g := gb257) (o := .cells #[.slice none 0 0, .int .i64 0] 32 (0, 0)) (by (with_reducible repeat (first | refine qq ?_ _ | refine qj ?_ | refine qz ?_ _)); exact BK257.out)) : gb260 ≠ gb257)); clear BK256; clear BK257; clear HB; have BK256 := n0_; have BK257 := n1_; have HB := n2_; have BK260 := n3_; have GW260 := n4_; have GE260 := n5_; have NB256_260 := n6_; have NB260_256 := n7_; have NB257_260 := n8_; have NB260_257 := n9_; clear n0_ n1_ n2_ n3_ n4_ n5_ n6_ n7_ n8_ n9_; clear hb hbox hg; have hnb26 := NB260_256.out; have hnc26 := NB256_260.out; have hnb27 := NB260_257.out; have hnc27 := NB257_260.out; have hcz28_0 : w25.cell? ⟨gb260, 0, none⟩ = some (.slice none 0 0) := (qw BK260.out 0).trans rfl; have hcz28_1 : w25.cell? ⟨gb260, 1, none⟩ = some (.int .i64 0) := (qw BK260.out 1).trans rfl; have hfz28_0 := qx BK260.out 0; have hfz28_1 := qx BK260.out 1; have hcz29_0 : w25.cell? ⟨gb256, 0, none⟩ = some (.int .i64 a0_0) := (qw BK256.out 0).trans rfl; have hcz29_1 : w25.cell? ⟨gb256, 1, none⟩ = some (.slice A0_1 l0_1.length c0_1) := (qw BK256.out 1).trans rfl; have hcz29_2 : w25.cell? ⟨gb256, 2, none⟩ = some (.slice (some ad259) l0_2.length c0_2) := (qw BK256.out 2).trans rfl; have hfz29_0 := qx BK256.out 0; have hfz29_1 := qx BK256.out 1; have hfz29_2 := qx BK256.out 2))
     go_loopg [30] kj1 (fun kq v30 w' => ∃ (x30_2 : Int) (x261000_2 : List (S109)) (u261000 : Value), v30 = .int .i64 x30_2 ∧ Aside0 (spec_CodeOfPlan.l0 kq l0_1 (l0_1.length : Int) x30_2 x261000_2 (rd l0_2 0) = some (r1, r2, r3)) ∧ Aside0 (kq ≤ kj1) ∧ Aside0 (Kd.R k109 109 w' w.heap.size (fun _ => True) u261000 x261000_2) ∧ Aside0 (w'.heap[gb256]? = some (.cells #[.int .i64 a0_0, (.slice A0_1 l0_1.length c0_1), (.slice (some ad259) l0_2.length c0_2)] 59 (0, 0))) ∧ Aside0 (w'.heap[gb257]? = some (.cells #[(.slice none 0 0), .int .i64 0] 32 (0, 0))) ∧ Aside0 (w'.heap[gb260]? = some (.cells #[u261000, .int .i64 (rd l0_2 0)] 32 (0, 0))) ∧ Aside0 (Below w.heap.size w w'))
     case atStart => exact ⟨(0), (([] : List (S109))), (.slice none 0 0), (by first | rfl | (simp; done) | (simp [*]; done)), H', ⟨Nat.le_refl _⟩, ⟨by first | exact Kd.R_nil _ _ _ _ _ | exact Kd.N_nil _ _ _ _ _ | exact Kd.V_nil _ _ _ _ _ | exact Kd.Q_nil _ _ _ _ _ | exact Kd.S_nil _ _ _ _ _⟩, ⟨by (with_reducible repeat (first | refine qq ?_ _ | refine qj ?_ | refine qz ?_ _)); refine blk_far ?_ NB256_260.out _; (with_reducible repeat (first | refine qq ?_ _ | refine qj ?_ | refine qz ?_ _)); refine blk_far ?_ NB256_260.out _; (with_reducible repeat (first | refine qq ?_ _ | refine qj ?_ | refine qz ?_ _)); exact BK256.out⟩, ⟨by (with_reducible repeat (first | refine qq ?_ _ | refine qj ?_ | refine qz ?_ _)); refine blk_far ?_ NB257_260.out _; (with_reducible repeat (first | refine qq ?_ _ | refine qj ?_ | refine qz ?_ _)); refine blk_far ?_ NB257_260.out _; (with_reducible repeat (first | refine qq ?_ _ | refine qj ?_ | refine qz ?_ _)); exact BK257.out⟩, ⟨by (with_reducible repeat (first | refine qq ?_ _ | refine qj ?_ | refine qz ?_ _)); refine qk (cs := #[.slice none 0 0, .int .i64 0]) ?_ 1 _ rfl; (with_reducible repeat (first | refine qq ?_ _ | refine qj ?_ | refine qz ?_ _)); refine qk (cs := #[.slice none 0 0, .int .i64 0]) ?_ 0 _ rfl; (with_reducible repeat (first | refine qq ?_ _ | refine qj ?_ | refine qz ?_ _)); exact BK260.out⟩, ⟨by repeat (first | (with_reducible first | exact HB.out | apply zj | apply zq | apply zw | refine zx ?_ GE256.out | refine zx ?_ GE257.out | refine zx ?_ GE260.out) | exact HB.out)⟩⟩
     case round =>
      clear H'
      try clear c1
      try clear c2
      try clear p2
      try clear q2
      try clear hx2
      try clear qi2
      try clear c3
      try clear c6
      try clear c7
      try clear c7b0
      try clear c7b1
      try clear c8
      try clear c12
      try clear c16
      try clear c19
      try clear c20
      try clear c22
      try clear c22b0
      try clear c22b1
      try clear c23
      try clear p25
      try clear q25
      try clear hx25
      try clear qi25
      try clear c26
      try clear c27
      try clear hcz11_0
      try clear hcz11_1
      try clear hcz11_2
      try clear hcz13_0
      try clear hcz13_1
      try clear hcz13_2
      try clear hcz15_0
      try clear hcz15_1
      try clear hcz15_2
      try clear hcz17_0
      try clear hcz17_1
      try clear hcz17_2
      try clear hcz21_0
      try clear hcz21_1
      try clear hcz24_0
      try clear hcz24_1
      try clear hcz24_2
      try clear hcz28_0
      try clear hcz28_1
      try clear hcz29_0
      try clear hcz29_1
      try clear hcz29_2
      try clear hcz9_0
      try clear hcz9_1
      try clear hcz9_2
      try clear hfz11_0
      try clear hfz11_1
      try clear hfz11_2
      try clear hfz13_0
      try clear hfz13_1
      try clear hfz13_2
      try clear hfz15_0
      try clear hfz15_1
      try clear hfz15_2
      try clear hfz17_0
      try clear hfz17_1
      try clear hfz17_2
      try clear hfz21_0
      try clear hfz21_1
      try clear hfz24_0
      try clear hfz24_1
      try clear hfz24_2
      try clear hfz28_0
      try clear hfz28_1
      try clear hfz29_0
      try clear hfz29_1
      try clear hfz29_2
      try clear hfz9_0
      try clear hfz9_1
      try clear hfz9_2
      try clear hx259_0
      try clear p2
      try clear p259
      try clear q259
      obtain ⟨x30_2, x261000_2, u261000, rfl, HA, HK2, HO_261000, BK256, BK257, BK260, HB⟩ := hrel
      cases gk with
      | zero => exact absurd HA.out (by simp [spec_CodeOfPlan.l0])
      | succ k2 =>
       have H := HA.out
       clear HA
       simp only [spec_CodeOfPlan.l0] at H
       by_cases c30 : x30_2 < (l0_1.length : Int)
       ·rw [if_pos c30] at H
        have c30b0 : decide (x30_2 < (l0_1.length : Int)) = true := decide_eq_true c30
        clear c30
        by_cases c31 : 0 ≤ x30_2
        ·rw [if_pos c31] at H
         have c31b0 : decide (0 ≤ x30_2) = true := decide_eq_true c31
         clear c31
         by_cases c32 : x30_2 < (l0_1.length : Int)
         ·rw [if_pos c32] at H
          have c32b0 : decide (x30_2 < (l0_1.length : Int)) = true := decide_eq_true c32
          clear c32
          by_cases c33 : x261000_2.length < 5864062014805
          ·rw [if_pos c33] at H
           have LMc33 := zz c33
           clear c33
           obtain ⟨y263, hy263⟩ : ∃ y_ : List (S109), y_ = (x261000_2 ++ [(⟨3, (rd_T133 l0_1 x30_2).f0, (rd_T133 l0_1 x30_2).f1⟩ : S109)]) := ⟨_, rfl⟩
           replace H : (spec_CodeOfPlan.l0 k2 l0_1 (l0_1.length : Int) (wrap64 (x30_2 + 1)) y263 (rd l0_2 0)) = some (r1, r2, r3) := by first | (rw [hy263]; with_reducible exact H) | (have H2_ := (Option.bind_some _ _).symm.trans H; rw [hy263]; with_reducible exact H2_) | (have H2_ := (Option.bind_some _ _).symm.trans H; with_reducible exact H2_) | with_reducible exact H | (rw [hy263]; exact H) | exact H
           have Ny263 := zz hy263
           clear hy263
           have H' := zz H
           clear H
           have p261 : 0 ≤ (x30_2 : Int) := of_decide_eq_true (by first | (with_reducible assumption) | assumption)
           have q261 : x30_2 < (l0_1.length : Int) := of_decide_eq_true (by first | (with_reducible assumption) | assumption)
           obtain ⟨ad261, e261, hx261_0, hx261_1⟩ := at_T133 HR0_1.out x30_2 p261 q261
           cases e261
           replace hx261_0 := (HB.out.cell (jz w _ hx261_0)).trans hx261_0
           replace hx261_1 := (HB.out.cell (jz w _ hx261_1)).trans hx261_1
           replace p261 := eq_true p261
           replace q261 := eq_true q261
           go_wp2_with (first | ((with_reducible refine yk (N := 6) rfl ?_); (try (refine vv (by rfl) ?_; dsimp only)); refine yv ?hg (N := 6) ?hd (cs := #[.int .i64 0, .int .i64 0]) (t := 133) ?hr ?_; (case hd => rfl); (case hg => rfl); (case hr => first | (go_simp; done) | (go_simp; rfl)); intro gb262 hg w34 hbox hb; have n0_ := zz (vq (by (with_reducible repeat (first | apply jq | apply jj | apply jw)); exact HO_261000.out) hb); have n1_ := zz (qv (g := gb256) (o := .cells #[.int .i64 a0_0, .slice (some ad261) l0_1.length c0_1, .slice (some ad259) l0_2.length c0_2] 59 (0, 0)) (by (with_reducible repeat (first | refine qq ?_ _ | refine qj ?_ | refine qz ?_ _)); exact BK256.out) hb); have n2_ := zz (qv (g := gb257) (o := .cells #[.slice none 0 0, .int .i64 0] 32 (0, 0)) (by (with_reducible repeat (first | refine qq ?_ _ | refine qj ?_ | refine qz ?_ _)); exact BK257.out) hb); have n3_ := zz (qv (g := gb260) (o := .cells #[u261000, .int .i64 (rd l0_2 0)] 32 (0, 0)) (by (with_reducible repeat (first | refine qq ?_ _ | refine qj ?_ | refine qz ?_ _)); exact BK260.out) hb); have n4_ := zz (zk (by repeat (first | (with_reducible first | exact HB.out | apply zj | apply zq | apply zw | refine zx ?_ GE256.out | refine zx ?_ GE257.out | refine zx ?_ GE260.out) | exact HB.out)) hb); have n5_ := zz (hbox); have n6_ := zz ((by rw [hg]; exact (zv (by repeat (first | (with_reducible first | exact HB.out | apply zj | apply zq | apply zw | refine zx ?_ GE256.out | refine zx ?_ GE257.out | refine zx ?_ GE260.out) | exact HB.out))) : w.heap.size ≤ gb262)); have n7_ := zz ((by rw [hg]; exact (zv (by repeat (first | (with_reducible first | exact HB.out | apply zj | apply zq | apply zw | refine zx ?_ GE256.out | refine zx ?_ GE257.out | refine zx ?_ GE260.out) | exact HB.out))) : w.heap.size ≤ gb262)); have n8_ := zz ((by rw [hg]; exact Nat.ne_of_lt (blk_lt (g := gb256) (o := .cells #[.int .i64 a0_0, .slice (some ad261) l0_1.length c0_1, .slice (some ad259) l0_2.length c0_2] 59 (0, 0)) (by (with_reducible repeat (first | refine qq ?_ _ | refine qj ?_ | refine qz ?_ _)); exact BK256.out)) : gb256 ≠ gb262)); have n9_ := zz ((by rw [hg]; exact Nat.ne_of_gt (blk_lt (g := gb256) (o := .cells #[.int .i64 a0_0, .slice (some ad261) l0_1.length c0_1, .slice (some ad259) l0_2.length c0_2] 59 (0, 0)) (by (with_reducible repeat (first | refine qq ?_ _ | refine qj ?_ | refine qz ?_ _)); exact BK256.out)) : gb262 ≠ gb256)); have n10_ := zz ((by rw [hg]; exact Nat.ne_of_lt (blk_lt (g := gb257) (o := .cells #[.slice none 0 0, .int .i64 0] 32 (0, 0)) (by (with_reducible repeat (first | refine qq ?_ _ | refine qj ?_ | refine qz ?_ _)); exact BK257.out)) : gb257 ≠ gb262)); have n11_ := zz ((by rw [hg]; exact Nat.ne_of_gt (blk_lt (g := gb257) (o := .cells #[.slice none 0 0, .int .i64 0] 32 (0, 0)) (by (with_reducible repeat (first | refine qq ?_ _ | refine qj ?_ | refine qz ?_ _)); exact BK257.out)) : gb262 ≠ gb257)); have n12_ := zz ((by rw [hg]; exact Nat.ne_of_lt (blk_lt (g := gb260) (o := .cells #[u261000, .int .i64 (rd l0_2 0)] 32 (0, 0)) (by (with_reducible repeat (first | refine qq ?_ _ | refine qj ?_ | refine qz ?_ _)); exact BK260.out)) : gb260 ≠ gb262)); have n13_ := zz ((by rw [hg]; exact Nat.ne_of_gt (blk_lt (g := gb260) (o := .cells #[u261000, .int .i64 (rd l0_2 0)] 32 (0, 0)) (by (with_reducible repeat (first | refine qq ?_ _ | refine qj ?_ | refine qz ?_ _)); exact BK260.out)) : gb262 ≠ gb260)); clear HO_261000; clear BK256; clear BK257; clear BK260; clear HB; have HO_261000 := n0_; have BK256 := n1_; have BK257 := n2_; have BK260 := n3_; have HB := n4_; have BK262 := n5_; have GW262 := n6_; have GE262 := n7_; have NB256_262 := n8_; have NB262_256 := n9_; have NB257_262 := n10_; have NB262_257 := n11_; have NB260_262 := n12_; have NB262_260 := n13_; clear n0_ n1_ n2_ n3_ n4_ n5_ n6_ n7_ n8_ n9_ n10_ n11_ n12_ n13_; clear hb hbox hg; have hnb35 := NB262_256.out; have hnc35 := NB256_262.out; have hnb36 := NB262_257.out; have hnc36 := NB257_262.out; have hnb37 := NB262_260.out; have hnc37 := NB260_262.out; have hcz38_0 : w34.cell? ⟨gb262, 0, none⟩ = some (.int .i64 0) := (qw BK262.out 0).trans rfl; have hcz38_1 : w34.cell? ⟨gb262, 1, none⟩ = some (.int .i64 0) := (qw BK262.out 1).trans rfl; have hfz38_0 := qx BK262.out 0; have hfz38_1 := qx BK262.out 1; have hnb39 := NB260_256.out; have hnc39 := NB256_260.out; have hnb40 := NB260_257.out; have hnc40 := NB257_260.out; have hcz41_0 : w34.cell? ⟨gb260, 0, none⟩ = some (u261000) := (qw BK260.out 0).trans rfl; have hcz41_1 : w34.cell? ⟨gb260, 1, none⟩ = some (.int .i64 (rd l0_2 0)) := (qw BK260.out 1).trans rfl; have hfz41_0 := qx BK260.out 0; have hfz41_1 := qx BK260.out 1) | ((with_reducible refine gate_builtin (b := .append) (xs := #[.tmp 35, .tmp 41]) rfl ?_); (try (refine vv (by rfl) ?_; dsimp only)); at_builtin; refine Kd.R_append k109 (w0 := w) w.heap.size rfl (.tmp 35) (.tmp 41) 30 109 (.agg #[(.int .i64 0), (.int .i64 0), (.int .i64 0)]) 24 rfl Try.underlying30 info109 rfl (by decide) (by omega) u261000 x261000_2 (⟨3, (rd_T133 l0_1 x30_2).f0, (rd_T133 l0_1 x30_2).f1⟩ : S109) [.int .i64 3, .int .i64 ((rd_T133 l0_1 x30_2).f0), .int .i64 ((rd_T133 l0_1 x30_2).f1)] (fun _ => True) (fun _ => False) rfl (by first | (go_simp; done) | (go_simp; rfl)) ?aP (fun _ hk => hk.elim) ?aF ?aO ?aB ?aS ?aL ?_; (case aP => exact k109_mkM _ _ _ (⟨3, (rd_T133 l0_1 x30_2).f0, (rd_T133 l0_1 x30_2).f1⟩ : S109)); (case aB => exact (by repeat (first | (with_reducible first | exact HB.out | apply zj | apply zq | apply zw | refine zx ?_ GE256.out | refine zx ?_ GE257.out | refine zx ?_ GE260.out | refine zx ?_ GE262.out) | exact HB.out))); (case aF => exact (fun _ _ => trivial)); (case aO => exact (by (with_reducible repeat (first | apply jq | apply jj | apply jw)); exact vz (Kd.R_far (p := ⟨gb262, 1, none⟩) (Kd.R_far (p := ⟨gb262, 0, none⟩) (Kd.R_types HO_261000.out BK262.out (by decide)) (fun _ hk => hk.2) (.int .i64 ((rd_T133 l0_1 x30_2).f0))) (fun _ hk => hk.2) (.int .i64 ((rd_T133 l0_1 x30_2).f1))) (fun _ hk => trivial))); (case aS => exact (zv (by repeat (first | (with_reducible first | exact HB.out | apply zj | apply zq | apply zw | refine zx ?_ GE256.out | refine zx ?_ GE257.out | refine zx ?_ GE260.out | refine zx ?_ GE262.out) | exact HB.out)))); (case aL => have := LMc33.out; omega); intro v264 w42 ho hb hg hat; rw [← Ny263.out] at ho; have n0_ := zz (blk_grown (g := gb256) (o := .cells #[.int .i64 a0_0, .slice (some ad261) l0_1.length c0_1, .slice (some ad259) l0_2.length c0_2] 59 (0, 0)) (by (with_reducible repeat (first | refine qq ?_ _ | refine qj ?_ | refine qz ?_ _)); refine blk_far ?_ NB256_262.out _; (with_reducible repeat (first | refine qq ?_ _ | refine qj ?_ | refine qz ?_ _)); refine blk_far ?_ NB256_262.out _; (with_reducible repeat (first | refine qq ?_ _ | refine qj ?_ | refine qz ?_ _)); exact BK256.out) hg (Kd.R_ne HO_261000.out BK256.out (by decide))); have n1_ := zz (blk_grown (g := gb257) (o := .cells #[.slice none 0 0, .int .i64 0] 32 (0, 0)) (by (with_reducible repeat (first | refine qq ?_ _ | refine qj ?_ | refine qz ?_ _)); refine blk_far ?_ NB257_262.out _; (with_reducible repeat (first | refine qq ?_ _ | refine qj ?_ | refine qz ?_ _)); refine blk_far ?_ NB257_262.out _; (with_reducible repeat (first | refine qq ?_ _ | refine qj ?_ | refine qz ?_ _)); exact BK257.out) hg (Kd.R_ne HO_261000.out BK257.out (by decide))); have n2_ := zz (blk_grown (g := gb260) (o := .cells #[u261000, .int .i64 (rd l0_2 0)] 32 (0, 0)) (by (with_reducible repeat (first | refine qq ?_ _ | refine qj ?_ | refine qz ?_ _)); refine blk_far ?_ NB260_262.out _; (with_reducible repeat (first | refine qq ?_ _ | refine qj ?_ | refine qz ?_ _)); refine blk_far ?_ NB260_262.out _; (with_reducible repeat (first | refine qq ?_ _ | refine qj ?_ | refine qz ?_ _)); exact BK260.out) hg (Kd.R_ne HO_261000.out BK260.out (by decide))); have n3_ := zz (blk_grown (g := gb262) (o := .cells #[.int .i64 ((rd_T133 l0_1 x30_2).f0), .int .i64 ((rd_T133 l0_1 x30_2).f1)] 133 (0, 0)) (by (with_reducible repeat (first | refine qq ?_ _ | refine qj ?_ | refine qz ?_ _)); refine qk (cs := #[.int .i64 ((rd_T133 l0_1 x30_2).f0), .int .i64 0]) ?_ 1 _ rfl; (with_reducible repeat (first | refine qq ?_ _ | refine qj ?_ | refine qz ?_ _)); refine qk (cs := #[.int .i64 0, .int .i64 0]) ?_ 0 _ rfl; (with_reducible repeat (first | refine qq ?_ _ | refine qj ?_ | refine qz ?_ _)); exact BK262.out) hg (Kd.R_ne HO_261000.out BK262.out (by decide))); have n4_ := zz (hb); have n5_ := zz (ho); clear BK256; clear BK257; clear BK260; clear BK262; clear HB; clear HO_261000; have BK256 := n0_; have BK257 := n1_; have BK260 := n2_; have BK262 := n3_; have HB := n4_; have HO265 := n5_; clear n0_ n1_ n2_ n3_ n4_ n5_; clear ho hb hg hat; obtain ⟨Ao43, co43, eo43⟩ := vw HO265.out; subst eo43; have hcz44_0 : w42.cell? ⟨gb260, 0, none⟩ = some (u261000) := (qw BK260.out 0).trans rfl; have hcz44_1 : w42.cell? ⟨gb260, 1, none⟩ = some (.int .i64 (rd l0_2 0)) := (qw BK260.out 1).trans rfl; have hfz44_0 := qx BK260.out 0; have hfz44_1 := qx BK260.out 1))
           go_roundg k2
           case measure => have := HJ1.out; have := HK2.out; omega
           case rel => exact ⟨(wrap64 (x30_2 + 1)), (y263), (.slice Ao43 y263.length co43), (by first | rfl | (simp; done) | (simp [*]; done)), H', ⟨by have := HJ1.out; have := HK2.out; omega⟩, ⟨by (with_reducible repeat (first | apply jq | apply jj | apply jw)); exact vz (Kd.R_far (p := ⟨gb260, 0, none⟩) (Kd.R_types HO265.out BK260.out (by decide)) (fun _ hk => hk.2) (.slice Ao43 y263.length co43)) (fun _ hk => trivial)⟩, ⟨by (with_reducible repeat (first | refine qq ?_ _ | refine qj ?_ | refine qz ?_ _)); refine blk_far ?_ NB256_260.out _; (with_reducible repeat (first | refine qq ?_ _ | refine qj ?_ | refine qz ?_ _)); exact BK256.out⟩, ⟨by (with_reducible repeat (first | refine qq ?_ _ | refine qj ?_ | refine qz ?_ _)); refine blk_far ?_ NB257_260.out _; (with_reducible repeat (first | refine qq ?_ _ | refine qj ?_ | refine qz ?_ _)); exact BK257.out⟩, ⟨by (with_reducible repeat (first | refine qq ?_ _ | refine qj ?_ | refine qz ?_ _)); refine qk (cs := #[u261000, .int .i64 (rd l0_2 0)]) ?_ 0 _ rfl; (with_reducible repeat (first | refine qq ?_ _ | refine qj ?_ | refine qz ?_ _)); exact BK260.out⟩, ⟨by repeat (first | (with_reducible first | exact HB.out | apply zj | apply zq | apply zw | refine zx ?_ GE256.out | refine zx ?_ GE257.out | refine zx ?_ GE260.out | refine zx ?_ GE262.out) | exact HB.out)⟩⟩
          ·rw [if_neg c33] at H
           exact absurd H (by simp)
         ·rw [if_neg c32] at H
          exact absurd H (by simp)
        ·rw [if_neg c31] at H
         exact absurd H (by simp)
       ·rw [if_neg c30] at H
        have c30b0 : decide (x30_2 < (l0_1.length : Int)) = false := decide_eq_false c30
        clear c30
        replace H := Option.bind_eq_some_iff.mp H
        obtain ⟨⟨t266, t269, t270⟩, A450, H⟩ := H
        replace H : (some (t266, t269, t270)) = some (r1, r2, r3) := H
        have A45 := zz A450
        clear A450
        simp only [Option.some.injEq, Prod.mk.injEq] at H
        obtain ⟨rfl, rfl, rfl⟩ := H
        have hnb46 := NB260_256.out
        have hnc46 := NB256_260.out
        have hnb47 := NB260_257.out
        have hnc47 := NB257_260.out
        have hcz48_0 : wr.cell? ⟨gb260, 0, none⟩ = some (u261000) := (qw BK260.out 0).trans rfl
        have hcz48_1 : wr.cell? ⟨gb260, 1, none⟩ = some (.int .i64 (rd l0_2 0)) := (qw BK260.out 1).trans rfl
        have hfz48_0 := qx BK260.out 0
        have hfz48_1 := qx BK260.out 1
        obtain ⟨Ao49, co49, eo49⟩ := vw HO_261000.out
        subst eo49
        go_wp2_with (first | ((with_reducible refine yx (f := 105) rfl ?_); refine kz (some 46) rfl rfl Try.func105 (by kernel_rfl) rfl #[.agg #[.slice Ao49 x261000_2.length co49, .int .i64 (rd l0_2 0)]] rfl (by (try simp only [yq, List.map_cons, List.map_nil]); first | done | rfl | (simp only [yj, yw]; rfl)) ?_; (with_reducible refine (spec_poIf.calls k2 (fun k_ => some k_ = (.slice Ao49 x261000_2.length co49 : Value).ownBlock) (.slice Ao49 x261000_2.length co49) x261000_2 (rd l0_2 0) t266 t269 t270 w _ ?side1 ?side2 A45.out).mono ?_); (case side1 => repeat (first | (with_reducible first | exact HB.out | apply zj | apply zq | apply zw | refine zx ?_ GE256.out | refine zx ?_ GE257.out | refine zx ?_ GE260.out) | exact HB.out)); (case side2 => exact Kd.R_tight rfl HO_261000.out); rintro e w50 ⟨v267, rfl, ho0, hb, hkp⟩; refine ⟨_, rfl, ?_⟩; have n0_ := zz (blk_kept (by (with_reducible repeat (first | refine qq ?_ _ | refine qj ?_ | refine qz ?_ _)); exact BK256.out) hkp (fun hs_ => (fun e_ => (Kd.R_ne HO_261000.out BK256.out (by decide)) e_) hs_)); have n1_ := zz (blk_kept (by (with_reducible repeat (first | refine qq ?_ _ | refine qj ?_ | refine qz ?_ _)); exact BK257.out) hkp (fun hs_ => (fun e_ => (Kd.R_ne HO_261000.out BK257.out (by decide)) e_) hs_)); have n2_ := zz (blk_kept (by (with_reducible repeat (first | refine qq ?_ _ | refine qj ?_ | refine qz ?_ _)); exact BK260.out) hkp (fun hs_ => (fun e_ => (Kd.R_ne HO_261000.out BK260.out (by decide)) e_) hs_)); have n3_ := zz (vz (ok' := fun k_ => True) ho0 (fun k_ hk_ => trivial)); have n4_ := zz (hb); clear BK256; clear BK257; clear BK260; clear HB; clear HO_261000; have BK256 := n0_; have BK257 := n1_; have BK260 := n2_; have HO268 := n3_; have HB := n4_; clear n0_ n1_ n2_ n3_ n4_; (try clear hb); (try clear hkp); (try clear ho0); obtain ⟨Ao51, co51, eo51⟩ := vw HO268.out; subst eo51; have hnb52 := NB257_256.out; have hnc52 := NB256_257.out; have hcz53_0 : w50.cell? ⟨gb257, 0, none⟩ = some (.slice none 0 0) := (qw BK257.out 0).trans rfl; have hcz53_1 : w50.cell? ⟨gb257, 1, none⟩ = some (.int .i64 0) := (qw BK257.out 1).trans rfl; have hfz53_0 := qx BK257.out 0; have hfz53_1 := qx BK257.out 1))
        refine bodyPost_ret (results_ct rfl _ _ gb257 32 #[.slice Ao51 t266.length co51, .int .i64 t269] (0, 0) _ rfl (by (with_reducible repeat (first | refine qq ?_ _ | refine qj ?_ | refine qz ?_ _)); refine qk (cs := #[.slice Ao51 t266.length co51, .int .i64 0]) ?_ 1 _ rfl; (with_reducible repeat (first | refine qq ?_ _ | refine qj ?_ | refine qz ?_ _)); refine qk (cs := #[.slice none 0 0, .int .i64 0]) ?_ 0 _ rfl; (with_reducible repeat (first | refine qq ?_ _ | refine qj ?_ | refine qz ?_ _)); exact BK257.out) Try.underlying32 rfl (by kernel_rfl)) rfl ?_
        exact ⟨_, by first | rfl | (simp [errW_none, errW_some] <;> rfl) | (simp [*, errW_none, errW_some] <;> rfl), by (with_reducible repeat (first | apply jq | apply jj | apply jw)); exact vz (Kd.R_far (p := ⟨gb257, 1, none⟩) (Kd.R_far (p := ⟨gb257, 0, none⟩) (Kd.R_types HO268.out BK257.out (by decide)) (fun _ hk => hk.2) (.slice Ao51 t266.length co51)) (fun _ hk => hk.2) (.int .i64 t269)) (fun _ hk => trivial), by repeat (first | (with_reducible first | exact HB.out | apply zj | apply zq | apply zw | refine zx ?_ GE256.out | refine zx ?_ GE257.out | refine zx ?_ GE260.out) | exact HB.out)⟩
    ·rw [if_neg c22] at H
     exact absurd H (by simp)

/-! ### laws_toIntS: function 26 -/
def laws_toIntS.l0 : Nat → List Int → List Int → Int → Option (List Int)
 | 0, _, _, _ => none
 | k + 1, x0, x3, x4 => if x4 < (x0.length : Int) then (if 0 ≤ x4 then (if x4 < (x3.length : Int) then (laws_toIntS.l0 k x0 (x3.set (x4 : Int).toNat (rd x0 x4)) (wrap64 (x4 + 1))) else (none)) else (none)) else (some x3)
def laws_toIntS.f (k : Nat) (l0 : List Int) : Option (List Int) := if 0 ≤ (l0.length : Int) then (if ((l0.length : Int) : Int).toNat ≤ 35184372088832 then (laws_toIntS.l0 k l0 (List.replicate ((l0.length : Int) : Int).toNat 0) 0) else (none)) else (none)
theorem laws_toIntS.mono_l : ∀ k, (∀ y0 y1 y2, LeO (laws_toIntS.l0 k y0 y1 y2) (laws_toIntS.l0 (k + 1) y0 y1 y2))
 | 0 => fun _ _ _ r h => by simp [laws_toIntS.l0] at h
 | k + 1 => by
  have ih0 := laws_toIntS.mono_l k
  ·intro y0 y1 y2
   unfold laws_toIntS.l0
   repeat' first
   | (with_reducible exact ih0 _ _ _)
   | (with_reducible exact vk _)
   | (with_reducible exact LeO.none _)
   | (with_reducible refine LeO.ite ?_ ?_)
   | (with_reducible refine vx ?_ (fun _ => ?_))
   | exact ih0 _ _ _
   | exact LeO.none _
   | refine LeO.ite ?_ ?_
   | refine vx ?_ (fun _ => ?_)
theorem laws_toIntS.mono : ∀ a0 k, LeO (laws_toIntS.f k a0) (laws_toIntS.f (k + 1) a0) := by
 intro a0 k
 have ih0 := laws_toIntS.mono_l k
 unfold laws_toIntS.f
 repeat' first
   | (with_reducible exact ih0 _ _ _)
   | (with_reducible exact vk _)
   | (with_reducible exact LeO.none _)
   | (with_reducible refine LeO.ite ?_ ?_)
   | (with_reducible refine vx ?_ (fun _ => ?_))
   | exact ih0 _ _ _
   | exact LeO.none _
   | refine LeO.ite ?_ ?_
   | refine vx ?_ (fun _ => ?_)
set_option maxHeartbeats 8000000 in
set_option maxRecDepth 100000 in
theorem laws_toIntS.calls (k : Nat) (A0 : Option Addr) (c0 : Nat) (l0 : List Int) (r : List Int) (w : World) (hr0 : Kd.C (Kd.int .i64) w A0 l0.length l0) (hc0 : l0.length ≤ c0) (h : laws_toIntS.f k l0 = some r) :
  Calls Try.prog 26 #[.slice A0 l0.length c0] w fun e w' => ∃ v0_ : Value, e = .returned (v0_) ∧ Kd.R (Kd.int .i64) 3 w' w.heap.size (fun _ => True) v0_ r ∧ Below w.heap.size w w' := by
 have HR0 := zz hr0
 have HC0 := zz hc0
 clear hr0 hc0
 have HB := zz (Below.refl w.heap.size w)
 have H : (if 0 ≤ (l0.length : Int) then (if ((l0.length : Int) : Int).toNat ≤ 35184372088832 then (laws_toIntS.l0 k l0 (List.replicate ((l0.length : Int) : Int).toNat 0) 0) else (none)) else (none)) = some r := h
 clear h
 by_cases c2 : 0 ≤ (l0.length : Int)
 ·rw [if_pos c2] at H
  have c2b0 := eq_true c2
  have c2b1 : decide (0 ≤ (l0.length : Int)) = true := decide_eq_true c2
  clear c2
  by_cases c3 : ((l0.length : Int) : Int).toNat ≤ 35184372088832
  ·rw [if_pos c3] at H
   have c3b0 := eq_true c3
   have c3b1 : decide (((l0.length : Int) : Int).toNat ≤ 35184372088832) = true := decide_eq_true c3
   clear c3
   obtain ⟨y271, hy271⟩ : ∃ y_ : List Int, y_ = (List.replicate ((l0.length : Int) : Int).toNat 0) := ⟨_, rfl⟩
   replace H : (laws_toIntS.l0 k l0 y271 0) = some r := by first | (rw [hy271]; with_reducible exact H) | (have H2_ := (Option.bind_some _ _).symm.trans H; rw [hy271]; with_reducible exact H2_) | (have H2_ := (Option.bind_some _ _).symm.trans H; with_reducible exact H2_) | with_reducible exact H | (rw [hy271]; exact H) | exact H
   have Ny271 := zz hy271
   clear hy271
   have H' := zz H
   clear H
   go_enter Try.func26, Try.ntmps26
   go_wp2_with (first | ((with_reducible refine yk (N := 7) rfl ?_); refine Kd.R_make (Kd.int .i64) _ 3 rfl (N := 7) rfl 29 _ _ rfl (l0.length : Int) rfl rfl Try.underlying29 (.int .i64 0) 8 info3 rfl (by decide) (by omega) 0 (ok := fun _ => True) (okp := fun _ => True) rfl (fun _ hk => hk) trivial (of_decide_eq_true (by first | (with_reducible assumption) | assumption)) (Nat.le_trans (Nat.mul_le_mul_right _ (of_decide_eq_true (by first | (with_reducible assumption) | assumption) : (l0.length : Int).toNat ≤ 35184372088832)) (by omega)) (Below.refl _ _) (Nat.le_refl _) ?_; intro v272 w4 ho5 hb hg_ hnew_; clear hg_ hnew_; (first | rw [← Ny271.out] at ho5 | (simp only [Int.reduceToNat] at ho5; rw [← Ny271.out] at ho5)); have n0_ := zz (Kd.R_lower ho5 (zv (by repeat (first | (with_reducible first | exact HB.out | apply zj | apply zq | apply zw) | exact HB.out)))); have n1_ := zz (zk (by repeat (first | (with_reducible first | exact HB.out | apply zj | apply zq | apply zw) | exact HB.out)) hb); clear HB; have HO273 := n0_; have HB := n1_; clear n0_ n1_; clear hb ho5))
   go_loopg [4] k (fun kq v4 w' => ∃ (x3_1 : List Int) (x4_1 : Int), v4 = .int .i64 x4_1 ∧ Aside0 (laws_toIntS.l0 kq l0 x3_1 x4_1 = some r) ∧ Aside0 (kq ≤ k) ∧ Aside0 (Kd.R (Kd.int .i64) 3 w' w.heap.size (fun _ => True) v272 x3_1) ∧ Aside0 (Below w.heap.size w w'))
   case atStart => exact ⟨(y271), (0), (by first | rfl | (simp; done) | (simp [*]; done)), H', ⟨Nat.le_refl _⟩, ⟨by (with_reducible repeat (first | apply jq | apply jj | apply jw)); exact HO273.out⟩, ⟨by repeat (first | (with_reducible first | exact HB.out | apply zj | apply zq | apply zw) | exact HB.out)⟩⟩
   case round =>
    clear H'
    try clear c2
    try clear c2b0
    try clear c2b1
    try clear p2
    try clear c3
    try clear c3b0
    try clear c3b1
    obtain ⟨x3_1, x4_1, rfl, HA, HK1, HO_3, HB⟩ := hrel
    cases gk with
    | zero => exact absurd HA.out (by simp [laws_toIntS.l0])
    | succ k1 =>
     have H := HA.out
     clear HA
     simp only [laws_toIntS.l0] at H
     by_cases c6 : x4_1 < (l0.length : Int)
     ·rw [if_pos c6] at H
      have c6b0 : decide (x4_1 < (l0.length : Int)) = true := decide_eq_true c6
      clear c6
      by_cases c7 : 0 ≤ x4_1
      ·rw [if_pos c7] at H
       have c7b0 : decide (0 ≤ x4_1) = true := decide_eq_true c7
       clear c7
       by_cases c8 : x4_1 < (x3_1.length : Int)
       ·rw [if_pos c8] at H
        have c8b0 : decide (x4_1 < (x3_1.length : Int)) = true := decide_eq_true c8
        clear c8
        obtain ⟨y275, hy275⟩ : ∃ y_ : List Int, y_ = (x3_1.set (x4_1 : Int).toNat (rd l0 x4_1)) := ⟨_, rfl⟩
        replace H : (laws_toIntS.l0 k1 l0 y275 (wrap64 (x4_1 + 1))) = some r := by first | (rw [hy275]; with_reducible exact H) | (have H2_ := (Option.bind_some _ _).symm.trans H; rw [hy275]; with_reducible exact H2_) | (have H2_ := (Option.bind_some _ _).symm.trans H; with_reducible exact H2_) | with_reducible exact H | (rw [hy275]; exact H) | exact H
        have Ny275 := zz hy275
        clear hy275
        have H' := zz H
        clear H
        have p274 : 0 ≤ (x4_1 : Int) := of_decide_eq_true (by first | (with_reducible assumption) | assumption)
        have q274 : x4_1 < (l0.length : Int) := of_decide_eq_true (by first | (with_reducible assumption) | assumption)
        obtain ⟨ad274, e274, hx274_0⟩ := Kd.at_int HR0.out x4_1 p274 q274
        cases e274
        replace hx274_0 := (HB.out.cell (jz w _ hx274_0)).trans hx274_0
        replace p274 := eq_true p274
        replace q274 := eq_true q274
        have p9 : 0 ≤ (x4_1 : Int) := of_decide_eq_true (by first | (with_reducible assumption) | assumption)
        have q9 : (x4_1 : Int) < ((x3_1.length : Int) : Int) := of_decide_eq_true (by first | (with_reducible assumption) | assumption)
        obtain ⟨go9, co9, eo9, gb9, gl9, cl9, HG9⟩ := Kd.R_form HO_3.out (by omega)
        (first | cases eo9 | (injection eo9 with ea_ en_ ec_; (first | subst ea_ | (injection ea_ with ea_; subst ea_)); subst ec_; clear en_))
        have GB9 := zz gb9
        have GG9 := zz HG9
        clear gb9 gl9 HG9
        obtain ⟨hx9_0, hf9_0⟩ := Kd.R_celln 0 HO_3.out (x4_1 : Int) p9 q9
        replace p9 := eq_true p9
        replace q9 := eq_true q9
        have HP10 := Kd.R_putg HO_3.out (x4_1 : Int) (rd l0 x4_1)
        go_wp2_with (first | ((with_reducible refine gate_store (t := 3) (p := 20) rfl ?_); refine store_event (t := 3) (p := 20) (v := ?vo_w11) (w1 := (wr.setCell ⟨go9, (x4_1 : Int).toNat, none⟩ (.int .i64 (rd l0 x4_1)))) ?hg ?ho ?hn ?hr ?_; (case ho => rfl); (case hg => rfl); (case hn => rfl); (case hr => first | (go_simp; done) | (go_simp; rfl)); intro w11 hw; have hg : wr.grownBy w11 (some go9) := (by rw [hw]; exact HP10.2); have hp_ : Kd.R (Kd.int .i64) 3 w11 w.heap.size (fun _ => True) (.slice (some ⟨go9, 0, none⟩) x3_1.length co9) y275 := (by rw [hw, Ny275.out]; exact HP10.1); clear HP10; have n0_ := zz (hp_); have n1_ := zz ((by rw [hw]; exact zx (HB.out) GB9.out : Below w.heap.size w w11)); clear HO_3; clear HB; have HO_3 := n0_; have HB := n1_; clear n0_ n1_; clear hg hw hp_))
        go_roundg k1
        case measure => have := HK1.out; omega
        case rel => exact ⟨(y275), (wrap64 (x4_1 + 1)), (by first | rfl | (simp; done) | (simp [*]; done)), H', ⟨by have := HK1.out; omega⟩, ⟨by (with_reducible repeat (first | apply jq | apply jj | apply jw)); exact HO_3.out⟩, ⟨by repeat (first | (with_reducible first | exact HB.out | apply zj | apply zq | apply zw) | exact HB.out)⟩⟩
       ·rw [if_neg c8] at H
        exact absurd H (by simp)
      ·rw [if_neg c7] at H
       exact absurd H (by simp)
     ·rw [if_neg c6] at H
      have c6b0 : decide (x4_1 < (l0.length : Int)) = false := decide_eq_false c6
      clear c6
      obtain rfl := Option.some.inj H
      go_wp2
      go_ret
      exact ⟨_, by first | rfl | (simp [errW_none, errW_some] <;> rfl) | (simp [*, errW_none, errW_some] <;> rfl), by (with_reducible repeat (first | apply jq | apply jj | apply jw)); exact HO_3.out, by repeat (first | (with_reducible first | exact HB.out | apply zj | apply zq | apply zw) | exact HB.out)⟩
  ·rw [if_neg c3] at H
   exact absurd H (by simp)
 ·rw [if_neg c2] at H
  exact absurd H (by simp)

/-! ### laws_toStep: function 199 -/
def laws_toStep.f (a0_0 : Int) (a0_1 : Int) : Option (Int × Int) := some (a0_0, a0_1)
set_option maxHeartbeats 8000000 in
set_option maxRecDepth 100000 in
theorem laws_toStep.calls (a0_0 : Int) (a0_1 : Int) (r1 : Int) (r2 : Int) (w : World) (h : laws_toStep.f a0_0 a0_1 = some (r1, r2)) :
  Calls Try.prog 199 #[.agg #[.int .i64 a0_0, .int .i64 a0_1]] w fun e w' => e = .returned (.agg #[.int .i64 r1, .int .i64 r2]) ∧ Below w.heap.size w w' := by
 have hu170 := Try.underlying170
 have hu133 := Try.underlying133
 have HB := zz (Below.refl w.heap.size w)
 have H : (some (a0_0, a0_1)) = some (r1, r2) := h
 clear h
 simp only [Option.some.injEq, Prod.mk.injEq] at H
 obtain ⟨rfl, rfl⟩ := H
 go_enter Try.func199, Try.ntmps199
 go_wp2_with (first | ((with_reducible refine yk (N := 1) rfl ?_); refine yv ?hg (N := 1) ?hd (cs := #[.int .i64 a0_0, .int .i64 a0_1]) (t := 170) ?hr ?_; (case hd => rfl); (case hg => rfl); (case hr => first | (go_simp; done) | (go_simp; rfl)); intro gb276 hg w2 hbox hb; have n0_ := zz (zk (by repeat (first | (with_reducible first | exact HB.out | apply zj | apply zq | apply zw) | exact HB.out)) hb); have n1_ := zz (hbox); have n2_ := zz ((by rw [hg]; exact (zv (by repeat (first | (with_reducible first | exact HB.out | apply zj | apply zq | apply zw) | exact HB.out))) : w.heap.size ≤ gb276)); have n3_ := zz ((by rw [hg]; exact (zv (by repeat (first | (with_reducible first | exact HB.out | apply zj | apply zq | apply zw) | exact HB.out))) : w.heap.size ≤ gb276)); clear HB; have HB := n0_; have BK276 := n1_; have GW276 := n2_; have GE276 := n3_; clear n0_ n1_ n2_ n3_; clear hb hbox hg) | ((with_reducible refine yk (N := 2) rfl ?_); refine yv ?hg (N := 2) ?hd (cs := #[.int .i64 0, .int .i64 0]) (t := 133) ?hr ?_; (case hd => rfl); (case hg => rfl); (case hr => first | (go_simp; done) | (go_simp; rfl)); intro gb277 hg w3 hbox hb; have n0_ := zz (qv (g := gb276) (o := .cells #[.int .i64 a0_0, .int .i64 a0_1] 170 (0, 0)) (by (with_reducible repeat (first | refine qq ?_ _ | refine qj ?_ | refine qz ?_ _)); exact BK276.out) hb); have n1_ := zz (zk (by repeat (first | (with_reducible first | exact HB.out | apply zj | apply zq | apply zw | refine zx ?_ GE276.out) | exact HB.out)) hb); have n2_ := zz (hbox); have n3_ := zz ((by rw [hg]; exact (zv (by repeat (first | (with_reducible first | exact HB.out | apply zj | apply zq | apply zw | refine zx ?_ GE276.out) | exact HB.out))) : w.heap.size ≤ gb277)); have n4_ := zz ((by rw [hg]; exact (zv (by repeat (first | (with_reducible first | exact HB.out | apply zj | apply zq | apply zw | refine zx ?_ GE276.out) | exact HB.out))) : w.heap.size ≤ gb277)); have n5_ := zz ((by rw [hg]; exact Nat.ne_of_lt (blk_lt (g := gb276) (o := .cells #[.int .i64 a0_0, .int .i64 a0_1] 170 (0, 0)) (by (with_reducible repeat (first | refine qq ?_ _ | refine qj ?_ | refine qz ?_ _)); exact BK276.out)) : gb276 ≠ gb277)); have n6_ := zz ((by rw [hg]; exact Nat.ne_of_gt (blk_lt (g := gb276) (o := .cells #[.int .i64 a0_0, .int .i64 a0_1] 170 (0, 0)) (by (with_reducible repeat (first | refine qq ?_ _ | refine qj ?_ | refine qz ?_ _)); exact BK276.out)) : gb277 ≠ gb276)); clear BK276; clear HB; have BK276 := n0_; have HB := n1_; have BK277 := n2_; have GW277 := n3_; have GE277 := n4_; have NB276_277 := n5_; have NB277_276 := n6_; clear n0_ n1_ n2_ n3_ n4_ n5_ n6_; clear hb hbox hg) | ((with_reducible refine yk (N := 3) rfl ?_); refine yv ?hg (N := 3) ?hd (cs := #[.int .i64 0, .int .i64 0]) (t := 133) ?hr ?_; (case hd => rfl); (case hg => rfl); (case hr => first | (go_simp; done) | (go_simp; rfl)); intro gb278 hg w4 hbox hb; have n0_ := zz (qv (g := gb276) (o := .cells #[.int .i64 a0_0, .int .i64 a0_1] 170 (0, 0)) (by (with_reducible repeat (first | refine qq ?_ _ | refine qj ?_ | refine qz ?_ _)); exact BK276.out) hb); have n1_ := zz (qv (g := gb277) (o := .cells #[.int .i64 0, .int .i64 0] 133 (0, 0)) (by (with_reducible repeat (first | refine qq ?_ _ | refine qj ?_ | refine qz ?_ _)); exact BK277.out) hb); have n2_ := zz (zk (by repeat (first | (with_reducible first | exact HB.out | apply zj | apply zq | apply zw | refine zx ?_ GE276.out | refine zx ?_ GE277.out) | exact HB.out)) hb); have n3_ := zz (hbox); have n4_ := zz ((by rw [hg]; exact (zv (by repeat (first | (with_reducible first | exact HB.out | apply zj | apply zq | apply zw | refine zx ?_ GE276.out | refine zx ?_ GE277.out) | exact HB.out))) : w.heap.size ≤ gb278)); have n5_ := zz ((by rw [hg]; exact (zv (by repeat (first | (with_reducible first | exact HB.out | apply zj | apply zq | apply zw | refine zx ?_ GE276.out | refine zx ?_ GE277.out) | exact HB.out))) : w.heap.size ≤ gb278)); have n6_ := zz ((by rw [hg]; exact Nat.ne_of_lt (blk_lt (g := gb276) (o := .cells #[.int .i64 a0_0, .int .i64 a0_1] 170 (0, 0)) (by (with_reducible repeat (first | refine qq ?_ _ | refine qj ?_ | refine qz ?_ _)); exact BK276.out)) : gb276 ≠ gb278)); have n7_ := zz ((by rw [hg]; exact Nat.ne_of_gt (blk_lt (g := gb276) (o := .cells #[.int .i64 a0_0, .int .i64 a0_1] 170 (0, 0)) (by (with_reducible repeat (first | refine qq ?_ _ | refine qj ?_ | refine qz ?_ _)); exact BK276.out)) : gb278 ≠ gb276)); have n8_ := zz ((by rw [hg]; exact Nat.ne_of_lt (blk_lt (g := gb277) (o := .cells #[.int .i64 0, .int .i64 0] 133 (0, 0)) (by (with_reducible repeat (first | refine qq ?_ _ | refine qj ?_ | refine qz ?_ _)); exact BK277.out)) : gb277 ≠ gb278)); have n9_ := zz ((by rw [hg]; exact Nat.ne_of_gt (blk_lt (g := gb277) (o := .cells #[.int .i64 0, .int .i64 0] 133 (0, 0)) (by (with_reducible repeat (first | refine qq ?_ _ | refine qj ?_ | refine qz ?_ _)); exact BK277.out)) : gb278 ≠ gb277)); clear BK276; clear BK277; clear HB; have BK276 := n0_; have BK277 := n1_; have HB := n2_; have BK278 := n3_; have GW278 := n4_; have GE278 := n5_; have NB276_278 := n6_; have NB278_276 := n7_; have NB277_278 := n8_; have NB278_277 := n9_; clear n0_ n1_ n2_ n3_ n4_ n5_ n6_ n7_ n8_ n9_; clear hb hbox hg; have hnb5 := NB276_277.out; have hnc5 := NB277_276.out; have hnb6 := NB276_278.out; have hnc6 := NB278_276.out; have hcz7_0 : w4.cell? ⟨gb276, 0, none⟩ = some (.int .i64 a0_0) := (qw BK276.out 0).trans rfl; have hcz7_1 : w4.cell? ⟨gb276, 1, none⟩ = some (.int .i64 a0_1) := (qw BK276.out 1).trans rfl; have hfz7_0 := qx BK276.out 0; have hfz7_1 := qx BK276.out 1; have hnb8 := NB278_277.out; have hnc8 := NB277_278.out; have hcz9_0 : w4.cell? ⟨gb278, 0, none⟩ = some (.int .i64 0) := (qw BK278.out 0).trans rfl; have hcz9_1 : w4.cell? ⟨gb278, 1, none⟩ = some (.int .i64 0) := (qw BK278.out 1).trans rfl; have hfz9_0 := qx BK278.out 0; have hfz9_1 := qx BK278.out 1; have hcz10_0 : w4.cell? ⟨gb277, 0, none⟩ = some (.int .i64 0) := (qw BK277.out 0).trans rfl; have hcz10_1 : w4.cell? ⟨gb277, 1, none⟩ = some (.int .i64 0) := (qw BK277.out 1).trans rfl; have hfz10_0 := qx BK277.out 0; have hfz10_1 := qx BK277.out 1))
 refine bodyPost_ret (results_cell_row rfl _ _ gb277 133 #[.int .i64 a0_0, .int .i64 a0_1] (0, 0) _ rfl (by (with_reducible repeat (first | refine qq ?_ _ | refine qj ?_ | refine qz ?_ _)); refine qk (cs := #[.int .i64 a0_0, .int .i64 0]) ?_ 1 _ rfl; (with_reducible repeat (first | refine qq ?_ _ | refine qj ?_ | refine qz ?_ _)); refine qk (cs := #[.int .i64 0, .int .i64 0]) ?_ 0 _ rfl; (with_reducible repeat (first | refine qq ?_ _ | refine qj ?_ | refine qz ?_ _)); refine blk_far ?_ NB277_278.out _; (with_reducible repeat (first | refine qq ?_ _ | refine qj ?_ | refine qz ?_ _)); refine blk_far ?_ NB277_278.out _; (with_reducible repeat (first | refine qq ?_ _ | refine qj ?_ | refine qz ?_ _)); exact BK277.out) Try.underlying133 rfl (by kernel_rfl)) rfl ?_
 exact ⟨by first | rfl | (simp [errW_none, errW_some] <;> rfl) | (simp [*, errW_none, errW_some] <;> rfl), by repeat (first | (with_reducible first | exact HB.out | apply zj | apply zq | apply zw | refine zx ?_ GE276.out | refine zx ?_ GE277.out | refine zx ?_ GE278.out) | exact HB.out)⟩

/-! ### laws_toStepS: function 123 -/
def laws_toStepS.l0 : Nat → List (S170) → List (S133) → Int → Option ((List (S133)))
 | 0, _, _, _ => none
 | k + 1, x0, x3, x4 => if x4 < (x0.length : Int) then (if 0 ≤ x4 then ((laws_toStep.f ((rd_T170 x0 x4).f0) ((rd_T170 x0 x4).f1)).bind fun bt283 => (if x4 < (x3.length : Int) then (laws_toStepS.l0 k x0 (x3.set (x4 : Int).toNat (⟨bt283.1, bt283.2⟩ : S133)) (wrap64 (x4 + 1))) else (none))) else (none)) else (some x3)
def laws_toStepS.f (k : Nat) (l0 : List (S170)) : Option ((List (S133))) := if 0 ≤ (l0.length : Int) then (if ((l0.length : Int) : Int).toNat ≤ 17592186044416 then (laws_toStepS.l0 k l0 (List.replicate ((l0.length : Int) : Int).toNat z133) 0) else (none)) else (none)
theorem laws_toStepS.mono_l : ∀ k, (∀ y0 y1 y2, LeO (laws_toStepS.l0 k y0 y1 y2) (laws_toStepS.l0 (k + 1) y0 y1 y2))
 | 0 => fun _ _ _ r h => by simp [laws_toStepS.l0] at h
 | k + 1 => by
  have ih0 := laws_toStepS.mono_l k
  ·intro y0 y1 y2
   unfold laws_toStepS.l0
   repeat' first
   | (with_reducible exact ih0 _ _ _)
   | (with_reducible exact vk _)
   | (with_reducible exact LeO.none _)
   | (with_reducible refine LeO.ite ?_ ?_)
   | (with_reducible refine vx ?_ (fun _ => ?_))
   | exact ih0 _ _ _
   | exact LeO.none _
   | refine LeO.ite ?_ ?_
   | refine vx ?_ (fun _ => ?_)
theorem laws_toStepS.mono : ∀ a0 k, LeO (laws_toStepS.f k a0) (laws_toStepS.f (k + 1) a0) := by
 intro a0 k
 have ih0 := laws_toStepS.mono_l k
 unfold laws_toStepS.f
 repeat' first
   | (with_reducible exact ih0 _ _ _)
   | (with_reducible exact vk _)
   | (with_reducible exact LeO.none _)
   | (with_reducible refine LeO.ite ?_ ?_)
   | (with_reducible refine vx ?_ (fun _ => ?_))
   | exact ih0 _ _ _
   | exact LeO.none _
   | refine LeO.ite ?_ ?_
   | refine vx ?_ (fun _ => ?_)
set_option maxHeartbeats 8000000 in
set_option maxRecDepth 100000 in
theorem laws_toStepS.calls (k : Nat) (A0 : Option Addr) (c0 : Nat) (l0 : List (S170)) (r : List (S133)) (w : World) (hr0 : Kd.C k170 w A0 l0.length l0) (hc0 : l0.length ≤ c0) (h : laws_toStepS.f k l0 = some r) :
  Calls Try.prog 123 #[.slice A0 l0.length c0] w fun e w' => ∃ v0_ : Value, e = .returned (v0_) ∧ Kd.R k133 133 w' w.heap.size (fun _ => True) v0_ r ∧ Below w.heap.size w w' := by
 have hu170 := Try.underlying170
 have hu133 := Try.underlying133
 have HR0 := zz hr0
 have HC0 := zz hc0
 clear hr0 hc0
 have HB := zz (Below.refl w.heap.size w)
 have H : (if 0 ≤ (l0.length : Int) then (if ((l0.length : Int) : Int).toNat ≤ 17592186044416 then (laws_toStepS.l0 k l0 (List.replicate ((l0.length : Int) : Int).toNat z133) 0) else (none)) else (none)) = some r := h
 clear h
 by_cases c2 : 0 ≤ (l0.length : Int)
 ·rw [if_pos c2] at H
  have c2b0 := eq_true c2
  have c2b1 : decide (0 ≤ (l0.length : Int)) = true := decide_eq_true c2
  clear c2
  by_cases c3 : ((l0.length : Int) : Int).toNat ≤ 17592186044416
  ·rw [if_pos c3] at H
   have c3b0 := eq_true c3
   have c3b1 : decide (((l0.length : Int) : Int).toNat ≤ 17592186044416) = true := decide_eq_true c3
   clear c3
   obtain ⟨y279, hy279⟩ : ∃ y_ : List (S133), y_ = (List.replicate ((l0.length : Int) : Int).toNat z133) := ⟨_, rfl⟩
   replace H : (laws_toStepS.l0 k l0 y279 0) = some r := by first | (rw [hy279]; with_reducible exact H) | (have H2_ := (Option.bind_some _ _).symm.trans H; rw [hy279]; with_reducible exact H2_) | (have H2_ := (Option.bind_some _ _).symm.trans H; with_reducible exact H2_) | with_reducible exact H | (rw [hy279]; exact H) | exact H
   have Ny279 := zz hy279
   clear hy279
   have H' := zz H
   clear H
   go_enter Try.func123, Try.ntmps123
   go_wp2_with (first | ((with_reducible refine yk (N := 7) rfl ?_); refine Kd.R_make k133 _ 133 rfl (N := 7) rfl 57 _ _ rfl (l0.length : Int) rfl rfl Try.underlying57 (.agg #[(.int .i64 0), (.int .i64 0)]) 16 info133 rfl (by decide) (by omega) z133 (ok := fun _ => True) (okp := fun _ => True) (k133_mkM _ _ _ z133 ) (fun _ hk => hk) trivial (of_decide_eq_true (by first | (with_reducible assumption) | assumption)) (Nat.le_trans (Nat.mul_le_mul_right _ (of_decide_eq_true (by first | (with_reducible assumption) | assumption) : (l0.length : Int).toNat ≤ 17592186044416)) (by omega)) (Below.refl _ _) (Nat.le_refl _) ?_; intro v280 w4 ho5 hb hg_ hnew_; clear hg_ hnew_; (first | rw [← Ny279.out] at ho5 | (simp only [Int.reduceToNat] at ho5; rw [← Ny279.out] at ho5)); have n0_ := zz (Kd.R_lower ho5 (zv (by repeat (first | (with_reducible first | exact HB.out | apply zj | apply zq | apply zw) | exact HB.out)))); have n1_ := zz (zk (by repeat (first | (with_reducible first | exact HB.out | apply zj | apply zq | apply zw) | exact HB.out)) hb); clear HB; have HO281 := n0_; have HB := n1_; clear n0_ n1_; clear hb ho5))
   go_loopg [4] k (fun kq v4 w' => ∃ (x3_1 : List (S133)) (x4_1 : Int), v4 = .int .i64 x4_1 ∧ Aside0 (laws_toStepS.l0 kq l0 x3_1 x4_1 = some r) ∧ Aside0 (kq ≤ k) ∧ Aside0 (Kd.R k133 133 w' w.heap.size (fun _ => True) v280 x3_1) ∧ Aside0 (Below w.heap.size w w'))
   case atStart => exact ⟨(y279), (0), (by first | rfl | (simp; done) | (simp [*]; done)), H', ⟨Nat.le_refl _⟩, ⟨by (with_reducible repeat (first | apply jq | apply jj | apply jw)); exact HO281.out⟩, ⟨by repeat (first | (with_reducible first | exact HB.out | apply zj | apply zq | apply zw) | exact HB.out)⟩⟩
   case round =>
    clear H'
    try clear c1
    try clear c2
    try clear c2b0
    try clear c2b1
    try clear p2
    try clear c3
    try clear c3b0
    try clear c3b1
    obtain ⟨x3_1, x4_1, rfl, HA, HK1, HO_3, HB⟩ := hrel
    cases gk with
    | zero => exact absurd HA.out (by simp [laws_toStepS.l0])
    | succ k1 =>
     have H := HA.out
     clear HA
     simp only [laws_toStepS.l0] at H
     by_cases c6 : x4_1 < (l0.length : Int)
     ·rw [if_pos c6] at H
      have c6b0 : decide (x4_1 < (l0.length : Int)) = true := decide_eq_true c6
      clear c6
      by_cases c7 : 0 ≤ x4_1
      ·rw [if_pos c7] at H
       have c7b0 : decide (0 ≤ x4_1) = true := decide_eq_true c7
       clear c7
       replace H := Option.bind_eq_some_iff.mp H
       obtain ⟨⟨t283, t284⟩, A80, H⟩ := H
       replace H : (if x4_1 < (x3_1.length : Int) then (laws_toStepS.l0 k1 l0 (x3_1.set (x4_1 : Int).toNat (⟨t283, t284⟩ : S133)) (wrap64 (x4_1 + 1))) else (none)) = some r := H
       have A8 := zz A80
       clear A80
       by_cases c9 : x4_1 < (x3_1.length : Int)
       ·rw [if_pos c9] at H
        have c9b0 : decide (x4_1 < (x3_1.length : Int)) = true := decide_eq_true c9
        clear c9
        obtain ⟨y285, hy285⟩ : ∃ y_ : List (S133), y_ = (x3_1.set (x4_1 : Int).toNat (⟨t283, t284⟩ : S133)) := ⟨_, rfl⟩
        replace H : (laws_toStepS.l0 k1 l0 y285 (wrap64 (x4_1 + 1))) = some r := by first | (rw [hy285]; with_reducible exact H) | (have H2_ := (Option.bind_some _ _).symm.trans H; rw [hy285]; with_reducible exact H2_) | (have H2_ := (Option.bind_some _ _).symm.trans H; with_reducible exact H2_) | with_reducible exact H | (rw [hy285]; exact H) | exact H
        have Ny285 := zz hy285
        clear hy285
        have H' := zz H
        clear H
        have p282 : 0 ≤ (x4_1 : Int) := of_decide_eq_true (by first | (with_reducible assumption) | assumption)
        have q282 : x4_1 < (l0.length : Int) := of_decide_eq_true (by first | (with_reducible assumption) | assumption)
        obtain ⟨ad282, e282, hx282_0, hx282_1⟩ := at_T170 HR0.out x4_1 p282 q282
        cases e282
        replace hx282_0 := (HB.out.cell (jz w _ hx282_0)).trans hx282_0
        replace hx282_1 := (HB.out.cell (jz w _ hx282_1)).trans hx282_1
        replace p282 := eq_true p282
        replace q282 := eq_true q282
        go_wp2_with (first | ((with_reducible refine yx (f := 199) rfl ?_); refine kz (some 20) rfl rfl Try.func199 (by kernel_rfl) rfl #[.agg #[.int .i64 ((rd_T170 l0 x4_1).f0), .int .i64 ((rd_T170 l0 x4_1).f1)]] rfl (by (try simp only [yq, List.map_cons, List.map_nil]); first | done | rfl | (simp only [yj, yw]; rfl)) ?_; (with_reducible refine (laws_toStep.calls ((rd_T170 l0 x4_1).f0) ((rd_T170 l0 x4_1).f1) t283 t284 _ A8.out).mono ?_); rintro e w11 ⟨rfl, hb⟩; refine ⟨_, rfl, ?_⟩; have n0_ := zz (vq (by (with_reducible repeat (first | apply jq | apply jj | apply jw)); exact HO_3.out) hb); have n1_ := zz (zk (by repeat (first | (with_reducible first | exact HB.out | apply zj | apply zq | apply zw) | exact HB.out)) hb); clear HO_3; clear HB; have HO_3 := n0_; have HB := n1_; clear n0_ n1_; (try clear hb); (try clear hb2); (try clear hk); (try clear hi); have p10 : 0 ≤ (x4_1 : Int) := of_decide_eq_true (by first | (with_reducible assumption) | assumption); have q10 : (x4_1 : Int) < ((x3_1.length : Int) : Int) := of_decide_eq_true (by first | (with_reducible assumption) | assumption); obtain ⟨go10, co10, eo10, gb10, gl10, cl10, HG10⟩ := Kd.R_form HO_3.out (by omega); (first | cases eo10 | (injection eo10 with ea_ en_ ec_; (first | subst ea_ | (injection ea_ with ea_; subst ea_)); subst ec_; clear en_)); have GB10 := zz gb10; have GG10 := zz HG10; clear gb10 gl10 HG10; obtain ⟨ce10, hcl10, hM10, hcc10, hfr10⟩ := Kd.R_elem HO_3.out z133 (x4_1 : Int) p10 q10; obtain rfl := k133_openM hM10; have hx10_0 : w11.cell? ⟨go10, (x4_1 : Int).toNat * 2, none⟩ = some (.int .i64 ((rd_T133 x3_1 x4_1).f0)) := hcc10 0 _ rfl; have hx10_1 : w11.cell? ⟨go10, (x4_1 : Int).toNat * 2 + 1, none⟩ = some (.int .i64 ((rd_T133 x3_1 x4_1).f1)) := hcc10 1 _ rfl; have hf10_0 : w11.frozen? ⟨go10, (x4_1 : Int).toNat * 2, none⟩ = false := hfr10 0; have hf10_1 : w11.frozen? ⟨go10, (x4_1 : Int).toNat * 2 + 1, none⟩ = false := hfr10 1; clear hcl10 hcc10 hfr10 hM10; replace p10 := eq_true p10; replace q10 := eq_true q10; have HX12 := zz (show Kd.R k133 133 w11 w.heap.size (fun _ => True) (.slice (some ⟨go10, 0, none⟩) x3_1.length co10) x3_1 from (by (with_reducible repeat (first | apply jq | apply jj | apply jw)); exact HO_3.out)); obtain ⟨ce12, hcl12, hM12, hcc12, hfr12⟩ := Kd.R_elem HX12.out z133 (x4_1 : Int) (of_decide_eq_true (by first | (with_reducible assumption) | assumption)) (by have h_ : (x4_1 : Int) < ((x3_1.length : Int) : Int) := of_decide_eq_true (by first | (with_reducible assumption) | assumption); first | exact h_ | (have e_ := (vj HO_3.out).1; omega) | simpa using h_); obtain rfl := k133_openM hM12; have HP12 := Kd.R_seg HX12.out (x4_1 : Int) (of_decide_eq_true (by first | (with_reducible assumption) | assumption)) (by have h_ : (x4_1 : Int) < ((x3_1.length : Int) : Int) := of_decide_eq_true (by first | (with_reducible assumption) | assumption); first | exact h_ | (have e_ := (vj HO_3.out).1; omega) | simpa using h_) (seg := [.int .i64 t283, .int .i64 t284]) (j := 0) hcl12 hcc12 (show 2 ≤ 2 from by decide) (x' := (⟨t283, t284⟩ : S133)) (k133_mkM _ _ _ (⟨t283, t284⟩ : S133) ) (fun _ hk => hk); have hx12_0 := hcc12 0 _ rfl; (try simp only [show (k133).sz = 2 from rfl, Nat.mul_one, Nat.add_zero] at hx12_0); have hf12_0 := hfr12 0; (try simp only [show (k133).sz = 2 from rfl, Nat.mul_one, Nat.add_zero] at hf12_0); have hx12_1 := hcc12 1 _ rfl; (try simp only [show (k133).sz = 2 from rfl, Nat.mul_one, Nat.add_zero] at hx12_1); have hf12_1 := hfr12 1; (try simp only [show (k133).sz = 2 from rfl, Nat.mul_one, Nat.add_zero] at hf12_1); clear hcl12 hcc12 hfr12 hM12) | ((with_reducible refine gate_store (t := 133) (p := 21) rfl ?_); refine store_event (t := 133) (p := 21) (v := ?vo_w13) (w1 := ((w11.setCell ⟨go10, (x4_1 : Int).toNat * 2, none⟩ (.int .i64 t283)).setCell ⟨go10, (x4_1 : Int).toNat * 2 + 1, none⟩ (.int .i64 t284))) ?hg ?ho ?hn ?hr ?_; (case ho => rfl); (case hg => rfl); (case hn => rfl); (case hr => first | (go_simp; done) | (go_simp; rfl)); intro w13 hw; have hg : w11.grownBy w13 (some go10) := (by rw [hw]; exact HP12.2); have hp_ : Kd.R k133 133 w13 w.heap.size (fun _ => True) (.slice (some ⟨go10, 0, none⟩) x3_1.length co10) y285 := (by rw [hw, Ny285.out]; exact HP12.1); clear HP12; have n0_ := zz (hp_); have n1_ := zz ((by rw [hw]; exact zx (zx (HB.out) GB10.out) GB10.out : Below w.heap.size w w13)); clear HO_3; clear HB; have HO_3 := n0_; have HB := n1_; clear n0_ n1_; clear hg hw hp_))
        go_roundg k1
        case measure => have := HK1.out; omega
        case rel => exact ⟨(y285), (wrap64 (x4_1 + 1)), (by first | rfl | (simp; done) | (simp [*]; done)), H', ⟨by have := HK1.out; omega⟩, ⟨by (with_reducible repeat (first | apply jq | apply jj | apply jw)); exact HO_3.out⟩, ⟨by repeat (first | (with_reducible first | exact HB.out | apply zj | apply zq | apply zw) | exact HB.out)⟩⟩
       ·rw [if_neg c9] at H
        exact absurd H (by simp)
      ·rw [if_neg c7] at H
       exact absurd H (by simp)
     ·rw [if_neg c6] at H
      have c6b0 : decide (x4_1 < (l0.length : Int)) = false := decide_eq_false c6
      clear c6
      obtain rfl := Option.some.inj H
      go_wp2
      go_ret
      exact ⟨_, by first | rfl | (simp [errW_none, errW_some] <;> rfl) | (simp [*, errW_none, errW_some] <;> rfl), by (with_reducible repeat (first | apply jq | apply jj | apply jw)); exact HO_3.out, by repeat (first | (with_reducible first | exact HB.out | apply zj | apply zq | apply zw) | exact HB.out)⟩
  ·rw [if_neg c3] at H
   exact absurd H (by simp)
 ·rw [if_neg c2] at H
  exact absurd H (by simp)

/-! ### laws_toPlan: function 38 -/
def laws_toPlan.f (k : Nat) (a0_0 : Int) (l0_1 : List (S170)) (l0_2 : List Int) : Option (Int × (List (S133)) × List Int) := (laws_toStepS.f k l0_1).bind fun t289 => ((laws_toIntS.f k l0_2).bind fun t292 => (some (a0_0, t289, t292)))
theorem laws_toPlan.mono : ∀ a0 a1 a2 k, LeO (laws_toPlan.f k a0 a1 a2) (laws_toPlan.f (k + 1) a0 a1 a2) := by
 intro a0 a1 a2 k
 unfold laws_toPlan.f
 repeat' first
   | (with_reducible exact laws_toIntS.mono _ _)
   | (with_reducible exact laws_toStepS.mono _ _)
   | (with_reducible exact vk _)
   | (with_reducible exact LeO.none _)
   | (with_reducible refine LeO.ite ?_ ?_)
   | (with_reducible refine vx ?_ (fun _ => ?_))
   | exact laws_toIntS.mono _ _
   | exact laws_toStepS.mono _ _
   | exact LeO.none _
   | refine LeO.ite ?_ ?_
   | refine vx ?_ (fun _ => ?_)
set_option maxHeartbeats 8000000 in
set_option maxRecDepth 100000 in
theorem laws_toPlan.calls (k : Nat) (a0_0 : Int) (A0_1 : Option Addr) (c0_1 : Nat) (l0_1 : List (S170)) (A0_2 : Option Addr) (c0_2 : Nat) (l0_2 : List Int) (r1 : Int) (r2 : List (S133)) (r3 : List Int) (w : World) (hr0_1 : Kd.C k170 w A0_1 l0_1.length l0_1) (hc0_1 : l0_1.length ≤ c0_1) (hr0_2 : Kd.C (Kd.int .i64) w A0_2 l0_2.length l0_2) (hc0_2 : l0_2.length ≤ c0_2) (h : laws_toPlan.f k a0_0 l0_1 l0_2 = some (r1, r2, r3)) :
  Calls Try.prog 38 #[.agg #[.int .i64 a0_0, .slice A0_1 l0_1.length c0_1, .slice A0_2 l0_2.length c0_2]] w fun e w' => ∃ v1_ v2_ : Value, e = .returned (.agg #[.int .i64 r1, v1_, v2_]) ∧ Kd.R k133 133 w' w.heap.size (fun _ => True) v1_ r2 ∧ Kd.R (Kd.int .i64) 3 w' w.heap.size (fun _ => True) v2_ r3 ∧ Below w.heap.size w w' := by
 have hu54 := Try.underlying54
 have hu59 := Try.underlying59
 have HR0_1 := zz hr0_1
 have HC0_1 := zz hc0_1
 clear hr0_1 hc0_1
 have HR0_2 := zz hr0_2
 have HC0_2 := zz hc0_2
 clear hr0_2 hc0_2
 have HB := zz (Below.refl w.heap.size w)
 have H : ((laws_toStepS.f k l0_1).bind fun t289 => ((laws_toIntS.f k l0_2).bind fun t292 => (some (a0_0, t289, t292)))) = some (r1, r2, r3) := h
 clear h
 replace H := Option.bind_eq_some_iff.mp H
 obtain ⟨t289, A20, H⟩ := H
 replace H : ((laws_toIntS.f k l0_2).bind fun t292 => (some (a0_0, t289, t292))) = some (r1, r2, r3) := H
 have A2 := zz A20
 clear A20
 replace H := Option.bind_eq_some_iff.mp H
 obtain ⟨t292, A30, H⟩ := H
 replace H : (some (a0_0, t289, t292)) = some (r1, r2, r3) := H
 have A3 := zz A30
 clear A30
 simp only [Option.some.injEq, Prod.mk.injEq] at H
 obtain ⟨rfl, rfl, rfl⟩ := H
 go_enter Try.func38, Try.ntmps38
 go_wp2_with (first | ((with_reducible refine yk (N := 1) rfl ?_); refine yv ?hg (N := 1) ?hd (cs := #[.int .i64 a0_0, .slice A0_1 l0_1.length c0_1, .slice A0_2 l0_2.length c0_2]) (t := 54) ?hr ?_; (case hd => rfl); (case hg => rfl); (case hr => first | (go_simp; done) | (go_simp; rfl)); intro gb286 hg w4 hbox hb; have n0_ := zz (zk (by repeat (first | (with_reducible first | exact HB.out | apply zj | apply zq | apply zw) | exact HB.out)) hb); have n1_ := zz (hbox); have n2_ := zz ((by rw [hg]; exact (zv (by repeat (first | (with_reducible first | exact HB.out | apply zj | apply zq | apply zw) | exact HB.out))) : w.heap.size ≤ gb286)); have n3_ := zz ((by rw [hg]; exact (zv (by repeat (first | (with_reducible first | exact HB.out | apply zj | apply zq | apply zw) | exact HB.out))) : w.heap.size ≤ gb286)); clear HB; have HB := n0_; have BK286 := n1_; have GW286 := n2_; have GE286 := n3_; clear n0_ n1_ n2_ n3_; clear hb hbox hg) | ((with_reducible refine yk (N := 2) rfl ?_); refine yv ?hg (N := 2) ?hd (cs := #[.int .i64 0, .slice none 0 0, .slice none 0 0]) (t := 59) ?hr ?_; (case hd => rfl); (case hg => rfl); (case hr => first | (go_simp; done) | (go_simp; rfl)); intro gb287 hg w5 hbox hb; have n0_ := zz (qv (g := gb286) (o := .cells #[.int .i64 a0_0, .slice A0_1 l0_1.length c0_1, .slice A0_2 l0_2.length c0_2] 54 (0, 0)) (by (with_reducible repeat (first | refine qq ?_ _ | refine qj ?_ | refine qz ?_ _)); exact BK286.out) hb); have n1_ := zz (zk (by repeat (first | (with_reducible first | exact HB.out | apply zj | apply zq | apply zw | refine zx ?_ GE286.out) | exact HB.out)) hb); have n2_ := zz (hbox); have n3_ := zz ((by rw [hg]; exact (zv (by repeat (first | (with_reducible first | exact HB.out | apply zj | apply zq | apply zw | refine zx ?_ GE286.out) | exact HB.out))) : w.heap.size ≤ gb287)); have n4_ := zz ((by rw [hg]; exact (zv (by repeat (first | (with_reducible first | exact HB.out | apply zj | apply zq | apply zw | refine zx ?_ GE286.out) | exact HB.out))) : w.heap.size ≤ gb287)); have n5_ := zz ((by rw [hg]; exact Nat.ne_of_lt (blk_lt (g := gb286) (o := .cells #[.int .i64 a0_0, .slice A0_1 l0_1.length c0_1, .slice A0_2 l0_2.length c0_2] 54 (0, 0)) (by (with_reducible repeat (first | refine qq ?_ _ | refine qj ?_ | refine qz ?_ _)); exact BK286.out)) : gb286 ≠ gb287)); have n6_ := zz ((by rw [hg]; exact Nat.ne_of_gt (blk_lt (g := gb286) (o := .cells #[.int .i64 a0_0, .slice A0_1 l0_1.length c0_1, .slice A0_2 l0_2.length c0_2] 54 (0, 0)) (by (with_reducible repeat (first | refine qq ?_ _ | refine qj ?_ | refine qz ?_ _)); exact BK286.out)) : gb287 ≠ gb286)); clear BK286; clear HB; have BK286 := n0_; have HB := n1_; have BK287 := n2_; have GW287 := n3_; have GE287 := n4_; have NB286_287 := n5_; have NB287_286 := n6_; clear n0_ n1_ n2_ n3_ n4_ n5_ n6_; clear hb hbox hg) | ((with_reducible refine yk (N := 3) rfl ?_); refine yv ?hg (N := 3) ?hd (cs := #[.int .i64 0, .slice none 0 0, .slice none 0 0]) (t := 59) ?hr ?_; (case hd => rfl); (case hg => rfl); (case hr => first | (go_simp; done) | (go_simp; rfl)); intro gb288 hg w6 hbox hb; have n0_ := zz (qv (g := gb286) (o := .cells #[.int .i64 a0_0, .slice A0_1 l0_1.length c0_1, .slice A0_2 l0_2.length c0_2] 54 (0, 0)) (by (with_reducible repeat (first | refine qq ?_ _ | refine qj ?_ | refine qz ?_ _)); exact BK286.out) hb); have n1_ := zz (qv (g := gb287) (o := .cells #[.int .i64 0, .slice none 0 0, .slice none 0 0] 59 (0, 0)) (by (with_reducible repeat (first | refine qq ?_ _ | refine qj ?_ | refine qz ?_ _)); exact BK287.out) hb); have n2_ := zz (zk (by repeat (first | (with_reducible first | exact HB.out | apply zj | apply zq | apply zw | refine zx ?_ GE286.out | refine zx ?_ GE287.out) | exact HB.out)) hb); have n3_ := zz (hbox); have n4_ := zz ((by rw [hg]; exact (zv (by repeat (first | (with_reducible first | exact HB.out | apply zj | apply zq | apply zw | refine zx ?_ GE286.out | refine zx ?_ GE287.out) | exact HB.out))) : w.heap.size ≤ gb288)); have n5_ := zz ((by rw [hg]; exact (zv (by repeat (first | (with_reducible first | exact HB.out | apply zj | apply zq | apply zw | refine zx ?_ GE286.out | refine zx ?_ GE287.out) | exact HB.out))) : w.heap.size ≤ gb288)); have n6_ := zz ((by rw [hg]; exact Nat.ne_of_lt (blk_lt (g := gb286) (o := .cells #[.int .i64 a0_0, .slice A0_1 l0_1.length c0_1, .slice A0_2 l0_2.length c0_2] 54 (0, 0)) (by (with_reducible repeat (first | refine qq ?_ _ | refine qj ?_ | refine qz ?_ _)); exact BK286.out)) : gb286 ≠ gb288)); have n7_ := zz ((by rw [hg]; exact Nat.ne_of_gt (blk_lt (g := gb286) (o := .cells #[.int .i64 a0_0, .slice A0_1 l0_1.length c0_1, .slice A0_2 l0_2.length c0_2] 54 (0, 0)) (by (with_reducible repeat (first | refine qq ?_ _ | refine qj ?_ | refine qz ?_ _)); exact BK286.out)) : gb288 ≠ gb286)); have n8_ := zz ((by rw [hg]; exact Nat.ne_of_lt (blk_lt (g := gb287) (o := .cells #[.int .i64 0, .slice none 0 0, .slice none 0 0] 59 (0, 0)) (by (with_reducible repeat (first | refine qq ?_ _ | refine qj ?_ | refine qz ?_ _)); exact BK287.out)) : gb287 ≠ gb288)); have n9_ := zz ((by rw [hg]; exact Nat.ne_of_gt (blk_lt (g := gb287) (o := .cells #[.int .i64 0, .slice none 0 0, .slice none 0 0] 59 (0, 0)) (by (with_reducible repeat (first | refine qq ?_ _ | refine qj ?_ | refine qz ?_ _)); exact BK287.out)) : gb288 ≠ gb287)); clear BK286; clear BK287; clear HB; have BK286 := n0_; have BK287 := n1_; have HB := n2_; have BK288 := n3_; have GW288 := n4_; have GE288 := n5_; have NB286_288 := n6_; have NB288_286 := n7_; have NB287_288 := n8_; have NB288_287 := n9_; clear n0_ n1_ n2_ n3_ n4_ n5_ n6_ n7_ n8_ n9_; clear hb hbox hg; have hnb7 := NB286_287.out; have hnc7 := NB287_286.out; have hnb8 := NB286_288.out; have hnc8 := NB288_286.out; have hcz9_0 : w6.cell? ⟨gb286, 0, none⟩ = some (.int .i64 a0_0) := (qw BK286.out 0).trans rfl; have hcz9_1 : w6.cell? ⟨gb286, 1, none⟩ = some (.slice A0_1 l0_1.length c0_1) := (qw BK286.out 1).trans rfl; have hcz9_2 : w6.cell? ⟨gb286, 2, none⟩ = some (.slice A0_2 l0_2.length c0_2) := (qw BK286.out 2).trans rfl; have hfz9_0 := qx BK286.out 0; have hfz9_1 := qx BK286.out 1; have hfz9_2 := qx BK286.out 2; have hnb10 := NB288_287.out; have hnc10 := NB287_288.out; have hcz11_0 : w6.cell? ⟨gb288, 0, none⟩ = some (.int .i64 0) := (qw BK288.out 0).trans rfl; have hcz11_1 : w6.cell? ⟨gb288, 1, none⟩ = some (.slice none 0 0) := (qw BK288.out 1).trans rfl; have hcz11_2 : w6.cell? ⟨gb288, 2, none⟩ = some (.slice none 0 0) := (qw BK288.out 2).trans rfl; have hfz11_0 := qx BK288.out 0; have hfz11_1 := qx BK288.out 1; have hfz11_2 := qx BK288.out 2) | ((with_reducible refine yx (f := 123) rfl ?_); refine kz (some 9) rfl rfl Try.func123 (by kernel_rfl) rfl #[.slice A0_1 l0_1.length c0_1] rfl (by (try simp only [yq, List.map_cons, List.map_nil]); first | done | rfl | (simp only [yj, yw]; rfl)) ?_; (with_reducible refine (laws_toStepS.calls k _ _ l0_1 t289 _ ?side1 ?side2 A2.out).mono ?_); (case side1 => exact yz HR0_1.out (by repeat (first | (with_reducible first | exact HB.out | apply zj | apply zq | apply zw | refine zx ?_ GE286.out | refine zx ?_ GE287.out | refine zx ?_ GE288.out) | exact HB.out))); (case side2 => exact HC0_1.out); rintro e w12 ⟨v290, rfl, ho0, hb⟩; refine ⟨_, rfl, ?_⟩; have n0_ := zz (Kd.R_lower ho0 (zv (by repeat (first | (with_reducible first | exact HB.out | apply zj | apply zq | apply zw | refine zx ?_ GE286.out | refine zx ?_ GE287.out | refine zx ?_ GE288.out) | exact HB.out)))); have n1_ := zz (qv (g := gb286) (o := .cells #[.int .i64 a0_0, .slice A0_1 l0_1.length c0_1, .slice A0_2 l0_2.length c0_2] 54 (0, 0)) (by (with_reducible repeat (first | refine qq ?_ _ | refine qj ?_ | refine qz ?_ _)); refine blk_far ?_ NB286_288.out _; (with_reducible repeat (first | refine qq ?_ _ | refine qj ?_ | refine qz ?_ _)); exact BK286.out) hb); have n2_ := zz (qv (g := gb287) (o := .cells #[.int .i64 0, .slice none 0 0, .slice none 0 0] 59 (0, 0)) (by (with_reducible repeat (first | refine qq ?_ _ | refine qj ?_ | refine qz ?_ _)); refine blk_far ?_ NB287_288.out _; (with_reducible repeat (first | refine qq ?_ _ | refine qj ?_ | refine qz ?_ _)); exact BK287.out) hb); have n3_ := zz (qv (g := gb288) (o := .cells #[.int .i64 a0_0, .slice none 0 0, .slice none 0 0] 59 (0, 0)) (by (with_reducible repeat (first | refine qq ?_ _ | refine qj ?_ | refine qz ?_ _)); refine qk (cs := #[.int .i64 0, .slice none 0 0, .slice none 0 0]) ?_ 0 _ rfl; (with_reducible repeat (first | refine qq ?_ _ | refine qj ?_ | refine qz ?_ _)); exact BK288.out) hb); have n4_ := zz (zk (by repeat (first | (with_reducible first | exact HB.out | apply zj | apply zq | apply zw | refine zx ?_ GE286.out | refine zx ?_ GE287.out | refine zx ?_ GE288.out) | exact HB.out)) hb); clear BK286; clear BK287; clear BK288; clear HB; have HO291 := n0_; have BK286 := n1_; have BK287 := n2_; have BK288 := n3_; have HB := n4_; clear n0_ n1_ n2_ n3_ n4_; (try clear hb); (try clear hb2); (try clear hk); (try clear hi); (try clear ho0); obtain ⟨Ao13, co13, eo13⟩ := vw HO291.out; subst eo13; have hcz14_0 : w12.cell? ⟨gb288, 0, none⟩ = some (.int .i64 a0_0) := (qw BK288.out 0).trans rfl; have hcz14_1 : w12.cell? ⟨gb288, 1, none⟩ = some (.slice none 0 0) := (qw BK288.out 1).trans rfl; have hcz14_2 : w12.cell? ⟨gb288, 2, none⟩ = some (.slice none 0 0) := (qw BK288.out 2).trans rfl; have hfz14_0 := qx BK288.out 0; have hfz14_1 := qx BK288.out 1; have hfz14_2 := qx BK288.out 2; have hcz15_0 : w12.cell? ⟨gb286, 0, none⟩ = some (.int .i64 a0_0) := (qw BK286.out 0).trans rfl; have hcz15_1 : w12.cell? ⟨gb286, 1, none⟩ = some (.slice A0_1 l0_1.length c0_1) := (qw BK286.out 1).trans rfl; have hcz15_2 : w12.cell? ⟨gb286, 2, none⟩ = some (.slice A0_2 l0_2.length c0_2) := (qw BK286.out 2).trans rfl; have hfz15_0 := qx BK286.out 0; have hfz15_1 := qx BK286.out 1; have hfz15_2 := qx BK286.out 2) | ((with_reducible refine yx (f := 26) rfl ?_); refine kz (some 13) rfl rfl Try.func26 (by kernel_rfl) rfl #[.slice A0_2 l0_2.length c0_2] rfl (by (try simp only [yq, List.map_cons, List.map_nil]); first | done | rfl | (simp only [yj, yw]; rfl)) ?_; (with_reducible refine (laws_toIntS.calls k _ _ l0_2 t292 _ ?side1 ?side2 A3.out).mono ?_); (case side1 => exact yz HR0_2.out (by repeat (first | (with_reducible first | exact HB.out | apply zj | apply zq | apply zw | refine zx ?_ GE286.out | refine zx ?_ GE287.out | refine zx ?_ GE288.out) | exact HB.out))); (case side2 => exact HC0_2.out); rintro e w16 ⟨v293, rfl, ho0, hb⟩; refine ⟨_, rfl, ?_⟩; have n0_ := zz (vq (by (with_reducible repeat (first | apply jq | apply jj | apply jw)); exact (vz (Kd.R_far (p := ⟨gb288, 1, none⟩) (Kd.R_types HO291.out BK288.out (by decide)) (fun _ hk => hk.2) (.slice Ao13 t289.length co13)) (fun _ h_ => h_.1))) hb); have n1_ := zz (Kd.R_lower ho0 (zv (by repeat (first | (with_reducible first | exact HB.out | apply zj | apply zq | apply zw | refine zx ?_ GE286.out | refine zx ?_ GE287.out | refine zx ?_ GE288.out) | exact HB.out)))); have n2_ := zz (qv (g := gb286) (o := .cells #[.int .i64 a0_0, .slice A0_1 l0_1.length c0_1, .slice A0_2 l0_2.length c0_2] 54 (0, 0)) (by (with_reducible repeat (first | refine qq ?_ _ | refine qj ?_ | refine qz ?_ _)); refine blk_far ?_ NB286_288.out _; (with_reducible repeat (first | refine qq ?_ _ | refine qj ?_ | refine qz ?_ _)); exact BK286.out) hb); have n3_ := zz (qv (g := gb287) (o := .cells #[.int .i64 0, .slice none 0 0, .slice none 0 0] 59 (0, 0)) (by (with_reducible repeat (first | refine qq ?_ _ | refine qj ?_ | refine qz ?_ _)); refine blk_far ?_ NB287_288.out _; (with_reducible repeat (first | refine qq ?_ _ | refine qj ?_ | refine qz ?_ _)); exact BK287.out) hb); have n4_ := zz (qv (g := gb288) (o := .cells #[.int .i64 a0_0, .slice Ao13 t289.length co13, .slice none 0 0] 59 (0, 0)) (by (with_reducible repeat (first | refine qq ?_ _ | refine qj ?_ | refine qz ?_ _)); refine qk (cs := #[.int .i64 a0_0, .slice none 0 0, .slice none 0 0]) ?_ 1 _ rfl; (with_reducible repeat (first | refine qq ?_ _ | refine qj ?_ | refine qz ?_ _)); exact BK288.out) hb); have n5_ := zz (zk (by repeat (first | (with_reducible first | exact HB.out | apply zj | apply zq | apply zw | refine zx ?_ GE286.out | refine zx ?_ GE287.out | refine zx ?_ GE288.out) | exact HB.out)) hb); clear HO291; clear BK286; clear BK287; clear BK288; clear HB; have HO291 := n0_; have HO294 := n1_; have BK286 := n2_; have BK287 := n3_; have BK288 := n4_; have HB := n5_; clear n0_ n1_ n2_ n3_ n4_ n5_; (try clear hb); (try clear hb2); (try clear hk); (try clear hi); (try clear ho0); obtain ⟨Ao17, co17, eo17⟩ := vw HO294.out; subst eo17; have hcz18_0 : w16.cell? ⟨gb288, 0, none⟩ = some (.int .i64 a0_0) := (qw BK288.out 0).trans rfl; have hcz18_1 : w16.cell? ⟨gb288, 1, none⟩ = some (.slice Ao13 t289.length co13) := (qw BK288.out 1).trans rfl; have hcz18_2 : w16.cell? ⟨gb288, 2, none⟩ = some (.slice none 0 0) := (qw BK288.out 2).trans rfl; have hfz18_0 := qx BK288.out 0; have hfz18_1 := qx BK288.out 1; have hfz18_2 := qx BK288.out 2; have hcz19_0 : w16.cell? ⟨gb287, 0, none⟩ = some (.int .i64 0) := (qw BK287.out 0).trans rfl; have hcz19_1 : w16.cell? ⟨gb287, 1, none⟩ = some (.slice none 0 0) := (qw BK287.out 1).trans rfl; have hcz19_2 : w16.cell? ⟨gb287, 2, none⟩ = some (.slice none 0 0) := (qw BK287.out 2).trans rfl; have hfz19_0 := qx BK287.out 0; have hfz19_1 := qx BK287.out 1; have hfz19_2 := qx BK287.out 2))
 refine bodyPost_ret (results_cell_row rfl _ _ gb287 59 #[.int .i64 a0_0, .slice Ao13 t289.length co13, .slice Ao17 t292.length co17] (0, 0) _ rfl (by (with_reducible repeat (first | refine qq ?_ _ | refine qj ?_ | refine qz ?_ _)); refine qk (cs := #[.int .i64 a0_0, .slice Ao13 t289.length co13, .slice none 0 0]) ?_ 2 _ rfl; (with_reducible repeat (first | refine qq ?_ _ | refine qj ?_ | refine qz ?_ _)); refine qk (cs := #[.int .i64 a0_0, .slice none 0 0, .slice none 0 0]) ?_ 1 _ rfl; (with_reducible repeat (first | refine qq ?_ _ | refine qj ?_ | refine qz ?_ _)); refine qk (cs := #[.int .i64 0, .slice none 0 0, .slice none 0 0]) ?_ 0 _ rfl; (with_reducible repeat (first | refine qq ?_ _ | refine qj ?_ | refine qz ?_ _)); refine blk_far ?_ NB287_288.out _; (with_reducible repeat (first | refine qq ?_ _ | refine qj ?_ | refine qz ?_ _)); exact BK287.out) Try.underlying59 rfl (by kernel_rfl)) rfl ?_
 exact ⟨_, _, by first | rfl | (simp [errW_none, errW_some] <;> rfl) | (simp [*, errW_none, errW_some] <;> rfl), by (with_reducible repeat (first | apply jq | apply jj | apply jw)); exact vz (Kd.R_far (p := ⟨gb287, 2, none⟩) (Kd.R_far (p := ⟨gb287, 1, none⟩) (Kd.R_far (p := ⟨gb287, 0, none⟩) (Kd.R_far (p := ⟨gb288, 2, none⟩) (Kd.R_types (Kd.R_types HO291.out BK288.out (by decide)) BK287.out (by decide)) (fun _ hk => hk.1.2) (.slice Ao17 t292.length co17)) (fun _ hk => hk.2) (.int .i64 a0_0)) (fun _ hk => hk.2) (.slice Ao13 t289.length co13)) (fun _ hk => hk.2) (.slice Ao17 t292.length co17)) (fun _ hk => trivial), by (with_reducible repeat (first | apply jq | apply jj | apply jw)); exact vz (Kd.R_far (p := ⟨gb287, 2, none⟩) (Kd.R_far (p := ⟨gb287, 1, none⟩) (Kd.R_far (p := ⟨gb287, 0, none⟩) (Kd.R_far (p := ⟨gb288, 2, none⟩) (Kd.R_types (Kd.R_types HO294.out BK288.out (by decide)) BK287.out (by decide)) (fun _ hk => hk.1.2) (.slice Ao17 t292.length co17)) (fun _ hk => hk.2) (.int .i64 a0_0)) (fun _ hk => hk.2) (.slice Ao13 t289.length co13)) (fun _ hk => hk.2) (.slice Ao17 t292.length co17)) (fun _ hk => trivial), by repeat (first | (with_reducible first | exact HB.out | apply zj | apply zq | apply zw | refine zx ?_ GE286.out | refine zx ?_ GE287.out | refine zx ?_ GE288.out) | exact HB.out)⟩

/-! ### impl_in: function 146 -/
def impl_in.f (a0 : Int) (a1 : Int) (a2 : Int) : Option (Bool) := if a0 ≥ a1 then (some (decide (a0 ≤ a2))) else (some false)
set_option maxHeartbeats 8000000 in
set_option maxRecDepth 100000 in
theorem impl_in.calls (a0 : Int) (a1 : Int) (a2 : Int) (r : Bool) (w : World) (h : impl_in.f a0 a1 a2 = some r) :
  Calls Try.prog 146 #[.int .i64 a0, .int .i64 a1, .int .i64 a2] w fun e w' => e = .returned (.bool r) ∧ Drawn0 w w' := by
 have H : (if a0 ≥ a1 then (some (decide (a0 ≤ a2))) else (some false)) = some r := h
 clear h
 by_cases c4 : a0 ≥ a1
 ·rw [if_pos c4] at H
  have c4b0 : decide (a1 ≤ a0) = true := decide_eq_true c4
  clear c4
  obtain rfl := Option.some.inj H
  go_enter Try.func146, Try.ntmps146
  go_wp2
  go_ret
  exact ⟨by first | rfl | (simp; done) | (simp [*]; done), by repeat (first | exact Drawn0.refl _ | apply Drawn0.step)⟩
 ·rw [if_neg c4] at H
  have c4b0 : decide (a1 ≤ a0) = false := decide_eq_false c4
  clear c4
  obtain rfl := Option.some.inj H
  go_enter Try.func146, Try.ntmps146
  go_wp2
  go_ret
  exact ⟨by first | rfl | (simp; done) | (simp [*]; done), by repeat (first | exact Drawn0.refl _ | apply Drawn0.step)⟩

end Go.Proofs.Ytlmoemahamneoaa.PFnExactCodeOfPlan
