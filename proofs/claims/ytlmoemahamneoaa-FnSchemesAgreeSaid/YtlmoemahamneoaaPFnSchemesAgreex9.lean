-- Written by gprint.py, a program of this session, out of the translation (a changed print).
import Derived.Test.YtlmoemahamneoaaPFnSchemesAgreex0
import Derived.Test.YtlmoemahamneoaaPFnSchemesAgreex5
import Derived.Test.YtlmoemahamneoaaPFnSchemesAgreex6
import Derived.Test.YtlmoemahamneoaaPFnSchemesAgreex8
namespace Go.Proofs.Ytlmoemahamneoaa.PFnSchemesAgree
open Go.RowKit Go.Proofs.YtlmoemahamneoaaW.PrintWords Go.Proofs.YtlmoemahamneoaaW.PrintLast Go.Proofs.YtlmoemahamneoaaW.PrintMore
open Go.Proofs.YtlmoemahamneoaaW.PrintWords.Aside0 renaming mk → zz
open Go.Proofs.YtlmoemahamneoaaW.PrintWords renaming pw_below_drewN → zq, below_alloc → zj, below_drew1 → zw, below_set → zx, below_step → zk, below_size → zv, blk_alloc → qz, blk_drewN → qq, blk_drew → qj, blk_cell → qw, blk_frozen → qx, blk_put → qk, blk_below → qv, gate_callee → vj, gate_dst → vw, box_event → vx
open List renaming setIfInBounds_toArray → jz, set_cons_zero → yx, set_cons_succ → yk, map_toArray → yv, length_drop → vz, length_take → vq
open Go.World renaming block_lt_of_cell? → jq
open Go.Proofs.YtlmoemahamneoaaW.PrintWords.Kd renaming R_alloc → jj, R_drewN → jw, R_drew → jx, C_alloc → jk, C_drewN → jv, C_drew → yz, N_alloc → yq, N_drewN → yj, N_drew → yw, R_mono → vk, R_below → vv, R_reads' → kz, R_slice → kj
open Go.Proofs.YtlmoemahamneoaaW.PrintWords.LeO renaming bind → kw, refl → kv
attribute [local go_sem] max2_int min2_int max_two min_two max_three min_three max_four min_four
set_option linter.unusedVariables false
set_option linter.unusedSimpArgs false
def spec_poValues.l0 : Nat → List (List Int) → List (S109) → Int → Int → List (S109) → Int → Option ((List (List Int)) × Bool)
 | 0, _, _, _, _, _, _ => none
 | k + 1, x4, x16, x17, x18, x216000, x216001 => if x18 < x17 then (if 0 ≤ x18 then (if x18 < (x16.length : Int) then ((spec_poOp.f k ((rd_T109 x16 x18).f0) ((rd_T109 x16 x18).f1) ((rd_T109 x16 x18).f2) x4).bind fun bt225 => (if bt225.2 = true then ((spec_poSmall.f k bt225.1).bind fun t229 => (if t229 = true then (if x4.length < 5864062014805 then (spec_poValues.l0 k (x4 ++ [bt225.1]) x16 x17 (wrap64 (x18 + 1)) x216000 x216001) else (none)) else (some (([] : List (List Int)), false)))) else (some (([] : List (List Int)), false)))) else (none)) else (none)) else ((spec_l1In.f x216001 0 (x216000.length : Int)).bind fun t222 => (some (x4, t222)))
def spec_poValues.f (k : Nat) (l0_0 : List (S109)) (a0_1 : Int) : Option ((List (List Int)) × Bool) := if (l0_0.length : Int) > 120 then (some (([] : List (List Int)), false)) else (spec_poValues.l0 k (([(([0, 1] : List Int))] : List (List Int))) l0_0 (l0_0.length : Int) 0 l0_0 a0_1)
theorem spec_poValues.mono_l : ∀ k, (∀ y0 y1 y2 y3 y4 y5, LeO (spec_poValues.l0 k y0 y1 y2 y3 y4 y5) (spec_poValues.l0 (k + 1) y0 y1 y2 y3 y4 y5))
 | 0 => fun _ _ _ _ _ _ r h => by simp [spec_poValues.l0] at h
 | k + 1 => by
  have ih0 := spec_poValues.mono_l k
  ·intro y0 y1 y2 y3 y4 y5
   unfold spec_poValues.l0
   repeat' with_reducible first
   | exact ih0 _ _ _ _ _ _
   | exact spec_poOp.mono _ _ _ _ _
   | exact spec_poSmall.mono _ _
   | exact kv _
   | exact LeO.none _
   | refine LeO.ite ?_ ?_
   | refine kw ?_ (fun _ => ?_)
theorem spec_poValues.mono : ∀ a0 a1 k, LeO (spec_poValues.f k a0 a1) (spec_poValues.f (k + 1) a0 a1) := by
 intro a0 a1 k
 have ih0 := spec_poValues.mono_l k
 unfold spec_poValues.f
 repeat' with_reducible first
   | exact ih0 _ _ _ _ _ _
   | exact spec_poOp.mono _ _ _ _ _
   | exact spec_poSmall.mono _ _
   | exact kv _
   | exact LeO.none _
   | refine LeO.ite ?_ ?_
   | refine kw ?_ (fun _ => ?_)
set_option maxHeartbeats 8000000 in
set_option maxRecDepth 100000 in
theorem spec_poValues.calls (k : Nat) (A0_0 : Option Addr) (c0_0 : Nat) (l0_0 : List (S109)) (a0_1 : Int) (r1 : List (List Int)) (r2 : Bool) (w : World) (hr0_0 : Kd.C k109 w A0_0 l0_0.length l0_0) (hc0_0 : l0_0.length ≤ c0_0) (h : spec_poValues.f k l0_0 a0_1 = some (r1, r2)) :
  Calls Try.prog 194 #[.agg #[.slice A0_0 l0_0.length c0_0, .int .i64 a0_1]] w fun e w' => ∃ v0_ : Value, e = .returned (.tuple #[v0_, .bool r2]) ∧ Kd.N (Kd.slice 3 (Kd.int .i64)) 29 w' w.heap.size (fun k_ => (w.heap.size ≤ k_)) v0_ r1 ∧ Below w.heap.size w w' := by
 have hu32 := Try.underlying32
 have hu109 := Try.underlying109
 have HR0_0 := zz hr0_0
 have HC0_0 := zz hc0_0
 clear hr0_0 hc0_0
 have HB := zz (Below.refl w.heap.size w)
 have H : (if (l0_0.length : Int) > 120 then (some (([] : List (List Int)), false)) else (spec_poValues.l0 k (([(([0, 1] : List Int))] : List (List Int))) l0_0 (l0_0.length : Int) 0 l0_0 a0_1)) = some (r1, r2) := h
 clear h
 obtain ⟨y216, hy216⟩ : ∃ y_ : List Int, y_ = (([0, 1] : List Int)) := ⟨_, rfl⟩
 replace H : (if (l0_0.length : Int) > 120 then (some (([] : List (List Int)), false)) else (spec_poValues.l0 k (([y216] : List (List Int))) l0_0 (l0_0.length : Int) 0 l0_0 a0_1)) = some (r1, r2) := by first | (rw [hy216]; with_reducible exact H) | (have H2_ := (Option.bind_some _ _).symm.trans H; rw [hy216]; with_reducible exact H2_) | (have H2_ := (Option.bind_some _ _).symm.trans H; with_reducible exact H2_) | with_reducible exact H | (rw [hy216]; exact H) | exact H
 have Ny216 := zz hy216
 clear hy216
 obtain ⟨y219, hy219⟩ : ∃ y_ : List (List Int), y_ = (([y216] : List (List Int))) := ⟨_, rfl⟩
 replace H : (if (l0_0.length : Int) > 120 then (some (([] : List (List Int)), false)) else (spec_poValues.l0 k y219 l0_0 (l0_0.length : Int) 0 l0_0 a0_1)) = some (r1, r2) := by first | (rw [hy219]; with_reducible exact H) | (have H2_ := (Option.bind_some _ _).symm.trans H; rw [hy219]; with_reducible exact H2_) | (have H2_ := (Option.bind_some _ _).symm.trans H; with_reducible exact H2_) | with_reducible exact H | (rw [hy219]; exact H) | exact H
 have Ny219 := zz hy219
 clear hy219
 by_cases c2 : (l0_0.length : Int) > 120
 ·rw [if_pos c2] at H
  have c2b0 : decide (120 < (l0_0.length : Int)) = true := decide_eq_true c2
  have c2b1 : decide (120 < l0_0.length) = true := decide_eq_true (by omega)
  clear c2
  simp only [Option.some.injEq, Prod.mk.injEq] at H
  obtain ⟨rfl, rfl⟩ := H
  go_enter Try.func194, Try.ntmps194
  go_wp2_with (first | ((with_reducible refine vw (N := 1) rfl ?_); refine vx ?hg (N := 1) ?hd (cs := #[.slice A0_0 l0_0.length c0_0, .int .i64 a0_1]) (t := 32) ?hr ?_; (case hd => rfl); (case hg => rfl); (case hr => first | (go_simp; done) | (go_simp; rfl)); intro gb215 hg w3 hbox hb; have n0_ := zz (zk (by repeat (with_reducible first | exact HB.out | apply zj | apply zq | apply zw)) hb); have n1_ := zz (hbox); have n2_ := zz ((by rw [hg]; exact (zv (by repeat (with_reducible first | exact HB.out | apply zj | apply zq | apply zw))) : w.heap.size ≤ gb215)); have n3_ := zz ((by rw [hg]; exact (zv (by repeat (with_reducible first | exact HB.out | apply zj | apply zq | apply zw))) : w.heap.size ≤ gb215)); clear HB; have HB := n0_; have BK215 := n1_; have GW215 := n2_; have GE215 := n3_; clear n0_ n1_ n2_ n3_; clear hb hbox hg) | ((with_reducible refine vw (N := 9) rfl ?_); refine Kd.R_lit (Kd.int .i64) _ 3 ?hg (N := 9) ?hd (xs := ([0, 1] : List Int)) (inner := [.int .i64 0, .int .i64 1]) (ok := fun _ => True) (okp := fun _ => True) ?hr ?hp (fun _ hk => hk) trivial (Below.refl _ _) (Nat.le_refl _) (by simp) ?_; (case hd => rfl); (case hg => rfl); (case hr => first | (go_simp; done) | (go_simp; rfl)); (case hp => exact (Reps.one (show Kd.M (Kd.int .i64) _ _ _ 0 [.int .i64 0] from rfl) (Reps.one (show Kd.M (Kd.int .i64) _ _ _ 1 [.int .i64 1] from rfl) (Reps.none _ _)))); intro v217 w4 ho5 hb hg_ hnew_; clear hg_ hnew_; (first | rw [← Ny216.out] at ho5 | (simp only [Int.reduceToNat] at ho5; rw [← Ny216.out] at ho5)); have n0_ := zz (Kd.R_lower (Kd.R_newM (M := fun k_ => (w.heap.size ≤ k_)) ho5 (zv (by repeat (with_reducible first | exact HB.out | apply zj | apply zq | apply zw | refine zx ?_ GE215.out))) (fun k_ h_ => h_)) (zv (by repeat (with_reducible first | exact HB.out | apply zj | apply zq | apply zw | refine zx ?_ GE215.out)))); have n1_ := zz (qv (g := gb215) (o := .cells #[.slice A0_0 l0_0.length c0_0, .int .i64 a0_1] 32 (0, 0)) (by (with_reducible repeat (first | refine qq ?_ _ | refine qj ?_ | refine qz ?_ _)); exact BK215.out) hb); have n2_ := zz (zk (by repeat (with_reducible first | exact HB.out | apply zj | apply zq | apply zw | refine zx ?_ GE215.out)) hb); clear BK215; clear HB; have HO218 := n0_; have BK215 := n1_; have HB := n2_; clear n0_ n1_ n2_; clear hb ho5; obtain ⟨Ao6, co6, eo6⟩ := kj HO218.out; subst eo6) | ((with_reducible refine vw (N := 10) rfl ?_); refine Kd.N_lit (Kd.slice 3 (Kd.int .i64)) _ 29 ?hg (N' := 10) ?hd (xs := ([y216] : List (List Int))) (inner := [.slice Ao6 y216.length co6]) (ok := (fun k_ => (w.heap.size ≤ k_) ∧ k_ ≠ gb215)) (okp := (fun k_ => (w.heap.size ≤ k_) ∧ k_ ≠ gb215)) ?hr ?hp (fun _ hk => hk) ((show ∀ k_, w4.heap.size ≤ k_ → (fun k_ => (w.heap.size ≤ k_) ∧ k_ ≠ gb215) k_ from fun k_ hk => ⟨(Nat.le_trans (zv (by repeat (with_reducible first | exact HB.out | apply zj | apply zq | apply zw | refine zx ?_ GE215.out))) hk), Kd.freshB (g := gb215) (o := .cells #[.slice A0_0 l0_0.length c0_0, .int .i64 a0_1] 32 (0, 0)) (by (with_reducible repeat (first | refine qq ?_ _ | refine qj ?_ | refine qz ?_ _)); exact BK215.out) k_ hk⟩) _ (Nat.le_refl _)) (Below.refl _ _) (Nat.le_refl _) (by simp) ?_; (case hd => rfl); (case hg => rfl); (case hr => first | (go_simp; done) | (go_simp; rfl)); (case hp => exact (Reps.one (show Kd.FK (Kd.slice 3 (Kd.int .i64)) _ _ y216 [.slice Ao6 y216.length co6] from (Kd.FK_slice_mk (kz (vk (ok' := (fun k_ => (w.heap.size ≤ k_) ∧ k_ ≠ gb215)) (Kd.R_types (HO218.out) BK215.out (by decide)) (fun k_ hk => ⟨hk.1.1, hk.2⟩))).2.1 (Kd.R_F (vk (ok' := (fun k_ => (w.heap.size ≤ k_) ∧ k_ ≠ gb215)) (Kd.R_types (HO218.out) BK215.out (by decide)) (fun k_ hk => ⟨hk.1.1, hk.2⟩))))) (Reps.none _ _))); intro v220 w7 ho8 hb hg_ hnew_; clear hg_ hnew_; (first | rw [← Ny219.out] at ho8 | (simp only [Int.reduceToNat] at ho8; rw [← Ny219.out] at ho8)); have n0_ := zz (Kd.N_lower ho8 (zv (by repeat (with_reducible first | exact HB.out | apply zj | apply zq | apply zw | refine zx ?_ GE215.out)))); have n1_ := zz (qv (g := gb215) (o := .cells #[.slice A0_0 l0_0.length c0_0, .int .i64 a0_1] 32 (0, 0)) (by (with_reducible repeat (first | refine qq ?_ _ | refine qj ?_ | refine qz ?_ _)); exact BK215.out) hb); have n2_ := zz (zk (by repeat (with_reducible first | exact HB.out | apply zj | apply zq | apply zw | refine zx ?_ GE215.out)) hb); clear BK215; clear HB; clear HO218; have HO221 := n0_; have BK215 := n1_; have HB := n2_; clear n0_ n1_ n2_; clear hb ho8; have hcz9_0 : w7.cell? ⟨gb215, 0, none⟩ = some (.slice A0_0 l0_0.length c0_0) := (qw BK215.out 0).trans rfl; have hcz9_1 : w7.cell? ⟨gb215, 1, none⟩ = some (.int .i64 a0_1) := (qw BK215.out 1).trans rfl; have hfz9_0 := qx BK215.out 0; have hfz9_1 := qx BK215.out 1))
  go_ret2
  exact ⟨_, by first | rfl | (simp <;> rfl) | (simp [*] <;> rfl), by first | exact Kd.S_nil _ _ _ _ _ | exact Kd.N_nil _ _ _ _ _ | exact Kd.V_nil _ _ _ _ _ | exact Kd.Q_nil _ _ _ _ _ | exact Kd.R_nil _ _ _ _ _, by repeat (with_reducible first | exact HB.out | apply zj | apply zq | apply zw | refine zx ?_ GE215.out)⟩
 ·rw [if_neg c2] at H
  have c2b0 : decide (120 < (l0_0.length : Int)) = false := decide_eq_false c2
  have c2b1 : decide (120 < l0_0.length) = false := decide_eq_false (by omega)
  clear c2
  have H' := zz H
  clear H
  go_enter Try.func194, Try.ntmps194
  go_wp2_with (first | ((with_reducible refine vw (N := 1) rfl ?_); refine vx ?hg (N := 1) ?hd (cs := #[.slice A0_0 l0_0.length c0_0, .int .i64 a0_1]) (t := 32) ?hr ?_; (case hd => rfl); (case hg => rfl); (case hr => first | (go_simp; done) | (go_simp; rfl)); intro gb215 hg w10 hbox hb; have n0_ := zz (zk (by repeat (with_reducible first | exact HB.out | apply zj | apply zq | apply zw)) hb); have n1_ := zz (hbox); have n2_ := zz ((by rw [hg]; exact (zv (by repeat (with_reducible first | exact HB.out | apply zj | apply zq | apply zw))) : w.heap.size ≤ gb215)); have n3_ := zz ((by rw [hg]; exact (zv (by repeat (with_reducible first | exact HB.out | apply zj | apply zq | apply zw))) : w.heap.size ≤ gb215)); clear HB; have HB := n0_; have BK215 := n1_; have GW215 := n2_; have GE215 := n3_; clear n0_ n1_ n2_ n3_; clear hb hbox hg) | ((with_reducible refine vw (N := 9) rfl ?_); refine Kd.R_lit (Kd.int .i64) _ 3 ?hg (N := 9) ?hd (xs := ([0, 1] : List Int)) (inner := [.int .i64 0, .int .i64 1]) (ok := fun _ => True) (okp := fun _ => True) ?hr ?hp (fun _ hk => hk) trivial (Below.refl _ _) (Nat.le_refl _) (by simp) ?_; (case hd => rfl); (case hg => rfl); (case hr => first | (go_simp; done) | (go_simp; rfl)); (case hp => exact (Reps.one (show Kd.M (Kd.int .i64) _ _ _ 0 [.int .i64 0] from rfl) (Reps.one (show Kd.M (Kd.int .i64) _ _ _ 1 [.int .i64 1] from rfl) (Reps.none _ _)))); intro v217 w11 ho12 hb hg_ hnew_; clear hg_ hnew_; (first | rw [← Ny216.out] at ho12 | (simp only [Int.reduceToNat] at ho12; rw [← Ny216.out] at ho12)); have n0_ := zz (Kd.R_lower (Kd.R_newM (M := fun k_ => (w.heap.size ≤ k_)) ho12 (zv (by repeat (with_reducible first | exact HB.out | apply zj | apply zq | apply zw | refine zx ?_ GE215.out))) (fun k_ h_ => h_)) (zv (by repeat (with_reducible first | exact HB.out | apply zj | apply zq | apply zw | refine zx ?_ GE215.out)))); have n1_ := zz (qv (g := gb215) (o := .cells #[.slice A0_0 l0_0.length c0_0, .int .i64 a0_1] 32 (0, 0)) (by (with_reducible repeat (first | refine qq ?_ _ | refine qj ?_ | refine qz ?_ _)); exact BK215.out) hb); have n2_ := zz (zk (by repeat (with_reducible first | exact HB.out | apply zj | apply zq | apply zw | refine zx ?_ GE215.out)) hb); clear BK215; clear HB; have HO218 := n0_; have BK215 := n1_; have HB := n2_; clear n0_ n1_ n2_; clear hb ho12; obtain ⟨Ao13, co13, eo13⟩ := kj HO218.out; subst eo13) | ((with_reducible refine vw (N := 10) rfl ?_); refine Kd.N_lit (Kd.slice 3 (Kd.int .i64)) _ 29 ?hg (N' := 10) ?hd (xs := ([y216] : List (List Int))) (inner := [.slice Ao13 y216.length co13]) (ok := (fun k_ => (w.heap.size ≤ k_) ∧ k_ ≠ gb215)) (okp := (fun k_ => (w.heap.size ≤ k_) ∧ k_ ≠ gb215)) ?hr ?hp (fun _ hk => hk) ((show ∀ k_, w11.heap.size ≤ k_ → (fun k_ => (w.heap.size ≤ k_) ∧ k_ ≠ gb215) k_ from fun k_ hk => ⟨(Nat.le_trans (zv (by repeat (with_reducible first | exact HB.out | apply zj | apply zq | apply zw | refine zx ?_ GE215.out))) hk), Kd.freshB (g := gb215) (o := .cells #[.slice A0_0 l0_0.length c0_0, .int .i64 a0_1] 32 (0, 0)) (by (with_reducible repeat (first | refine qq ?_ _ | refine qj ?_ | refine qz ?_ _)); exact BK215.out) k_ hk⟩) _ (Nat.le_refl _)) (Below.refl _ _) (Nat.le_refl _) (by simp) ?_; (case hd => rfl); (case hg => rfl); (case hr => first | (go_simp; done) | (go_simp; rfl)); (case hp => exact (Reps.one (show Kd.FK (Kd.slice 3 (Kd.int .i64)) _ _ y216 [.slice Ao13 y216.length co13] from (Kd.FK_slice_mk (kz (vk (ok' := (fun k_ => (w.heap.size ≤ k_) ∧ k_ ≠ gb215)) (Kd.R_types (HO218.out) BK215.out (by decide)) (fun k_ hk => ⟨hk.1.1, hk.2⟩))).2.1 (Kd.R_F (vk (ok' := (fun k_ => (w.heap.size ≤ k_) ∧ k_ ≠ gb215)) (Kd.R_types (HO218.out) BK215.out (by decide)) (fun k_ hk => ⟨hk.1.1, hk.2⟩))))) (Reps.none _ _))); intro v220 w14 ho15 hb hg_ hnew_; clear hg_ hnew_; (first | rw [← Ny219.out] at ho15 | (simp only [Int.reduceToNat] at ho15; rw [← Ny219.out] at ho15)); have n0_ := zz (Kd.N_lower ho15 (zv (by repeat (with_reducible first | exact HB.out | apply zj | apply zq | apply zw | refine zx ?_ GE215.out)))); have n1_ := zz (qv (g := gb215) (o := .cells #[.slice A0_0 l0_0.length c0_0, .int .i64 a0_1] 32 (0, 0)) (by (with_reducible repeat (first | refine qq ?_ _ | refine qj ?_ | refine qz ?_ _)); exact BK215.out) hb); have n2_ := zz (zk (by repeat (with_reducible first | exact HB.out | apply zj | apply zq | apply zw | refine zx ?_ GE215.out)) hb); clear BK215; clear HB; clear HO218; have HO221 := n0_; have BK215 := n1_; have HB := n2_; clear n0_ n1_ n2_; clear hb ho15; have hcz16_0 : w14.cell? ⟨gb215, 0, none⟩ = some (.slice A0_0 l0_0.length c0_0) := (qw BK215.out 0).trans rfl; have hcz16_1 : w14.cell? ⟨gb215, 1, none⟩ = some (.int .i64 a0_1) := (qw BK215.out 1).trans rfl; have hfz16_0 := qx BK215.out 0; have hfz16_1 := qx BK215.out 1))
  go_loopg [4, 18] k (fun kq v4 v18 w' => ∃ (x4_1 : List (List Int)) (x18_1 : Int), v18 = .int .i64 x18_1 ∧ Aside0 (spec_poValues.l0 kq x4_1 l0_0 (l0_0.length : Int) x18_1 l0_0 a0_1 = some (r1, r2)) ∧ Aside0 (kq ≤ k) ∧ Aside0 (Kd.N (Kd.slice 3 (Kd.int .i64)) 29 w' w.heap.size (fun k_ => (w.heap.size ≤ k_) ∧ k_ ≠ gb215) v4 x4_1) ∧ Aside0 (w'.heap[gb215]? = some (.cells #[(.slice A0_0 l0_0.length c0_0), .int .i64 a0_1] 32 (0, 0))) ∧ Aside0 (Below w.heap.size w w'))
  case atStart => exact ⟨(y219), (0), (by first | rfl | (simp; done) | (simp [*]; done)), H', ⟨Nat.le_refl _⟩, ⟨by (with_reducible repeat (first | apply yq | apply yj | apply yw)); exact HO221.out⟩, ⟨by (with_reducible repeat (first | refine qq ?_ _ | refine qj ?_ | refine qz ?_ _)); exact BK215.out⟩, ⟨by repeat (with_reducible first | exact HB.out | apply zj | apply zq | apply zw | refine zx ?_ GE215.out)⟩⟩
  case round =>
   clear H'
   try clear c1
   try clear c2
   try clear c2b0
   try clear c2b1
   try clear p2
   try clear hcz16_0
   try clear hcz16_1
   try clear hcz9_0
   try clear hcz9_1
   try clear hfz16_0
   try clear hfz16_1
   try clear hfz9_0
   try clear hfz9_1
   obtain ⟨x4_1, x18_1, rfl, HA, HK1, HO_4, BK215, HB⟩ := hrel
   cases gk with
   | zero => exact absurd HA.out (by simp [spec_poValues.l0])
   | succ k1 =>
    have H := HA.out
    clear HA
    simp only [spec_poValues.l0] at H
    by_cases c17 : x18_1 < (l0_0.length : Int)
    ·rw [if_pos c17] at H
     have c17b0 : decide (x18_1 < (l0_0.length : Int)) = true := decide_eq_true c17
     clear c17
     by_cases c18 : 0 ≤ x18_1
     ·rw [if_pos c18] at H
      have c18b0 : decide (0 ≤ x18_1) = true := decide_eq_true c18
      clear c18
      by_cases c19 : x18_1 < (l0_0.length : Int)
      ·rw [if_pos c19] at H
       have c19b0 : decide (x18_1 < (l0_0.length : Int)) = true := decide_eq_true c19
       clear c19
       replace H := Option.bind_eq_some_iff.mp H
       obtain ⟨⟨t225, t228⟩, A200, H⟩ := H
       replace H : (if t228 = true then ((spec_poSmall.f k1 t225).bind fun t229 => (if t229 = true then (if x4_1.length < 5864062014805 then (spec_poValues.l0 k1 (x4_1 ++ [t225]) l0_0 (l0_0.length : Int) (wrap64 (x18_1 + 1)) l0_0 a0_1) else (none)) else (some (([] : List (List Int)), false)))) else (some (([] : List (List Int)), false))) = some (r1, r2) := H
       have A20 := zz A200
       clear A200
       by_cases c21 : t228 = true
       ·subst c21
        have H1 : ((spec_poSmall.f k1 t225).bind fun t229 => (if t229 = true then (if x4_1.length < 5864062014805 then (spec_poValues.l0 k1 (x4_1 ++ [t225]) l0_0 (l0_0.length : Int) (wrap64 (x18_1 + 1)) l0_0 a0_1) else (none)) else (some (([] : List (List Int)), false)))) = some (r1, r2) := by rw [if_pos rfl] at H; exact H
        clear H
        have H := H1
        clear H1
        replace H := Option.bind_eq_some_iff.mp H
        obtain ⟨t229, A220, H⟩ := H
        replace H : (if t229 = true then (if x4_1.length < 5864062014805 then (spec_poValues.l0 k1 (x4_1 ++ [t225]) l0_0 (l0_0.length : Int) (wrap64 (x18_1 + 1)) l0_0 a0_1) else (none)) else (some (([] : List (List Int)), false))) = some (r1, r2) := H
        have A22 := zz A220
        clear A220
        by_cases c23 : t229 = true
        ·subst c23
         have H1 : (if x4_1.length < 5864062014805 then (spec_poValues.l0 k1 (x4_1 ++ [t225]) l0_0 (l0_0.length : Int) (wrap64 (x18_1 + 1)) l0_0 a0_1) else (none)) = some (r1, r2) := by rw [if_pos rfl] at H; exact H
         clear H
         have H := H1
         clear H1
         by_cases c24 : x4_1.length < 5864062014805
         ·rw [if_pos c24] at H
          have LMc24 := zz c24
          clear c24
          obtain ⟨y230, hy230⟩ : ∃ y_ : List (List Int), y_ = (x4_1 ++ [t225]) := ⟨_, rfl⟩
          replace H : (spec_poValues.l0 k1 y230 l0_0 (l0_0.length : Int) (wrap64 (x18_1 + 1)) l0_0 a0_1) = some (r1, r2) := by first | (rw [hy230]; with_reducible exact H) | (have H2_ := (Option.bind_some _ _).symm.trans H; rw [hy230]; with_reducible exact H2_) | (have H2_ := (Option.bind_some _ _).symm.trans H; with_reducible exact H2_) | with_reducible exact H | (rw [hy230]; exact H) | exact H
          have Ny230 := zz hy230
          clear hy230
          have H' := zz H
          clear H
          have p223 : 0 ≤ (x18_1 : Int) := of_decide_eq_true (by with_reducible assumption)
          have q223 : x18_1 < (l0_0.length : Int) := of_decide_eq_true (by with_reducible assumption)
          obtain ⟨ad223, e223, hx223_0, hx223_1, hx223_2⟩ := at_T109 HR0_0.out x18_1 p223 q223
          cases e223
          replace hx223_0 := (HB.out.cell (jq w _ hx223_0)).trans hx223_0
          replace hx223_1 := (HB.out.cell (jq w _ hx223_1)).trans hx223_1
          replace hx223_2 := (HB.out.cell (jq w _ hx223_2)).trans hx223_2
          replace p223 := eq_true p223
          replace q223 := eq_true q223
          go_wp2_with (first | ((with_reducible refine vw (N := 6) rfl ?_); refine vx ?hg (N := 6) ?hd (cs := #[.int .i64 0, .int .i64 0, .int .i64 0]) (t := 109) ?hr ?_; (case hd => rfl); (case hg => rfl); (case hr => first | (go_simp; done) | (go_simp; rfl)); intro gb224 hg w25 hbox hb; have n0_ := zz (Kd.N_below (Kd.N_elderB (by (with_reducible repeat (first | apply yq | apply yj | apply yw)); exact HO_4.out) gb224 (Nat.le_of_eq hg.symm)) hb); have n1_ := zz (qv (g := gb215) (o := .cells #[.slice (some ad223) l0_0.length c0_0, .int .i64 a0_1] 32 (0, 0)) (by (with_reducible repeat (first | refine qq ?_ _ | refine qj ?_ | refine qz ?_ _)); exact BK215.out) hb); have n2_ := zz (zk (by repeat (with_reducible first | exact HB.out | apply zj | apply zq | apply zw | refine zx ?_ GE215.out)) hb); have n3_ := zz (hbox); have n4_ := zz ((by rw [hg]; exact (zv (by repeat (with_reducible first | exact HB.out | apply zj | apply zq | apply zw | refine zx ?_ GE215.out))) : w.heap.size ≤ gb224)); have n5_ := zz ((by rw [hg]; exact (zv (by repeat (with_reducible first | exact HB.out | apply zj | apply zq | apply zw | refine zx ?_ GE215.out))) : w.heap.size ≤ gb224)); have n6_ := zz ((by rw [hg]; exact Nat.ne_of_lt (blk_lt (g := gb215) (o := .cells #[.slice (some ad223) l0_0.length c0_0, .int .i64 a0_1] 32 (0, 0)) (by (with_reducible repeat (first | refine qq ?_ _ | refine qj ?_ | refine qz ?_ _)); exact BK215.out)) : gb215 ≠ gb224)); have n7_ := zz ((by rw [hg]; exact Nat.ne_of_gt (blk_lt (g := gb215) (o := .cells #[.slice (some ad223) l0_0.length c0_0, .int .i64 a0_1] 32 (0, 0)) (by (with_reducible repeat (first | refine qq ?_ _ | refine qj ?_ | refine qz ?_ _)); exact BK215.out)) : gb224 ≠ gb215)); clear HO_4; clear BK215; clear HB; have HO_4 := n0_; have BK215 := n1_; have HB := n2_; have BK224 := n3_; have GW224 := n4_; have GE224 := n5_; have NB215_224 := n6_; have NB224_215 := n7_; clear n0_ n1_ n2_ n3_ n4_ n5_ n6_ n7_; clear hb hbox hg; have hnb26 := NB224_215.out; have hnc26 := NB215_224.out; have hcz27_0 : w25.cell? ⟨gb224, 0, none⟩ = some (.int .i64 0) := (qw BK224.out 0).trans rfl; have hcz27_1 : w25.cell? ⟨gb224, 1, none⟩ = some (.int .i64 0) := (qw BK224.out 1).trans rfl; have hcz27_2 : w25.cell? ⟨gb224, 2, none⟩ = some (.int .i64 0) := (qw BK224.out 2).trans rfl; have hfz27_0 := qx BK224.out 0; have hfz27_1 := qx BK224.out 1; have hfz27_2 := qx BK224.out 2; obtain ⟨Ao28, co28, eo28⟩ := Kd.N_slice HO_4.out; subst eo28) | ((with_reducible refine vj (f := 235) rfl ?_); refine goesL_ (some 25) rfl rfl Try.func235 (by kernel_rfl) rfl #[.agg #[.int .i64 ((rd_T109 l0_0 x18_1).f0), .int .i64 ((rd_T109 l0_0 x18_1).f1), .int .i64 ((rd_T109 l0_0 x18_1).f2)], .slice Ao28 x4_1.length co28] rfl (by (try simp only [yv, List.map_cons, List.map_nil]); first | done | rfl) ?_; (with_reducible refine (spec_poOp.calls k1 ((rd_T109 l0_0 x18_1).f0) ((rd_T109 l0_0 x18_1).f1) ((rd_T109 l0_0 x18_1).f2) _ _ x4_1 t225 true _ ?side1 ?side2 A20.out).mono ?_); (case side1 => refine (Kd.N_reads' (e := 29) (base := w.heap.size) (ok := fun k_ => (((w.heap.size ≤ k_) ∧ k_ ≠ gb215) ∧ k_ ≠ gb224)) (n := x4_1.length) (c := co28) ?_).2.2; exact (by (with_reducible repeat (first | apply yq | apply yj | apply yw)); exact (Kd.N_mono (Kd.N_far (p := ⟨gb224, 2, none⟩) (Kd.N_far (p := ⟨gb224, 1, none⟩) (Kd.N_far (p := ⟨gb224, 0, none⟩) (Kd.N_mono HO_4.out (fun k_ hk => (⟨hk, hk.2⟩ : _ ∧ k_ ≠ gb224))) (fun _ hk => hk.2) (.int .i64 ((rd_T109 l0_0 x18_1).f0))) (fun _ hk => hk.2) (.int .i64 ((rd_T109 l0_0 x18_1).f1))) (fun _ hk => hk.2) (.int .i64 ((rd_T109 l0_0 x18_1).f2))) (fun _ h_ => h_.1)))); (case side2 => exact (Kd.N_reads' HO_4.out).2.1); rintro e w29 ⟨v226, rfl, ho0, hb⟩; refine ⟨_, rfl, ?_⟩; have n0_ := zz (Kd.N_elder' (by (with_reducible repeat (first | apply yq | apply yj | apply yw)); exact (Kd.N_mono (Kd.N_far (p := ⟨gb224, 2, none⟩) (Kd.N_far (p := ⟨gb224, 1, none⟩) (Kd.N_far (p := ⟨gb224, 0, none⟩) (Kd.N_mono HO_4.out (fun k_ hk => (⟨hk, hk.2⟩ : _ ∧ k_ ≠ gb224))) (fun _ hk => hk.2) (.int .i64 ((rd_T109 l0_0 x18_1).f0))) (fun _ hk => hk.2) (.int .i64 ((rd_T109 l0_0 x18_1).f1))) (fun _ hk => hk.2) (.int .i64 ((rd_T109 l0_0 x18_1).f2))) (fun _ h_ => h_.1))) (Kd.R_base ho0) hb); have n1_ := zz (Kd.R_lower (Kd.R_newM (M := fun k_ => (w.heap.size ≤ k_)) ho0 (zv (by repeat (with_reducible first | exact HB.out | apply zj | apply zq | apply zw | refine zx ?_ GE215.out | refine zx ?_ GE224.out))) (fun k_ h_ => h_)) (zv (by repeat (with_reducible first | exact HB.out | apply zj | apply zq | apply zw | refine zx ?_ GE215.out | refine zx ?_ GE224.out)))); have n2_ := zz (qv (g := gb215) (o := .cells #[.slice (some ad223) l0_0.length c0_0, .int .i64 a0_1] 32 (0, 0)) (by (with_reducible repeat (first | refine qq ?_ _ | refine qj ?_ | refine qz ?_ _)); refine blk_far ?_ NB215_224.out _; (with_reducible repeat (first | refine qq ?_ _ | refine qj ?_ | refine qz ?_ _)); refine blk_far ?_ NB215_224.out _; (with_reducible repeat (first | refine qq ?_ _ | refine qj ?_ | refine qz ?_ _)); refine blk_far ?_ NB215_224.out _; (with_reducible repeat (first | refine qq ?_ _ | refine qj ?_ | refine qz ?_ _)); exact BK215.out) hb); have n3_ := zz (qv (g := gb224) (o := .cells #[.int .i64 ((rd_T109 l0_0 x18_1).f0), .int .i64 ((rd_T109 l0_0 x18_1).f1), .int .i64 ((rd_T109 l0_0 x18_1).f2)] 109 (0, 0)) (by (with_reducible repeat (first | refine qq ?_ _ | refine qj ?_ | refine qz ?_ _)); refine qk (cs := #[.int .i64 ((rd_T109 l0_0 x18_1).f0), .int .i64 ((rd_T109 l0_0 x18_1).f1), .int .i64 0]) ?_ 2 _ rfl; (with_reducible repeat (first | refine qq ?_ _ | refine qj ?_ | refine qz ?_ _)); refine qk (cs := #[.int .i64 ((rd_T109 l0_0 x18_1).f0), .int .i64 0, .int .i64 0]) ?_ 1 _ rfl; (with_reducible repeat (first | refine qq ?_ _ | refine qj ?_ | refine qz ?_ _)); refine qk (cs := #[.int .i64 0, .int .i64 0, .int .i64 0]) ?_ 0 _ rfl; (with_reducible repeat (first | refine qq ?_ _ | refine qj ?_ | refine qz ?_ _)); exact BK224.out) hb); have n4_ := zz (zk (by repeat (with_reducible first | exact HB.out | apply zj | apply zq | apply zw | refine zx ?_ GE215.out | refine zx ?_ GE224.out)) hb); clear HO_4; clear BK215; clear BK224; clear HB; have HO_4 := n0_; have HO227 := n1_; have BK215 := n2_; have BK224 := n3_; have HB := n4_; clear n0_ n1_ n2_ n3_ n4_; (try clear hb); (try clear hi hk); (try clear ho0); obtain ⟨Ao30, co30, eo30⟩ := kj HO227.out; subst eo30) | (go_at_call 189; (with_reducible refine (spec_poSmall.calls k1 _ _ t225 true _ ?side1 ?side2 A22.out).mono ?_); (case side1 => repeat (first | exact (kz HO227.out).2.2 | (with_reducible refine jk ?_ _) | (with_reducible refine jv ?_ _) | (with_reducible refine yz ?_))); (case side2 => exact (kz HO227.out).2.1); rintro e w' ⟨rfl, ⟨nd, rfl⟩⟩) | ((with_reducible refine gate_builtin (b := .append) (xs := #[.tmp 35, .tmp 37]) rfl ?_); at_builtin; refine Kd.N_append (Kd.slice 3 (Kd.int .i64)) (w0 := w) w.heap.size rfl (.tmp 35) (.tmp 37) 79 29 (.slice none 0 0) 24 rfl Try.underlying79 info29 rfl (by decide) (by omega) (.slice Ao28 x4_1.length co28) x4_1 t225 [.slice Ao30 t225.length co30] (fun k_ => (w.heap.size ≤ k_) ∧ k_ ≠ gb215 ∧ k_ ≠ gb224) (fun k_ => ((fun k_ => (w.heap.size ≤ k_) ∧ k_ ≠ gb215 ∧ k_ ≠ gb224)) k_ ∧ some k_ ≠ (.slice Ao28 x4_1.length co28 : Value).ownBlock) rfl rfl ?aP (fun _ hk => hk) ?aF ?aO ?aB ?aS ?aL ?_; (case aP => exact (Kd.FK_slice_mk (kz (vk (ok' := (fun k_ => ((fun k_ => (w.heap.size ≤ k_) ∧ k_ ≠ gb215 ∧ k_ ≠ gb224)) k_ ∧ some k_ ≠ (.slice Ao28 x4_1.length co28 : Value).ownBlock)) (Kd.R_types (Kd.R_types (Kd.R_apart' (HO227.out) (Kd.N_typed HO_4.out) (by decide)) BK215.out (by decide)) BK224.out (by decide)) (fun k_ hk => ⟨⟨hk.1.1.1.1, ⟨hk.1.2, hk.2⟩⟩, hk.1.1.2⟩))).2.1 (Kd.R_F (vk (ok' := (fun k_ => ((fun k_ => (w.heap.size ≤ k_) ∧ k_ ≠ gb215 ∧ k_ ≠ gb224)) k_ ∧ some k_ ≠ (.slice Ao28 x4_1.length co28 : Value).ownBlock)) (Kd.R_types (Kd.R_types (Kd.R_apart' (HO227.out) (Kd.N_typed HO_4.out) (by decide)) BK215.out (by decide)) BK224.out (by decide)) (fun k_ hk => ⟨⟨hk.1.1.1.1, ⟨hk.1.2, hk.2⟩⟩, hk.1.1.2⟩))))); (case aB => exact (by repeat (with_reducible first | exact HB.out | apply zj | apply zq | apply zw | refine zx ?_ GE215.out | refine zx ?_ GE224.out))); (case aF => exact (fun k_ hk => ⟨(Nat.le_trans (zv (by repeat (with_reducible first | exact HB.out | apply zj | apply zq | apply zw | refine zx ?_ GE215.out | refine zx ?_ GE224.out))) hk), Kd.freshB (g := gb215) (o := .cells #[.slice (some ad223) l0_0.length c0_0, .int .i64 a0_1] 32 (0, 0)) (by (with_reducible repeat (first | refine qq ?_ _ | refine qj ?_ | refine qz ?_ _)); exact BK215.out) k_ hk, Kd.freshB (g := gb224) (o := .cells #[.int .i64 ((rd_T109 l0_0 x18_1).f0), .int .i64 ((rd_T109 l0_0 x18_1).f1), .int .i64 ((rd_T109 l0_0 x18_1).f2)] 109 (0, 0)) (by (with_reducible repeat (first | refine qq ?_ _ | refine qj ?_ | refine qz ?_ _)); exact BK224.out) k_ hk⟩)); (case aO => exact (by (with_reducible repeat (first | apply yq | apply yj | apply yw)); exact Kd.N_mono HO_4.out (fun _ hk => ⟨hk.1.1.1, ⟨hk.1.1.2, hk.1.2⟩⟩))); (case aS => exact (zv (by repeat (with_reducible first | exact HB.out | apply zj | apply zq | apply zw | refine zx ?_ GE215.out | refine zx ?_ GE224.out)))); (case aL => have := LMc24.out; omega); intro v231 w31 ho hb hg hat; rw [← Ny230.out] at ho; have n0_ := zz (blk_grown (g := gb215) (o := .cells #[.slice (some ad223) l0_0.length c0_0, .int .i64 a0_1] 32 (0, 0)) (by (with_reducible repeat (first | refine qq ?_ _ | refine qj ?_ | refine qz ?_ _)); exact BK215.out) hg (Kd.N_ne HO_4.out BK215.out (by decide))); have n1_ := zz (blk_grown (g := gb224) (o := .cells #[.int .i64 ((rd_T109 l0_0 x18_1).f0), .int .i64 ((rd_T109 l0_0 x18_1).f1), .int .i64 ((rd_T109 l0_0 x18_1).f2)] 109 (0, 0)) (by (with_reducible repeat (first | refine qq ?_ _ | refine qj ?_ | refine qz ?_ _)); exact BK224.out) hg (Kd.N_ne HO_4.out BK224.out (by decide))); have n2_ := zz (hb); have n3_ := zz (ho); clear BK215; clear BK224; clear HB; clear HO_4; clear HO227; have BK215 := n0_; have BK224 := n1_; have HB := n2_; have HO232 := n3_; clear n0_ n1_ n2_ n3_; clear ho hb hg hat))
          go_roundg k1
          case measure => have := HK1.out; omega
          case rel => exact ⟨(y230), (wrap64 (x18_1 + 1)), (by first | rfl | (simp; done) | (simp [*]; done)), H', ⟨by have := HK1.out; omega⟩, ⟨by (with_reducible repeat (first | apply yq | apply yj | apply yw)); exact Kd.N_mono HO232.out (fun _ hk => ⟨hk.1, hk.2.1⟩)⟩, ⟨by (with_reducible repeat (first | refine qq ?_ _ | refine qj ?_ | refine qz ?_ _)); exact BK215.out⟩, ⟨by repeat (with_reducible first | exact HB.out | apply zj | apply zq | apply zw | refine zx ?_ GE215.out | refine zx ?_ GE224.out)⟩⟩
         ·rw [if_neg c24] at H
          exact absurd H (by simp)
        ·replace c23 := Bool.eq_false_iff.mpr c23
         subst c23
         have H1 : (some (([] : List (List Int)), false)) = some (r1, r2) := by rw [if_neg (show ¬ (false = true) by decide)] at H; exact H
         clear H
         have H := H1
         clear H1
         simp only [Option.some.injEq, Prod.mk.injEq] at H
         obtain ⟨rfl, rfl⟩ := H
         have p223 : 0 ≤ (x18_1 : Int) := of_decide_eq_true (by with_reducible assumption)
         have q223 : x18_1 < (l0_0.length : Int) := of_decide_eq_true (by with_reducible assumption)
         obtain ⟨ad223, e223, hx223_0, hx223_1, hx223_2⟩ := at_T109 HR0_0.out x18_1 p223 q223
         cases e223
         replace hx223_0 := (HB.out.cell (jq w _ hx223_0)).trans hx223_0
         replace hx223_1 := (HB.out.cell (jq w _ hx223_1)).trans hx223_1
         replace hx223_2 := (HB.out.cell (jq w _ hx223_2)).trans hx223_2
         replace p223 := eq_true p223
         replace q223 := eq_true q223
         go_wp2_with (first | ((with_reducible refine vw (N := 6) rfl ?_); refine vx ?hg (N := 6) ?hd (cs := #[.int .i64 0, .int .i64 0, .int .i64 0]) (t := 109) ?hr ?_; (case hd => rfl); (case hg => rfl); (case hr => first | (go_simp; done) | (go_simp; rfl)); intro gb224 hg w32 hbox hb; have n0_ := zz (Kd.N_below (Kd.N_elderB (by (with_reducible repeat (first | apply yq | apply yj | apply yw)); exact HO_4.out) gb224 (Nat.le_of_eq hg.symm)) hb); have n1_ := zz (qv (g := gb215) (o := .cells #[.slice (some ad223) l0_0.length c0_0, .int .i64 a0_1] 32 (0, 0)) (by (with_reducible repeat (first | refine qq ?_ _ | refine qj ?_ | refine qz ?_ _)); exact BK215.out) hb); have n2_ := zz (zk (by repeat (with_reducible first | exact HB.out | apply zj | apply zq | apply zw | refine zx ?_ GE215.out)) hb); have n3_ := zz (hbox); have n4_ := zz ((by rw [hg]; exact (zv (by repeat (with_reducible first | exact HB.out | apply zj | apply zq | apply zw | refine zx ?_ GE215.out))) : w.heap.size ≤ gb224)); have n5_ := zz ((by rw [hg]; exact (zv (by repeat (with_reducible first | exact HB.out | apply zj | apply zq | apply zw | refine zx ?_ GE215.out))) : w.heap.size ≤ gb224)); have n6_ := zz ((by rw [hg]; exact Nat.ne_of_lt (blk_lt (g := gb215) (o := .cells #[.slice (some ad223) l0_0.length c0_0, .int .i64 a0_1] 32 (0, 0)) (by (with_reducible repeat (first | refine qq ?_ _ | refine qj ?_ | refine qz ?_ _)); exact BK215.out)) : gb215 ≠ gb224)); have n7_ := zz ((by rw [hg]; exact Nat.ne_of_gt (blk_lt (g := gb215) (o := .cells #[.slice (some ad223) l0_0.length c0_0, .int .i64 a0_1] 32 (0, 0)) (by (with_reducible repeat (first | refine qq ?_ _ | refine qj ?_ | refine qz ?_ _)); exact BK215.out)) : gb224 ≠ gb215)); clear HO_4; clear BK215; clear HB; have HO_4 := n0_; have BK215 := n1_; have HB := n2_; have BK224 := n3_; have GW224 := n4_; have GE224 := n5_; have NB215_224 := n6_; have NB224_215 := n7_; clear n0_ n1_ n2_ n3_ n4_ n5_ n6_ n7_; clear hb hbox hg; have hnb33 := NB224_215.out; have hnc33 := NB215_224.out; have hcz34_0 : w32.cell? ⟨gb224, 0, none⟩ = some (.int .i64 0) := (qw BK224.out 0).trans rfl; have hcz34_1 : w32.cell? ⟨gb224, 1, none⟩ = some (.int .i64 0) := (qw BK224.out 1).trans rfl; have hcz34_2 : w32.cell? ⟨gb224, 2, none⟩ = some (.int .i64 0) := (qw BK224.out 2).trans rfl; have hfz34_0 := qx BK224.out 0; have hfz34_1 := qx BK224.out 1; have hfz34_2 := qx BK224.out 2; obtain ⟨Ao35, co35, eo35⟩ := Kd.N_slice HO_4.out; subst eo35) | ((with_reducible refine vj (f := 235) rfl ?_); refine goesL_ (some 25) rfl rfl Try.func235 (by kernel_rfl) rfl #[.agg #[.int .i64 ((rd_T109 l0_0 x18_1).f0), .int .i64 ((rd_T109 l0_0 x18_1).f1), .int .i64 ((rd_T109 l0_0 x18_1).f2)], .slice Ao35 x4_1.length co35] rfl (by (try simp only [yv, List.map_cons, List.map_nil]); first | done | rfl) ?_; (with_reducible refine (spec_poOp.calls k1 ((rd_T109 l0_0 x18_1).f0) ((rd_T109 l0_0 x18_1).f1) ((rd_T109 l0_0 x18_1).f2) _ _ x4_1 t225 true _ ?side1 ?side2 A20.out).mono ?_); (case side1 => refine (Kd.N_reads' (e := 29) (base := w.heap.size) (ok := fun k_ => (((w.heap.size ≤ k_) ∧ k_ ≠ gb215) ∧ k_ ≠ gb224)) (n := x4_1.length) (c := co35) ?_).2.2; exact (by (with_reducible repeat (first | apply yq | apply yj | apply yw)); exact (Kd.N_mono (Kd.N_far (p := ⟨gb224, 2, none⟩) (Kd.N_far (p := ⟨gb224, 1, none⟩) (Kd.N_far (p := ⟨gb224, 0, none⟩) (Kd.N_mono HO_4.out (fun k_ hk => (⟨hk, hk.2⟩ : _ ∧ k_ ≠ gb224))) (fun _ hk => hk.2) (.int .i64 ((rd_T109 l0_0 x18_1).f0))) (fun _ hk => hk.2) (.int .i64 ((rd_T109 l0_0 x18_1).f1))) (fun _ hk => hk.2) (.int .i64 ((rd_T109 l0_0 x18_1).f2))) (fun _ h_ => h_.1)))); (case side2 => exact (Kd.N_reads' HO_4.out).2.1); rintro e w36 ⟨v226, rfl, ho0, hb⟩; refine ⟨_, rfl, ?_⟩; have n0_ := zz (Kd.N_elder' (by (with_reducible repeat (first | apply yq | apply yj | apply yw)); exact (Kd.N_mono (Kd.N_far (p := ⟨gb224, 2, none⟩) (Kd.N_far (p := ⟨gb224, 1, none⟩) (Kd.N_far (p := ⟨gb224, 0, none⟩) (Kd.N_mono HO_4.out (fun k_ hk => (⟨hk, hk.2⟩ : _ ∧ k_ ≠ gb224))) (fun _ hk => hk.2) (.int .i64 ((rd_T109 l0_0 x18_1).f0))) (fun _ hk => hk.2) (.int .i64 ((rd_T109 l0_0 x18_1).f1))) (fun _ hk => hk.2) (.int .i64 ((rd_T109 l0_0 x18_1).f2))) (fun _ h_ => h_.1))) (Kd.R_base ho0) hb); have n1_ := zz (Kd.R_lower (Kd.R_newM (M := fun k_ => (w.heap.size ≤ k_)) ho0 (zv (by repeat (with_reducible first | exact HB.out | apply zj | apply zq | apply zw | refine zx ?_ GE215.out | refine zx ?_ GE224.out))) (fun k_ h_ => h_)) (zv (by repeat (with_reducible first | exact HB.out | apply zj | apply zq | apply zw | refine zx ?_ GE215.out | refine zx ?_ GE224.out)))); have n2_ := zz (qv (g := gb215) (o := .cells #[.slice (some ad223) l0_0.length c0_0, .int .i64 a0_1] 32 (0, 0)) (by (with_reducible repeat (first | refine qq ?_ _ | refine qj ?_ | refine qz ?_ _)); refine blk_far ?_ NB215_224.out _; (with_reducible repeat (first | refine qq ?_ _ | refine qj ?_ | refine qz ?_ _)); refine blk_far ?_ NB215_224.out _; (with_reducible repeat (first | refine qq ?_ _ | refine qj ?_ | refine qz ?_ _)); refine blk_far ?_ NB215_224.out _; (with_reducible repeat (first | refine qq ?_ _ | refine qj ?_ | refine qz ?_ _)); exact BK215.out) hb); have n3_ := zz (qv (g := gb224) (o := .cells #[.int .i64 ((rd_T109 l0_0 x18_1).f0), .int .i64 ((rd_T109 l0_0 x18_1).f1), .int .i64 ((rd_T109 l0_0 x18_1).f2)] 109 (0, 0)) (by (with_reducible repeat (first | refine qq ?_ _ | refine qj ?_ | refine qz ?_ _)); refine qk (cs := #[.int .i64 ((rd_T109 l0_0 x18_1).f0), .int .i64 ((rd_T109 l0_0 x18_1).f1), .int .i64 0]) ?_ 2 _ rfl; (with_reducible repeat (first | refine qq ?_ _ | refine qj ?_ | refine qz ?_ _)); refine qk (cs := #[.int .i64 ((rd_T109 l0_0 x18_1).f0), .int .i64 0, .int .i64 0]) ?_ 1 _ rfl; (with_reducible repeat (first | refine qq ?_ _ | refine qj ?_ | refine qz ?_ _)); refine qk (cs := #[.int .i64 0, .int .i64 0, .int .i64 0]) ?_ 0 _ rfl; (with_reducible repeat (first | refine qq ?_ _ | refine qj ?_ | refine qz ?_ _)); exact BK224.out) hb); have n4_ := zz (zk (by repeat (with_reducible first | exact HB.out | apply zj | apply zq | apply zw | refine zx ?_ GE215.out | refine zx ?_ GE224.out)) hb); clear HO_4; clear BK215; clear BK224; clear HB; have HO_4 := n0_; have HO227 := n1_; have BK215 := n2_; have BK224 := n3_; have HB := n4_; clear n0_ n1_ n2_ n3_ n4_; (try clear hb); (try clear hi hk); (try clear ho0); obtain ⟨Ao37, co37, eo37⟩ := kj HO227.out; subst eo37) | (go_at_call 189; (with_reducible refine (spec_poSmall.calls k1 _ _ t225 false _ ?side1 ?side2 A22.out).mono ?_); (case side1 => repeat (first | exact (kz HO227.out).2.2 | (with_reducible refine jk ?_ _) | (with_reducible refine jv ?_ _) | (with_reducible refine yz ?_))); (case side2 => exact (kz HO227.out).2.1); rintro e w' ⟨rfl, ⟨nd, rfl⟩⟩))
         go_ret2
         exact ⟨_, by first | rfl | (simp <;> rfl) | (simp [*] <;> rfl), by first | exact Kd.S_nil _ _ _ _ _ | exact Kd.N_nil _ _ _ _ _ | exact Kd.V_nil _ _ _ _ _ | exact Kd.Q_nil _ _ _ _ _ | exact Kd.R_nil _ _ _ _ _, by repeat (with_reducible first | exact HB.out | apply zj | apply zq | apply zw | refine zx ?_ GE215.out | refine zx ?_ GE224.out)⟩
       ·replace c21 := Bool.eq_false_iff.mpr c21
        subst c21
        have H1 : (some (([] : List (List Int)), false)) = some (r1, r2) := by rw [if_neg (show ¬ (false = true) by decide)] at H; exact H
        clear H
        have H := H1
        clear H1
        simp only [Option.some.injEq, Prod.mk.injEq] at H
        obtain ⟨rfl, rfl⟩ := H
        have p223 : 0 ≤ (x18_1 : Int) := of_decide_eq_true (by with_reducible assumption)
        have q223 : x18_1 < (l0_0.length : Int) := of_decide_eq_true (by with_reducible assumption)
        obtain ⟨ad223, e223, hx223_0, hx223_1, hx223_2⟩ := at_T109 HR0_0.out x18_1 p223 q223
        cases e223
        replace hx223_0 := (HB.out.cell (jq w _ hx223_0)).trans hx223_0
        replace hx223_1 := (HB.out.cell (jq w _ hx223_1)).trans hx223_1
        replace hx223_2 := (HB.out.cell (jq w _ hx223_2)).trans hx223_2
        replace p223 := eq_true p223
        replace q223 := eq_true q223
        go_wp2_with (first | ((with_reducible refine vw (N := 6) rfl ?_); refine vx ?hg (N := 6) ?hd (cs := #[.int .i64 0, .int .i64 0, .int .i64 0]) (t := 109) ?hr ?_; (case hd => rfl); (case hg => rfl); (case hr => first | (go_simp; done) | (go_simp; rfl)); intro gb224 hg w38 hbox hb; have n0_ := zz (Kd.N_below (Kd.N_elderB (by (with_reducible repeat (first | apply yq | apply yj | apply yw)); exact HO_4.out) gb224 (Nat.le_of_eq hg.symm)) hb); have n1_ := zz (qv (g := gb215) (o := .cells #[.slice (some ad223) l0_0.length c0_0, .int .i64 a0_1] 32 (0, 0)) (by (with_reducible repeat (first | refine qq ?_ _ | refine qj ?_ | refine qz ?_ _)); exact BK215.out) hb); have n2_ := zz (zk (by repeat (with_reducible first | exact HB.out | apply zj | apply zq | apply zw | refine zx ?_ GE215.out)) hb); have n3_ := zz (hbox); have n4_ := zz ((by rw [hg]; exact (zv (by repeat (with_reducible first | exact HB.out | apply zj | apply zq | apply zw | refine zx ?_ GE215.out))) : w.heap.size ≤ gb224)); have n5_ := zz ((by rw [hg]; exact (zv (by repeat (with_reducible first | exact HB.out | apply zj | apply zq | apply zw | refine zx ?_ GE215.out))) : w.heap.size ≤ gb224)); have n6_ := zz ((by rw [hg]; exact Nat.ne_of_lt (blk_lt (g := gb215) (o := .cells #[.slice (some ad223) l0_0.length c0_0, .int .i64 a0_1] 32 (0, 0)) (by (with_reducible repeat (first | refine qq ?_ _ | refine qj ?_ | refine qz ?_ _)); exact BK215.out)) : gb215 ≠ gb224)); have n7_ := zz ((by rw [hg]; exact Nat.ne_of_gt (blk_lt (g := gb215) (o := .cells #[.slice (some ad223) l0_0.length c0_0, .int .i64 a0_1] 32 (0, 0)) (by (with_reducible repeat (first | refine qq ?_ _ | refine qj ?_ | refine qz ?_ _)); exact BK215.out)) : gb224 ≠ gb215)); clear HO_4; clear BK215; clear HB; have HO_4 := n0_; have BK215 := n1_; have HB := n2_; have BK224 := n3_; have GW224 := n4_; have GE224 := n5_; have NB215_224 := n6_; have NB224_215 := n7_; clear n0_ n1_ n2_ n3_ n4_ n5_ n6_ n7_; clear hb hbox hg; have hnb39 := NB224_215.out; have hnc39 := NB215_224.out; have hcz40_0 : w38.cell? ⟨gb224, 0, none⟩ = some (.int .i64 0) := (qw BK224.out 0).trans rfl; have hcz40_1 : w38.cell? ⟨gb224, 1, none⟩ = some (.int .i64 0) := (qw BK224.out 1).trans rfl; have hcz40_2 : w38.cell? ⟨gb224, 2, none⟩ = some (.int .i64 0) := (qw BK224.out 2).trans rfl; have hfz40_0 := qx BK224.out 0; have hfz40_1 := qx BK224.out 1; have hfz40_2 := qx BK224.out 2; obtain ⟨Ao41, co41, eo41⟩ := Kd.N_slice HO_4.out; subst eo41) | ((with_reducible refine vj (f := 235) rfl ?_); refine goesL_ (some 25) rfl rfl Try.func235 (by kernel_rfl) rfl #[.agg #[.int .i64 ((rd_T109 l0_0 x18_1).f0), .int .i64 ((rd_T109 l0_0 x18_1).f1), .int .i64 ((rd_T109 l0_0 x18_1).f2)], .slice Ao41 x4_1.length co41] rfl (by (try simp only [yv, List.map_cons, List.map_nil]); first | done | rfl) ?_; (with_reducible refine (spec_poOp.calls k1 ((rd_T109 l0_0 x18_1).f0) ((rd_T109 l0_0 x18_1).f1) ((rd_T109 l0_0 x18_1).f2) _ _ x4_1 t225 false _ ?side1 ?side2 A20.out).mono ?_); (case side1 => refine (Kd.N_reads' (e := 29) (base := w.heap.size) (ok := fun k_ => (((w.heap.size ≤ k_) ∧ k_ ≠ gb215) ∧ k_ ≠ gb224)) (n := x4_1.length) (c := co41) ?_).2.2; exact (by (with_reducible repeat (first | apply yq | apply yj | apply yw)); exact (Kd.N_mono (Kd.N_far (p := ⟨gb224, 2, none⟩) (Kd.N_far (p := ⟨gb224, 1, none⟩) (Kd.N_far (p := ⟨gb224, 0, none⟩) (Kd.N_mono HO_4.out (fun k_ hk => (⟨hk, hk.2⟩ : _ ∧ k_ ≠ gb224))) (fun _ hk => hk.2) (.int .i64 ((rd_T109 l0_0 x18_1).f0))) (fun _ hk => hk.2) (.int .i64 ((rd_T109 l0_0 x18_1).f1))) (fun _ hk => hk.2) (.int .i64 ((rd_T109 l0_0 x18_1).f2))) (fun _ h_ => h_.1)))); (case side2 => exact (Kd.N_reads' HO_4.out).2.1); rintro e w42 ⟨v226, rfl, ho0, hb⟩; refine ⟨_, rfl, ?_⟩; have n0_ := zz (Kd.N_elder' (by (with_reducible repeat (first | apply yq | apply yj | apply yw)); exact (Kd.N_mono (Kd.N_far (p := ⟨gb224, 2, none⟩) (Kd.N_far (p := ⟨gb224, 1, none⟩) (Kd.N_far (p := ⟨gb224, 0, none⟩) (Kd.N_mono HO_4.out (fun k_ hk => (⟨hk, hk.2⟩ : _ ∧ k_ ≠ gb224))) (fun _ hk => hk.2) (.int .i64 ((rd_T109 l0_0 x18_1).f0))) (fun _ hk => hk.2) (.int .i64 ((rd_T109 l0_0 x18_1).f1))) (fun _ hk => hk.2) (.int .i64 ((rd_T109 l0_0 x18_1).f2))) (fun _ h_ => h_.1))) (Kd.R_base ho0) hb); have n1_ := zz (Kd.R_lower (Kd.R_newM (M := fun k_ => (w.heap.size ≤ k_)) ho0 (zv (by repeat (with_reducible first | exact HB.out | apply zj | apply zq | apply zw | refine zx ?_ GE215.out | refine zx ?_ GE224.out))) (fun k_ h_ => h_)) (zv (by repeat (with_reducible first | exact HB.out | apply zj | apply zq | apply zw | refine zx ?_ GE215.out | refine zx ?_ GE224.out)))); have n2_ := zz (qv (g := gb215) (o := .cells #[.slice (some ad223) l0_0.length c0_0, .int .i64 a0_1] 32 (0, 0)) (by (with_reducible repeat (first | refine qq ?_ _ | refine qj ?_ | refine qz ?_ _)); refine blk_far ?_ NB215_224.out _; (with_reducible repeat (first | refine qq ?_ _ | refine qj ?_ | refine qz ?_ _)); refine blk_far ?_ NB215_224.out _; (with_reducible repeat (first | refine qq ?_ _ | refine qj ?_ | refine qz ?_ _)); refine blk_far ?_ NB215_224.out _; (with_reducible repeat (first | refine qq ?_ _ | refine qj ?_ | refine qz ?_ _)); exact BK215.out) hb); have n3_ := zz (qv (g := gb224) (o := .cells #[.int .i64 ((rd_T109 l0_0 x18_1).f0), .int .i64 ((rd_T109 l0_0 x18_1).f1), .int .i64 ((rd_T109 l0_0 x18_1).f2)] 109 (0, 0)) (by (with_reducible repeat (first | refine qq ?_ _ | refine qj ?_ | refine qz ?_ _)); refine qk (cs := #[.int .i64 ((rd_T109 l0_0 x18_1).f0), .int .i64 ((rd_T109 l0_0 x18_1).f1), .int .i64 0]) ?_ 2 _ rfl; (with_reducible repeat (first | refine qq ?_ _ | refine qj ?_ | refine qz ?_ _)); refine qk (cs := #[.int .i64 ((rd_T109 l0_0 x18_1).f0), .int .i64 0, .int .i64 0]) ?_ 1 _ rfl; (with_reducible repeat (first | refine qq ?_ _ | refine qj ?_ | refine qz ?_ _)); refine qk (cs := #[.int .i64 0, .int .i64 0, .int .i64 0]) ?_ 0 _ rfl; (with_reducible repeat (first | refine qq ?_ _ | refine qj ?_ | refine qz ?_ _)); exact BK224.out) hb); have n4_ := zz (zk (by repeat (with_reducible first | exact HB.out | apply zj | apply zq | apply zw | refine zx ?_ GE215.out | refine zx ?_ GE224.out)) hb); clear HO_4; clear BK215; clear BK224; clear HB; have HO_4 := n0_; have HO227 := n1_; have BK215 := n2_; have BK224 := n3_; have HB := n4_; clear n0_ n1_ n2_ n3_ n4_; (try clear hb); (try clear hi hk); (try clear ho0)))
        go_ret2
        exact ⟨_, by first | rfl | (simp <;> rfl) | (simp [*] <;> rfl), by first | exact Kd.S_nil _ _ _ _ _ | exact Kd.N_nil _ _ _ _ _ | exact Kd.V_nil _ _ _ _ _ | exact Kd.Q_nil _ _ _ _ _ | exact Kd.R_nil _ _ _ _ _, by repeat (with_reducible first | exact HB.out | apply zj | apply zq | apply zw | refine zx ?_ GE215.out | refine zx ?_ GE224.out)⟩
      ·rw [if_neg c19] at H
       exact absurd H (by simp)
     ·rw [if_neg c18] at H
      exact absurd H (by simp)
    ·rw [if_neg c17] at H
     have c17b0 : decide (x18_1 < (l0_0.length : Int)) = false := decide_eq_false c17
     clear c17
     replace H := Option.bind_eq_some_iff.mp H
     obtain ⟨t222, A430, H⟩ := H
     replace H : (some (x4_1, t222)) = some (r1, r2) := H
     have A43 := zz A430
     clear A430
     simp only [Option.some.injEq, Prod.mk.injEq] at H
     obtain ⟨rfl, rfl⟩ := H
     have hcz44_0 : wr.cell? ⟨gb215, 0, none⟩ = some (.slice A0_0 l0_0.length c0_0) := (qw BK215.out 0).trans rfl
     have hcz44_1 : wr.cell? ⟨gb215, 1, none⟩ = some (.int .i64 a0_1) := (qw BK215.out 1).trans rfl
     have hfz44_0 := qx BK215.out 0
     have hfz44_1 := qx BK215.out 1
     go_wp2_with (first | ((with_reducible refine vj (f := 93) rfl ?_); refine goesL_ (some 46) rfl rfl Try.func93 (by kernel_rfl) rfl #[.int .i64 a0_1, .int .i64 0, .int .i64 (l0_0.length : Int)] rfl (by (try simp only [yv, List.map_cons, List.map_nil]); first | done | rfl) ?_; (with_reducible refine (spec_l1In.calls a0_1 0 (l0_0.length : Int) t222 _ A43.out).mono ?_); rintro e w' ⟨rfl, ⟨nd, rfl⟩⟩; refine ⟨_, rfl, ?_⟩))
     go_ret2
     exact ⟨_, by first | rfl | (simp <;> rfl) | (simp [*] <;> rfl), by (with_reducible repeat (first | apply yq | apply yj | apply yw)); exact Kd.N_mono HO_4.out (fun _ hk => hk.1), by repeat (with_reducible first | exact HB.out | apply zj | apply zq | apply zw | refine zx ?_ GE215.out)⟩
def spec_poGood.f (k : Nat) (l0_0 : List (S109)) (a0_1 : Int) : Option (Bool) := (spec_poValues.f k l0_0 a0_1).bind fun bt234 => (some bt234.2)
theorem spec_poGood.mono : ∀ a0 a1 k, LeO (spec_poGood.f k a0 a1) (spec_poGood.f (k + 1) a0 a1) := by
 intro a0 a1 k
 unfold spec_poGood.f
 repeat' with_reducible first
   | exact spec_poValues.mono _ _ _
   | exact kv _
   | exact LeO.none _
   | refine LeO.ite ?_ ?_
   | refine kw ?_ (fun _ => ?_)
set_option maxHeartbeats 8000000 in
set_option maxRecDepth 100000 in
theorem spec_poGood.calls (k : Nat) (A0_0 : Option Addr) (c0_0 : Nat) (l0_0 : List (S109)) (a0_1 : Int) (r : Bool) (w : World) (hr0_0 : Kd.C k109 w A0_0 l0_0.length l0_0) (hc0_0 : l0_0.length ≤ c0_0) (h : spec_poGood.f k l0_0 a0_1 = some r) :
  Calls Try.prog 111 #[.agg #[.slice A0_0 l0_0.length c0_0, .int .i64 a0_1]] w fun e w' => e = .returned (.bool r) ∧ Below w.heap.size w w' := by
 have hu32 := Try.underlying32
 have HR0_0 := zz hr0_0
 have HC0_0 := zz hc0_0
 clear hr0_0 hc0_0
 have HB := zz (Below.refl w.heap.size w)
 have H : ((spec_poValues.f k l0_0 a0_1).bind fun bt234 => (some bt234.2)) = some r := h
 clear h
 replace H := Option.bind_eq_some_iff.mp H
 obtain ⟨⟨t234, t237⟩, A20, H⟩ := H
 replace H : (some t237) = some r := H
 have A2 := zz A20
 clear A20
 obtain rfl := Option.some.inj H
 go_enter Try.func111, Try.ntmps111
 go_wp2_with (first | ((with_reducible refine vw (N := 1) rfl ?_); refine vx ?hg (N := 1) ?hd (cs := #[.slice A0_0 l0_0.length c0_0, .int .i64 a0_1]) (t := 32) ?hr ?_; (case hd => rfl); (case hg => rfl); (case hr => first | (go_simp; done) | (go_simp; rfl)); intro gb233 hg w3 hbox hb; have n0_ := zz (zk (by repeat (with_reducible first | exact HB.out | apply zj | apply zq | apply zw)) hb); have n1_ := zz (hbox); have n2_ := zz ((by rw [hg]; exact (zv (by repeat (with_reducible first | exact HB.out | apply zj | apply zq | apply zw))) : w.heap.size ≤ gb233)); have n3_ := zz ((by rw [hg]; exact (zv (by repeat (with_reducible first | exact HB.out | apply zj | apply zq | apply zw))) : w.heap.size ≤ gb233)); clear HB; have HB := n0_; have BK233 := n1_; have GW233 := n2_; have GE233 := n3_; clear n0_ n1_ n2_ n3_; clear hb hbox hg; have hcz4_0 : w3.cell? ⟨gb233, 0, none⟩ = some (.slice A0_0 l0_0.length c0_0) := (qw BK233.out 0).trans rfl; have hcz4_1 : w3.cell? ⟨gb233, 1, none⟩ = some (.int .i64 a0_1) := (qw BK233.out 1).trans rfl; have hfz4_0 := qx BK233.out 0; have hfz4_1 := qx BK233.out 1) | ((with_reducible refine vj (f := 194) rfl ?_); refine goesL_ (some 7) rfl rfl Try.func194 (by kernel_rfl) rfl #[.agg #[.slice A0_0 l0_0.length c0_0, .int .i64 a0_1]] rfl (by (try simp only [yv, List.map_cons, List.map_nil]); first | done | rfl) ?_; (with_reducible refine (spec_poValues.calls k _ _ l0_0 a0_1 t234 t237 _ ?side1 ?side2 A2.out).mono ?_); (case side1 => repeat (first | exact (Kd.C_below HR0_0.out HB.out) | (with_reducible refine jk ?_ _) | (with_reducible refine jv ?_ _) | (with_reducible refine yz ?_))); (case side2 => exact HC0_0.out); rintro e w5 ⟨v235, rfl, ho0, hb⟩; refine ⟨_, rfl, ?_⟩; have n0_ := zz (Kd.N_lower (Kd.N_mono (ok' := fun k_ => k_ ≠ gb233) ho0 (fun k_ hk_ => (Kd.freshB (g := gb233) (o := .cells #[.slice A0_0 l0_0.length c0_0, .int .i64 a0_1] 32 (0, 0)) (by (with_reducible repeat (first | refine qq ?_ _ | refine qj ?_ | refine qz ?_ _)); exact BK233.out) k_ hk_))) (zv (by repeat (with_reducible first | exact HB.out | apply zj | apply zq | apply zw | refine zx ?_ GE233.out)))); have n1_ := zz (qv (g := gb233) (o := .cells #[.slice A0_0 l0_0.length c0_0, .int .i64 a0_1] 32 (0, 0)) (by (with_reducible repeat (first | refine qq ?_ _ | refine qj ?_ | refine qz ?_ _)); exact BK233.out) hb); have n2_ := zz (zk (by repeat (with_reducible first | exact HB.out | apply zj | apply zq | apply zw | refine zx ?_ GE233.out)) hb); clear BK233; clear HB; have HO236 := n0_; have BK233 := n1_; have HB := n2_; clear n0_ n1_ n2_; (try clear hb); (try clear hi hk); (try clear ho0)))
 go_ret
 exact ⟨by first | rfl | (simp <;> rfl) | (simp [*] <;> rfl), by repeat (with_reducible first | exact HB.out | apply zj | apply zq | apply zw | refine zx ?_ GE233.out)⟩
def spec_poIf.f (k : Nat) (l0_0 : List (S109)) (a0_1 : Int) : Option ((List (S109)) × Int × Bool) := (spec_poGood.f k l0_0 a0_1).bind fun t240 => (if t240 = true then (some (l0_0, a0_1, true)) else (some (([] : List (S109)), 0, false)))
theorem spec_poIf.mono : ∀ a0 a1 k, LeO (spec_poIf.f k a0 a1) (spec_poIf.f (k + 1) a0 a1) := by
 intro a0 a1 k
 unfold spec_poIf.f
 repeat' with_reducible first
   | exact spec_poGood.mono _ _ _
   | exact kv _
   | exact LeO.none _
   | refine LeO.ite ?_ ?_
   | refine kw ?_ (fun _ => ?_)
set_option maxHeartbeats 8000000 in
set_option maxRecDepth 100000 in
theorem spec_poIf.calls (k : Nat) (P0_0_ : Nat → Prop) (u9000_ : Value) (l0_0 : List (S109)) (a0_1 : Int) (r1 : List (S109)) (r2 : Int) (r3 : Bool) (w0 w : World) (hB : Below w0.heap.size w0 w) (ho0_0 : Kd.R k109 109 w w0.heap.size P0_0_ u9000_ l0_0) (h : spec_poIf.f k l0_0 a0_1 = some (r1, r2, r3)) :
  Calls Try.prog 105 #[.agg #[u9000_, .int .i64 a0_1]] w fun e w' => ∃ v0_ : Value, e = .returned (.tuple #[.agg #[v0_, .int .i64 r2], .bool r3]) ∧ Kd.R k109 109 w' w0.heap.size (fun k_ => (P0_0_ k_ ∨ w.heap.size ≤ k_)) v0_ r1 ∧ Below w0.heap.size w0 w' ∧ Kept w w' (fun k_ => P0_0_ k_) := by
 have hu32 := Try.underlying32
 have HO0_0 := zz (show Kd.R k109 109 w w0.heap.size (fun k_ => (P0_0_ k_ ∨ w.heap.size ≤ k_)) u9000_ l0_0 from vk ho0_0 (fun k_ hk => (.inl hk)))
 have HK := zz (Kept.refl w (fun k_ => P0_0_ k_))
 have HW0 := zz hB.size
 have HB := zz hB
 clear hB
 have H : ((spec_poGood.f k l0_0 a0_1).bind fun t240 => (if t240 = true then (some (l0_0, a0_1, true)) else (some (([] : List (S109)), 0, false)))) = some (r1, r2, r3) := h
 clear h
 replace H := Option.bind_eq_some_iff.mp H
 obtain ⟨t240, A20, H⟩ := H
 replace H : (if t240 = true then (some (l0_0, a0_1, true)) else (some (([] : List (S109)), 0, false))) = some (r1, r2, r3) := H
 have A2 := zz A20
 clear A20
 by_cases c3 : t240 = true
 ·subst c3
  have H1 : (some (l0_0, a0_1, true)) = some (r1, r2, r3) := by rw [if_pos rfl] at H; exact H
  clear H
  have H := H1
  clear H1
  simp only [Option.some.injEq, Prod.mk.injEq] at H
  obtain ⟨rfl, rfl, rfl⟩ := H
  obtain ⟨Ao4, co4, eo4⟩ := kj HO0_0.out
  subst eo4
  go_enter Try.func105, Try.ntmps105
  go_wp2_with (first | ((with_reducible refine vw (N := 1) rfl ?_); refine vx ?hg (N := 1) ?hd (cs := #[.slice Ao4 l0_0.length co4, .int .i64 a0_1]) (t := 32) ?hr ?_; (case hd => rfl); (case hg => rfl); (case hr => first | (go_simp; done) | (go_simp; rfl)); intro gb238 hg w5 hbox hb; have n0_ := zz (vv (by (with_reducible repeat (first | apply jj | apply jw | apply jx)); exact HO0_0.out) hb); have n1_ := zz (Kept.below (S := (fun k_ => P0_0_ k_)) (by repeat (with_reducible first | exact HK.out | apply Kept.alloc | apply Kept.drewN | apply Kept.drew)) hb); have n2_ := zz (zk (by repeat (with_reducible first | exact HB.out | apply zj | apply zq | apply zw)) hb); have n3_ := zz (hbox); have n4_ := zz ((by rw [hg]; exact (by first | exact HK.out.1 | exact (show Kept w _ (fun k_ => P0_0_ k_) from by repeat (with_reducible first | exact HK.out | apply Kept.alloc | apply Kept.drewN | apply Kept.drew)).1) : w.heap.size ≤ gb238)); have n5_ := zz ((by rw [hg]; exact (zv (by repeat (with_reducible first | exact HB.out | apply zj | apply zq | apply zw))) : w0.heap.size ≤ gb238)); clear HO0_0; clear HK; clear HB; have HO0_0 := n0_; have HK := n1_; have HB := n2_; have BK238 := n3_; have GW238 := n4_; have GE238 := n5_; clear n0_ n1_ n2_ n3_ n4_ n5_; clear hb hbox hg) | ((with_reducible refine vw (N := 2) rfl ?_); refine vx ?hg (N := 2) ?hd (cs := #[.slice none 0 0, .int .i64 0]) (t := 32) ?hr ?_; (case hd => rfl); (case hg => rfl); (case hr => first | (go_simp; done) | (go_simp; rfl)); intro gb239 hg w6 hbox hb; have n0_ := zz (vv (by (with_reducible repeat (first | apply jj | apply jw | apply jx)); exact HO0_0.out) hb); have n1_ := zz (qv (g := gb238) (o := .cells #[.slice Ao4 l0_0.length co4, .int .i64 a0_1] 32 (0, 0)) (by (with_reducible repeat (first | refine qq ?_ _ | refine qj ?_ | refine qz ?_ _)); exact BK238.out) hb); have n2_ := zz (Kept.below (S := (fun k_ => P0_0_ k_)) (by repeat (with_reducible first | exact HK.out | apply Kept.alloc | apply Kept.drewN | apply Kept.drew | refine Kept.setCell ?_ (.inr GW238.out) _)) hb); have n3_ := zz (zk (by repeat (with_reducible first | exact HB.out | apply zj | apply zq | apply zw | refine zx ?_ GE238.out)) hb); have n4_ := zz (hbox); have n5_ := zz ((by rw [hg]; exact (by first | exact HK.out.1 | exact (show Kept w _ (fun k_ => P0_0_ k_) from by repeat (with_reducible first | exact HK.out | apply Kept.alloc | apply Kept.drewN | apply Kept.drew | refine Kept.setCell ?_ (.inr GW238.out) _)).1) : w.heap.size ≤ gb239)); have n6_ := zz ((by rw [hg]; exact (zv (by repeat (with_reducible first | exact HB.out | apply zj | apply zq | apply zw | refine zx ?_ GE238.out))) : w0.heap.size ≤ gb239)); have n7_ := zz ((by rw [hg]; exact Nat.ne_of_lt (blk_lt (g := gb238) (o := .cells #[.slice Ao4 l0_0.length co4, .int .i64 a0_1] 32 (0, 0)) (by (with_reducible repeat (first | refine qq ?_ _ | refine qj ?_ | refine qz ?_ _)); exact BK238.out)) : gb238 ≠ gb239)); have n8_ := zz ((by rw [hg]; exact Nat.ne_of_gt (blk_lt (g := gb238) (o := .cells #[.slice Ao4 l0_0.length co4, .int .i64 a0_1] 32 (0, 0)) (by (with_reducible repeat (first | refine qq ?_ _ | refine qj ?_ | refine qz ?_ _)); exact BK238.out)) : gb239 ≠ gb238)); clear HO0_0; clear BK238; clear HK; clear HB; have HO0_0 := n0_; have BK238 := n1_; have HK := n2_; have HB := n3_; have BK239 := n4_; have GW239 := n5_; have GE239 := n6_; have NB238_239 := n7_; have NB239_238 := n8_; clear n0_ n1_ n2_ n3_ n4_ n5_ n6_ n7_ n8_; clear hb hbox hg; have hnb7 := NB238_239.out; have hnc7 := NB239_238.out; have hcz8_0 : w6.cell? ⟨gb238, 0, none⟩ = some (.slice Ao4 l0_0.length co4) := (qw BK238.out 0).trans rfl; have hcz8_1 : w6.cell? ⟨gb238, 1, none⟩ = some (.int .i64 a0_1) := (qw BK238.out 1).trans rfl; have hfz8_0 := qx BK238.out 0; have hfz8_1 := qx BK238.out 1) | ((with_reducible refine vj (f := 111) rfl ?_); refine goesL_ (some 5) rfl rfl Try.func111 (by kernel_rfl) rfl #[.agg #[.slice Ao4 l0_0.length co4, .int .i64 a0_1]] rfl (by (try simp only [yv, List.map_cons, List.map_nil]); first | done | rfl) ?_; (with_reducible refine (spec_poGood.calls k _ _ l0_0 a0_1 true _ ?side1 ?side2 A2.out).mono ?_); (case side1 => repeat (first | exact (kz HO0_0.out).2.2 | (with_reducible refine jk ?_ _) | (with_reducible refine jv ?_ _) | (with_reducible refine yz ?_))); (case side2 => exact (kz HO0_0.out).2.1); rintro e w9 ⟨rfl, hb⟩; refine ⟨_, rfl, ?_⟩; have n0_ := zz (vv (by (with_reducible repeat (first | apply jj | apply jw | apply jx)); exact HO0_0.out) hb); have n1_ := zz (qv (g := gb238) (o := .cells #[.slice Ao4 l0_0.length co4, .int .i64 a0_1] 32 (0, 0)) (by (with_reducible repeat (first | refine qq ?_ _ | refine qj ?_ | refine qz ?_ _)); exact BK238.out) hb); have n2_ := zz (qv (g := gb239) (o := .cells #[.slice none 0 0, .int .i64 0] 32 (0, 0)) (by (with_reducible repeat (first | refine qq ?_ _ | refine qj ?_ | refine qz ?_ _)); exact BK239.out) hb); have n3_ := zz (Kept.below (S := (fun k_ => P0_0_ k_)) (by repeat (with_reducible first | exact HK.out | apply Kept.alloc | apply Kept.drewN | apply Kept.drew | refine Kept.setCell ?_ (.inr GW238.out) _ | refine Kept.setCell ?_ (.inr GW239.out) _)) hb); have n4_ := zz (zk (by repeat (with_reducible first | exact HB.out | apply zj | apply zq | apply zw | refine zx ?_ GE238.out | refine zx ?_ GE239.out)) hb); clear HO0_0; clear BK238; clear BK239; clear HK; clear HB; have HO0_0 := n0_; have BK238 := n1_; have BK239 := n2_; have HK := n3_; have HB := n4_; clear n0_ n1_ n2_ n3_ n4_; (try clear hb); (try clear hi hk); have hcz10_0 : w9.cell? ⟨gb238, 0, none⟩ = some (.slice Ao4 l0_0.length co4) := (qw BK238.out 0).trans rfl; have hcz10_1 : w9.cell? ⟨gb238, 1, none⟩ = some (.int .i64 a0_1) := (qw BK238.out 1).trans rfl; have hfz10_0 := qx BK238.out 0; have hfz10_1 := qx BK238.out 1; have hcz11_0 : w9.cell? ⟨gb239, 0, none⟩ = some (.slice none 0 0) := (qw BK239.out 0).trans rfl; have hcz11_1 : w9.cell? ⟨gb239, 1, none⟩ = some (.int .i64 0) := (qw BK239.out 1).trans rfl; have hfz11_0 := qx BK239.out 0; have hfz11_1 := qx BK239.out 1))
  refine bodyPost_ret (results_ct rfl _ _ gb239 32 #[.slice Ao4 l0_0.length co4, .int .i64 a0_1] (0, 0) _ rfl (by (with_reducible repeat (first | refine qq ?_ _ | refine qj ?_ | refine qz ?_ _)); refine qk (cs := #[.slice Ao4 l0_0.length co4, .int .i64 0]) ?_ 1 _ rfl; (with_reducible repeat (first | refine qq ?_ _ | refine qj ?_ | refine qz ?_ _)); refine qk (cs := #[.slice none 0 0, .int .i64 0]) ?_ 0 _ rfl; (with_reducible repeat (first | refine qq ?_ _ | refine qj ?_ | refine qz ?_ _)); exact BK239.out) Try.underlying32 rfl (by kernel_rfl)) rfl ?_
  exact ⟨_, by first | rfl | (simp <;> rfl) | (simp [*] <;> rfl), by (with_reducible repeat (first | apply jj | apply jw | apply jx)); exact vk (Kd.R_far (p := ⟨gb239, 1, none⟩) (Kd.R_far (p := ⟨gb239, 0, none⟩) (Kd.R_types HO0_0.out BK239.out (by decide)) (fun _ hk => hk.2) (.slice Ao4 l0_0.length co4)) (fun _ hk => hk.2) (.int .i64 a0_1)) (fun _ hk => hk.1), by repeat (with_reducible first | exact HB.out | apply zj | apply zq | apply zw | refine zx ?_ GE238.out | refine zx ?_ GE239.out), by repeat (with_reducible first | exact HK.out | apply Kept.alloc | apply Kept.drewN | apply Kept.drew | refine Kept.setCell ?_ (.inr GW238.out) _ | refine Kept.setCell ?_ (.inr GW239.out) _)⟩
 ·replace c3 := Bool.eq_false_iff.mpr c3
  subst c3
  have H1 : (some (([] : List (S109)), 0, false)) = some (r1, r2, r3) := by rw [if_neg (show ¬ (false = true) by decide)] at H; exact H
  clear H
  have H := H1
  clear H1
  simp only [Option.some.injEq, Prod.mk.injEq] at H
  obtain ⟨rfl, rfl, rfl⟩ := H
  obtain ⟨Ao12, co12, eo12⟩ := kj HO0_0.out
  subst eo12
  go_enter Try.func105, Try.ntmps105
  go_wp2_with (first | ((with_reducible refine vw (N := 1) rfl ?_); refine vx ?hg (N := 1) ?hd (cs := #[.slice Ao12 l0_0.length co12, .int .i64 a0_1]) (t := 32) ?hr ?_; (case hd => rfl); (case hg => rfl); (case hr => first | (go_simp; done) | (go_simp; rfl)); intro gb238 hg w13 hbox hb; have n0_ := zz (vv (by (with_reducible repeat (first | apply jj | apply jw | apply jx)); exact HO0_0.out) hb); have n1_ := zz (Kept.below (S := (fun k_ => P0_0_ k_)) (by repeat (with_reducible first | exact HK.out | apply Kept.alloc | apply Kept.drewN | apply Kept.drew)) hb); have n2_ := zz (zk (by repeat (with_reducible first | exact HB.out | apply zj | apply zq | apply zw)) hb); have n3_ := zz (hbox); have n4_ := zz ((by rw [hg]; exact (by first | exact HK.out.1 | exact (show Kept w _ (fun k_ => P0_0_ k_) from by repeat (with_reducible first | exact HK.out | apply Kept.alloc | apply Kept.drewN | apply Kept.drew)).1) : w.heap.size ≤ gb238)); have n5_ := zz ((by rw [hg]; exact (zv (by repeat (with_reducible first | exact HB.out | apply zj | apply zq | apply zw))) : w0.heap.size ≤ gb238)); clear HO0_0; clear HK; clear HB; have HO0_0 := n0_; have HK := n1_; have HB := n2_; have BK238 := n3_; have GW238 := n4_; have GE238 := n5_; clear n0_ n1_ n2_ n3_ n4_ n5_; clear hb hbox hg) | ((with_reducible refine vw (N := 2) rfl ?_); refine vx ?hg (N := 2) ?hd (cs := #[.slice none 0 0, .int .i64 0]) (t := 32) ?hr ?_; (case hd => rfl); (case hg => rfl); (case hr => first | (go_simp; done) | (go_simp; rfl)); intro gb239 hg w14 hbox hb; have n0_ := zz (vv (by (with_reducible repeat (first | apply jj | apply jw | apply jx)); exact HO0_0.out) hb); have n1_ := zz (qv (g := gb238) (o := .cells #[.slice Ao12 l0_0.length co12, .int .i64 a0_1] 32 (0, 0)) (by (with_reducible repeat (first | refine qq ?_ _ | refine qj ?_ | refine qz ?_ _)); exact BK238.out) hb); have n2_ := zz (Kept.below (S := (fun k_ => P0_0_ k_)) (by repeat (with_reducible first | exact HK.out | apply Kept.alloc | apply Kept.drewN | apply Kept.drew | refine Kept.setCell ?_ (.inr GW238.out) _)) hb); have n3_ := zz (zk (by repeat (with_reducible first | exact HB.out | apply zj | apply zq | apply zw | refine zx ?_ GE238.out)) hb); have n4_ := zz (hbox); have n5_ := zz ((by rw [hg]; exact (by first | exact HK.out.1 | exact (show Kept w _ (fun k_ => P0_0_ k_) from by repeat (with_reducible first | exact HK.out | apply Kept.alloc | apply Kept.drewN | apply Kept.drew | refine Kept.setCell ?_ (.inr GW238.out) _)).1) : w.heap.size ≤ gb239)); have n6_ := zz ((by rw [hg]; exact (zv (by repeat (with_reducible first | exact HB.out | apply zj | apply zq | apply zw | refine zx ?_ GE238.out))) : w0.heap.size ≤ gb239)); have n7_ := zz ((by rw [hg]; exact Nat.ne_of_lt (blk_lt (g := gb238) (o := .cells #[.slice Ao12 l0_0.length co12, .int .i64 a0_1] 32 (0, 0)) (by (with_reducible repeat (first | refine qq ?_ _ | refine qj ?_ | refine qz ?_ _)); exact BK238.out)) : gb238 ≠ gb239)); have n8_ := zz ((by rw [hg]; exact Nat.ne_of_gt (blk_lt (g := gb238) (o := .cells #[.slice Ao12 l0_0.length co12, .int .i64 a0_1] 32 (0, 0)) (by (with_reducible repeat (first | refine qq ?_ _ | refine qj ?_ | refine qz ?_ _)); exact BK238.out)) : gb239 ≠ gb238)); clear HO0_0; clear BK238; clear HK; clear HB; have HO0_0 := n0_; have BK238 := n1_; have HK := n2_; have HB := n3_; have BK239 := n4_; have GW239 := n5_; have GE239 := n6_; have NB238_239 := n7_; have NB239_238 := n8_; clear n0_ n1_ n2_ n3_ n4_ n5_ n6_ n7_ n8_; clear hb hbox hg; have hnb15 := NB238_239.out; have hnc15 := NB239_238.out; have hcz16_0 : w14.cell? ⟨gb238, 0, none⟩ = some (.slice Ao12 l0_0.length co12) := (qw BK238.out 0).trans rfl; have hcz16_1 : w14.cell? ⟨gb238, 1, none⟩ = some (.int .i64 a0_1) := (qw BK238.out 1).trans rfl; have hfz16_0 := qx BK238.out 0; have hfz16_1 := qx BK238.out 1) | ((with_reducible refine vj (f := 111) rfl ?_); refine goesL_ (some 5) rfl rfl Try.func111 (by kernel_rfl) rfl #[.agg #[.slice Ao12 l0_0.length co12, .int .i64 a0_1]] rfl (by (try simp only [yv, List.map_cons, List.map_nil]); first | done | rfl) ?_; (with_reducible refine (spec_poGood.calls k _ _ l0_0 a0_1 false _ ?side1 ?side2 A2.out).mono ?_); (case side1 => repeat (first | exact (kz HO0_0.out).2.2 | (with_reducible refine jk ?_ _) | (with_reducible refine jv ?_ _) | (with_reducible refine yz ?_))); (case side2 => exact (kz HO0_0.out).2.1); rintro e w17 ⟨rfl, hb⟩; refine ⟨_, rfl, ?_⟩; have n0_ := zz (vv (by (with_reducible repeat (first | apply jj | apply jw | apply jx)); exact HO0_0.out) hb); have n1_ := zz (qv (g := gb238) (o := .cells #[.slice Ao12 l0_0.length co12, .int .i64 a0_1] 32 (0, 0)) (by (with_reducible repeat (first | refine qq ?_ _ | refine qj ?_ | refine qz ?_ _)); exact BK238.out) hb); have n2_ := zz (qv (g := gb239) (o := .cells #[.slice none 0 0, .int .i64 0] 32 (0, 0)) (by (with_reducible repeat (first | refine qq ?_ _ | refine qj ?_ | refine qz ?_ _)); exact BK239.out) hb); have n3_ := zz (Kept.below (S := (fun k_ => P0_0_ k_)) (by repeat (with_reducible first | exact HK.out | apply Kept.alloc | apply Kept.drewN | apply Kept.drew | refine Kept.setCell ?_ (.inr GW238.out) _ | refine Kept.setCell ?_ (.inr GW239.out) _)) hb); have n4_ := zz (zk (by repeat (with_reducible first | exact HB.out | apply zj | apply zq | apply zw | refine zx ?_ GE238.out | refine zx ?_ GE239.out)) hb); clear HO0_0; clear BK238; clear BK239; clear HK; clear HB; have HO0_0 := n0_; have BK238 := n1_; have BK239 := n2_; have HK := n3_; have HB := n4_; clear n0_ n1_ n2_ n3_ n4_; (try clear hb); (try clear hi hk); have hcz18_0 : w17.cell? ⟨gb239, 0, none⟩ = some (.slice none 0 0) := (qw BK239.out 0).trans rfl; have hcz18_1 : w17.cell? ⟨gb239, 1, none⟩ = some (.int .i64 0) := (qw BK239.out 1).trans rfl; have hfz18_0 := qx BK239.out 0; have hfz18_1 := qx BK239.out 1))
  refine bodyPost_ret (results_ct rfl _ _ gb239 32 #[.slice none 0 0, .int .i64 0] (0, 0) _ rfl (by (with_reducible repeat (first | refine qq ?_ _ | refine qj ?_ | refine qz ?_ _)); refine qk (cs := #[.slice none 0 0, .int .i64 0]) ?_ 1 _ rfl; (with_reducible repeat (first | refine qq ?_ _ | refine qj ?_ | refine qz ?_ _)); refine qk (cs := #[.slice none 0 0, .int .i64 0]) ?_ 0 _ rfl; (with_reducible repeat (first | refine qq ?_ _ | refine qj ?_ | refine qz ?_ _)); exact BK239.out) Try.underlying32 rfl (by kernel_rfl)) rfl ?_
  exact ⟨_, by first | rfl | (simp <;> rfl) | (simp [*] <;> rfl), by first | exact Kd.R_nil _ _ _ _ _ | exact Kd.N_nil _ _ _ _ _ | exact Kd.V_nil _ _ _ _ _ | exact Kd.Q_nil _ _ _ _ _ | exact Kd.S_nil _ _ _ _ _, by repeat (with_reducible first | exact HB.out | apply zj | apply zq | apply zw | refine zx ?_ GE238.out | refine zx ?_ GE239.out), by repeat (with_reducible first | exact HK.out | apply Kept.alloc | apply Kept.drewN | apply Kept.drew | refine Kept.setCell ?_ (.inr GW238.out) _ | refine Kept.setCell ?_ (.inr GW239.out) _)⟩
def spec_poAdd.f (l0_0 : List (S109)) (a0_1 : Int) (a1 : Int) (a2 : Int) (a3 : Int) : Option ((List (S109)) × Int × Int) := (some (([] : List (S109)) : List (S109))).bind fun y243 => (if y243.length + l0_0.length < 5864062014805 then ((some (y243 ++ l0_0 : List (S109))).bind fun y246 => (if y246.length < 5864062014805 then ((some (y246 ++ [(⟨a1, a2, a3⟩ : S109)] : List (S109))).bind fun y249 => (some (y249, 0, (y249.length : Int)))) else (none))) else (none))
set_option maxHeartbeats 8000000 in
set_option maxRecDepth 100000 in
theorem spec_poAdd.calls (A0_0 : Option Addr) (c0_0 : Nat) (l0_0 : List (S109)) (a0_1 : Int) (a1 : Int) (a2 : Int) (a3 : Int) (r1 : List (S109)) (r2 : Int) (r3 : Int) (w : World) (hr0_0 : Kd.C k109 w A0_0 l0_0.length l0_0) (hc0_0 : l0_0.length ≤ c0_0) (h : spec_poAdd.f l0_0 a0_1 a1 a2 a3 = some (r1, r2, r3)) :
  Calls Try.prog 130 #[.agg #[.slice A0_0 l0_0.length c0_0, .int .i64 a0_1], .int .i64 a1, .int .i64 a2, .int .i64 a3] w fun e w' => ∃ v0_ : Value, e = .returned (.tuple #[.agg #[v0_, .int .i64 r2], .int .i64 r3]) ∧ Kd.R k109 109 w' w.heap.size (fun _ => True) v0_ r1 ∧ Below w.heap.size w w' := by
 have hu32 := Try.underlying32
 have hu109 := Try.underlying109
 have HR0_0 := zz hr0_0
 have HC0_0 := zz hc0_0
 clear hr0_0 hc0_0
 have HB := zz (Below.refl w.heap.size w)
 have H : ((some (([] : List (S109)) : List (S109))).bind fun y243 => (if y243.length + l0_0.length < 5864062014805 then ((some (y243 ++ l0_0 : List (S109))).bind fun y246 => (if y246.length < 5864062014805 then ((some (y246 ++ [(⟨a1, a2, a3⟩ : S109)] : List (S109))).bind fun y249 => (some (y249, 0, (y249.length : Int)))) else (none))) else (none))) = some (r1, r2, r3) := h
 clear h
 obtain ⟨y243, hy243⟩ : ∃ y_ : List (S109), y_ = (([] : List (S109))) := ⟨_, rfl⟩
 replace H : (if y243.length + l0_0.length < 5864062014805 then ((some (y243 ++ l0_0 : List (S109))).bind fun y246 => (if y246.length < 5864062014805 then ((some (y246 ++ [(⟨a1, a2, a3⟩ : S109)] : List (S109))).bind fun y249 => (some (y249, 0, (y249.length : Int)))) else (none))) else (none)) = some (r1, r2, r3) := by first | (rw [hy243]; with_reducible exact H) | (have H2_ := (Option.bind_some _ _).symm.trans H; rw [hy243]; with_reducible exact H2_) | (have H2_ := (Option.bind_some _ _).symm.trans H; with_reducible exact H2_) | with_reducible exact H | (rw [hy243]; exact H) | exact H
 have Ny243 := zz hy243
 clear hy243
 by_cases c5 : y243.length + l0_0.length < 5864062014805
 ·rw [if_pos c5] at H
  have LMc5 := zz c5
  clear c5
  obtain ⟨y246, hy246⟩ : ∃ y_ : List (S109), y_ = (y243 ++ l0_0) := ⟨_, rfl⟩
  replace H : (if y246.length < 5864062014805 then ((some (y246 ++ [(⟨a1, a2, a3⟩ : S109)] : List (S109))).bind fun y249 => (some (y249, 0, (y249.length : Int)))) else (none)) = some (r1, r2, r3) := by first | (rw [hy246]; with_reducible exact H) | (have H2_ := (Option.bind_some _ _).symm.trans H; rw [hy246]; with_reducible exact H2_) | (have H2_ := (Option.bind_some _ _).symm.trans H; with_reducible exact H2_) | with_reducible exact H | (rw [hy246]; exact H) | exact H
  have Ny246 := zz hy246
  clear hy246
  by_cases c6 : y246.length < 5864062014805
  ·rw [if_pos c6] at H
   have LMc6 := zz c6
   clear c6
   obtain ⟨y249, hy249⟩ : ∃ y_ : List (S109), y_ = (y246 ++ [(⟨a1, a2, a3⟩ : S109)]) := ⟨_, rfl⟩
   replace H : (some (y249, 0, (y249.length : Int))) = some (r1, r2, r3) := by first | (rw [hy249]; with_reducible exact H) | (have H2_ := (Option.bind_some _ _).symm.trans H; rw [hy249]; with_reducible exact H2_) | (have H2_ := (Option.bind_some _ _).symm.trans H; with_reducible exact H2_) | with_reducible exact H | (rw [hy249]; exact H) | exact H
   have Ny249 := zz hy249
   clear hy249
   simp only [Option.some.injEq, Prod.mk.injEq] at H
   obtain ⟨rfl, rfl, rfl⟩ := H
   go_enter Try.func130, Try.ntmps130
   try go_wp2_with (first | ((with_reducible refine vw (N := 4) rfl ?_); refine vx ?hg (N := 4) ?hd (cs := #[.slice A0_0 l0_0.length c0_0, .int .i64 a0_1]) (t := 32) ?hr ?_; (case hd => rfl); (case hg => rfl); (case hr => first | (go_simp; done) | (go_simp; rfl)); intro gb241 hg w7 hbox hb; have n0_ := zz (zk (by repeat (with_reducible first | exact HB.out | apply zj | apply zq | apply zw)) hb); have n1_ := zz (hbox); have n2_ := zz ((by rw [hg]; exact (zv (by repeat (with_reducible first | exact HB.out | apply zj | apply zq | apply zw))) : w.heap.size ≤ gb241)); have n3_ := zz ((by rw [hg]; exact (zv (by repeat (with_reducible first | exact HB.out | apply zj | apply zq | apply zw))) : w.heap.size ≤ gb241)); clear HB; have HB := n0_; have BK241 := n1_; have GW241 := n2_; have GE241 := n3_; clear n0_ n1_ n2_ n3_; clear hb hbox hg) | ((with_reducible refine vw (N := 8) rfl ?_); refine vx ?hg (N := 8) ?hd (cs := #[.slice none 0 0, .int .i64 0]) (t := 32) ?hr ?_; (case hd => rfl); (case hg => rfl); (case hr => first | (go_simp; done) | (go_simp; rfl)); intro gb242 hg w8 hbox hb; have n0_ := zz (qv (g := gb241) (o := .cells #[.slice A0_0 l0_0.length c0_0, .int .i64 a0_1] 32 (0, 0)) (by (with_reducible repeat (first | refine qq ?_ _ | refine qj ?_ | refine qz ?_ _)); exact BK241.out) hb); have n1_ := zz (zk (by repeat (with_reducible first | exact HB.out | apply zj | apply zq | apply zw | refine zx ?_ GE241.out)) hb); have n2_ := zz (hbox); have n3_ := zz ((by rw [hg]; exact (zv (by repeat (with_reducible first | exact HB.out | apply zj | apply zq | apply zw | refine zx ?_ GE241.out))) : w.heap.size ≤ gb242)); have n4_ := zz ((by rw [hg]; exact (zv (by repeat (with_reducible first | exact HB.out | apply zj | apply zq | apply zw | refine zx ?_ GE241.out))) : w.heap.size ≤ gb242)); have n5_ := zz ((by rw [hg]; exact Nat.ne_of_lt (blk_lt (g := gb241) (o := .cells #[.slice A0_0 l0_0.length c0_0, .int .i64 a0_1] 32 (0, 0)) (by (with_reducible repeat (first | refine qq ?_ _ | refine qj ?_ | refine qz ?_ _)); exact BK241.out)) : gb241 ≠ gb242)); have n6_ := zz ((by rw [hg]; exact Nat.ne_of_gt (blk_lt (g := gb241) (o := .cells #[.slice A0_0 l0_0.length c0_0, .int .i64 a0_1] 32 (0, 0)) (by (with_reducible repeat (first | refine qq ?_ _ | refine qj ?_ | refine qz ?_ _)); exact BK241.out)) : gb242 ≠ gb241)); clear BK241; clear HB; have BK241 := n0_; have HB := n1_; have BK242 := n2_; have GW242 := n3_; have GE242 := n4_; have NB241_242 := n5_; have NB242_241 := n6_; clear n0_ n1_ n2_ n3_ n4_ n5_ n6_; clear hb hbox hg) | ((with_reducible refine vw (N := 11) rfl ?_); refine Kd.R_lit k109 _ 109 ?hg (N := 11) ?hd (xs := ([] : List (S109))) (inner := []) (ok := fun _ => True) (okp := fun _ => True) ?hr ?hp (fun _ hk => hk) trivial (Below.refl _ _) (Nat.le_refl _) (by simp) ?_; (case hd => rfl); (case hg => rfl); (case hr => first | (go_simp; done) | (go_simp; rfl)); (case hp => exact (Reps.none _ _)); intro v244 w9 ho10 hb hg_ hnew_; clear hg_ hnew_; (first | rw [← Ny243.out] at ho10 | (simp only [Int.reduceToNat] at ho10; rw [← Ny243.out] at ho10)); have n0_ := zz (Kd.R_lower ho10 (zv (by repeat (with_reducible first | exact HB.out | apply zj | apply zq | apply zw | refine zx ?_ GE241.out | refine zx ?_ GE242.out)))); have n1_ := zz (qv (g := gb241) (o := .cells #[.slice A0_0 l0_0.length c0_0, .int .i64 a0_1] 32 (0, 0)) (by (with_reducible repeat (first | refine qq ?_ _ | refine qj ?_ | refine qz ?_ _)); exact BK241.out) hb); have n2_ := zz (qv (g := gb242) (o := .cells #[.slice none 0 0, .int .i64 0] 32 (0, 0)) (by (with_reducible repeat (first | refine qq ?_ _ | refine qj ?_ | refine qz ?_ _)); exact BK242.out) hb); have n3_ := zz (zk (by repeat (with_reducible first | exact HB.out | apply zj | apply zq | apply zw | refine zx ?_ GE241.out | refine zx ?_ GE242.out)) hb); clear BK241; clear BK242; clear HB; have HO245 := n0_; have BK241 := n1_; have BK242 := n2_; have HB := n3_; clear n0_ n1_ n2_ n3_; clear hb ho10; have hnb11 := NB241_242.out; have hnc11 := NB242_241.out; have hcz12_0 : w9.cell? ⟨gb241, 0, none⟩ = some (.slice A0_0 l0_0.length c0_0) := (qw BK241.out 0).trans rfl; have hcz12_1 : w9.cell? ⟨gb241, 1, none⟩ = some (.int .i64 a0_1) := (qw BK241.out 1).trans rfl; have hfz12_0 := qx BK241.out 0; have hfz12_1 := qx BK241.out 1) | ((with_reducible refine gate_builtin (b := .append) (xs := #[.tmp 11, .tmp 13]) rfl ?_); at_builtin; refine Kd.R_append_rows k109 (w0 := w) w.heap.size rfl (.tmp 11) (.tmp 13) 30 109 (.agg #[(.int .i64 0), (.int .i64 0), (.int .i64 0)]) 24 rfl Try.underlying30 info109 rfl (by decide) (by omega) v244 y243 l0_0 _ _ _ (fun _ => True) (fun _ => False) rfl rfl ?aO ?aR (fun _ _ h => h) (fun _ h => h.elim) ?aF ?aB ?aS ?aL ?_; (case aR => repeat (first | exact (Kd.C_below HR0_0.out HB.out) | (with_reducible refine jk ?_ _) | (with_reducible refine jv ?_ _) | (with_reducible refine yz ?_))); (case aB => exact (by repeat (with_reducible first | exact HB.out | apply zj | apply zq | apply zw | refine zx ?_ GE241.out | refine zx ?_ GE242.out))); (case aF => exact (fun _ _ => trivial)); (case aO => exact (by (with_reducible repeat (first | apply jj | apply jw | apply jx)); exact HO245.out)); (case aS => exact (zv (by repeat (with_reducible first | exact HB.out | apply zj | apply zq | apply zw | refine zx ?_ GE241.out | refine zx ?_ GE242.out)))); (case aL => have := LMc5.out; omega); intro v247 w13 ho hb hg hat; rw [← Ny246.out] at ho; have n0_ := zz (blk_grown (g := gb241) (o := .cells #[.slice A0_0 l0_0.length c0_0, .int .i64 a0_1] 32 (0, 0)) (by (with_reducible repeat (first | refine qq ?_ _ | refine qj ?_ | refine qz ?_ _)); exact BK241.out) hg (Kd.R_ne HO245.out BK241.out (by decide))); have n1_ := zz (blk_grown (g := gb242) (o := .cells #[.slice none 0 0, .int .i64 0] 32 (0, 0)) (by (with_reducible repeat (first | refine qq ?_ _ | refine qj ?_ | refine qz ?_ _)); exact BK242.out) hg (Kd.R_ne HO245.out BK242.out (by decide))); have n2_ := zz (hb); have n3_ := zz (ho); clear BK241; clear BK242; clear HB; clear HO245; have BK241 := n0_; have BK242 := n1_; have HB := n2_; have HO248 := n3_; clear n0_ n1_ n2_ n3_; clear ho hb hg hat) | ((with_reducible refine gate_builtin (b := .append) (xs := #[.tmp 14, .tmp 19]) rfl ?_); at_builtin; refine Kd.R_append k109 (w0 := w) w.heap.size rfl (.tmp 14) (.tmp 19) 30 109 (.agg #[(.int .i64 0), (.int .i64 0), (.int .i64 0)]) 24 rfl Try.underlying30 info109 rfl (by decide) (by omega) v247 y246 (⟨a1, a2, a3⟩ : S109) [.int .i64 a1, .int .i64 a2, .int .i64 a3] (fun _ => True) (fun _ => False) rfl rfl ?aP (fun _ hk => hk.elim) ?aF ?aO ?aB ?aS ?aL ?_; (case aP => exact k109_mkM _ _ _ (⟨a1, a2, a3⟩ : S109)); (case aB => exact (by repeat (with_reducible first | exact HB.out | apply zj | apply zq | apply zw | refine zx ?_ GE241.out | refine zx ?_ GE242.out))); (case aF => exact (fun _ _ => trivial)); (case aO => exact (by (with_reducible repeat (first | apply jj | apply jw | apply jx)); exact HO248.out)); (case aS => exact (zv (by repeat (with_reducible first | exact HB.out | apply zj | apply zq | apply zw | refine zx ?_ GE241.out | refine zx ?_ GE242.out)))); (case aL => have := LMc6.out; omega); intro v250 w14 ho hb hg hat; rw [← Ny249.out] at ho; have n0_ := zz (blk_grown (g := gb241) (o := .cells #[.slice A0_0 l0_0.length c0_0, .int .i64 a0_1] 32 (0, 0)) (by (with_reducible repeat (first | refine qq ?_ _ | refine qj ?_ | refine qz ?_ _)); exact BK241.out) hg (Kd.R_ne HO248.out BK241.out (by decide))); have n1_ := zz (blk_grown (g := gb242) (o := .cells #[.slice none 0 0, .int .i64 0] 32 (0, 0)) (by (with_reducible repeat (first | refine qq ?_ _ | refine qj ?_ | refine qz ?_ _)); exact BK242.out) hg (Kd.R_ne HO248.out BK242.out (by decide))); have n2_ := zz (hb); have n3_ := zz (ho); clear BK241; clear BK242; clear HB; clear HO248; have BK241 := n0_; have BK242 := n1_; have HB := n2_; have HO251 := n3_; clear n0_ n1_ n2_ n3_; clear ho hb hg hat; obtain ⟨Ao15, co15, eo15⟩ := kj HO251.out; subst eo15) | ((with_reducible refine vw (N := 10) rfl ?_); refine vx ?hg (N := 10) ?hd (cs := #[.slice none 0 0, .int .i64 0]) (t := 32) ?hr ?_; (case hd => rfl); (case hg => rfl); (case hr => first | (go_simp; done) | (go_simp; rfl)); intro gb252 hg w16 hbox hb; have n0_ := zz (vv (by (with_reducible repeat (first | apply jj | apply jw | apply jx)); exact HO251.out) hb); have n1_ := zz (qv (g := gb241) (o := .cells #[.slice A0_0 l0_0.length c0_0, .int .i64 a0_1] 32 (0, 0)) (by (with_reducible repeat (first | refine qq ?_ _ | refine qj ?_ | refine qz ?_ _)); exact BK241.out) hb); have n2_ := zz (qv (g := gb242) (o := .cells #[.slice none 0 0, .int .i64 0] 32 (0, 0)) (by (with_reducible repeat (first | refine qq ?_ _ | refine qj ?_ | refine qz ?_ _)); exact BK242.out) hb); have n3_ := zz (zk (by repeat (with_reducible first | exact HB.out | apply zj | apply zq | apply zw | refine zx ?_ GE241.out | refine zx ?_ GE242.out)) hb); have n4_ := zz (hbox); have n5_ := zz ((by rw [hg]; exact (zv (by repeat (with_reducible first | exact HB.out | apply zj | apply zq | apply zw | refine zx ?_ GE241.out | refine zx ?_ GE242.out))) : w.heap.size ≤ gb252)); have n6_ := zz ((by rw [hg]; exact (zv (by repeat (with_reducible first | exact HB.out | apply zj | apply zq | apply zw | refine zx ?_ GE241.out | refine zx ?_ GE242.out))) : w.heap.size ≤ gb252)); have n7_ := zz ((by rw [hg]; exact Nat.ne_of_lt (blk_lt (g := gb241) (o := .cells #[.slice A0_0 l0_0.length c0_0, .int .i64 a0_1] 32 (0, 0)) (by (with_reducible repeat (first | refine qq ?_ _ | refine qj ?_ | refine qz ?_ _)); exact BK241.out)) : gb241 ≠ gb252)); have n8_ := zz ((by rw [hg]; exact Nat.ne_of_gt (blk_lt (g := gb241) (o := .cells #[.slice A0_0 l0_0.length c0_0, .int .i64 a0_1] 32 (0, 0)) (by (with_reducible repeat (first | refine qq ?_ _ | refine qj ?_ | refine qz ?_ _)); exact BK241.out)) : gb252 ≠ gb241)); have n9_ := zz ((by rw [hg]; exact Nat.ne_of_lt (blk_lt (g := gb242) (o := .cells #[.slice none 0 0, .int .i64 0] 32 (0, 0)) (by (with_reducible repeat (first | refine qq ?_ _ | refine qj ?_ | refine qz ?_ _)); exact BK242.out)) : gb242 ≠ gb252)); have n10_ := zz ((by rw [hg]; exact Nat.ne_of_gt (blk_lt (g := gb242) (o := .cells #[.slice none 0 0, .int .i64 0] 32 (0, 0)) (by (with_reducible repeat (first | refine qq ?_ _ | refine qj ?_ | refine qz ?_ _)); exact BK242.out)) : gb252 ≠ gb242)); clear HO251; clear BK241; clear BK242; clear HB; have HO251 := n0_; have BK241 := n1_; have BK242 := n2_; have HB := n3_; have BK252 := n4_; have GW252 := n5_; have GE252 := n6_; have NB241_252 := n7_; have NB252_241 := n8_; have NB242_252 := n9_; have NB252_242 := n10_; clear n0_ n1_ n2_ n3_ n4_ n5_ n6_ n7_ n8_ n9_ n10_; clear hb hbox hg; have hnb17 := NB252_241.out; have hnc17 := NB241_252.out; have hnb18 := NB252_242.out; have hnc18 := NB242_252.out; have hcz19_0 : w16.cell? ⟨gb252, 0, none⟩ = some (.slice none 0 0) := (qw BK252.out 0).trans rfl; have hcz19_1 : w16.cell? ⟨gb252, 1, none⟩ = some (.int .i64 0) := (qw BK252.out 1).trans rfl; have hfz19_0 := qx BK252.out 0; have hfz19_1 := qx BK252.out 1))
   have n0_ : Aside0 (Kd.R k109 109 ((w16.setCell ⟨gb252, 0, none⟩ (.slice Ao15 y249.length co15)).setCell ⟨gb252, 1, none⟩ (.int .i64 0)) w.heap.size (fun _ => True) (.slice Ao15 y249.length co15) y249) := ⟨by (with_reducible repeat (first | apply jj | apply jw | apply jx)); exact vk (Kd.R_far (p := ⟨gb252, 1, none⟩) (Kd.R_far (p := ⟨gb252, 0, none⟩) (Kd.R_types HO251.out BK252.out (by decide)) (fun _ hk => hk.2) (.slice Ao15 y249.length co15)) (fun _ hk => hk.2) (.int .i64 0)) (fun _ hk => trivial)⟩
   have n1_ : Aside0 (((w16.setCell ⟨gb252, 0, none⟩ (.slice Ao15 y249.length co15)).setCell ⟨gb252, 1, none⟩ (.int .i64 0)).heap[gb241]? = some (.cells #[.slice A0_0 l0_0.length c0_0, .int .i64 a0_1] 32 (0, 0))) := ⟨by (with_reducible repeat (first | refine qq ?_ _ | refine qj ?_ | refine qz ?_ _)); refine blk_far ?_ NB241_252.out _; (with_reducible repeat (first | refine qq ?_ _ | refine qj ?_ | refine qz ?_ _)); refine blk_far ?_ NB241_252.out _; (with_reducible repeat (first | refine qq ?_ _ | refine qj ?_ | refine qz ?_ _)); exact BK241.out⟩
   have n2_ : Aside0 (((w16.setCell ⟨gb252, 0, none⟩ (.slice Ao15 y249.length co15)).setCell ⟨gb252, 1, none⟩ (.int .i64 0)).heap[gb242]? = some (.cells #[.slice none 0 0, .int .i64 0] 32 (0, 0))) := ⟨by (with_reducible repeat (first | refine qq ?_ _ | refine qj ?_ | refine qz ?_ _)); refine blk_far ?_ NB242_252.out _; (with_reducible repeat (first | refine qq ?_ _ | refine qj ?_ | refine qz ?_ _)); refine blk_far ?_ NB242_252.out _; (with_reducible repeat (first | refine qq ?_ _ | refine qj ?_ | refine qz ?_ _)); exact BK242.out⟩
   have n3_ : Aside0 (((w16.setCell ⟨gb252, 0, none⟩ (.slice Ao15 y249.length co15)).setCell ⟨gb252, 1, none⟩ (.int .i64 0)).heap[gb252]? = some (.cells #[.slice Ao15 y249.length co15, .int .i64 0] 32 (0, 0))) := ⟨by (with_reducible repeat (first | refine qq ?_ _ | refine qj ?_ | refine qz ?_ _)); refine qk (cs := #[.slice Ao15 y249.length co15, .int .i64 0]) ?_ 1 _ rfl; (with_reducible repeat (first | refine qq ?_ _ | refine qj ?_ | refine qz ?_ _)); refine qk (cs := #[.slice none 0 0, .int .i64 0]) ?_ 0 _ rfl; (with_reducible repeat (first | refine qq ?_ _ | refine qj ?_ | refine qz ?_ _)); exact BK252.out⟩
   have n4_ : Aside0 (Below w.heap.size w ((w16.setCell ⟨gb252, 0, none⟩ (.slice Ao15 y249.length co15)).setCell ⟨gb252, 1, none⟩ (.int .i64 0))) := ⟨by repeat (with_reducible first | exact HB.out | apply zj | apply zq | apply zw | refine zx ?_ GE241.out | refine zx ?_ GE242.out | refine zx ?_ GE252.out)⟩
   (try clear HO251)
   (try clear BK241)
   (try clear BK242)
   (try clear BK252)
   (try clear HB)
   generalize ((w16.setCell ⟨gb252, 0, none⟩ (.slice Ao15 y249.length co15)).setCell ⟨gb252, 1, none⟩ (.int .i64 0)) = w20 at n0_ n1_ n2_ n3_ n4_ ⊢
   have HO251 := n0_
   have BK241 := n1_
   have BK242 := n2_
   have BK252 := n3_
   have HB := n4_
   clear n0_ n1_ n2_ n3_ n4_
   have n0_ := zz (jx HO251.out)
   have n1_ := zz (qj BK241.out)
   have n2_ := zz (qj BK242.out)
   have n3_ := zz (qj BK252.out)
   have n4_ := zz (zw HB.out)
   clear HO251
   clear BK241
   clear BK242
   clear BK252
   clear HB
   have HO251 := n0_
   have BK241 := n1_
   have BK242 := n2_
   have BK252 := n3_
   have HB := n4_
   clear n0_ n1_ n2_ n3_ n4_
   refine start_ (n := 6) (S := fun w' => w'.cell? ⟨gb252, 0, none⟩ = some (.slice Ao15 y249.length co15) ∧ w'.cell? ⟨gb252, 1, none⟩ = some (.int .i64 0)) (ds := []) #[false, false, false, false, false, false] (by kernel_rfl) rfl rfl ⟨(qw BK252.out 0).trans rfl, (qw BK252.out 1).trans rfl⟩ (fun hHeld => ?_)
   generalize w20.drew = w21 at HO251 BK241 BK242 BK252 HB hHeld ⊢
   refine pure_ (i := 1) (N := some 23) (v := ?_) (a' := ?_) #[false, true, false, false, false, false] rfl rfl (by kernel_rfl) (fun _ _ _ h => h) (Or.inl ⟨by rfl, ?_⟩) ?_ ?_
   rotate_left
   ·intro w'
    go_simp
    with_reducible rfl
   rotate_left
   ·simp only [Act.put, jz, yx, yk, i64_w, i32_w]
    rfl
   refine take_ (i := 0) (N := some 22) (v := ?_) (a' := ?_) #[true, true, false, false, false, false] rfl rfl (by kernel_rfl) (fun _ _ _ h => h) (Or.inl ⟨by rfl, ?_⟩) hHeld ?_ ?_
   rotate_left
   ·rintro w' ⟨s0, s1⟩
    go_simp
    with_reducible rfl
   rotate_left
   ·simp only [Act.put, jz, yx, yk, i64_w, i32_w]
    rfl
   refine take_ (i := 2) (N := some 24) (v := ?_) (a' := ?_) #[true, true, true, false, false, false] rfl rfl (by kernel_rfl) (fun _ _ _ h => h) (Or.inl ⟨by rfl, ?_⟩) hHeld ?_ ?_
   rotate_left
   ·rintro w' ⟨s0, s1⟩
    go_simp
    with_reducible rfl
   rotate_left
   ·simp only [Act.put, jz, yx, yk, i64_w, i32_w]
    rfl
   refine pure_ (i := 3) (N := some 25) (v := ?_) (a' := ?_) #[true, true, true, true, false, false] rfl rfl (by kernel_rfl) (fun _ _ _ h => h) (Or.inl ⟨by rfl, ?_⟩) ?_ ?_
   rotate_left
   ·intro w'
    go_simp
    with_reducible rfl
   rotate_left
   ·simp only [Act.put, jz, yx, yk, i64_w, i32_w]
    rfl
   refine one_ (i := 4) (N := none) #[true, true, true, true, true, false] rfl rfl (by kernel_rfl) (by decide) (fun K hK => ?_)
   have hs22 : w21.cell? ⟨gb242, 0, none⟩ = some (.slice none 0 0) := (qw BK242.out 0).trans rfl
   have hfs22 := qx BK242.out 0
   have hns22_0 := NB241_242.out
   have hns22_2 := NB252_242.out
   have hms22_0 := NB242_241.out
   have hms22_2 := NB242_252.out
   have hs23 : w21.cell? ⟨gb242, 1, none⟩ = some (.int .i64 0) := (qw BK242.out 1).trans rfl
   have hfs23 := qx BK242.out 1
   have hns23_0 := NB241_242.out
   have hns23_2 := NB252_242.out
   have hms23_0 := NB242_241.out
   have hms23_2 := NB242_252.out
   refine skip_ (w1 := ?_) (by rfl) rfl ?_ ?_
   rotate_left
   ·go_simp
    rfl
   refine hK.out _ _ ⟨((cell_far (p := ⟨gb242, _, none⟩) NB252_242.out _).trans (((cell_far (p := ⟨gb242, _, none⟩) NB252_242.out _).trans (hHeld.1)))), ((cell_far (p := ⟨gb242, _, none⟩) NB252_242.out _).trans (((cell_far (p := ⟨gb242, _, none⟩) NB252_242.out _).trans (hHeld.2))))⟩ (fun hHeld => ?_)
   clear hK K
   refine pure_ (i := 5) (N := some 9) (v := ?_) (a' := ?_) #[true, true, true, true, true, true] rfl rfl (by kernel_rfl) (fun _ _ _ h => h) (Or.inl ⟨by rfl, ?_⟩) ?_ ?_
   rotate_left
   ·intro w'
    go_simp
    with_reducible rfl
   rotate_left
   ·simp only [Act.put, jz, yx, yk, i64_w, i32_w]
    rfl
   refine done_ (by kernel_rfl) ?_
   try go_wp2
   refine bodyPost_ret (results_ct rfl _ _ gb242 32 #[.slice Ao15 y249.length co15, .int .i64 0] (0, 0) _ rfl (by (with_reducible repeat (first | refine qq ?_ _ | refine qj ?_ | refine qz ?_ _)); refine qk (cs := #[.slice Ao15 y249.length co15, .int .i64 0]) ?_ 1 _ rfl; (with_reducible repeat (first | refine qq ?_ _ | refine qj ?_ | refine qz ?_ _)); refine qk (cs := #[.slice none 0 0, .int .i64 0]) ?_ 0 _ rfl; (with_reducible repeat (first | refine qq ?_ _ | refine qj ?_ | refine qz ?_ _)); exact BK242.out) Try.underlying32 rfl (by kernel_rfl)) rfl ?_
   exact ⟨_, by first | rfl | (simp <;> rfl) | (simp [*] <;> rfl), by (with_reducible repeat (first | apply jj | apply jw | apply jx)); exact vk (Kd.R_far (p := ⟨gb242, 1, none⟩) (Kd.R_far (p := ⟨gb242, 0, none⟩) (Kd.R_types HO251.out BK242.out (by decide)) (fun _ hk => hk.2) (.slice Ao15 y249.length co15)) (fun _ hk => hk.2) (.int .i64 0)) (fun _ hk => trivial), by repeat (with_reducible first | exact HB.out | apply zj | apply zq | apply zw | refine zx ?_ GE241.out | refine zx ?_ GE242.out | refine zx ?_ GE252.out)⟩
  ·rw [if_neg c6] at H
   exact absurd H (by simp)
 ·rw [if_neg c5] at H
  exact absurd H (by simp)
def spec_poPowers.l0 : Nat → Int → List Int → Int → Int → List (S109) → Int → Option ((List (S109)) × Int × List Int)
 | 0, _, _, _, _, _, _ => none
 | k + 1, x1, x6, x7, x8, x254000, x254001 => if x8 ≤ x1 then ((spec_poAdd.f x254000 x254001 3 x7 0).bind fun bt258 => (if x6.length < 17592186044416 then (spec_poPowers.l0 k x1 (x6 ++ [bt258.2.2]) bt258.2.2 (wrap64 (x8 + 1)) bt258.1 bt258.2.1) else (none))) else (some (x254000, x254001, x6))
def spec_poPowers.f (k : Nat) (l0_0 : List (S109)) (a0_1 : Int) (a1 : Int) : Option ((List (S109)) × Int × List Int) := spec_poPowers.l0 k a1 (([0] : List Int)) 0 2 l0_0 a0_1
theorem spec_poPowers.mono_l : ∀ k, (∀ y0 y1 y2 y3 y4 y5, LeO (spec_poPowers.l0 k y0 y1 y2 y3 y4 y5) (spec_poPowers.l0 (k + 1) y0 y1 y2 y3 y4 y5))
 | 0 => fun _ _ _ _ _ _ r h => by simp [spec_poPowers.l0] at h
 | k + 1 => by
  have ih0 := spec_poPowers.mono_l k
  ·intro y0 y1 y2 y3 y4 y5
   unfold spec_poPowers.l0
   repeat' with_reducible first
   | exact ih0 _ _ _ _ _ _
   | exact kv _
   | exact LeO.none _
   | refine LeO.ite ?_ ?_
   | refine kw ?_ (fun _ => ?_)
theorem spec_poPowers.mono : ∀ a0 a1 a2 k, LeO (spec_poPowers.f k a0 a1 a2) (spec_poPowers.f (k + 1) a0 a1 a2) := by
 intro a0 a1 a2 k
 have ih0 := spec_poPowers.mono_l k
 unfold spec_poPowers.f
 repeat' with_reducible first
   | exact ih0 _ _ _ _ _ _
   | exact kv _
   | exact LeO.none _
   | refine LeO.ite ?_ ?_
   | refine kw ?_ (fun _ => ?_)
set_option maxHeartbeats 8000000 in
set_option maxRecDepth 100000 in
theorem spec_poPowers.calls (k : Nat) (P0_0_ : Nat → Prop) (A0_0 : Option Addr) (c0_0 : Nat) (l0_0 : List (S109)) (a0_1 : Int) (a1 : Int) (r1 : List (S109)) (r2 : Int) (r3 : List Int) (w : World) (hs0_0 : Kd.V k109 109 w w.heap.size (fun k_ => P0_0_ k_) (.slice A0_0 l0_0.length c0_0) l0_0) (h : spec_poPowers.f k l0_0 a0_1 a1 = some (r1, r2, r3)) :
  Calls Try.prog 190 #[.agg #[.slice A0_0 l0_0.length c0_0, .int .i64 a0_1], .int .i64 a1] w fun e w' => ∃ v0_ v2_ : Value, e = .returned (.tuple #[.agg #[v0_, .int .i64 r2], v2_]) ∧ Kd.V k109 109 w' w.heap.size (fun k_ => (P0_0_ k_ ∨ w.heap.size ≤ k_) ∧ some k_ ≠ (v2_ : Value).ownBlock) v0_ r1 ∧ Kd.R (Kd.int .i64) 3 w' w.heap.size (fun k_ => (w.heap.size ≤ k_)) v2_ r3 ∧ Below w.heap.size w w' := by
 have hu32 := Try.underlying32
 have HO0_0 := zz (show Kd.V k109 109 w w.heap.size (fun k_ => (P0_0_ k_ ∨ w.heap.size ≤ k_)) (.slice A0_0 l0_0.length c0_0) l0_0 from Kd.V_mono hs0_0 (fun k_ hk => .inl hk))
 have HB := zz (Below.refl w.heap.size w)
 have H : (spec_poPowers.l0 k a1 (([0] : List Int)) 0 2 l0_0 a0_1) = some (r1, r2, r3) := h
 clear h
 obtain ⟨y255, hy255⟩ : ∃ y_ : List Int, y_ = (([0] : List Int)) := ⟨_, rfl⟩
 replace H : (spec_poPowers.l0 k a1 y255 0 2 l0_0 a0_1) = some (r1, r2, r3) := by first | (rw [hy255]; with_reducible exact H) | (have H2_ := (Option.bind_some _ _).symm.trans H; rw [hy255]; with_reducible exact H2_) | (have H2_ := (Option.bind_some _ _).symm.trans H; with_reducible exact H2_) | with_reducible exact H | (rw [hy255]; exact H) | exact H
 have Ny255 := zz hy255
 clear hy255
 have H' := zz H
 clear H
 go_enter Try.func190, Try.ntmps190
 go_wp2_with (first | ((with_reducible refine vw (N := 2) rfl ?_); refine vx ?hg (N := 2) ?hd (cs := #[.slice A0_0 l0_0.length c0_0, .int .i64 a0_1]) (t := 32) ?hr ?_; (case hd => rfl); (case hg => rfl); (case hr => first | (go_simp; done) | (go_simp; rfl)); intro gb253 hg w3 hbox hb; have n0_ := zz (Kd.V_below (Kd.V_elderB (by (with_reducible repeat (first | apply Kd.V_alloc | apply Kd.V_drewN | apply Kd.V_drew)); exact HO0_0.out) gb253 (Nat.le_of_eq hg.symm)) hb); have n1_ := zz (zk (by repeat (with_reducible first | exact HB.out | apply zj | apply zq | apply zw)) hb); have n2_ := zz (hbox); have n3_ := zz ((by rw [hg]; exact (zv (by repeat (with_reducible first | exact HB.out | apply zj | apply zq | apply zw))) : w.heap.size ≤ gb253)); have n4_ := zz ((by rw [hg]; exact (zv (by repeat (with_reducible first | exact HB.out | apply zj | apply zq | apply zw))) : w.heap.size ≤ gb253)); clear HO0_0; clear HB; have HO0_0 := n0_; have HB := n1_; have BK253 := n2_; have GW253 := n3_; have GE253 := n4_; clear n0_ n1_ n2_ n3_ n4_; clear hb hbox hg) | ((with_reducible refine vw (N := 4) rfl ?_); refine vx ?hg (N := 4) ?hd (cs := #[.slice none 0 0, .int .i64 0]) (t := 32) ?hr ?_; (case hd => rfl); (case hg => rfl); (case hr => first | (go_simp; done) | (go_simp; rfl)); intro gb254 hg w4 hbox hb; have n0_ := zz (Kd.V_below (Kd.V_elderB (by (with_reducible repeat (first | apply Kd.V_alloc | apply Kd.V_drewN | apply Kd.V_drew)); exact HO0_0.out) gb254 (Nat.le_of_eq hg.symm)) hb); have n1_ := zz (qv (g := gb253) (o := .cells #[.slice A0_0 l0_0.length c0_0, .int .i64 a0_1] 32 (0, 0)) (by (with_reducible repeat (first | refine qq ?_ _ | refine qj ?_ | refine qz ?_ _)); exact BK253.out) hb); have n2_ := zz (zk (by repeat (with_reducible first | exact HB.out | apply zj | apply zq | apply zw | refine zx ?_ GE253.out)) hb); have n3_ := zz (hbox); have n4_ := zz ((by rw [hg]; exact (zv (by repeat (with_reducible first | exact HB.out | apply zj | apply zq | apply zw | refine zx ?_ GE253.out))) : w.heap.size ≤ gb254)); have n5_ := zz ((by rw [hg]; exact (zv (by repeat (with_reducible first | exact HB.out | apply zj | apply zq | apply zw | refine zx ?_ GE253.out))) : w.heap.size ≤ gb254)); have n6_ := zz ((by rw [hg]; exact Nat.ne_of_lt (blk_lt (g := gb253) (o := .cells #[.slice A0_0 l0_0.length c0_0, .int .i64 a0_1] 32 (0, 0)) (by (with_reducible repeat (first | refine qq ?_ _ | refine qj ?_ | refine qz ?_ _)); exact BK253.out)) : gb253 ≠ gb254)); have n7_ := zz ((by rw [hg]; exact Nat.ne_of_gt (blk_lt (g := gb253) (o := .cells #[.slice A0_0 l0_0.length c0_0, .int .i64 a0_1] 32 (0, 0)) (by (with_reducible repeat (first | refine qq ?_ _ | refine qj ?_ | refine qz ?_ _)); exact BK253.out)) : gb254 ≠ gb253)); clear HO0_0; clear BK253; clear HB; have HO0_0 := n0_; have BK253 := n1_; have HB := n2_; have BK254 := n3_; have GW254 := n4_; have GE254 := n5_; have NB253_254 := n6_; have NB254_253 := n7_; clear n0_ n1_ n2_ n3_ n4_ n5_ n6_ n7_; clear hb hbox hg) | ((with_reducible refine vw (N := 9) rfl ?_); refine Kd.R_lit (Kd.int .i64) _ 3 ?hg (N := 9) ?hd (xs := ([0] : List Int)) (inner := [.int .i64 0]) (ok := fun _ => True) (okp := fun _ => True) ?hr ?hp (fun _ hk => hk) trivial (Below.refl _ _) (Nat.le_refl _) (by simp) ?_; (case hd => rfl); (case hg => rfl); (case hr => first | (go_simp; done) | (go_simp; rfl)); (case hp => exact (Reps.one (show Kd.M (Kd.int .i64) _ _ _ 0 [.int .i64 0] from rfl) (Reps.none _ _))); intro v256 w5 ho6 hb hg_ hnew_; clear hg_ hnew_; (first | rw [← Ny255.out] at ho6 | (simp only [Int.reduceToNat] at ho6; rw [← Ny255.out] at ho6)); have n0_ := zz (Kd.V_elder' (by (with_reducible repeat (first | apply Kd.V_alloc | apply Kd.V_drewN | apply Kd.V_drew)); exact HO0_0.out) (Kd.R_base ho6) hb); have n1_ := zz (Kd.R_lower (Kd.R_newM (M := fun k_ => (w.heap.size ≤ k_)) ho6 (zv (by repeat (with_reducible first | exact HB.out | apply zj | apply zq | apply zw | refine zx ?_ GE253.out | refine zx ?_ GE254.out))) (fun k_ h_ => h_)) (zv (by repeat (with_reducible first | exact HB.out | apply zj | apply zq | apply zw | refine zx ?_ GE253.out | refine zx ?_ GE254.out)))); have n2_ := zz (qv (g := gb253) (o := .cells #[.slice A0_0 l0_0.length c0_0, .int .i64 a0_1] 32 (0, 0)) (by (with_reducible repeat (first | refine qq ?_ _ | refine qj ?_ | refine qz ?_ _)); exact BK253.out) hb); have n3_ := zz (qv (g := gb254) (o := .cells #[.slice none 0 0, .int .i64 0] 32 (0, 0)) (by (with_reducible repeat (first | refine qq ?_ _ | refine qj ?_ | refine qz ?_ _)); exact BK254.out) hb); have n4_ := zz (zk (by repeat (with_reducible first | exact HB.out | apply zj | apply zq | apply zw | refine zx ?_ GE253.out | refine zx ?_ GE254.out)) hb); clear HO0_0; clear BK253; clear BK254; clear HB; have HO0_0 := n0_; have HO257 := n1_; have BK253 := n2_; have BK254 := n3_; have HB := n4_; clear n0_ n1_ n2_ n3_ n4_; clear hb ho6))
 go_loopg [6, 7, 8] k (fun kq v6 v7 v8 w' => ∃ (x6_1 : List Int) (x7_1 : Int) (x8_1 : Int) (x254000_1 : List (S109)) (x254001_1 : Int) (u254000 : Value), v7 = .int .i64 x7_1 ∧ v8 = .int .i64 x8_1 ∧ Aside0 (spec_poPowers.l0 kq a1 x6_1 x7_1 x8_1 x254000_1 x254001_1 = some (r1, r2, r3)) ∧ Aside0 (kq ≤ k) ∧ Aside0 (Kd.R (Kd.int .i64) 3 w' w.heap.size (fun k_ => (w.heap.size ≤ k_)) v6 x6_1) ∧ Aside0 (Kd.V k109 109 w' w.heap.size (fun k_ => (P0_0_ k_ ∨ w.heap.size ≤ k_) ∧ some k_ ≠ (v6 : Value).ownBlock ∧ k_ ≠ gb253 ∧ k_ ≠ gb254) u254000 x254000_1) ∧ Aside0 (w'.heap[gb253]? = some (.cells #[u254000, .int .i64 x254001_1] 32 (0, 0))) ∧ Aside0 (w'.heap[gb254]? = some (.cells #[(.slice none 0 0), .int .i64 0] 32 (0, 0))) ∧ Aside0 (Below w.heap.size w w'))
 case atStart => exact ⟨(y255), (0), (2), (l0_0), (a0_1), (.slice A0_0 l0_0.length c0_0), (by first | rfl | (simp; done) | (simp [*]; done)), (by first | rfl | (simp; done) | (simp [*]; done)), H', ⟨Nat.le_refl _⟩, ⟨by (with_reducible repeat (first | apply jj | apply jw | apply jx)); exact vk HO257.out (fun _ hk => hk.1)⟩, ⟨by (with_reducible repeat (first | apply Kd.V_alloc | apply Kd.V_drewN | apply Kd.V_drew)); exact Kd.V_mono HO0_0.out (fun _ hk => ⟨hk.1.1.1, ⟨hk.2, ⟨hk.1.1.2, hk.1.2⟩⟩⟩)⟩, ⟨by (with_reducible repeat (first | refine qq ?_ _ | refine qj ?_ | refine qz ?_ _)); exact BK253.out⟩, ⟨by (with_reducible repeat (first | refine qq ?_ _ | refine qj ?_ | refine qz ?_ _)); exact BK254.out⟩, ⟨by repeat (with_reducible first | exact HB.out | apply zj | apply zq | apply zw | refine zx ?_ GE253.out | refine zx ?_ GE254.out)⟩⟩
 case round =>
  clear H'
  try clear c1
  try clear p2
  obtain ⟨x6_1, x7_1, x8_1, x254000_1, x254001_1, u254000, rfl, rfl, HA, HK1, HO_6, HO_254000, BK253, BK254, HB⟩ := hrel
  cases gk with
  | zero => exact absurd HA.out (by simp [spec_poPowers.l0])
  | succ k1 =>
   have H := HA.out
   clear HA
   simp only [spec_poPowers.l0] at H
   by_cases c7 : x8_1 ≤ a1
   ·rw [if_pos c7] at H
    have c7b0 : decide (x8_1 ≤ a1) = true := decide_eq_true c7
    clear c7
    replace H := Option.bind_eq_some_iff.mp H
    obtain ⟨⟨t258, t261, t262⟩, A80, H⟩ := H
    replace H : (if x6_1.length < 17592186044416 then (spec_poPowers.l0 k1 a1 (x6_1 ++ [t262]) t262 (wrap64 (x8_1 + 1)) t258 t261) else (none)) = some (r1, r2, r3) := H
    have A8 := zz A80
    clear A80
    by_cases c9 : x6_1.length < 17592186044416
    ·rw [if_pos c9] at H
     have LMc9 := zz c9
     clear c9
     obtain ⟨y263, hy263⟩ : ∃ y_ : List Int, y_ = (x6_1 ++ [t262]) := ⟨_, rfl⟩
     replace H : (spec_poPowers.l0 k1 a1 y263 t262 (wrap64 (x8_1 + 1)) t258 t261) = some (r1, r2, r3) := by first | (rw [hy263]; with_reducible exact H) | (have H2_ := (Option.bind_some _ _).symm.trans H; rw [hy263]; with_reducible exact H2_) | (have H2_ := (Option.bind_some _ _).symm.trans H; with_reducible exact H2_) | with_reducible exact H | (rw [hy263]; exact H) | exact H
     have Ny263 := zz hy263
     clear hy263
     have H' := zz H
     clear H
     have hnb10 := NB253_254.out
     have hnc10 := NB254_253.out
     have hcz11_0 : wr.cell? ⟨gb253, 0, none⟩ = some (u254000) := (qw BK253.out 0).trans rfl
     have hcz11_1 : wr.cell? ⟨gb253, 1, none⟩ = some (.int .i64 x254001_1) := (qw BK253.out 1).trans rfl
     have hfz11_0 := qx BK253.out 0
     have hfz11_1 := qx BK253.out 1
     obtain ⟨Ao12, co12, eo12⟩ := Kd.V_slice HO_254000.out
     subst eo12
     go_wp2_with (first | ((with_reducible refine vj (f := 130) rfl ?_); refine goesL_ (some 18) rfl rfl Try.func130 (by kernel_rfl) rfl #[.agg #[.slice Ao12 x254000_1.length co12, .int .i64 x254001_1], .int .i64 3, .int .i64 x7_1, .int .i64 0] rfl (by (try simp only [yv, List.map_cons, List.map_nil]); first | done | rfl) ?_; (with_reducible refine (spec_poAdd.calls _ _ x254000_1 x254001_1 3 x7_1 0 t258 t261 t262 _ ?side1 ?side2 A8.out).mono ?_); (case side1 => repeat (first | exact (Kd.V_reads' HO_254000.out).2.2 | (with_reducible refine jk ?_ _) | (with_reducible refine jv ?_ _) | (with_reducible refine yz ?_))); (case side2 => exact (Kd.V_reads' HO_254000.out).2.1); rintro e w13 ⟨v259, rfl, ho0, hb⟩; refine ⟨_, rfl, ?_⟩; have n0_ := zz (vv (by (with_reducible repeat (first | apply jj | apply jw | apply jx)); exact HO_6.out) hb); have n1_ := zz (Kd.V_elder' (by (with_reducible repeat (first | apply Kd.V_alloc | apply Kd.V_drewN | apply Kd.V_drew)); exact HO_254000.out) (Kd.R_base ho0) hb); have n2_ := zz (Kd.R_lower (Kd.R_newM (M := fun k_ => (w.heap.size ≤ k_)) ho0 (zv (by repeat (with_reducible first | exact HB.out | apply zj | apply zq | apply zw | refine zx ?_ GE253.out | refine zx ?_ GE254.out))) (fun k_ h_ => h_)) (zv (by repeat (with_reducible first | exact HB.out | apply zj | apply zq | apply zw | refine zx ?_ GE253.out | refine zx ?_ GE254.out)))); have n3_ := zz (qv (g := gb253) (o := .cells #[.slice Ao12 x254000_1.length co12, .int .i64 x254001_1] 32 (0, 0)) (by (with_reducible repeat (first | refine qq ?_ _ | refine qj ?_ | refine qz ?_ _)); exact BK253.out) hb); have n4_ := zz (qv (g := gb254) (o := .cells #[.slice none 0 0, .int .i64 0] 32 (0, 0)) (by (with_reducible repeat (first | refine qq ?_ _ | refine qj ?_ | refine qz ?_ _)); exact BK254.out) hb); have n5_ := zz (zk (by repeat (with_reducible first | exact HB.out | apply zj | apply zq | apply zw | refine zx ?_ GE253.out | refine zx ?_ GE254.out)) hb); clear HO_6; clear HO_254000; clear BK253; clear BK254; clear HB; have HO_6 := n0_; have HO_254000 := n1_; have HO260 := n2_; have BK253 := n3_; have BK254 := n4_; have HB := n5_; clear n0_ n1_ n2_ n3_ n4_ n5_; (try clear hb); (try clear hi hk); (try clear ho0); obtain ⟨Ao14, co14, eo14⟩ := kj HO260.out; subst eo14; have hcz15_0 : w13.cell? ⟨gb253, 0, none⟩ = some (.slice Ao12 x254000_1.length co12) := (qw BK253.out 0).trans rfl; have hcz15_1 : w13.cell? ⟨gb253, 1, none⟩ = some (.int .i64 x254001_1) := (qw BK253.out 1).trans rfl; have hfz15_0 := qx BK253.out 0; have hfz15_1 := qx BK253.out 1) | ((with_reducible refine gate_builtin (b := .append) (xs := #[.tmp 21, .tmp 23]) rfl ?_); at_builtin; refine Kd.R_append (Kd.int .i64) (w0 := w) w.heap.size rfl (.tmp 21) (.tmp 23) 29 3 (.int .i64 0) 8 rfl Try.underlying29 info3 rfl (by decide) (by omega) u6 x6_1 t262 [.int .i64 t262] (fun k_ => (w.heap.size ≤ k_)) (fun _ => False) rfl (by first | (go_simp; done) | (go_simp; rfl)) ?aP (fun _ hk => hk.elim) ?aF ?aO ?aB ?aS ?aL ?_; (case aP => exact rfl); (case aB => exact (by repeat (with_reducible first | exact HB.out | apply zj | apply zq | apply zw | refine zx ?_ GE253.out | refine zx ?_ GE254.out))); (case aF => exact (fun k_ hk => (Nat.le_trans (zv (by repeat (with_reducible first | exact HB.out | apply zj | apply zq | apply zw | refine zx ?_ GE253.out | refine zx ?_ GE254.out))) hk))); (case aO => exact (by (with_reducible repeat (first | apply jj | apply jw | apply jx)); exact vk (Kd.R_far (p := ⟨gb253, 1, none⟩) (Kd.R_far (p := ⟨gb253, 0, none⟩) (Kd.R_types HO_6.out BK253.out (by decide)) (fun _ hk => hk.2) (.slice Ao14 t258.length co14)) (fun _ hk => hk.2) (.int .i64 t261)) (fun _ hk => hk.1))); (case aS => exact (zv (by repeat (with_reducible first | exact HB.out | apply zj | apply zq | apply zw | refine zx ?_ GE253.out | refine zx ?_ GE254.out)))); (case aL => have := LMc9.out; omega); intro v264 w16 ho hb hg hat; rw [← Ny263.out] at ho; have n0_ := zz (Kd.V_afterv (ok := (fun k_ => (P0_0_ k_ ∨ w.heap.size ≤ k_) ∧ some k_ ≠ (.slice Ao14 t258.length co14 : Value).ownBlock ∧ k_ ≠ gb253 ∧ k_ ≠ gb254)) (by (with_reducible repeat (first | apply Kd.V_alloc | apply Kd.V_drewN | apply Kd.V_drew)); exact Kd.V_mono (Kd.V_far (p := ⟨gb253, 1, none⟩) (Kd.V_far (p := ⟨gb253, 0, none⟩) (Kd.V_mono HO_254000.out (fun k_ hk => (⟨hk, hk.1.2.2.1⟩ : _ ∧ k_ ≠ gb253))) (fun _ hk => hk.2) (.slice Ao14 t258.length co14)) (fun _ hk => hk.2) (.int .i64 t261)) (fun _ hk => ⟨⟨hk.1.1.1, ⟨hk.1.2, ⟨hk.1.1.2.2.1, hk.1.1.2.2.2⟩⟩⟩, hk.1.1.2.1⟩)) hg hat); have n1_ := zz (blk_grown (g := gb253) (o := .cells #[.slice Ao14 t258.length co14, .int .i64 t261] 32 (0, 0)) (by (with_reducible repeat (first | refine qq ?_ _ | refine qj ?_ | refine qz ?_ _)); refine qk (cs := #[.slice Ao14 t258.length co14, .int .i64 x254001_1]) ?_ 1 _ rfl; (with_reducible repeat (first | refine qq ?_ _ | refine qj ?_ | refine qz ?_ _)); refine qk (cs := #[.slice Ao12 x254000_1.length co12, .int .i64 x254001_1]) ?_ 0 _ rfl; (with_reducible repeat (first | refine qq ?_ _ | refine qj ?_ | refine qz ?_ _)); exact BK253.out) hg (Kd.R_ne HO_6.out BK253.out (by decide))); have n2_ := zz (blk_grown (g := gb254) (o := .cells #[.slice none 0 0, .int .i64 0] 32 (0, 0)) (by (with_reducible repeat (first | refine qq ?_ _ | refine qj ?_ | refine qz ?_ _)); refine blk_far ?_ NB254_253.out _; (with_reducible repeat (first | refine qq ?_ _ | refine qj ?_ | refine qz ?_ _)); refine blk_far ?_ NB254_253.out _; (with_reducible repeat (first | refine qq ?_ _ | refine qj ?_ | refine qz ?_ _)); exact BK254.out) hg (Kd.R_ne HO_6.out BK254.out (by decide))); have n3_ := zz (Kd.R_over' (by (with_reducible repeat (first | apply jj | apply jw | apply jx)); exact (vk (Kd.R_far (p := ⟨gb253, 1, none⟩) (Kd.R_far (p := ⟨gb253, 0, none⟩) (Kd.R_types HO260.out BK253.out (by decide)) (fun _ hk => hk.2) (.slice Ao14 t258.length co14)) (fun _ hk => hk.2) (.int .i64 t261)) (fun _ h_ => h_.1))) (Kd.R_typed (by (with_reducible repeat (first | apply jj | apply jw | apply jx)); exact (vk (Kd.R_far (p := ⟨gb253, 1, none⟩) (Kd.R_far (p := ⟨gb253, 0, none⟩) (Kd.R_types HO_6.out BK253.out (by decide)) (fun _ hk => hk.2) (.slice Ao14 t258.length co14)) (fun _ hk => hk.2) (.int .i64 t261)) (fun _ h_ => h_.1)))) (by decide) hg); have n4_ := zz (hb); have n5_ := zz (ho); clear HO_254000; clear BK253; clear BK254; clear HO260; clear HB; clear HO_6; have HO_254000 := n0_; have BK253 := n1_; have BK254 := n2_; have HO260 := n3_; have HB := n4_; have HO265 := n5_; clear n0_ n1_ n2_ n3_ n4_ n5_; clear ho hb hg hat))
     go_roundg k1
     case measure => have := HK1.out; omega
     case rel => exact ⟨(y263), (t262), (wrap64 (x8_1 + 1)), (t258), (t261), (.slice Ao14 t258.length co14), (by first | rfl | (simp; done) | (simp [*]; done)), (by first | rfl | (simp; done) | (simp [*]; done)), H', ⟨by have := HK1.out; omega⟩, ⟨by (with_reducible repeat (first | apply jj | apply jw | apply jx)); exact HO265.out⟩, ⟨Kd.V_mono (Kd.R_V (Kd.R_types (Kd.R_types (Kd.R_apart' HO260.out (Kd.R_typed HO265.out) (by decide)) BK253.out (by decide)) BK254.out (by decide))) (fun k_ hk => ⟨.inr hk.1.1.1.1, ⟨hk.1.1.2, hk.1.2, hk.2⟩⟩)⟩, ⟨by (with_reducible repeat (first | refine qq ?_ _ | refine qj ?_ | refine qz ?_ _)); exact BK253.out⟩, ⟨by (with_reducible repeat (first | refine qq ?_ _ | refine qj ?_ | refine qz ?_ _)); exact BK254.out⟩, ⟨by repeat (with_reducible first | exact HB.out | apply zj | apply zq | apply zw | refine zx ?_ GE253.out | refine zx ?_ GE254.out)⟩⟩
    ·rw [if_neg c9] at H
     exact absurd H (by simp)
   ·rw [if_neg c7] at H
    have c7b0 : decide (x8_1 ≤ a1) = false := decide_eq_false c7
    clear c7
    simp only [Option.some.injEq, Prod.mk.injEq] at H
    obtain ⟨rfl, rfl, rfl⟩ := H
    have hnb17 := NB253_254.out
    have hnc17 := NB254_253.out
    have hcz18_0 : wr.cell? ⟨gb253, 0, none⟩ = some (u254000) := (qw BK253.out 0).trans rfl
    have hcz18_1 : wr.cell? ⟨gb253, 1, none⟩ = some (.int .i64 x254001_1) := (qw BK253.out 1).trans rfl
    have hfz18_0 := qx BK253.out 0
    have hfz18_1 := qx BK253.out 1
    obtain ⟨Ao19, co19, eo19⟩ := Kd.V_slice HO_254000.out
    subst eo19
    have hcz20_0 : wr.cell? ⟨gb254, 0, none⟩ = some (.slice none 0 0) := (qw BK254.out 0).trans rfl
    have hcz20_1 : wr.cell? ⟨gb254, 1, none⟩ = some (.int .i64 0) := (qw BK254.out 1).trans rfl
    have hfz20_0 := qx BK254.out 0
    have hfz20_1 := qx BK254.out 1
    go_wp2
    refine bodyPost_ret (results_ct rfl _ _ gb254 32 #[.slice Ao19 x254000_1.length co19, .int .i64 x254001_1] (0, 0) _ rfl (by (with_reducible repeat (first | refine qq ?_ _ | refine qj ?_ | refine qz ?_ _)); refine qk (cs := #[.slice Ao19 x254000_1.length co19, .int .i64 0]) ?_ 1 _ rfl; (with_reducible repeat (first | refine qq ?_ _ | refine qj ?_ | refine qz ?_ _)); refine qk (cs := #[.slice none 0 0, .int .i64 0]) ?_ 0 _ rfl; (with_reducible repeat (first | refine qq ?_ _ | refine qj ?_ | refine qz ?_ _)); exact BK254.out) Try.underlying32 rfl (by kernel_rfl)) rfl ?_
    exact ⟨_, _, by first | rfl | (simp <;> rfl) | (simp [*] <;> rfl), by (with_reducible repeat (first | apply Kd.V_alloc | apply Kd.V_drewN | apply Kd.V_drew)); exact Kd.V_mono (Kd.V_far (p := ⟨gb254, 1, none⟩) (Kd.V_far (p := ⟨gb254, 0, none⟩) (Kd.V_mono HO_254000.out (fun k_ hk => (⟨hk, hk.2.2.2⟩ : _ ∧ k_ ≠ gb254))) (fun _ hk => hk.2) (.slice Ao19 x254000_1.length co19)) (fun _ hk => hk.2) (.int .i64 x254001_1)) (fun _ hk => ⟨hk.1.1, hk.1.2.1⟩), by (with_reducible repeat (first | apply jj | apply jw | apply jx)); exact vk (Kd.R_far (p := ⟨gb254, 1, none⟩) (Kd.R_far (p := ⟨gb254, 0, none⟩) (Kd.R_types HO_6.out BK254.out (by decide)) (fun _ hk => hk.2) (.slice Ao19 x254000_1.length co19)) (fun _ hk => hk.2) (.int .i64 x254001_1)) (fun _ hk => hk.1), by repeat (with_reducible first | exact HB.out | apply zj | apply zq | apply zw | refine zx ?_ GE253.out | refine zx ?_ GE254.out)⟩
def spec_l1Least.f (a0 : Int) (a1 : Int) : Option (Int) := if a0 < a1 then (some a0) else (some a1)
set_option maxHeartbeats 8000000 in
set_option maxRecDepth 100000 in
theorem spec_l1Least.calls (a0 : Int) (a1 : Int) (r : Int) (w : World) (h : spec_l1Least.f a0 a1 = some r) :
  Calls Try.prog 191 #[.int .i64 a0, .int .i64 a1] w fun e w' => e = .returned (.int .i64 r) ∧ Drawn0 w w' := by
 have H : (if a0 < a1 then (some a0) else (some a1)) = some r := h
 clear h
 by_cases c3 : a0 < a1
 ·rw [if_pos c3] at H
  have c3b0 : decide (a0 < a1) = true := decide_eq_true c3
  clear c3
  obtain rfl := Option.some.inj H
  go_enter Try.func191, Try.ntmps191
  go_wp2
  go_ret
  exact ⟨by first | rfl | (simp; done) | (simp [*]; done), by repeat (first | exact Drawn0.refl _ | apply Drawn0.step)⟩
 ·rw [if_neg c3] at H
  have c3b0 : decide (a0 < a1) = false := decide_eq_false c3
  clear c3
  obtain rfl := Option.some.inj H
  go_enter Try.func191, Try.ntmps191
  go_wp2
  go_ret
  exact ⟨by first | rfl | (simp; done) | (simp [*]; done), by repeat (first | exact Drawn0.refl _ | apply Drawn0.step)⟩
end Go.Proofs.Ytlmoemahamneoaa.PFnSchemesAgree
