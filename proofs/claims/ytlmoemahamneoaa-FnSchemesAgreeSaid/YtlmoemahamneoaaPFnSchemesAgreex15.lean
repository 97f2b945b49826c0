-- Of the print's words and parts, pruned by prune.py, a program of this session: what nothing of this claim names is left out.
import Derived.Test.YtlmoemahamneoaaPFnSchemesAgreex0
import Derived.Test.YtlmoemahamneoaaPFnSchemesAgreex2
import Derived.Test.YtlmoemahamneoaaPFnSchemesAgreex3
import Derived.Test.YtlmoemahamneoaaPFnSchemesAgreex14
namespace Go.Proofs.Ytlmoemahamneoaa.PFnSchemesAgree
open Go.RowKit Go.Proofs.YtlmoemahamneoaaW.PrintWords Go.Proofs.YtlmoemahamneoaaW.PrintLast Go.Proofs.YtlmoemahamneoaaW.PrintMore
open Go.Proofs.YtlmoemahamneoaaW.PrintWords.Aside0 renaming mk → zz
open Go.Proofs.YtlmoemahamneoaaW.PrintWords renaming pw_below_drewN → zq, below_alloc → zj, below_drew1 → zw, below_set → zx, below_step → zk, below_size → zv, blk_alloc → qz, blk_drewN → qq, blk_drew → qj, blk_cell → qw, blk_frozen → qx, blk_below → qk, gate_callee → yk, gate_dst → yv, box_event → vz
open List renaming setIfInBounds_toArray → qv, set_cons_zero → yz, set_cons_succ → yq, map_toArray → yj, length_drop → yw, length_take → yx
open Go.Proofs.YtlmoemahamneoaaW.PrintWords.Kd renaming R_alloc → jz, R_drewN → jq, R_drew → jj, C_alloc → jw, C_drewN → jx, C_drew → jk, C_below → jv, R_reads' → vq, R_base → kz, R_lt → kj, R_elder' → kw
open Go.Proofs.YtlmoemahamneoaaW.PrintWords.LeO renaming bind → vj
open Go.Proofs.YtlmoemahamneoaaW.PrintLast renaming goesL_ → vw, take_ofW → vx, i64_w → vk, i32_w → vv
attribute [local go_sem] max2_int min2_int max_two min_two max_three min_three max_four min_four
set_option linter.unusedVariables false
set_option linter.unusedSimpArgs false
def impl_SameCode.f (k : Nat) (l0_0 : List (S109)) (a0_1 : Int) (l1_0 : List (S109)) (a1_1 : Int) : Option (Bool × Bool) := (impl_PolynomialOf.f k l0_0 a0_1).bind fun bt463 => ((impl_PolynomialOf.f k l1_0 a1_1).bind fun bt467 => (if bt463.2 = true then (if bt467.2 = true then ((slices_Equal_int_int.f k bt463.1 bt467.1).bind fun t471 => (some (t471, true))) else (some (false, false))) else (some (false, false))))
theorem impl_SameCode.mono : ∀ a0 a1 a2 a3 k, LeO (impl_SameCode.f k a0 a1 a2 a3) (impl_SameCode.f (k + 1) a0 a1 a2 a3) := by
 intro a0 a1 a2 a3 k
 unfold impl_SameCode.f
 repeat' with_reducible first
   | exact impl_PolynomialOf.mono _ _ _
   | exact slices_Equal_int_int.mono _ _ _
   | exact LeO.refl _
   | exact LeO.none _
   | refine LeO.ite ?_ ?_
   | refine vj ?_ (fun _ => ?_)
set_option maxHeartbeats 8000000 in
set_option maxRecDepth 100000 in
theorem impl_SameCode.calls (k : Nat) (A0_0 : Option Addr) (c0_0 : Nat) (l0_0 : List (S109)) (a0_1 : Int) (A1_0 : Option Addr) (c1_0 : Nat) (l1_0 : List (S109)) (a1_1 : Int) (r1 : Bool) (r2 : Bool) (w : World) (hr0_0 : Kd.C k109 w A0_0 l0_0.length l0_0) (hc0_0 : l0_0.length ≤ c0_0) (hr1_0 : Kd.C k109 w A1_0 l1_0.length l1_0) (hc1_0 : l1_0.length ≤ c1_0) (h : impl_SameCode.f k l0_0 a0_1 l1_0 a1_1 = some (r1, r2)) :
  Calls Try.prog 49 #[.agg #[.slice A0_0 l0_0.length c0_0, .int .i64 a0_1], .agg #[.slice A1_0 l1_0.length c1_0, .int .i64 a1_1]] w fun e w' => e = .returned (.tuple #[.bool r1, .bool r2]) ∧ Below w.heap.size w w' := by
 have hu32 := Try.underlying32
 have HR0_0 := zz hr0_0
 have HC0_0 := zz hc0_0
 clear hr0_0 hc0_0
 have HR1_0 := zz hr1_0
 have HC1_0 := zz hc1_0
 clear hr1_0 hc1_0
 have HB := zz (Below.refl w.heap.size w)
 have H : ((impl_PolynomialOf.f k l0_0 a0_1).bind fun bt463 => ((impl_PolynomialOf.f k l1_0 a1_1).bind fun bt467 => (if bt463.2 = true then (if bt467.2 = true then ((slices_Equal_int_int.f k bt463.1 bt467.1).bind fun t471 => (some (t471, true))) else (some (false, false))) else (some (false, false))))) = some (r1, r2) := h
 clear h
 replace H := Option.bind_eq_some_iff.mp H
 obtain ⟨⟨t463, t466⟩, A30, H⟩ := H
 replace H : ((impl_PolynomialOf.f k l1_0 a1_1).bind fun bt467 => (if t466 = true then (if bt467.2 = true then ((slices_Equal_int_int.f k t463 bt467.1).bind fun t471 => (some (t471, true))) else (some (false, false))) else (some (false, false)))) = some (r1, r2) := H
 have A3 := zz A30
 clear A30
 replace H := Option.bind_eq_some_iff.mp H
 obtain ⟨⟨t467, t470⟩, A40, H⟩ := H
 replace H : (if t466 = true then (if t470 = true then ((slices_Equal_int_int.f k t463 t467).bind fun t471 => (some (t471, true))) else (some (false, false))) else (some (false, false))) = some (r1, r2) := H
 have A4 := zz A40
 clear A40
 by_cases c5 : t466 = true
 ·subst c5
  have H1 : (if t470 = true then ((slices_Equal_int_int.f k t463 t467).bind fun t471 => (some (t471, true))) else (some (false, false))) = some (r1, r2) := by rw [if_pos rfl] at H; exact H
  clear H
  have H := H1
  clear H1
  by_cases c6 : t470 = true
  ·subst c6
   have H1 : ((slices_Equal_int_int.f k t463 t467).bind fun t471 => (some (t471, true))) = some (r1, r2) := by rw [if_pos rfl] at H; exact H
   clear H
   have H := H1
   clear H1
   replace H := Option.bind_eq_some_iff.mp H
   obtain ⟨t471, A70, H⟩ := H
   replace H : (some (t471, true)) = some (r1, r2) := H
   have A7 := zz A70
   clear A70
   simp only [Option.some.injEq, Prod.mk.injEq] at H
   obtain ⟨rfl, rfl⟩ := H
   go_enter Try.func49, Try.ntmps49
   go_wp2_with (first | ((with_reducible refine yv (N := 2) rfl ?_); refine vz ?hg (N := 2) ?hd (cs := #[.slice A0_0 l0_0.length c0_0, .int .i64 a0_1]) (t := 32) ?hr ?_; (case hd => rfl); (case hg => rfl); (case hr => first | (go_simp; done) | (go_simp; rfl)); intro gb461 hg w8 hbox hb; have n0_ := zz (zk (by repeat (with_reducible first | exact HB.out | apply zj | apply zq | apply zw)) hb); have n1_ := zz (hbox); have n2_ := zz ((by rw [hg]; exact (zv (by repeat (with_reducible first | exact HB.out | apply zj | apply zq | apply zw))) : w.heap.size ≤ gb461)); have n3_ := zz ((by rw [hg]; exact (zv (by repeat (with_reducible first | exact HB.out | apply zj | apply zq | apply zw))) : w.heap.size ≤ gb461)); clear HB; have HB := n0_; have BK461 := n1_; have GW461 := n2_; have GE461 := n3_; clear n0_ n1_ n2_ n3_; clear hb hbox hg) | ((with_reducible refine yv (N := 3) rfl ?_); refine vz ?hg (N := 3) ?hd (cs := #[.slice A1_0 l1_0.length c1_0, .int .i64 a1_1]) (t := 32) ?hr ?_; (case hd => rfl); (case hg => rfl); (case hr => first | (go_simp; done) | (go_simp; rfl)); intro gb462 hg w9 hbox hb; have n0_ := zz (qk (g := gb461) (o := .cells #[.slice A0_0 l0_0.length c0_0, .int .i64 a0_1] 32 (0, 0)) (by (with_reducible repeat (first | refine qq ?_ _ | refine qj ?_ | refine qz ?_ _)); exact BK461.out) hb); have n1_ := zz (zk (by repeat (with_reducible first | exact HB.out | apply zj | apply zq | apply zw | refine zx ?_ GE461.out)) hb); have n2_ := zz (hbox); have n3_ := zz ((by rw [hg]; exact (zv (by repeat (with_reducible first | exact HB.out | apply zj | apply zq | apply zw | refine zx ?_ GE461.out))) : w.heap.size ≤ gb462)); have n4_ := zz ((by rw [hg]; exact (zv (by repeat (with_reducible first | exact HB.out | apply zj | apply zq | apply zw | refine zx ?_ GE461.out))) : w.heap.size ≤ gb462)); have n5_ := zz ((by rw [hg]; exact Nat.ne_of_lt (blk_lt (g := gb461) (o := .cells #[.slice A0_0 l0_0.length c0_0, .int .i64 a0_1] 32 (0, 0)) (by (with_reducible repeat (first | refine qq ?_ _ | refine qj ?_ | refine qz ?_ _)); exact BK461.out)) : gb461 ≠ gb462)); have n6_ := zz ((by rw [hg]; exact Nat.ne_of_gt (blk_lt (g := gb461) (o := .cells #[.slice A0_0 l0_0.length c0_0, .int .i64 a0_1] 32 (0, 0)) (by (with_reducible repeat (first | refine qq ?_ _ | refine qj ?_ | refine qz ?_ _)); exact BK461.out)) : gb462 ≠ gb461)); clear BK461; clear HB; have BK461 := n0_; have HB := n1_; have BK462 := n2_; have GW462 := n3_; have GE462 := n4_; have NB461_462 := n5_; have NB462_461 := n6_; clear n0_ n1_ n2_ n3_ n4_ n5_ n6_; clear hb hbox hg; have hnb10 := NB461_462.out; have hnc10 := NB462_461.out; have hcz11_0 : w9.cell? ⟨gb461, 0, none⟩ = some (.slice A0_0 l0_0.length c0_0) := (qw BK461.out 0).trans rfl; have hcz11_1 : w9.cell? ⟨gb461, 1, none⟩ = some (.int .i64 a0_1) := (qw BK461.out 1).trans rfl; have hfz11_0 := qx BK461.out 0; have hfz11_1 := qx BK461.out 1) | ((with_reducible refine yk (f := 47) rfl ?_); refine vw (some 12) rfl rfl Try.func47 (by kernel_rfl) rfl #[.agg #[.slice A0_0 l0_0.length c0_0, .int .i64 a0_1]] rfl (by (try simp only [yj, List.map_cons, List.map_nil]); first | done | rfl) ?_; (with_reducible refine (impl_PolynomialOf.calls k _ _ l0_0 a0_1 t463 true _ ?side1 ?side2 A3.out).mono ?_); (case side1 => repeat (first | exact (jv HR0_0.out HB.out) | (with_reducible refine jw ?_ _) | (with_reducible refine jx ?_ _) | (with_reducible refine jk ?_))); (case side2 => exact HC0_0.out); rintro e w12 ⟨v464, rfl, ho0, hb⟩; refine ⟨_, rfl, ?_⟩; have n0_ := zz (Kd.R_lower ho0 (zv (by repeat (with_reducible first | exact HB.out | apply zj | apply zq | apply zw | refine zx ?_ GE461.out | refine zx ?_ GE462.out)))); have n1_ := zz (qk (g := gb461) (o := .cells #[.slice A0_0 l0_0.length c0_0, .int .i64 a0_1] 32 (0, 0)) (by (with_reducible repeat (first | refine qq ?_ _ | refine qj ?_ | refine qz ?_ _)); exact BK461.out) hb); have n2_ := zz (qk (g := gb462) (o := .cells #[.slice A1_0 l1_0.length c1_0, .int .i64 a1_1] 32 (0, 0)) (by (with_reducible repeat (first | refine qq ?_ _ | refine qj ?_ | refine qz ?_ _)); exact BK462.out) hb); have n3_ := zz (zk (by repeat (with_reducible first | exact HB.out | apply zj | apply zq | apply zw | refine zx ?_ GE461.out | refine zx ?_ GE462.out)) hb); clear BK461; clear BK462; clear HB; have HO465 := n0_; have BK461 := n1_; have BK462 := n2_; have HB := n3_; clear n0_ n1_ n2_ n3_; (try clear hb); (try clear hi hk); (try clear ho0); have hcz13_0 : w12.cell? ⟨gb462, 0, none⟩ = some (.slice A1_0 l1_0.length c1_0) := (qw BK462.out 0).trans rfl; have hcz13_1 : w12.cell? ⟨gb462, 1, none⟩ = some (.int .i64 a1_1) := (qw BK462.out 1).trans rfl; have hfz13_0 := qx BK462.out 0; have hfz13_1 := qx BK462.out 1) | ((with_reducible refine yk (f := 47) rfl ?_); refine vw (some 17) rfl rfl Try.func47 (by kernel_rfl) rfl #[.agg #[.slice A1_0 l1_0.length c1_0, .int .i64 a1_1]] rfl (by (try simp only [yj, List.map_cons, List.map_nil]); first | done | rfl) ?_; (with_reducible refine (impl_PolynomialOf.calls k _ _ l1_0 a1_1 t467 true _ ?side1 ?side2 A4.out).mono ?_); (case side1 => repeat (first | exact (jv HR1_0.out HB.out) | (with_reducible refine jw ?_ _) | (with_reducible refine jx ?_ _) | (with_reducible refine jk ?_))); (case side2 => exact HC1_0.out); rintro e w14 ⟨v468, rfl, ho0, hb⟩; refine ⟨_, rfl, ?_⟩; have n0_ := zz (kw (by (with_reducible repeat (first | apply jz | apply jq | apply jj)); exact HO465.out) (kz ho0) hb); have n1_ := zz (Kd.R_lower (Kd.R_new' ho0 (kj (by (with_reducible repeat (first | apply jz | apply jq | apply jj)); exact HO465.out))) (zv (by repeat (with_reducible first | exact HB.out | apply zj | apply zq | apply zw | refine zx ?_ GE461.out | refine zx ?_ GE462.out)))); have n2_ := zz (qk (g := gb461) (o := .cells #[.slice A0_0 l0_0.length c0_0, .int .i64 a0_1] 32 (0, 0)) (by (with_reducible repeat (first | refine qq ?_ _ | refine qj ?_ | refine qz ?_ _)); exact BK461.out) hb); have n3_ := zz (qk (g := gb462) (o := .cells #[.slice A1_0 l1_0.length c1_0, .int .i64 a1_1] 32 (0, 0)) (by (with_reducible repeat (first | refine qq ?_ _ | refine qj ?_ | refine qz ?_ _)); exact BK462.out) hb); have n4_ := zz (zk (by repeat (with_reducible first | exact HB.out | apply zj | apply zq | apply zw | refine zx ?_ GE461.out | refine zx ?_ GE462.out)) hb); clear HO465; clear BK461; clear BK462; clear HB; have HO465 := n0_; have HO469 := n1_; have BK461 := n2_; have BK462 := n3_; have HB := n4_; clear n0_ n1_ n2_ n3_ n4_; (try clear hb); (try clear hi hk); (try clear ho0); obtain ⟨Ao15, co15, eo15⟩ := Kd.R_slice HO465.out; subst eo15; obtain ⟨Ao16, co16, eo16⟩ := Kd.R_slice HO469.out; subst eo16) | ((with_reducible refine yk (f := 133) rfl ?_); refine vw (some 28) rfl rfl Try.func133 (by kernel_rfl) rfl #[.slice Ao15 t463.length co15, .slice Ao16 t467.length co16] rfl (by (try simp only [yj, List.map_cons, List.map_nil]); first | done | rfl) ?_; (with_reducible refine (slices_Equal_int_int.calls k _ _ t463 _ _ t467 t471 _ ?side1 ?side2 ?side3 ?side4 A7.out).mono ?_); (case side1 => repeat (first | exact (vq HO465.out).2.2 | (with_reducible refine jw ?_ _) | (with_reducible refine jx ?_ _) | (with_reducible refine jk ?_))); (case side2 => exact (vq HO465.out).2.1); (case side3 => repeat (first | exact (vq HO469.out).2.2 | (with_reducible refine jw ?_ _) | (with_reducible refine jx ?_ _) | (with_reducible refine jk ?_))); (case side4 => exact (vq HO469.out).2.1); rintro e w' ⟨rfl, ⟨nd, rfl⟩⟩; refine ⟨_, rfl, ?_⟩))
   go_ret2
   exact ⟨by first | rfl | (simp <;> rfl) | (simp [*] <;> rfl), by repeat (with_reducible first | exact HB.out | apply zj | apply zq | apply zw | refine zx ?_ GE461.out | refine zx ?_ GE462.out)⟩
  ·replace c6 := Bool.eq_false_iff.mpr c6
   subst c6
   have H1 : (some (false, false)) = some (r1, r2) := by rw [if_neg (show ¬ (false = true) by decide)] at H; exact H
   clear H
   have H := H1
   clear H1
   simp only [Option.some.injEq, Prod.mk.injEq] at H
   obtain ⟨rfl, rfl⟩ := H
   go_enter Try.func49, Try.ntmps49
   go_wp2_with (first | ((with_reducible refine yv (N := 2) rfl ?_); refine vz ?hg (N := 2) ?hd (cs := #[.slice A0_0 l0_0.length c0_0, .int .i64 a0_1]) (t := 32) ?hr ?_; (case hd => rfl); (case hg => rfl); (case hr => first | (go_simp; done) | (go_simp; rfl)); intro gb461 hg w17 hbox hb; have n0_ := zz (zk (by repeat (with_reducible first | exact HB.out | apply zj | apply zq | apply zw)) hb); have n1_ := zz (hbox); have n2_ := zz ((by rw [hg]; exact (zv (by repeat (with_reducible first | exact HB.out | apply zj | apply zq | apply zw))) : w.heap.size ≤ gb461)); have n3_ := zz ((by rw [hg]; exact (zv (by repeat (with_reducible first | exact HB.out | apply zj | apply zq | apply zw))) : w.heap.size ≤ gb461)); clear HB; have HB := n0_; have BK461 := n1_; have GW461 := n2_; have GE461 := n3_; clear n0_ n1_ n2_ n3_; clear hb hbox hg) | ((with_reducible refine yv (N := 3) rfl ?_); refine vz ?hg (N := 3) ?hd (cs := #[.slice A1_0 l1_0.length c1_0, .int .i64 a1_1]) (t := 32) ?hr ?_; (case hd => rfl); (case hg => rfl); (case hr => first | (go_simp; done) | (go_simp; rfl)); intro gb462 hg w18 hbox hb; have n0_ := zz (qk (g := gb461) (o := .cells #[.slice A0_0 l0_0.length c0_0, .int .i64 a0_1] 32 (0, 0)) (by (with_reducible repeat (first | refine qq ?_ _ | refine qj ?_ | refine qz ?_ _)); exact BK461.out) hb); have n1_ := zz (zk (by repeat (with_reducible first | exact HB.out | apply zj | apply zq | apply zw | refine zx ?_ GE461.out)) hb); have n2_ := zz (hbox); have n3_ := zz ((by rw [hg]; exact (zv (by repeat (with_reducible first | exact HB.out | apply zj | apply zq | apply zw | refine zx ?_ GE461.out))) : w.heap.size ≤ gb462)); have n4_ := zz ((by rw [hg]; exact (zv (by repeat (with_reducible first | exact HB.out | apply zj | apply zq | apply zw | refine zx ?_ GE461.out))) : w.heap.size ≤ gb462)); have n5_ := zz ((by rw [hg]; exact Nat.ne_of_lt (blk_lt (g := gb461) (o := .cells #[.slice A0_0 l0_0.length c0_0, .int .i64 a0_1] 32 (0, 0)) (by (with_reducible repeat (first | refine qq ?_ _ | refine qj ?_ | refine qz ?_ _)); exact BK461.out)) : gb461 ≠ gb462)); have n6_ := zz ((by rw [hg]; exact Nat.ne_of_gt (blk_lt (g := gb461) (o := .cells #[.slice A0_0 l0_0.length c0_0, .int .i64 a0_1] 32 (0, 0)) (by (with_reducible repeat (first | refine qq ?_ _ | refine qj ?_ | refine qz ?_ _)); exact BK461.out)) : gb462 ≠ gb461)); clear BK461; clear HB; have BK461 := n0_; have HB := n1_; have BK462 := n2_; have GW462 := n3_; have GE462 := n4_; have NB461_462 := n5_; have NB462_461 := n6_; clear n0_ n1_ n2_ n3_ n4_ n5_ n6_; clear hb hbox hg; have hnb19 := NB461_462.out; have hnc19 := NB462_461.out; have hcz20_0 : w18.cell? ⟨gb461, 0, none⟩ = some (.slice A0_0 l0_0.length c0_0) := (qw BK461.out 0).trans rfl; have hcz20_1 : w18.cell? ⟨gb461, 1, none⟩ = some (.int .i64 a0_1) := (qw BK461.out 1).trans rfl; have hfz20_0 := qx BK461.out 0; have hfz20_1 := qx BK461.out 1) | ((with_reducible refine yk (f := 47) rfl ?_); refine vw (some 12) rfl rfl Try.func47 (by kernel_rfl) rfl #[.agg #[.slice A0_0 l0_0.length c0_0, .int .i64 a0_1]] rfl (by (try simp only [yj, List.map_cons, List.map_nil]); first | done | rfl) ?_; (with_reducible refine (impl_PolynomialOf.calls k _ _ l0_0 a0_1 t463 true _ ?side1 ?side2 A3.out).mono ?_); (case side1 => repeat (first | exact (jv HR0_0.out HB.out) | (with_reducible refine jw ?_ _) | (with_reducible refine jx ?_ _) | (with_reducible refine jk ?_))); (case side2 => exact HC0_0.out); rintro e w21 ⟨v464, rfl, ho0, hb⟩; refine ⟨_, rfl, ?_⟩; have n0_ := zz (Kd.R_lower ho0 (zv (by repeat (with_reducible first | exact HB.out | apply zj | apply zq | apply zw | refine zx ?_ GE461.out | refine zx ?_ GE462.out)))); have n1_ := zz (qk (g := gb461) (o := .cells #[.slice A0_0 l0_0.length c0_0, .int .i64 a0_1] 32 (0, 0)) (by (with_reducible repeat (first | refine qq ?_ _ | refine qj ?_ | refine qz ?_ _)); exact BK461.out) hb); have n2_ := zz (qk (g := gb462) (o := .cells #[.slice A1_0 l1_0.length c1_0, .int .i64 a1_1] 32 (0, 0)) (by (with_reducible repeat (first | refine qq ?_ _ | refine qj ?_ | refine qz ?_ _)); exact BK462.out) hb); have n3_ := zz (zk (by repeat (with_reducible first | exact HB.out | apply zj | apply zq | apply zw | refine zx ?_ GE461.out | refine zx ?_ GE462.out)) hb); clear BK461; clear BK462; clear HB; have HO465 := n0_; have BK461 := n1_; have BK462 := n2_; have HB := n3_; clear n0_ n1_ n2_ n3_; (try clear hb); (try clear hi hk); (try clear ho0); have hcz22_0 : w21.cell? ⟨gb462, 0, none⟩ = some (.slice A1_0 l1_0.length c1_0) := (qw BK462.out 0).trans rfl; have hcz22_1 : w21.cell? ⟨gb462, 1, none⟩ = some (.int .i64 a1_1) := (qw BK462.out 1).trans rfl; have hfz22_0 := qx BK462.out 0; have hfz22_1 := qx BK462.out 1) | ((with_reducible refine yk (f := 47) rfl ?_); refine vw (some 17) rfl rfl Try.func47 (by kernel_rfl) rfl #[.agg #[.slice A1_0 l1_0.length c1_0, .int .i64 a1_1]] rfl (by (try simp only [yj, List.map_cons, List.map_nil]); first | done | rfl) ?_; (with_reducible refine (impl_PolynomialOf.calls k _ _ l1_0 a1_1 t467 false _ ?side1 ?side2 A4.out).mono ?_); (case side1 => repeat (first | exact (jv HR1_0.out HB.out) | (with_reducible refine jw ?_ _) | (with_reducible refine jx ?_ _) | (with_reducible refine jk ?_))); (case side2 => exact HC1_0.out); rintro e w23 ⟨v468, rfl, ho0, hb⟩; refine ⟨_, rfl, ?_⟩; have n0_ := zz (kw (by (with_reducible repeat (first | apply jz | apply jq | apply jj)); exact HO465.out) (kz ho0) hb); have n1_ := zz (Kd.R_lower (Kd.R_new' ho0 (kj (by (with_reducible repeat (first | apply jz | apply jq | apply jj)); exact HO465.out))) (zv (by repeat (with_reducible first | exact HB.out | apply zj | apply zq | apply zw | refine zx ?_ GE461.out | refine zx ?_ GE462.out)))); have n2_ := zz (qk (g := gb461) (o := .cells #[.slice A0_0 l0_0.length c0_0, .int .i64 a0_1] 32 (0, 0)) (by (with_reducible repeat (first | refine qq ?_ _ | refine qj ?_ | refine qz ?_ _)); exact BK461.out) hb); have n3_ := zz (qk (g := gb462) (o := .cells #[.slice A1_0 l1_0.length c1_0, .int .i64 a1_1] 32 (0, 0)) (by (with_reducible repeat (first | refine qq ?_ _ | refine qj ?_ | refine qz ?_ _)); exact BK462.out) hb); have n4_ := zz (zk (by repeat (with_reducible first | exact HB.out | apply zj | apply zq | apply zw | refine zx ?_ GE461.out | refine zx ?_ GE462.out)) hb); clear HO465; clear BK461; clear BK462; clear HB; have HO465 := n0_; have HO469 := n1_; have BK461 := n2_; have BK462 := n3_; have HB := n4_; clear n0_ n1_ n2_ n3_ n4_; (try clear hb); (try clear hi hk); (try clear ho0)))
   go_ret2
   exact ⟨by first | rfl | (simp <;> rfl) | (simp [*] <;> rfl), by repeat (with_reducible first | exact HB.out | apply zj | apply zq | apply zw | refine zx ?_ GE461.out | refine zx ?_ GE462.out)⟩
 ·replace c5 := Bool.eq_false_iff.mpr c5
  subst c5
  have H1 : (some (false, false)) = some (r1, r2) := by rw [if_neg (show ¬ (false = true) by decide)] at H; exact H
  clear H
  have H := H1
  clear H1
  simp only [Option.some.injEq, Prod.mk.injEq] at H
  obtain ⟨rfl, rfl⟩ := H
  go_enter Try.func49, Try.ntmps49
  go_wp2_with (first | ((with_reducible refine yv (N := 2) rfl ?_); refine vz ?hg (N := 2) ?hd (cs := #[.slice A0_0 l0_0.length c0_0, .int .i64 a0_1]) (t := 32) ?hr ?_; (case hd => rfl); (case hg => rfl); (case hr => first | (go_simp; done) | (go_simp; rfl)); intro gb461 hg w24 hbox hb; have n0_ := zz (zk (by repeat (with_reducible first | exact HB.out | apply zj | apply zq | apply zw)) hb); have n1_ := zz (hbox); have n2_ := zz ((by rw [hg]; exact (zv (by repeat (with_reducible first | exact HB.out | apply zj | apply zq | apply zw))) : w.heap.size ≤ gb461)); have n3_ := zz ((by rw [hg]; exact (zv (by repeat (with_reducible first | exact HB.out | apply zj | apply zq | apply zw))) : w.heap.size ≤ gb461)); clear HB; have HB := n0_; have BK461 := n1_; have GW461 := n2_; have GE461 := n3_; clear n0_ n1_ n2_ n3_; clear hb hbox hg) | ((with_reducible refine yv (N := 3) rfl ?_); refine vz ?hg (N := 3) ?hd (cs := #[.slice A1_0 l1_0.length c1_0, .int .i64 a1_1]) (t := 32) ?hr ?_; (case hd => rfl); (case hg => rfl); (case hr => first | (go_simp; done) | (go_simp; rfl)); intro gb462 hg w25 hbox hb; have n0_ := zz (qk (g := gb461) (o := .cells #[.slice A0_0 l0_0.length c0_0, .int .i64 a0_1] 32 (0, 0)) (by (with_reducible repeat (first | refine qq ?_ _ | refine qj ?_ | refine qz ?_ _)); exact BK461.out) hb); have n1_ := zz (zk (by repeat (with_reducible first | exact HB.out | apply zj | apply zq | apply zw | refine zx ?_ GE461.out)) hb); have n2_ := zz (hbox); have n3_ := zz ((by rw [hg]; exact (zv (by repeat (with_reducible first | exact HB.out | apply zj | apply zq | apply zw | refine zx ?_ GE461.out))) : w.heap.size ≤ gb462)); have n4_ := zz ((by rw [hg]; exact (zv (by repeat (with_reducible first | exact HB.out | apply zj | apply zq | apply zw | refine zx ?_ GE461.out))) : w.heap.size ≤ gb462)); have n5_ := zz ((by rw [hg]; exact Nat.ne_of_lt (blk_lt (g := gb461) (o := .cells #[.slice A0_0 l0_0.length c0_0, .int .i64 a0_1] 32 (0, 0)) (by (with_reducible repeat (first | refine qq ?_ _ | refine qj ?_ | refine qz ?_ _)); exact BK461.out)) : gb461 ≠ gb462)); have n6_ := zz ((by rw [hg]; exact Nat.ne_of_gt (blk_lt (g := gb461) (o := .cells #[.slice A0_0 l0_0.length c0_0, .int .i64 a0_1] 32 (0, 0)) (by (with_reducible repeat (first | refine qq ?_ _ | refine qj ?_ | refine qz ?_ _)); exact BK461.out)) : gb462 ≠ gb461)); clear BK461; clear HB; have BK461 := n0_; have HB := n1_; have BK462 := n2_; have GW462 := n3_; have GE462 := n4_; have NB461_462 := n5_; have NB462_461 := n6_; clear n0_ n1_ n2_ n3_ n4_ n5_ n6_; clear hb hbox hg; have hnb26 := NB461_462.out; have hnc26 := NB462_461.out; have hcz27_0 : w25.cell? ⟨gb461, 0, none⟩ = some (.slice A0_0 l0_0.length c0_0) := (qw BK461.out 0).trans rfl; have hcz27_1 : w25.cell? ⟨gb461, 1, none⟩ = some (.int .i64 a0_1) := (qw BK461.out 1).trans rfl; have hfz27_0 := qx BK461.out 0; have hfz27_1 := qx BK461.out 1) | ((with_reducible refine yk (f := 47) rfl ?_); refine vw (some 12) rfl rfl Try.func47 (by kernel_rfl) rfl #[.agg #[.slice A0_0 l0_0.length c0_0, .int .i64 a0_1]] rfl (by (try simp only [yj, List.map_cons, List.map_nil]); first | done | rfl) ?_; (with_reducible refine (impl_PolynomialOf.calls k _ _ l0_0 a0_1 t463 false _ ?side1 ?side2 A3.out).mono ?_); (case side1 => repeat (first | exact (jv HR0_0.out HB.out) | (with_reducible refine jw ?_ _) | (with_reducible refine jx ?_ _) | (with_reducible refine jk ?_))); (case side2 => exact HC0_0.out); rintro e w28 ⟨v464, rfl, ho0, hb⟩; refine ⟨_, rfl, ?_⟩; have n0_ := zz (Kd.R_lower ho0 (zv (by repeat (with_reducible first | exact HB.out | apply zj | apply zq | apply zw | refine zx ?_ GE461.out | refine zx ?_ GE462.out)))); have n1_ := zz (qk (g := gb461) (o := .cells #[.slice A0_0 l0_0.length c0_0, .int .i64 a0_1] 32 (0, 0)) (by (with_reducible repeat (first | refine qq ?_ _ | refine qj ?_ | refine qz ?_ _)); exact BK461.out) hb); have n2_ := zz (qk (g := gb462) (o := .cells #[.slice A1_0 l1_0.length c1_0, .int .i64 a1_1] 32 (0, 0)) (by (with_reducible repeat (first | refine qq ?_ _ | refine qj ?_ | refine qz ?_ _)); exact BK462.out) hb); have n3_ := zz (zk (by repeat (with_reducible first | exact HB.out | apply zj | apply zq | apply zw | refine zx ?_ GE461.out | refine zx ?_ GE462.out)) hb); clear BK461; clear BK462; clear HB; have HO465 := n0_; have BK461 := n1_; have BK462 := n2_; have HB := n3_; clear n0_ n1_ n2_ n3_; (try clear hb); (try clear hi hk); (try clear ho0); have hcz29_0 : w28.cell? ⟨gb462, 0, none⟩ = some (.slice A1_0 l1_0.length c1_0) := (qw BK462.out 0).trans rfl; have hcz29_1 : w28.cell? ⟨gb462, 1, none⟩ = some (.int .i64 a1_1) := (qw BK462.out 1).trans rfl; have hfz29_0 := qx BK462.out 0; have hfz29_1 := qx BK462.out 1) | ((with_reducible refine yk (f := 47) rfl ?_); refine vw (some 17) rfl rfl Try.func47 (by kernel_rfl) rfl #[.agg #[.slice A1_0 l1_0.length c1_0, .int .i64 a1_1]] rfl (by (try simp only [yj, List.map_cons, List.map_nil]); first | done | rfl) ?_; (with_reducible refine (impl_PolynomialOf.calls k _ _ l1_0 a1_1 t467 t470 _ ?side1 ?side2 A4.out).mono ?_); (case side1 => repeat (first | exact (jv HR1_0.out HB.out) | (with_reducible refine jw ?_ _) | (with_reducible refine jx ?_ _) | (with_reducible refine jk ?_))); (case side2 => exact HC1_0.out); rintro e w30 ⟨v468, rfl, ho0, hb⟩; refine ⟨_, rfl, ?_⟩; have n0_ := zz (kw (by (with_reducible repeat (first | apply jz | apply jq | apply jj)); exact HO465.out) (kz ho0) hb); have n1_ := zz (Kd.R_lower (Kd.R_new' ho0 (kj (by (with_reducible repeat (first | apply jz | apply jq | apply jj)); exact HO465.out))) (zv (by repeat (with_reducible first | exact HB.out | apply zj | apply zq | apply zw | refine zx ?_ GE461.out | refine zx ?_ GE462.out)))); have n2_ := zz (qk (g := gb461) (o := .cells #[.slice A0_0 l0_0.length c0_0, .int .i64 a0_1] 32 (0, 0)) (by (with_reducible repeat (first | refine qq ?_ _ | refine qj ?_ | refine qz ?_ _)); exact BK461.out) hb); have n3_ := zz (qk (g := gb462) (o := .cells #[.slice A1_0 l1_0.length c1_0, .int .i64 a1_1] 32 (0, 0)) (by (with_reducible repeat (first | refine qq ?_ _ | refine qj ?_ | refine qz ?_ _)); exact BK462.out) hb); have n4_ := zz (zk (by repeat (with_reducible first | exact HB.out | apply zj | apply zq | apply zw | refine zx ?_ GE461.out | refine zx ?_ GE462.out)) hb); clear HO465; clear BK461; clear BK462; clear HB; have HO465 := n0_; have HO469 := n1_; have BK461 := n2_; have BK462 := n3_; have HB := n4_; clear n0_ n1_ n2_ n3_ n4_; (try clear hb); (try clear hi hk); (try clear ho0)))
  go_ret2
  exact ⟨by first | rfl | (simp <;> rfl) | (simp [*] <;> rfl), by repeat (with_reducible first | exact HB.out | apply zj | apply zq | apply zw | refine zx ?_ GE461.out | refine zx ?_ GE462.out)⟩
def impl_polyModulusOk.f (a0 : Int) : Option (Bool) := (impl_in.f a0 1 1000000).bind fun t472 => (some t472)
set_option maxHeartbeats 8000000 in
set_option maxRecDepth 100000 in
theorem impl_polyModulusOk.calls (a0 : Int) (r : Bool) (w : World) (h : impl_polyModulusOk.f a0 = some r) :
  Calls Try.prog 135 #[.int .i64 a0] w fun e w' => e = .returned (.bool r) ∧ Drawn0 w w' := by
 have H : ((impl_in.f a0 1 1000000).bind fun t472 => (some t472)) = some r := h
 clear h
 replace H := Option.bind_eq_some_iff.mp H
 obtain ⟨t472, A20, H⟩ := H
 replace H : (some t472) = some r := H
 have A2 := zz A20
 clear A20
 obtain rfl := Option.some.inj H
 go_enter Try.func135, Try.ntmps135
 go_wp2_with (first | ((with_reducible refine yk (f := 146) rfl ?_); refine vw (some 4) rfl rfl Try.func146 (by kernel_rfl) rfl #[.int .i64 a0, .int .i64 1, .int .i64 1000000] rfl (by (try simp only [yj, List.map_cons, List.map_nil]); first | done | rfl) ?_; (with_reducible refine (impl_in.calls a0 1 1000000 t472 _ A2.out).mono ?_); rintro e w' ⟨rfl, ⟨nd, rfl⟩⟩; refine ⟨_, rfl, ?_⟩))
 go_ret
 exact ⟨by first | rfl | (simp; done) | (simp [*]; done), by repeat (first | exact Drawn0.refl _ | apply Drawn0.step)⟩
def impl_rest.f (a0 : Int) (a1 : Int) : Option (Int) := if a1 = 0 then (none) else (some (Int.tmod (wrap64 ((Int.tmod a0 a1) + a1)) a1))
set_option maxHeartbeats 8000000 in
set_option maxRecDepth 100000 in
theorem impl_rest.calls (a0 : Int) (a1 : Int) (r : Int) (w : World) (h : impl_rest.f a0 a1 = some r) :
  Calls Try.prog 136 #[.int .i64 a0, .int .i64 a1] w fun e w' => e = .returned (.int .i64 r) ∧ Drawn0 w w' := by
 have H : (if a1 = 0 then (none) else (some (Int.tmod (wrap64 ((Int.tmod a0 a1) + a1)) a1))) = some r := h
 clear h
 by_cases c3 : a1 = 0
 ·rw [if_pos c3] at H
  exact absurd H (by simp)
 ·rw [if_neg c3] at H
  have c3b0 : (a1 == 0) = false := beq_eq_false_iff_ne.mpr c3
  have c3b1 : (a1 != 0) = true := bne_iff_ne.mpr c3
  obtain rfl := Option.some.inj H
  go_enter Try.func136, Try.ntmps136
  go_wp2
  go_ret
  exact ⟨by first | rfl | (simp; done) | (simp [*]; done), by repeat (first | exact Drawn0.refl _ | apply Drawn0.step)⟩
def restV (a b : Int) : Int := Int.tmod (wrap64 (Int.tmod a b + b)) b
theorem restV_val {a b : Int} (hb : b ≠ 0) : impl_rest.f a b = some (restV a b) := by unfold impl_rest.f; rw [if_neg hb]; rfl
def vaStep (x m out n : Int) : Int := restV (wrap64 (wrap64 (out * restV x m) + n)) m
def vaP (x m : Int) (pre : List (Int × Int)) : Int := pre.foldl (fun o p => vaStep x m o p.2) 0
def vaAll (l : List Int) (x m : Int) : Int := l.foldr (fun n o => vaStep x m o n) 0
theorem vaP_snoc (x m : Int) (pre : List (Int × Int)) (p : Int × Int) : vaP x m (pre ++ [p]) = vaStep x m (vaP x m pre) p.2 := by simp [vaP]
theorem va_upto (zs : List Int) : ∀ k, k ≤ zs.length → (YtlmoemahamneoaaBack.upto (YtlmoemahamneoaaBack.pairAt zs) k).map Prod.snd = (zs.drop (zs.length - k)).reverse := by
 intro k
 induction k with
 | zero => intro _; simp [YtlmoemahamneoaaBack.upto]
 | succ k ih =>
  intro hk
  rw [YtlmoemahamneoaaBack.upto_succ, List.map_append, ih (by omega)]
  have e : zs.length - k = (zs.length - (k + 1)) + 1 := by omega
  have hlt : zs.length - (k + 1) < zs.length := by omega
  rw [List.drop_eq_getElem_cons hlt, ← e, List.reverse_cons]
  congr 1
  simp only [List.map_cons, List.map_nil, YtlmoemahamneoaaBack.pairAt]
  rw [show zs.length - 1 - k = zs.length - (k + 1) by omega, List.getElem?_eq_getElem hlt]; rfl
theorem vaP_all (l : List Int) (x m : Int) : vaP x m (YtlmoemahamneoaaBack.pairs l) = vaAll l x m := by
 have h := va_upto l l.length (Nat.le_refl _)
 rw [Nat.sub_self, List.drop_zero] at h
 have e : vaP x m (YtlmoemahamneoaaBack.pairs l) = ((YtlmoemahamneoaaBack.pairs l).map Prod.snd).foldl (fun o n => vaStep x m o n) 0 := by rw [List.foldl_map]; rfl
 rw [e]
 unfold YtlmoemahamneoaaBack.pairs
 rw [h, List.foldl_reverse]; rfl
section
set_option maxRecDepth 100000
def VaJ (X M O Bs : Nat) (sv : Value) (x m o : Int) (w0 W : World) : Prop :=
 W.heap[O]? = some (.cells #[.int .i64 o] 3 (0, 0)) ∧ W.heap[X]? = some (.cells #[.int .i64 x] 3 (0, 0)) ∧ W.heap[M]? = some (.cells #[.int .i64 m] 3 (0, 0)) ∧ W.heap[Bs]? = some (.cells #[sv] 29 (0, 0)) ∧ Below X w0 W
def VaK (n0 Bs : Nat) (W W' : World) : Prop := YtlmoemahamneoaaBack.KeepB n0 Bs W W' ∧ KeepsOthers W W'
theorem vk_trans {n0 Bs : Nat} {A B C : World} (h : VaK n0 Bs A B) (k : VaK n0 Bs B C) : VaK n0 Bs A C := ⟨h.1.trans k.1, h.2.trans k.2⟩
theorem va_set {X M O Bs : Nat} {sv : Value} {x m o : Int} {w0 W : World} (v : Int) (h : VaJ X M O Bs sv x m o w0 W) (hX : X < O) (hM : M < O) : VaJ X M O Bs sv x m v w0 (W.setCell ⟨O, 0, none⟩ (.int .i64 v)) ∧ VaK X Bs W (W.setCell ⟨O, 0, none⟩ (.int .i64 v)) := by
 obtain ⟨hO, hx, hm, hs, hB⟩ := h
 have hne := blk_ne hs hO (by decide)
 refine ⟨⟨blk_put hO 0 _ rfl, blk_far hx (p := ⟨O, 0, none⟩) (Nat.ne_of_lt hX) _, blk_far hm (p := ⟨O, 0, none⟩) (Nat.ne_of_lt hM) _, blk_far hs (p := ⟨O, 0, none⟩) hne _, hB.setCell (p := ⟨O, 0, none⟩) (Nat.le_of_lt hX) _⟩, YtlmoemahamneoaaBack.KeepB.set (p := ⟨O, 0, none⟩) (Nat.le_of_lt hX) hne _, KeepsOthers.setCell _ _ _⟩
theorem va_drewN {X M O Bs : Nat} {sv : Value} {x m o : Int} {w0 W : World} (h : VaJ X M O Bs sv x m o w0 W) (n : Nat) : VaJ X M O Bs sv x m o w0 (W.drewN n) ∧ VaK X Bs W (W.drewN n) := by
 obtain ⟨hO, hx, hm, hs, hB⟩ := h
 exact ⟨⟨qq hO n, qq hx n, qq hm n, qq hs n, zq hB n⟩, ⟨zq (Below.refl _ _) n, fun cs t fr e => qq e n⟩, ⟨Nat.le_refl _, fun _ _ h _ => h⟩⟩
theorem va_own {X M O Bs Bd : Nat} {sv : Value} {x m : Int} {w0 : World} {β : Type} (f : β → Int) (hn : X ≤ w0.heap.size) (hBd : X ≤ Bd) : OwnFrom Bd (fun (s : β) W => VaJ X M O Bs sv x m (f s) w0 W) := fun s A B row hs hg hr => by
 have kept : ∀ (k : Nat) cs t, A.heap[k]? = some (.cells cs t (0, 0)) → B.heap[k]? = some (.cells cs t (0, 0)) := fun k cs t e => (hg.block k (blk_lt e) (fun he => by
  obtain ⟨_, o, ho, hc⟩ := hr k he.symm
  rw [e] at ho
  cases ho
  cases hc)).trans e
 obtain ⟨hO, hx, hm, hs, hB⟩ := hs
 exact ⟨kept _ _ _ hO, kept _ _ _ hx, kept _ _ _ hm, kept _ _ _ hs, hB.grown hg (Nat.le_trans hn hB.size) (fun k e => Nat.le_trans hBd (hr k e).1)⟩
def vaT : Bool × List (List Nat × List Nat) := (true, [([], []), ([], []), ([], []), ([1, 2], [1, 2]), ([0, 3], [0, 3]), ([], []), ([4, 5], [4, 5]), ([], []), ([6, 7, 3], [6, 7]), ([8, 8, 0, 1, 2, 3, 4, 5, 6, 7, 8], [8])])
theorem va_tab : rtab .any (opsOf Try.f50 6) = vaT := by kernel_rfl
theorem va_bits : waitsOk vaT.2 [0, 0, 0, 6, 15, 0, 63, 0, 255, 511] = true := by kernel_rfl
attribute [local go_sem] Oper.semAt_some in
set_option maxHeartbeats 4000000 in
theorem va_yes (A : Option Addr) (c0 : Nat) (l : List Int) (x m : Int) (w : World) (hC : Kd.C (Kd.int .i64) w A l.length l) (hcc : l.length ≤ c0) (hok : impl_coefsOk.f l = some true) (hx : impl_coefOk.f x = some true) (hmm : impl_polyModulusOk.f m = some true) (hm0 : m ≠ 0) (hl : l.length ≤ 1000) :
  CallsIn Fence.wide 5 Try.prog 50 #[.slice A l.length c0, .int .i64 x, .int .i64 m] w fun e w' => e = .returned (.tuple #[.int .i64 (vaAll l x m), .bool true]) ∧ Below w.heap.size w w' := by
 obtain ⟨X, hX⟩ : ∃ X, w.heap.size = X := ⟨_, rfl⟩
 obtain ⟨w0, hw0⟩ : ∃ w0, (w.alloc (.cells #[.int .i64 x] 3)).alloc (.cells #[.int .i64 m] 3) = w0 := ⟨_, rfl⟩
 have bx : w0.heap[X]? = some (.cells #[.int .i64 x] 3 (0, 0)) := by rw [← hw0, ← hX]; exact qz (blk_new w _) _
 have bm : w0.heap[X + 1]? = some (.cells #[.int .i64 m] 3 (0, 0)) := by
  rw [← hw0, ← hX]
  have := blk_new (w.alloc (.cells #[.int .i64 x] 3)) (.cells #[.int .i64 m] 3)
  rw [World.size_alloc] at this
  exact this
 have hB0 : Below X w w0 := by rw [← hw0, ← hX]; exact zj (zj (Below.refl _ w) _) _
 have hs0 : w0.heap.size = X + 2 := by rw [← hw0, World.size_alloc, World.size_alloc, hX]
 have HCW := zz hC
 have HC := zz (show Kd.C (Kd.int .i64) w0 A l.length l by rw [← hw0]; exact jw (jw hC _) _)
 have HLC := zz hcc
 have HOK := zz hok
 have HOX := zz hx
 have HOM := zz hmm
 have HM0 := zz hm0
 have HL := zz hl
 have BX := zz bx
 have BM := zz bm
 have HB := zz hB0
 have HS := zz hs0
 have HW0 := zz hw0
 have HX := zz hX
 have hnf : ∀ q, ((w0.drewN q).alloc (.cells #[.int .i64 0] 3)).frozen? ⟨w0.heap.size, 0, none⟩ = false := fun q => qx (blk_new (w0.drewN q) _) 0
 have hcl : ∀ q, ((w0.drewN q).alloc (.cells #[.int .i64 0] 3)).cell? ⟨w0.heap.size, 0, none⟩ = some (.int .i64 0) := fun q => (qw (blk_new (w0.drewN q) _) 0).trans rfl
 clear hC hcc hok hx hmm hm0 hl bx bm hB0 hs0 hw0
 refine callsIn_of_wp_marks (F := Fence.wide) Try.func50 rfl trivial ?_ rfl
 refine wpIn_wide.2 ?_
 simp only [Try.ntmps50, List.size_toArray, List.length_cons, List.length_nil, Nat.reduceAdd, Nat.reduceSub, Array.replicate_succ, Array.replicate_zero, List.push_toArray, List.append_toArray, List.nil_append, List.cons_append]
 go_wp2_with (first
  | (go_at_call 95; rw [HW0.out]; refine (impl_coefsOk.calls _ c0 l true _ HC.out HLC.out HOK.out).mono ?_; rintro e w2 ⟨rfl, hd_⟩; obtain ⟨n2, rfl⟩ := YtlmoemahamneoaaHand.of_drawn hd_; clear hd_; have kx : (w0.drewN n2).cell? ⟨X, 0, none⟩ = some (.int .i64 x) := (qw (qq BX.out n2) 0).trans rfl; have km : ∀ q, (w0.drewN q).cell? ⟨X + 1, 0, none⟩ = some (.int .i64 m) := fun q => (qw (qq BM.out q) 0).trans rfl)
  | (go_at_call 134; refine (impl_coefOk.calls x true _ HOX.out).mono ?_; rintro e w3 ⟨rfl, hd_⟩; obtain ⟨n3, rfl⟩ := YtlmoemahamneoaaHand.of_drawn hd_; clear hd_)
  | (go_at_call 135; refine (impl_polyModulusOk.calls m true _ HOM.out).mono ?_; rintro e w4 ⟨rfl, hd_⟩; obtain ⟨n4, rfl⟩ := YtlmoemahamneoaaHand.of_drawn hd_; clear hd_)
  | (go_at_call 99; refine (callsIn_wide.1 (YtlmoemahamneoaaBack.back_in Fence.wide 5 trivial rfl _ _ _ _)).mono ?_; rintro e w' ⟨rfl, rfl⟩))
 have hb4 : Below X w (w0.drewN (n2 + n3 + n4)) := zq HB.out _
 have b4x := qq BX.out (n2 + n3 + n4)
 have b4m := qq BM.out (n2 + n3 + n4)
 obtain ⟨w4, hw4⟩ : ∃ w4, w0.drewN (n2 + n3 + n4) = w4 := ⟨_, rfl⟩
 obtain ⟨O, hO0⟩ : ∃ O, w0.heap.size = O := ⟨_, rfl⟩
 have hO : w4.heap.size = O := by rw [← hw4, ← hO0]; rfl
 rw [hw4] at hb4 b4x b4m ⊢
 clear hw4 hnf hcl
 have hXlt : X < w4.heap.size := blk_lt b4x
 have hMlt : X + 1 < w4.heap.size := blk_lt b4m
 obtain ⟨Bs, hBs⟩ : ∃ Bs, O + 1 = Bs := ⟨_, rfl⟩
 have hJ0 : VaJ X (X + 1) O Bs (.slice A l.length c0) x m 0 w (((w4.alloc (.cells #[.int .i64 0] 3)).setCell ⟨O, 0, none⟩ (.int .i64 0)).alloc (.cells #[.slice A l.length c0] 29)) := by
  have bO := blk_new w4 (.cells #[.int .i64 0] 3)
  rw [hO] at bO
  have nX : X ≠ O := by omega
  have nM : X + 1 ≠ O := by omega
  refine ⟨qz (blk_put bO 0 _ rfl) _, qz (blk_far (qz b4x _) (p := ⟨O, 0, none⟩) nX _) _, qz (blk_far (qz b4m _) (p := ⟨O, 0, none⟩) nM _) _, ?_, Below.alloc (Below.setCell (hb4.alloc (Nat.le_of_lt hXlt) _) (p := ⟨O, 0, none⟩) (show X ≤ O by omega) _) (by rw [World.size_setCell, World.size_alloc]; omega) _⟩
  have := blk_new ((w4.alloc (.cells #[.int .i64 0] 3)).setCell ⟨O, 0, none⟩ (.int .i64 0)) (.cells #[.slice A l.length c0] 29)
  rw [World.size_setCell, World.size_alloc, hO, hBs] at this
  exact this
 have hsz : (((w4.alloc (.cells #[.int .i64 0] 3)).setCell ⟨O, 0, none⟩ (.int .i64 0)).alloc (.cells #[.slice A l.length c0] 29)).heap.size = O + 2 := by rw [World.size_alloc, World.size_setCell, World.size_alloc, hO]
 have hI : YtlmoemahamneoaaBack.Ints X (((w4.alloc (.cells #[.int .i64 0] 3)).setCell ⟨O, 0, none⟩ (.int .i64 0)).alloc (.cells #[.slice A l.length c0] 29)) (.slice A l.length c0) l := by
  have h1 := YtlmoemahamneoaaBack.ints_of (c := c0) HCW.out (Nat.le_refl w.heap.size)
  rw [HX.out] at h1
  exact h1.below hJ0.2.2.2.2
 have bB := hJ0.2.2.2.1
 have hreach : l.length * 8 ≤ 140737488351232 := by have := HL.out; omega
 rw [hO0, hBs]
 have HXO := zz (show X < O by omega)
 have HMO := zz (show X + 1 < O by omega)
 clear hXlt hMlt b4x b4m hb4
 refine (wpIn_wide (n := 5)).1 ?_
 refine wpIn_rangeFunc_ownG (F := Fence.wide) (n := 5) rfl (by omega) (gf := 188) (lb := #[.pointer (some ⟨Bs, 0, none⟩)]) rfl trivial (enters_of Try.func188 (by kernel_rfl) rfl)
  (YtlmoemahamneoaaBack.back_stops Fence.wide (5 - 1) trivial rfl (by omega) Bs X (.slice A l.length c0) l hreach _ (by rw [hsz]; omega) (by rw [hsz]; have := HXO.out; omega) bB hI) YtlmoemahamneoaaBack.KeepB.trans (YtlmoemahamneoaaBack.keepB_b (by rw [hsz]; have := HXO.out; omega)) (Below.refl _ _) (fun _ => rfl)
  (fun pre W => VaJ X (X + 1) O Bs (.slice A l.length c0) x m (vaP x m pre) w W)
  (fun _ _ _ => False)
  (va_own (fun pre => vaP x m pre) (Nat.le_of_eq HX.out.symm) (by rw [hsz]; have := HXO.out; omega))
  (fun _ _ _ _ _ hs _ _ => hs)
  hJ0
  (fun p => { tmps := #[.slice A l.length c0, .int .i64 x, .int .i64 m, undef, .pointer (some ⟨X, 0, none⟩), .pointer (some ⟨X + 1, 0, none⟩), .int .i64 0, .bool false, .pointer (some ⟨O, 0, none⟩), undef, .int .i64 p.2, .slice A l.length c0, .bool true, .bool false, .bool false, .int .i64 x, .bool true, .bool false, .bool false, .bool false, .int .i64 m, .bool true, .bool false, .bool false, .slice A l.length c0, .func (.func 188) #[] #[.pointer (some ⟨Bs, 0, none⟩)], .int .i64 p.1, .int .i64 p.2, undef, undef, undef, undef, undef, undef, undef, undef, undef, undef], defers := [] }) ?assign ?body ?done ?stop
 case assign =>
  intro lb p W K hK
  gi_wp2
  exact hK
 case body =>
  rintro lb pre p W hJ hlt
  obtain ⟨o, ho⟩ : ∃ o, vaP x m pre = o := ⟨_, rfl⟩
  have hnew := vaP_snoc x m pre p
  rw [ho] at hJ hnew
  have HNEW := zz hnew
  have HJ := zz hJ
  obtain ⟨pi, pd⟩ := p
  dsimp only
  clear hnew hJ hlt hJ0 hI bB hreach ho
  have KY := zz (fun (V : World) (z : Int) (h : VaJ X (X + 1) O Bs (.slice A l.length c0) x m z w V) => (And.intro ((qw h.1 0).trans rfl) (And.intro ((qw h.2.1 0).trans rfl) ((qw h.2.2.1 0).trans rfl)) : V.cell? ⟨O, 0, none⟩ = some (.int .i64 z) ∧ V.cell? ⟨X, 0, none⟩ = some (.int .i64 x) ∧ V.cell? ⟨X + 1, 0, none⟩ = some (.int .i64 m)))
  obtain ⟨q, hq⟩ : ∃ q, restV x m = q := ⟨_, rfl⟩
  obtain ⟨z, hz⟩ : ∃ z, wrap64 (wrap64 (o * q) + pd) = z := ⟨_, rfl⟩
  obtain ⟨r, hr⟩ : ∃ r, restV z m = r := ⟨_, rfl⟩
  have HQ := zz hq
  have HZ := zz hz
  have HR := zz hr
  have hv : vaP x m (pre ++ [(pi, pd)]) = r := by rw [HNEW.out]; unfold vaStep; rw [hq, hz, hr]
  have HV := zz hv
  clear hq hr hv hz
  gi_wp2
  refine Ytlmoemahamneoaa.RoundAny.start_in (m := 10) (S := fun w' => w'.cell? ⟨O, 0, none⟩ = some (.int .i64 o) ∧ w'.cell? ⟨X, 0, none⟩ = some (.int .i64 x) ∧ w'.cell? ⟨X + 1, 0, none⟩ = some (.int .i64 m)) (ds := [9]) #[false, false, false, false, false, false, false, false, false, false] (by kernel_rfl) (by kernel_rfl) rfl rfl (KY.out _ _ (va_drewN HJ.out 1).1) (fun hHeld => ?_)
  refine with_tabW va_tab va_bits (fun HT_ HW_ => ?_)
  have HJ2 := zz (va_drewN HJ.out 1).1
  have HK2 := zz (va_drewN HJ.out 1).2
  change Aside0 (VaJ X (X + 1) O Bs (.slice A l.length c0) x m o w W.drew) at HJ2
  change Aside0 (VaK X Bs W W.drew) at HK2
  generalize W.drew = V2 at HJ2 HK2 hHeld ⊢
  refine pure_ (i := 5) (N := some 33) (v := ?_) (a' := ?_) #[false, false, false, false, false, true, false, false, false, false] rfl rfl (any_of HT_.out (by kernel_rfl)) (fun _ _ _ h => h) (Or.inl ⟨by rfl, ?_⟩) ?_ ?_
  rotate_left
  ·intro w'
   go_simp
   with_reducible rfl
  rotate_left
  ·simp only [Act.put, qv, yz, yq, vk, vv]
   rfl
  refine take_ (i := 0) (N := some 28) (v := ?_) (a' := ?_) #[true, false, false, false, false, true, false, false, false, false] rfl rfl (vx HT_.out HW_.out (by kernel_rfl)) (fun _ _ _ h => h) (Or.inl ⟨by rfl, ?_⟩) hHeld ?_ ?_
  rotate_left
  ·rintro w' ⟨s0, s1, s2⟩
   go_simp
   with_reducible rfl
  rotate_left
  ·simp only [Act.put, qv, yz, yq, vk, vv]
   rfl
  refine take_ (i := 1) (N := some 29) (v := ?_) (a' := ?_) #[true, true, false, false, false, true, false, false, false, false] rfl rfl (vx HT_.out HW_.out (by kernel_rfl)) (fun _ _ _ h => h) (Or.inl ⟨by rfl, ?_⟩) hHeld ?_ ?_
  rotate_left
  ·rintro w' ⟨s0, s1, s2⟩
   go_simp
   with_reducible rfl
  rotate_left
  ·simp only [Act.put, qv, yz, yq, vk, vv]
   rfl
  refine take_ (i := 2) (N := some 30) (v := ?_) (a' := ?_) #[true, true, true, false, false, true, false, false, false, false] rfl rfl (vx HT_.out HW_.out (by kernel_rfl)) (fun _ _ _ h => h) (Or.inl ⟨by rfl, ?_⟩) hHeld ?_ ?_
  rotate_left
  ·rintro w' ⟨s0, s1, s2⟩
   go_simp
   with_reducible rfl
  rotate_left
  ·simp only [Act.put, qv, yz, yq, vk, vv]
   rfl
  refine take_ (i := 7) (N := some 35) (v := ?_) (a' := ?_) #[true, true, true, false, false, true, false, true, false, false] rfl rfl (vx HT_.out HW_.out (by kernel_rfl)) (fun _ _ _ h => h) (Or.inl ⟨by rfl, ?_⟩) hHeld ?_ ?_
  rotate_left
  ·rintro w' ⟨s0, s1, s2⟩
   go_simp
   with_reducible rfl
  rotate_left
  ·simp only [Act.put, qv, yz, yq, vk, vv]
   rfl
  refine one_ (i := 3) (N := some 31) #[true, true, true, true, false, true, false, true, false, false] rfl rfl (one_of HT_.out (by kernel_rfl)) (by decide) (fun K hK => ?_)
  refine goes_ Try.func136 (by kernel_rfl) rfl #[.int .i64 x, .int .i64 m] (by rfl) rfl rfl (by (try simp only [yj, List.map_cons, List.map_nil]); first | done | rfl) ?_
  refine (impl_rest.calls _ _ _ _ ((restV_val HM0.out).trans (by rw [HQ.out]))).mono ?_
  rintro e V3 ⟨rfl, hd_⟩
  refine ⟨_, rfl, ?_⟩
  obtain ⟨nn_, rfl⟩ := YtlmoemahamneoaaHand.of_drawn hd_
  have HJ3 := zz (va_drewN HJ2.out nn_).1
  have HK3 := zz (vk_trans HK2.out (va_drewN HJ2.out nn_).2)
  clear hd_
  refine hK.out _ _ (KY.out _ _ HJ3.out) (fun hHeld => ?_)
  clear hK K
  refine norm_ (a' := ?_) ?_ ?_
  rotate_left
  ·show Act.put _ (some 31) _ = _
   simp only [Act.put, qv, yz, yq, vk, vv]
   rfl
  generalize World.drewN V2 nn_ = V3_ at HJ3 HK3 hHeld ⊢
  refine pure_ (i := 4) (N := some 32) (v := ?_) (a' := ?_) #[true, true, true, true, true, true, false, true, false, false] rfl rfl (any_of HT_.out (by kernel_rfl)) (fun _ _ _ h => h) (Or.inl ⟨by rfl, ?_⟩) ?_ ?_
  rotate_left
  ·intro w'
   go_simp
   with_reducible rfl
  rotate_left
  ·simp only [Act.put, qv, yz, yq, vk, vv]
   rfl
  refine pure_ (i := 6) (N := some 34) (v := ?_) (a' := ?_) #[true, true, true, true, true, true, true, true, false, false] rfl rfl (any_of HT_.out (by kernel_rfl)) (fun _ _ _ h => h) (Or.inl ⟨by rfl, ?_⟩) ?_ ?_
  rotate_left
  ·intro w'
   go_simp
   with_reducible rfl
  rotate_left
  ·simp only [Act.put, qv, yz, yq, vk, vv]
   rfl
  rw [HZ.out]
  refine one_ (i := 8) (N := some 36) #[true, true, true, true, true, true, true, true, true, false] rfl rfl (one_of HT_.out (by kernel_rfl)) (by decide) (fun K hK => ?_)
  refine goes_ Try.func136 (by kernel_rfl) rfl #[.int .i64 z, .int .i64 m] (by rfl) rfl rfl (by (try simp only [yj, List.map_cons, List.map_nil]); first | done | rfl) ?_
  refine (impl_rest.calls _ _ _ _ ((restV_val HM0.out).trans (by rw [HR.out]))).mono ?_
  rintro e V4 ⟨rfl, hd_⟩
  refine ⟨_, rfl, ?_⟩
  obtain ⟨nn_, rfl⟩ := YtlmoemahamneoaaHand.of_drawn hd_
  have HJ4 := zz (va_drewN HJ3.out nn_).1
  have HK4 := zz (vk_trans HK3.out (va_drewN HJ3.out nn_).2)
  clear hd_
  refine hK.out _ _ (KY.out _ _ HJ4.out) (fun hHeld => ?_)
  clear hK K
  refine norm_ (a' := ?_) ?_ ?_
  rotate_left
  ·show Act.put _ (some 36) _ = _
   simp only [Act.put, qv, yz, yq, vk, vv]
   rfl
  generalize World.drewN V3_ nn_ = V4_ at HJ4 HK4 hHeld ⊢
  refine last_ (i := 9) (N := none) #[true, true, true, true, true, true, true, true, true, true] rfl rfl (one_of HT_.out (by kernel_rfl)) (by decide) (fun K hK => ?_)
  have hs_ : V4_.cell? ⟨O, 0, none⟩ = some (.int .i64 o) := (KY.out _ _ HJ4.out).1
  have hfs_ := qx HJ4.out.1 0
  refine skip_ (w1 := ?_) (by rfl) rfl ?_ ?_
  rotate_left
  ·go_simp
   rfl
  refine hK.out _ _ ?_
  clear hK K
  refine done_ (done_of HT_.out (by kernel_rfl)) ?_
  have n1_ := va_set r HJ4.out HXO.out HMO.out
  have HJ8 := zz n1_.1
  have HK8 := zz (vk_trans HK4.out n1_.2)
  exact ⟨HK8.out.2.from _, HK8.out.1, by dsimp only; rw [HV.out]; exact HJ8.out⟩
 case done =>
  rintro E ys W hE rfl hJ hK
  rw [vaP_all] at hJ
  have kO : W.cell? ⟨O, 0, none⟩ = some (.int .i64 (vaAll l x m)) := (qw hJ.1 0).trans rfl
  have HJ := zz hJ
  have HE := zz hE
  clear hJ hJ0 hI bB hreach hE
  go_wp2
  refine ⟨by simp, .inl ⟨_, _, rfl, run_takeDeferred hK, ?_⟩⟩
  have hb := HJ.out.2.2.2.2
  have hEX : X ≤ E := by have := HE.out; rw [hsz] at this; have := HXO.out; omega
  rw [HX.out]
  exact ⟨_, results_tmp2 rfl _ _ _, rfl, hb.trans (belowK_b (n₀ := X) (w := w) (Nat.le_of_eq HX.out.symm) W E _ _ (by rw [HX.out]; exact hEX) hK rfl rfl)⟩
 case stop =>
  rintro D c pre W _ _ h _
  exact h.elim
theorem va_no (A : Option Addr) (c0 : Nat) (l : List Int) (x m : Int) (b1 b2 b3 : Bool) (w : World) (hC : Kd.C (Kd.int .i64) w A l.length l) (hcc : l.length ≤ c0) (hok : impl_coefsOk.f l = some b1) (hx : impl_coefOk.f x = some b2) (hm : impl_polyModulusOk.f m = some b3) (hb : ¬ (b1 = true ∧ b2 = true ∧ b3 = true)) :
  Calls Try.prog 50 #[.slice A l.length c0, .int .i64 x, .int .i64 m] w fun e w' => e = .returned (.tuple #[.int .i64 0, .bool false]) ∧ Below w.heap.size w w' := by
 obtain ⟨w0, hw0⟩ : ∃ w0, (w.alloc (.cells #[.int .i64 x] 3)).alloc (.cells #[.int .i64 m] 3) = w0 := ⟨_, rfl⟩
 have IC := zz (impl_coefsOk.calls A c0 l b1 w0 (by rw [← hw0]; exact jw (jw hC _) _) hcc hok)
 have bx : w0.heap[w.heap.size]? = some (.cells #[.int .i64 x] 3 (0, 0)) := by rw [← hw0]; exact qz (blk_new w _) _
 have bm : w0.heap[w.heap.size + 1]? = some (.cells #[.int .i64 m] 3 (0, 0)) := by
  rw [← hw0]
  have := blk_new (w.alloc (.cells #[.int .i64 x] 3)) (.cells #[.int .i64 m] 3)
  rw [World.size_alloc] at this
  exact this
 have hB0 : Below w.heap.size w w0 := by rw [← hw0]; exact zj (zj (Below.refl _ w) _) _
 have BX := zz bx
 have BM := zz bm
 have HB := zz hB0
 have HOX := zz hx
 have HOM := zz hm
 have HW0 := zz hw0
 clear hC hcc hok hx hm bx bm hB0 hw0
 cases b1 with
 | false =>
  clear hb
  go_enter Try.func50, Try.ntmps50
  go_wp2_with (go_at_call 95; rw [HW0.out]; refine IC.out.mono ?_; rintro e w1 ⟨rfl, hd_⟩; obtain ⟨n1, rfl⟩ := YtlmoemahamneoaaHand.of_drawn hd_; clear hd_)
  go_ret2
  exact ⟨rfl, zq HB.out _⟩
 | true =>
  cases b2 with
  | false =>
   clear hb
   go_enter Try.func50, Try.ntmps50
   go_wp2_with (first
    | (go_at_call 95; rw [HW0.out]; refine IC.out.mono ?_; rintro e w1 ⟨rfl, hd_⟩; obtain ⟨n1, rfl⟩ := YtlmoemahamneoaaHand.of_drawn hd_; clear hd_; have kx : (w0.drewN n1).cell? ⟨w.heap.size, 0, none⟩ = some (.int .i64 x) := (qw (qq BX.out n1) 0).trans rfl)
    | (go_at_call 134; refine (impl_coefOk.calls x false _ HOX.out).mono ?_; rintro e w2 ⟨rfl, hd_⟩; obtain ⟨n2, rfl⟩ := YtlmoemahamneoaaHand.of_drawn hd_; clear hd_))
   go_ret2
   exact ⟨rfl, zq HB.out _⟩
  | true =>
   cases b3 with
   | true => exact absurd ⟨rfl, rfl, rfl⟩ hb
   | false =>
    clear hb
    go_enter Try.func50, Try.ntmps50
    go_wp2_with (first
     | (go_at_call 95; rw [HW0.out]; refine IC.out.mono ?_; rintro e w1 ⟨rfl, hd_⟩; obtain ⟨n1, rfl⟩ := YtlmoemahamneoaaHand.of_drawn hd_; clear hd_; have kx : (w0.drewN n1).cell? ⟨w.heap.size, 0, none⟩ = some (.int .i64 x) := (qw (qq BX.out n1) 0).trans rfl; have km : ∀ q, (w0.drewN q).cell? ⟨w.heap.size + 1, 0, none⟩ = some (.int .i64 m) := fun q => (qw (qq BM.out q) 0).trans rfl)
     | (go_at_call 134; refine (impl_coefOk.calls x true _ HOX.out).mono ?_; rintro e w2 ⟨rfl, hd_⟩; obtain ⟨n2, rfl⟩ := YtlmoemahamneoaaHand.of_drawn hd_; clear hd_)
     | (go_at_call 135; refine (impl_polyModulusOk.calls m false _ HOM.out).mono ?_; rintro e w3 ⟨rfl, hd_⟩; obtain ⟨n3, rfl⟩ := YtlmoemahamneoaaHand.of_drawn hd_; clear hd_))
    go_ret2
    exact ⟨rfl, zq HB.out _⟩
theorem va_coef (x : Int) : ∃ b, impl_coefOk.f x = some b := by
 unfold impl_coefOk.f impl_in.f
 by_cases h : x ≥ -1000000
 ·rw [if_pos h]; exact ⟨_, rfl⟩
 ·rw [if_neg h]; exact ⟨_, rfl⟩
theorem va_mod (x : Int) : ∃ b, impl_polyModulusOk.f x = some b := by
 unfold impl_polyModulusOk.f impl_in.f
 by_cases h : x ≥ 1
 ·rw [if_pos h]; exact ⟨_, rfl⟩
 ·rw [if_neg h]; exact ⟨_, rfl⟩
def impl_ValueAt.f (l0 : List Int) (a1 : Int) (a2 : Int) : Option (Int × Bool) := (impl_coefsOk.f l0).bind fun c => if c = true then ((impl_coefOk.f a1).bind fun c1 => if c1 = true then ((impl_polyModulusOk.f a2).bind fun c2 => if c2 = true then (if a2 ≠ 0 ∧ l0.length ≤ 1000 then some (vaAll l0 a1 a2, true) else none) else some (0, false)) else some (0, false)) else some (0, false)
theorem impl_ValueAt.calls (A0 : Option Addr) (c0 : Nat) (l0 : List Int) (a1 : Int) (a2 : Int) (r1 : Int) (r2 : Bool) (w : World) (hr0 : Kd.C (Kd.int .i64) w A0 l0.length l0) (hc0 : l0.length ≤ c0) (h : impl_ValueAt.f l0 a1 a2 = some (r1, r2)) :
  Calls Try.prog 50 #[.slice A0 l0.length c0, .int .i64 a1, .int .i64 a2] w fun e w' => e = .returned (.tuple #[.int .i64 r1, .bool r2]) ∧ Below w.heap.size w w' := by
 unfold impl_ValueAt.f at h
 obtain ⟨b1, h1, h⟩ := Option.bind_eq_some_iff.mp h
 obtain ⟨b2, h2⟩ := va_coef a1
 obtain ⟨b3, h3⟩ := va_mod a2
 by_cases hb : b1 = true ∧ b2 = true ∧ b3 = true
 ·obtain ⟨rfl, rfl, rfl⟩ := hb
  simp only [if_true, h2, h3, Option.bind_some] at h
  by_cases hy : a2 ≠ 0 ∧ l0.length ≤ 1000
  ·rw [if_pos hy] at h
   obtain ⟨rfl, rfl⟩ := Prod.mk.inj (Option.some.inj h)
   exact callsIn_wide.1 (va_yes A0 c0 l0 a1 a2 w hr0 hc0 h1 h2 h3 hy.1 hy.2)
  ·rw [if_neg hy] at h; cases h
 ·have e : (0, false) = (r1, r2) := by
   cases b1 with
   | false => simpa using h
   | true =>
    cases b2 with
    | false => simpa [h2] using h
    | true =>
     cases b3 with
     | false => simpa [h2, h3] using h
     | true => exact absurd ⟨rfl, rfl, rfl⟩ hb
  obtain ⟨rfl, rfl⟩ := Prod.mk.inj e
  exact va_no A0 c0 l0 a1 a2 b1 b2 b3 w hr0 hc0 h1 h2 h3 hb
end
def rcRest (a b : Int) : Int := Int.tmod (wrap64 (Int.tmod a b + b)) b
theorem rcRest_val {a b : Int} (hb : b ≠ 0) : impl_rest.f a b = some (rcRest a b) := by unfold impl_rest.f; rw [if_neg hb]; rfl
def rcNum (o : S109) (V : List Int) : Option Int :=
 if o.f0 = 1 then (if (0 ≤ o.f1 ∧ o.f1 < (V.length : Int)) ∧ (0 ≤ o.f2 ∧ o.f2 < (V.length : Int)) then some (wrap64 (rd V o.f1 + rd V o.f2)) else none)
 else if o.f0 = 2 then (if 0 ≤ o.f1 ∧ o.f1 < (V.length : Int) then some (wrap64 (rd V o.f1 * o.f2)) else none)
 else if o.f0 = 3 then (if (0 ≤ o.f1 ∧ o.f1 < (V.length : Int)) ∧ (0 ≤ o.f2 ∧ o.f2 < (V.length : Int)) then some (wrap64 (rd V o.f1 * rd V o.f2)) else none)
 else some o.f1
def rcLoop (m : Int) : List S109 → List Int → Option (List Int)
 | [], V => some V
 | o :: r, V => (rcNum o V).bind fun n => rcLoop m r (V ++ [rcRest n m])
def impl_RunCode.f (k : Nat) (l0_0 : List (S109)) (a0_1 : Int) (a1 : Int) (a2 : Int) : Option (Int × Bool) := (impl_IsCode.f k l0_0 a0_1).bind fun c => if c = true then ((impl_coefOk.f a1).bind fun c1 => if c1 = true then ((impl_polyModulusOk.f a2).bind fun c2 => if c2 = true then (if a2 ≠ 0 ∧ l0_0.length ≤ 1000 then (rcLoop a2 l0_0 [rcRest a1 a2]).bind fun V => (if 0 ≤ a0_1 ∧ a0_1 < (V.length : Int) then some (rd V a0_1, true) else none) else none) else some (0, false)) else some (0, false)) else some (0, false)
theorem impl_RunCode.mono : ∀ (l0_0 : List (S109)) (a0_1 : Int) (a1 : Int) (a2 : Int) (k : Nat), LeO (impl_RunCode.f k l0_0 a0_1 a1 a2) (impl_RunCode.f (k + 1) l0_0 a0_1 a1 a2) := by
 intro l a b c k
 unfold impl_RunCode.f
 exact vj (impl_IsCode.mono l a k) (fun _ => LeO.refl _)
theorem rc_cell {base : Nat} {ok : Nat → Prop} {W : World} {g c : Nat} {l : List Int} (h : Kd.R (Kd.int .i64) 3 W base ok (.slice (some ⟨g, 0, none⟩) l.length c) l) (y : Int) (h0 : 0 ≤ y) (h1 : y < (l.length : Int)) : W.cell? ⟨g, y.toNat, none⟩ = some (.int .i64 (rd l y)) := by
 obtain ⟨ad, e, hx⟩ := Kd.at_int (vq h).2.2 y h0 h1
 injection e with e
 subst e
 have ea : (⟨g, 0, none⟩ : Addr).add y.toNat = ⟨g, y.toNat, none⟩ := by by_cases h0 : y.toNat = 0 <;> simp [Addr.add, h0]
 rw [ea] at hx
 exact hx
theorem rc_info : (Try.prog.info? 3).map (fun i => (i.zero, i.size, i.bytes)) = some (some (.int .i64 0), 1, 8) := by kernel_rfl
theorem rc_up {x L : Nat} (h : x < L) (hL : L ≤ 100000) : wrap64 ((x : Int) + 1) = (x : Int) + 1 := by unfold wrap64; omega
theorem rc_meas {j L : Nat} (hj : j < L) (hL : L ≤ 100000) : L - (intOf (Value.int .i64 (wrap64 ((j : Int) + 1)))).toNat < L - (intOf (Value.int .i64 (j : Int))).toNat := by
 rw [rc_up hj hL]
 show L - ((j : Int) + 1).toNat < L - ((j : Int)).toNat
 omega
section
set_option maxRecDepth 100000
set_option maxHeartbeats 4000000 in
theorem rc_yes (k : Nat) (A0 : Option Addr) (c0 : Nat) (ops : List S109) (out x m : Int) (F : List Int) (w : World) (hC : Kd.C k109 w A0 ops.length ops) (hcc : ops.length ≤ c0) (hok : impl_IsCode.f k ops out = some true) (hx : impl_coefOk.f x = some true) (hm : impl_polyModulusOk.f m = some true) (hm0 : m ≠ 0) (hl : ops.length ≤ 1000) (hF : rcLoop m ops [rcRest x m] = some F) (ho0 : 0 ≤ out) (ho1 : out < (F.length : Int)) :
  Calls Try.prog 51 #[.agg #[.slice A0 ops.length c0, .int .i64 out], .int .i64 x, .int .i64 m] w fun e w' => e = .returned (.tuple #[.int .i64 (rd F out), .bool true]) ∧ Below w.heap.size w w' := by
 have IC := zz (impl_IsCode.calls k A0 c0 ops out true (w.alloc (.cells #[.slice A0 ops.length c0, .int .i64 out] 32)) (jw hC _) hcc hok)
 have HX0 := zz (blk_new w (.cells #[.slice A0 ops.length c0, .int .i64 out] 32))
 obtain ⟨q, hq⟩ : ∃ q, rcRest x m = q := ⟨_, rfl⟩
 have RX := zz ((rcRest_val (a := x) hm0).trans (by rw [hq]))
 rw [hq] at hF
 have HC := zz hC
 have HM0 := zz hm0
 have HOX := zz hx
 have HOM := zz hm
 have HF := zz hF
 have HL := zz hl
 have HO1 := zz ho1
 have HCC := zz hcc
 clear hC hcc hok hx hm hm0 hF hl ho1 hq
 go_enter Try.func51, Try.ntmps51
 go_wp2_with (first
  | (go_at_call 54; refine IC.out.mono ?_; rintro e w1 ⟨rfl, hb_⟩; have HX := zz (qk HX0.out hb_); have HB1 := zz (zk (zj (Below.refl _ w) _) hb_); have kx0 : ∀ q, (w1.drewN q).cell? ⟨w.heap.size, 0, none⟩ = some (.slice A0 ops.length c0) := fun q => (qw (qq HX.out q) 0).trans rfl; clear hb_)
  | (go_at_call 134; refine (impl_coefOk.calls x true _ HOX.out).mono ?_; rintro e w2 ⟨rfl, hd_⟩; obtain ⟨n2, rfl⟩ := YtlmoemahamneoaaHand.of_drawn hd_; clear hd_)
  | (go_at_call 135; refine (impl_polyModulusOk.calls m true _ HOM.out).mono ?_; rintro e w3 ⟨rfl, hd_⟩; obtain ⟨n3, rfl⟩ := YtlmoemahamneoaaHand.of_drawn hd_; clear hd_)
  | (go_at_call 136; refine (impl_rest.calls x m q _ RX.out).mono ?_; rintro e w4 ⟨rfl, hd_⟩; obtain ⟨n4, rfl⟩ := YtlmoemahamneoaaHand.of_drawn hd_; clear hd_; have hs0 : ((w1.drewN (n2 + n3 + n4)).alloc (.cells #[.int .i64 q] 3)).cell? ⟨w.heap.size, 0, none⟩ = some (.slice A0 ops.length c0) := (qw (qz (qq HX.out _) _) 0).trans rfl))
 have HR0 := zz (show Kd.R (Kd.int .i64) 3 ((w1.drewN (n2 + n3 + n4)).alloc (.cells #[.int .i64 q] 3)) w.heap.size (fun _ => True) (.slice (some ⟨w1.heap.size, 0, none⟩) 1 1) [q] from Kd.R_of_own (own_lit (w1.drewN (n2 + n3 + n4)) w.heap.size 3 .i64 [q] HB1.out.size (by simp)) (fun _ _ => trivial))
 have HBW := zz (show Below w.heap.size w ((w1.drewN (n2 + n3 + n4)).alloc (.cells #[.int .i64 q] 3)) from zj (zq HB1.out _) _)
 have HXW := zz (qz (qq HX.out (n2 + n3 + n4)) (.cells #[.int .i64 q] 3))
 clear IC HX0 RX HOX HOM kx0 hs0 HX HB1
 go_loopw [8, 32] (fun v8 v32 wr => ∃ (i : Nat) (V : List Int), v32 = .int .i64 (i : Int) ∧ i ≤ ops.length ∧ Aside0 (rcLoop m (ops.drop i) V = some F ∧ V.length = i + 1) ∧ Aside0 (Kd.R (Kd.int .i64) 3 wr w.heap.size (fun _ => True) v8 V) ∧ Aside0 (Below w.heap.size w wr) ∧ Aside0 (wr.heap[w.heap.size]? = some (.cells #[.slice A0 ops.length c0, .int .i64 out] 32 (0, 0)))) (fun _ s _ => ops.length - (intOf s).toNat)
 case atStart => exact ⟨0, [q], rfl, Nat.zero_le _, ⟨by rw [List.drop_zero]; exact HF.out, rfl⟩, HR0, HBW, HXW⟩
 case round =>
  clear HR0 HBW HXW
  obtain ⟨i, V, rfl, hi, HV, HR, HB, HX⟩ := hrel
  obtain ⟨g, c, e, -⟩ := Kd.R_form HR.out (by have := HV.out.2; omega)
  subst e
  have hvl : V.length ≤ 1001 := by have := HV.out.2; have := HL.out; omega
  by_cases hlt : i < ops.length
  ·have hltz : (i : Int) < (ops.length : Int) := by omega
   obtain ⟨o, hs⟩ : ∃ o, ops[i] = o := ⟨_, rfl⟩
   have hrun := HV.out.1
   rw [List.drop_eq_getElem_cons hlt, hs, rcLoop] at hrun
   obtain ⟨n, hn, hrun2⟩ := Option.bind_eq_some_iff.mp hrun
   obtain ⟨ad, e, hx0, hx1, hx2⟩ := at_T109 (jv HC.out HB.out) (i : Int) (by omega) hltz
   have hrd : rd_T109 ops (i : Int) = o := by
    unfold rd_T109
    rw [Int.toNat_natCast, List.getD_eq_getElem?_getD, List.getElem?_eq_getElem hlt]; exact hs
   rw [hrd, Int.toNat_natCast] at hx0 hx1 hx2
   subst e
   obtain ⟨a, b, d⟩ := o
   dsimp only at hx0 hx1 hx2
   have HRUN := zz hrun2
   have HI := zz hlt
   have HRX := zz (jz HR.out (.cells #[.int .i64 a, .int .i64 b, .int .i64 d] 109))
   have HBX := zz (zj HB.out (.cells #[.int .i64 a, .int .i64 b, .int .i64 d] 109))
   have HXX := zz (qz HX.out (.cells #[.int .i64 a, .int .i64 b, .int .i64 d] 109))
   have hcv := zz (fun (y : Int) (h0 : 0 ≤ y) (h1 : y < (V.length : Int)) => rc_cell HRX.out y h0 h1)
   have hl8 : (V.length + 1) * 8 ≤ 140737488355328 := by omega
   obtain ⟨r, hr⟩ : ∃ r, rcRest n m = r := ⟨_, rfl⟩
   have RN := zz ((rcRest_val (a := n) HM0.out).trans (by rw [hr]))
   rw [hr] at HRUN
   have HSZ := zz (show w.heap.size ≤ wr.heap.size from HB.out.size)
   unfold rcNum at hn
   dsimp only at hn
   by_cases h1 : a = 1
   ·rw [if_pos h1] at hn
    by_cases hy : (0 ≤ b ∧ b < (V.length : Int)) ∧ (0 ≤ d ∧ d < (V.length : Int))
    rotate_left
    ·rw [if_neg hy] at hn; cases hn
    rw [if_pos hy] at hn
    obtain ⟨⟨y1, y2⟩, y3, y4⟩ := hy
    have c1 := hcv.out b y1 y2
    have c2 := hcv.out d y3 y4
    have e1 : (a == 1) = true := by rw [h1]; rfl
    have e2 : IntKind.i64.wrap (rd V b + rd V d) = n := (vk _).trans (Option.some.inj hn)
    clear hrd hs hlt hi h1 hn hrun hrun2 hr HR HB HX hcv hvl
    go_wp2
    go_quiet (fail)
    have HR5 := zz (jq HRX.out nq)
    have HB5 := zz (zq HBX.out nq)
    have HX5 := zz (qq HXX.out nq)
    obtain ⟨w5, hw5⟩ : ∃ w5, (wr.alloc (.cells #[.int .i64 a, .int .i64 b, .int .i64 d] 109)).drewN nq = w5 := ⟨_, rfl⟩
    rw [hw5] at HR5 HB5 HX5
    rw [hw5]
    clear hw5 HRX HBX HXX
    go_wp2_with (first
     | (go_at_call 136; refine (impl_rest.calls _ _ _ _ RN.out).mono ?_; rintro e w6 ⟨rfl, hd_⟩; obtain ⟨n6, rfl⟩ := YtlmoemahamneoaaHand.of_drawn hd_; clear hd_; have HR6 := zz (jq HR5.out n6); have HB6 := zz (zq HB5.out n6); have HX6 := zz (qq HX5.out n6))
     | (at_builtin; refine Kd.R_append (Kd.int .i64) (w0 := w) w.heap.size rfl (.tmp 76) (.tmp 80) 29 3 (.int .i64 0) 8 rfl Try.underlying29 rc_info rfl (by decide) (by decide) (.slice (some ⟨g, 0, none⟩) V.length c) V r [.int .i64 r] (fun _ => True) (fun _ => False) rfl rfl ?aP (fun _ hk => hk.elim) ?aF ?aO ?aB ?aS hl8 ?_; (case aP => exact rfl); (case aF => exact (fun _ _ => trivial)); (case aO => exact HR6.out); (case aB => exact HB6.out); (case aS => exact HB6.out.size); intro v1 w7 ho_ hb_ hg_ _; have N1 := zz ho_; have N2 := zz hb_; have N3 := zz (blk_grown HX6.out hg_ (Kd.R_ne HR6.out HX6.out (by decide))); clear ho_ hb_ hg_))
    go_roundw
    case rel => exact ⟨i + 1, V ++ [r], by first | rfl | (rw [rc_up HI.out (by have := HL.out; omega)]; rfl), HI.out, ⟨HRUN.out, by rw [List.length_append, HV.out.2]; rfl⟩, N1, N2, N3⟩
    case measure => first | exact rc_meas HI.out (by have := HL.out; omega) | (have := HI.out; simp only [intOf]; omega)
   ·rw [if_neg h1] at hn
    have e1 : (a == 1) = false := beq_eq_false_iff_ne.mpr h1
    by_cases h2 : a = 2
    ·rw [if_pos h2] at hn
     by_cases hy : 0 ≤ b ∧ b < (V.length : Int)
     rotate_left
     ·rw [if_neg hy] at hn; cases hn
     rw [if_pos hy] at hn
     obtain ⟨y1, y2⟩ := hy
     have c1 := hcv.out b y1 y2
     have e3 : (a == 2) = true := by rw [h2]; rfl
     have e2 : IntKind.i64.wrap (rd V b * d) = n := (vk _).trans (Option.some.inj hn)
     clear hrd hs hlt hi h1 h2 hn hrun hrun2 hr HR HB HX hcv hvl
     go_wp2
     go_quiet (fail)
     have HR5 := zz (jq HRX.out nq)
     have HB5 := zz (zq HBX.out nq)
     have HX5 := zz (qq HXX.out nq)
     obtain ⟨w5, hw5⟩ : ∃ w5, (wr.alloc (.cells #[.int .i64 a, .int .i64 b, .int .i64 d] 109)).drewN nq = w5 := ⟨_, rfl⟩
     rw [hw5] at HR5 HB5 HX5
     rw [hw5]
     clear hw5 HRX HBX HXX
     go_wp2_with (first
      | (go_at_call 136; refine (impl_rest.calls _ _ _ _ RN.out).mono ?_; rintro e w6 ⟨rfl, hd_⟩; obtain ⟨n6, rfl⟩ := YtlmoemahamneoaaHand.of_drawn hd_; clear hd_; have HR6 := zz (jq HR5.out n6); have HB6 := zz (zq HB5.out n6); have HX6 := zz (qq HX5.out n6))
      | (at_builtin; refine Kd.R_append (Kd.int .i64) (w0 := w) w.heap.size rfl (.tmp 76) (.tmp 80) 29 3 (.int .i64 0) 8 rfl Try.underlying29 rc_info rfl (by decide) (by decide) (.slice (some ⟨g, 0, none⟩) V.length c) V r [.int .i64 r] (fun _ => True) (fun _ => False) rfl rfl ?aP (fun _ hk => hk.elim) ?aF ?aO ?aB ?aS hl8 ?_; (case aP => exact rfl); (case aF => exact (fun _ _ => trivial)); (case aO => exact HR6.out); (case aB => exact HB6.out); (case aS => exact HB6.out.size); intro v1 w7 ho_ hb_ hg_ _; have N1 := zz ho_; have N2 := zz hb_; have N3 := zz (blk_grown HX6.out hg_ (Kd.R_ne HR6.out HX6.out (by decide))); clear ho_ hb_ hg_))
     go_roundw
     case rel => exact ⟨i + 1, V ++ [r], by first | rfl | (rw [rc_up HI.out (by have := HL.out; omega)]; rfl), HI.out, ⟨HRUN.out, by rw [List.length_append, HV.out.2]; rfl⟩, N1, N2, N3⟩
     case measure => first | exact rc_meas HI.out (by have := HL.out; omega) | (have := HI.out; simp only [intOf]; omega)
    ·rw [if_neg h2] at hn
     have e3 : (a == 2) = false := beq_eq_false_iff_ne.mpr h2
     by_cases h3 : a = 3
     ·rw [if_pos h3] at hn
      by_cases hy : (0 ≤ b ∧ b < (V.length : Int)) ∧ (0 ≤ d ∧ d < (V.length : Int))
      rotate_left
      ·rw [if_neg hy] at hn; cases hn
      rw [if_pos hy] at hn
      obtain ⟨⟨y1, y2⟩, y3, y4⟩ := hy
      have c1 := hcv.out b y1 y2
      have c2 := hcv.out d y3 y4
      have e4 : (a == 3) = true := by rw [h3]; rfl
      have e2 : IntKind.i64.wrap (rd V b * rd V d) = n := (vk _).trans (Option.some.inj hn)
      clear hrd hs hlt hi h1 h2 h3 hn hrun hrun2 hr HR HB HX hcv hvl
      go_wp2
      go_quiet (fail)
      have HR5 := zz (jq HRX.out nq)
      have HB5 := zz (zq HBX.out nq)
      have HX5 := zz (qq HXX.out nq)
      obtain ⟨w5, hw5⟩ : ∃ w5, (wr.alloc (.cells #[.int .i64 a, .int .i64 b, .int .i64 d] 109)).drewN nq = w5 := ⟨_, rfl⟩
      rw [hw5] at HR5 HB5 HX5
      rw [hw5]
      clear hw5 HRX HBX HXX
      go_wp2_with (first
       | (go_at_call 136; refine (impl_rest.calls _ _ _ _ RN.out).mono ?_; rintro e w6 ⟨rfl, hd_⟩; obtain ⟨n6, rfl⟩ := YtlmoemahamneoaaHand.of_drawn hd_; clear hd_; have HR6 := zz (jq HR5.out n6); have HB6 := zz (zq HB5.out n6); have HX6 := zz (qq HX5.out n6))
       | (at_builtin; refine Kd.R_append (Kd.int .i64) (w0 := w) w.heap.size rfl (.tmp 76) (.tmp 80) 29 3 (.int .i64 0) 8 rfl Try.underlying29 rc_info rfl (by decide) (by decide) (.slice (some ⟨g, 0, none⟩) V.length c) V r [.int .i64 r] (fun _ => True) (fun _ => False) rfl rfl ?aP (fun _ hk => hk.elim) ?aF ?aO ?aB ?aS hl8 ?_; (case aP => exact rfl); (case aF => exact (fun _ _ => trivial)); (case aO => exact HR6.out); (case aB => exact HB6.out); (case aS => exact HB6.out.size); intro v1 w7 ho_ hb_ hg_ _; have N1 := zz ho_; have N2 := zz hb_; have N3 := zz (blk_grown HX6.out hg_ (Kd.R_ne HR6.out HX6.out (by decide))); clear ho_ hb_ hg_))
      go_roundw
      case rel => exact ⟨i + 1, V ++ [r], by first | rfl | (rw [rc_up HI.out (by have := HL.out; omega)]; rfl), HI.out, ⟨HRUN.out, by rw [List.length_append, HV.out.2]; rfl⟩, N1, N2, N3⟩
      case measure => first | exact rc_meas HI.out (by have := HL.out; omega) | (have := HI.out; simp only [intOf]; omega)
     ·rw [if_neg h3] at hn
      have e4 : (a == 3) = false := beq_eq_false_iff_ne.mpr h3
      obtain rfl := Option.some.inj hn
      clear hrd hs hlt hi h1 h2 h3 hn hrun hrun2 hr HR HB HX hcv hvl
      have HR5 := zz (HRX.out)
      have HB5 := zz (HBX.out)
      have HX5 := zz (HXX.out)
      clear HRX HBX HXX
      go_wp2_with (first
       | (go_at_call 136; refine (impl_rest.calls _ _ _ _ RN.out).mono ?_; rintro e w6 ⟨rfl, hd_⟩; obtain ⟨n6, rfl⟩ := YtlmoemahamneoaaHand.of_drawn hd_; clear hd_; obtain ⟨w5, hw5⟩ : ∃ w5, wr.alloc (.cells #[.int .i64 a, .int .i64 b, .int .i64 d] 109) = w5 := ⟨_, rfl⟩; rw [hw5] at HR5 HB5 HX5; rw [hw5]; clear hw5; have HR6 := zz (jq HR5.out n6); have HB6 := zz (zq HB5.out n6); have HX6 := zz (qq HX5.out n6))
       | (at_builtin; refine Kd.R_append (Kd.int .i64) (w0 := w) w.heap.size rfl (.tmp 76) (.tmp 80) 29 3 (.int .i64 0) 8 rfl Try.underlying29 rc_info rfl (by decide) (by decide) (.slice (some ⟨g, 0, none⟩) V.length c) V r [.int .i64 r] (fun _ => True) (fun _ => False) rfl rfl ?aP (fun _ hk => hk.elim) ?aF ?aO ?aB ?aS hl8 ?_; (case aP => exact rfl); (case aF => exact (fun _ _ => trivial)); (case aO => exact HR6.out); (case aB => exact HB6.out); (case aS => exact HB6.out.size); intro v1 w7 ho_ hb_ hg_ _; have N1 := zz ho_; have N2 := zz hb_; have N3 := zz (blk_grown HX6.out hg_ (Kd.R_ne HR6.out HX6.out (by decide))); clear ho_ hb_ hg_))
      go_roundw
      case rel => exact ⟨i + 1, V ++ [r], by first | rfl | (rw [rc_up HI.out (by have := HL.out; omega)]; rfl), HI.out, ⟨HRUN.out, by rw [List.length_append, HV.out.2]; rfl⟩, N1, N2, N3⟩
      case measure => first | exact rc_meas HI.out (by have := HL.out; omega) | (have := HI.out; simp only [intOf]; omega)
  ·obtain rfl : i = ops.length := by omega
   have hv := HV.out.1
   rw [List.drop_length, rcLoop] at hv
   obtain rfl := Option.some.inj hv
   have hcl := rc_cell HR.out out ho0 HO1.out
   have k1 : wr.cell? ⟨w.heap.size, 1, none⟩ = some (.int .i64 out) := (qw HX.out 1).trans rfl
   have h1z := HO1.out
   have hltz : ¬ ((ops.length : Int) < (ops.length : Int)) := by omega
   clear hlt hi hv HV hvl hltz
   go_wp2
   go_ret2
   exact ⟨rfl, HB.out⟩
set_option maxHeartbeats 1000000 in
theorem rc_no (k : Nat) (A0 : Option Addr) (c0 : Nat) (ops : List S109) (out x m : Int) (b1 b2 b3 : Bool) (w : World) (hC : Kd.C k109 w A0 ops.length ops) (hcc : ops.length ≤ c0) (hok : impl_IsCode.f k ops out = some b1) (hx : impl_coefOk.f x = some b2) (hm : impl_polyModulusOk.f m = some b3) (hb : ¬ (b1 = true ∧ b2 = true ∧ b3 = true)) :
  Calls Try.prog 51 #[.agg #[.slice A0 ops.length c0, .int .i64 out], .int .i64 x, .int .i64 m] w fun e w' => e = .returned (.tuple #[.int .i64 0, .bool false]) ∧ Below w.heap.size w w' := by
 have IC := zz (impl_IsCode.calls k A0 c0 ops out b1 (w.alloc (.cells #[.slice A0 ops.length c0, .int .i64 out] 32)) (jw hC _) hcc hok)
 have HOX := zz hx
 have HOM := zz hm
 clear hC hcc hok hx hm
 cases b1 with
 | false =>
  clear hb
  go_enter Try.func51, Try.ntmps51
  go_wp2_with (go_at_call 54; refine IC.out.mono ?_; rintro e w1 ⟨rfl, hb_⟩; have HB1 := zz (zk (zj (Below.refl _ w) _) hb_); clear hb_)
  go_ret2
  exact ⟨rfl, HB1.out⟩
 | true =>
  cases b2 with
  | false =>
   clear hb
   go_enter Try.func51, Try.ntmps51
   go_wp2_with (first
    | (go_at_call 54; refine IC.out.mono ?_; rintro e w1 ⟨rfl, hb_⟩; have HB1 := zz (zk (zj (Below.refl _ w) _) hb_); clear hb_)
    | (go_at_call 134; refine (impl_coefOk.calls x false _ HOX.out).mono ?_; rintro e w2 ⟨rfl, hd_⟩; obtain ⟨n2, rfl⟩ := YtlmoemahamneoaaHand.of_drawn hd_; clear hd_))
   go_ret2
   exact ⟨rfl, zq HB1.out _⟩
  | true =>
   cases b3 with
   | true => exact absurd ⟨rfl, rfl, rfl⟩ hb
   | false =>
    clear hb
    go_enter Try.func51, Try.ntmps51
    go_wp2_with (first
     | (go_at_call 54; refine IC.out.mono ?_; rintro e w1 ⟨rfl, hb_⟩; have HB1 := zz (zk (zj (Below.refl _ w) _) hb_); clear hb_)
     | (go_at_call 134; refine (impl_coefOk.calls x true _ HOX.out).mono ?_; rintro e w2 ⟨rfl, hd_⟩; obtain ⟨n2, rfl⟩ := YtlmoemahamneoaaHand.of_drawn hd_; clear hd_)
     | (go_at_call 135; refine (impl_polyModulusOk.calls m false _ HOM.out).mono ?_; rintro e w3 ⟨rfl, hd_⟩; obtain ⟨n3, rfl⟩ := YtlmoemahamneoaaHand.of_drawn hd_; clear hd_))
    go_ret2
    exact ⟨rfl, zq HB1.out _⟩
end
theorem rc_coef (x : Int) : ∃ b, impl_coefOk.f x = some b := by
 unfold impl_coefOk.f impl_in.f
 by_cases h : x ≥ -1000000
 ·rw [if_pos h]; exact ⟨_, rfl⟩
 ·rw [if_neg h]; exact ⟨_, rfl⟩
theorem rc_mod (x : Int) : ∃ b, impl_polyModulusOk.f x = some b := by
 unfold impl_polyModulusOk.f impl_in.f
 by_cases h : x ≥ 1
 ·rw [if_pos h]; exact ⟨_, rfl⟩
 ·rw [if_neg h]; exact ⟨_, rfl⟩
theorem impl_RunCode.calls (k : Nat) (A0_0 : Option Addr) (c0_0 : Nat) (l0_0 : List (S109)) (a0_1 : Int) (a1 : Int) (a2 : Int) (r1 : Int) (r2 : Bool) (w : World) (hr0_0 : Kd.C k109 w A0_0 l0_0.length l0_0) (hc0_0 : l0_0.length ≤ c0_0) (h : impl_RunCode.f k l0_0 a0_1 a1 a2 = some (r1, r2)) :
  Calls Try.prog 51 #[.agg #[.slice A0_0 l0_0.length c0_0, .int .i64 a0_1], .int .i64 a1, .int .i64 a2] w fun e w' => e = .returned (.tuple #[.int .i64 r1, .bool r2]) ∧ Below w.heap.size w w' := by
 unfold impl_RunCode.f at h
 obtain ⟨b1, h1, h⟩ := Option.bind_eq_some_iff.mp h
 obtain ⟨b2, h2⟩ := rc_coef a1
 obtain ⟨b3, h3⟩ := rc_mod a2
 by_cases hb : b1 = true ∧ b2 = true ∧ b3 = true
 ·obtain ⟨rfl, rfl, rfl⟩ := hb
  simp only [if_true, h2, h3, Option.bind_some] at h
  by_cases hy : a2 ≠ 0 ∧ l0_0.length ≤ 1000
  ·rw [if_pos hy] at h
   obtain ⟨F, hF, h⟩ := Option.bind_eq_some_iff.mp h
   by_cases hz : 0 ≤ a0_1 ∧ a0_1 < (F.length : Int)
   ·rw [if_pos hz] at h
    obtain ⟨rfl, rfl⟩ := Prod.mk.inj (Option.some.inj h)
    exact rc_yes k A0_0 c0_0 l0_0 a0_1 a1 a2 F w hr0_0 hc0_0 h1 h2 h3 hy.1 hy.2 hF hz.1 hz.2
   ·rw [if_neg hz] at h; cases h
  ·rw [if_neg hy] at h; cases h
 ·have e : (0, false) = (r1, r2) := by
   cases b1 with
   | false => simpa using h
   | true =>
    cases b2 with
    | false => simpa [h2] using h
    | true =>
     cases b3 with
     | false => simpa [h2, h3] using h
     | true => exact absurd ⟨rfl, rfl, rfl⟩ hb
  obtain ⟨rfl, rfl⟩ := Prod.mk.inj e
  exact rc_no k A0_0 c0_0 l0_0 a0_1 a1 a2 b1 b2 b3 w hr0_0 hc0_0 h1 h2 h3 hb
end Go.Proofs.Ytlmoemahamneoaa.PFnSchemesAgree
