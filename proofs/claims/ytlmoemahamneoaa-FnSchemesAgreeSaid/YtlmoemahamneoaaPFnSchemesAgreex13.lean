-- Written by gprint.py, a program of this session, out of the translation (a changed print).
import Derived.Test.YtlmoemahamneoaaPFnSchemesAgreex0
import Derived.Test.YtlmoemahamneoaaPFnSchemesAgreex1
import Derived.Test.YtlmoemahamneoaaPFnSchemesAgreex6
import Derived.Test.YtlmoemahamneoaaPFnSchemesAgreex9
import Derived.Test.YtlmoemahamneoaaPFnSchemesAgreex12
namespace Go.Proofs.Ytlmoemahamneoaa.PFnSchemesAgree
open Go.RowKit Go.Proofs.YtlmoemahamneoaaW.PrintWords Go.Proofs.YtlmoemahamneoaaW.PrintLast Go.Proofs.YtlmoemahamneoaaW.PrintMore
open Go.Proofs.YtlmoemahamneoaaW.PrintWords.Aside0 renaming mk → zz
open Go.Proofs.YtlmoemahamneoaaW.PrintWords renaming pw_below_drewN → zq, below_alloc → zj, below_drew1 → zw, below_set → zx, below_step → zk, below_size → zv, blk_alloc → qz, blk_drewN → qq, blk_drew → qj, blk_cell → qw, blk_frozen → qx, blk_put → qk, blk_below → qv, gate_callee → yv, gate_dst → vz, box_event → vq, gate_guard → kz
open List renaming setIfInBounds_toArray → jz, set_cons_zero → yq, set_cons_succ → yj, map_toArray → yw, length_drop → yx, length_take → yk
open Go.World renaming block_lt_of_cell? → jq
open Go.Proofs.YtlmoemahamneoaaW.PrintWords.Kd renaming R_alloc → jj, R_drewN → jw, R_drew → jx, C_alloc → jk, C_drewN → jv, C_drew → yz, R_mono → vj, R_reads' → vw, R_slice → vx
open Go.Proofs.YtlmoemahamneoaaW.PrintWords.LeO renaming bind → vk, refl → vv
open Go.Proofs.YtlmoemahamneoaaW.PrintLast renaming goesL_ → kj, any_of → kw, i64_w → kv
attribute [local go_sem] max2_int min2_int max_two min_two max_three min_three max_four min_four
set_option linter.unusedVariables false
set_option linter.unusedSimpArgs false
attribute [local go_sem high] eqA109
def spec_l1Cur_modulus.f (s0_0 : List Int) (s0_1 : Int) (s0_2 : Int) : Option (Int × Int × Int) := (spec_l1Cur_one.f s0_0 s0_1 s0_2 6).bind fun bt399 => (if bt399.1 = true then ((spec_l1Cur_among.f s0_0 bt399.2.1 bt399.2.2 (([(-1), 0, 1, 1000000, 1000001] : List Int))).bind fun bt405 => (some (bt405.1, bt405.2.1, bt405.2.2))) else ((spec_l1Cur_pick.f s0_0 bt399.2.1 bt399.2.2 1000).bind fun bt408 => (some (wrap64 (2 + bt408.1), bt408.2.1, bt408.2.2))))
set_option maxHeartbeats 8000000 in
set_option maxRecDepth 100000 in
theorem spec_l1Cur_modulus.calls (g : Nat) (s0_0 : List Int) (s0_1 : Int) (s0_2 : Int) (r1 : Int) (r2 : Int) (r3 : Int) (w0 w : World) (hI : IsS97 w0 w g s0_0 s0_1 s0_2) (hB : Below w0.heap.size w0 w) (h : spec_l1Cur_modulus.f s0_0 s0_1 s0_2 = some (r1, r2, r3)) :
  Calls Try.prog 129 #[.pointer (some ⟨g, 0, none⟩)] w fun e w' => e = .returned (.int .i64 r1) ∧ IsS97 w0 w' g s0_0 r2 r3 ∧ Below w0.heap.size w0 w' ∧ KeepBut w w' g none := by
 have HI0 := zz hI
 have HK := zz (KeepBut.refl w g none)
 have HL := zz hB.size
 clear hI
 have HW0 := zz hB.size
 have HB := zz hB
 clear hB
 have H : ((spec_l1Cur_one.f s0_0 s0_1 s0_2 6).bind fun bt399 => (if bt399.1 = true then ((spec_l1Cur_among.f s0_0 bt399.2.1 bt399.2.2 (([(-1), 0, 1, 1000000, 1000001] : List Int))).bind fun bt405 => (some (bt405.1, bt405.2.1, bt405.2.2))) else ((spec_l1Cur_pick.f s0_0 bt399.2.1 bt399.2.2 1000).bind fun bt408 => (some (wrap64 (2 + bt408.1), bt408.2.1, bt408.2.2))))) = some (r1, r2, r3) := h
 clear h
 replace H := Option.bind_eq_some_iff.mp H
 obtain ⟨⟨t399, t400, t401⟩, A20, H⟩ := H
 replace H : (if t399 = true then ((spec_l1Cur_among.f s0_0 t400 t401 (([(-1), 0, 1, 1000000, 1000001] : List Int))).bind fun bt405 => (some (bt405.1, bt405.2.1, bt405.2.2))) else ((spec_l1Cur_pick.f s0_0 t400 t401 1000).bind fun bt408 => (some (wrap64 (2 + bt408.1), bt408.2.1, bt408.2.2)))) = some (r1, r2, r3) := H
 have A2 := zz A20
 clear A20
 by_cases c3 : t399 = true
 ·subst c3
  have H1 : ((spec_l1Cur_among.f s0_0 t400 t401 (([(-1), 0, 1, 1000000, 1000001] : List Int))).bind fun bt405 => (some (bt405.1, bt405.2.1, bt405.2.2))) = some (r1, r2, r3) := by rw [if_pos rfl] at H; exact H
  clear H
  have H := H1
  clear H1
  obtain ⟨y402, hy402⟩ : ∃ y_ : List Int, y_ = (([(-1), 0, 1, 1000000, 1000001] : List Int)) := ⟨_, rfl⟩
  replace H : ((spec_l1Cur_among.f s0_0 t400 t401 y402).bind fun bt405 => (some (bt405.1, bt405.2.1, bt405.2.2))) = some (r1, r2, r3) := by first | (rw [hy402]; with_reducible exact H) | (have H2_ := (Option.bind_some _ _).symm.trans H; rw [hy402]; with_reducible exact H2_) | (have H2_ := (Option.bind_some _ _).symm.trans H; with_reducible exact H2_) | with_reducible exact H | (rw [hy402]; exact H) | exact H
  have Ny402 := zz hy402
  clear hy402
  replace H := Option.bind_eq_some_iff.mp H
  obtain ⟨⟨t405, t406, t407⟩, A40, H⟩ := H
  replace H : (some (t405, t406, t407)) = some (r1, r2, r3) := H
  have A4 := zz A40
  clear A40
  simp only [Option.some.injEq, Prod.mk.injEq] at H
  obtain ⟨rfl, rfl, rfl⟩ := H
  go_enter Try.func129, Try.ntmps129
  go_wp2_with (first | ((with_reducible refine yv (f := 143) rfl ?_); refine kj (some 4) rfl rfl Try.func143 (by kernel_rfl) rfl #[.pointer (some ⟨g, 0, none⟩), .int .i64 6] rfl (by (try simp only [yw, List.map_cons, List.map_nil]); first | done | rfl) ?_; (with_reducible refine (spec_l1Cur_one.calls g s0_0 s0_1 s0_2 6 true t400 t401 w0 _ ?side1 ?side2 A2.out).mono ?_); (case side1 => repeat (with_reducible first | exact HI0.out | apply IsS97.alloc | apply IsS97.drewN | apply IsS97.drew | apply IsS97.set_1 | apply IsS97.set_2)); (case side2 => repeat (with_reducible first | exact HB.out | apply zj | apply zq | apply zw | refine zx ?_ (IsS97.ge HI0.out))); rintro e w5 ⟨rfl, hi, hb, hk⟩; refine ⟨_, rfl, ?_⟩; have n0_ := zz (KeepBut.trans (by repeat (with_reducible first | exact HK.out | apply KeepBut.set_ | apply keep_drewN | apply keep_drew | apply keep_alloc)) hk (.inl rfl)); have n1_ := zz (hb); have n2_ := zz (hi); clear HK; clear HB; clear HI0; have HK := n0_; have HB := n1_; have HI0 := n2_; clear n0_ n1_ n2_; (try clear hb); (try clear hi hk)) | ((with_reducible refine vz (N := 6) rfl ?_); refine Kd.R_lit (Kd.int .i64) _ 3 ?hg (N := 6) ?hd (xs := ([(-1), 0, 1, 1000000, 1000001] : List Int)) (inner := [.int .i64 (-1), .int .i64 0, .int .i64 1, .int .i64 1000000, .int .i64 1000001]) (ok := fun _ => True) (okp := fun _ => True) ?hr ?hp (fun _ hk => hk) trivial (Below.refl _ _) (Nat.le_refl _) (by simp) ?_; (case hd => rfl); (case hg => rfl); (case hr => first | (go_simp; done) | (go_simp; rfl)); (case hp => exact (Reps.one (show Kd.M (Kd.int .i64) _ _ _ (-1) [.int .i64 (-1)] from rfl) (Reps.one (show Kd.M (Kd.int .i64) _ _ _ 0 [.int .i64 0] from rfl) (Reps.one (show Kd.M (Kd.int .i64) _ _ _ 1 [.int .i64 1] from rfl) (Reps.one (show Kd.M (Kd.int .i64) _ _ _ 1000000 [.int .i64 1000000] from rfl) (Reps.one (show Kd.M (Kd.int .i64) _ _ _ 1000001 [.int .i64 1000001] from rfl) (Reps.none _ _))))))); intro v403 w6 ho7 hb hg_ hnew_; clear hg_ hnew_; (first | rw [← Ny402.out] at ho7 | (simp only [Int.reduceToNat] at ho7; rw [← Ny402.out] at ho7)); have n0_ := zz (Kd.R_lower ho7 (keep_size (w := w) (g := g) (row := none) (by repeat (with_reducible first | exact HK.out | apply KeepBut.set_ | apply keep_drewN | apply keep_drew | apply keep_alloc)))); have n1_ := zz (IsS97.below (by repeat (with_reducible first | exact HI0.out | apply IsS97.alloc | apply IsS97.drewN | apply IsS97.drew | apply IsS97.set_1 | apply IsS97.set_2)) hb); have n2_ := zz (KeepBut.trans (by repeat (with_reducible first | exact HK.out | apply KeepBut.set_ | apply keep_drewN | apply keep_drew | apply keep_alloc)) (KeepBut.of_below hb g none) (.inl rfl)); have n3_ := zz (zk (by repeat (with_reducible first | exact HB.out | apply zj | apply zq | apply zw | refine zx ?_ (IsS97.ge HI0.out))) hb); clear HI0; clear HK; clear HB; have HO404 := n0_; have HI0 := n1_; have HK := n2_; have HB := n3_; clear n0_ n1_ n2_ n3_; clear hb ho7; obtain ⟨Ao8, co8, eo8⟩ := vx HO404.out; subst eo8) | ((with_reducible refine yv (f := 178) rfl ?_); refine kj (some 7) rfl rfl Try.func178 (by kernel_rfl) rfl #[.pointer (some ⟨g, 0, none⟩), .slice Ao8 y402.length co8] rfl (by (try simp only [yw, List.map_cons, List.map_nil]); first | done | rfl) ?_; (with_reducible refine (spec_l1Cur_among.calls g s0_0 t400 t401 _ _ y402 t405 t406 t407 w0 _ ?side1 ?side2 ?side3 ?side4 ?side5 A4.out).mono ?_); (case side1 => repeat (with_reducible first | exact HI0.out | apply IsS97.alloc | apply IsS97.drewN | apply IsS97.drew | apply IsS97.set_1 | apply IsS97.set_2)); (case side2 => repeat (with_reducible first | exact HB.out | apply zj | apply zq | apply zw | refine zx ?_ (IsS97.ge HI0.out))); (case side3 => repeat (first | exact (vw HO404.out).2.2 | (with_reducible refine jk ?_ _) | (with_reducible refine jv ?_ _) | (with_reducible refine yz ?_))); (case side4 => exact (vw HO404.out).2.1); (case side5 => exact far_slice (IsS97.own_ne HI0.out HO404.out (by decide))); rintro e w9 ⟨rfl, hi, hb, hk⟩; refine ⟨_, rfl, ?_⟩; have n0_ := zz (vj (Kd.R_keep (IsS97.apart (show IsS97 w0 _ g s0_0 t400 t401 from by repeat (with_reducible first | exact HI0.out | apply IsS97.alloc | apply IsS97.drewN | apply IsS97.drew | apply IsS97.set_1 | apply IsS97.set_2)) (by (with_reducible repeat (first | apply jj | apply jw | apply jx)); exact HO404.out) (by decide)) hk (fun _ h => h.2)) (fun _ h => h.1)); have n1_ := zz (KeepBut.trans (by repeat (with_reducible first | exact HK.out | apply KeepBut.set_ | apply keep_drewN | apply keep_drew | apply keep_alloc)) hk (.inl rfl)); have n2_ := zz (hb); have n3_ := zz (hi); clear HO404; clear HK; clear HB; clear HI0; have HO404 := n0_; have HK := n1_; have HB := n2_; have HI0 := n3_; clear n0_ n1_ n2_ n3_; (try clear hb); (try clear hi hk)))
  go_ret
  exact ⟨by first | rfl | (simp <;> rfl) | (simp [*] <;> rfl), by repeat (with_reducible first | exact HI0.out | apply IsS97.alloc | apply IsS97.drewN | apply IsS97.drew | apply IsS97.set_1 | apply IsS97.set_2), by repeat (with_reducible first | exact HB.out | apply zj | apply zq | apply zw | refine zx ?_ (IsS97.ge HI0.out)), by repeat (with_reducible first | exact HK.out | apply KeepBut.set_ | apply keep_drewN | apply keep_drew | apply keep_alloc)⟩
 ·replace c3 := Bool.eq_false_iff.mpr c3
  subst c3
  have H1 : ((spec_l1Cur_pick.f s0_0 t400 t401 1000).bind fun bt408 => (some (wrap64 (2 + bt408.1), bt408.2.1, bt408.2.2))) = some (r1, r2, r3) := by rw [if_neg (show ¬ (false = true) by decide)] at H; exact H
  clear H
  have H := H1
  clear H1
  replace H := Option.bind_eq_some_iff.mp H
  obtain ⟨⟨t408, t409, t410⟩, A100, H⟩ := H
  replace H : (some (wrap64 (2 + t408), t409, t410)) = some (r1, r2, r3) := H
  have A10 := zz A100
  clear A100
  simp only [Option.some.injEq, Prod.mk.injEq] at H
  obtain ⟨rfl, rfl, rfl⟩ := H
  go_enter Try.func129, Try.ntmps129
  go_wp2_with (first | ((with_reducible refine yv (f := 143) rfl ?_); refine kj (some 4) rfl rfl Try.func143 (by kernel_rfl) rfl #[.pointer (some ⟨g, 0, none⟩), .int .i64 6] rfl (by (try simp only [yw, List.map_cons, List.map_nil]); first | done | rfl) ?_; (with_reducible refine (spec_l1Cur_one.calls g s0_0 s0_1 s0_2 6 false t400 t401 w0 _ ?side1 ?side2 A2.out).mono ?_); (case side1 => repeat (with_reducible first | exact HI0.out | apply IsS97.alloc | apply IsS97.drewN | apply IsS97.drew | apply IsS97.set_1 | apply IsS97.set_2)); (case side2 => repeat (with_reducible first | exact HB.out | apply zj | apply zq | apply zw | refine zx ?_ (IsS97.ge HI0.out))); rintro e w11 ⟨rfl, hi, hb, hk⟩; refine ⟨_, rfl, ?_⟩; have n0_ := zz (KeepBut.trans (by repeat (with_reducible first | exact HK.out | apply KeepBut.set_ | apply keep_drewN | apply keep_drew | apply keep_alloc)) hk (.inl rfl)); have n1_ := zz (hb); have n2_ := zz (hi); clear HK; clear HB; clear HI0; have HK := n0_; have HB := n1_; have HI0 := n2_; clear n0_ n1_ n2_; (try clear hb); (try clear hi hk)) | ((with_reducible refine yv (f := 88) rfl ?_); refine kj (some 9) rfl rfl Try.func88 (by kernel_rfl) rfl #[.pointer (some ⟨g, 0, none⟩), .int .i64 1000] rfl (by (try simp only [yw, List.map_cons, List.map_nil]); first | done | rfl) ?_; (with_reducible refine (spec_l1Cur_pick.calls g s0_0 t400 t401 1000 t408 t409 t410 w0 _ ?side1 ?side2 A10.out).mono ?_); (case side1 => repeat (with_reducible first | exact HI0.out | apply IsS97.alloc | apply IsS97.drewN | apply IsS97.drew | apply IsS97.set_1 | apply IsS97.set_2)); (case side2 => repeat (with_reducible first | exact HB.out | apply zj | apply zq | apply zw | refine zx ?_ (IsS97.ge HI0.out))); rintro e w12 ⟨rfl, hi, hb, hk⟩; refine ⟨_, rfl, ?_⟩; have n0_ := zz (KeepBut.trans (by repeat (with_reducible first | exact HK.out | apply KeepBut.set_ | apply keep_drewN | apply keep_drew | apply keep_alloc)) hk (.inl rfl)); have n1_ := zz (hb); have n2_ := zz (hi); clear HK; clear HB; clear HI0; have HK := n0_; have HB := n1_; have HI0 := n2_; clear n0_ n1_ n2_; (try clear hb); (try clear hi hk)))
  go_ret
  exact ⟨by first | rfl | (simp <;> rfl) | (simp [*] <;> rfl), by repeat (with_reducible first | exact HI0.out | apply IsS97.alloc | apply IsS97.drewN | apply IsS97.drew | apply IsS97.set_1 | apply IsS97.set_2), by repeat (with_reducible first | exact HB.out | apply zj | apply zq | apply zw | refine zx ?_ (IsS97.ge HI0.out)), by repeat (with_reducible first | exact HK.out | apply KeepBut.set_ | apply keep_drewN | apply keep_drew | apply keep_alloc)⟩
def spec_DrawValueAt.f (k : Nat) (l0 : List Int) : Option (List Int × Int × Int) := (spec_l1Cur_coefs.f k l0 0 0).bind fun bt412 => ((spec_l1Cur_argument.f l0 bt412.2.1 bt412.2.2).bind fun bt417 => ((spec_l1Cur_modulus.f l0 bt417.2.1 bt417.2.2).bind fun bt420 => (some (bt412.1, bt417.1, bt420.1))))
theorem spec_DrawValueAt.mono : ∀ a0 k, LeO (spec_DrawValueAt.f k a0) (spec_DrawValueAt.f (k + 1) a0) := by
 intro a0 k
 unfold spec_DrawValueAt.f
 repeat' with_reducible first
   | exact spec_l1Cur_coefs.mono _ _ _ _
   | exact vv _
   | exact LeO.none _
   | refine LeO.ite ?_ ?_
   | refine vk ?_ (fun _ => ?_)
set_option maxHeartbeats 8000000 in
set_option maxRecDepth 100000 in
theorem spec_DrawValueAt.calls (k : Nat) (A0 : Option Addr) (c0 : Nat) (l0 : List Int) (r1 : List Int) (r2 : Int) (r3 : Int) (w : World) (hr0 : Kd.C (Kd.int .u8) w A0 l0.length l0) (hc0 : l0.length ≤ c0) (h : spec_DrawValueAt.f k l0 = some (r1, r2, r3)) :
  Calls Try.prog 43 #[.slice A0 l0.length c0] w fun e w' => ∃ v0_ : Value, e = .returned (.tuple #[v0_, .int .i64 r2, .int .i64 r3]) ∧ Kd.R (Kd.int .i64) 3 w' w.heap.size (fun _ => True) v0_ r1 ∧ Below w.heap.size w w' := by
 have hu97 := Try.underlying97
 have HR0 := zz hr0
 have HC0 := zz hc0
 clear hr0 hc0
 have HB := zz (Below.refl w.heap.size w)
 have H : ((spec_l1Cur_coefs.f k l0 0 0).bind fun bt412 => ((spec_l1Cur_argument.f l0 bt412.2.1 bt412.2.2).bind fun bt417 => ((spec_l1Cur_modulus.f l0 bt417.2.1 bt417.2.2).bind fun bt420 => (some (bt412.1, bt417.1, bt420.1))))) = some (r1, r2, r3) := h
 clear h
 replace H := Option.bind_eq_some_iff.mp H
 obtain ⟨⟨t412, t415, t416⟩, A20, H⟩ := H
 replace H : ((spec_l1Cur_argument.f l0 t415 t416).bind fun bt417 => ((spec_l1Cur_modulus.f l0 bt417.2.1 bt417.2.2).bind fun bt420 => (some (t412, bt417.1, bt420.1)))) = some (r1, r2, r3) := H
 have A2 := zz A20
 clear A20
 replace H := Option.bind_eq_some_iff.mp H
 obtain ⟨⟨t417, t418, t419⟩, A30, H⟩ := H
 replace H : ((spec_l1Cur_modulus.f l0 t418 t419).bind fun bt420 => (some (t412, t417, bt420.1))) = some (r1, r2, r3) := H
 have A3 := zz A30
 clear A30
 replace H := Option.bind_eq_some_iff.mp H
 obtain ⟨⟨t420, t421, t422⟩, A40, H⟩ := H
 replace H : (some (t412, t417, t420)) = some (r1, r2, r3) := H
 have A4 := zz A40
 clear A40
 simp only [Option.some.injEq, Prod.mk.injEq] at H
 obtain ⟨rfl, rfl, rfl⟩ := H
 go_enter Try.func43, Try.ntmps43
 go_wp2_with (first | ((with_reducible refine vz (N := 8) rfl ?_); refine vq ?hg (N := 8) ?hd (cs := #[.slice A0 l0.length c0, .int .i64 0, .int .u64 0]) (t := 97) ?hr ?_; (case hd => rfl); (case hg => rfl); (case hr => first | (go_simp; done) | (go_simp; rfl)); intro gb411 hg w5 hbox hb; have n0_ := zz (zk (by repeat (with_reducible first | exact HB.out | apply zj | apply zq | apply zw)) hb); have n1_ := zz ((by rw [hg]; exact (zv (by repeat (with_reducible first | exact HB.out | apply zj | apply zq | apply zw))) : w.heap.size ≤ gb411)); have n2_ := zz ((by rw [hg]; exact (zv (by repeat (with_reducible first | exact HB.out | apply zj | apply zq | apply zw))) : w.heap.size ≤ gb411)); have n3_ := zz ((show IsS97 w _ gb411 l0 0 0 from ⟨A0, c0, hbox, (by rw [hg]; exact (zv (by repeat (with_reducible first | exact HB.out | apply zj | apply zq | apply zw))) : w.heap.size ≤ gb411), HR0.out⟩)); clear HB; have HB := n0_; have GW411 := n1_; have GE411 := n2_; have HI411 := n3_; clear n0_ n1_ n2_ n3_; clear hb hbox hg) | ((with_reducible refine yv (f := 127) rfl ?_); refine kj (some 10) rfl rfl Try.func127 (by kernel_rfl) rfl #[.pointer (some ⟨gb411, 0, none⟩)] rfl (by (try simp only [yw, List.map_cons, List.map_nil]); first | done | rfl) ?_; (with_reducible refine (spec_l1Cur_coefs.calls k gb411 l0 0 0 t412 t415 t416 w _ ?side1 ?side2 A2.out).mono ?_); (case side1 => repeat (with_reducible first | exact HI411.out | apply IsS97.alloc | apply IsS97.drewN | apply IsS97.drew | apply IsS97.set_1 | apply IsS97.set_2)); (case side2 => repeat (with_reducible first | exact HB.out | apply zj | apply zq | apply zw | refine zx ?_ (IsS97.ge HI411.out))); rintro e w6 ⟨v413, rfl, ho0, hi, hb, hk⟩; refine ⟨_, rfl, ?_⟩; have n0_ := zz (Kd.R_lower ho0 (zv (by repeat (with_reducible first | exact HB.out | apply zj | apply zq | apply zw | refine zx ?_ (IsS97.ge HI411.out))))); have n1_ := zz (hb); have n2_ := zz (hi); clear HB; clear HI411; have HO414 := n0_; have HB := n1_; have HI411 := n2_; clear n0_ n1_ n2_; (try clear hb); (try clear hi hk); (try clear ho0)) | ((with_reducible refine yv (f := 128) rfl ?_); refine kj (some 12) rfl rfl Try.func128 (by kernel_rfl) rfl #[.pointer (some ⟨gb411, 0, none⟩)] rfl (by (try simp only [yw, List.map_cons, List.map_nil]); first | done | rfl) ?_; (with_reducible refine (spec_l1Cur_argument.calls gb411 l0 t415 t416 t417 t418 t419 w _ ?side1 ?side2 A3.out).mono ?_); (case side1 => repeat (with_reducible first | exact HI411.out | apply IsS97.alloc | apply IsS97.drewN | apply IsS97.drew | apply IsS97.set_1 | apply IsS97.set_2)); (case side2 => repeat (with_reducible first | exact HB.out | apply zj | apply zq | apply zw | refine zx ?_ (IsS97.ge HI411.out))); rintro e w7 ⟨rfl, hi, hb, hk⟩; refine ⟨_, rfl, ?_⟩; have n0_ := zz (vj (Kd.R_keep (IsS97.apart (show IsS97 w _ gb411 l0 t415 t416 from by repeat (with_reducible first | exact HI411.out | apply IsS97.alloc | apply IsS97.drewN | apply IsS97.drew | apply IsS97.set_1 | apply IsS97.set_2)) (by (with_reducible repeat (first | apply jj | apply jw | apply jx)); exact HO414.out) (by decide)) hk (fun _ h => h.2)) (fun _ h => h.1)); have n1_ := zz (hb); have n2_ := zz (hi); clear HO414; clear HB; clear HI411; have HO414 := n0_; have HB := n1_; have HI411 := n2_; clear n0_ n1_ n2_; (try clear hb); (try clear hi hk)) | ((with_reducible refine yv (f := 129) rfl ?_); refine kj (some 14) rfl rfl Try.func129 (by kernel_rfl) rfl #[.pointer (some ⟨gb411, 0, none⟩)] rfl (by (try simp only [yw, List.map_cons, List.map_nil]); first | done | rfl) ?_; (with_reducible refine (spec_l1Cur_modulus.calls gb411 l0 t418 t419 t420 t421 t422 w _ ?side1 ?side2 A4.out).mono ?_); (case side1 => repeat (with_reducible first | exact HI411.out | apply IsS97.alloc | apply IsS97.drewN | apply IsS97.drew | apply IsS97.set_1 | apply IsS97.set_2)); (case side2 => repeat (with_reducible first | exact HB.out | apply zj | apply zq | apply zw | refine zx ?_ (IsS97.ge HI411.out))); rintro e w8 ⟨rfl, hi, hb, hk⟩; refine ⟨_, rfl, ?_⟩; have n0_ := zz (vj (Kd.R_keep (IsS97.apart (show IsS97 w _ gb411 l0 t418 t419 from by repeat (with_reducible first | exact HI411.out | apply IsS97.alloc | apply IsS97.drewN | apply IsS97.drew | apply IsS97.set_1 | apply IsS97.set_2)) (by (with_reducible repeat (first | apply jj | apply jw | apply jx)); exact HO414.out) (by decide)) hk (fun _ h => h.2)) (fun _ h => h.1)); have n1_ := zz (hb); have n2_ := zz (hi); clear HO414; clear HB; clear HI411; have HO414 := n0_; have HB := n1_; have HI411 := n2_; clear n0_ n1_ n2_; (try clear hb); (try clear hi hk)))
 go_ret3
 exact ⟨_, by first | rfl | (simp <;> rfl) | (simp [*] <;> rfl), by (with_reducible repeat (first | apply jj | apply jw | apply jx)); exact HO414.out, by repeat (with_reducible first | exact HB.out | apply zj | apply zq | apply zw | refine zx ?_ (IsS97.ge HI411.out))⟩
mutual
def laws_pSameCode.j0 : Nat → Bool → List (S109) → Int → List (S109) → Int → Option (Bool)
 | 0, _, _, _, _, _ => none
 | k + 1, x19, x424000, x424001, x425000, x425001 => if x19 = true then (some false) else (laws_pSameCode.l0 k (x424000.length : Int) 0 x424000 x424001 x425000 x425001)
def laws_pSameCode.l0 : Nat → Int → Int → List (S109) → Int → List (S109) → Int → Option (Bool)
 | 0, _, _, _, _, _, _ => none
 | k + 1, x22, x23, x424000, x424001, x425000, x425001 => if x23 < x22 then (if 0 ≤ x23 then (if x23 < (x424000.length : Int) then (if x23 < (x425000.length : Int) then (if (!(((rd_T109 x424000 x23).f0) == ((rd_T109 x425000 x23).f0)) || (!(((rd_T109 x424000 x23).f1) == ((rd_T109 x425000 x23).f1)) || (!(((rd_T109 x424000 x23).f2) == ((rd_T109 x425000 x23).f2))))) = true then (some false) else (laws_pSameCode.l0 k x22 (wrap64 (x23 + 1)) x424000 x424001 x425000 x425001)) else (none)) else (none)) else (none)) else (some true)
end
def laws_pSameCode.f (k : Nat) (l0_0 : List (S109)) (a0_1 : Int) (l1_0 : List (S109)) (a1_1 : Int) : Option (Bool) := if a0_1 = a1_1 then (laws_pSameCode.j0 k ((l0_0.length : Int) != (l1_0.length : Int)) l0_0 a0_1 l1_0 a1_1) else (laws_pSameCode.j0 k true l0_0 a0_1 l1_0 a1_1)
theorem laws_pSameCode.mono_l : ∀ k, (∀ y0 y1 y2 y3 y4, LeO (laws_pSameCode.j0 k y0 y1 y2 y3 y4) (laws_pSameCode.j0 (k + 1) y0 y1 y2 y3 y4)) ∧ (∀ y0 y1 y2 y3 y4 y5, LeO (laws_pSameCode.l0 k y0 y1 y2 y3 y4 y5) (laws_pSameCode.l0 (k + 1) y0 y1 y2 y3 y4 y5))
 | 0 => ⟨fun _ _ _ _ _ r h => by simp [laws_pSameCode.j0] at h, fun _ _ _ _ _ _ r h => by simp [laws_pSameCode.l0] at h⟩
 | k + 1 => by
  obtain ⟨ih0, ih1⟩ := laws_pSameCode.mono_l k
  refine ⟨?_, ?_⟩
  ·intro y0 y1 y2 y3 y4
   unfold laws_pSameCode.j0
   repeat' with_reducible first
   | exact ih0 _ _ _ _ _
   | exact ih1 _ _ _ _ _ _
   | exact vv _
   | exact LeO.none _
   | refine LeO.ite ?_ ?_
   | refine vk ?_ (fun _ => ?_)
  ·intro y0 y1 y2 y3 y4 y5
   unfold laws_pSameCode.l0
   repeat' with_reducible first
   | exact ih0 _ _ _ _ _
   | exact ih1 _ _ _ _ _ _
   | exact vv _
   | exact LeO.none _
   | refine LeO.ite ?_ ?_
   | refine vk ?_ (fun _ => ?_)
theorem laws_pSameCode.mono : ∀ a0 a1 a2 a3 k, LeO (laws_pSameCode.f k a0 a1 a2 a3) (laws_pSameCode.f (k + 1) a0 a1 a2 a3) := by
 intro a0 a1 a2 a3 k
 obtain ⟨ih0, ih1⟩ := laws_pSameCode.mono_l k
 unfold laws_pSameCode.f
 repeat' with_reducible first
   | exact ih0 _ _ _ _ _
   | exact ih1 _ _ _ _ _ _
   | exact vv _
   | exact LeO.none _
   | refine LeO.ite ?_ ?_
   | refine vk ?_ (fun _ => ?_)
set_option maxHeartbeats 8000000 in
set_option maxRecDepth 100000 in
theorem laws_pSameCode.calls (k : Nat) (A0_0 : Option Addr) (c0_0 : Nat) (l0_0 : List (S109)) (a0_1 : Int) (A1_0 : Option Addr) (c1_0 : Nat) (l1_0 : List (S109)) (a1_1 : Int) (r : Bool) (w : World) (hr0_0 : Kd.C k109 w A0_0 l0_0.length l0_0) (hc0_0 : l0_0.length ≤ c0_0) (hr1_0 : Kd.C k109 w A1_0 l1_0.length l1_0) (hc1_0 : l1_0.length ≤ c1_0) (h : laws_pSameCode.f k l0_0 a0_1 l1_0 a1_1 = some r) :
  Calls Try.prog 44 #[.agg #[.slice A0_0 l0_0.length c0_0, .int .i64 a0_1], .agg #[.slice A1_0 l1_0.length c1_0, .int .i64 a1_1]] w fun e w' => e = .returned (.bool r) ∧ Below w.heap.size w w' := by
 have hu32 := Try.underlying32
 have hu109 := Try.underlying109
 have HR0_0 := zz hr0_0
 have HC0_0 := zz hc0_0
 clear hr0_0 hc0_0
 have HR1_0 := zz hr1_0
 have HC1_0 := zz hc1_0
 clear hr1_0 hc1_0
 have HB := zz (Below.refl w.heap.size w)
 have H : (if a0_1 = a1_1 then (laws_pSameCode.j0 k ((l0_0.length : Int) != (l1_0.length : Int)) l0_0 a0_1 l1_0 a1_1) else (laws_pSameCode.j0 k true l0_0 a0_1 l1_0 a1_1)) = some r := h
 clear h
 have HC3 := zz H
 clear H
 go_enter Try.func44, Try.ntmps44
 go_upto_region 1 with (first | ((with_reducible refine vz (N := 2) rfl ?_); (try (refine kz (by rfl) ?_; dsimp only)); refine vq ?hg (N := 2) ?hd (cs := #[.slice A0_0 l0_0.length c0_0, .int .i64 a0_1]) (t := 32) ?hr ?_; (case hd => rfl); (case hg => rfl); (case hr => first | (go_simp; done) | (go_simp; rfl)); intro gb423 hg w4 hbox hb; have n0_ := zz (zk (by repeat (with_reducible first | exact HB.out | apply zj | apply zq | apply zw)) hb); have n1_ := zz (hbox); have n2_ := zz ((by rw [hg]; exact (zv (by repeat (with_reducible first | exact HB.out | apply zj | apply zq | apply zw))) : w.heap.size ≤ gb423)); have n3_ := zz ((by rw [hg]; exact (zv (by repeat (with_reducible first | exact HB.out | apply zj | apply zq | apply zw))) : w.heap.size ≤ gb423)); clear HB; have HB := n0_; have BK423 := n1_; have GW423 := n2_; have GE423 := n3_; clear n0_ n1_ n2_ n3_; clear hb hbox hg) | ((with_reducible refine vz (N := 3) rfl ?_); (try (refine kz (by rfl) ?_; dsimp only)); refine vq ?hg (N := 3) ?hd (cs := #[.slice A1_0 l1_0.length c1_0, .int .i64 a1_1]) (t := 32) ?hr ?_; (case hd => rfl); (case hg => rfl); (case hr => first | (go_simp; done) | (go_simp; rfl)); intro gb424 hg w5 hbox hb; have n0_ := zz (qv (g := gb423) (o := .cells #[.slice A0_0 l0_0.length c0_0, .int .i64 a0_1] 32 (0, 0)) (by (with_reducible repeat (first | refine qq ?_ _ | refine qj ?_ | refine qz ?_ _)); exact BK423.out) hb); have n1_ := zz (zk (by repeat (with_reducible first | exact HB.out | apply zj | apply zq | apply zw | refine zx ?_ GE423.out)) hb); have n2_ := zz (hbox); have n3_ := zz ((by rw [hg]; exact (zv (by repeat (with_reducible first | exact HB.out | apply zj | apply zq | apply zw | refine zx ?_ GE423.out))) : w.heap.size ≤ gb424)); have n4_ := zz ((by rw [hg]; exact (zv (by repeat (with_reducible first | exact HB.out | apply zj | apply zq | apply zw | refine zx ?_ GE423.out))) : w.heap.size ≤ gb424)); have n5_ := zz ((by rw [hg]; exact Nat.ne_of_lt (blk_lt (g := gb423) (o := .cells #[.slice A0_0 l0_0.length c0_0, .int .i64 a0_1] 32 (0, 0)) (by (with_reducible repeat (first | refine qq ?_ _ | refine qj ?_ | refine qz ?_ _)); exact BK423.out)) : gb423 ≠ gb424)); have n6_ := zz ((by rw [hg]; exact Nat.ne_of_gt (blk_lt (g := gb423) (o := .cells #[.slice A0_0 l0_0.length c0_0, .int .i64 a0_1] 32 (0, 0)) (by (with_reducible repeat (first | refine qq ?_ _ | refine qj ?_ | refine qz ?_ _)); exact BK423.out)) : gb424 ≠ gb423)); clear BK423; clear HB; have BK423 := n0_; have HB := n1_; have BK424 := n2_; have GW424 := n3_; have GE424 := n4_; have NB423_424 := n5_; have NB424_423 := n6_; clear n0_ n1_ n2_ n3_ n4_ n5_ n6_; clear hb hbox hg))
 repeat (go_quiet (first | ((with_reducible refine vz (N := 2) rfl ?_); (try (refine kz (by rfl) ?_; dsimp only)); refine vq ?hg (N := 2) ?hd (cs := #[.slice A0_0 l0_0.length c0_0, .int .i64 a0_1]) (t := 32) ?hr ?_; (case hd => rfl); (case hg => rfl); (case hr => first | (go_simp; done) | (go_simp; rfl)); intro gb423 hg w4 hbox hb; have n0_ := zz (zk (by repeat (with_reducible first | exact HB.out | apply zj | apply zq | apply zw)) hb); have n1_ := zz (hbox); have n2_ := zz ((by rw [hg]; exact (zv (by repeat (with_reducible first | exact HB.out | apply zj | apply zq | apply zw))) : w.heap.size ≤ gb423)); have n3_ := zz ((by rw [hg]; exact (zv (by repeat (with_reducible first | exact HB.out | apply zj | apply zq | apply zw))) : w.heap.size ≤ gb423)); clear HB; have HB := n0_; have BK423 := n1_; have GW423 := n2_; have GE423 := n3_; clear n0_ n1_ n2_ n3_; clear hb hbox hg) | ((with_reducible refine vz (N := 3) rfl ?_); (try (refine kz (by rfl) ?_; dsimp only)); refine vq ?hg (N := 3) ?hd (cs := #[.slice A1_0 l1_0.length c1_0, .int .i64 a1_1]) (t := 32) ?hr ?_; (case hd => rfl); (case hg => rfl); (case hr => first | (go_simp; done) | (go_simp; rfl)); intro gb424 hg w5 hbox hb; have n0_ := zz (qv (g := gb423) (o := .cells #[.slice A0_0 l0_0.length c0_0, .int .i64 a0_1] 32 (0, 0)) (by (with_reducible repeat (first | refine qq ?_ _ | refine qj ?_ | refine qz ?_ _)); exact BK423.out) hb); have n1_ := zz (zk (by repeat (with_reducible first | exact HB.out | apply zj | apply zq | apply zw | refine zx ?_ GE423.out)) hb); have n2_ := zz (hbox); have n3_ := zz ((by rw [hg]; exact (zv (by repeat (with_reducible first | exact HB.out | apply zj | apply zq | apply zw | refine zx ?_ GE423.out))) : w.heap.size ≤ gb424)); have n4_ := zz ((by rw [hg]; exact (zv (by repeat (with_reducible first | exact HB.out | apply zj | apply zq | apply zw | refine zx ?_ GE423.out))) : w.heap.size ≤ gb424)); have n5_ := zz ((by rw [hg]; exact Nat.ne_of_lt (blk_lt (g := gb423) (o := .cells #[.slice A0_0 l0_0.length c0_0, .int .i64 a0_1] 32 (0, 0)) (by (with_reducible repeat (first | refine qq ?_ _ | refine qj ?_ | refine qz ?_ _)); exact BK423.out)) : gb423 ≠ gb424)); have n6_ := zz ((by rw [hg]; exact Nat.ne_of_gt (blk_lt (g := gb423) (o := .cells #[.slice A0_0 l0_0.length c0_0, .int .i64 a0_1] 32 (0, 0)) (by (with_reducible repeat (first | refine qq ?_ _ | refine qj ?_ | refine qz ?_ _)); exact BK423.out)) : gb424 ≠ gb423)); clear BK423; clear HB; have BK423 := n0_; have HB := n1_; have BK424 := n2_; have GW424 := n3_; have GE424 := n4_; have NB423_424 := n5_; have NB424_423 := n6_; clear n0_ n1_ n2_ n3_ n4_ n5_ n6_; clear hb hbox hg)); go_upto_region 1 with (first | ((with_reducible refine vz (N := 2) rfl ?_); (try (refine kz (by rfl) ?_; dsimp only)); refine vq ?hg (N := 2) ?hd (cs := #[.slice A0_0 l0_0.length c0_0, .int .i64 a0_1]) (t := 32) ?hr ?_; (case hd => rfl); (case hg => rfl); (case hr => first | (go_simp; done) | (go_simp; rfl)); intro gb423 hg w4 hbox hb; have n0_ := zz (zk (by repeat (with_reducible first | exact HB.out | apply zj | apply zq | apply zw)) hb); have n1_ := zz (hbox); have n2_ := zz ((by rw [hg]; exact (zv (by repeat (with_reducible first | exact HB.out | apply zj | apply zq | apply zw))) : w.heap.size ≤ gb423)); have n3_ := zz ((by rw [hg]; exact (zv (by repeat (with_reducible first | exact HB.out | apply zj | apply zq | apply zw))) : w.heap.size ≤ gb423)); clear HB; have HB := n0_; have BK423 := n1_; have GW423 := n2_; have GE423 := n3_; clear n0_ n1_ n2_ n3_; clear hb hbox hg) | ((with_reducible refine vz (N := 3) rfl ?_); (try (refine kz (by rfl) ?_; dsimp only)); refine vq ?hg (N := 3) ?hd (cs := #[.slice A1_0 l1_0.length c1_0, .int .i64 a1_1]) (t := 32) ?hr ?_; (case hd => rfl); (case hg => rfl); (case hr => first | (go_simp; done) | (go_simp; rfl)); intro gb424 hg w5 hbox hb; have n0_ := zz (qv (g := gb423) (o := .cells #[.slice A0_0 l0_0.length c0_0, .int .i64 a0_1] 32 (0, 0)) (by (with_reducible repeat (first | refine qq ?_ _ | refine qj ?_ | refine qz ?_ _)); exact BK423.out) hb); have n1_ := zz (zk (by repeat (with_reducible first | exact HB.out | apply zj | apply zq | apply zw | refine zx ?_ GE423.out)) hb); have n2_ := zz (hbox); have n3_ := zz ((by rw [hg]; exact (zv (by repeat (with_reducible first | exact HB.out | apply zj | apply zq | apply zw | refine zx ?_ GE423.out))) : w.heap.size ≤ gb424)); have n4_ := zz ((by rw [hg]; exact (zv (by repeat (with_reducible first | exact HB.out | apply zj | apply zq | apply zw | refine zx ?_ GE423.out))) : w.heap.size ≤ gb424)); have n5_ := zz ((by rw [hg]; exact Nat.ne_of_lt (blk_lt (g := gb423) (o := .cells #[.slice A0_0 l0_0.length c0_0, .int .i64 a0_1] 32 (0, 0)) (by (with_reducible repeat (first | refine qq ?_ _ | refine qj ?_ | refine qz ?_ _)); exact BK423.out)) : gb423 ≠ gb424)); have n6_ := zz ((by rw [hg]; exact Nat.ne_of_gt (blk_lt (g := gb423) (o := .cells #[.slice A0_0 l0_0.length c0_0, .int .i64 a0_1] 32 (0, 0)) (by (with_reducible repeat (first | refine qq ?_ _ | refine qj ?_ | refine qz ?_ _)); exact BK423.out)) : gb424 ≠ gb423)); clear BK423; clear HB; have BK423 := n0_; have HB := n1_; have BK424 := n2_; have GW424 := n3_; have GE424 := n4_; have NB423_424 := n5_; have NB424_423 := n6_; clear n0_ n1_ n2_ n3_ n4_ n5_ n6_; clear hb hbox hg)))
 (try simp only [Act.put, jz, yq, yj])
 go_cut [19] (fun v19 wc => ∃ (kq : Nat) (x19_2 : Bool), v19 = .bool x19_2 ∧ Aside0 (laws_pSameCode.j0 kq x19_2 l0_0 a0_1 l1_0 a1_1 = some r) ∧ Aside0 (kq ≤ k) ∧ Aside0 (wc.heap[gb423]? = some (.cells #[(.slice A0_0 l0_0.length c0_0), .int .i64 a0_1] 32 (0, 0))) ∧ Aside0 (wc.heap[gb424]? = some (.cells #[(.slice A1_0 l1_0.length c1_0), .int .i64 a1_1] 32 (0, 0))) ∧ Aside0 (Below w.heap.size w wc))
 case first =>
  have H := HC3.out
  clear HC3
  by_cases c6 : a0_1 = a1_1
  ·rw [if_pos c6] at H
   have c6b0 : (a0_1 == a1_1) = true := beq_iff_eq.mpr c6
   have c6b1 : (a0_1 != a1_1) = false := bne_eq_false_iff_eq.mpr c6
   clear c6
   (first | rw [c6b0] | (simp only [kv, i32_w]; rw [c6b0]) | skip)
   have H' := zz H
   clear H
   have hnb7 := NB423_424.out
   have hnc7 := NB424_423.out
   have hcz8_0 : w5.cell? ⟨gb423, 0, none⟩ = some (.slice A0_0 l0_0.length c0_0) := (qw BK423.out 0).trans rfl
   have hcz8_1 : w5.cell? ⟨gb423, 1, none⟩ = some (.int .i64 a0_1) := (qw BK423.out 1).trans rfl
   have hfz8_0 := qx BK423.out 0
   have hfz8_1 := qx BK423.out 1
   have hcz9_0 : w5.cell? ⟨gb424, 0, none⟩ = some (.slice A1_0 l1_0.length c1_0) := (qw BK424.out 0).trans rfl
   have hcz9_1 : w5.cell? ⟨gb424, 1, none⟩ = some (.int .i64 a1_1) := (qw BK424.out 1).trans rfl
   have hfz9_0 := qx BK424.out 0
   have hfz9_1 := qx BK424.out 1
   go_wp2
   repeat (go_quiet (fail); try go_wp2)
   go_meet
   case rel => exact ⟨_, (((l0_0.length : Int) != (l1_0.length : Int))), (by first | rfl | (simp; done) | (simp [*]; done)), H', ⟨by first | omega | exact Nat.le_refl _⟩, ⟨by (with_reducible repeat (first | refine qq ?_ _ | refine qj ?_ | refine qz ?_ _)); exact BK423.out⟩, ⟨by (with_reducible repeat (first | refine qq ?_ _ | refine qj ?_ | refine qz ?_ _)); exact BK424.out⟩, ⟨by repeat (with_reducible first | exact HB.out | apply zj | apply zq | apply zw | refine zx ?_ GE423.out | refine zx ?_ GE424.out)⟩⟩
  ·rw [if_neg c6] at H
   have c6b0 : (a0_1 == a1_1) = false := beq_eq_false_iff_ne.mpr c6
   have c6b1 : (a0_1 != a1_1) = true := bne_iff_ne.mpr c6
   (first | rw [c6b0] | (simp only [kv, i32_w]; rw [c6b0]) | skip)
   have H' := zz H
   clear H
   have hnb10 := NB423_424.out
   have hnc10 := NB424_423.out
   have hcz11_0 : w5.cell? ⟨gb423, 0, none⟩ = some (.slice A0_0 l0_0.length c0_0) := (qw BK423.out 0).trans rfl
   have hcz11_1 : w5.cell? ⟨gb423, 1, none⟩ = some (.int .i64 a0_1) := (qw BK423.out 1).trans rfl
   have hfz11_0 := qx BK423.out 0
   have hfz11_1 := qx BK423.out 1
   have hcz12_0 : w5.cell? ⟨gb424, 0, none⟩ = some (.slice A1_0 l1_0.length c1_0) := (qw BK424.out 0).trans rfl
   have hcz12_1 : w5.cell? ⟨gb424, 1, none⟩ = some (.int .i64 a1_1) := (qw BK424.out 1).trans rfl
   have hfz12_0 := qx BK424.out 0
   have hfz12_1 := qx BK424.out 1
   go_wp2
   repeat (go_quiet (fail); try go_wp2)
   go_meet
   case rel => exact ⟨_, (true), (by first | rfl | (simp; done) | (simp [*]; done)), H', ⟨by first | omega | exact Nat.le_refl _⟩, ⟨by (with_reducible repeat (first | refine qq ?_ _ | refine qj ?_ | refine qz ?_ _)); exact BK423.out⟩, ⟨by (with_reducible repeat (first | refine qq ?_ _ | refine qj ?_ | refine qz ?_ _)); exact BK424.out⟩, ⟨by repeat (with_reducible first | exact HB.out | apply zj | apply zq | apply zw | refine zx ?_ GE423.out | refine zx ?_ GE424.out)⟩⟩
 case rest =>
  clear HC3
  try clear c1
  try clear p2
  try clear c4
  try clear c6
  try clear c6b0
  try clear c6b1
  try clear c7
  try clear c10
  try clear hcz11_0
  try clear hcz11_1
  try clear hcz12_0
  try clear hcz12_1
  try clear hcz8_0
  try clear hcz8_1
  try clear hcz9_0
  try clear hcz9_1
  try clear hfz11_0
  try clear hfz11_1
  try clear hfz12_0
  try clear hfz12_1
  try clear hfz8_0
  try clear hfz8_1
  try clear hfz9_0
  try clear hfz9_1
  obtain ⟨kq, x19_2, rfl, HA, HJ2, BK423, BK424, HB⟩ := hcut
  cases kq with
  | zero => exact absurd HA.out (by simp [laws_pSameCode.j0])
  | succ kj2 =>
   have H := HA.out
   clear HA
   simp only [laws_pSameCode.j0] at H
   by_cases c13 : x19_2 = true
   ·subst c13
    have H1 : (some false) = some r := by rw [if_pos rfl] at H; exact H
    clear H
    have H := H1
    clear H1
    obtain rfl := Option.some.inj H
    go_wp2
    repeat (go_quiet (fail); try go_wp2)
    go_ret
    exact ⟨by first | rfl | (simp <;> rfl) | (simp [*] <;> rfl), by repeat (with_reducible first | exact HB.out | apply zj | apply zq | apply zw | refine zx ?_ GE423.out | refine zx ?_ GE424.out)⟩
   ·replace c13 := Bool.eq_false_iff.mpr c13
    subst c13
    have H1 : (laws_pSameCode.l0 kj2 (l0_0.length : Int) 0 l0_0 a0_1 l1_0 a1_1) = some r := by rw [if_neg (show ¬ (false = true) by decide)] at H; exact H
    clear H
    have H := H1
    clear H1
    have H' := zz H
    clear H
    have hnb14 := NB423_424.out
    have hnc14 := NB424_423.out
    have hcz15_0 : wc.cell? ⟨gb423, 0, none⟩ = some (.slice A0_0 l0_0.length c0_0) := (qw BK423.out 0).trans rfl
    have hcz15_1 : wc.cell? ⟨gb423, 1, none⟩ = some (.int .i64 a0_1) := (qw BK423.out 1).trans rfl
    have hfz15_0 := qx BK423.out 0
    have hfz15_1 := qx BK423.out 1
    go_wp2
    repeat (go_quiet (fail); try go_wp2)
    go_loopg [23] kj2 (fun kq v23 w' => ∃ (x23_2 : Int), v23 = .int .i64 x23_2 ∧ Aside0 (laws_pSameCode.l0 kq (l0_0.length : Int) x23_2 l0_0 a0_1 l1_0 a1_1 = some r) ∧ Aside0 (kq ≤ kj2) ∧ Aside0 (w'.heap[gb423]? = some (.cells #[(.slice A0_0 l0_0.length c0_0), .int .i64 a0_1] 32 (0, 0))) ∧ Aside0 (w'.heap[gb424]? = some (.cells #[(.slice A1_0 l1_0.length c1_0), .int .i64 a1_1] 32 (0, 0))) ∧ Aside0 (Below w.heap.size w w'))
    case atStart => exact ⟨(0), (by first | rfl | (simp; done) | (simp [*]; done)), H', ⟨Nat.le_refl _⟩, ⟨by (with_reducible repeat (first | refine qq ?_ _ | refine qj ?_ | refine qz ?_ _)); exact BK423.out⟩, ⟨by (with_reducible repeat (first | refine qq ?_ _ | refine qj ?_ | refine qz ?_ _)); exact BK424.out⟩, ⟨by repeat (with_reducible first | exact HB.out | apply zj | apply zq | apply zw | refine zx ?_ GE423.out | refine zx ?_ GE424.out)⟩⟩
    case round =>
     clear H'
     try clear c1
     try clear p2
     try clear c4
     try clear c6
     try clear c6b0
     try clear c6b1
     try clear c7
     try clear c10
     try clear c13
     try clear c14
     try clear hcz11_0
     try clear hcz11_1
     try clear hcz12_0
     try clear hcz12_1
     try clear hcz15_0
     try clear hcz15_1
     try clear hcz8_0
     try clear hcz8_1
     try clear hcz9_0
     try clear hcz9_1
     try clear hfz11_0
     try clear hfz11_1
     try clear hfz12_0
     try clear hfz12_1
     try clear hfz15_0
     try clear hfz15_1
     try clear hfz8_0
     try clear hfz8_1
     try clear hfz9_0
     try clear hfz9_1
     try clear p2
     obtain ⟨x23_2, rfl, HA, HK2, BK423, BK424, HB⟩ := hrel
     cases gk with
     | zero => exact absurd HA.out (by simp [laws_pSameCode.l0])
     | succ k2 =>
      have H := HA.out
      clear HA
      simp only [laws_pSameCode.l0] at H
      by_cases c16 : x23_2 < (l0_0.length : Int)
      ·rw [if_pos c16] at H
       have c16b0 : decide (x23_2 < (l0_0.length : Int)) = true := decide_eq_true c16
       clear c16
       by_cases c17 : 0 ≤ x23_2
       ·rw [if_pos c17] at H
        have c17b0 : decide (0 ≤ x23_2) = true := decide_eq_true c17
        clear c17
        by_cases c18 : x23_2 < (l0_0.length : Int)
        ·rw [if_pos c18] at H
         have c18b0 : decide (x23_2 < (l0_0.length : Int)) = true := decide_eq_true c18
         clear c18
         by_cases c19 : x23_2 < (l1_0.length : Int)
         ·rw [if_pos c19] at H
          have c19b0 : decide (x23_2 < (l1_0.length : Int)) = true := decide_eq_true c19
          clear c19
          by_cases c20 : (!(((rd_T109 l0_0 x23_2).f0) == ((rd_T109 l1_0 x23_2).f0)) || (!(((rd_T109 l0_0 x23_2).f1) == ((rd_T109 l1_0 x23_2).f1)) || (!(((rd_T109 l0_0 x23_2).f2) == ((rd_T109 l1_0 x23_2).f2))))) = true
          ·rw [if_pos c20] at H
           have c20b0 : (!(((rd_T109 l0_0 x23_2).f0) == ((rd_T109 l1_0 x23_2).f0)) || (!(((rd_T109 l0_0 x23_2).f1) == ((rd_T109 l1_0 x23_2).f1)) || (!(((rd_T109 l0_0 x23_2).f2) == ((rd_T109 l1_0 x23_2).f2))))) = true := c20
           clear c20
           obtain rfl := Option.some.inj H
           have hnb21 := NB423_424.out
           have hnc21 := NB424_423.out
           have hcz22_0 : wr.cell? ⟨gb423, 0, none⟩ = some (.slice A0_0 l0_0.length c0_0) := (qw BK423.out 0).trans rfl
           have hcz22_1 : wr.cell? ⟨gb423, 1, none⟩ = some (.int .i64 a0_1) := (qw BK423.out 1).trans rfl
           have hfz22_0 := qx BK423.out 0
           have hfz22_1 := qx BK423.out 1
           have p425 : 0 ≤ (x23_2 : Int) := of_decide_eq_true (by with_reducible assumption)
           have q425 : x23_2 < (l0_0.length : Int) := of_decide_eq_true (by with_reducible assumption)
           obtain ⟨ad425, e425, hx425_0, hx425_1, hx425_2⟩ := at_T109 HR0_0.out x23_2 p425 q425
           cases e425
           replace hx425_0 := (HB.out.cell (jq w _ hx425_0)).trans hx425_0
           replace hx425_1 := (HB.out.cell (jq w _ hx425_1)).trans hx425_1
           replace hx425_2 := (HB.out.cell (jq w _ hx425_2)).trans hx425_2
           replace p425 := eq_true p425
           replace q425 := eq_true q425
           have hcz23_0 : wr.cell? ⟨gb424, 0, none⟩ = some (.slice A1_0 l1_0.length c1_0) := (qw BK424.out 0).trans rfl
           have hcz23_1 : wr.cell? ⟨gb424, 1, none⟩ = some (.int .i64 a1_1) := (qw BK424.out 1).trans rfl
           have hfz23_0 := qx BK424.out 0
           have hfz23_1 := qx BK424.out 1
           have p426 : 0 ≤ (x23_2 : Int) := of_decide_eq_true (by with_reducible assumption)
           have q426 : x23_2 < (l1_0.length : Int) := of_decide_eq_true (by with_reducible assumption)
           obtain ⟨ad426, e426, hx426_0, hx426_1, hx426_2⟩ := at_T109 HR1_0.out x23_2 p426 q426
           cases e426
           replace hx426_0 := (HB.out.cell (jq w _ hx426_0)).trans hx426_0
           replace hx426_1 := (HB.out.cell (jq w _ hx426_1)).trans hx426_1
           replace hx426_2 := (HB.out.cell (jq w _ hx426_2)).trans hx426_2
           replace p426 := eq_true p426
           replace q426 := eq_true q426
           go_wp2
           repeat (go_quiet (fail); try go_wp2)
           go_ret
           exact ⟨by first | rfl | (simp <;> rfl) | (simp [*] <;> rfl), by repeat (with_reducible first | exact HB.out | apply zj | apply zq | apply zw | refine zx ?_ GE423.out | refine zx ?_ GE424.out)⟩
          ·rw [if_neg c20] at H
           have c20b0 : (!(((rd_T109 l0_0 x23_2).f0) == ((rd_T109 l1_0 x23_2).f0)) || (!(((rd_T109 l0_0 x23_2).f1) == ((rd_T109 l1_0 x23_2).f1)) || (!(((rd_T109 l0_0 x23_2).f2) == ((rd_T109 l1_0 x23_2).f2))))) = false := by simpa using c20
           clear c20
           have H' := zz H
           clear H
           have hnb24 := NB423_424.out
           have hnc24 := NB424_423.out
           have hcz25_0 : wr.cell? ⟨gb423, 0, none⟩ = some (.slice A0_0 l0_0.length c0_0) := (qw BK423.out 0).trans rfl
           have hcz25_1 : wr.cell? ⟨gb423, 1, none⟩ = some (.int .i64 a0_1) := (qw BK423.out 1).trans rfl
           have hfz25_0 := qx BK423.out 0
           have hfz25_1 := qx BK423.out 1
           have p425 : 0 ≤ (x23_2 : Int) := of_decide_eq_true (by with_reducible assumption)
           have q425 : x23_2 < (l0_0.length : Int) := of_decide_eq_true (by with_reducible assumption)
           obtain ⟨ad425, e425, hx425_0, hx425_1, hx425_2⟩ := at_T109 HR0_0.out x23_2 p425 q425
           cases e425
           replace hx425_0 := (HB.out.cell (jq w _ hx425_0)).trans hx425_0
           replace hx425_1 := (HB.out.cell (jq w _ hx425_1)).trans hx425_1
           replace hx425_2 := (HB.out.cell (jq w _ hx425_2)).trans hx425_2
           replace p425 := eq_true p425
           replace q425 := eq_true q425
           have hcz26_0 : wr.cell? ⟨gb424, 0, none⟩ = some (.slice A1_0 l1_0.length c1_0) := (qw BK424.out 0).trans rfl
           have hcz26_1 : wr.cell? ⟨gb424, 1, none⟩ = some (.int .i64 a1_1) := (qw BK424.out 1).trans rfl
           have hfz26_0 := qx BK424.out 0
           have hfz26_1 := qx BK424.out 1
           have p426 : 0 ≤ (x23_2 : Int) := of_decide_eq_true (by with_reducible assumption)
           have q426 : x23_2 < (l1_0.length : Int) := of_decide_eq_true (by with_reducible assumption)
           obtain ⟨ad426, e426, hx426_0, hx426_1, hx426_2⟩ := at_T109 HR1_0.out x23_2 p426 q426
           cases e426
           replace hx426_0 := (HB.out.cell (jq w _ hx426_0)).trans hx426_0
           replace hx426_1 := (HB.out.cell (jq w _ hx426_1)).trans hx426_1
           replace hx426_2 := (HB.out.cell (jq w _ hx426_2)).trans hx426_2
           replace p426 := eq_true p426
           replace q426 := eq_true q426
           go_wp2
           repeat (go_quiet (fail); try go_wp2)
           go_roundg k2
           case measure => have := HJ2.out; have := HK2.out; omega
           case rel => exact ⟨(wrap64 (x23_2 + 1)), (by first | rfl | (simp; done) | (simp [*]; done)), H', ⟨by have := HJ2.out; have := HK2.out; omega⟩, ⟨by (with_reducible repeat (first | refine qq ?_ _ | refine qj ?_ | refine qz ?_ _)); exact BK423.out⟩, ⟨by (with_reducible repeat (first | refine qq ?_ _ | refine qj ?_ | refine qz ?_ _)); exact BK424.out⟩, ⟨by repeat (with_reducible first | exact HB.out | apply zj | apply zq | apply zw | refine zx ?_ GE423.out | refine zx ?_ GE424.out)⟩⟩
         ·rw [if_neg c19] at H
          exact absurd H (by simp)
        ·rw [if_neg c18] at H
         exact absurd H (by simp)
       ·rw [if_neg c17] at H
        exact absurd H (by simp)
      ·rw [if_neg c16] at H
       have c16b0 : decide (x23_2 < (l0_0.length : Int)) = false := decide_eq_false c16
       clear c16
       obtain rfl := Option.some.inj H
       go_wp2
       repeat (go_quiet (fail); try go_wp2)
       go_ret
       exact ⟨by first | rfl | (simp <;> rfl) | (simp [*] <;> rfl), by repeat (with_reducible first | exact HB.out | apply zj | apply zq | apply zw | refine zx ?_ GE423.out | refine zx ?_ GE424.out)⟩
def spec_HornerCode.l0 : Nat → List Int → Int → Int → List (S109) → Int → Option ((List (S109)) × Int × Bool)
 | 0, _, _, _, _, _ => none
 | k + 1, x0, x5, x6, x436000, x436001 => if x6 ≥ 0 then ((spec_poAdd.f x436000 x436001 3 x5 0).bind fun bt436 => (if 0 ≤ x6 then (if x6 < (x0.length : Int) then ((spec_poAdd.f bt436.1 bt436.2.1 0 (rd x0 x6) 0).bind fun bt442 => ((spec_poAdd.f bt442.1 bt442.2.1 1 bt436.2.2 bt442.2.2).bind fun bt447 => (spec_HornerCode.l0 k x0 bt447.2.2 (wrap64 (x6 - 1)) bt447.1 bt447.2.1))) else (none)) else (none))) else ((spec_poIf.f k x436000 x5).bind fun bt452 => (some (bt452.1, bt452.2.1, bt452.2.2)))
def spec_HornerCode.f (k : Nat) (l0 : List Int) : Option ((List (S109)) × Int × Bool) := (spec_poCoefs.f k l0).bind fun t428 => (if t428 = true then (if 0 ≤ (wrap64 ((l0.length : Int) - 1)) then (if (wrap64 ((l0.length : Int) - 1)) < (l0.length : Int) then ((spec_poAdd.f ([] : List (S109)) 0 0 (rd l0 (wrap64 ((l0.length : Int) - 1))) 0).bind fun bt430 => (spec_HornerCode.l0 k l0 bt430.2.2 (wrap64 ((l0.length : Int) - 2)) bt430.1 bt430.2.1)) else (none)) else (none)) else (some (([] : List (S109)), 0, false)))
theorem spec_HornerCode.mono_l : ∀ k, (∀ y0 y1 y2 y3 y4, LeO (spec_HornerCode.l0 k y0 y1 y2 y3 y4) (spec_HornerCode.l0 (k + 1) y0 y1 y2 y3 y4))
 | 0 => fun _ _ _ _ _ r h => by simp [spec_HornerCode.l0] at h
 | k + 1 => by
  have ih0 := spec_HornerCode.mono_l k
  ·intro y0 y1 y2 y3 y4
   unfold spec_HornerCode.l0
   repeat' with_reducible first
   | exact ih0 _ _ _ _ _
   | exact spec_poCoefs.mono _ _
   | exact spec_poIf.mono _ _ _
   | exact vv _
   | exact LeO.none _
   | refine LeO.ite ?_ ?_
   | refine vk ?_ (fun _ => ?_)
theorem spec_HornerCode.mono : ∀ a0 k, LeO (spec_HornerCode.f k a0) (spec_HornerCode.f (k + 1) a0) := by
 intro a0 k
 have ih0 := spec_HornerCode.mono_l k
 unfold spec_HornerCode.f
 repeat' with_reducible first
   | exact ih0 _ _ _ _ _
   | exact spec_poCoefs.mono _ _
   | exact spec_poIf.mono _ _ _
   | exact vv _
   | exact LeO.none _
   | refine LeO.ite ?_ ?_
   | refine vk ?_ (fun _ => ?_)
def spec_HornerCode.T9 : Bool × List (List Nat × List Nat) := (true, [([], []), ([], []), ([], []), ([1, 2], [1, 2]), ([3], [3]), ([0, 4], [0, 4]), ([5], [5]), ([6], [6]), ([6], [6]), ([7, 5, 0, 1, 2, 3, 4, 5, 6, 7], [7]), ([8, 9, 0, 1, 2, 3, 4, 5, 6, 7, 8, 9], [8])])
def spec_HornerCode.B9 : List Nat := [0, 0, 0, 6, 14, 31, 63, 127, 127, 255, 1023]
theorem spec_HornerCode.tab9 : rtab .any (opsOf Try.f45 9) = spec_HornerCode.T9 := by kernel_rfl
theorem spec_HornerCode.bits9 : waitsOk spec_HornerCode.T9.2 spec_HornerCode.B9 = true := by kernel_rfl
set_option maxHeartbeats 8000000 in
set_option maxRecDepth 100000 in
theorem spec_HornerCode.calls (k : Nat) (A0 : Option Addr) (c0 : Nat) (l0 : List Int) (r1 : List (S109)) (r2 : Int) (r3 : Bool) (w : World) (hr0 : Kd.C (Kd.int .i64) w A0 l0.length l0) (hc0 : l0.length ≤ c0) (h : spec_HornerCode.f k l0 = some (r1, r2, r3)) :
  Calls Try.prog 45 #[.slice A0 l0.length c0] w fun e w' => ∃ v0_ : Value, e = .returned (.tuple #[.agg #[v0_, .int .i64 r2], .bool r3]) ∧ Kd.R k109 109 w' w.heap.size (fun _ => True) v0_ r1 ∧ Below w.heap.size w w' := by
 have hu32 := Try.underlying32
 have HR0 := zz hr0
 have HC0 := zz hc0
 clear hr0 hc0
 have HB := zz (Below.refl w.heap.size w)
 have H : ((spec_poCoefs.f k l0).bind fun t428 => (if t428 = true then (if 0 ≤ (wrap64 ((l0.length : Int) - 1)) then (if (wrap64 ((l0.length : Int) - 1)) < (l0.length : Int) then ((spec_poAdd.f ([] : List (S109)) 0 0 (rd l0 (wrap64 ((l0.length : Int) - 1))) 0).bind fun bt430 => (spec_HornerCode.l0 k l0 bt430.2.2 (wrap64 ((l0.length : Int) - 2)) bt430.1 bt430.2.1)) else (none)) else (none)) else (some (([] : List (S109)), 0, false)))) = some (r1, r2, r3) := h
 clear h
 replace H := Option.bind_eq_some_iff.mp H
 obtain ⟨t428, A20, H⟩ := H
 replace H : (if t428 = true then (if 0 ≤ (wrap64 ((l0.length : Int) - 1)) then (if (wrap64 ((l0.length : Int) - 1)) < (l0.length : Int) then ((spec_poAdd.f ([] : List (S109)) 0 0 (rd l0 (wrap64 ((l0.length : Int) - 1))) 0).bind fun bt430 => (spec_HornerCode.l0 k l0 bt430.2.2 (wrap64 ((l0.length : Int) - 2)) bt430.1 bt430.2.1)) else (none)) else (none)) else (some (([] : List (S109)), 0, false))) = some (r1, r2, r3) := H
 have A2 := zz A20
 clear A20
 by_cases c3 : t428 = true
 ·subst c3
  have H1 : (if 0 ≤ (wrap64 ((l0.length : Int) - 1)) then (if (wrap64 ((l0.length : Int) - 1)) < (l0.length : Int) then ((spec_poAdd.f ([] : List (S109)) 0 0 (rd l0 (wrap64 ((l0.length : Int) - 1))) 0).bind fun bt430 => (spec_HornerCode.l0 k l0 bt430.2.2 (wrap64 ((l0.length : Int) - 2)) bt430.1 bt430.2.1)) else (none)) else (none)) = some (r1, r2, r3) := by rw [if_pos rfl] at H; exact H
  clear H
  have H := H1
  clear H1
  obtain ⟨ji4, hji4⟩ : ∃ j_ : Int, (wrap64 ((l0.length : Int) - 1)) = j_ := ⟨_, rfl⟩
  replace H : (if 0 ≤ (ji4) then (if (ji4) < (l0.length : Int) then ((spec_poAdd.f ([] : List (S109)) 0 0 (rd l0 (ji4)) 0).bind fun bt430 => (spec_HornerCode.l0 k l0 bt430.2.2 (wrap64 ((l0.length : Int) - 2)) bt430.1 bt430.2.1)) else (none)) else (none)) = some (r1, r2, r3) := by first | (rw [hji4] at H; exact H) | (simp only [hji4] at H ⊢; exact H)
  (try rw [hji4] at A2)
  have hji4w : (IntKind.i64.wrap ((l0.length : Int) - 1)) = ji4 := (kv _).trans hji4
  by_cases c5 : 0 ≤ (ji4)
  ·rw [if_pos c5] at H
   have c5b0 : decide (0 ≤ (ji4)) = true := decide_eq_true c5
   clear c5
   by_cases c6 : (ji4) < (l0.length : Int)
   ·rw [if_pos c6] at H
    have c6b0 : decide ((ji4) < (l0.length : Int)) = true := decide_eq_true c6
    clear c6
    replace H := Option.bind_eq_some_iff.mp H
    obtain ⟨⟨t430, t433, t434⟩, A70, H⟩ := H
    replace H : (spec_HornerCode.l0 k l0 t434 (wrap64 ((l0.length : Int) - 2)) t430 t433) = some (r1, r2, r3) := H
    have A7 := zz A70
    clear A70
    have H' := zz H
    clear H
    go_enter Try.func45, Try.ntmps45
    go_wp2_with (first | ((with_reducible refine vz (N := 2) rfl ?_); refine vq ?hg (N := 2) ?hd (cs := #[.slice none 0 0, .int .i64 0]) (t := 32) ?hr ?_; (case hd => rfl); (case hg => rfl); (case hr => first | (go_simp; done) | (go_simp; rfl)); intro gb427 hg w8 hbox hb; have n0_ := zz (zk (by repeat (with_reducible first | exact HB.out | apply zj | apply zq | apply zw)) hb); have n1_ := zz (hbox); have n2_ := zz ((by rw [hg]; exact (zv (by repeat (with_reducible first | exact HB.out | apply zj | apply zq | apply zw))) : w.heap.size ≤ gb427)); have n3_ := zz ((by rw [hg]; exact (zv (by repeat (with_reducible first | exact HB.out | apply zj | apply zq | apply zw))) : w.heap.size ≤ gb427)); clear HB; have HB := n0_; have BK427 := n1_; have GW427 := n2_; have GE427 := n3_; clear n0_ n1_ n2_ n3_; clear hb hbox hg) | ((with_reducible refine yv (f := 104) rfl ?_); refine kj (some 10) rfl rfl Try.func104 (by kernel_rfl) rfl #[.slice A0 l0.length c0] rfl (by (try simp only [yw, List.map_cons, List.map_nil]); first | done | rfl) ?_; (with_reducible refine (spec_poCoefs.calls k _ _ l0 true _ ?side1 ?side2 A2.out).mono ?_); (case side1 => repeat (first | exact (Kd.C_below HR0.out HB.out) | (with_reducible refine jk ?_ _) | (with_reducible refine jv ?_ _) | (with_reducible refine yz ?_))); (case side2 => exact HC0.out); rintro e w' ⟨rfl, ⟨nd, rfl⟩⟩; refine ⟨_, rfl, ?_⟩; (try (rw [drewN_self w8]; generalize hq_ : World.drewN w8 _ = w8; have n0_ : Aside0 (w8.heap[gb427]? = some (.cells #[.slice none 0 0, .int .i64 0] 32 (0, 0))) := ⟨by rw [← hq_]; exact (by (with_reducible repeat (first | refine qq ?_ _ | refine qj ?_ | refine qz ?_ _)); exact BK427.out)⟩; have n1_ : Aside0 (Below w.heap.size w w8) := ⟨by rw [← hq_]; exact (by repeat (with_reducible first | exact HB.out | apply zj | apply zq | apply zw | refine zx ?_ GE427.out))⟩; clear BK427 HB hq_; have BK427 := n0_; have HB := n1_; clear n0_ n1_)); have p429 : 0 ≤ ((ji4) : Int) := of_decide_eq_true (by with_reducible assumption); have q429 : (ji4) < (l0.length : Int) := of_decide_eq_true (by with_reducible assumption); obtain ⟨ad429, e429, hx429_0⟩ := Kd.at_int HR0.out (ji4) p429 q429; cases e429; replace hx429_0 := (HB.out.cell (jq w _ hx429_0)).trans hx429_0; replace p429 := eq_true p429; replace q429 := eq_true q429) | ((with_reducible refine yv (f := 130) rfl ?_); refine kj (some 21) rfl rfl Try.func130 (by kernel_rfl) rfl #[.agg #[.slice none 0 0, .int .i64 0], .int .i64 0, .int .i64 (rd l0 (ji4)), .int .i64 0] rfl (by (try simp only [yw, List.map_cons, List.map_nil]); first | done | (simp only [hji4]; rfl) | rfl | (simp only [yx, yk]; rfl)) ?_; (refine (spec_poAdd.calls _ _ ([] : List (S109)) 0 0 (rd l0 (ji4)) 0 t430 t433 t434 _ ?side1 ?side2 A7.out).mono ?_); (case side1 => exact Kd.C_nil _ _); (case side2 => exact Nat.le_refl _); rintro e w9 ⟨v431, rfl, ho0, hb⟩; refine ⟨_, rfl, ?_⟩; have n0_ := zz (Kd.R_lower ho0 (zv (by repeat (with_reducible first | exact HB.out | apply zj | apply zq | apply zw | refine zx ?_ GE427.out)))); have n1_ := zz (qv (g := gb427) (o := .cells #[.slice none 0 0, .int .i64 0] 32 (0, 0)) (by (with_reducible repeat (first | refine qq ?_ _ | refine qj ?_ | refine qz ?_ _)); exact BK427.out) hb); have n2_ := zz (zk (by repeat (with_reducible first | exact HB.out | apply zj | apply zq | apply zw | refine zx ?_ GE427.out)) hb); clear BK427; clear HB; have HO432 := n0_; have BK427 := n1_; have HB := n2_; clear n0_ n1_ n2_; (try clear hb); (try clear hi hk); (try clear ho0)) | ((with_reducible refine vz (N := 4) rfl ?_); refine vq ?hg (N := 4) ?hd (cs := #[.slice none 0 0, .int .i64 0]) (t := 32) ?hr ?_; (case hd => rfl); (case hg => rfl); (case hr => first | (go_simp; done) | (go_simp; rfl)); intro gb435 hg w10 hbox hb; have n0_ := zz (Kd.R_below (by (with_reducible repeat (first | apply jj | apply jw | apply jx)); exact HO432.out) hb); have n1_ := zz (qv (g := gb427) (o := .cells #[.slice none 0 0, .int .i64 0] 32 (0, 0)) (by (with_reducible repeat (first | refine qq ?_ _ | refine qj ?_ | refine qz ?_ _)); exact BK427.out) hb); have n2_ := zz (zk (by repeat (with_reducible first | exact HB.out | apply zj | apply zq | apply zw | refine zx ?_ GE427.out)) hb); have n3_ := zz (hbox); have n4_ := zz ((by rw [hg]; exact (zv (by repeat (with_reducible first | exact HB.out | apply zj | apply zq | apply zw | refine zx ?_ GE427.out))) : w.heap.size ≤ gb435)); have n5_ := zz ((by rw [hg]; exact (zv (by repeat (with_reducible first | exact HB.out | apply zj | apply zq | apply zw | refine zx ?_ GE427.out))) : w.heap.size ≤ gb435)); have n6_ := zz ((by rw [hg]; exact Nat.ne_of_lt (blk_lt (g := gb427) (o := .cells #[.slice none 0 0, .int .i64 0] 32 (0, 0)) (by (with_reducible repeat (first | refine qq ?_ _ | refine qj ?_ | refine qz ?_ _)); exact BK427.out)) : gb427 ≠ gb435)); have n7_ := zz ((by rw [hg]; exact Nat.ne_of_gt (blk_lt (g := gb427) (o := .cells #[.slice none 0 0, .int .i64 0] 32 (0, 0)) (by (with_reducible repeat (first | refine qq ?_ _ | refine qj ?_ | refine qz ?_ _)); exact BK427.out)) : gb435 ≠ gb427)); clear HO432; clear BK427; clear HB; have HO432 := n0_; have BK427 := n1_; have HB := n2_; have BK435 := n3_; have GW435 := n4_; have GE435 := n5_; have NB427_435 := n6_; have NB435_427 := n7_; clear n0_ n1_ n2_ n3_ n4_ n5_ n6_ n7_; clear hb hbox hg; obtain ⟨Ao11, co11, eo11⟩ := vx HO432.out; subst eo11; have hnb12 := NB435_427.out; have hnc12 := NB427_435.out; have hcz13_0 : w10.cell? ⟨gb435, 0, none⟩ = some (.slice none 0 0) := (qw BK435.out 0).trans rfl; have hcz13_1 : w10.cell? ⟨gb435, 1, none⟩ = some (.int .i64 0) := (qw BK435.out 1).trans rfl; have hfz13_0 := qx BK435.out 0; have hfz13_1 := qx BK435.out 1))
    go_loopg [5, 6] k (fun kq v5 v6 w' => ∃ (x5_1 : Int) (x6_1 : Int) (x436000_1 : List (S109)) (x436001_1 : Int) (u436000 : Value), v5 = .int .i64 x5_1 ∧ v6 = .int .i64 x6_1 ∧ Aside0 (spec_HornerCode.l0 kq l0 x5_1 x6_1 x436000_1 x436001_1 = some (r1, r2, r3)) ∧ Aside0 (kq ≤ k) ∧ Aside0 (Kd.R k109 109 w' w.heap.size (fun _ => True) u436000 x436000_1) ∧ Aside0 (w'.heap[gb427]? = some (.cells #[(.slice none 0 0), .int .i64 0] 32 (0, 0))) ∧ Aside0 (w'.heap[gb435]? = some (.cells #[u436000, .int .i64 x436001_1] 32 (0, 0))) ∧ Aside0 (Below w.heap.size w w'))
    case atStart => exact ⟨(t434), (wrap64 ((l0.length : Int) - 2)), (t430), (t433), (.slice Ao11 t430.length co11), (by first | rfl | (simp; done) | (simp [*]; done)), (by first | rfl | (simp; done) | (simp [*]; done)), H', ⟨Nat.le_refl _⟩, ⟨by (with_reducible repeat (first | apply jj | apply jw | apply jx)); exact vj (Kd.R_far (p := ⟨gb435, 1, none⟩) (Kd.R_far (p := ⟨gb435, 0, none⟩) (Kd.R_types HO432.out BK435.out (by decide)) (fun _ hk => hk.2) (.slice Ao11 t430.length co11)) (fun _ hk => hk.2) (.int .i64 t433)) (fun _ hk => trivial)⟩, ⟨by (with_reducible repeat (first | refine qq ?_ _ | refine qj ?_ | refine qz ?_ _)); refine blk_far ?_ NB427_435.out _; (with_reducible repeat (first | refine qq ?_ _ | refine qj ?_ | refine qz ?_ _)); refine blk_far ?_ NB427_435.out _; (with_reducible repeat (first | refine qq ?_ _ | refine qj ?_ | refine qz ?_ _)); exact BK427.out⟩, ⟨by (with_reducible repeat (first | refine qq ?_ _ | refine qj ?_ | refine qz ?_ _)); refine qk (cs := #[.slice Ao11 t430.length co11, .int .i64 0]) ?_ 1 _ rfl; (with_reducible repeat (first | refine qq ?_ _ | refine qj ?_ | refine qz ?_ _)); refine qk (cs := #[.slice none 0 0, .int .i64 0]) ?_ 0 _ rfl; (with_reducible repeat (first | refine qq ?_ _ | refine qj ?_ | refine qz ?_ _)); exact BK435.out⟩, ⟨by repeat (with_reducible first | exact HB.out | apply zj | apply zq | apply zw | refine zx ?_ GE427.out | refine zx ?_ GE435.out)⟩⟩
    case round =>
     clear H'
     try clear c1
     try clear p2
     try clear c3
     try clear c4
     try clear p4
     try clear q4
     try clear hx4
     try clear c5
     try clear c5b0
     try clear c6
     try clear c6b0
     try clear p6
     try clear c10
     try clear c12
     try clear c13
     try clear hcz13_0
     try clear hcz13_1
     try clear hfz13_0
     try clear hfz13_1
     try clear hx429_0
     try clear p429
     try clear q429
     obtain ⟨x5_1, x6_1, x436000_1, x436001_1, u436000, rfl, rfl, HA, HK1, HO_436000, BK427, BK435, HB⟩ := hrel
     cases gk with
     | zero => exact absurd HA.out (by simp [spec_HornerCode.l0])
     | succ k1 =>
      have H := HA.out
      clear HA
      simp only [spec_HornerCode.l0] at H
      by_cases c14 : x6_1 ≥ 0
      ·rw [if_pos c14] at H
       have c14b0 : decide (0 ≤ x6_1) = true := decide_eq_true c14
       clear c14
       replace H := Option.bind_eq_some_iff.mp H
       obtain ⟨⟨t436, t439, t440⟩, A150, H⟩ := H
       replace H : (if 0 ≤ x6_1 then (if x6_1 < (l0.length : Int) then ((spec_poAdd.f t436 t439 0 (rd l0 x6_1) 0).bind fun bt442 => ((spec_poAdd.f bt442.1 bt442.2.1 1 t440 bt442.2.2).bind fun bt447 => (spec_HornerCode.l0 k1 l0 bt447.2.2 (wrap64 (x6_1 - 1)) bt447.1 bt447.2.1))) else (none)) else (none)) = some (r1, r2, r3) := H
       have A15 := zz A150
       clear A150
       by_cases c16 : 0 ≤ x6_1
       ·rw [if_pos c16] at H
        have c16b0 : decide (0 ≤ x6_1) = true := decide_eq_true c16
        clear c16
        by_cases c17 : x6_1 < (l0.length : Int)
        ·rw [if_pos c17] at H
         have c17b0 : decide (x6_1 < (l0.length : Int)) = true := decide_eq_true c17
         clear c17
         replace H := Option.bind_eq_some_iff.mp H
         obtain ⟨⟨t442, t445, t446⟩, A180, H⟩ := H
         replace H : ((spec_poAdd.f t442 t445 1 t440 t446).bind fun bt447 => (spec_HornerCode.l0 k1 l0 bt447.2.2 (wrap64 (x6_1 - 1)) bt447.1 bt447.2.1)) = some (r1, r2, r3) := H
         have A18 := zz A180
         clear A180
         replace H := Option.bind_eq_some_iff.mp H
         obtain ⟨⟨t447, t450, t451⟩, A190, H⟩ := H
         replace H : (spec_HornerCode.l0 k1 l0 t451 (wrap64 (x6_1 - 1)) t447 t450) = some (r1, r2, r3) := H
         have A19 := zz A190
         clear A190
         have H' := zz H
         clear H
         have hnb20 := NB435_427.out
         have hnc20 := NB427_435.out
         have hcz21_0 : wr.cell? ⟨gb435, 0, none⟩ = some (u436000) := (qw BK435.out 0).trans rfl
         have hcz21_1 : wr.cell? ⟨gb435, 1, none⟩ = some (.int .i64 x436001_1) := (qw BK435.out 1).trans rfl
         have hfz21_0 := qx BK435.out 0
         have hfz21_1 := qx BK435.out 1
         obtain ⟨Ao22, co22, eo22⟩ := vx HO_436000.out
         subst eo22
         try go_wp2_with (first | ((with_reducible refine yv (f := 130) rfl ?_); refine kj (some 34) rfl rfl Try.func130 (by kernel_rfl) rfl #[.agg #[.slice Ao22 x436000_1.length co22, .int .i64 x436001_1], .int .i64 3, .int .i64 x5_1, .int .i64 0] rfl (by (try simp only [yw, List.map_cons, List.map_nil]); first | done | rfl) ?_; (with_reducible refine (spec_poAdd.calls _ _ x436000_1 x436001_1 3 x5_1 0 t436 t439 t440 _ ?side1 ?side2 A15.out).mono ?_); (case side1 => repeat (first | exact (vw HO_436000.out).2.2 | (with_reducible refine jk ?_ _) | (with_reducible refine jv ?_ _) | (with_reducible refine yz ?_))); (case side2 => exact (vw HO_436000.out).2.1); rintro e w23 ⟨v437, rfl, ho0, hb⟩; refine ⟨_, rfl, ?_⟩; have n0_ := zz (Kd.R_elder' (by (with_reducible repeat (first | apply jj | apply jw | apply jx)); exact HO_436000.out) (Kd.R_base ho0) hb); have n1_ := zz (Kd.R_lower (Kd.R_new' ho0 (Kd.R_lt (by (with_reducible repeat (first | apply jj | apply jw | apply jx)); exact HO_436000.out))) (zv (by repeat (with_reducible first | exact HB.out | apply zj | apply zq | apply zw | refine zx ?_ GE427.out | refine zx ?_ GE435.out)))); have n2_ := zz (qv (g := gb427) (o := .cells #[.slice none 0 0, .int .i64 0] 32 (0, 0)) (by (with_reducible repeat (first | refine qq ?_ _ | refine qj ?_ | refine qz ?_ _)); exact BK427.out) hb); have n3_ := zz (qv (g := gb435) (o := .cells #[.slice Ao22 x436000_1.length co22, .int .i64 x436001_1] 32 (0, 0)) (by (with_reducible repeat (first | refine qq ?_ _ | refine qj ?_ | refine qz ?_ _)); exact BK435.out) hb); have n4_ := zz (zk (by repeat (with_reducible first | exact HB.out | apply zj | apply zq | apply zw | refine zx ?_ GE427.out | refine zx ?_ GE435.out)) hb); clear HO_436000; clear BK427; clear BK435; clear HB; have HO_436000 := n0_; have HO438 := n1_; have BK427 := n2_; have BK435 := n3_; have HB := n4_; clear n0_ n1_ n2_ n3_ n4_; (try clear hb); (try clear hi hk); (try clear ho0); obtain ⟨Ao24, co24, eo24⟩ := vx HO438.out; subst eo24; have hcz25_0 : w23.cell? ⟨gb435, 0, none⟩ = some (.slice Ao22 x436000_1.length co22) := (qw BK435.out 0).trans rfl; have hcz25_1 : w23.cell? ⟨gb435, 1, none⟩ = some (.int .i64 x436001_1) := (qw BK435.out 1).trans rfl; have hfz25_0 := qx BK435.out 0; have hfz25_1 := qx BK435.out 1))
         have n0_ : Aside0 (Kd.R k109 109 ((w23.setCell ⟨gb435, 0, none⟩ (.slice Ao24 t436.length co24)).setCell ⟨gb435, 1, none⟩ (.int .i64 t439)) w.heap.size (fun k_ => some k_ ≠ (.slice Ao24 t436.length co24 : Value).ownBlock) (.slice Ao22 x436000_1.length co22) x436000_1) := ⟨by (with_reducible repeat (first | apply jj | apply jw | apply jx)); exact vj (Kd.R_far (p := ⟨gb435, 1, none⟩) (Kd.R_far (p := ⟨gb435, 0, none⟩) (Kd.R_types HO_436000.out BK435.out (by decide)) (fun _ hk => hk.2) (.slice Ao24 t436.length co24)) (fun _ hk => hk.2) (.int .i64 t439)) (fun _ hk => hk.1.2)⟩
         have n1_ : Aside0 (Kd.R k109 109 ((w23.setCell ⟨gb435, 0, none⟩ (.slice Ao24 t436.length co24)).setCell ⟨gb435, 1, none⟩ (.int .i64 t439)) w.heap.size (fun k_ => some k_ ≠ (.slice Ao22 x436000_1.length co22 : Value).ownBlock) (.slice Ao24 t436.length co24) t436) := ⟨by (with_reducible repeat (first | apply jj | apply jw | apply jx)); exact vj (Kd.R_far (p := ⟨gb435, 1, none⟩) (Kd.R_far (p := ⟨gb435, 0, none⟩) (Kd.R_types HO438.out BK435.out (by decide)) (fun _ hk => hk.2) (.slice Ao24 t436.length co24)) (fun _ hk => hk.2) (.int .i64 t439)) (fun _ hk => hk.1.2)⟩
         have n2_ : Aside0 (((w23.setCell ⟨gb435, 0, none⟩ (.slice Ao24 t436.length co24)).setCell ⟨gb435, 1, none⟩ (.int .i64 t439)).heap[gb427]? = some (.cells #[.slice none 0 0, .int .i64 0] 32 (0, 0))) := ⟨by (with_reducible repeat (first | refine qq ?_ _ | refine qj ?_ | refine qz ?_ _)); refine blk_far ?_ NB427_435.out _; (with_reducible repeat (first | refine qq ?_ _ | refine qj ?_ | refine qz ?_ _)); refine blk_far ?_ NB427_435.out _; (with_reducible repeat (first | refine qq ?_ _ | refine qj ?_ | refine qz ?_ _)); exact BK427.out⟩
         have n3_ : Aside0 (((w23.setCell ⟨gb435, 0, none⟩ (.slice Ao24 t436.length co24)).setCell ⟨gb435, 1, none⟩ (.int .i64 t439)).heap[gb435]? = some (.cells #[.slice Ao24 t436.length co24, .int .i64 t439] 32 (0, 0))) := ⟨by (with_reducible repeat (first | refine qq ?_ _ | refine qj ?_ | refine qz ?_ _)); refine qk (cs := #[.slice Ao24 t436.length co24, .int .i64 x436001_1]) ?_ 1 _ rfl; (with_reducible repeat (first | refine qq ?_ _ | refine qj ?_ | refine qz ?_ _)); refine qk (cs := #[.slice Ao22 x436000_1.length co22, .int .i64 x436001_1]) ?_ 0 _ rfl; (with_reducible repeat (first | refine qq ?_ _ | refine qj ?_ | refine qz ?_ _)); exact BK435.out⟩
         have n4_ : Aside0 (Below w.heap.size w ((w23.setCell ⟨gb435, 0, none⟩ (.slice Ao24 t436.length co24)).setCell ⟨gb435, 1, none⟩ (.int .i64 t439))) := ⟨by repeat (with_reducible first | exact HB.out | apply zj | apply zq | apply zw | refine zx ?_ GE427.out | refine zx ?_ GE435.out)⟩
         (try clear HO_436000)
         (try clear HO438)
         (try clear BK427)
         (try clear BK435)
         (try clear HB)
         generalize ((w23.setCell ⟨gb435, 0, none⟩ (.slice Ao24 t436.length co24)).setCell ⟨gb435, 1, none⟩ (.int .i64 t439)) = w26 at n0_ n1_ n2_ n3_ n4_ ⊢
         have HO_436000 := n0_
         have HO438 := n1_
         have BK427 := n2_
         have BK435 := n3_
         have HB := n4_
         clear n0_ n1_ n2_ n3_ n4_
         have n0_ := zz (jx HO_436000.out)
         have n1_ := zz (jx HO438.out)
         have n2_ := zz (qj BK427.out)
         have n3_ := zz (qj BK435.out)
         have n4_ := zz (zw HB.out)
         clear HO_436000
         clear HO438
         clear BK427
         clear BK435
         clear HB
         have HO_436000 := n0_
         have HO438 := n1_
         have BK427 := n2_
         have BK435 := n3_
         have HB := n4_
         clear n0_ n1_ n2_ n3_ n4_
         have p441 : 0 ≤ (x6_1 : Int) := of_decide_eq_true (by with_reducible assumption)
         have q441 : x6_1 < (l0.length : Int) := of_decide_eq_true (by with_reducible assumption)
         obtain ⟨ad441, e441, hx441_0⟩ := Kd.at_int HR0.out x6_1 p441 q441
         have hw441_0 := hx441_0
         obtain rfl : ad429 = ad441 := (by injection e441)
         replace hx441_0 := (HB.out.cell (jq w _ hx441_0)).trans hx441_0
         replace p441 := eq_true p441
         replace q441 := eq_true q441
         refine start_ (n := 11) (S := fun w' => w'.cell? ⟨gb435, 0, none⟩ = some (.slice Ao24 t436.length co24) ∧ w'.cell? ⟨gb435, 1, none⟩ = some (.int .i64 t439) ∧ w'.cell? (ad429.add (x6_1).toNat) = some (.int .i64 (rd l0 x6_1))) (ds := [9]) #[false, false, false, false, false, false, false, false, false, false, false] (by kernel_rfl) rfl rfl ⟨(qw BK435.out 0).trans rfl, (qw BK435.out 1).trans rfl, ((HB.out.cell (jq w _ hw441_0)).trans hw441_0)⟩ (fun hHeld => ?_); refine with_tabW spec_HornerCode.tab9 spec_HornerCode.bits9 (fun HT_ HW_ => ?_)
         generalize w26.drew = w27 at HO_436000 HO438 BK427 BK435 HB hx441_0 hHeld ⊢
         refine pure_ (i := 1) (N := some 39) (v := ?_) (a' := ?_) #[false, true, false, false, false, false, false, false, false, false, false] rfl rfl (kw HT_.out (by kernel_rfl)) (fun _ _ _ h => h) (Or.inl ⟨by rfl, ?_⟩) ?_ ?_
         rotate_left
         ·intro w'
          go_simp
          with_reducible rfl
         rotate_left
         ·simp only [Act.put, jz, yq, yj, kv, i32_w]
          rfl
         refine pure_ (i := 2) (N := some 40) (v := ?_) (a' := ?_) #[false, true, true, false, false, false, false, false, false, false, false] rfl rfl (kw HT_.out (by kernel_rfl)) (fun _ _ _ h => h) (Or.inl ⟨by rfl, ?_⟩) ?_ ?_
         rotate_left
         ·intro w'
          go_simp
          with_reducible rfl
         rotate_left
         ·simp only [Act.put, jz, yq, yj, kv, i32_w]
          rfl
         refine pure_ (i := 3) (N := some 41) (v := ?_) (a' := ?_) #[false, true, true, true, false, false, false, false, false, false, false] rfl rfl (kw HT_.out (by kernel_rfl)) (fun _ _ _ h => h) (Or.inl ⟨by rfl, ?_⟩) ?_ ?_
         rotate_left
         ·intro w'
          go_simp
          with_reducible rfl
         rotate_left
         ·simp only [Act.put, jz, yq, yj, kv, i32_w]
          rfl
         refine take_ (i := 0) (N := some 38) (v := ?_) (a' := ?_) #[true, true, true, true, false, false, false, false, false, false, false] rfl rfl (take_ofW HT_.out HW_.out (by kernel_rfl)) (fun _ _ _ h => h) (Or.inl ⟨by rfl, ?_⟩) hHeld ?_ ?_
         rotate_left
         ·rintro w' ⟨s0, s1, s2⟩
          go_simp
          with_reducible rfl
         rotate_left
         ·simp only [Act.put, jz, yq, yj, kv, i32_w]
          rfl
         refine take_ (i := 4) (N := some 42) (v := ?_) (a' := ?_) #[true, true, true, true, true, false, false, false, false, false, false] rfl rfl (take_ofW HT_.out HW_.out (by kernel_rfl)) (fun _ _ _ h => h) (Or.inl ⟨by rfl, ?_⟩) hHeld ?_ ?_
         rotate_left
         ·rintro w' ⟨s0, s1, s2⟩
          go_simp
          with_reducible rfl
         rotate_left
         ·simp only [Act.put, jz, yq, yj, kv, i32_w]
          rfl
         refine one_ (i := 5) (N := some 43) #[true, true, true, true, true, true, false, false, false, false, false] rfl rfl (one_of HT_.out (by kernel_rfl)) (by decide) (fun K hK => ?_)
         refine goes_ Try.func130 (by kernel_rfl) rfl #[.agg #[.slice Ao24 t436.length co24, .int .i64 t439], .int .i64 0, .int .i64 (rd l0 x6_1), .int .i64 0] (by rfl) rfl rfl (by (try simp only [yw, List.map_cons, List.map_nil]); first | done | rfl) ?_
         with_reducible refine (spec_poAdd.calls _ _ t436 t439 0 (rd l0 x6_1) 0 t442 t445 t446 _ ?side1 ?side2 A18.out).mono ?_
         (case side1 => repeat (first | exact (vw HO438.out).2.2 | (with_reducible refine jk ?_ _) | (with_reducible refine jv ?_ _) | (with_reducible refine yz ?_)))
         (case side2 => exact (vw HO438.out).2.1)
         rintro e w28 ⟨v443, rfl, ho0, hb⟩
         refine ⟨_, rfl, ?_⟩
         have n0_ := zz (Kd.R_elder' (by (with_reducible repeat (first | apply jj | apply jw | apply jx)); exact HO_436000.out) (Kd.R_base ho0) hb)
         have n1_ := zz (Kd.R_elder' (by (with_reducible repeat (first | apply jj | apply jw | apply jx)); exact HO438.out) (Kd.R_base ho0) hb)
         have n2_ := zz (Kd.R_lower (Kd.R_new' (Kd.R_new' ho0 (Kd.R_lt (by (with_reducible repeat (first | apply jj | apply jw | apply jx)); exact HO_436000.out))) (Kd.R_lt (by (with_reducible repeat (first | apply jj | apply jw | apply jx)); exact HO438.out))) (zv (by repeat (with_reducible first | exact HB.out | apply zj | apply zq | apply zw | refine zx ?_ GE427.out | refine zx ?_ GE435.out))))
         have n3_ := zz (qv (g := gb427) (o := .cells #[.slice none 0 0, .int .i64 0] 32 (0, 0)) (by (with_reducible repeat (first | refine qq ?_ _ | refine qj ?_ | refine qz ?_ _)); exact BK427.out) hb)
         have n4_ := zz (qv (g := gb435) (o := .cells #[.slice Ao24 t436.length co24, .int .i64 t439] 32 (0, 0)) (by (with_reducible repeat (first | refine qq ?_ _ | refine qj ?_ | refine qz ?_ _)); exact BK435.out) hb)
         have n5_ := zz (zk (by repeat (with_reducible first | exact HB.out | apply zj | apply zq | apply zw | refine zx ?_ GE427.out | refine zx ?_ GE435.out)) hb)
         clear HO_436000
         clear HO438
         clear BK427
         clear BK435
         clear HB
         have HO_436000 := n0_
         have HO438 := n1_
         have HO444 := n2_
         have BK427 := n3_
         have BK435 := n4_
         have HB := n5_
         clear n0_ n1_ n2_ n3_ n4_ n5_
         (try clear hb)
         (try clear hb2)
         (try clear hk)
         (try clear hi)
         (try clear ho0)
         obtain ⟨Ao29, co29, eo29⟩ := vx HO444.out
         (first | subst eo29 | (injection eo29 with f1_ f2_ f3_; have f4_ := f1_.symm; have f5_ := f3_.symm; clear f1_ f2_ f3_; subst f4_; subst f5_))
         refine hK.out _ _ ⟨(qw BK435.out 0).trans rfl, (qw BK435.out 1).trans rfl, ((HB.out.cell (jq w _ hw441_0)).trans hw441_0)⟩ (fun hHeld => ?_)
         clear hK K
         refine norm_ (a' := ?_) ?_ ?_
         rotate_left
         ·show Act.put _ (some 43) _ = _
          simp only [Act.put, jz, yq, yj, kv, i32_w]
          rfl
         refine pure_ (i := 6) (N := some 37) (v := ?_) (a' := ?_) #[true, true, true, true, true, true, true, false, false, false, false] rfl rfl (kw HT_.out (by kernel_rfl)) (fun _ _ _ h => h) (Or.inl ⟨by rfl, ?_⟩) ?_ ?_
         rotate_left
         ·intro w'
          go_simp
          with_reducible rfl
         rotate_left
         ·simp only [Act.put, jz, yq, yj, kv, i32_w]
          rfl
         refine pure_ (i := 7) (N := some 44) (v := ?_) (a' := ?_) #[true, true, true, true, true, true, true, true, false, false, false] rfl rfl (kw HT_.out (by kernel_rfl)) (fun _ _ _ h => h) (Or.inl ⟨by rfl, ?_⟩) ?_ ?_
         rotate_left
         ·intro w'
          go_simp
          with_reducible rfl
         rotate_left
         ·simp only [Act.put, jz, yq, yj, kv, i32_w]
          rfl
         refine pure_ (i := 8) (N := some 45) (v := ?_) (a' := ?_) #[true, true, true, true, true, true, true, true, true, false, false] rfl rfl (kw HT_.out (by kernel_rfl)) (fun _ _ _ h => h) (Or.inl ⟨by rfl, ?_⟩) ?_ ?_
         rotate_left
         ·intro w'
          go_simp
          with_reducible rfl
         rotate_left
         ·simp only [Act.put, jz, yq, yj, kv, i32_w]
          rfl
         refine last_ (i := 9) (N := none) #[true, true, true, true, true, true, true, true, true, true, false] rfl rfl (one_of HT_.out (by kernel_rfl)) (by decide) (fun K hK => ?_)
         have hs30 : w28.cell? ⟨gb435, 0, none⟩ = some (.slice Ao24 t436.length co24) := (qw BK435.out 0).trans rfl
         have hfs30 := qx BK435.out 0
         have hns30_0 := NB427_435.out
         have hms30_0 := NB435_427.out
         have hs31 : w28.cell? ⟨gb435, 1, none⟩ = some (.int .i64 t439) := (qw BK435.out 1).trans rfl
         have hfs31 := qx BK435.out 1
         have hns31_0 := NB427_435.out
         have hms31_0 := NB435_427.out
         refine skip_ (w1 := ?_) (by rfl) rfl ?_ ?_
         rotate_left
         ·go_simp
          rfl
         refine hK.out _ _ ?_
         clear hK K
         refine pure_ (i := 10) (N := some 8) (v := ?_) (a' := ?_) #[true, true, true, true, true, true, true, true, true, true, true] rfl rfl (kw HT_.out (by kernel_rfl)) (fun _ _ _ h => h) (Or.inl ⟨by rfl, ?_⟩) ?_ ?_
         rotate_left
         ·intro w'
          go_simp
          with_reducible rfl
         rotate_left
         ·simp only [Act.put, jz, yq, yj, kv, i32_w]
          rfl
         refine done_ (done_of HT_.out (by kernel_rfl)) ?_
         have hcz32_0 : w28.cell? ⟨gb435, 0, none⟩ = some (.slice Ao24 t436.length co24) := (qw BK435.out 0).trans rfl
         have hcz32_1 : w28.cell? ⟨gb435, 1, none⟩ = some (.int .i64 t439) := (qw BK435.out 1).trans rfl
         have hfz32_0 := qx BK435.out 0
         have hfz32_1 := qx BK435.out 1
         try go_wp2_with (first | ((with_reducible refine yv (f := 130) rfl ?_); refine kj (some 50) rfl rfl Try.func130 (by kernel_rfl) rfl #[.agg #[.slice Ao29 t442.length co29, .int .i64 t445], .int .i64 1, .int .i64 t440, .int .i64 t446] rfl (by (try simp only [yw, List.map_cons, List.map_nil]); first | done | rfl) ?_; (with_reducible refine (spec_poAdd.calls _ _ t442 t445 1 t440 t446 t447 t450 t451 _ ?side1 ?side2 A19.out).mono ?_); (case side1 => refine (vw (e := 109) (base := w.heap.size) (ok := fun k_ => ((True ∧ some k_ ≠ (.slice Ao22 x436000_1.length co22 : Value).ownBlock) ∧ some k_ ≠ (.slice Ao24 t436.length co24 : Value).ownBlock)) (n := t442.length) (c := co29) ?_).2.2; exact (by (with_reducible repeat (first | apply jj | apply jw | apply jx)); exact (vj (Kd.R_far (p := ⟨gb435, 1, none⟩) (Kd.R_far (p := ⟨gb435, 0, none⟩) (Kd.R_types HO444.out BK435.out (by decide)) (fun _ hk => hk.2) (.slice Ao29 t442.length co29)) (fun _ hk => hk.2) (.int .i64 t445)) (fun _ h_ => h_.1)))); (case side2 => exact (vw HO444.out).2.1); rintro e w33 ⟨v448, rfl, ho0, hb⟩; refine ⟨_, rfl, ?_⟩; have n0_ := zz (Kd.R_elder' (by (with_reducible repeat (first | apply jj | apply jw | apply jx)); exact (vj (Kd.R_far (p := ⟨gb435, 1, none⟩) (Kd.R_far (p := ⟨gb435, 0, none⟩) (Kd.R_types HO_436000.out BK435.out (by decide)) (fun _ hk => hk.2) (.slice Ao29 t442.length co29)) (fun _ hk => hk.2) (.int .i64 t445)) (fun _ h_ => h_.1))) (Kd.R_base ho0) hb); have n1_ := zz (Kd.R_elder' (by (with_reducible repeat (first | apply jj | apply jw | apply jx)); exact (vj (Kd.R_far (p := ⟨gb435, 1, none⟩) (Kd.R_far (p := ⟨gb435, 0, none⟩) (Kd.R_types HO438.out BK435.out (by decide)) (fun _ hk => hk.2) (.slice Ao29 t442.length co29)) (fun _ hk => hk.2) (.int .i64 t445)) (fun _ h_ => h_.1))) (Kd.R_base ho0) hb); have n2_ := zz (Kd.R_elder' (by (with_reducible repeat (first | apply jj | apply jw | apply jx)); exact (vj (Kd.R_far (p := ⟨gb435, 1, none⟩) (Kd.R_far (p := ⟨gb435, 0, none⟩) (Kd.R_types HO444.out BK435.out (by decide)) (fun _ hk => hk.2) (.slice Ao29 t442.length co29)) (fun _ hk => hk.2) (.int .i64 t445)) (fun _ h_ => h_.1))) (Kd.R_base ho0) hb); have n3_ := zz (Kd.R_lower (Kd.R_new' (Kd.R_new' (Kd.R_new' ho0 (Kd.R_lt (by (with_reducible repeat (first | apply jj | apply jw | apply jx)); exact (vj (Kd.R_far (p := ⟨gb435, 1, none⟩) (Kd.R_far (p := ⟨gb435, 0, none⟩) (Kd.R_types HO_436000.out BK435.out (by decide)) (fun _ hk => hk.2) (.slice Ao29 t442.length co29)) (fun _ hk => hk.2) (.int .i64 t445)) (fun _ h_ => h_.1))))) (Kd.R_lt (by (with_reducible repeat (first | apply jj | apply jw | apply jx)); exact (vj (Kd.R_far (p := ⟨gb435, 1, none⟩) (Kd.R_far (p := ⟨gb435, 0, none⟩) (Kd.R_types HO438.out BK435.out (by decide)) (fun _ hk => hk.2) (.slice Ao29 t442.length co29)) (fun _ hk => hk.2) (.int .i64 t445)) (fun _ h_ => h_.1))))) (Kd.R_lt (by (with_reducible repeat (first | apply jj | apply jw | apply jx)); exact (vj (Kd.R_far (p := ⟨gb435, 1, none⟩) (Kd.R_far (p := ⟨gb435, 0, none⟩) (Kd.R_types HO444.out BK435.out (by decide)) (fun _ hk => hk.2) (.slice Ao29 t442.length co29)) (fun _ hk => hk.2) (.int .i64 t445)) (fun _ h_ => h_.1))))) (zv (by repeat (with_reducible first | exact HB.out | apply zj | apply zq | apply zw | refine zx ?_ GE427.out | refine zx ?_ GE435.out)))); have n4_ := zz (qv (g := gb427) (o := .cells #[.slice none 0 0, .int .i64 0] 32 (0, 0)) (by (with_reducible repeat (first | refine qq ?_ _ | refine qj ?_ | refine qz ?_ _)); refine blk_far ?_ NB427_435.out _; (with_reducible repeat (first | refine qq ?_ _ | refine qj ?_ | refine qz ?_ _)); refine blk_far ?_ NB427_435.out _; (with_reducible repeat (first | refine qq ?_ _ | refine qj ?_ | refine qz ?_ _)); exact BK427.out) hb); have n5_ := zz (qv (g := gb435) (o := .cells #[.slice Ao29 t442.length co29, .int .i64 t445] 32 (0, 0)) (by (with_reducible repeat (first | refine qq ?_ _ | refine qj ?_ | refine qz ?_ _)); refine qk (cs := #[.slice Ao29 t442.length co29, .int .i64 t439]) ?_ 1 _ rfl; (with_reducible repeat (first | refine qq ?_ _ | refine qj ?_ | refine qz ?_ _)); refine qk (cs := #[.slice Ao24 t436.length co24, .int .i64 t439]) ?_ 0 _ rfl; (with_reducible repeat (first | refine qq ?_ _ | refine qj ?_ | refine qz ?_ _)); exact BK435.out) hb); have n6_ := zz (zk (by repeat (with_reducible first | exact HB.out | apply zj | apply zq | apply zw | refine zx ?_ GE427.out | refine zx ?_ GE435.out)) hb); clear HO_436000; clear HO438; clear HO444; clear BK427; clear BK435; clear HB; have HO_436000 := n0_; have HO438 := n1_; have HO444 := n2_; have HO449 := n3_; have BK427 := n4_; have BK435 := n5_; have HB := n6_; clear n0_ n1_ n2_ n3_ n4_ n5_ n6_; (try clear hb); (try clear hi hk); (try clear ho0); obtain ⟨Ao34, co34, eo34⟩ := vx HO449.out; subst eo34; have hcz35_0 : w33.cell? ⟨gb435, 0, none⟩ = some (.slice Ao29 t442.length co29) := (qw BK435.out 0).trans rfl; have hcz35_1 : w33.cell? ⟨gb435, 1, none⟩ = some (.int .i64 t445) := (qw BK435.out 1).trans rfl; have hfz35_0 := qx BK435.out 0; have hfz35_1 := qx BK435.out 1))
         go_roundg k1
         case measure => have := HK1.out; omega
         case rel => exact ⟨(t451), (wrap64 (x6_1 - 1)), (t447), (t450), (.slice Ao34 t447.length co34), (by first | rfl | (simp; done) | (simp [*]; done)), (by first | rfl | (simp; done) | (simp [*]; done)), H', ⟨by have := HK1.out; omega⟩, ⟨by (with_reducible repeat (first | apply jj | apply jw | apply jx)); exact vj (Kd.R_far (p := ⟨gb435, 1, none⟩) (Kd.R_far (p := ⟨gb435, 0, none⟩) (Kd.R_types HO449.out BK435.out (by decide)) (fun _ hk => hk.2) (.slice Ao34 t447.length co34)) (fun _ hk => hk.2) (.int .i64 t450)) (fun _ hk => trivial)⟩, ⟨by (with_reducible repeat (first | refine qq ?_ _ | refine qj ?_ | refine qz ?_ _)); refine blk_far ?_ NB427_435.out _; (with_reducible repeat (first | refine qq ?_ _ | refine qj ?_ | refine qz ?_ _)); refine blk_far ?_ NB427_435.out _; (with_reducible repeat (first | refine qq ?_ _ | refine qj ?_ | refine qz ?_ _)); exact BK427.out⟩, ⟨by (with_reducible repeat (first | refine qq ?_ _ | refine qj ?_ | refine qz ?_ _)); refine qk (cs := #[.slice Ao34 t447.length co34, .int .i64 t445]) ?_ 1 _ rfl; (with_reducible repeat (first | refine qq ?_ _ | refine qj ?_ | refine qz ?_ _)); refine qk (cs := #[.slice Ao29 t442.length co29, .int .i64 t445]) ?_ 0 _ rfl; (with_reducible repeat (first | refine qq ?_ _ | refine qj ?_ | refine qz ?_ _)); exact BK435.out⟩, ⟨by repeat (with_reducible first | exact HB.out | apply zj | apply zq | apply zw | refine zx ?_ GE427.out | refine zx ?_ GE435.out)⟩⟩
        ·rw [if_neg c17] at H
         exact absurd H (by simp)
       ·rw [if_neg c16] at H
        exact absurd H (by simp)
      ·rw [if_neg c14] at H
       have c14b0 : decide (0 ≤ x6_1) = false := decide_eq_false c14
       clear c14
       replace H := Option.bind_eq_some_iff.mp H
       obtain ⟨⟨t452, t455, t456⟩, A360, H⟩ := H
       replace H : (some (t452, t455, t456)) = some (r1, r2, r3) := H
       have A36 := zz A360
       clear A360
       simp only [Option.some.injEq, Prod.mk.injEq] at H
       obtain ⟨rfl, rfl, rfl⟩ := H
       have hnb37 := NB435_427.out
       have hnc37 := NB427_435.out
       have hcz38_0 : wr.cell? ⟨gb435, 0, none⟩ = some (u436000) := (qw BK435.out 0).trans rfl
       have hcz38_1 : wr.cell? ⟨gb435, 1, none⟩ = some (.int .i64 x436001_1) := (qw BK435.out 1).trans rfl
       have hfz38_0 := qx BK435.out 0
       have hfz38_1 := qx BK435.out 1
       go_wp2_with (first | ((with_reducible refine gate_store (t := 3) (p := 54) rfl ?_); refine store_event (t := 3) (p := 54) (v := ?vo_w39) (w1 := (wr.setCell ⟨gb435, 1, none⟩ (.int .i64 x5_1))) ?hg ?ho ?hn ?hr ?_; (case ho => rfl); (case hg => rfl); (case hn => rfl); (case hr => first | (go_simp; done) | (go_simp; rfl)); intro w39 hw; have n0_ : Aside0 (Kd.R k109 109 w39 w.heap.size (fun _ => True) u436000 x436000_1) := ⟨(by rw [hw]; exact (by (with_reducible repeat (first | apply jj | apply jw | apply jx)); exact vj (Kd.R_far (p := ⟨gb435, 1, none⟩) (Kd.R_types HO_436000.out BK435.out (by decide)) (fun _ hk => hk.2) (.int .i64 x5_1)) (fun _ hk => trivial)))⟩; have n1_ : Aside0 (w39.heap[gb427]? = some (.cells #[.slice none 0 0, .int .i64 0] 32 (0, 0))) := ⟨(by rw [hw]; exact (by (with_reducible repeat (first | refine qq ?_ _ | refine qj ?_ | refine qz ?_ _)); refine blk_far ?_ NB427_435.out _; (with_reducible repeat (first | refine qq ?_ _ | refine qj ?_ | refine qz ?_ _)); exact BK427.out))⟩; have n2_ : Aside0 (w39.heap[gb435]? = some (.cells #[u436000, .int .i64 x5_1] 32 (0, 0))) := ⟨(by rw [hw]; exact (by (with_reducible repeat (first | refine qq ?_ _ | refine qj ?_ | refine qz ?_ _)); refine qk (cs := #[u436000, .int .i64 x436001_1]) ?_ 1 _ rfl; (with_reducible repeat (first | refine qq ?_ _ | refine qj ?_ | refine qz ?_ _)); exact BK435.out))⟩; have n3_ : Aside0 (Below w.heap.size w w39) := ⟨(by rw [hw]; exact (by repeat (with_reducible first | exact HB.out | apply zj | apply zq | apply zw | refine zx ?_ GE427.out | refine zx ?_ GE435.out)))⟩; clear hw; clear HO_436000; clear BK427; clear BK435; clear HB; have HO_436000 := n0_; have BK427 := n1_; have BK435 := n2_; have HB := n3_; clear n0_ n1_ n2_ n3_; have hcz40_0 : w39.cell? ⟨gb435, 0, none⟩ = some (u436000) := (qw BK435.out 0).trans rfl; have hcz40_1 : w39.cell? ⟨gb435, 1, none⟩ = some (.int .i64 x5_1) := (qw BK435.out 1).trans rfl; have hfz40_0 := qx BK435.out 0; have hfz40_1 := qx BK435.out 1; obtain ⟨Ao41, co41, eo41⟩ := vx HO_436000.out; subst eo41) | ((with_reducible refine yv (f := 105) rfl ?_); refine kj (some 56) rfl rfl Try.func105 (by kernel_rfl) rfl #[.agg #[.slice Ao41 x436000_1.length co41, .int .i64 x5_1]] rfl (by (try simp only [yw, List.map_cons, List.map_nil]); first | done | rfl) ?_; (with_reducible refine (spec_poIf.calls k1 (fun k_ => some k_ = (.slice Ao41 x436000_1.length co41 : Value).ownBlock) (.slice Ao41 x436000_1.length co41) x436000_1 x5_1 t452 t455 t456 w _ ?side1 ?side2 A36.out).mono ?_); (case side1 => repeat (with_reducible first | exact HB.out | apply zj | apply zq | apply zw | refine zx ?_ GE427.out | refine zx ?_ GE435.out)); (case side2 => exact Kd.R_tight rfl HO_436000.out); rintro e w42 ⟨v453, rfl, ho0, hb, hkp⟩; refine ⟨_, rfl, ?_⟩; have n0_ := zz (blk_kept (by (with_reducible repeat (first | refine qq ?_ _ | refine qj ?_ | refine qz ?_ _)); exact BK427.out) hkp (fun hs_ => (fun e_ => (Kd.R_ne HO_436000.out BK427.out (by decide)) e_) hs_)); have n1_ := zz (blk_kept (by (with_reducible repeat (first | refine qq ?_ _ | refine qj ?_ | refine qz ?_ _)); exact BK435.out) hkp (fun hs_ => (fun e_ => (Kd.R_ne HO_436000.out BK435.out (by decide)) e_) hs_)); have n2_ := zz (vj (ok' := fun k_ => True) ho0 (fun k_ hk_ => trivial)); have n3_ := zz (hb); clear BK427; clear BK435; clear HB; clear HO_436000; have BK427 := n0_; have BK435 := n1_; have HO454 := n2_; have HB := n3_; clear n0_ n1_ n2_ n3_; (try clear hb); (try clear hkp); (try clear ho0); obtain ⟨Ao43, co43, eo43⟩ := vx HO454.out; subst eo43; have hcz44_0 : w42.cell? ⟨gb427, 0, none⟩ = some (.slice none 0 0) := (qw BK427.out 0).trans rfl; have hcz44_1 : w42.cell? ⟨gb427, 1, none⟩ = some (.int .i64 0) := (qw BK427.out 1).trans rfl; have hfz44_0 := qx BK427.out 0; have hfz44_1 := qx BK427.out 1))
       refine bodyPost_ret (results_ct rfl _ _ gb427 32 #[.slice Ao43 t452.length co43, .int .i64 t455] (0, 0) _ rfl (by (with_reducible repeat (first | refine qq ?_ _ | refine qj ?_ | refine qz ?_ _)); refine qk (cs := #[.slice Ao43 t452.length co43, .int .i64 0]) ?_ 1 _ rfl; (with_reducible repeat (first | refine qq ?_ _ | refine qj ?_ | refine qz ?_ _)); refine qk (cs := #[.slice none 0 0, .int .i64 0]) ?_ 0 _ rfl; (with_reducible repeat (first | refine qq ?_ _ | refine qj ?_ | refine qz ?_ _)); exact BK427.out) Try.underlying32 rfl (by kernel_rfl)) rfl ?_
       exact ⟨_, by first | rfl | (simp [errW_none, errW_some] <;> rfl) | (simp only [← hji4]; first | rfl | (simp [errW_none, errW_some] <;> rfl)) | (simp [*, errW_none, errW_some] <;> rfl), by (with_reducible repeat (first | apply jj | apply jw | apply jx)); exact vj (Kd.R_far (p := ⟨gb427, 1, none⟩) (Kd.R_far (p := ⟨gb427, 0, none⟩) (Kd.R_types HO454.out BK427.out (by decide)) (fun _ hk => hk.2) (.slice Ao43 t452.length co43)) (fun _ hk => hk.2) (.int .i64 t455)) (fun _ hk => trivial), by repeat (with_reducible first | exact HB.out | apply zj | apply zq | apply zw | refine zx ?_ GE427.out | refine zx ?_ GE435.out)⟩
   ·rw [if_neg c6] at H
    exact absurd H (by simp)
  ·rw [if_neg c5] at H
   exact absurd H (by simp)
 ·replace c3 := Bool.eq_false_iff.mpr c3
  subst c3
  have H1 : (some (([] : List (S109)), 0, false)) = some (r1, r2, r3) := by rw [if_neg (show ¬ (false = true) by decide)] at H; exact H
  clear H
  have H := H1
  clear H1
  simp only [Option.some.injEq, Prod.mk.injEq] at H
  obtain ⟨rfl, rfl, rfl⟩ := H
  go_enter Try.func45, Try.ntmps45
  go_wp2_with (first | ((with_reducible refine vz (N := 2) rfl ?_); refine vq ?hg (N := 2) ?hd (cs := #[.slice none 0 0, .int .i64 0]) (t := 32) ?hr ?_; (case hd => rfl); (case hg => rfl); (case hr => first | (go_simp; done) | (go_simp; rfl)); intro gb427 hg w45 hbox hb; have n0_ := zz (zk (by repeat (with_reducible first | exact HB.out | apply zj | apply zq | apply zw)) hb); have n1_ := zz (hbox); have n2_ := zz ((by rw [hg]; exact (zv (by repeat (with_reducible first | exact HB.out | apply zj | apply zq | apply zw))) : w.heap.size ≤ gb427)); have n3_ := zz ((by rw [hg]; exact (zv (by repeat (with_reducible first | exact HB.out | apply zj | apply zq | apply zw))) : w.heap.size ≤ gb427)); clear HB; have HB := n0_; have BK427 := n1_; have GW427 := n2_; have GE427 := n3_; clear n0_ n1_ n2_ n3_; clear hb hbox hg) | ((with_reducible refine yv (f := 104) rfl ?_); refine kj (some 10) rfl rfl Try.func104 (by kernel_rfl) rfl #[.slice A0 l0.length c0] rfl (by (try simp only [yw, List.map_cons, List.map_nil]); first | done | rfl) ?_; (with_reducible refine (spec_poCoefs.calls k _ _ l0 false _ ?side1 ?side2 A2.out).mono ?_); (case side1 => repeat (first | exact (Kd.C_below HR0.out HB.out) | (with_reducible refine jk ?_ _) | (with_reducible refine jv ?_ _) | (with_reducible refine yz ?_))); (case side2 => exact HC0.out); rintro e w' ⟨rfl, ⟨nd, rfl⟩⟩; refine ⟨_, rfl, ?_⟩; (try (rw [drewN_self w45]; generalize hq_ : World.drewN w45 _ = w45; have n0_ : Aside0 (w45.heap[gb427]? = some (.cells #[.slice none 0 0, .int .i64 0] 32 (0, 0))) := ⟨by rw [← hq_]; exact (by (with_reducible repeat (first | refine qq ?_ _ | refine qj ?_ | refine qz ?_ _)); exact BK427.out)⟩; have n1_ : Aside0 (Below w.heap.size w w45) := ⟨by rw [← hq_]; exact (by repeat (with_reducible first | exact HB.out | apply zj | apply zq | apply zw | refine zx ?_ GE427.out))⟩; clear BK427 HB hq_; have BK427 := n0_; have HB := n1_; clear n0_ n1_)); have hcz46_0 : w45.cell? ⟨gb427, 0, none⟩ = some (.slice none 0 0) := (qw BK427.out 0).trans rfl; have hcz46_1 : w45.cell? ⟨gb427, 1, none⟩ = some (.int .i64 0) := (qw BK427.out 1).trans rfl; have hfz46_0 := qx BK427.out 0; have hfz46_1 := qx BK427.out 1))
  refine bodyPost_ret (results_ct rfl _ _ gb427 32 #[.slice none 0 0, .int .i64 0] (0, 0) _ rfl (by (with_reducible repeat (first | refine qq ?_ _ | refine qj ?_ | refine qz ?_ _)); refine qk (cs := #[.slice none 0 0, .int .i64 0]) ?_ 1 _ rfl; (with_reducible repeat (first | refine qq ?_ _ | refine qj ?_ | refine qz ?_ _)); refine qk (cs := #[.slice none 0 0, .int .i64 0]) ?_ 0 _ rfl; (with_reducible repeat (first | refine qq ?_ _ | refine qj ?_ | refine qz ?_ _)); exact BK427.out) Try.underlying32 rfl (by kernel_rfl)) rfl ?_
  exact ⟨_, by first | rfl | (simp <;> rfl) | (simp [*] <;> rfl), by first | exact Kd.R_nil _ _ _ _ _ | exact Kd.N_nil _ _ _ _ _ | exact Kd.V_nil _ _ _ _ _ | exact Kd.Q_nil _ _ _ _ _ | exact Kd.S_nil _ _ _ _ _, by repeat (with_reducible first | exact HB.out | apply zj | apply zq | apply zw | refine zx ?_ GE427.out)⟩
end Go.Proofs.Ytlmoemahamneoaa.PFnSchemesAgree
