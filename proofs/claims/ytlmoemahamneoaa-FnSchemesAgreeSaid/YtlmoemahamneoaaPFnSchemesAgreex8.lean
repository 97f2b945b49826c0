-- Written by gprint.py, a program of this session, out of the translation (a changed print).
import Derived.Test.YtlmoemahamneoaaPFnSchemesAgreex0
import Derived.Test.YtlmoemahamneoaaPFnSchemesAgreex5
import Derived.Test.YtlmoemahamneoaaPFnSchemesAgreex6
import Derived.Test.YtlmoemahamneoaaPFnSchemesAgreex7
namespace Go.Proofs.Ytlmoemahamneoaa.PFnSchemesAgree
open Go.RowKit Go.Proofs.YtlmoemahamneoaaW.PrintWords Go.Proofs.YtlmoemahamneoaaW.PrintLast Go.Proofs.YtlmoemahamneoaaW.PrintMore
open Go.Proofs.YtlmoemahamneoaaW.PrintWords.Aside0 renaming mk → zz
open Go.Proofs.YtlmoemahamneoaaW.PrintWords renaming pw_below_drewN → zq, below_alloc → zj, below_drew1 → zw, below_set → zx, below_step → zk, below_size → zv, blk_alloc → qz, blk_drewN → qq, blk_drew → qj, blk_cell → qw, blk_frozen → qx, blk_below → qk
open List renaming setIfInBounds_toArray → qv, set_cons_zero → yq, set_cons_succ → yj, map_toArray → yw, length_drop → yx, length_take → yk
open Go.World renaming block_lt_of_cell? → jz
open Go.Proofs.YtlmoemahamneoaaW.PrintWords.Kd renaming R_alloc → jq, R_drewN → jj, R_drew → jw, C_alloc → jx, C_drewN → jk, C_drew → jv, C_below → yz, R_mono → yv, R_reads' → vz, R_slice → vq
open Go.Proofs.YtlmoemahamneoaaW.PrintWords.LeO renaming bind → vj, refl → vw
open Go.Proofs.YtlmoemahamneoaaW.PrintLast renaming start_ → vx, with_tabW → vk, any_of → vv, take_ofW → kz, one_of → kj, done_of → kw, norm_ → kv
attribute [local go_sem] max2_int min2_int max_two min_two max_three min_three max_four min_four
set_option linter.unusedVariables false
set_option linter.unusedSimpArgs false
mutual
def spec_poOp.j0 : Nat → List (List Int) → Bool → Bool → Int → Int → Int → Option (List Int × Bool)
 | 0, _, _, _, _, _, _ => none
 | k + 1, x1, x6, x7, x185000, x185001, x185002 => if x185000 = 0 then ((spec_poTrim.f k (([x185001] : List Int))).bind fun t190 => ((spec_l1In.f x185001 (-1000000) 1000000).bind fun t193 => (if t193 = true then (some (t190, (x185002 == 0))) else (some (t190, false))))) else (if x185000 = 1 then (spec_poOp.j1 k x1 x6 x7 x7 x185000 x185001 x185002) else (spec_poOp.j1 k x1 x6 x7 false x185000 x185001 x185002))
def spec_poOp.j1 : Nat → List (List Int) → Bool → Bool → Bool → Int → Int → Int → Option (List Int × Bool)
 | 0, _, _, _, _, _, _, _ => none
 | k + 1, x1, x6, x7, x39, x185000, x185001, x185002 => if x39 = true then (if 0 ≤ x185001 then (if x185001 < (x1.length : Int) then (if 0 ≤ x185002 then (if x185002 < (x1.length : Int) then ((spec_poSum.f k (rd_L2 x1 x185001) (rd_L2 x1 x185002)).bind fun t196 => (some (t196, true))) else (none)) else (none)) else (none)) else (none)) else (if x185000 = 2 then (if x6 = true then ((spec_l1In.f x185002 (-1000000) 1000000).bind fun t199 => (spec_poOp.j2 k x1 x7 t199 x185000 x185001 x185002)) else (spec_poOp.j2 k x1 x7 false x185000 x185001 x185002)) else (spec_poOp.j2 k x1 x7 false x185000 x185001 x185002))
def spec_poOp.j2 : Nat → List (List Int) → Bool → Bool → Int → Int → Int → Option (List Int × Bool)
 | 0, _, _, _, _, _, _ => none
 | k + 1, x1, x7, x57, x185000, x185001, x185002 => if x57 = true then (if 0 ≤ x185001 then (if x185001 < (x1.length : Int) then ((spec_poTrim.f k (([x185002] : List Int))).bind fun t204 => ((spec_poProduct.f k (rd_L2 x1 x185001) t204).bind fun t207 => (some (t207, true)))) else (none)) else (none)) else (if x185000 = 3 then (if x7 = true then (if 0 ≤ x185001 then (if x185001 < (x1.length : Int) then (if 0 ≤ x185002 then (if x185002 < (x1.length : Int) then ((spec_poProduct.f k (rd_L2 x1 x185001) (rd_L2 x1 x185002)).bind fun t212 => (some (t212, true))) else (none)) else (none)) else (none)) else (none)) else (some (([] : List Int), false))) else (some (([] : List Int), false)))
end
def spec_poOp.f (k : Nat) (a0_0 : Int) (a0_1 : Int) (a0_2 : Int) (l1 : List (List Int)) : Option (List Int × Bool) := (spec_l1In.f a0_1 0 (wrap64 ((l1.length : Int) - 1))).bind fun t185 => (if t185 = true then ((spec_l1In.f a0_2 0 (wrap64 ((l1.length : Int) - 1))).bind fun t186 => (spec_poOp.j0 k l1 t185 t186 a0_0 a0_1 a0_2)) else (spec_poOp.j0 k l1 t185 false a0_0 a0_1 a0_2))
theorem spec_poOp.mono_l : ∀ k, (∀ y0 y1 y2 y3 y4 y5, LeO (spec_poOp.j0 k y0 y1 y2 y3 y4 y5) (spec_poOp.j0 (k + 1) y0 y1 y2 y3 y4 y5)) ∧ (∀ y0 y1 y2 y3 y4 y5 y6, LeO (spec_poOp.j1 k y0 y1 y2 y3 y4 y5 y6) (spec_poOp.j1 (k + 1) y0 y1 y2 y3 y4 y5 y6)) ∧ (∀ y0 y1 y2 y3 y4 y5, LeO (spec_poOp.j2 k y0 y1 y2 y3 y4 y5) (spec_poOp.j2 (k + 1) y0 y1 y2 y3 y4 y5))
 | 0 => ⟨fun _ _ _ _ _ _ r h => by simp [spec_poOp.j0] at h, fun _ _ _ _ _ _ _ r h => by simp [spec_poOp.j1] at h, fun _ _ _ _ _ _ r h => by simp [spec_poOp.j2] at h⟩
 | k + 1 => by
  obtain ⟨ih0, ih1, ih2⟩ := spec_poOp.mono_l k
  refine ⟨?_, ?_, ?_⟩
  ·intro y0 y1 y2 y3 y4 y5
   unfold spec_poOp.j0
   repeat' with_reducible first
   | exact ih0 _ _ _ _ _ _
   | exact ih1 _ _ _ _ _ _ _
   | exact ih2 _ _ _ _ _ _
   | exact spec_poProduct.mono _ _ _
   | exact spec_poSum.mono _ _ _
   | exact spec_poTrim.mono _ _
   | exact vw _
   | exact LeO.none _
   | refine LeO.ite ?_ ?_
   | refine vj ?_ (fun _ => ?_)
  ·intro y0 y1 y2 y3 y4 y5 y6
   unfold spec_poOp.j1
   repeat' with_reducible first
   | exact ih0 _ _ _ _ _ _
   | exact ih1 _ _ _ _ _ _ _
   | exact ih2 _ _ _ _ _ _
   | exact spec_poProduct.mono _ _ _
   | exact spec_poSum.mono _ _ _
   | exact spec_poTrim.mono _ _
   | exact vw _
   | exact LeO.none _
   | refine LeO.ite ?_ ?_
   | refine vj ?_ (fun _ => ?_)
  ·intro y0 y1 y2 y3 y4 y5
   unfold spec_poOp.j2
   repeat' with_reducible first
   | exact ih0 _ _ _ _ _ _
   | exact ih1 _ _ _ _ _ _ _
   | exact ih2 _ _ _ _ _ _
   | exact spec_poProduct.mono _ _ _
   | exact spec_poSum.mono _ _ _
   | exact spec_poTrim.mono _ _
   | exact vw _
   | exact LeO.none _
   | refine LeO.ite ?_ ?_
   | refine vj ?_ (fun _ => ?_)
theorem spec_poOp.mono : ∀ a0 a1 a2 a3 k, LeO (spec_poOp.f k a0 a1 a2 a3) (spec_poOp.f (k + 1) a0 a1 a2 a3) := by
 intro a0 a1 a2 a3 k
 obtain ⟨ih0, ih1, ih2⟩ := spec_poOp.mono_l k
 unfold spec_poOp.f
 repeat' with_reducible first
   | exact ih0 _ _ _ _ _ _
   | exact ih1 _ _ _ _ _ _ _
   | exact ih2 _ _ _ _ _ _
   | exact spec_poProduct.mono _ _ _
   | exact spec_poSum.mono _ _ _
   | exact spec_poTrim.mono _ _
   | exact vw _
   | exact LeO.none _
   | refine LeO.ite ?_ ?_
   | refine vj ?_ (fun _ => ?_)
def spec_poOp.T4 : Bool × List (List Nat × List Nat) := (true, [([], []), ([0], [0]), ([1], [1]), ([2], [2]), ([], []), ([4], [4]), ([5, 3], [5]), ([6, 6], [6]), ([7], [7]), ([8, 7], [7, 8]), ([9, 7], [7, 9]), ([7, 10], [7, 10]), ([3, 7, 0, 1, 2, 3], [3]), ([11, 12, 0, 1, 2, 3, 4, 5, 6, 7, 8, 9, 10, 11, 12], [11])])
def spec_poOp.B4 : List Nat := [0, 1, 3, 7, 0, 16, 63, 127, 255, 511, 1023, 2047, 255, 8191]
theorem spec_poOp.tab4 : rtab .any (opsOf Try.f235 4) = spec_poOp.T4 := by kernel_rfl
theorem spec_poOp.bits4 : waitsOk spec_poOp.T4.2 spec_poOp.B4 = true := by kernel_rfl
def spec_poOp.T6 : Bool × List (List Nat × List Nat) := (true, [([], []), ([], []), ([1], [1]), ([0, 2], [0, 2]), ([3], [3]), ([], []), ([], []), ([6], [6]), ([5, 7], [5, 7]), ([8], [8]), ([4, 9], [4, 9]), ([10, 10, 0, 1, 2, 3, 4, 5, 6, 7, 8, 9, 10], [10]), ([11, 0, 1, 2, 3, 4, 5, 6, 7, 8, 9, 10, 11], [])])
def spec_poOp.B6 : List Nat := [0, 0, 2, 7, 15, 0, 0, 64, 224, 480, 1023, 2047, 4095]
theorem spec_poOp.tab6 : rtab .any (opsOf Try.f235 6) = spec_poOp.T6 := by kernel_rfl
theorem spec_poOp.bits6 : waitsOk spec_poOp.T6.2 spec_poOp.B6 = true := by kernel_rfl
def spec_poOp.T8 : Bool × List (List Nat × List Nat) := (true, [([], []), ([], []), ([1], [1]), ([0, 2], [0, 2]), ([3], [3]), ([], []), ([5], [5]), ([6], [6]), ([7], [7]), ([4, 8, 8], [4, 8]), ([9, 9, 0, 1, 2, 3, 4, 5, 6, 7, 8, 9], [9]), ([10, 0, 1, 2, 3, 4, 5, 6, 7, 8, 9, 10], [])])
def spec_poOp.B8 : List Nat := [0, 0, 2, 7, 15, 0, 32, 96, 224, 511, 1023, 2047]
theorem spec_poOp.tab8 : rtab .any (opsOf Try.f235 8) = spec_poOp.T8 := by kernel_rfl
theorem spec_poOp.bits8 : waitsOk spec_poOp.T8.2 spec_poOp.B8 = true := by kernel_rfl
def spec_poOp.T10 : Bool × List (List Nat × List Nat) := (true, [([], []), ([], []), ([1], [1]), ([0, 2], [0, 2]), ([3], [3]), ([], []), ([], []), ([6], [6]), ([5, 7], [5, 7]), ([8], [8]), ([4, 9], [4, 9]), ([10, 10, 0, 1, 2, 3, 4, 5, 6, 7, 8, 9, 10], [10]), ([11, 0, 1, 2, 3, 4, 5, 6, 7, 8, 9, 10, 11], [])])
def spec_poOp.B10 : List Nat := [0, 0, 2, 7, 15, 0, 0, 64, 224, 480, 1023, 2047, 4095]
theorem spec_poOp.tab10 : rtab .any (opsOf Try.f235 10) = spec_poOp.T10 := by kernel_rfl
theorem spec_poOp.bits10 : waitsOk spec_poOp.T10.2 spec_poOp.B10 = true := by kernel_rfl
set_option maxHeartbeats 8000000 in
set_option maxRecDepth 100000 in
theorem spec_poOp.calls (k : Nat) (a0_0 : Int) (a0_1 : Int) (a0_2 : Int) (A1 : Option Addr) (c1 : Nat) (l1 : List (List Int)) (r1 : List Int) (r2 : Bool) (w : World) (hr1 : Kd.C (Kd.slice 3 (Kd.int .i64)) w A1 l1.length l1) (hc1 : l1.length ≤ c1) (h : spec_poOp.f k a0_0 a0_1 a0_2 l1 = some (r1, r2)) :
  Calls Try.prog 235 #[.agg #[.int .i64 a0_0, .int .i64 a0_1, .int .i64 a0_2], .slice A1 l1.length c1] w fun e w' => ∃ v0_ : Value, e = .returned (.tuple #[v0_, .bool r2]) ∧ Kd.R (Kd.int .i64) 3 w' w.heap.size (fun _ => True) v0_ r1 ∧ Below w.heap.size w w' := by
 have hu109 := Try.underlying109
 have HR1 := zz hr1
 have HC1 := zz hc1
 clear hr1 hc1
 have HB := zz (Below.refl w.heap.size w)
 have H : ((spec_l1In.f a0_1 0 (wrap64 ((l1.length : Int) - 1))).bind fun t185 => (if t185 = true then ((spec_l1In.f a0_2 0 (wrap64 ((l1.length : Int) - 1))).bind fun t186 => (spec_poOp.j0 k l1 t185 t186 a0_0 a0_1 a0_2)) else (spec_poOp.j0 k l1 t185 false a0_0 a0_1 a0_2))) = some (r1, r2) := h
 clear h
 replace H := Option.bind_eq_some_iff.mp H
 obtain ⟨t185, A30, H⟩ := H
 replace H : (if t185 = true then ((spec_l1In.f a0_2 0 (wrap64 ((l1.length : Int) - 1))).bind fun t186 => (spec_poOp.j0 k l1 t185 t186 a0_0 a0_1 a0_2)) else (spec_poOp.j0 k l1 t185 false a0_0 a0_1 a0_2)) = some (r1, r2) := H
 have A3 := zz A30
 clear A30
 have HC4 := zz H
 clear H
 go_enter Try.func235, Try.ntmps235
 go_upto_region 2 with (first | ((with_reducible refine gate_dst (N := 2) rfl ?_); (try (refine gate_guard (by rfl) ?_; dsimp only)); refine box_event ?hg (N := 2) ?hd (cs := #[.int .i64 a0_0, .int .i64 a0_1, .int .i64 a0_2]) (t := 109) ?hr ?_; (case hd => rfl); (case hg => rfl); (case hr => first | (go_simp; done) | (go_simp; rfl)); intro gb184 hg w5 hbox hb; have n0_ := zz (zk (by repeat (with_reducible first | exact HB.out | apply zj | apply zq | apply zw)) hb); have n1_ := zz (hbox); have n2_ := zz ((by rw [hg]; exact (zv (by repeat (with_reducible first | exact HB.out | apply zj | apply zq | apply zw))) : w.heap.size ≤ gb184)); have n3_ := zz ((by rw [hg]; exact (zv (by repeat (with_reducible first | exact HB.out | apply zj | apply zq | apply zw))) : w.heap.size ≤ gb184)); clear HB; have HB := n0_; have BK184 := n1_; have GW184 := n2_; have GE184 := n3_; clear n0_ n1_ n2_ n3_; clear hb hbox hg; have hcz6_0 : w5.cell? ⟨gb184, 0, none⟩ = some (.int .i64 a0_0) := (qw BK184.out 0).trans rfl; have hcz6_1 : w5.cell? ⟨gb184, 1, none⟩ = some (.int .i64 a0_1) := (qw BK184.out 1).trans rfl; have hcz6_2 : w5.cell? ⟨gb184, 2, none⟩ = some (.int .i64 a0_2) := (qw BK184.out 2).trans rfl; have hfz6_0 := qx BK184.out 0; have hfz6_1 := qx BK184.out 1; have hfz6_2 := qx BK184.out 2) | ((with_reducible refine gate_callee (f := 93) rfl ?_); refine goesL_ (some 13) rfl rfl Try.func93 (by kernel_rfl) rfl #[.int .i64 a0_1, .int .i64 0, .int .i64 (wrap64 ((l1.length : Int) - 1))] rfl (by (try simp only [yw, List.map_cons, List.map_nil]); first | done | rfl) ?_; (with_reducible refine (spec_l1In.calls a0_1 0 (wrap64 ((l1.length : Int) - 1)) t185 _ A3.out).mono ?_); rintro e w' ⟨rfl, ⟨nd, rfl⟩⟩; refine ⟨_, rfl, ?_⟩))
 (try simp only [Act.put, qv, yq, yj])
 go_cut [7] (fun v7 wc => ∃ (kq : Nat) (x7_3 : Bool), v7 = .bool x7_3 ∧ Aside0 (spec_poOp.j0 kq l1 t185 x7_3 a0_0 a0_1 a0_2 = some (r1, r2)) ∧ Aside0 (kq ≤ k) ∧ Aside0 (wc.heap[gb184]? = some (.cells #[.int .i64 a0_0, .int .i64 a0_1, .int .i64 a0_2] 109 (0, 0))) ∧ Aside0 (Below w.heap.size w wc))
 case first =>
  have H := HC4.out
  clear HC4
  by_cases c7 : t185 = true
  ·subst c7
   have H1 : ((spec_l1In.f a0_2 0 (wrap64 ((l1.length : Int) - 1))).bind fun t186 => (spec_poOp.j0 k l1 true t186 a0_0 a0_1 a0_2)) = some (r1, r2) := by rw [if_pos rfl] at H; exact H
   clear H
   have H := H1
   clear H1
   replace H := Option.bind_eq_some_iff.mp H
   obtain ⟨t186, A80, H⟩ := H
   replace H : (spec_poOp.j0 k l1 true t186 a0_0 a0_1 a0_2) = some (r1, r2) := H
   have A8 := zz A80
   clear A80
   have H' := zz H
   clear H
   have hcz9_0 : w5.cell? ⟨gb184, 0, none⟩ = some (.int .i64 a0_0) := (qw BK184.out 0).trans rfl
   have hcz9_1 : w5.cell? ⟨gb184, 1, none⟩ = some (.int .i64 a0_1) := (qw BK184.out 1).trans rfl
   have hcz9_2 : w5.cell? ⟨gb184, 2, none⟩ = some (.int .i64 a0_2) := (qw BK184.out 2).trans rfl
   have hfz9_0 := qx BK184.out 0
   have hfz9_1 := qx BK184.out 1
   have hfz9_2 := qx BK184.out 2
   go_wp2_with (first | (go_at_call 93; (with_reducible refine (spec_l1In.calls a0_2 0 (wrap64 ((l1.length : Int) - 1)) t186 _ A8.out).mono ?_); rintro e w' ⟨rfl, ⟨nd, rfl⟩⟩))
   go_meet
   case rel => exact ⟨_, (t186), (by first | rfl | (simp; done) | (simp [*]; done)), H', ⟨by first | omega | exact Nat.le_refl _⟩, ⟨by (with_reducible repeat (first | refine qq ?_ _ | refine qj ?_ | refine qz ?_ _)); exact BK184.out⟩, ⟨by repeat (with_reducible first | exact HB.out | apply zj | apply zq | apply zw | refine zx ?_ GE184.out)⟩⟩
  ·replace c7 := Bool.eq_false_iff.mpr c7
   subst c7
   have H1 : (spec_poOp.j0 k l1 false false a0_0 a0_1 a0_2) = some (r1, r2) := by rw [if_neg (show ¬ (false = true) by decide)] at H; exact H
   clear H
   have H := H1
   clear H1
   have H' := zz H
   clear H
   go_wp2
   go_meet
   case rel => exact ⟨_, (false), (by first | rfl | (simp; done) | (simp [*]; done)), H', ⟨by first | omega | exact Nat.le_refl _⟩, ⟨by (with_reducible repeat (first | refine qq ?_ _ | refine qj ?_ | refine qz ?_ _)); exact BK184.out⟩, ⟨by repeat (with_reducible first | exact HB.out | apply zj | apply zq | apply zw | refine zx ?_ GE184.out)⟩⟩
 case rest =>
  clear HC4
  try clear c1
  try clear c2
  try clear p2
  try clear p6
  try clear c7
  try clear c9
  try clear hcz6_0
  try clear hcz6_1
  try clear hcz6_2
  try clear hcz9_0
  try clear hcz9_1
  try clear hcz9_2
  try clear hfz6_0
  try clear hfz6_1
  try clear hfz6_2
  try clear hfz9_0
  try clear hfz9_1
  try clear hfz9_2
  obtain ⟨kq, x7_3, rfl, HA, HJ3, BK184, HB⟩ := hcut
  cases kq with
  | zero => exact absurd HA.out (by simp [spec_poOp.j0])
  | succ kj3 =>
   have H := HA.out
   clear HA
   simp only [spec_poOp.j0] at H
   by_cases c10 : a0_0 = 0
   ·rw [if_pos c10] at H
    have c10b0 : (a0_0 == 0) = true := beq_iff_eq.mpr c10
    have c10b1 : (a0_0 != 0) = false := bne_eq_false_iff_eq.mpr c10
    clear c10
    obtain ⟨y187, hy187⟩ : ∃ y_ : List Int, y_ = (([a0_1] : List Int)) := ⟨_, rfl⟩
    replace H : ((spec_poTrim.f kj3 y187).bind fun t190 => ((spec_l1In.f a0_1 (-1000000) 1000000).bind fun t193 => (if t193 = true then (some (t190, (a0_2 == 0))) else (some (t190, false))))) = some (r1, r2) := by first | (rw [hy187]; with_reducible exact H) | (have H2_ := (Option.bind_some _ _).symm.trans H; rw [hy187]; with_reducible exact H2_) | (have H2_ := (Option.bind_some _ _).symm.trans H; with_reducible exact H2_) | with_reducible exact H | (rw [hy187]; exact H) | exact H
    have Ny187 := zz hy187
    clear hy187
    replace H := Option.bind_eq_some_iff.mp H
    obtain ⟨t190, A110, H⟩ := H
    replace H : ((spec_l1In.f a0_1 (-1000000) 1000000).bind fun t193 => (if t193 = true then (some (t190, (a0_2 == 0))) else (some (t190, false)))) = some (r1, r2) := H
    have A11 := zz A110
    clear A110
    replace H := Option.bind_eq_some_iff.mp H
    obtain ⟨t193, A120, H⟩ := H
    replace H : (if t193 = true then (some (t190, (a0_2 == 0))) else (some (t190, false))) = some (r1, r2) := H
    have A12 := zz A120
    clear A120
    by_cases c13 : t193 = true
    ·subst c13
     have H1 : (some (t190, (a0_2 == 0))) = some (r1, r2) := by rw [if_pos rfl] at H; exact H
     clear H
     have H := H1
     clear H1
     simp only [Option.some.injEq, Prod.mk.injEq] at H
     obtain ⟨rfl, rfl⟩ := H
     have hcz14_0 : wc.cell? ⟨gb184, 0, none⟩ = some (.int .i64 a0_0) := (qw BK184.out 0).trans rfl
     have hcz14_1 : wc.cell? ⟨gb184, 1, none⟩ = some (.int .i64 a0_1) := (qw BK184.out 1).trans rfl
     have hcz14_2 : wc.cell? ⟨gb184, 2, none⟩ = some (.int .i64 a0_2) := (qw BK184.out 2).trans rfl
     have hfz14_0 := qx BK184.out 0
     have hfz14_1 := qx BK184.out 1
     have hfz14_2 := qx BK184.out 2
     try go_wp2
     have n0_ := zz (qj BK184.out)
     have n1_ := zz (zw HB.out)
     clear BK184
     clear HB
     have BK184 := n0_
     have HB := n1_
     clear n0_ n1_
     refine vx (n := 14) (S := fun w' => w'.cell? ⟨gb184, 0, none⟩ = some (.int .i64 a0_0) ∧ w'.cell? ⟨gb184, 1, none⟩ = some (.int .i64 a0_1) ∧ w'.cell? ⟨gb184, 2, none⟩ = some (.int .i64 a0_2)) (ds := []) #[false, false, false, false, false, false, false, false, false, false, false, false, false, false] (by kernel_rfl) rfl rfl ⟨(qw BK184.out 0).trans rfl, (qw BK184.out 1).trans rfl, (qw BK184.out 2).trans rfl⟩ (fun hHeld => ?_); refine vk spec_poOp.tab4 spec_poOp.bits4 (fun HT_ HW_ => ?_)
     generalize wc.drew = w15 at BK184 HB hHeld ⊢
     refine pure_ (i := 0) (N := some 27) (v := ?_) (a' := ?_) #[true, false, false, false, false, false, false, false, false, false, false, false, false, false] rfl rfl (vv HT_.out (by kernel_rfl)) (fun _ _ _ h => h) (Or.inl ⟨by rfl, ?_⟩) ?_ ?_
     rotate_left
     ·intro w'
      go_simp
      with_reducible rfl
     rotate_left
     ·simp only [Act.put, qv, yq, yj, i64_w, i32_w]
      rfl
     refine pure_ (i := 4) (N := some 31) (v := ?_) (a' := ?_) #[true, false, false, false, true, false, false, false, false, false, false, false, false, false] rfl rfl (vv HT_.out (by kernel_rfl)) (fun _ _ _ h => h) (Or.inl ⟨by rfl, ?_⟩) ?_ ?_
     rotate_left
     ·intro w'
      go_simp
      with_reducible rfl
     rotate_left
     ·simp only [Act.put, qv, yq, yj, i64_w, i32_w]
      rfl
     refine take_ (i := 1) (N := some 28) (v := ?_) (a' := ?_) #[true, true, false, false, true, false, false, false, false, false, false, false, false, false] rfl rfl (kz HT_.out HW_.out (by kernel_rfl)) (fun _ _ _ h => h) (Or.inl ⟨by rfl, ?_⟩) hHeld ?_ ?_
     rotate_left
     ·rintro w' ⟨s0, s1, s2⟩
      go_simp
      with_reducible rfl
     rotate_left
     ·simp only [Act.put, qv, yq, yj, i64_w, i32_w]
      rfl
     refine take_ (i := 5) (N := some 32) (v := ?_) (a' := ?_) #[true, true, false, false, true, true, false, false, false, false, false, false, false, false] rfl rfl (kz HT_.out HW_.out (by kernel_rfl)) (fun _ _ _ h => h) (Or.inl ⟨by rfl, ?_⟩) hHeld ?_ ?_
     rotate_left
     ·rintro w' ⟨s0, s1, s2⟩
      go_simp
      with_reducible rfl
     rotate_left
     ·simp only [Act.put, qv, yq, yj, i64_w, i32_w]
      rfl
     refine one_ (i := 2) (N := some 29) #[true, true, true, false, true, true, false, false, false, false, false, false, false, false] rfl rfl (kj HT_.out (by kernel_rfl)) (by decide) (fun K hK => ?_)
     refine Kd.R_lit_step (Kd.int .i64) _ 3 ?hg (N := 29) ?hd (xs := ([a0_1] : List Int)) (inner := [.int .i64 a0_1]) (ok := fun _ => True) (okp := fun _ => True) ?hr ?hp (fun _ hk => hk) trivial (Below.refl _ _) (Nat.le_refl _) (by simp) ?_; (case hd => rfl); (case hg => rfl); (case hr => first | (go_simp; done) | (go_simp; rfl)); (case hp => exact (Reps.one (show Kd.M (Kd.int .i64) _ _ _ a0_1 [.int .i64 a0_1] from rfl) (Reps.none _ _)))
     intro v188 w16 ho17 hb hg_ hnew_
     clear hg_ hnew_
     (first | rw [← Ny187.out] at ho17 | (simp only [Int.reduceToNat] at ho17; rw [← Ny187.out] at ho17))
     have n0_ := zz (Kd.R_lower ho17 (zv (by repeat (with_reducible first | exact HB.out | apply zj | apply zq | apply zw | refine zx ?_ GE184.out))))
     have n1_ := zz (qk (g := gb184) (o := .cells #[.int .i64 a0_0, .int .i64 a0_1, .int .i64 a0_2] 109 (0, 0)) (by (with_reducible repeat (first | refine qq ?_ _ | refine qj ?_ | refine qz ?_ _)); exact BK184.out) hb)
     have n2_ := zz (zk (by repeat (with_reducible first | exact HB.out | apply zj | apply zq | apply zw | refine zx ?_ GE184.out)) hb)
     clear BK184
     clear HB
     have HO189 := n0_
     have BK184 := n1_
     have HB := n2_
     clear n0_ n1_ n2_
     clear hb ho17
     obtain ⟨Ao18, co18, eo18⟩ := vq HO189.out
     (first | subst eo18 | (injection eo18 with f1_ f2_ f3_; have f4_ := f1_.symm; have f5_ := f3_.symm; clear f1_ f2_ f3_; subst f4_; subst f5_))
     refine hK.out _ _ ⟨(qw BK184.out 0).trans rfl, (qw BK184.out 1).trans rfl, (qw BK184.out 2).trans rfl⟩ (fun hHeld => ?_)
     clear hK K
     refine kv (a' := ?_) ?_ ?_
     rotate_left
     ·show Act.put _ (some 29) _ = _
      simp only [Act.put, qv, yq, yj, i64_w, i32_w]
      rfl
     refine one_ (i := 3) (N := some 30) #[true, true, true, true, true, true, false, false, false, false, false, false, false, false] rfl rfl (kj HT_.out (by kernel_rfl)) (by decide) (fun K hK => ?_)
     refine goes_ Try.func248 (by kernel_rfl) rfl #[.slice Ao18 y187.length co18] (by rfl) rfl rfl (by (try simp only [yw, List.map_cons, List.map_nil]); first | done | rfl) ?_
     with_reducible refine (spec_poTrim.calls kj3 _ _ y187 t190 _ ?side1 ?side2 A11.out).mono ?_
     (case side1 => repeat (first | exact (vz HO189.out).2.2 | (with_reducible refine jx ?_ _) | (with_reducible refine jk ?_ _) | (with_reducible refine jv ?_)))
     (case side2 => exact (vz HO189.out).2.1)
     rintro e w19 ⟨v191, rfl, ho0, hb⟩
     refine ⟨_, rfl, ?_⟩
     have n0_ := zz (Kd.R_elder' (by (with_reducible repeat (first | apply jq | apply jj | apply jw)); exact HO189.out) (Kd.R_base ho0) hb)
     have n1_ := zz (Kd.R_lower (Kd.R_new' ho0 (Kd.R_lt (by (with_reducible repeat (first | apply jq | apply jj | apply jw)); exact HO189.out))) (zv (by repeat (with_reducible first | exact HB.out | apply zj | apply zq | apply zw | refine zx ?_ GE184.out))))
     have n2_ := zz (qk (g := gb184) (o := .cells #[.int .i64 a0_0, .int .i64 a0_1, .int .i64 a0_2] 109 (0, 0)) (by (with_reducible repeat (first | refine qq ?_ _ | refine qj ?_ | refine qz ?_ _)); exact BK184.out) hb)
     have n3_ := zz (zk (by repeat (with_reducible first | exact HB.out | apply zj | apply zq | apply zw | refine zx ?_ GE184.out)) hb)
     clear HO189
     clear BK184
     clear HB
     have HO189 := n0_
     have HO192 := n1_
     have BK184 := n2_
     have HB := n3_
     clear n0_ n1_ n2_ n3_
     (try clear hb)
     (try clear hb2)
     (try clear hk)
     (try clear hi)
     (try clear ho0)
     refine hK.out _ _ ⟨(qw BK184.out 0).trans rfl, (qw BK184.out 1).trans rfl, (qw BK184.out 2).trans rfl⟩ (fun hHeld => ?_)
     clear hK K
     refine kv (a' := ?_) ?_ ?_
     rotate_left
     ·show Act.put _ (some 30) _ = _
      simp only [Act.put, qv, yq, yj, i64_w, i32_w]
      rfl
     refine one_ (i := 6) (N := some 33) #[true, true, true, true, true, true, true, false, false, false, false, false, false, false] rfl rfl (kj HT_.out (by kernel_rfl)) (by decide) (fun K hK => ?_)
     refine goes_ Try.func93 (by kernel_rfl) rfl #[.int .i64 a0_1, .int .i64 (-1000000), .int .i64 1000000] (by rfl) rfl rfl (by (try simp only [yw, List.map_cons, List.map_nil]); first | done | rfl) ?_
     with_reducible refine (spec_l1In.calls a0_1 (-1000000) 1000000 true _ A12.out).mono ?_
     rintro e w' ⟨rfl, ⟨nd, rfl⟩⟩
     refine ⟨_, rfl, ?_⟩
     refine hK.out _ _ ⟨(qw BK184.out 0).trans rfl, (qw BK184.out 1).trans rfl, (qw BK184.out 2).trans rfl⟩ (fun hHeld => ?_)
     clear hK K
     refine kv (a' := ?_) ?_ ?_
     rotate_left
     ·show Act.put _ (some 33) _ = _
      simp only [Act.put, qv, yq, yj, i64_w, i32_w]
      rfl
     refine pure_ (i := 7) (N := some 34) (v := ?_) (a' := ?_) #[true, true, true, true, true, true, true, true, false, false, false, false, false, false] rfl rfl (vv HT_.out (by kernel_rfl)) (fun _ _ _ h => h) (Or.inl ⟨by rfl, ?_⟩) ?_ ?_
     rotate_left
     ·intro w'
      go_simp
      with_reducible rfl
     rotate_left
     ·simp only [Act.put, qv, yq, yj, i64_w, i32_w]
      rfl
     refine pure_ (i := 8) (N := some 35) (v := ?_) (a' := ?_) #[true, true, true, true, true, true, true, true, true, false, false, false, false, false] rfl rfl (vv HT_.out (by kernel_rfl)) (fun _ _ _ h => h) (Or.inl ⟨by rfl, ?_⟩) ?_ ?_
     rotate_left
     ·intro w'
      go_simp
      with_reducible rfl
     rotate_left
     ·simp only [Act.put, qv, yq, yj, i64_w, i32_w]
      rfl
     refine pure_ (i := 12) (N := some 4) (v := ?_) (a' := ?_) #[true, true, true, true, true, true, true, true, true, false, false, false, true, false] rfl rfl (vv HT_.out (by kernel_rfl)) (fun _ _ _ h => h) (Or.inl ⟨by rfl, ?_⟩) ?_ ?_
     rotate_left
     ·intro w'
      go_simp
      with_reducible rfl
     rotate_left
     ·simp only [Act.put, qv, yq, yj, i64_w, i32_w]
      rfl
     refine take_ (i := 9) (N := some 36) (v := ?_) (a' := ?_) #[true, true, true, true, true, true, true, true, true, true, false, false, true, false] rfl rfl (kz HT_.out HW_.out (by kernel_rfl)) (fun _ _ _ h => h) (Or.inl ⟨by rfl, ?_⟩) hHeld ?_ ?_
     rotate_left
     ·rintro w' ⟨s0, s1, s2⟩
      go_simp
      with_reducible rfl
     rotate_left
     ·simp only [Act.put, qv, yq, yj, i64_w, i32_w]
      rfl
     refine pure_ (i := 10) (N := some 37) (v := ?_) (a' := ?_) #[true, true, true, true, true, true, true, true, true, true, true, false, true, false] rfl rfl (vv HT_.out (by kernel_rfl)) (fun _ _ _ h => h) (Or.inl ⟨by rfl, ?_⟩) ?_ ?_
     rotate_left
     ·intro w'
      go_simp
      with_reducible rfl
     rotate_left
     ·simp only [Act.put, qv, yq, yj, i64_w, i32_w]
      rfl
     refine pure_ (i := 11) (N := some 38) (v := ?_) (a' := ?_) #[true, true, true, true, true, true, true, true, true, true, true, true, true, false] rfl rfl (vv HT_.out (by kernel_rfl)) (fun _ _ _ h => h) (Or.inl ⟨by rfl, ?_⟩) ?_ ?_
     rotate_left
     ·intro w'
      go_simp
      with_reducible rfl
     rotate_left
     ·simp only [Act.put, qv, yq, yj, i64_w, i32_w]
      rfl
     refine pure_ (i := 13) (N := some 5) (v := ?_) (a' := ?_) #[true, true, true, true, true, true, true, true, true, true, true, true, true, true] rfl rfl (vv HT_.out (by kernel_rfl)) (fun _ _ _ h => h) (Or.inl ⟨by rfl, ?_⟩) ?_ ?_
     rotate_left
     ·intro w'
      go_simp
      with_reducible rfl
     rotate_left
     ·simp only [Act.put, qv, yq, yj, i64_w, i32_w]
      rfl
     refine done_ (kw HT_.out (by kernel_rfl)) ?_
     try go_wp2
     go_ret2
     exact ⟨_, by first | rfl | (simp <;> rfl) | (simp [*] <;> rfl), by (with_reducible repeat (first | apply jq | apply jj | apply jw)); exact yv HO192.out (fun _ hk => trivial), by repeat (with_reducible first | exact HB.out | apply zj | apply zq | apply zw | refine zx ?_ GE184.out)⟩
    ·replace c13 := Bool.eq_false_iff.mpr c13
     subst c13
     have H1 : (some (t190, false)) = some (r1, r2) := by rw [if_neg (show ¬ (false = true) by decide)] at H; exact H
     clear H
     have H := H1
     clear H1
     simp only [Option.some.injEq, Prod.mk.injEq] at H
     obtain ⟨rfl, rfl⟩ := H
     have hcz20_0 : wc.cell? ⟨gb184, 0, none⟩ = some (.int .i64 a0_0) := (qw BK184.out 0).trans rfl
     have hcz20_1 : wc.cell? ⟨gb184, 1, none⟩ = some (.int .i64 a0_1) := (qw BK184.out 1).trans rfl
     have hcz20_2 : wc.cell? ⟨gb184, 2, none⟩ = some (.int .i64 a0_2) := (qw BK184.out 2).trans rfl
     have hfz20_0 := qx BK184.out 0
     have hfz20_1 := qx BK184.out 1
     have hfz20_2 := qx BK184.out 2
     try go_wp2
     have n0_ := zz (qj BK184.out)
     have n1_ := zz (zw HB.out)
     clear BK184
     clear HB
     have BK184 := n0_
     have HB := n1_
     clear n0_ n1_
     refine vx (n := 14) (S := fun w' => w'.cell? ⟨gb184, 0, none⟩ = some (.int .i64 a0_0) ∧ w'.cell? ⟨gb184, 1, none⟩ = some (.int .i64 a0_1) ∧ w'.cell? ⟨gb184, 2, none⟩ = some (.int .i64 a0_2)) (ds := []) #[false, false, false, false, false, false, false, false, false, false, false, false, false, false] (by kernel_rfl) rfl rfl ⟨(qw BK184.out 0).trans rfl, (qw BK184.out 1).trans rfl, (qw BK184.out 2).trans rfl⟩ (fun hHeld => ?_); refine vk spec_poOp.tab4 spec_poOp.bits4 (fun HT_ HW_ => ?_)
     generalize wc.drew = w21 at BK184 HB hHeld ⊢
     refine pure_ (i := 0) (N := some 27) (v := ?_) (a' := ?_) #[true, false, false, false, false, false, false, false, false, false, false, false, false, false] rfl rfl (vv HT_.out (by kernel_rfl)) (fun _ _ _ h => h) (Or.inl ⟨by rfl, ?_⟩) ?_ ?_
     rotate_left
     ·intro w'
      go_simp
      with_reducible rfl
     rotate_left
     ·simp only [Act.put, qv, yq, yj, i64_w, i32_w]
      rfl
     refine pure_ (i := 4) (N := some 31) (v := ?_) (a' := ?_) #[true, false, false, false, true, false, false, false, false, false, false, false, false, false] rfl rfl (vv HT_.out (by kernel_rfl)) (fun _ _ _ h => h) (Or.inl ⟨by rfl, ?_⟩) ?_ ?_
     rotate_left
     ·intro w'
      go_simp
      with_reducible rfl
     rotate_left
     ·simp only [Act.put, qv, yq, yj, i64_w, i32_w]
      rfl
     refine take_ (i := 1) (N := some 28) (v := ?_) (a' := ?_) #[true, true, false, false, true, false, false, false, false, false, false, false, false, false] rfl rfl (kz HT_.out HW_.out (by kernel_rfl)) (fun _ _ _ h => h) (Or.inl ⟨by rfl, ?_⟩) hHeld ?_ ?_
     rotate_left
     ·rintro w' ⟨s0, s1, s2⟩
      go_simp
      with_reducible rfl
     rotate_left
     ·simp only [Act.put, qv, yq, yj, i64_w, i32_w]
      rfl
     refine take_ (i := 5) (N := some 32) (v := ?_) (a' := ?_) #[true, true, false, false, true, true, false, false, false, false, false, false, false, false] rfl rfl (kz HT_.out HW_.out (by kernel_rfl)) (fun _ _ _ h => h) (Or.inl ⟨by rfl, ?_⟩) hHeld ?_ ?_
     rotate_left
     ·rintro w' ⟨s0, s1, s2⟩
      go_simp
      with_reducible rfl
     rotate_left
     ·simp only [Act.put, qv, yq, yj, i64_w, i32_w]
      rfl
     refine one_ (i := 2) (N := some 29) #[true, true, true, false, true, true, false, false, false, false, false, false, false, false] rfl rfl (kj HT_.out (by kernel_rfl)) (by decide) (fun K hK => ?_)
     refine Kd.R_lit_step (Kd.int .i64) _ 3 ?hg (N := 29) ?hd (xs := ([a0_1] : List Int)) (inner := [.int .i64 a0_1]) (ok := fun _ => True) (okp := fun _ => True) ?hr ?hp (fun _ hk => hk) trivial (Below.refl _ _) (Nat.le_refl _) (by simp) ?_; (case hd => rfl); (case hg => rfl); (case hr => first | (go_simp; done) | (go_simp; rfl)); (case hp => exact (Reps.one (show Kd.M (Kd.int .i64) _ _ _ a0_1 [.int .i64 a0_1] from rfl) (Reps.none _ _)))
     intro v188 w22 ho23 hb hg_ hnew_
     clear hg_ hnew_
     (first | rw [← Ny187.out] at ho23 | (simp only [Int.reduceToNat] at ho23; rw [← Ny187.out] at ho23))
     have n0_ := zz (Kd.R_lower ho23 (zv (by repeat (with_reducible first | exact HB.out | apply zj | apply zq | apply zw | refine zx ?_ GE184.out))))
     have n1_ := zz (qk (g := gb184) (o := .cells #[.int .i64 a0_0, .int .i64 a0_1, .int .i64 a0_2] 109 (0, 0)) (by (with_reducible repeat (first | refine qq ?_ _ | refine qj ?_ | refine qz ?_ _)); exact BK184.out) hb)
     have n2_ := zz (zk (by repeat (with_reducible first | exact HB.out | apply zj | apply zq | apply zw | refine zx ?_ GE184.out)) hb)
     clear BK184
     clear HB
     have HO189 := n0_
     have BK184 := n1_
     have HB := n2_
     clear n0_ n1_ n2_
     clear hb ho23
     obtain ⟨Ao24, co24, eo24⟩ := vq HO189.out
     (first | subst eo24 | (injection eo24 with f1_ f2_ f3_; have f4_ := f1_.symm; have f5_ := f3_.symm; clear f1_ f2_ f3_; subst f4_; subst f5_))
     refine hK.out _ _ ⟨(qw BK184.out 0).trans rfl, (qw BK184.out 1).trans rfl, (qw BK184.out 2).trans rfl⟩ (fun hHeld => ?_)
     clear hK K
     refine kv (a' := ?_) ?_ ?_
     rotate_left
     ·show Act.put _ (some 29) _ = _
      simp only [Act.put, qv, yq, yj, i64_w, i32_w]
      rfl
     refine one_ (i := 3) (N := some 30) #[true, true, true, true, true, true, false, false, false, false, false, false, false, false] rfl rfl (kj HT_.out (by kernel_rfl)) (by decide) (fun K hK => ?_)
     refine goes_ Try.func248 (by kernel_rfl) rfl #[.slice Ao24 y187.length co24] (by rfl) rfl rfl (by (try simp only [yw, List.map_cons, List.map_nil]); first | done | rfl) ?_
     with_reducible refine (spec_poTrim.calls kj3 _ _ y187 t190 _ ?side1 ?side2 A11.out).mono ?_
     (case side1 => repeat (first | exact (vz HO189.out).2.2 | (with_reducible refine jx ?_ _) | (with_reducible refine jk ?_ _) | (with_reducible refine jv ?_)))
     (case side2 => exact (vz HO189.out).2.1)
     rintro e w25 ⟨v191, rfl, ho0, hb⟩
     refine ⟨_, rfl, ?_⟩
     have n0_ := zz (Kd.R_elder' (by (with_reducible repeat (first | apply jq | apply jj | apply jw)); exact HO189.out) (Kd.R_base ho0) hb)
     have n1_ := zz (Kd.R_lower (Kd.R_new' ho0 (Kd.R_lt (by (with_reducible repeat (first | apply jq | apply jj | apply jw)); exact HO189.out))) (zv (by repeat (with_reducible first | exact HB.out | apply zj | apply zq | apply zw | refine zx ?_ GE184.out))))
     have n2_ := zz (qk (g := gb184) (o := .cells #[.int .i64 a0_0, .int .i64 a0_1, .int .i64 a0_2] 109 (0, 0)) (by (with_reducible repeat (first | refine qq ?_ _ | refine qj ?_ | refine qz ?_ _)); exact BK184.out) hb)
     have n3_ := zz (zk (by repeat (with_reducible first | exact HB.out | apply zj | apply zq | apply zw | refine zx ?_ GE184.out)) hb)
     clear HO189
     clear BK184
     clear HB
     have HO189 := n0_
     have HO192 := n1_
     have BK184 := n2_
     have HB := n3_
     clear n0_ n1_ n2_ n3_
     (try clear hb)
     (try clear hb2)
     (try clear hk)
     (try clear hi)
     (try clear ho0)
     refine hK.out _ _ ⟨(qw BK184.out 0).trans rfl, (qw BK184.out 1).trans rfl, (qw BK184.out 2).trans rfl⟩ (fun hHeld => ?_)
     clear hK K
     refine kv (a' := ?_) ?_ ?_
     rotate_left
     ·show Act.put _ (some 30) _ = _
      simp only [Act.put, qv, yq, yj, i64_w, i32_w]
      rfl
     refine one_ (i := 6) (N := some 33) #[true, true, true, true, true, true, true, false, false, false, false, false, false, false] rfl rfl (kj HT_.out (by kernel_rfl)) (by decide) (fun K hK => ?_)
     refine goes_ Try.func93 (by kernel_rfl) rfl #[.int .i64 a0_1, .int .i64 (-1000000), .int .i64 1000000] (by rfl) rfl rfl (by (try simp only [yw, List.map_cons, List.map_nil]); first | done | rfl) ?_
     with_reducible refine (spec_l1In.calls a0_1 (-1000000) 1000000 false _ A12.out).mono ?_
     rintro e w' ⟨rfl, ⟨nd, rfl⟩⟩
     refine ⟨_, rfl, ?_⟩
     refine hK.out _ _ ⟨(qw BK184.out 0).trans rfl, (qw BK184.out 1).trans rfl, (qw BK184.out 2).trans rfl⟩ (fun hHeld => ?_)
     clear hK K
     refine kv (a' := ?_) ?_ ?_
     rotate_left
     ·show Act.put _ (some 33) _ = _
      simp only [Act.put, qv, yq, yj, i64_w, i32_w]
      rfl
     refine pure_ (i := 7) (N := some 34) (v := ?_) (a' := ?_) #[true, true, true, true, true, true, true, true, false, false, false, false, false, false] rfl rfl (vv HT_.out (by kernel_rfl)) (fun _ _ _ h => h) (Or.inl ⟨by rfl, ?_⟩) ?_ ?_
     rotate_left
     ·intro w'
      go_simp
      with_reducible rfl
     rotate_left
     ·simp only [Act.put, qv, yq, yj, i64_w, i32_w]
      rfl
     refine pure_ (i := 8) (N := some 35) (v := undef) (a' := ?_) #[true, true, true, true, true, true, true, true, true, false, false, false, false, false] rfl rfl (vv HT_.out (by kernel_rfl)) (fun _ _ _ h => h) (Or.inr ⟨by rfl, rfl⟩) ?_ ?_
     rotate_left
     ·simp only [Act.put, qv, yq, yj, i64_w, i32_w]
      rfl
     refine pure_ (i := 9) (N := some 36) (v := undef) (a' := ?_) #[true, true, true, true, true, true, true, true, true, true, false, false, false, false] rfl rfl (vv HT_.out (by kernel_rfl)) (fun _ _ _ h => h) (Or.inr ⟨by rfl, rfl⟩) ?_ ?_
     rotate_left
     ·simp only [Act.put, qv, yq, yj, i64_w, i32_w]
      rfl
     refine pure_ (i := 10) (N := some 37) (v := undef) (a' := ?_) #[true, true, true, true, true, true, true, true, true, true, true, false, false, false] rfl rfl (vv HT_.out (by kernel_rfl)) (fun _ _ _ h => h) (Or.inr ⟨by rfl, rfl⟩) ?_ ?_
     rotate_left
     ·simp only [Act.put, qv, yq, yj, i64_w, i32_w]
      rfl
     refine pure_ (i := 11) (N := some 38) (v := ?_) (a' := ?_) #[true, true, true, true, true, true, true, true, true, true, true, true, false, false] rfl rfl (vv HT_.out (by kernel_rfl)) (fun _ _ _ h => h) (Or.inl ⟨by rfl, ?_⟩) ?_ ?_
     rotate_left
     ·intro w'
      go_simp
      with_reducible rfl
     rotate_left
     ·simp only [Act.put, qv, yq, yj, i64_w, i32_w]
      rfl
     refine pure_ (i := 12) (N := some 4) (v := ?_) (a' := ?_) #[true, true, true, true, true, true, true, true, true, true, true, true, true, false] rfl rfl (vv HT_.out (by kernel_rfl)) (fun _ _ _ h => h) (Or.inl ⟨by rfl, ?_⟩) ?_ ?_
     rotate_left
     ·intro w'
      go_simp
      with_reducible rfl
     rotate_left
     ·simp only [Act.put, qv, yq, yj, i64_w, i32_w]
      rfl
     refine pure_ (i := 13) (N := some 5) (v := ?_) (a' := ?_) #[true, true, true, true, true, true, true, true, true, true, true, true, true, true] rfl rfl (vv HT_.out (by kernel_rfl)) (fun _ _ _ h => h) (Or.inl ⟨by rfl, ?_⟩) ?_ ?_
     rotate_left
     ·intro w'
      go_simp
      with_reducible rfl
     rotate_left
     ·simp only [Act.put, qv, yq, yj, i64_w, i32_w]
      rfl
     refine done_ (kw HT_.out (by kernel_rfl)) ?_
     try go_wp2
     go_ret2
     exact ⟨_, by first | rfl | (simp <;> rfl) | (simp [*] <;> rfl), by (with_reducible repeat (first | apply jq | apply jj | apply jw)); exact yv HO192.out (fun _ hk => trivial), by repeat (with_reducible first | exact HB.out | apply zj | apply zq | apply zw | refine zx ?_ GE184.out)⟩
   ·rw [if_neg c10] at H
    have c10b0 : (a0_0 == 0) = false := beq_eq_false_iff_ne.mpr c10
    have c10b1 : (a0_0 != 0) = true := bne_iff_ne.mpr c10
    have HC26 := zz H
    clear H
    have hcz27_0 : wc.cell? ⟨gb184, 0, none⟩ = some (.int .i64 a0_0) := (qw BK184.out 0).trans rfl
    have hcz27_1 : wc.cell? ⟨gb184, 1, none⟩ = some (.int .i64 a0_1) := (qw BK184.out 1).trans rfl
    have hcz27_2 : wc.cell? ⟨gb184, 2, none⟩ = some (.int .i64 a0_2) := (qw BK184.out 2).trans rfl
    have hfz27_0 := qx BK184.out 0
    have hfz27_1 := qx BK184.out 1
    have hfz27_2 := qx BK184.out 2
    go_upto_region 5 with (fail)
    go_cut [39] (fun v39 wc => ∃ (kq : Nat) (x39_25 : Bool), v39 = .bool x39_25 ∧ Aside0 (spec_poOp.j1 kq l1 t185 x7_3 x39_25 a0_0 a0_1 a0_2 = some (r1, r2)) ∧ Aside0 (kq ≤ kj3) ∧ Aside0 (wc.heap[gb184]? = some (.cells #[.int .i64 a0_0, .int .i64 a0_1, .int .i64 a0_2] 109 (0, 0))) ∧ Aside0 (Below w.heap.size w wc))
    case first =>
     have H := HC26.out
     clear HC26
     by_cases c28 : a0_0 = 1
     ·rw [if_pos c28] at H
      have c28b0 : (a0_0 == 1) = true := beq_iff_eq.mpr c28
      have c28b1 : (a0_0 != 1) = false := bne_eq_false_iff_eq.mpr c28
      clear c28
      (first | rw [c28b0] | (simp only [i64_w, i32_w]; rw [c28b0]) | skip)
      have H' := zz H
      clear H
      have hcz29_0 : wc.cell? ⟨gb184, 0, none⟩ = some (.int .i64 a0_0) := (qw BK184.out 0).trans rfl
      have hcz29_1 : wc.cell? ⟨gb184, 1, none⟩ = some (.int .i64 a0_1) := (qw BK184.out 1).trans rfl
      have hcz29_2 : wc.cell? ⟨gb184, 2, none⟩ = some (.int .i64 a0_2) := (qw BK184.out 2).trans rfl
      have hfz29_0 := qx BK184.out 0
      have hfz29_1 := qx BK184.out 1
      have hfz29_2 := qx BK184.out 2
      go_wp2
      go_meet
      case rel => exact ⟨_, (x7_3), (by first | rfl | (simp; done) | (simp [*]; done)), H', ⟨by have := HJ3.out; first | omega | exact Nat.le_refl _⟩, ⟨by (with_reducible repeat (first | refine qq ?_ _ | refine qj ?_ | refine qz ?_ _)); exact BK184.out⟩, ⟨by repeat (with_reducible first | exact HB.out | apply zj | apply zq | apply zw | refine zx ?_ GE184.out)⟩⟩
     ·rw [if_neg c28] at H
      have c28b0 : (a0_0 == 1) = false := beq_eq_false_iff_ne.mpr c28
      have c28b1 : (a0_0 != 1) = true := bne_iff_ne.mpr c28
      (first | rw [c28b0] | (simp only [i64_w, i32_w]; rw [c28b0]) | skip)
      have H' := zz H
      clear H
      have hcz30_0 : wc.cell? ⟨gb184, 0, none⟩ = some (.int .i64 a0_0) := (qw BK184.out 0).trans rfl
      have hcz30_1 : wc.cell? ⟨gb184, 1, none⟩ = some (.int .i64 a0_1) := (qw BK184.out 1).trans rfl
      have hcz30_2 : wc.cell? ⟨gb184, 2, none⟩ = some (.int .i64 a0_2) := (qw BK184.out 2).trans rfl
      have hfz30_0 := qx BK184.out 0
      have hfz30_1 := qx BK184.out 1
      have hfz30_2 := qx BK184.out 2
      go_wp2
      go_meet
      case rel => exact ⟨_, (false), (by first | rfl | (simp; done) | (simp [*]; done)), H', ⟨by have := HJ3.out; first | omega | exact Nat.le_refl _⟩, ⟨by (with_reducible repeat (first | refine qq ?_ _ | refine qj ?_ | refine qz ?_ _)); exact BK184.out⟩, ⟨by repeat (with_reducible first | exact HB.out | apply zj | apply zq | apply zw | refine zx ?_ GE184.out)⟩⟩
    case rest =>
     clear HC26
     try clear c1
     try clear c2
     try clear p2
     try clear p6
     try clear c7
     try clear c9
     try clear c10
     try clear c10b0
     try clear c10b1
     try clear c13
     try clear c23
     try clear c24
     try clear c28
     try clear c28b0
     try clear c28b1
     try clear hcz14_0
     try clear hcz14_1
     try clear hcz14_2
     try clear hcz20_0
     try clear hcz20_1
     try clear hcz20_2
     try clear hcz27_0
     try clear hcz27_1
     try clear hcz27_2
     try clear hcz29_0
     try clear hcz29_1
     try clear hcz29_2
     try clear hcz30_0
     try clear hcz30_1
     try clear hcz30_2
     try clear hcz6_0
     try clear hcz6_1
     try clear hcz6_2
     try clear hcz9_0
     try clear hcz9_1
     try clear hcz9_2
     try clear hfz14_0
     try clear hfz14_1
     try clear hfz14_2
     try clear hfz20_0
     try clear hfz20_1
     try clear hfz20_2
     try clear hfz27_0
     try clear hfz27_1
     try clear hfz27_2
     try clear hfz29_0
     try clear hfz29_1
     try clear hfz29_2
     try clear hfz30_0
     try clear hfz30_1
     try clear hfz30_2
     try clear hfz6_0
     try clear hfz6_1
     try clear hfz6_2
     try clear hfz9_0
     try clear hfz9_1
     try clear hfz9_2
     try clear p2
     try clear p6
     obtain ⟨kq, x39_25, rfl, HA, HJ25, BK184, HB⟩ := hcut
     cases kq with
     | zero => exact absurd HA.out (by simp [spec_poOp.j1])
     | succ kj25 =>
      have H := HA.out
      clear HA
      simp only [spec_poOp.j1] at H
      by_cases c31 : x39_25 = true
      ·subst c31
       have H1 : (if 0 ≤ a0_1 then (if a0_1 < (l1.length : Int) then (if 0 ≤ a0_2 then (if a0_2 < (l1.length : Int) then ((spec_poSum.f kj25 (rd_L2 l1 a0_1) (rd_L2 l1 a0_2)).bind fun t196 => (some (t196, true))) else (none)) else (none)) else (none)) else (none)) = some (r1, r2) := by rw [if_pos rfl] at H; exact H
       clear H
       have H := H1
       clear H1
       by_cases c32 : 0 ≤ a0_1
       ·rw [if_pos c32] at H
        have c32b0 : decide (0 ≤ a0_1) = true := decide_eq_true c32
        clear c32
        by_cases c33 : a0_1 < (l1.length : Int)
        ·rw [if_pos c33] at H
         have c33b0 : decide (a0_1 < (l1.length : Int)) = true := decide_eq_true c33
         clear c33
         by_cases c34 : 0 ≤ a0_2
         ·rw [if_pos c34] at H
          have c34b0 : decide (0 ≤ a0_2) = true := decide_eq_true c34
          clear c34
          by_cases c35 : a0_2 < (l1.length : Int)
          ·rw [if_pos c35] at H
           have c35b0 : decide (a0_2 < (l1.length : Int)) = true := decide_eq_true c35
           clear c35
           replace H := Option.bind_eq_some_iff.mp H
           obtain ⟨t196, A360, H⟩ := H
           replace H : (some (t196, true)) = some (r1, r2) := H
           have A36 := zz A360
           clear A360
           simp only [Option.some.injEq, Prod.mk.injEq] at H
           obtain ⟨rfl, rfl⟩ := H
           try go_wp2
           have n0_ := zz (qj BK184.out)
           have n1_ := zz (zw HB.out)
           clear BK184
           clear HB
           have BK184 := n0_
           have HB := n1_
           clear n0_ n1_
           have p194 : 0 ≤ (a0_1 : Int) := of_decide_eq_true (by with_reducible assumption)
           have q194 : a0_1 < (l1.length : Int) := of_decide_eq_true (by with_reducible assumption)
           obtain ⟨ad194, A194_0, c194_0, e194, hx194_0, hl194_0, hi194_0⟩ := at_L2 HR1.out a0_1 p194 q194
           have hw194_0 := hx194_0
           cases e194
           replace hx194_0 := (HB.out.cell (jz w _ hx194_0)).trans hx194_0
           have HR194_0 := zz hi194_0
           have HC194_0 := zz hl194_0
           clear hi194_0 hl194_0
           replace p194 := eq_true p194
           replace q194 := eq_true q194
           have p195 : 0 ≤ (a0_2 : Int) := of_decide_eq_true (by with_reducible assumption)
           have q195 : a0_2 < (l1.length : Int) := of_decide_eq_true (by with_reducible assumption)
           obtain ⟨ad195, A195_0, c195_0, e195, hx195_0, hl195_0, hi195_0⟩ := at_L2 HR1.out a0_2 p195 q195
           have hw195_0 := hx195_0
           obtain rfl : ad194 = ad195 := (by injection e195)
           replace hx195_0 := (HB.out.cell (jz w _ hx195_0)).trans hx195_0
           have HR195_0 := zz hi195_0
           have HC195_0 := zz hl195_0
           clear hi195_0 hl195_0
           replace p195 := eq_true p195
           replace q195 := eq_true q195
           refine vx (n := 13) (S := fun w' => w'.cell? ⟨gb184, 0, none⟩ = some (.int .i64 a0_0) ∧ w'.cell? ⟨gb184, 1, none⟩ = some (.int .i64 a0_1) ∧ w'.cell? ⟨gb184, 2, none⟩ = some (.int .i64 a0_2) ∧ w'.cell? (ad194.add (a0_1).toNat) = some (.slice A194_0 (rd_L2 l1 a0_1).length c194_0) ∧ w'.cell? (ad194.add (a0_2).toNat) = some (.slice A195_0 (rd_L2 l1 a0_2).length c195_0)) (ds := []) #[false, false, false, false, false, false, false, false, false, false, false, false, false] (by kernel_rfl) rfl rfl ⟨(qw BK184.out 0).trans rfl, (qw BK184.out 1).trans rfl, (qw BK184.out 2).trans rfl, ((HB.out.cell (jz w _ hw194_0)).trans hw194_0), ((HB.out.cell (jz w _ hw195_0)).trans hw195_0)⟩ (fun hHeld => ?_); refine vk spec_poOp.tab6 spec_poOp.bits6 (fun HT_ HW_ => ?_)
           generalize wc.drew = w37 at BK184 HB HR194_0 HR195_0 hx194_0 hx195_0 hHeld ⊢
           refine pure_ (i := 0) (N := some 46) (v := ?_) (a' := ?_) #[true, false, false, false, false, false, false, false, false, false, false, false, false] rfl rfl (vv HT_.out (by kernel_rfl)) (fun _ _ _ h => h) (Or.inl ⟨by rfl, ?_⟩) ?_ ?_
           rotate_left
           ·intro w'
            go_simp
            with_reducible rfl
           rotate_left
           ·simp only [Act.put, qv, yq, yj, i64_w, i32_w]
            rfl
           refine pure_ (i := 1) (N := some 47) (v := ?_) (a' := ?_) #[true, true, false, false, false, false, false, false, false, false, false, false, false] rfl rfl (vv HT_.out (by kernel_rfl)) (fun _ _ _ h => h) (Or.inl ⟨by rfl, ?_⟩) ?_ ?_
           rotate_left
           ·intro w'
            go_simp
            with_reducible rfl
           rotate_left
           ·simp only [Act.put, qv, yq, yj, i64_w, i32_w]
            rfl
           refine pure_ (i := 5) (N := some 51) (v := ?_) (a' := ?_) #[true, true, false, false, false, true, false, false, false, false, false, false, false] rfl rfl (vv HT_.out (by kernel_rfl)) (fun _ _ _ h => h) (Or.inl ⟨by rfl, ?_⟩) ?_ ?_
           rotate_left
           ·intro w'
            go_simp
            with_reducible rfl
           rotate_left
           ·simp only [Act.put, qv, yq, yj, i64_w, i32_w]
            rfl
           refine pure_ (i := 6) (N := some 52) (v := ?_) (a' := ?_) #[true, true, false, false, false, true, true, false, false, false, false, false, false] rfl rfl (vv HT_.out (by kernel_rfl)) (fun _ _ _ h => h) (Or.inl ⟨by rfl, ?_⟩) ?_ ?_
           rotate_left
           ·intro w'
            go_simp
            with_reducible rfl
           rotate_left
           ·simp only [Act.put, qv, yq, yj, i64_w, i32_w]
            rfl
           refine take_ (i := 2) (N := some 48) (v := ?_) (a' := ?_) #[true, true, true, false, false, true, true, false, false, false, false, false, false] rfl rfl (kz HT_.out HW_.out (by kernel_rfl)) (fun _ _ _ h => h) (Or.inl ⟨by rfl, ?_⟩) hHeld ?_ ?_
           rotate_left
           ·rintro w' ⟨s0, s1, s2, s3, s4⟩
            go_simp
            with_reducible rfl
           rotate_left
           ·simp only [Act.put, qv, yq, yj, i64_w, i32_w]
            rfl
           refine pure_ (i := 3) (N := some 49) (v := ?_) (a' := ?_) #[true, true, true, true, false, true, true, false, false, false, false, false, false] rfl rfl (vv HT_.out (by kernel_rfl)) (fun _ _ _ h => h) (Or.inl ⟨by rfl, ?_⟩) ?_ ?_
           rotate_left
           ·intro w'
            go_simp
            with_reducible rfl
           rotate_left
           ·simp only [Act.put, qv, yq, yj, i64_w, i32_w]
            rfl
           refine take_ (i := 4) (N := some 50) (v := ?_) (a' := ?_) #[true, true, true, true, true, true, true, false, false, false, false, false, false] rfl rfl (kz HT_.out HW_.out (by kernel_rfl)) (fun _ _ _ h => h) (Or.inl ⟨by rfl, ?_⟩) hHeld ?_ ?_
           rotate_left
           ·rintro w' ⟨s0, s1, s2, s3, s4⟩
            go_simp
            with_reducible rfl
           rotate_left
           ·simp only [Act.put, qv, yq, yj, i64_w, i32_w]
            rfl
           refine take_ (i := 7) (N := some 53) (v := ?_) (a' := ?_) #[true, true, true, true, true, true, true, true, false, false, false, false, false] rfl rfl (kz HT_.out HW_.out (by kernel_rfl)) (fun _ _ _ h => h) (Or.inl ⟨by rfl, ?_⟩) hHeld ?_ ?_
           rotate_left
           ·rintro w' ⟨s0, s1, s2, s3, s4⟩
            go_simp
            with_reducible rfl
           rotate_left
           ·simp only [Act.put, qv, yq, yj, i64_w, i32_w]
            rfl
           refine pure_ (i := 8) (N := some 54) (v := ?_) (a' := ?_) #[true, true, true, true, true, true, true, true, true, false, false, false, false] rfl rfl (vv HT_.out (by kernel_rfl)) (fun _ _ _ h => h) (Or.inl ⟨by rfl, ?_⟩) ?_ ?_
           rotate_left
           ·intro w'
            go_simp
            with_reducible rfl
           rotate_left
           ·simp only [Act.put, qv, yq, yj, i64_w, i32_w]
            rfl
           refine take_ (i := 9) (N := some 55) (v := ?_) (a' := ?_) #[true, true, true, true, true, true, true, true, true, true, false, false, false] rfl rfl (kz HT_.out HW_.out (by kernel_rfl)) (fun _ _ _ h => h) (Or.inl ⟨by rfl, ?_⟩) hHeld ?_ ?_
           rotate_left
           ·rintro w' ⟨s0, s1, s2, s3, s4⟩
            go_simp
            with_reducible rfl
           rotate_left
           ·simp only [Act.put, qv, yq, yj, i64_w, i32_w]
            rfl
           refine one_ (i := 10) (N := some 56) #[true, true, true, true, true, true, true, true, true, true, true, false, false] rfl rfl (kj HT_.out (by kernel_rfl)) (by decide) (fun K hK => ?_)
           refine goes_ Try.func249 (by kernel_rfl) rfl #[.slice A194_0 (rd_L2 l1 a0_1).length c194_0, .slice A195_0 (rd_L2 l1 a0_2).length c195_0] (by rfl) rfl rfl (by (try simp only [yw, List.map_cons, List.map_nil]); first | done | rfl) ?_
           with_reducible refine (spec_poSum.calls kj25 _ _ (rd_L2 l1 a0_1) _ _ (rd_L2 l1 a0_2) t196 _ ?side1 ?side2 ?side3 ?side4 A36.out).mono ?_
           (case side1 => repeat (first | exact (yz HR194_0.out HB.out) | (with_reducible refine jx ?_ _) | (with_reducible refine jk ?_ _) | (with_reducible refine jv ?_)))
           (case side2 => exact HC194_0.out)
           (case side3 => repeat (first | exact (yz HR195_0.out HB.out) | (with_reducible refine jx ?_ _) | (with_reducible refine jk ?_ _) | (with_reducible refine jv ?_)))
           (case side4 => exact HC195_0.out)
           rintro e w38 ⟨v197, rfl, ho0, hb⟩
           refine ⟨_, rfl, ?_⟩
           have n0_ := zz (Kd.R_lower ho0 (zv (by repeat (with_reducible first | exact HB.out | apply zj | apply zq | apply zw | refine zx ?_ GE184.out))))
           have n1_ := zz (qk (g := gb184) (o := .cells #[.int .i64 a0_0, .int .i64 a0_1, .int .i64 a0_2] 109 (0, 0)) (by (with_reducible repeat (first | refine qq ?_ _ | refine qj ?_ | refine qz ?_ _)); exact BK184.out) hb)
           have n2_ := zz (zk (by repeat (with_reducible first | exact HB.out | apply zj | apply zq | apply zw | refine zx ?_ GE184.out)) hb)
           clear BK184
           clear HB
           have HO198 := n0_
           have BK184 := n1_
           have HB := n2_
           clear n0_ n1_ n2_
           (try clear hb)
           (try clear hb2)
           (try clear hk)
           (try clear hi)
           (try clear ho0)
           refine hK.out _ _ ⟨(qw BK184.out 0).trans rfl, (qw BK184.out 1).trans rfl, (qw BK184.out 2).trans rfl, ((HB.out.cell (jz w _ hw194_0)).trans hw194_0), ((HB.out.cell (jz w _ hw195_0)).trans hw195_0)⟩ (fun hHeld => ?_)
           clear hK K
           refine kv (a' := ?_) ?_ ?_
           rotate_left
           ·show Act.put _ (some 56) _ = _
            simp only [Act.put, qv, yq, yj, i64_w, i32_w]
            rfl
           refine pure_ (i := 11) (N := some 4) (v := ?_) (a' := ?_) #[true, true, true, true, true, true, true, true, true, true, true, true, false] rfl rfl (vv HT_.out (by kernel_rfl)) (fun _ _ _ h => h) (Or.inl ⟨by rfl, ?_⟩) ?_ ?_
           rotate_left
           ·intro w'
            go_simp
            with_reducible rfl
           rotate_left
           ·simp only [Act.put, qv, yq, yj, i64_w, i32_w]
            rfl
           refine pure_ (i := 12) (N := some 5) (v := ?_) (a' := ?_) #[true, true, true, true, true, true, true, true, true, true, true, true, true] rfl rfl (vv HT_.out (by kernel_rfl)) (fun _ _ _ h => h) (Or.inl ⟨by rfl, ?_⟩) ?_ ?_
           rotate_left
           ·intro w'
            go_simp
            with_reducible rfl
           rotate_left
           ·simp only [Act.put, qv, yq, yj, i64_w, i32_w]
            rfl
           refine done_ (kw HT_.out (by kernel_rfl)) ?_
           try go_wp2
           go_ret2
           exact ⟨_, by first | rfl | (simp <;> rfl) | (simp [*] <;> rfl), by (with_reducible repeat (first | apply jq | apply jj | apply jw)); exact HO198.out, by repeat (with_reducible first | exact HB.out | apply zj | apply zq | apply zw | refine zx ?_ GE184.out)⟩
          ·rw [if_neg c35] at H
           exact absurd H (by simp)
         ·rw [if_neg c34] at H
          exact absurd H (by simp)
        ·rw [if_neg c33] at H
         exact absurd H (by simp)
       ·rw [if_neg c32] at H
        exact absurd H (by simp)
      ·replace c31 := Bool.eq_false_iff.mpr c31
       subst c31
       have H1 : (if a0_0 = 2 then (if t185 = true then ((spec_l1In.f a0_2 (-1000000) 1000000).bind fun t199 => (spec_poOp.j2 kj25 l1 x7_3 t199 a0_0 a0_1 a0_2)) else (spec_poOp.j2 kj25 l1 x7_3 false a0_0 a0_1 a0_2)) else (spec_poOp.j2 kj25 l1 x7_3 false a0_0 a0_1 a0_2)) = some (r1, r2) := by rw [if_neg (show ¬ (false = true) by decide)] at H; exact H
       clear H
       have H := H1
       clear H1
       have HC39 := zz H
       clear H
       go_upto_region 7 with (fail)
       go_cut [57] (fun v57 wc => ∃ (kq : Nat) (x57_38 : Bool), v57 = .bool x57_38 ∧ Aside0 (spec_poOp.j2 kq l1 x7_3 x57_38 a0_0 a0_1 a0_2 = some (r1, r2)) ∧ Aside0 (kq ≤ kj25) ∧ Aside0 (wc.heap[gb184]? = some (.cells #[.int .i64 a0_0, .int .i64 a0_1, .int .i64 a0_2] 109 (0, 0))) ∧ Aside0 (Below w.heap.size w wc))
       case first =>
        have H := HC39.out
        clear HC39
        by_cases c40 : a0_0 = 2
        ·rw [if_pos c40] at H
         have c40b0 : (a0_0 == 2) = true := beq_iff_eq.mpr c40
         have c40b1 : (a0_0 != 2) = false := bne_eq_false_iff_eq.mpr c40
         clear c40
         (first | rw [c40b0] | (simp only [i64_w, i32_w]; rw [c40b0]) | skip)
         by_cases c41 : t185 = true
         ·subst c41
          have H1 : ((spec_l1In.f a0_2 (-1000000) 1000000).bind fun t199 => (spec_poOp.j2 kj25 l1 x7_3 t199 a0_0 a0_1 a0_2)) = some (r1, r2) := by rw [if_pos rfl] at H; exact H
          clear H
          have H := H1
          clear H1
          replace H := Option.bind_eq_some_iff.mp H
          obtain ⟨t199, A420, H⟩ := H
          replace H : (spec_poOp.j2 kj25 l1 x7_3 t199 a0_0 a0_1 a0_2) = some (r1, r2) := H
          have A42 := zz A420
          clear A420
          have H' := zz H
          clear H
          have hcz43_0 : wc.cell? ⟨gb184, 0, none⟩ = some (.int .i64 a0_0) := (qw BK184.out 0).trans rfl
          have hcz43_1 : wc.cell? ⟨gb184, 1, none⟩ = some (.int .i64 a0_1) := (qw BK184.out 1).trans rfl
          have hcz43_2 : wc.cell? ⟨gb184, 2, none⟩ = some (.int .i64 a0_2) := (qw BK184.out 2).trans rfl
          have hfz43_0 := qx BK184.out 0
          have hfz43_1 := qx BK184.out 1
          have hfz43_2 := qx BK184.out 2
          go_wp2_with (first | (go_at_call 93; (with_reducible refine (spec_l1In.calls a0_2 (-1000000) 1000000 t199 _ A42.out).mono ?_); rintro e w' ⟨rfl, ⟨nd, rfl⟩⟩))
          go_meet
          case rel => exact ⟨_, (t199), (by first | rfl | (simp; done) | (simp [*]; done)), H', ⟨by have := HJ3.out; have := HJ25.out; first | omega | exact Nat.le_refl _⟩, ⟨by (with_reducible repeat (first | refine qq ?_ _ | refine qj ?_ | refine qz ?_ _)); exact BK184.out⟩, ⟨by repeat (with_reducible first | exact HB.out | apply zj | apply zq | apply zw | refine zx ?_ GE184.out)⟩⟩
         ·replace c41 := Bool.eq_false_iff.mpr c41
          subst c41
          have H1 : (spec_poOp.j2 kj25 l1 x7_3 false a0_0 a0_1 a0_2) = some (r1, r2) := by rw [if_neg (show ¬ (false = true) by decide)] at H; exact H
          clear H
          have H := H1
          clear H1
          have H' := zz H
          clear H
          have hcz44_0 : wc.cell? ⟨gb184, 0, none⟩ = some (.int .i64 a0_0) := (qw BK184.out 0).trans rfl
          have hcz44_1 : wc.cell? ⟨gb184, 1, none⟩ = some (.int .i64 a0_1) := (qw BK184.out 1).trans rfl
          have hcz44_2 : wc.cell? ⟨gb184, 2, none⟩ = some (.int .i64 a0_2) := (qw BK184.out 2).trans rfl
          have hfz44_0 := qx BK184.out 0
          have hfz44_1 := qx BK184.out 1
          have hfz44_2 := qx BK184.out 2
          go_wp2
          go_meet
          case rel => exact ⟨_, (false), (by first | rfl | (simp; done) | (simp [*]; done)), H', ⟨by have := HJ3.out; have := HJ25.out; first | omega | exact Nat.le_refl _⟩, ⟨by (with_reducible repeat (first | refine qq ?_ _ | refine qj ?_ | refine qz ?_ _)); exact BK184.out⟩, ⟨by repeat (with_reducible first | exact HB.out | apply zj | apply zq | apply zw | refine zx ?_ GE184.out)⟩⟩
        ·rw [if_neg c40] at H
         have c40b0 : (a0_0 == 2) = false := beq_eq_false_iff_ne.mpr c40
         have c40b1 : (a0_0 != 2) = true := bne_iff_ne.mpr c40
         (first | rw [c40b0] | (simp only [i64_w, i32_w]; rw [c40b0]) | skip)
         have H' := zz H
         clear H
         have hcz45_0 : wc.cell? ⟨gb184, 0, none⟩ = some (.int .i64 a0_0) := (qw BK184.out 0).trans rfl
         have hcz45_1 : wc.cell? ⟨gb184, 1, none⟩ = some (.int .i64 a0_1) := (qw BK184.out 1).trans rfl
         have hcz45_2 : wc.cell? ⟨gb184, 2, none⟩ = some (.int .i64 a0_2) := (qw BK184.out 2).trans rfl
         have hfz45_0 := qx BK184.out 0
         have hfz45_1 := qx BK184.out 1
         have hfz45_2 := qx BK184.out 2
         go_wp2
         go_meet
         case rel => exact ⟨_, (false), (by first | rfl | (simp; done) | (simp [*]; done)), H', ⟨by have := HJ3.out; have := HJ25.out; first | omega | exact Nat.le_refl _⟩, ⟨by (with_reducible repeat (first | refine qq ?_ _ | refine qj ?_ | refine qz ?_ _)); exact BK184.out⟩, ⟨by repeat (with_reducible first | exact HB.out | apply zj | apply zq | apply zw | refine zx ?_ GE184.out)⟩⟩
       case rest =>
        clear HC39
        try clear c1
        try clear p1
        try clear q1
        try clear hx1
        try clear c2
        try clear p2
        try clear c3
        try clear c4
        try clear p6
        try clear c7
        try clear c9
        try clear c10
        try clear c10b0
        try clear c10b1
        try clear c13
        try clear c19
        try clear p19
        try clear q19
        try clear hx19
        try clear c23
        try clear c24
        try clear c28
        try clear c28b0
        try clear c28b1
        try clear c31
        try clear c32
        try clear c32b0
        try clear c33
        try clear c33b0
        try clear c34
        try clear c34b0
        try clear c35
        try clear c35b0
        try clear c40
        try clear c40b0
        try clear c40b1
        try clear c41
        try clear hcz14_0
        try clear hcz14_1
        try clear hcz14_2
        try clear hcz20_0
        try clear hcz20_1
        try clear hcz20_2
        try clear hcz27_0
        try clear hcz27_1
        try clear hcz27_2
        try clear hcz29_0
        try clear hcz29_1
        try clear hcz29_2
        try clear hcz30_0
        try clear hcz30_1
        try clear hcz30_2
        try clear hcz43_0
        try clear hcz43_1
        try clear hcz43_2
        try clear hcz44_0
        try clear hcz44_1
        try clear hcz44_2
        try clear hcz45_0
        try clear hcz45_1
        try clear hcz45_2
        try clear hcz6_0
        try clear hcz6_1
        try clear hcz6_2
        try clear hcz9_0
        try clear hcz9_1
        try clear hcz9_2
        try clear hfz14_0
        try clear hfz14_1
        try clear hfz14_2
        try clear hfz20_0
        try clear hfz20_1
        try clear hfz20_2
        try clear hfz27_0
        try clear hfz27_1
        try clear hfz27_2
        try clear hfz29_0
        try clear hfz29_1
        try clear hfz29_2
        try clear hfz30_0
        try clear hfz30_1
        try clear hfz30_2
        try clear hfz43_0
        try clear hfz43_1
        try clear hfz43_2
        try clear hfz44_0
        try clear hfz44_1
        try clear hfz44_2
        try clear hfz45_0
        try clear hfz45_1
        try clear hfz45_2
        try clear hfz6_0
        try clear hfz6_1
        try clear hfz6_2
        try clear hfz9_0
        try clear hfz9_1
        try clear hfz9_2
        try clear hx194_0
        try clear hx195_0
        try clear p194
        try clear p195
        try clear p2
        try clear p6
        try clear q194
        try clear q195
        obtain ⟨kq, x57_38, rfl, HA, HJ38, BK184, HB⟩ := hcut
        cases kq with
        | zero => exact absurd HA.out (by simp [spec_poOp.j2])
        | succ kj38 =>
         have H := HA.out
         clear HA
         simp only [spec_poOp.j2] at H
         by_cases c46 : x57_38 = true
         ·subst c46
          have H1 : (if 0 ≤ a0_1 then (if a0_1 < (l1.length : Int) then ((spec_poTrim.f kj38 (([a0_2] : List Int))).bind fun t204 => ((spec_poProduct.f kj38 (rd_L2 l1 a0_1) t204).bind fun t207 => (some (t207, true)))) else (none)) else (none)) = some (r1, r2) := by rw [if_pos rfl] at H; exact H
          clear H
          have H := H1
          clear H1
          by_cases c47 : 0 ≤ a0_1
          ·rw [if_pos c47] at H
           have c47b0 : decide (0 ≤ a0_1) = true := decide_eq_true c47
           clear c47
           by_cases c48 : a0_1 < (l1.length : Int)
           ·rw [if_pos c48] at H
            have c48b0 : decide (a0_1 < (l1.length : Int)) = true := decide_eq_true c48
            clear c48
            obtain ⟨y201, hy201⟩ : ∃ y_ : List Int, y_ = (([a0_2] : List Int)) := ⟨_, rfl⟩
            replace H : ((spec_poTrim.f kj38 y201).bind fun t204 => ((spec_poProduct.f kj38 (rd_L2 l1 a0_1) t204).bind fun t207 => (some (t207, true)))) = some (r1, r2) := by first | (rw [hy201]; with_reducible exact H) | (have H2_ := (Option.bind_some _ _).symm.trans H; rw [hy201]; with_reducible exact H2_) | (have H2_ := (Option.bind_some _ _).symm.trans H; with_reducible exact H2_) | with_reducible exact H | (rw [hy201]; exact H) | exact H
            have Ny201 := zz hy201
            clear hy201
            replace H := Option.bind_eq_some_iff.mp H
            obtain ⟨t204, A490, H⟩ := H
            replace H : ((spec_poProduct.f kj38 (rd_L2 l1 a0_1) t204).bind fun t207 => (some (t207, true))) = some (r1, r2) := H
            have A49 := zz A490
            clear A490
            replace H := Option.bind_eq_some_iff.mp H
            obtain ⟨t207, A500, H⟩ := H
            replace H : (some (t207, true)) = some (r1, r2) := H
            have A50 := zz A500
            clear A500
            simp only [Option.some.injEq, Prod.mk.injEq] at H
            obtain ⟨rfl, rfl⟩ := H
            try go_wp2
            have n0_ := zz (qj BK184.out)
            have n1_ := zz (zw HB.out)
            clear BK184
            clear HB
            have BK184 := n0_
            have HB := n1_
            clear n0_ n1_
            have p200 : 0 ≤ (a0_1 : Int) := of_decide_eq_true (by with_reducible assumption)
            have q200 : a0_1 < (l1.length : Int) := of_decide_eq_true (by with_reducible assumption)
            obtain ⟨ad200, A200_0, c200_0, e200, hx200_0, hl200_0, hi200_0⟩ := at_L2 HR1.out a0_1 p200 q200
            have hw200_0 := hx200_0
            cases e200
            replace hx200_0 := (HB.out.cell (jz w _ hx200_0)).trans hx200_0
            have HR200_0 := zz hi200_0
            have HC200_0 := zz hl200_0
            clear hi200_0 hl200_0
            replace p200 := eq_true p200
            replace q200 := eq_true q200
            refine vx (n := 12) (S := fun w' => w'.cell? ⟨gb184, 0, none⟩ = some (.int .i64 a0_0) ∧ w'.cell? ⟨gb184, 1, none⟩ = some (.int .i64 a0_1) ∧ w'.cell? ⟨gb184, 2, none⟩ = some (.int .i64 a0_2) ∧ w'.cell? (ad200.add (a0_1).toNat) = some (.slice A200_0 (rd_L2 l1 a0_1).length c200_0)) (ds := []) #[false, false, false, false, false, false, false, false, false, false, false, false] (by kernel_rfl) rfl rfl ⟨(qw BK184.out 0).trans rfl, (qw BK184.out 1).trans rfl, (qw BK184.out 2).trans rfl, ((HB.out.cell (jz w _ hw200_0)).trans hw200_0)⟩ (fun hHeld => ?_); refine vk spec_poOp.tab8 spec_poOp.bits8 (fun HT_ HW_ => ?_)
            generalize wc.drew = w51 at BK184 HB HR200_0 hx200_0 hHeld ⊢
            refine pure_ (i := 0) (N := some 69) (v := ?_) (a' := ?_) #[true, false, false, false, false, false, false, false, false, false, false, false] rfl rfl (vv HT_.out (by kernel_rfl)) (fun _ _ _ h => h) (Or.inl ⟨by rfl, ?_⟩) ?_ ?_
            rotate_left
            ·intro w'
             go_simp
             with_reducible rfl
            rotate_left
            ·simp only [Act.put, qv, yq, yj, i64_w, i32_w]
             rfl
            refine pure_ (i := 1) (N := some 70) (v := ?_) (a' := ?_) #[true, true, false, false, false, false, false, false, false, false, false, false] rfl rfl (vv HT_.out (by kernel_rfl)) (fun _ _ _ h => h) (Or.inl ⟨by rfl, ?_⟩) ?_ ?_
            rotate_left
            ·intro w'
             go_simp
             with_reducible rfl
            rotate_left
            ·simp only [Act.put, qv, yq, yj, i64_w, i32_w]
             rfl
            refine pure_ (i := 5) (N := some 74) (v := ?_) (a' := ?_) #[true, true, false, false, false, true, false, false, false, false, false, false] rfl rfl (vv HT_.out (by kernel_rfl)) (fun _ _ _ h => h) (Or.inl ⟨by rfl, ?_⟩) ?_ ?_
            rotate_left
            ·intro w'
             go_simp
             with_reducible rfl
            rotate_left
            ·simp only [Act.put, qv, yq, yj, i64_w, i32_w]
             rfl
            refine take_ (i := 2) (N := some 71) (v := ?_) (a' := ?_) #[true, true, true, false, false, true, false, false, false, false, false, false] rfl rfl (kz HT_.out HW_.out (by kernel_rfl)) (fun _ _ _ h => h) (Or.inl ⟨by rfl, ?_⟩) hHeld ?_ ?_
            rotate_left
            ·rintro w' ⟨s0, s1, s2, s3⟩
             go_simp
             with_reducible rfl
            rotate_left
            ·simp only [Act.put, qv, yq, yj, i64_w, i32_w]
             rfl
            refine pure_ (i := 3) (N := some 72) (v := ?_) (a' := ?_) #[true, true, true, true, false, true, false, false, false, false, false, false] rfl rfl (vv HT_.out (by kernel_rfl)) (fun _ _ _ h => h) (Or.inl ⟨by rfl, ?_⟩) ?_ ?_
            rotate_left
            ·intro w'
             go_simp
             with_reducible rfl
            rotate_left
            ·simp only [Act.put, qv, yq, yj, i64_w, i32_w]
             rfl
            refine take_ (i := 4) (N := some 73) (v := ?_) (a' := ?_) #[true, true, true, true, true, true, false, false, false, false, false, false] rfl rfl (kz HT_.out HW_.out (by kernel_rfl)) (fun _ _ _ h => h) (Or.inl ⟨by rfl, ?_⟩) hHeld ?_ ?_
            rotate_left
            ·rintro w' ⟨s0, s1, s2, s3⟩
             go_simp
             with_reducible rfl
            rotate_left
            ·simp only [Act.put, qv, yq, yj, i64_w, i32_w]
             rfl
            refine take_ (i := 6) (N := some 75) (v := ?_) (a' := ?_) #[true, true, true, true, true, true, true, false, false, false, false, false] rfl rfl (kz HT_.out HW_.out (by kernel_rfl)) (fun _ _ _ h => h) (Or.inl ⟨by rfl, ?_⟩) hHeld ?_ ?_
            rotate_left
            ·rintro w' ⟨s0, s1, s2, s3⟩
             go_simp
             with_reducible rfl
            rotate_left
            ·simp only [Act.put, qv, yq, yj, i64_w, i32_w]
             rfl
            refine one_ (i := 7) (N := some 76) #[true, true, true, true, true, true, true, true, false, false, false, false] rfl rfl (kj HT_.out (by kernel_rfl)) (by decide) (fun K hK => ?_)
            refine Kd.R_lit_step (Kd.int .i64) _ 3 ?hg (N := 76) ?hd (xs := ([a0_2] : List Int)) (inner := [.int .i64 a0_2]) (ok := fun _ => True) (okp := fun _ => True) ?hr ?hp (fun _ hk => hk) trivial (Below.refl _ _) (Nat.le_refl _) (by simp) ?_; (case hd => rfl); (case hg => rfl); (case hr => first | (go_simp; done) | (go_simp; rfl)); (case hp => exact (Reps.one (show Kd.M (Kd.int .i64) _ _ _ a0_2 [.int .i64 a0_2] from rfl) (Reps.none _ _)))
            intro v202 w52 ho53 hb hg_ hnew_
            clear hg_ hnew_
            (first | rw [← Ny201.out] at ho53 | (simp only [Int.reduceToNat] at ho53; rw [← Ny201.out] at ho53))
            have n0_ := zz (Kd.R_lower ho53 (zv (by repeat (with_reducible first | exact HB.out | apply zj | apply zq | apply zw | refine zx ?_ GE184.out))))
            have n1_ := zz (qk (g := gb184) (o := .cells #[.int .i64 a0_0, .int .i64 a0_1, .int .i64 a0_2] 109 (0, 0)) (by (with_reducible repeat (first | refine qq ?_ _ | refine qj ?_ | refine qz ?_ _)); exact BK184.out) hb)
            have n2_ := zz (zk (by repeat (with_reducible first | exact HB.out | apply zj | apply zq | apply zw | refine zx ?_ GE184.out)) hb)
            clear BK184
            clear HB
            have HO203 := n0_
            have BK184 := n1_
            have HB := n2_
            clear n0_ n1_ n2_
            clear hb ho53
            obtain ⟨Ao54, co54, eo54⟩ := vq HO203.out
            (first | subst eo54 | (injection eo54 with f1_ f2_ f3_; have f4_ := f1_.symm; have f5_ := f3_.symm; clear f1_ f2_ f3_; subst f4_; subst f5_))
            refine hK.out _ _ ⟨(qw BK184.out 0).trans rfl, (qw BK184.out 1).trans rfl, (qw BK184.out 2).trans rfl, ((HB.out.cell (jz w _ hw200_0)).trans hw200_0)⟩ (fun hHeld => ?_)
            clear hK K
            refine kv (a' := ?_) ?_ ?_
            rotate_left
            ·show Act.put _ (some 76) _ = _
             simp only [Act.put, qv, yq, yj, i64_w, i32_w]
             rfl
            refine one_ (i := 8) (N := some 77) #[true, true, true, true, true, true, true, true, true, false, false, false] rfl rfl (kj HT_.out (by kernel_rfl)) (by decide) (fun K hK => ?_)
            refine goes_ Try.func248 (by kernel_rfl) rfl #[.slice Ao54 y201.length co54] (by rfl) rfl rfl (by (try simp only [yw, List.map_cons, List.map_nil]); first | done | rfl) ?_
            with_reducible refine (spec_poTrim.calls kj38 _ _ y201 t204 _ ?side1 ?side2 A49.out).mono ?_
            (case side1 => repeat (first | exact (vz HO203.out).2.2 | (with_reducible refine jx ?_ _) | (with_reducible refine jk ?_ _) | (with_reducible refine jv ?_)))
            (case side2 => exact (vz HO203.out).2.1)
            rintro e w55 ⟨v205, rfl, ho0, hb⟩
            refine ⟨_, rfl, ?_⟩
            have n0_ := zz (Kd.R_elder' (by (with_reducible repeat (first | apply jq | apply jj | apply jw)); exact HO203.out) (Kd.R_base ho0) hb)
            have n1_ := zz (Kd.R_lower (Kd.R_new' ho0 (Kd.R_lt (by (with_reducible repeat (first | apply jq | apply jj | apply jw)); exact HO203.out))) (zv (by repeat (with_reducible first | exact HB.out | apply zj | apply zq | apply zw | refine zx ?_ GE184.out))))
            have n2_ := zz (qk (g := gb184) (o := .cells #[.int .i64 a0_0, .int .i64 a0_1, .int .i64 a0_2] 109 (0, 0)) (by (with_reducible repeat (first | refine qq ?_ _ | refine qj ?_ | refine qz ?_ _)); exact BK184.out) hb)
            have n3_ := zz (zk (by repeat (with_reducible first | exact HB.out | apply zj | apply zq | apply zw | refine zx ?_ GE184.out)) hb)
            clear HO203
            clear BK184
            clear HB
            have HO203 := n0_
            have HO206 := n1_
            have BK184 := n2_
            have HB := n3_
            clear n0_ n1_ n2_ n3_
            (try clear hb)
            (try clear hb2)
            (try clear hk)
            (try clear hi)
            (try clear ho0)
            obtain ⟨Ao56, co56, eo56⟩ := vq HO206.out
            (first | subst eo56 | (injection eo56 with f1_ f2_ f3_; have f4_ := f1_.symm; have f5_ := f3_.symm; clear f1_ f2_ f3_; subst f4_; subst f5_))
            refine hK.out _ _ ⟨(qw BK184.out 0).trans rfl, (qw BK184.out 1).trans rfl, (qw BK184.out 2).trans rfl, ((HB.out.cell (jz w _ hw200_0)).trans hw200_0)⟩ (fun hHeld => ?_)
            clear hK K
            refine kv (a' := ?_) ?_ ?_
            rotate_left
            ·show Act.put _ (some 77) _ = _
             simp only [Act.put, qv, yq, yj, i64_w, i32_w]
             rfl
            refine one_ (i := 9) (N := some 78) #[true, true, true, true, true, true, true, true, true, true, false, false] rfl rfl (kj HT_.out (by kernel_rfl)) (by decide) (fun K hK => ?_)
            refine goes_ Try.func250 (by kernel_rfl) rfl #[.slice A200_0 (rd_L2 l1 a0_1).length c200_0, .slice Ao56 t204.length co56] (by rfl) rfl rfl (by (try simp only [yw, List.map_cons, List.map_nil]); first | done | rfl) ?_
            with_reducible refine (spec_poProduct.calls kj38 _ _ (rd_L2 l1 a0_1) _ _ t204 t207 _ ?side1 ?side2 ?side3 ?side4 A50.out).mono ?_
            (case side1 => repeat (first | exact (yz HR200_0.out HB.out) | (with_reducible refine jx ?_ _) | (with_reducible refine jk ?_ _) | (with_reducible refine jv ?_)))
            (case side2 => exact HC200_0.out)
            (case side3 => repeat (first | exact (vz HO206.out).2.2 | (with_reducible refine jx ?_ _) | (with_reducible refine jk ?_ _) | (with_reducible refine jv ?_)))
            (case side4 => exact (vz HO206.out).2.1)
            rintro e w57 ⟨v208, rfl, ho0, hb⟩
            refine ⟨_, rfl, ?_⟩
            have n0_ := zz (Kd.R_elder' (by (with_reducible repeat (first | apply jq | apply jj | apply jw)); exact HO203.out) (Kd.R_base ho0) hb)
            have n1_ := zz (Kd.R_elder' (by (with_reducible repeat (first | apply jq | apply jj | apply jw)); exact HO206.out) (Kd.R_base ho0) hb)
            have n2_ := zz (Kd.R_lower (Kd.R_new' (Kd.R_new' ho0 (Kd.R_lt (by (with_reducible repeat (first | apply jq | apply jj | apply jw)); exact HO203.out))) (Kd.R_lt (by (with_reducible repeat (first | apply jq | apply jj | apply jw)); exact HO206.out))) (zv (by repeat (with_reducible first | exact HB.out | apply zj | apply zq | apply zw | refine zx ?_ GE184.out))))
            have n3_ := zz (qk (g := gb184) (o := .cells #[.int .i64 a0_0, .int .i64 a0_1, .int .i64 a0_2] 109 (0, 0)) (by (with_reducible repeat (first | refine qq ?_ _ | refine qj ?_ | refine qz ?_ _)); exact BK184.out) hb)
            have n4_ := zz (zk (by repeat (with_reducible first | exact HB.out | apply zj | apply zq | apply zw | refine zx ?_ GE184.out)) hb)
            clear HO203
            clear HO206
            clear BK184
            clear HB
            have HO203 := n0_
            have HO206 := n1_
            have HO209 := n2_
            have BK184 := n3_
            have HB := n4_
            clear n0_ n1_ n2_ n3_ n4_
            (try clear hb)
            (try clear hb2)
            (try clear hk)
            (try clear hi)
            (try clear ho0)
            refine hK.out _ _ ⟨(qw BK184.out 0).trans rfl, (qw BK184.out 1).trans rfl, (qw BK184.out 2).trans rfl, ((HB.out.cell (jz w _ hw200_0)).trans hw200_0)⟩ (fun hHeld => ?_)
            clear hK K
            refine kv (a' := ?_) ?_ ?_
            rotate_left
            ·show Act.put _ (some 78) _ = _
             simp only [Act.put, qv, yq, yj, i64_w, i32_w]
             rfl
            refine pure_ (i := 10) (N := some 4) (v := ?_) (a' := ?_) #[true, true, true, true, true, true, true, true, true, true, true, false] rfl rfl (vv HT_.out (by kernel_rfl)) (fun _ _ _ h => h) (Or.inl ⟨by rfl, ?_⟩) ?_ ?_
            rotate_left
            ·intro w'
             go_simp
             with_reducible rfl
            rotate_left
            ·simp only [Act.put, qv, yq, yj, i64_w, i32_w]
             rfl
            refine pure_ (i := 11) (N := some 5) (v := ?_) (a' := ?_) #[true, true, true, true, true, true, true, true, true, true, true, true] rfl rfl (vv HT_.out (by kernel_rfl)) (fun _ _ _ h => h) (Or.inl ⟨by rfl, ?_⟩) ?_ ?_
            rotate_left
            ·intro w'
             go_simp
             with_reducible rfl
            rotate_left
            ·simp only [Act.put, qv, yq, yj, i64_w, i32_w]
             rfl
            refine done_ (kw HT_.out (by kernel_rfl)) ?_
            try go_wp2
            go_ret2
            exact ⟨_, by first | rfl | (simp <;> rfl) | (simp [*] <;> rfl), by (with_reducible repeat (first | apply jq | apply jj | apply jw)); exact yv HO209.out (fun _ hk => trivial), by repeat (with_reducible first | exact HB.out | apply zj | apply zq | apply zw | refine zx ?_ GE184.out)⟩
           ·rw [if_neg c48] at H
            exact absurd H (by simp)
          ·rw [if_neg c47] at H
           exact absurd H (by simp)
         ·replace c46 := Bool.eq_false_iff.mpr c46
          subst c46
          have H1 : (if a0_0 = 3 then (if x7_3 = true then (if 0 ≤ a0_1 then (if a0_1 < (l1.length : Int) then (if 0 ≤ a0_2 then (if a0_2 < (l1.length : Int) then ((spec_poProduct.f kj38 (rd_L2 l1 a0_1) (rd_L2 l1 a0_2)).bind fun t212 => (some (t212, true))) else (none)) else (none)) else (none)) else (none)) else (some (([] : List Int), false))) else (some (([] : List Int), false))) = some (r1, r2) := by rw [if_neg (show ¬ (false = true) by decide)] at H; exact H
          clear H
          have H := H1
          clear H1
          by_cases c58 : a0_0 = 3
          ·rw [if_pos c58] at H
           have c58b0 : (a0_0 == 3) = true := beq_iff_eq.mpr c58
           have c58b1 : (a0_0 != 3) = false := bne_eq_false_iff_eq.mpr c58
           clear c58
           by_cases c59 : x7_3 = true
           ·subst c59
            have H1 : (if 0 ≤ a0_1 then (if a0_1 < (l1.length : Int) then (if 0 ≤ a0_2 then (if a0_2 < (l1.length : Int) then ((spec_poProduct.f kj38 (rd_L2 l1 a0_1) (rd_L2 l1 a0_2)).bind fun t212 => (some (t212, true))) else (none)) else (none)) else (none)) else (none)) = some (r1, r2) := by rw [if_pos rfl] at H; exact H
            clear H
            have H := H1
            clear H1
            by_cases c60 : 0 ≤ a0_1
            ·rw [if_pos c60] at H
             have c60b0 : decide (0 ≤ a0_1) = true := decide_eq_true c60
             clear c60
             by_cases c61 : a0_1 < (l1.length : Int)
             ·rw [if_pos c61] at H
              have c61b0 : decide (a0_1 < (l1.length : Int)) = true := decide_eq_true c61
              clear c61
              by_cases c62 : 0 ≤ a0_2
              ·rw [if_pos c62] at H
               have c62b0 : decide (0 ≤ a0_2) = true := decide_eq_true c62
               clear c62
               by_cases c63 : a0_2 < (l1.length : Int)
               ·rw [if_pos c63] at H
                have c63b0 : decide (a0_2 < (l1.length : Int)) = true := decide_eq_true c63
                clear c63
                replace H := Option.bind_eq_some_iff.mp H
                obtain ⟨t212, A640, H⟩ := H
                replace H : (some (t212, true)) = some (r1, r2) := H
                have A64 := zz A640
                clear A640
                simp only [Option.some.injEq, Prod.mk.injEq] at H
                obtain ⟨rfl, rfl⟩ := H
                have hcz65_0 : wc.cell? ⟨gb184, 0, none⟩ = some (.int .i64 a0_0) := (qw BK184.out 0).trans rfl
                have hcz65_1 : wc.cell? ⟨gb184, 1, none⟩ = some (.int .i64 a0_1) := (qw BK184.out 1).trans rfl
                have hcz65_2 : wc.cell? ⟨gb184, 2, none⟩ = some (.int .i64 a0_2) := (qw BK184.out 2).trans rfl
                have hfz65_0 := qx BK184.out 0
                have hfz65_1 := qx BK184.out 1
                have hfz65_2 := qx BK184.out 2
                try go_wp2
                have n0_ := zz (qj BK184.out)
                have n1_ := zz (zw HB.out)
                clear BK184
                clear HB
                have BK184 := n0_
                have HB := n1_
                clear n0_ n1_
                have p210 : 0 ≤ (a0_1 : Int) := of_decide_eq_true (by with_reducible assumption)
                have q210 : a0_1 < (l1.length : Int) := of_decide_eq_true (by with_reducible assumption)
                obtain ⟨ad210, A210_0, c210_0, e210, hx210_0, hl210_0, hi210_0⟩ := at_L2 HR1.out a0_1 p210 q210
                have hw210_0 := hx210_0
                cases e210
                replace hx210_0 := (HB.out.cell (jz w _ hx210_0)).trans hx210_0
                have HR210_0 := zz hi210_0
                have HC210_0 := zz hl210_0
                clear hi210_0 hl210_0
                replace p210 := eq_true p210
                replace q210 := eq_true q210
                have p211 : 0 ≤ (a0_2 : Int) := of_decide_eq_true (by with_reducible assumption)
                have q211 : a0_2 < (l1.length : Int) := of_decide_eq_true (by with_reducible assumption)
                obtain ⟨ad211, A211_0, c211_0, e211, hx211_0, hl211_0, hi211_0⟩ := at_L2 HR1.out a0_2 p211 q211
                have hw211_0 := hx211_0
                obtain rfl : ad210 = ad211 := (by injection e211)
                replace hx211_0 := (HB.out.cell (jz w _ hx211_0)).trans hx211_0
                have HR211_0 := zz hi211_0
                have HC211_0 := zz hl211_0
                clear hi211_0 hl211_0
                replace p211 := eq_true p211
                replace q211 := eq_true q211
                refine vx (n := 13) (S := fun w' => w'.cell? ⟨gb184, 0, none⟩ = some (.int .i64 a0_0) ∧ w'.cell? ⟨gb184, 1, none⟩ = some (.int .i64 a0_1) ∧ w'.cell? ⟨gb184, 2, none⟩ = some (.int .i64 a0_2) ∧ w'.cell? (ad210.add (a0_1).toNat) = some (.slice A210_0 (rd_L2 l1 a0_1).length c210_0) ∧ w'.cell? (ad210.add (a0_2).toNat) = some (.slice A211_0 (rd_L2 l1 a0_2).length c211_0)) (ds := []) #[false, false, false, false, false, false, false, false, false, false, false, false, false] (by kernel_rfl) rfl rfl ⟨(qw BK184.out 0).trans rfl, (qw BK184.out 1).trans rfl, (qw BK184.out 2).trans rfl, ((HB.out.cell (jz w _ hw210_0)).trans hw210_0), ((HB.out.cell (jz w _ hw211_0)).trans hw211_0)⟩ (fun hHeld => ?_); refine vk spec_poOp.tab10 spec_poOp.bits10 (fun HT_ HW_ => ?_)
                generalize wc.drew = w66 at BK184 HB HR210_0 HR211_0 hx210_0 hx211_0 hHeld ⊢
                refine pure_ (i := 0) (N := some 86) (v := ?_) (a' := ?_) #[true, false, false, false, false, false, false, false, false, false, false, false, false] rfl rfl (vv HT_.out (by kernel_rfl)) (fun _ _ _ h => h) (Or.inl ⟨by rfl, ?_⟩) ?_ ?_
                rotate_left
                ·intro w'
                 go_simp
                 with_reducible rfl
                rotate_left
                ·simp only [Act.put, qv, yq, yj, i64_w, i32_w]
                 rfl
                refine pure_ (i := 1) (N := some 87) (v := ?_) (a' := ?_) #[true, true, false, false, false, false, false, false, false, false, false, false, false] rfl rfl (vv HT_.out (by kernel_rfl)) (fun _ _ _ h => h) (Or.inl ⟨by rfl, ?_⟩) ?_ ?_
                rotate_left
                ·intro w'
                 go_simp
                 with_reducible rfl
                rotate_left
                ·simp only [Act.put, qv, yq, yj, i64_w, i32_w]
                 rfl
                refine pure_ (i := 5) (N := some 91) (v := ?_) (a' := ?_) #[true, true, false, false, false, true, false, false, false, false, false, false, false] rfl rfl (vv HT_.out (by kernel_rfl)) (fun _ _ _ h => h) (Or.inl ⟨by rfl, ?_⟩) ?_ ?_
                rotate_left
                ·intro w'
                 go_simp
                 with_reducible rfl
                rotate_left
                ·simp only [Act.put, qv, yq, yj, i64_w, i32_w]
                 rfl
                refine pure_ (i := 6) (N := some 92) (v := ?_) (a' := ?_) #[true, true, false, false, false, true, true, false, false, false, false, false, false] rfl rfl (vv HT_.out (by kernel_rfl)) (fun _ _ _ h => h) (Or.inl ⟨by rfl, ?_⟩) ?_ ?_
                rotate_left
                ·intro w'
                 go_simp
                 with_reducible rfl
                rotate_left
                ·simp only [Act.put, qv, yq, yj, i64_w, i32_w]
                 rfl
                refine take_ (i := 2) (N := some 88) (v := ?_) (a' := ?_) #[true, true, true, false, false, true, true, false, false, false, false, false, false] rfl rfl (kz HT_.out HW_.out (by kernel_rfl)) (fun _ _ _ h => h) (Or.inl ⟨by rfl, ?_⟩) hHeld ?_ ?_
                rotate_left
                ·rintro w' ⟨s0, s1, s2, s3, s4⟩
                 go_simp
                 with_reducible rfl
                rotate_left
                ·simp only [Act.put, qv, yq, yj, i64_w, i32_w]
                 rfl
                refine pure_ (i := 3) (N := some 89) (v := ?_) (a' := ?_) #[true, true, true, true, false, true, true, false, false, false, false, false, false] rfl rfl (vv HT_.out (by kernel_rfl)) (fun _ _ _ h => h) (Or.inl ⟨by rfl, ?_⟩) ?_ ?_
                rotate_left
                ·intro w'
                 go_simp
                 with_reducible rfl
                rotate_left
                ·simp only [Act.put, qv, yq, yj, i64_w, i32_w]
                 rfl
                refine take_ (i := 4) (N := some 90) (v := ?_) (a' := ?_) #[true, true, true, true, true, true, true, false, false, false, false, false, false] rfl rfl (kz HT_.out HW_.out (by kernel_rfl)) (fun _ _ _ h => h) (Or.inl ⟨by rfl, ?_⟩) hHeld ?_ ?_
                rotate_left
                ·rintro w' ⟨s0, s1, s2, s3, s4⟩
                 go_simp
                 with_reducible rfl
                rotate_left
                ·simp only [Act.put, qv, yq, yj, i64_w, i32_w]
                 rfl
                refine take_ (i := 7) (N := some 93) (v := ?_) (a' := ?_) #[true, true, true, true, true, true, true, true, false, false, false, false, false] rfl rfl (kz HT_.out HW_.out (by kernel_rfl)) (fun _ _ _ h => h) (Or.inl ⟨by rfl, ?_⟩) hHeld ?_ ?_
                rotate_left
                ·rintro w' ⟨s0, s1, s2, s3, s4⟩
                 go_simp
                 with_reducible rfl
                rotate_left
                ·simp only [Act.put, qv, yq, yj, i64_w, i32_w]
                 rfl
                refine pure_ (i := 8) (N := some 94) (v := ?_) (a' := ?_) #[true, true, true, true, true, true, true, true, true, false, false, false, false] rfl rfl (vv HT_.out (by kernel_rfl)) (fun _ _ _ h => h) (Or.inl ⟨by rfl, ?_⟩) ?_ ?_
                rotate_left
                ·intro w'
                 go_simp
                 with_reducible rfl
                rotate_left
                ·simp only [Act.put, qv, yq, yj, i64_w, i32_w]
                 rfl
                refine take_ (i := 9) (N := some 95) (v := ?_) (a' := ?_) #[true, true, true, true, true, true, true, true, true, true, false, false, false] rfl rfl (kz HT_.out HW_.out (by kernel_rfl)) (fun _ _ _ h => h) (Or.inl ⟨by rfl, ?_⟩) hHeld ?_ ?_
                rotate_left
                ·rintro w' ⟨s0, s1, s2, s3, s4⟩
                 go_simp
                 with_reducible rfl
                rotate_left
                ·simp only [Act.put, qv, yq, yj, i64_w, i32_w]
                 rfl
                refine one_ (i := 10) (N := some 96) #[true, true, true, true, true, true, true, true, true, true, true, false, false] rfl rfl (kj HT_.out (by kernel_rfl)) (by decide) (fun K hK => ?_)
                refine goes_ Try.func250 (by kernel_rfl) rfl #[.slice A210_0 (rd_L2 l1 a0_1).length c210_0, .slice A211_0 (rd_L2 l1 a0_2).length c211_0] (by rfl) rfl rfl (by (try simp only [yw, List.map_cons, List.map_nil]); first | done | rfl) ?_
                with_reducible refine (spec_poProduct.calls kj38 _ _ (rd_L2 l1 a0_1) _ _ (rd_L2 l1 a0_2) t212 _ ?side1 ?side2 ?side3 ?side4 A64.out).mono ?_
                (case side1 => repeat (first | exact (yz HR210_0.out HB.out) | (with_reducible refine jx ?_ _) | (with_reducible refine jk ?_ _) | (with_reducible refine jv ?_)))
                (case side2 => exact HC210_0.out)
                (case side3 => repeat (first | exact (yz HR211_0.out HB.out) | (with_reducible refine jx ?_ _) | (with_reducible refine jk ?_ _) | (with_reducible refine jv ?_)))
                (case side4 => exact HC211_0.out)
                rintro e w67 ⟨v213, rfl, ho0, hb⟩
                refine ⟨_, rfl, ?_⟩
                have n0_ := zz (Kd.R_lower ho0 (zv (by repeat (with_reducible first | exact HB.out | apply zj | apply zq | apply zw | refine zx ?_ GE184.out))))
                have n1_ := zz (qk (g := gb184) (o := .cells #[.int .i64 a0_0, .int .i64 a0_1, .int .i64 a0_2] 109 (0, 0)) (by (with_reducible repeat (first | refine qq ?_ _ | refine qj ?_ | refine qz ?_ _)); exact BK184.out) hb)
                have n2_ := zz (zk (by repeat (with_reducible first | exact HB.out | apply zj | apply zq | apply zw | refine zx ?_ GE184.out)) hb)
                clear BK184
                clear HB
                have HO214 := n0_
                have BK184 := n1_
                have HB := n2_
                clear n0_ n1_ n2_
                (try clear hb)
                (try clear hb2)
                (try clear hk)
                (try clear hi)
                (try clear ho0)
                refine hK.out _ _ ⟨(qw BK184.out 0).trans rfl, (qw BK184.out 1).trans rfl, (qw BK184.out 2).trans rfl, ((HB.out.cell (jz w _ hw210_0)).trans hw210_0), ((HB.out.cell (jz w _ hw211_0)).trans hw211_0)⟩ (fun hHeld => ?_)
                clear hK K
                refine kv (a' := ?_) ?_ ?_
                rotate_left
                ·show Act.put _ (some 96) _ = _
                 simp only [Act.put, qv, yq, yj, i64_w, i32_w]
                 rfl
                refine pure_ (i := 11) (N := some 4) (v := ?_) (a' := ?_) #[true, true, true, true, true, true, true, true, true, true, true, true, false] rfl rfl (vv HT_.out (by kernel_rfl)) (fun _ _ _ h => h) (Or.inl ⟨by rfl, ?_⟩) ?_ ?_
                rotate_left
                ·intro w'
                 go_simp
                 with_reducible rfl
                rotate_left
                ·simp only [Act.put, qv, yq, yj, i64_w, i32_w]
                 rfl
                refine pure_ (i := 12) (N := some 5) (v := ?_) (a' := ?_) #[true, true, true, true, true, true, true, true, true, true, true, true, true] rfl rfl (vv HT_.out (by kernel_rfl)) (fun _ _ _ h => h) (Or.inl ⟨by rfl, ?_⟩) ?_ ?_
                rotate_left
                ·intro w'
                 go_simp
                 with_reducible rfl
                rotate_left
                ·simp only [Act.put, qv, yq, yj, i64_w, i32_w]
                 rfl
                refine done_ (kw HT_.out (by kernel_rfl)) ?_
                try go_wp2
                go_ret2
                exact ⟨_, by first | rfl | (simp <;> rfl) | (simp [*] <;> rfl), by (with_reducible repeat (first | apply jq | apply jj | apply jw)); exact HO214.out, by repeat (with_reducible first | exact HB.out | apply zj | apply zq | apply zw | refine zx ?_ GE184.out)⟩
               ·rw [if_neg c63] at H
                exact absurd H (by simp)
              ·rw [if_neg c62] at H
               exact absurd H (by simp)
             ·rw [if_neg c61] at H
              exact absurd H (by simp)
            ·rw [if_neg c60] at H
             exact absurd H (by simp)
           ·replace c59 := Bool.eq_false_iff.mpr c59
            subst c59
            have H1 : (some (([] : List Int), false)) = some (r1, r2) := by rw [if_neg (show ¬ (false = true) by decide)] at H; exact H
            clear H
            have H := H1
            clear H1
            simp only [Option.some.injEq, Prod.mk.injEq] at H
            obtain ⟨rfl, rfl⟩ := H
            have hcz68_0 : wc.cell? ⟨gb184, 0, none⟩ = some (.int .i64 a0_0) := (qw BK184.out 0).trans rfl
            have hcz68_1 : wc.cell? ⟨gb184, 1, none⟩ = some (.int .i64 a0_1) := (qw BK184.out 1).trans rfl
            have hcz68_2 : wc.cell? ⟨gb184, 2, none⟩ = some (.int .i64 a0_2) := (qw BK184.out 2).trans rfl
            have hfz68_0 := qx BK184.out 0
            have hfz68_1 := qx BK184.out 1
            have hfz68_2 := qx BK184.out 2
            go_wp2
            go_ret2
            exact ⟨_, by first | rfl | (simp <;> rfl) | (simp [*] <;> rfl), by first | exact Kd.R_nil _ _ _ _ _ | exact Kd.N_nil _ _ _ _ _ | exact Kd.V_nil _ _ _ _ _ | exact Kd.Q_nil _ _ _ _ _ | exact Kd.S_nil _ _ _ _ _, by repeat (with_reducible first | exact HB.out | apply zj | apply zq | apply zw | refine zx ?_ GE184.out)⟩
          ·rw [if_neg c58] at H
           have c58b0 : (a0_0 == 3) = false := beq_eq_false_iff_ne.mpr c58
           have c58b1 : (a0_0 != 3) = true := bne_iff_ne.mpr c58
           simp only [Option.some.injEq, Prod.mk.injEq] at H
           obtain ⟨rfl, rfl⟩ := H
           have hcz69_0 : wc.cell? ⟨gb184, 0, none⟩ = some (.int .i64 a0_0) := (qw BK184.out 0).trans rfl
           have hcz69_1 : wc.cell? ⟨gb184, 1, none⟩ = some (.int .i64 a0_1) := (qw BK184.out 1).trans rfl
           have hcz69_2 : wc.cell? ⟨gb184, 2, none⟩ = some (.int .i64 a0_2) := (qw BK184.out 2).trans rfl
           have hfz69_0 := qx BK184.out 0
           have hfz69_1 := qx BK184.out 1
           have hfz69_2 := qx BK184.out 2
           go_wp2
           go_ret2
           exact ⟨_, by first | rfl | (simp <;> rfl) | (simp [*] <;> rfl), by first | exact Kd.R_nil _ _ _ _ _ | exact Kd.N_nil _ _ _ _ _ | exact Kd.V_nil _ _ _ _ _ | exact Kd.Q_nil _ _ _ _ _ | exact Kd.S_nil _ _ _ _ _, by repeat (with_reducible first | exact HB.out | apply zj | apply zq | apply zw | refine zx ?_ GE184.out)⟩
end Go.Proofs.Ytlmoemahamneoaa.PFnSchemesAgree
