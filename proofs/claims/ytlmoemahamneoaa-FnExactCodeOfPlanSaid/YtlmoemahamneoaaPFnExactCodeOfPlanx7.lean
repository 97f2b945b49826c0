-- Written by gprint.py, a program of this session, out of the translation (a changed print).
import Derived.Test.YtlmoemahamneoaaPFnExactCodeOfPlanx0
import Derived.Test.YtlmoemahamneoaaPFnExactCodeOfPlanx2
import Derived.Test.YtlmoemahamneoaaPFnExactCodeOfPlanx6
namespace Go.Proofs.Ytlmoemahamneoaa.PFnExactCodeOfPlan
open Go.RowKit Go.Proofs.YtlmoemahamneoaaW.PrintWords Go.Proofs.YtlmoemahamneoaaW.PrintLast Go.Proofs.YtlmoemahamneoaaW.PrintMore
-- shrunk
open Go.Proofs.YtlmoemahamneoaaW.PrintWords.Aside0 renaming mk → zz
open Go.Proofs.YtlmoemahamneoaaW.PrintWords renaming pw_below_drewN → zq, below_alloc → zj, below_drew1 → zw, below_set → zx, below_step → zk, below_size → zv, blk_alloc → qz, blk_drewN → qq, blk_drew → qj, blk_cell → qw, blk_frozen → qx, blk_below → qk, gate_callee → yz, gate_dst → yq, box_event → yj, gate_guard → yk
open Go.World renaming block_lt_of_cell? → qv
open Go.Proofs.YtlmoemahamneoaaW.PrintWords.Kd renaming C_alloc → jz, C_drewN → jq, C_drew → jj, C_below → jw
open List renaming map_toArray → jx, length_drop → jk, length_take → jv
open Go.Proofs.YtlmoemahamneoaaW.PrintWords.LeO renaming bind → yw, refl → yx
open Go.Proofs.YtlmoemahamneoaaW.PrintLast renaming goesL_ → yv
attribute [local go_sem] max2_int min2_int max_two min_two max_three min_three max_four min_four   -- for this text's walks alone
set_option linter.unusedVariables false
set_option linter.unusedSimpArgs false

/-! ### spec_plGood: function 122 -/
mutual
def spec_plGood.j0 : Nat → Bool → Int → List (S133) → List Int → Option (Bool)
 | 0, _, _, _, _ => none
 | k + 1, x22, x246000, x246001, x246002 => if x22 = true then (some false) else (spec_plGood.l0 k x246001 (x246001.length : Int) 0 x246000 x246001 x246002)
def spec_plGood.l0 : Nat → List (S133) → Int → Int → Int → List (S133) → List Int → Option (Bool)
 | 0, _, _, _, _, _, _ => none
 | k + 1, x24, x25, x26, x246000, x246001, x246002 => if x26 < x25 then (if 0 ≤ x26 then (if x26 < (x24.length : Int) then ((spec_l1In.f ((rd_T133 x24 x26).f0) 0 ((rd_T133 x24 x26).f1)).bind fun t249 => (if t249 = true then (if ((rd_T133 x24 x26).f1) ≥ (wrap64 (x246000 + x26)) then (some false) else (spec_plGood.l0 k x24 x25 (wrap64 (x26 + 1)) x246000 x246001 x246002)) else (some false))) else (none)) else (none)) else ((spec_plExponents.f k x246000 x246001 x246002).bind fun t250 => (spec_plGood.l1 k t250 (t250.length : Int) 0 x246000 x246001 x246002))
def spec_plGood.l1 : Nat → List (List Int) → Int → Int → Int → List (S133) → List Int → Option (Bool)
 | 0, _, _, _, _, _, _ => none
 | k + 1, x48, x49, x50, x246000, x246001, x246002 => if x50 < x49 then (if 0 ≤ x50 then (if x50 < (x48.length : Int) then ((spec_l1All.f k (rd_L3 x48 x50) 0 1000000).bind fun t254 => (if t254 = true then (spec_plGood.l1 k x48 x49 (wrap64 (x50 + 1)) x246000 x246001 x246002) else (some false))) else (none)) else (none)) else ((spec_l1All.f k x246002 0 (wrap64 ((wrap64 (x246000 + (x246001.length : Int))) - 1))).bind fun t255 => (some t255))
end
def spec_plGood.f (k : Nat) (a0_0 : Int) (l0_1 : List (S133)) (l0_2 : List Int) : Option (Bool) := (spec_l1In.f a0_0 1 6).bind fun t246 => (if t246 = true then (if (l0_1.length : Int) > 40 then (spec_plGood.j0 k true a0_0 l0_1 l0_2) else (spec_plGood.j0 k (decide ((l0_2.length : Int) > 6)) a0_0 l0_1 l0_2)) else (spec_plGood.j0 k true a0_0 l0_1 l0_2))
theorem spec_plGood.mono_l : ∀ k, (∀ y0 y1 y2 y3, LeO (spec_plGood.j0 k y0 y1 y2 y3) (spec_plGood.j0 (k + 1) y0 y1 y2 y3)) ∧ (∀ y0 y1 y2 y3 y4 y5, LeO (spec_plGood.l0 k y0 y1 y2 y3 y4 y5) (spec_plGood.l0 (k + 1) y0 y1 y2 y3 y4 y5)) ∧ (∀ y0 y1 y2 y3 y4 y5, LeO (spec_plGood.l1 k y0 y1 y2 y3 y4 y5) (spec_plGood.l1 (k + 1) y0 y1 y2 y3 y4 y5))
 | 0 => ⟨fun _ _ _ _ r h => by simp [spec_plGood.j0] at h, fun _ _ _ _ _ _ r h => by simp [spec_plGood.l0] at h, fun _ _ _ _ _ _ r h => by simp [spec_plGood.l1] at h⟩
 | k + 1 => by
  obtain ⟨ih0, ih1, ih2⟩ := spec_plGood.mono_l k
  refine ⟨?_, ?_, ?_⟩
  ·intro y0 y1 y2 y3
   unfold spec_plGood.j0
   repeat' first
   | (with_reducible exact ih0 _ _ _ _)
   | (with_reducible exact ih1 _ _ _ _ _ _)
   | (with_reducible exact ih2 _ _ _ _ _ _)
   | (with_reducible exact spec_l1All.mono _ _ _ _)
   | (with_reducible exact spec_plExponents.mono _ _ _ _)
   | (with_reducible exact yx _)
   | (with_reducible exact LeO.none _)
   | (with_reducible refine LeO.ite ?_ ?_)
   | (with_reducible refine yw ?_ (fun _ => ?_))
   | exact ih0 _ _ _ _
   | exact ih1 _ _ _ _ _ _
   | exact ih2 _ _ _ _ _ _
   | exact spec_l1All.mono _ _ _ _
   | exact spec_plExponents.mono _ _ _ _
   | exact LeO.none _
   | refine LeO.ite ?_ ?_
   | refine yw ?_ (fun _ => ?_)
  ·intro y0 y1 y2 y3 y4 y5
   unfold spec_plGood.l0
   repeat' first
   | (with_reducible exact ih0 _ _ _ _)
   | (with_reducible exact ih1 _ _ _ _ _ _)
   | (with_reducible exact ih2 _ _ _ _ _ _)
   | (with_reducible exact spec_l1All.mono _ _ _ _)
   | (with_reducible exact spec_plExponents.mono _ _ _ _)
   | (with_reducible exact yx _)
   | (with_reducible exact LeO.none _)
   | (with_reducible refine LeO.ite ?_ ?_)
   | (with_reducible refine yw ?_ (fun _ => ?_))
   | exact ih0 _ _ _ _
   | exact ih1 _ _ _ _ _ _
   | exact ih2 _ _ _ _ _ _
   | exact spec_l1All.mono _ _ _ _
   | exact spec_plExponents.mono _ _ _ _
   | exact LeO.none _
   | refine LeO.ite ?_ ?_
   | refine yw ?_ (fun _ => ?_)
  ·intro y0 y1 y2 y3 y4 y5
   unfold spec_plGood.l1
   repeat' first
   | (with_reducible exact ih0 _ _ _ _)
   | (with_reducible exact ih1 _ _ _ _ _ _)
   | (with_reducible exact ih2 _ _ _ _ _ _)
   | (with_reducible exact spec_l1All.mono _ _ _ _)
   | (with_reducible exact spec_plExponents.mono _ _ _ _)
   | (with_reducible exact yx _)
   | (with_reducible exact LeO.none _)
   | (with_reducible refine LeO.ite ?_ ?_)
   | (with_reducible refine yw ?_ (fun _ => ?_))
   | exact ih0 _ _ _ _
   | exact ih1 _ _ _ _ _ _
   | exact ih2 _ _ _ _ _ _
   | exact spec_l1All.mono _ _ _ _
   | exact spec_plExponents.mono _ _ _ _
   | exact LeO.none _
   | refine LeO.ite ?_ ?_
   | refine yw ?_ (fun _ => ?_)
theorem spec_plGood.mono : ∀ a0 a1 a2 k, LeO (spec_plGood.f k a0 a1 a2) (spec_plGood.f (k + 1) a0 a1 a2) := by
 intro a0 a1 a2 k
 obtain ⟨ih0, ih1, ih2⟩ := spec_plGood.mono_l k
 unfold spec_plGood.f
 repeat' first
   | (with_reducible exact ih0 _ _ _ _)
   | (with_reducible exact ih1 _ _ _ _ _ _)
   | (with_reducible exact ih2 _ _ _ _ _ _)
   | (with_reducible exact spec_l1All.mono _ _ _ _)
   | (with_reducible exact spec_plExponents.mono _ _ _ _)
   | (with_reducible exact yx _)
   | (with_reducible exact LeO.none _)
   | (with_reducible refine LeO.ite ?_ ?_)
   | (with_reducible refine yw ?_ (fun _ => ?_))
   | exact ih0 _ _ _ _
   | exact ih1 _ _ _ _ _ _
   | exact ih2 _ _ _ _ _ _
   | exact spec_l1All.mono _ _ _ _
   | exact spec_plExponents.mono _ _ _ _
   | exact LeO.none _
   | refine LeO.ite ?_ ?_
   | refine yw ?_ (fun _ => ?_)
set_option maxHeartbeats 8000000 in
set_option maxRecDepth 100000 in
theorem spec_plGood.calls (k : Nat) (a0_0 : Int) (A0_1 : Option Addr) (c0_1 : Nat) (l0_1 : List (S133)) (A0_2 : Option Addr) (c0_2 : Nat) (l0_2 : List Int) (r : Bool) (w : World) (hr0_1 : Kd.C k133 w A0_1 l0_1.length l0_1) (hc0_1 : l0_1.length ≤ c0_1) (hr0_2 : Kd.C (Kd.int .i64) w A0_2 l0_2.length l0_2) (hc0_2 : l0_2.length ≤ c0_2) (h : spec_plGood.f k a0_0 l0_1 l0_2 = some r) :
  Calls Try.prog 122 #[.agg #[.int .i64 a0_0, .slice A0_1 l0_1.length c0_1, .slice A0_2 l0_2.length c0_2]] w fun e w' => e = .returned (.bool r) ∧ Below w.heap.size w w' := by
 have hu59 := Try.underlying59
 have hu133 := Try.underlying133
 have HR0_1 := zz hr0_1
 have HC0_1 := zz hc0_1
 clear hr0_1 hc0_1
 have HR0_2 := zz hr0_2
 have HC0_2 := zz hc0_2
 clear hr0_2 hc0_2
 have HB := zz (Below.refl w.heap.size w)
 have H : ((spec_l1In.f a0_0 1 6).bind fun t246 => (if t246 = true then (if (l0_1.length : Int) > 40 then (spec_plGood.j0 k true a0_0 l0_1 l0_2) else (spec_plGood.j0 k (decide ((l0_2.length : Int) > 6)) a0_0 l0_1 l0_2)) else (spec_plGood.j0 k true a0_0 l0_1 l0_2))) = some r := h
 clear h
 have HC2 := zz H
 clear H
 go_enter Try.func122, Try.ntmps122
 go_upto_region 1 with (first | ((with_reducible refine yq (N := 1) rfl ?_); (try (refine yk (by rfl) ?_; dsimp only)); refine yj ?hg (N := 1) ?hd (cs := #[.int .i64 a0_0, .slice A0_1 l0_1.length c0_1, .slice A0_2 l0_2.length c0_2]) (t := 59) ?hr ?_; (case hd => rfl); (case hg => rfl); (case hr => first | (go_simp; done) | (go_simp; rfl)); intro gb245 hg w3 hbox hb; have n0_ := zz (zk (by repeat (first | (with_reducible first | exact HB.out | apply zj | apply zq | apply zw) | exact HB.out)) hb); have n1_ := zz (hbox); have n2_ := zz ((by rw [hg]; exact (zv (by repeat (first | (with_reducible first | exact HB.out | apply zj | apply zq | apply zw) | exact HB.out))) : w.heap.size ≤ gb245)); have n3_ := zz ((by rw [hg]; exact (zv (by repeat (first | (with_reducible first | exact HB.out | apply zj | apply zq | apply zw) | exact HB.out))) : w.heap.size ≤ gb245)); clear HB; have HB := n0_; have BK245 := n1_; have GW245 := n2_; have GE245 := n3_; clear n0_ n1_ n2_ n3_; clear hb hbox hg))
 (try simp only [Act.put, List.setIfInBounds_toArray, List.set_cons_zero, List.set_cons_succ])
 go_cut [22] (fun v22 wc => ∃ (kq : Nat) (x22_1 : Bool), v22 = .bool x22_1 ∧ Aside0 (spec_plGood.j0 kq x22_1 a0_0 l0_1 l0_2 = some r) ∧ Aside0 (kq ≤ k) ∧ Aside0 (wc.heap[gb245]? = some (.cells #[.int .i64 a0_0, (.slice A0_1 l0_1.length c0_1), (.slice A0_2 l0_2.length c0_2)] 59 (0, 0))) ∧ Aside0 (Below w.heap.size w wc))
 case first =>
  have H := HC2.out
  clear HC2
  replace H := Option.bind_eq_some_iff.mp H
  obtain ⟨t246, A40, H⟩ := H
  replace H : (if t246 = true then (if (l0_1.length : Int) > 40 then (spec_plGood.j0 k true a0_0 l0_1 l0_2) else (spec_plGood.j0 k (decide ((l0_2.length : Int) > 6)) a0_0 l0_1 l0_2)) else (spec_plGood.j0 k true a0_0 l0_1 l0_2)) = some r := H
  have A4 := zz A40
  clear A40
  by_cases c5 : t246 = true
  ·subst c5
   have H1 : (if (l0_1.length : Int) > 40 then (spec_plGood.j0 k true a0_0 l0_1 l0_2) else (spec_plGood.j0 k (decide ((l0_2.length : Int) > 6)) a0_0 l0_1 l0_2)) = some r := by rw [if_pos rfl] at H; exact H
   clear H
   have H := H1
   clear H1
   by_cases c6 : (l0_1.length : Int) > 40
   ·rw [if_pos c6] at H
    have c6b0 : decide (40 < (l0_1.length : Int)) = true := decide_eq_true c6
    have c6b1 : decide (40 < l0_1.length) = true := decide_eq_true (by omega)
    clear c6
    (first | rw [c6b0] | (simp only [i64_w, i32_w]; rw [c6b0]) | skip)
    have H' := zz H
    clear H
    have hcz7_0 : w3.cell? ⟨gb245, 0, none⟩ = some (.int .i64 a0_0) := (qw BK245.out 0).trans rfl
    have hcz7_1 : w3.cell? ⟨gb245, 1, none⟩ = some (.slice A0_1 l0_1.length c0_1) := (qw BK245.out 1).trans rfl
    have hcz7_2 : w3.cell? ⟨gb245, 2, none⟩ = some (.slice A0_2 l0_2.length c0_2) := (qw BK245.out 2).trans rfl
    have hfz7_0 := qx BK245.out 0
    have hfz7_1 := qx BK245.out 1
    have hfz7_2 := qx BK245.out 2
    go_wp2_with (first | ((with_reducible refine yz (f := 93) rfl ?_); refine yv (some 9) rfl rfl Try.func93 (by kernel_rfl) rfl #[.int .i64 a0_0, .int .i64 1, .int .i64 6] rfl (by (try simp only [jx, List.map_cons, List.map_nil]); first | done | rfl | (simp only [jk, jv]; rfl)) ?_; (with_reducible refine (spec_l1In.calls a0_0 1 6 true _ A4.out).mono ?_); rintro e w' ⟨rfl, ⟨nd, rfl⟩⟩; refine ⟨_, rfl, ?_⟩))
    go_meet
    case rel => exact ⟨_, (true), (by first | rfl | (simp; done) | (simp [*]; done)), H', ⟨by first | omega | exact Nat.le_refl _⟩, ⟨by (with_reducible repeat (first | refine qq ?_ _ | refine qj ?_ | refine qz ?_ _)); exact BK245.out⟩, ⟨by repeat (first | (with_reducible first | exact HB.out | apply zj | apply zq | apply zw | refine zx ?_ GE245.out) | exact HB.out)⟩⟩
   ·rw [if_neg c6] at H
    have c6b0 : decide (40 < (l0_1.length : Int)) = false := decide_eq_false c6
    have c6b1 : decide (40 < l0_1.length) = false := decide_eq_false (by omega)
    clear c6
    (first | rw [c6b0] | (simp only [i64_w, i32_w]; rw [c6b0]) | skip)
    have H' := zz H
    clear H
    have hcz8_0 : w3.cell? ⟨gb245, 0, none⟩ = some (.int .i64 a0_0) := (qw BK245.out 0).trans rfl
    have hcz8_1 : w3.cell? ⟨gb245, 1, none⟩ = some (.slice A0_1 l0_1.length c0_1) := (qw BK245.out 1).trans rfl
    have hcz8_2 : w3.cell? ⟨gb245, 2, none⟩ = some (.slice A0_2 l0_2.length c0_2) := (qw BK245.out 2).trans rfl
    have hfz8_0 := qx BK245.out 0
    have hfz8_1 := qx BK245.out 1
    have hfz8_2 := qx BK245.out 2
    go_wp2_with (first | ((with_reducible refine yz (f := 93) rfl ?_); refine yv (some 9) rfl rfl Try.func93 (by kernel_rfl) rfl #[.int .i64 a0_0, .int .i64 1, .int .i64 6] rfl (by (try simp only [jx, List.map_cons, List.map_nil]); first | done | rfl | (simp only [jk, jv]; rfl)) ?_; (with_reducible refine (spec_l1In.calls a0_0 1 6 true _ A4.out).mono ?_); rintro e w' ⟨rfl, ⟨nd, rfl⟩⟩; refine ⟨_, rfl, ?_⟩))
    go_meet
    case rel => exact ⟨_, (decide ((l0_2.length : Int) > 6)), (by first | rfl | (simp; done) | (simp [*]; done)), H', ⟨by first | omega | exact Nat.le_refl _⟩, ⟨by (with_reducible repeat (first | refine qq ?_ _ | refine qj ?_ | refine qz ?_ _)); exact BK245.out⟩, ⟨by repeat (first | (with_reducible first | exact HB.out | apply zj | apply zq | apply zw | refine zx ?_ GE245.out) | exact HB.out)⟩⟩
  ·replace c5 := Bool.eq_false_iff.mpr c5
   subst c5
   have H1 : (spec_plGood.j0 k true a0_0 l0_1 l0_2) = some r := by rw [if_neg (show ¬ (false = true) by decide)] at H; exact H
   clear H
   have H := H1
   clear H1
   have H' := zz H
   clear H
   have hcz9_0 : w3.cell? ⟨gb245, 0, none⟩ = some (.int .i64 a0_0) := (qw BK245.out 0).trans rfl
   have hcz9_1 : w3.cell? ⟨gb245, 1, none⟩ = some (.slice A0_1 l0_1.length c0_1) := (qw BK245.out 1).trans rfl
   have hcz9_2 : w3.cell? ⟨gb245, 2, none⟩ = some (.slice A0_2 l0_2.length c0_2) := (qw BK245.out 2).trans rfl
   have hfz9_0 := qx BK245.out 0
   have hfz9_1 := qx BK245.out 1
   have hfz9_2 := qx BK245.out 2
   go_wp2_with (first | ((with_reducible refine yz (f := 93) rfl ?_); refine yv (some 9) rfl rfl Try.func93 (by kernel_rfl) rfl #[.int .i64 a0_0, .int .i64 1, .int .i64 6] rfl (by (try simp only [jx, List.map_cons, List.map_nil]); first | done | rfl | (simp only [jk, jv]; rfl)) ?_; (with_reducible refine (spec_l1In.calls a0_0 1 6 false _ A4.out).mono ?_); rintro e w' ⟨rfl, ⟨nd, rfl⟩⟩; refine ⟨_, rfl, ?_⟩))
   go_meet
   case rel => exact ⟨_, (true), (by first | rfl | (simp; done) | (simp [*]; done)), H', ⟨by first | omega | exact Nat.le_refl _⟩, ⟨by (with_reducible repeat (first | refine qq ?_ _ | refine qj ?_ | refine qz ?_ _)); exact BK245.out⟩, ⟨by repeat (first | (with_reducible first | exact HB.out | apply zj | apply zq | apply zw | refine zx ?_ GE245.out) | exact HB.out)⟩⟩
 case rest =>
  clear HC2
  try clear c1
  try clear p2
  try clear c5
  try clear c6
  try clear c6b0
  try clear c6b1
  try clear c9
  try clear hcz7_0
  try clear hcz7_1
  try clear hcz7_2
  try clear hcz8_0
  try clear hcz8_1
  try clear hcz8_2
  try clear hcz9_0
  try clear hcz9_1
  try clear hcz9_2
  try clear hfz7_0
  try clear hfz7_1
  try clear hfz7_2
  try clear hfz8_0
  try clear hfz8_1
  try clear hfz8_2
  try clear hfz9_0
  try clear hfz9_1
  try clear hfz9_2
  obtain ⟨kq, x22_1, rfl, HA, HJ1, BK245, HB⟩ := hcut
  cases kq with
  | zero => exact absurd HA.out (by simp [spec_plGood.j0])
  | succ kj1 =>
   have H := HA.out
   clear HA
   simp only [spec_plGood.j0] at H
   by_cases c10 : x22_1 = true
   ·subst c10
    have H1 : (some false) = some r := by rw [if_pos rfl] at H; exact H
    clear H
    have H := H1
    clear H1
    obtain rfl := Option.some.inj H
    go_wp2
    go_ret
    exact ⟨by first | rfl | (simp [errW_none, errW_some] <;> rfl) | (simp [*, errW_none, errW_some] <;> rfl), by repeat (first | (with_reducible first | exact HB.out | apply zj | apply zq | apply zw | refine zx ?_ GE245.out) | exact HB.out)⟩
   ·replace c10 := Bool.eq_false_iff.mpr c10
    subst c10
    have H1 : (spec_plGood.l0 kj1 l0_1 (l0_1.length : Int) 0 a0_0 l0_1 l0_2) = some r := by rw [if_neg (show ¬ (false = true) by decide)] at H; exact H
    clear H
    have H := H1
    clear H1
    have H' := zz H
    clear H
    have hcz11_0 : wc.cell? ⟨gb245, 0, none⟩ = some (.int .i64 a0_0) := (qw BK245.out 0).trans rfl
    have hcz11_1 : wc.cell? ⟨gb245, 1, none⟩ = some (.slice A0_1 l0_1.length c0_1) := (qw BK245.out 1).trans rfl
    have hcz11_2 : wc.cell? ⟨gb245, 2, none⟩ = some (.slice A0_2 l0_2.length c0_2) := (qw BK245.out 2).trans rfl
    have hfz11_0 := qx BK245.out 0
    have hfz11_1 := qx BK245.out 1
    have hfz11_2 := qx BK245.out 2
    go_wp2
    go_loopg [26] kj1 (fun kq v26 w' => ∃ (x26_2 : Int), v26 = .int .i64 x26_2 ∧ Aside0 (spec_plGood.l0 kq l0_1 (l0_1.length : Int) x26_2 a0_0 l0_1 l0_2 = some r) ∧ Aside0 (kq ≤ kj1) ∧ Aside0 (w'.heap[gb245]? = some (.cells #[.int .i64 a0_0, (.slice A0_1 l0_1.length c0_1), (.slice A0_2 l0_2.length c0_2)] 59 (0, 0))) ∧ Aside0 (Below w.heap.size w w'))
    case atStart => exact ⟨(0), (by first | rfl | (simp; done) | (simp [*]; done)), H', ⟨Nat.le_refl _⟩, ⟨by (with_reducible repeat (first | refine qq ?_ _ | refine qj ?_ | refine qz ?_ _)); exact BK245.out⟩, ⟨by repeat (first | (with_reducible first | exact HB.out | apply zj | apply zq | apply zw | refine zx ?_ GE245.out) | exact HB.out)⟩⟩
    case round =>
     clear H'
     try clear c1
     try clear p2
     try clear c5
     try clear c6
     try clear c6b0
     try clear c6b1
     try clear c9
     try clear c10
     try clear hcz11_0
     try clear hcz11_1
     try clear hcz11_2
     try clear hcz7_0
     try clear hcz7_1
     try clear hcz7_2
     try clear hcz8_0
     try clear hcz8_1
     try clear hcz8_2
     try clear hcz9_0
     try clear hcz9_1
     try clear hcz9_2
     try clear hfz11_0
     try clear hfz11_1
     try clear hfz11_2
     try clear hfz7_0
     try clear hfz7_1
     try clear hfz7_2
     try clear hfz8_0
     try clear hfz8_1
     try clear hfz8_2
     try clear hfz9_0
     try clear hfz9_1
     try clear hfz9_2
     try clear p2
     obtain ⟨x26_2, rfl, HA, HK2, BK245, HB⟩ := hrel
     cases gk with
     | zero => exact absurd HA.out (by simp [spec_plGood.l0])
     | succ k2 =>
      have H := HA.out
      clear HA
      simp only [spec_plGood.l0] at H
      by_cases c12 : x26_2 < (l0_1.length : Int)
      ·rw [if_pos c12] at H
       have c12b0 : decide (x26_2 < (l0_1.length : Int)) = true := decide_eq_true c12
       clear c12
       by_cases c13 : 0 ≤ x26_2
       ·rw [if_pos c13] at H
        have c13b0 : decide (0 ≤ x26_2) = true := decide_eq_true c13
        clear c13
        by_cases c14 : x26_2 < (l0_1.length : Int)
        ·rw [if_pos c14] at H
         have c14b0 : decide (x26_2 < (l0_1.length : Int)) = true := decide_eq_true c14
         clear c14
         replace H := Option.bind_eq_some_iff.mp H
         obtain ⟨t249, A150, H⟩ := H
         replace H : (if t249 = true then (if ((rd_T133 l0_1 x26_2).f1) ≥ (wrap64 (a0_0 + x26_2)) then (some false) else (spec_plGood.l0 k2 l0_1 (l0_1.length : Int) (wrap64 (x26_2 + 1)) a0_0 l0_1 l0_2)) else (some false)) = some r := H
         have A15 := zz A150
         clear A150
         by_cases c16 : t249 = true
         ·subst c16
          have H1 : (if ((rd_T133 l0_1 x26_2).f1) ≥ (wrap64 (a0_0 + x26_2)) then (some false) else (spec_plGood.l0 k2 l0_1 (l0_1.length : Int) (wrap64 (x26_2 + 1)) a0_0 l0_1 l0_2)) = some r := by rw [if_pos rfl] at H; exact H
          clear H
          have H := H1
          clear H1
          by_cases c17 : ((rd_T133 l0_1 x26_2).f1) ≥ (wrap64 (a0_0 + x26_2))
          ·rw [if_pos c17] at H
           have c17b0 : decide ((wrap64 (a0_0 + x26_2)) ≤ ((rd_T133 l0_1 x26_2).f1)) = true := decide_eq_true c17
           clear c17
           obtain rfl := Option.some.inj H
           have p247 : 0 ≤ (x26_2 : Int) := of_decide_eq_true (by first | (with_reducible assumption) | assumption)
           have q247 : x26_2 < (l0_1.length : Int) := of_decide_eq_true (by first | (with_reducible assumption) | assumption)
           obtain ⟨ad247, e247, hx247_0, hx247_1⟩ := at_T133 HR0_1.out x26_2 p247 q247
           cases e247
           replace hx247_0 := (HB.out.cell (qv w _ hx247_0)).trans hx247_0
           replace hx247_1 := (HB.out.cell (qv w _ hx247_1)).trans hx247_1
           replace p247 := eq_true p247
           replace q247 := eq_true q247
           go_wp2_with (first | ((with_reducible refine yq (N := 4) rfl ?_); (try (refine yk (by rfl) ?_; dsimp only)); refine yj ?hg (N := 4) ?hd (cs := #[.int .i64 0, .int .i64 0]) (t := 133) ?hr ?_; (case hd => rfl); (case hg => rfl); (case hr => first | (go_simp; done) | (go_simp; rfl)); intro gb248 hg w18 hbox hb; have n0_ := zz (qk (g := gb245) (o := .cells #[.int .i64 a0_0, .slice (some ad247) l0_1.length c0_1, .slice A0_2 l0_2.length c0_2] 59 (0, 0)) (by (with_reducible repeat (first | refine qq ?_ _ | refine qj ?_ | refine qz ?_ _)); exact BK245.out) hb); have n1_ := zz (zk (by repeat (first | (with_reducible first | exact HB.out | apply zj | apply zq | apply zw | refine zx ?_ GE245.out) | exact HB.out)) hb); have n2_ := zz (hbox); have n3_ := zz ((by rw [hg]; exact (zv (by repeat (first | (with_reducible first | exact HB.out | apply zj | apply zq | apply zw | refine zx ?_ GE245.out) | exact HB.out))) : w.heap.size ≤ gb248)); have n4_ := zz ((by rw [hg]; exact (zv (by repeat (first | (with_reducible first | exact HB.out | apply zj | apply zq | apply zw | refine zx ?_ GE245.out) | exact HB.out))) : w.heap.size ≤ gb248)); have n5_ := zz ((by rw [hg]; exact Nat.ne_of_lt (blk_lt (g := gb245) (o := .cells #[.int .i64 a0_0, .slice (some ad247) l0_1.length c0_1, .slice A0_2 l0_2.length c0_2] 59 (0, 0)) (by (with_reducible repeat (first | refine qq ?_ _ | refine qj ?_ | refine qz ?_ _)); exact BK245.out)) : gb245 ≠ gb248)); have n6_ := zz ((by rw [hg]; exact Nat.ne_of_gt (blk_lt (g := gb245) (o := .cells #[.int .i64 a0_0, .slice (some ad247) l0_1.length c0_1, .slice A0_2 l0_2.length c0_2] 59 (0, 0)) (by (with_reducible repeat (first | refine qq ?_ _ | refine qj ?_ | refine qz ?_ _)); exact BK245.out)) : gb248 ≠ gb245)); clear BK245; clear HB; have BK245 := n0_; have HB := n1_; have BK248 := n2_; have GW248 := n3_; have GE248 := n4_; have NB245_248 := n5_; have NB248_245 := n6_; clear n0_ n1_ n2_ n3_ n4_ n5_ n6_; clear hb hbox hg; have hnb19 := NB248_245.out; have hnc19 := NB245_248.out; have hcz20_0 : w18.cell? ⟨gb248, 0, none⟩ = some (.int .i64 0) := (qw BK248.out 0).trans rfl; have hcz20_1 : w18.cell? ⟨gb248, 1, none⟩ = some (.int .i64 0) := (qw BK248.out 1).trans rfl; have hfz20_0 := qx BK248.out 0; have hfz20_1 := qx BK248.out 1) | ((with_reducible refine yz (f := 93) rfl ?_); refine yv (some 35) rfl rfl Try.func93 (by kernel_rfl) rfl #[.int .i64 ((rd_T133 l0_1 x26_2).f0), .int .i64 0, .int .i64 ((rd_T133 l0_1 x26_2).f1)] rfl (by (try simp only [jx, List.map_cons, List.map_nil]); first | done | rfl | (simp only [jk, jv]; rfl)) ?_; (with_reducible refine (spec_l1In.calls ((rd_T133 l0_1 x26_2).f0) 0 ((rd_T133 l0_1 x26_2).f1) true _ A15.out).mono ?_); rintro e w' ⟨rfl, ⟨nd, rfl⟩⟩; refine ⟨_, rfl, ?_⟩; have hcz21_0 : w18.cell? ⟨gb245, 0, none⟩ = some (.int .i64 a0_0) := (qw BK245.out 0).trans rfl; have hcz21_1 : w18.cell? ⟨gb245, 1, none⟩ = some (.slice (some ad247) l0_1.length c0_1) := (qw BK245.out 1).trans rfl; have hcz21_2 : w18.cell? ⟨gb245, 2, none⟩ = some (.slice A0_2 l0_2.length c0_2) := (qw BK245.out 2).trans rfl; have hfz21_0 := qx BK245.out 0; have hfz21_1 := qx BK245.out 1; have hfz21_2 := qx BK245.out 2))
           go_ret
           exact ⟨by first | rfl | (simp [errW_none, errW_some] <;> rfl) | (simp [*, errW_none, errW_some] <;> rfl), by repeat (first | (with_reducible first | exact HB.out | apply zj | apply zq | apply zw | refine zx ?_ GE245.out | refine zx ?_ GE248.out) | exact HB.out)⟩
          ·rw [if_neg c17] at H
           have c17b0 : decide ((wrap64 (a0_0 + x26_2)) ≤ ((rd_T133 l0_1 x26_2).f1)) = false := decide_eq_false c17
           clear c17
           have H' := zz H
           clear H
           have p247 : 0 ≤ (x26_2 : Int) := of_decide_eq_true (by first | (with_reducible assumption) | assumption)
           have q247 : x26_2 < (l0_1.length : Int) := of_decide_eq_true (by first | (with_reducible assumption) | assumption)
           obtain ⟨ad247, e247, hx247_0, hx247_1⟩ := at_T133 HR0_1.out x26_2 p247 q247
           cases e247
           replace hx247_0 := (HB.out.cell (qv w _ hx247_0)).trans hx247_0
           replace hx247_1 := (HB.out.cell (qv w _ hx247_1)).trans hx247_1
           replace p247 := eq_true p247
           replace q247 := eq_true q247
           go_wp2_with (first | ((with_reducible refine yq (N := 4) rfl ?_); (try (refine yk (by rfl) ?_; dsimp only)); refine yj ?hg (N := 4) ?hd (cs := #[.int .i64 0, .int .i64 0]) (t := 133) ?hr ?_; (case hd => rfl); (case hg => rfl); (case hr => first | (go_simp; done) | (go_simp; rfl)); intro gb248 hg w22 hbox hb; have n0_ := zz (qk (g := gb245) (o := .cells #[.int .i64 a0_0, .slice (some ad247) l0_1.length c0_1, .slice A0_2 l0_2.length c0_2] 59 (0, 0)) (by (with_reducible repeat (first | refine qq ?_ _ | refine qj ?_ | refine qz ?_ _)); exact BK245.out) hb); have n1_ := zz (zk (by repeat (first | (with_reducible first | exact HB.out | apply zj | apply zq | apply zw | refine zx ?_ GE245.out) | exact HB.out)) hb); have n2_ := zz (hbox); have n3_ := zz ((by rw [hg]; exact (zv (by repeat (first | (with_reducible first | exact HB.out | apply zj | apply zq | apply zw | refine zx ?_ GE245.out) | exact HB.out))) : w.heap.size ≤ gb248)); have n4_ := zz ((by rw [hg]; exact (zv (by repeat (first | (with_reducible first | exact HB.out | apply zj | apply zq | apply zw | refine zx ?_ GE245.out) | exact HB.out))) : w.heap.size ≤ gb248)); have n5_ := zz ((by rw [hg]; exact Nat.ne_of_lt (blk_lt (g := gb245) (o := .cells #[.int .i64 a0_0, .slice (some ad247) l0_1.length c0_1, .slice A0_2 l0_2.length c0_2] 59 (0, 0)) (by (with_reducible repeat (first | refine qq ?_ _ | refine qj ?_ | refine qz ?_ _)); exact BK245.out)) : gb245 ≠ gb248)); have n6_ := zz ((by rw [hg]; exact Nat.ne_of_gt (blk_lt (g := gb245) (o := .cells #[.int .i64 a0_0, .slice (some ad247) l0_1.length c0_1, .slice A0_2 l0_2.length c0_2] 59 (0, 0)) (by (with_reducible repeat (first | refine qq ?_ _ | refine qj ?_ | refine qz ?_ _)); exact BK245.out)) : gb248 ≠ gb245)); clear BK245; clear HB; have BK245 := n0_; have HB := n1_; have BK248 := n2_; have GW248 := n3_; have GE248 := n4_; have NB245_248 := n5_; have NB248_245 := n6_; clear n0_ n1_ n2_ n3_ n4_ n5_ n6_; clear hb hbox hg; have hnb23 := NB248_245.out; have hnc23 := NB245_248.out; have hcz24_0 : w22.cell? ⟨gb248, 0, none⟩ = some (.int .i64 0) := (qw BK248.out 0).trans rfl; have hcz24_1 : w22.cell? ⟨gb248, 1, none⟩ = some (.int .i64 0) := (qw BK248.out 1).trans rfl; have hfz24_0 := qx BK248.out 0; have hfz24_1 := qx BK248.out 1) | ((with_reducible refine yz (f := 93) rfl ?_); refine yv (some 35) rfl rfl Try.func93 (by kernel_rfl) rfl #[.int .i64 ((rd_T133 l0_1 x26_2).f0), .int .i64 0, .int .i64 ((rd_T133 l0_1 x26_2).f1)] rfl (by (try simp only [jx, List.map_cons, List.map_nil]); first | done | rfl | (simp only [jk, jv]; rfl)) ?_; (with_reducible refine (spec_l1In.calls ((rd_T133 l0_1 x26_2).f0) 0 ((rd_T133 l0_1 x26_2).f1) true _ A15.out).mono ?_); rintro e w' ⟨rfl, ⟨nd, rfl⟩⟩; refine ⟨_, rfl, ?_⟩; have hcz25_0 : w22.cell? ⟨gb245, 0, none⟩ = some (.int .i64 a0_0) := (qw BK245.out 0).trans rfl; have hcz25_1 : w22.cell? ⟨gb245, 1, none⟩ = some (.slice (some ad247) l0_1.length c0_1) := (qw BK245.out 1).trans rfl; have hcz25_2 : w22.cell? ⟨gb245, 2, none⟩ = some (.slice A0_2 l0_2.length c0_2) := (qw BK245.out 2).trans rfl; have hfz25_0 := qx BK245.out 0; have hfz25_1 := qx BK245.out 1; have hfz25_2 := qx BK245.out 2))
           go_roundg k2
           case measure => have := HJ1.out; have := HK2.out; omega
           case rel => exact ⟨(wrap64 (x26_2 + 1)), (by first | rfl | (simp; done) | (simp [*]; done)), H', ⟨by have := HJ1.out; have := HK2.out; omega⟩, ⟨by (with_reducible repeat (first | refine qq ?_ _ | refine qj ?_ | refine qz ?_ _)); refine blk_far ?_ NB245_248.out _; (with_reducible repeat (first | refine qq ?_ _ | refine qj ?_ | refine qz ?_ _)); refine blk_far ?_ NB245_248.out _; (with_reducible repeat (first | refine qq ?_ _ | refine qj ?_ | refine qz ?_ _)); exact BK245.out⟩, ⟨by repeat (first | (with_reducible first | exact HB.out | apply zj | apply zq | apply zw | refine zx ?_ GE245.out | refine zx ?_ GE248.out) | exact HB.out)⟩⟩
         ·replace c16 := Bool.eq_false_iff.mpr c16
          subst c16
          have H1 : (some false) = some r := by rw [if_neg (show ¬ (false = true) by decide)] at H; exact H
          clear H
          have H := H1
          clear H1
          obtain rfl := Option.some.inj H
          have p247 : 0 ≤ (x26_2 : Int) := of_decide_eq_true (by first | (with_reducible assumption) | assumption)
          have q247 : x26_2 < (l0_1.length : Int) := of_decide_eq_true (by first | (with_reducible assumption) | assumption)
          obtain ⟨ad247, e247, hx247_0, hx247_1⟩ := at_T133 HR0_1.out x26_2 p247 q247
          cases e247
          replace hx247_0 := (HB.out.cell (qv w _ hx247_0)).trans hx247_0
          replace hx247_1 := (HB.out.cell (qv w _ hx247_1)).trans hx247_1
          replace p247 := eq_true p247
          replace q247 := eq_true q247
          go_wp2_with (first | ((with_reducible refine yq (N := 4) rfl ?_); (try (refine yk (by rfl) ?_; dsimp only)); refine yj ?hg (N := 4) ?hd (cs := #[.int .i64 0, .int .i64 0]) (t := 133) ?hr ?_; (case hd => rfl); (case hg => rfl); (case hr => first | (go_simp; done) | (go_simp; rfl)); intro gb248 hg w26 hbox hb; have n0_ := zz (qk (g := gb245) (o := .cells #[.int .i64 a0_0, .slice (some ad247) l0_1.length c0_1, .slice A0_2 l0_2.length c0_2] 59 (0, 0)) (by (with_reducible repeat (first | refine qq ?_ _ | refine qj ?_ | refine qz ?_ _)); exact BK245.out) hb); have n1_ := zz (zk (by repeat (first | (with_reducible first | exact HB.out | apply zj | apply zq | apply zw | refine zx ?_ GE245.out) | exact HB.out)) hb); have n2_ := zz (hbox); have n3_ := zz ((by rw [hg]; exact (zv (by repeat (first | (with_reducible first | exact HB.out | apply zj | apply zq | apply zw | refine zx ?_ GE245.out) | exact HB.out))) : w.heap.size ≤ gb248)); have n4_ := zz ((by rw [hg]; exact (zv (by repeat (first | (with_reducible first | exact HB.out | apply zj | apply zq | apply zw | refine zx ?_ GE245.out) | exact HB.out))) : w.heap.size ≤ gb248)); have n5_ := zz ((by rw [hg]; exact Nat.ne_of_lt (blk_lt (g := gb245) (o := .cells #[.int .i64 a0_0, .slice (some ad247) l0_1.length c0_1, .slice A0_2 l0_2.length c0_2] 59 (0, 0)) (by (with_reducible repeat (first | refine qq ?_ _ | refine qj ?_ | refine qz ?_ _)); exact BK245.out)) : gb245 ≠ gb248)); have n6_ := zz ((by rw [hg]; exact Nat.ne_of_gt (blk_lt (g := gb245) (o := .cells #[.int .i64 a0_0, .slice (some ad247) l0_1.length c0_1, .slice A0_2 l0_2.length c0_2] 59 (0, 0)) (by (with_reducible repeat (first | refine qq ?_ _ | refine qj ?_ | refine qz ?_ _)); exact BK245.out)) : gb248 ≠ gb245)); clear BK245; clear HB; have BK245 := n0_; have HB := n1_; have BK248 := n2_; have GW248 := n3_; have GE248 := n4_; have NB245_248 := n5_; have NB248_245 := n6_; clear n0_ n1_ n2_ n3_ n4_ n5_ n6_; clear hb hbox hg; have hnb27 := NB248_245.out; have hnc27 := NB245_248.out; have hcz28_0 : w26.cell? ⟨gb248, 0, none⟩ = some (.int .i64 0) := (qw BK248.out 0).trans rfl; have hcz28_1 : w26.cell? ⟨gb248, 1, none⟩ = some (.int .i64 0) := (qw BK248.out 1).trans rfl; have hfz28_0 := qx BK248.out 0; have hfz28_1 := qx BK248.out 1) | ((with_reducible refine yz (f := 93) rfl ?_); refine yv (some 35) rfl rfl Try.func93 (by kernel_rfl) rfl #[.int .i64 ((rd_T133 l0_1 x26_2).f0), .int .i64 0, .int .i64 ((rd_T133 l0_1 x26_2).f1)] rfl (by (try simp only [jx, List.map_cons, List.map_nil]); first | done | rfl | (simp only [jk, jv]; rfl)) ?_; (with_reducible refine (spec_l1In.calls ((rd_T133 l0_1 x26_2).f0) 0 ((rd_T133 l0_1 x26_2).f1) false _ A15.out).mono ?_); rintro e w' ⟨rfl, ⟨nd, rfl⟩⟩; refine ⟨_, rfl, ?_⟩))
          go_ret
          exact ⟨by first | rfl | (simp [errW_none, errW_some] <;> rfl) | (simp [*, errW_none, errW_some] <;> rfl), by repeat (first | (with_reducible first | exact HB.out | apply zj | apply zq | apply zw | refine zx ?_ GE245.out | refine zx ?_ GE248.out) | exact HB.out)⟩
        ·rw [if_neg c14] at H
         exact absurd H (by simp)
       ·rw [if_neg c13] at H
        exact absurd H (by simp)
      ·rw [if_neg c12] at H
       have c12b0 : decide (x26_2 < (l0_1.length : Int)) = false := decide_eq_false c12
       clear c12
       replace H := Option.bind_eq_some_iff.mp H
       obtain ⟨t250, A290, H⟩ := H
       replace H : (spec_plGood.l1 k2 t250 (t250.length : Int) 0 a0_0 l0_1 l0_2) = some r := H
       have A29 := zz A290
       clear A290
       have H' := zz H
       clear H
       have hcz30_0 : wr.cell? ⟨gb245, 0, none⟩ = some (.int .i64 a0_0) := (qw BK245.out 0).trans rfl
       have hcz30_1 : wr.cell? ⟨gb245, 1, none⟩ = some (.slice A0_1 l0_1.length c0_1) := (qw BK245.out 1).trans rfl
       have hcz30_2 : wr.cell? ⟨gb245, 2, none⟩ = some (.slice A0_2 l0_2.length c0_2) := (qw BK245.out 2).trans rfl
       have hfz30_0 := qx BK245.out 0
       have hfz30_1 := qx BK245.out 1
       have hfz30_2 := qx BK245.out 2
       go_wp2_with (first | ((with_reducible refine yz (f := 198) rfl ?_); refine yv (some 48) rfl rfl Try.func198 (by kernel_rfl) rfl #[.agg #[.int .i64 a0_0, .slice A0_1 l0_1.length c0_1, .slice A0_2 l0_2.length c0_2]] rfl (by (try simp only [jx, List.map_cons, List.map_nil]); first | done | rfl | (simp only [jk, jv]; rfl)) ?_; (with_reducible refine (spec_plExponents.calls k2 a0_0 _ _ l0_1 _ _ l0_2 t250 _ ?side1 ?side2 ?side3 ?side4 A29.out).mono ?_); (case side1 => repeat (first | exact (jw HR0_1.out HB.out) | (with_reducible refine jz ?_ _) | (with_reducible refine jq ?_ _) | (with_reducible refine jj ?_))); (case side2 => exact HC0_1.out); (case side3 => repeat (first | exact (jw HR0_2.out HB.out) | (with_reducible refine jz ?_ _) | (with_reducible refine jq ?_ _) | (with_reducible refine jj ?_))); (case side4 => exact HC0_2.out); rintro e w31 ⟨v251, rfl, ho0, hb⟩; refine ⟨_, rfl, ?_⟩; have n0_ := zz (Kd.S_lower ho0 (zv (by repeat (first | (with_reducible first | exact HB.out | apply zj | apply zq | apply zw | refine zx ?_ GE245.out) | exact HB.out)))); have n1_ := zz (qk (g := gb245) (o := .cells #[.int .i64 a0_0, .slice A0_1 l0_1.length c0_1, .slice A0_2 l0_2.length c0_2] 59 (0, 0)) (by (with_reducible repeat (first | refine qq ?_ _ | refine qj ?_ | refine qz ?_ _)); exact BK245.out) hb); have n2_ := zz (zk (by repeat (first | (with_reducible first | exact HB.out | apply zj | apply zq | apply zw | refine zx ?_ GE245.out) | exact HB.out)) hb); clear BK245; clear HB; have HO252 := n0_; have BK245 := n1_; have HB := n2_; clear n0_ n1_ n2_; (try clear hb); (try clear hb2); (try clear hk); (try clear hi); (try clear ho0); obtain ⟨Ao32, co32, eo32⟩ := Kd.S_slice HO252.out; subst eo32))
       go_loopg [50] k2 (fun kq v50 w' => ∃ (x50_3 : Int), v50 = .int .i64 x50_3 ∧ Aside0 (spec_plGood.l1 kq t250 (t250.length : Int) x50_3 a0_0 l0_1 l0_2 = some r) ∧ Aside0 (kq ≤ k2) ∧ Aside0 (Kd.S (Kd.slice 3 (Kd.int .i64)) 29 w' w.heap.size (fun _ => True) (.slice Ao32 t250.length co32) t250) ∧ Aside0 (w'.heap[gb245]? = some (.cells #[.int .i64 a0_0, (.slice A0_1 l0_1.length c0_1), (.slice A0_2 l0_2.length c0_2)] 59 (0, 0))) ∧ Aside0 (Below w.heap.size w w'))
       case atStart => exact ⟨(0), (by first | rfl | (simp; done) | (simp [*]; done)), H', ⟨Nat.le_refl _⟩, ⟨by (with_reducible repeat (first | apply Kd.S_alloc | apply Kd.S_drewN | apply Kd.S_drew)); exact HO252.out⟩, ⟨by (with_reducible repeat (first | refine qq ?_ _ | refine qj ?_ | refine qz ?_ _)); exact BK245.out⟩, ⟨by repeat (first | (with_reducible first | exact HB.out | apply zj | apply zq | apply zw | refine zx ?_ GE245.out) | exact HB.out)⟩⟩
       case round =>
        clear H'
        try clear c1
        try clear c2
        try clear p2
        try clear q2
        try clear hx2
        try clear c5
        try clear c6
        try clear c6b0
        try clear c6b1
        try clear p6
        try clear c9
        try clear c10
        try clear c12
        try clear c12b0
        try clear c13
        try clear c13b0
        try clear c14
        try clear c14b0
        try clear c16
        try clear c17
        try clear c17b0
        try clear c19
        try clear c23
        try clear p24
        try clear q24
        try clear hx24
        try clear c27
        try clear hcz11_0
        try clear hcz11_1
        try clear hcz11_2
        try clear hcz20_0
        try clear hcz20_1
        try clear hcz21_0
        try clear hcz21_1
        try clear hcz21_2
        try clear hcz24_0
        try clear hcz24_1
        try clear hcz25_0
        try clear hcz25_1
        try clear hcz25_2
        try clear hcz28_0
        try clear hcz28_1
        try clear hcz30_0
        try clear hcz30_1
        try clear hcz30_2
        try clear hcz7_0
        try clear hcz7_1
        try clear hcz7_2
        try clear hcz8_0
        try clear hcz8_1
        try clear hcz8_2
        try clear hcz9_0
        try clear hcz9_1
        try clear hcz9_2
        try clear hfz11_0
        try clear hfz11_1
        try clear hfz11_2
        try clear hfz20_0
        try clear hfz20_1
        try clear hfz21_0
        try clear hfz21_1
        try clear hfz21_2
        try clear hfz24_0
        try clear hfz24_1
        try clear hfz25_0
        try clear hfz25_1
        try clear hfz25_2
        try clear hfz28_0
        try clear hfz28_1
        try clear hfz30_0
        try clear hfz30_1
        try clear hfz30_2
        try clear hfz7_0
        try clear hfz7_1
        try clear hfz7_2
        try clear hfz8_0
        try clear hfz8_1
        try clear hfz8_2
        try clear hfz9_0
        try clear hfz9_1
        try clear hfz9_2
        try clear hx247_0
        try clear hx247_1
        try clear p2
        try clear p247
        try clear q247
        obtain ⟨x50_3, rfl, HA, HK3, HO_48, BK245, HB⟩ := hrel
        cases gk with
        | zero => exact absurd HA.out (by simp [spec_plGood.l1])
        | succ k3 =>
         have H := HA.out
         clear HA
         simp only [spec_plGood.l1] at H
         by_cases c33 : x50_3 < (t250.length : Int)
         ·rw [if_pos c33] at H
          have c33b0 : decide (x50_3 < (t250.length : Int)) = true := decide_eq_true c33
          clear c33
          by_cases c34 : 0 ≤ x50_3
          ·rw [if_pos c34] at H
           have c34b0 : decide (0 ≤ x50_3) = true := decide_eq_true c34
           clear c34
           by_cases c35 : x50_3 < (t250.length : Int)
           ·rw [if_pos c35] at H
            have c35b0 : decide (x50_3 < (t250.length : Int)) = true := decide_eq_true c35
            clear c35
            replace H := Option.bind_eq_some_iff.mp H
            obtain ⟨t254, A360, H⟩ := H
            replace H : (if t254 = true then (spec_plGood.l1 k3 t250 (t250.length : Int) (wrap64 (x50_3 + 1)) a0_0 l0_1 l0_2) else (some false)) = some r := H
            have A36 := zz A360
            clear A360
            by_cases c37 : t254 = true
            ·subst c37
             have H1 : (spec_plGood.l1 k3 t250 (t250.length : Int) (wrap64 (x50_3 + 1)) a0_0 l0_1 l0_2) = some r := by rw [if_pos rfl] at H; exact H
             clear H
             have H := H1
             clear H1
             have H' := zz H
             clear H
             have p253 : 0 ≤ (x50_3 : Int) := of_decide_eq_true (by first | (with_reducible assumption) | assumption)
             have q253 : x50_3 < (t250.length : Int) := of_decide_eq_true (by first | (with_reducible assumption) | assumption)
             obtain ⟨ad253, A253_0, c253_0, e253, hx253_0, hl253_0, hi253_0⟩ := at_L3 (Kd.S_reads' HO_48.out).2.2 x50_3 p253 q253
             cases e253
             obtain ⟨ce253, hce253, hMe253, hcc253⟩ := Kd.S_get HO_48.out [] x50_3 p253 (by first | exact q253 | exact of_decide_eq_true (by first | (with_reducible assumption) | assumption) | (have e_ := (Kd.S_reads' HO_48.out).1; omega))
             obtain ⟨ve253_0, rfl, ge253_0⟩ := hMe253
             have hv253_0 := hcc253 0 _ rfl
             rw [Nat.add_zero, show ((Kd.slice 3 (Kd.int .i64))).sz = 1 from rfl, Nat.mul_one] at hv253_0
             replace hv253_0 := Option.some.inj (hv253_0.symm.trans hx253_0)
             rw [hv253_0] at ge253_0
             have HL253_0 := zz (show Kd.R (Kd.int .i64) 3 _ _ _ _ (rd_L3 t250 x50_3) from ge253_0)
             clear hv253_0 ge253_0
             clear hcc253 hce253
             have HR253_0 := zz hi253_0
             have HC253_0 := zz hl253_0
             clear hi253_0 hl253_0
             replace p253 := eq_true p253
             replace q253 := eq_true q253
             go_wp2_with (first | ((with_reducible refine yz (f := 156) rfl ?_); refine yv (some 55) rfl rfl Try.func156 (by kernel_rfl) rfl #[.slice A253_0 (rd_L3 t250 x50_3).length c253_0, .int .i64 0, .int .i64 1000000] rfl (by (try simp only [jx, List.map_cons, List.map_nil]); first | done | rfl | (simp only [jk, jv]; rfl)) ?_; (with_reducible refine (spec_l1All.calls k3 _ _ (rd_L3 t250 x50_3) 0 1000000 true _ ?side1 ?side2 A36.out).mono ?_); (case side1 => repeat (first | exact (by repeat (first | (with_reducible exact HR253_0.out) | (with_reducible refine jz ?_ _) | (with_reducible refine jq ?_ _) | (with_reducible refine jj ?_) | exact HR253_0.out)) | (with_reducible refine jz ?_ _) | (with_reducible refine jq ?_ _) | (with_reducible refine jj ?_))); (case side2 => exact HC253_0.out); rintro e w' ⟨rfl, ⟨nd, rfl⟩⟩; refine ⟨_, rfl, ?_⟩))
             go_roundg k3
             case measure => have := HJ1.out; have := HK2.out; have := HK3.out; omega
             case rel => exact ⟨(wrap64 (x50_3 + 1)), (by first | rfl | (simp; done) | (simp [*]; done)), H', ⟨by have := HJ1.out; have := HK2.out; have := HK3.out; omega⟩, ⟨by (with_reducible repeat (first | apply Kd.S_alloc | apply Kd.S_drewN | apply Kd.S_drew)); exact HO_48.out⟩, ⟨by (with_reducible repeat (first | refine qq ?_ _ | refine qj ?_ | refine qz ?_ _)); exact BK245.out⟩, ⟨by repeat (first | (with_reducible first | exact HB.out | apply zj | apply zq | apply zw | refine zx ?_ GE245.out) | exact HB.out)⟩⟩
            ·replace c37 := Bool.eq_false_iff.mpr c37
             subst c37
             have H1 : (some false) = some r := by rw [if_neg (show ¬ (false = true) by decide)] at H; exact H
             clear H
             have H := H1
             clear H1
             obtain rfl := Option.some.inj H
             have p253 : 0 ≤ (x50_3 : Int) := of_decide_eq_true (by first | (with_reducible assumption) | assumption)
             have q253 : x50_3 < (t250.length : Int) := of_decide_eq_true (by first | (with_reducible assumption) | assumption)
             obtain ⟨ad253, A253_0, c253_0, e253, hx253_0, hl253_0, hi253_0⟩ := at_L3 (Kd.S_reads' HO_48.out).2.2 x50_3 p253 q253
             cases e253
             obtain ⟨ce253, hce253, hMe253, hcc253⟩ := Kd.S_get HO_48.out [] x50_3 p253 (by first | exact q253 | exact of_decide_eq_true (by first | (with_reducible assumption) | assumption) | (have e_ := (Kd.S_reads' HO_48.out).1; omega))
             obtain ⟨ve253_0, rfl, ge253_0⟩ := hMe253
             have hv253_0 := hcc253 0 _ rfl
             rw [Nat.add_zero, show ((Kd.slice 3 (Kd.int .i64))).sz = 1 from rfl, Nat.mul_one] at hv253_0
             replace hv253_0 := Option.some.inj (hv253_0.symm.trans hx253_0)
             rw [hv253_0] at ge253_0
             have HL253_0 := zz (show Kd.R (Kd.int .i64) 3 _ _ _ _ (rd_L3 t250 x50_3) from ge253_0)
             clear hv253_0 ge253_0
             clear hcc253 hce253
             have HR253_0 := zz hi253_0
             have HC253_0 := zz hl253_0
             clear hi253_0 hl253_0
             replace p253 := eq_true p253
             replace q253 := eq_true q253
             go_wp2_with (first | ((with_reducible refine yz (f := 156) rfl ?_); refine yv (some 55) rfl rfl Try.func156 (by kernel_rfl) rfl #[.slice A253_0 (rd_L3 t250 x50_3).length c253_0, .int .i64 0, .int .i64 1000000] rfl (by (try simp only [jx, List.map_cons, List.map_nil]); first | done | rfl | (simp only [jk, jv]; rfl)) ?_; (with_reducible refine (spec_l1All.calls k3 _ _ (rd_L3 t250 x50_3) 0 1000000 false _ ?side1 ?side2 A36.out).mono ?_); (case side1 => repeat (first | exact (by repeat (first | (with_reducible exact HR253_0.out) | (with_reducible refine jz ?_ _) | (with_reducible refine jq ?_ _) | (with_reducible refine jj ?_) | exact HR253_0.out)) | (with_reducible refine jz ?_ _) | (with_reducible refine jq ?_ _) | (with_reducible refine jj ?_))); (case side2 => exact HC253_0.out); rintro e w' ⟨rfl, ⟨nd, rfl⟩⟩; refine ⟨_, rfl, ?_⟩))
             go_ret
             exact ⟨by first | rfl | (simp [errW_none, errW_some] <;> rfl) | (simp [*, errW_none, errW_some] <;> rfl), by repeat (first | (with_reducible first | exact HB.out | apply zj | apply zq | apply zw | refine zx ?_ GE245.out) | exact HB.out)⟩
           ·rw [if_neg c35] at H
            exact absurd H (by simp)
          ·rw [if_neg c34] at H
           exact absurd H (by simp)
         ·rw [if_neg c33] at H
          have c33b0 : decide (x50_3 < (t250.length : Int)) = false := decide_eq_false c33
          clear c33
          replace H := Option.bind_eq_some_iff.mp H
          obtain ⟨t255, A380, H⟩ := H
          replace H : (some t255) = some r := H
          have A38 := zz A380
          clear A380
          obtain rfl := Option.some.inj H
          have hcz39_0 : wr.cell? ⟨gb245, 0, none⟩ = some (.int .i64 a0_0) := (qw BK245.out 0).trans rfl
          have hcz39_1 : wr.cell? ⟨gb245, 1, none⟩ = some (.slice A0_1 l0_1.length c0_1) := (qw BK245.out 1).trans rfl
          have hcz39_2 : wr.cell? ⟨gb245, 2, none⟩ = some (.slice A0_2 l0_2.length c0_2) := (qw BK245.out 2).trans rfl
          have hfz39_0 := qx BK245.out 0
          have hfz39_1 := qx BK245.out 1
          have hfz39_2 := qx BK245.out 2
          go_wp2_with (first | ((with_reducible refine yz (f := 156) rfl ?_); refine yv (some 67) rfl rfl Try.func156 (by kernel_rfl) rfl #[.slice A0_2 l0_2.length c0_2, .int .i64 0, .int .i64 (wrap64 ((wrap64 (a0_0 + (l0_1.length : Int))) - 1))] rfl (by (try simp only [jx, List.map_cons, List.map_nil]); first | done | rfl | (simp only [jk, jv]; rfl)) ?_; (with_reducible refine (spec_l1All.calls k3 _ _ l0_2 0 (wrap64 ((wrap64 (a0_0 + (l0_1.length : Int))) - 1)) t255 _ ?side1 ?side2 A38.out).mono ?_); (case side1 => repeat (first | exact (jw HR0_2.out HB.out) | (with_reducible refine jz ?_ _) | (with_reducible refine jq ?_ _) | (with_reducible refine jj ?_))); (case side2 => exact HC0_2.out); rintro e w' ⟨rfl, ⟨nd, rfl⟩⟩; refine ⟨_, rfl, ?_⟩))
          go_ret
          exact ⟨by first | rfl | (simp [errW_none, errW_some] <;> rfl) | (simp [*, errW_none, errW_some] <;> rfl), by repeat (first | (with_reducible first | exact HB.out | apply zj | apply zq | apply zw | refine zx ?_ GE245.out) | exact HB.out)⟩

end Go.Proofs.Ytlmoemahamneoaa.PFnExactCodeOfPlan
