-- Written by gprint.py, a program of this session, out of the translation (a changed print).
import Derived.Test.YtlmoemahamneoaaPFnExactCodeOfPlanx0
import Derived.Test.YtlmoemahamneoaaPFnExactCodeOfPlanx5
namespace Go.Proofs.Ytlmoemahamneoaa.PFnExactCodeOfPlan
open Go.RowKit Go.Proofs.YtlmoemahamneoaaW.PrintWords Go.Proofs.YtlmoemahamneoaaW.PrintLast Go.Proofs.YtlmoemahamneoaaW.PrintMore
-- shrunk
open Go.Proofs.YtlmoemahamneoaaW.PrintWords.Aside0 renaming mk → zz
open Go.Proofs.YtlmoemahamneoaaW.PrintWords renaming pw_below_drewN → zq, below_alloc → zj, below_drew1 → zw, below_set → zx, below_step → zk, below_size → zv, blk_alloc → qz, blk_drewN → qq, blk_drew → qj, blk_cell → qw, blk_frozen → qx, blk_below → qk, gate_dst → yk
open List renaming setIfInBounds_toArray → qv, set_cons_zero → yw, set_cons_succ → yx
open Go.World renaming block_lt_of_cell? → jz
open Go.Proofs.YtlmoemahamneoaaW.PrintWords.Kd renaming R_alloc → jq, R_drewN → jj, R_drew → jw, C_alloc → jx, C_drewN → jk, C_drew → jv, S_alloc → yz, S_drewN → yq, S_drew → yj, R_mono → yv, S_typed → vj, R_apart' → vw, R_base → kj, R_elder' → kw
open Go.Proofs.YtlmoemahamneoaaW.PrintWords.LeO renaming bind → vz, refl → vq
open Go.Proofs.YtlmoemahamneoaaW.PrintLast renaming any_of → vx, take_ofW → vk, i64_w → vv, i32_w → kz
attribute [local go_sem] max2_int min2_int max_two min_two max_three min_three max_four min_four   -- for this text's walks alone
set_option linter.unusedVariables false
set_option linter.unusedSimpArgs false

/-! ### spec_plExponents: function 198 -/
mutual
def spec_plExponents.l0 : Nat → List (List Int) → Int → Int → List (S133) → List Int → Option ((List (List Int)))
 | 0, _, _, _, _, _ => none
 | k + 1, x3, x4, x228000, x228001, x228002 => if x4 < x228000 then (if 0 ≤ x228000 then (if (x228000 : Int).toNat ≤ 35184372088832 then ((some (List.replicate (x228000 : Int).toNat 0 : List Int)).bind fun y228 => (if 0 ≤ x4 then (if x4 < (y228.length : Int) then (if x3.length < 5864062014805 then (spec_plExponents.l0 k (x3 ++ [(y228.set (x4 : Int).toNat 1)]) (wrap64 (x4 + 1)) x228000 x228001 x228002) else (none)) else (none)) else (none))) else (none)) else (none)) else (spec_plExponents.l1 k x3 x228001 (x228001.length : Int) 0)
def spec_plExponents.l1 : Nat → List (List Int) → List (S133) → Int → Int → Option ((List (List Int)))
 | 0, _, _, _, _ => none
 | k + 1, x3, x25, x26, x27 => if x27 < x26 then (if 0 ≤ x27 then (if x27 < (x25.length : Int) then (if 0 ≤ ((rd_T133 x25 x27).f0) then (if ((rd_T133 x25 x27).f0) < (x3.length : Int) then (if 0 ≤ ((rd_T133 x25 x27).f1) then (if ((rd_T133 x25 x27).f1) < (x3.length : Int) then ((spec_plSum.f k (rd_L3 x3 ((rd_T133 x25 x27).f0)) (rd_L3 x3 ((rd_T133 x25 x27).f1))).bind fun t239 => (if x3.length < 5864062014805 then (spec_plExponents.l1 k (x3 ++ [t239]) x25 x26 (wrap64 (x27 + 1))) else (none))) else (none)) else (none)) else (none)) else (none)) else (none)) else (none)) else (some x3)
end
def spec_plExponents.f (k : Nat) (a0_0 : Int) (l0_1 : List (S133)) (l0_2 : List Int) : Option ((List (List Int))) := spec_plExponents.l0 k ([] : List (List Int)) 0 a0_0 l0_1 l0_2
theorem spec_plExponents.mono_l : ∀ k, (∀ y0 y1 y2 y3 y4, LeO (spec_plExponents.l0 k y0 y1 y2 y3 y4) (spec_plExponents.l0 (k + 1) y0 y1 y2 y3 y4)) ∧ (∀ y0 y1 y2 y3, LeO (spec_plExponents.l1 k y0 y1 y2 y3) (spec_plExponents.l1 (k + 1) y0 y1 y2 y3))
 | 0 => ⟨fun _ _ _ _ _ r h => by simp [spec_plExponents.l0] at h, fun _ _ _ _ r h => by simp [spec_plExponents.l1] at h⟩
 | k + 1 => by
  obtain ⟨ih0, ih1⟩ := spec_plExponents.mono_l k
  refine ⟨?_, ?_⟩
  ·intro y0 y1 y2 y3 y4
   unfold spec_plExponents.l0
   repeat' first
   | (with_reducible exact ih0 _ _ _ _ _)
   | (with_reducible exact ih1 _ _ _ _)
   | (with_reducible exact spec_plSum.mono _ _ _)
   | (with_reducible exact vq _)
   | (with_reducible exact LeO.none _)
   | (with_reducible refine LeO.ite ?_ ?_)
   | (with_reducible refine vz ?_ (fun _ => ?_))
   | exact ih0 _ _ _ _ _
   | exact ih1 _ _ _ _
   | exact spec_plSum.mono _ _ _
   | exact LeO.none _
   | refine LeO.ite ?_ ?_
   | refine vz ?_ (fun _ => ?_)
  ·intro y0 y1 y2 y3
   unfold spec_plExponents.l1
   repeat' first
   | (with_reducible exact ih0 _ _ _ _ _)
   | (with_reducible exact ih1 _ _ _ _)
   | (with_reducible exact spec_plSum.mono _ _ _)
   | (with_reducible exact vq _)
   | (with_reducible exact LeO.none _)
   | (with_reducible refine LeO.ite ?_ ?_)
   | (with_reducible refine vz ?_ (fun _ => ?_))
   | exact ih0 _ _ _ _ _
   | exact ih1 _ _ _ _
   | exact spec_plSum.mono _ _ _
   | exact LeO.none _
   | refine LeO.ite ?_ ?_
   | refine vz ?_ (fun _ => ?_)
theorem spec_plExponents.mono : ∀ a0 a1 a2 k, LeO (spec_plExponents.f k a0 a1 a2) (spec_plExponents.f (k + 1) a0 a1 a2) := by
 intro a0 a1 a2 k
 obtain ⟨ih0, ih1⟩ := spec_plExponents.mono_l k
 unfold spec_plExponents.f
 repeat' first
   | (with_reducible exact ih0 _ _ _ _ _)
   | (with_reducible exact ih1 _ _ _ _)
   | (with_reducible exact spec_plSum.mono _ _ _)
   | (with_reducible exact vq _)
   | (with_reducible exact LeO.none _)
   | (with_reducible refine LeO.ite ?_ ?_)
   | (with_reducible refine vz ?_ (fun _ => ?_))
   | exact ih0 _ _ _ _ _
   | exact ih1 _ _ _ _
   | exact spec_plSum.mono _ _ _
   | exact LeO.none _
   | refine LeO.ite ?_ ?_
   | refine vz ?_ (fun _ => ?_)
def spec_plExponents.T11 : Bool × List (List Nat × List Nat) := (true, [([], []), ([], []), ([], []), ([2], [2]), ([1, 3], [1, 3]), ([4], [4]), ([], []), ([], []), ([7], [7]), ([6, 8], [6, 8]), ([9], [9]), ([5, 10], [5, 10]), ([11], [11]), ([0, 12, 11], [0, 12]), ([13, 13, 0, 1, 2, 3, 4, 5, 6, 7, 8, 9, 10, 11, 12, 13], [0, 1, 6, 13])])
def spec_plExponents.B11 : List Nat := [0, 0, 0, 4, 14, 30, 0, 0, 128, 448, 960, 2046, 4094, 8191, 16383]
theorem spec_plExponents.tab11 : rtab .any (opsOf Try.f198 11) = spec_plExponents.T11 := by kernel_rfl
theorem spec_plExponents.bits11 : waitsOk spec_plExponents.T11.2 spec_plExponents.B11 = true := by kernel_rfl
set_option maxHeartbeats 8000000 in
set_option maxRecDepth 100000 in
theorem spec_plExponents.calls (k : Nat) (a0_0 : Int) (A0_1 : Option Addr) (c0_1 : Nat) (l0_1 : List (S133)) (A0_2 : Option Addr) (c0_2 : Nat) (l0_2 : List Int) (r : List (List Int)) (w : World) (hr0_1 : Kd.C k133 w A0_1 l0_1.length l0_1) (hc0_1 : l0_1.length ≤ c0_1) (hr0_2 : Kd.C (Kd.int .i64) w A0_2 l0_2.length l0_2) (hc0_2 : l0_2.length ≤ c0_2) (h : spec_plExponents.f k a0_0 l0_1 l0_2 = some r) :
  Calls Try.prog 198 #[.agg #[.int .i64 a0_0, .slice A0_1 l0_1.length c0_1, .slice A0_2 l0_2.length c0_2]] w fun e w' => ∃ v0_ : Value, e = .returned (v0_) ∧ Kd.S (Kd.slice 3 (Kd.int .i64)) 29 w' w.heap.size (fun _ => True) v0_ r ∧ Below w.heap.size w w' := by
 have hu59 := Try.underlying59
 have hu133 := Try.underlying133
 have HR0_1 := zz hr0_1
 have HC0_1 := zz hc0_1
 clear hr0_1 hc0_1
 have HR0_2 := zz hr0_2
 have HC0_2 := zz hc0_2
 clear hr0_2 hc0_2
 have HB := zz (Below.refl w.heap.size w)
 have H : (spec_plExponents.l0 k ([] : List (List Int)) 0 a0_0 l0_1 l0_2) = some r := h
 clear h
 have H' := zz H
 clear H
 go_enter Try.func198, Try.ntmps198
 go_wp2_with (first | ((with_reducible refine yk (N := 1) rfl ?_); refine box_event ?hg (N := 1) ?hd (cs := #[.int .i64 a0_0, .slice A0_1 l0_1.length c0_1, .slice A0_2 l0_2.length c0_2]) (t := 59) ?hr ?_; (case hd => rfl); (case hg => rfl); (case hr => first | (go_simp; done) | (go_simp; rfl)); intro gb227 hg w2 hbox hb; have n0_ := zz (zk (by repeat (first | (with_reducible first | exact HB.out | apply zj | apply zq | apply zw) | exact HB.out)) hb); have n1_ := zz (hbox); have n2_ := zz ((by rw [hg]; exact (zv (by repeat (first | (with_reducible first | exact HB.out | apply zj | apply zq | apply zw) | exact HB.out))) : w.heap.size ≤ gb227)); have n3_ := zz ((by rw [hg]; exact (zv (by repeat (first | (with_reducible first | exact HB.out | apply zj | apply zq | apply zw) | exact HB.out))) : w.heap.size ≤ gb227)); clear HB; have HB := n0_; have BK227 := n1_; have GW227 := n2_; have GE227 := n3_; clear n0_ n1_ n2_ n3_; clear hb hbox hg))
 go_loopg [3, 4] k (fun kq v3 v4 w' => ∃ (x3_1 : List (List Int)) (x4_1 : Int), v4 = .int .i64 x4_1 ∧ Aside0 (spec_plExponents.l0 kq x3_1 x4_1 a0_0 l0_1 l0_2 = some r) ∧ Aside0 (kq ≤ k) ∧ Aside0 (Kd.S (Kd.slice 3 (Kd.int .i64)) 29 w' w.heap.size (fun _ => True) v3 x3_1) ∧ Aside0 (w'.heap[gb227]? = some (.cells #[.int .i64 a0_0, (.slice A0_1 l0_1.length c0_1), (.slice A0_2 l0_2.length c0_2)] 59 (0, 0))) ∧ Aside0 (Below w.heap.size w w'))
 case atStart => exact ⟨(([] : List (List Int))), (0), (by first | rfl | (simp; done) | (simp [*]; done)), H', ⟨Nat.le_refl _⟩, ⟨by first | exact Kd.S_nil _ _ _ _ _ | exact Kd.N_nil _ _ _ _ _ | exact Kd.V_nil _ _ _ _ _ | exact Kd.Q_nil _ _ _ _ _ | exact Kd.R_nil _ _ _ _ _⟩, ⟨by (with_reducible repeat (first | refine qq ?_ _ | refine qj ?_ | refine qz ?_ _)); exact BK227.out⟩, ⟨by repeat (first | (with_reducible first | exact HB.out | apply zj | apply zq | apply zw | refine zx ?_ GE227.out) | exact HB.out)⟩⟩
 case round =>
  clear H'
  try clear c1
  try clear p2
  obtain ⟨x3_1, x4_1, rfl, HA, HK1, HO_3, BK227, HB⟩ := hrel
  cases gk with
  | zero => exact absurd HA.out (by simp [spec_plExponents.l0])
  | succ k1 =>
   have H := HA.out
   clear HA
   simp only [spec_plExponents.l0] at H
   by_cases c3 : x4_1 < a0_0
   ·rw [if_pos c3] at H
    have c3b0 : decide (x4_1 < a0_0) = true := decide_eq_true c3
    clear c3
    by_cases c4 : 0 ≤ a0_0
    ·rw [if_pos c4] at H
     have c4b0 := eq_true c4
     have c4b1 : decide (0 ≤ a0_0) = true := decide_eq_true c4
     clear c4
     by_cases c5 : (a0_0 : Int).toNat ≤ 35184372088832
     ·rw [if_pos c5] at H
      have c5b0 := eq_true c5
      have c5b1 : decide ((a0_0 : Int).toNat ≤ 35184372088832) = true := decide_eq_true c5
      clear c5
      obtain ⟨y228, hy228⟩ : ∃ y_ : List Int, y_ = (List.replicate (a0_0 : Int).toNat 0) := ⟨_, rfl⟩
      replace H : (if 0 ≤ x4_1 then (if x4_1 < (y228.length : Int) then (if x3_1.length < 5864062014805 then (spec_plExponents.l0 k1 (x3_1 ++ [(y228.set (x4_1 : Int).toNat 1)]) (wrap64 (x4_1 + 1)) a0_0 l0_1 l0_2) else (none)) else (none)) else (none)) = some r := by first | (rw [hy228]; with_reducible exact H) | (have H2_ := (Option.bind_some _ _).symm.trans H; rw [hy228]; with_reducible exact H2_) | (have H2_ := (Option.bind_some _ _).symm.trans H; with_reducible exact H2_) | with_reducible exact H | (rw [hy228]; exact H) | exact H
      have Ny228 := zz hy228
      clear hy228
      by_cases c6 : 0 ≤ x4_1
      ·rw [if_pos c6] at H
       have c6b0 : decide (0 ≤ x4_1) = true := decide_eq_true c6
       clear c6
       by_cases c7 : x4_1 < (y228.length : Int)
       ·rw [if_pos c7] at H
        have c7b0 : decide (x4_1 < (y228.length : Int)) = true := decide_eq_true c7
        clear c7
        obtain ⟨y231, hy231⟩ : ∃ y_ : List Int, y_ = (y228.set (x4_1 : Int).toNat 1) := ⟨_, rfl⟩
        replace H : (if x3_1.length < 5864062014805 then (spec_plExponents.l0 k1 (x3_1 ++ [y231]) (wrap64 (x4_1 + 1)) a0_0 l0_1 l0_2) else (none)) = some r := by first | (rw [hy231]; with_reducible exact H) | (have H2_ := (Option.bind_some _ _).symm.trans H; rw [hy231]; with_reducible exact H2_) | (have H2_ := (Option.bind_some _ _).symm.trans H; with_reducible exact H2_) | with_reducible exact H | (rw [hy231]; exact H) | exact H
        have Ny231 := zz hy231
        clear hy231
        by_cases c9 : x3_1.length < 5864062014805
        ·rw [if_pos c9] at H
         have LMc9 := zz c9
         clear c9
         obtain ⟨y232, hy232⟩ : ∃ y_ : List (List Int), y_ = (x3_1 ++ [y231]) := ⟨_, rfl⟩
         replace H : (spec_plExponents.l0 k1 y232 (wrap64 (x4_1 + 1)) a0_0 l0_1 l0_2) = some r := by first | (rw [hy232]; with_reducible exact H) | (have H2_ := (Option.bind_some _ _).symm.trans H; rw [hy232]; with_reducible exact H2_) | (have H2_ := (Option.bind_some _ _).symm.trans H; with_reducible exact H2_) | with_reducible exact H | (rw [hy232]; exact H) | exact H
         have Ny232 := zz hy232
         clear hy232
         have H' := zz H
         clear H
         have hcz10_0 : wr.cell? ⟨gb227, 0, none⟩ = some (.int .i64 a0_0) := (qw BK227.out 0).trans rfl
         have hcz10_1 : wr.cell? ⟨gb227, 1, none⟩ = some (.slice A0_1 l0_1.length c0_1) := (qw BK227.out 1).trans rfl
         have hcz10_2 : wr.cell? ⟨gb227, 2, none⟩ = some (.slice A0_2 l0_2.length c0_2) := (qw BK227.out 2).trans rfl
         have hfz10_0 := qx BK227.out 0
         have hfz10_1 := qx BK227.out 1
         have hfz10_2 := qx BK227.out 2
         go_wp2_with (first | ((with_reducible refine yk (N := 16) rfl ?_); refine Kd.R_make (Kd.int .i64) _ 3 rfl (N := 16) rfl 29 _ _ rfl a0_0 rfl rfl Try.underlying29 (.int .i64 0) 8 info3 rfl (by decide) (by omega) 0 (ok := fun _ => True) (okp := fun _ => True) rfl (fun _ hk => hk) trivial (of_decide_eq_true (by first | (with_reducible assumption) | assumption)) (Nat.le_trans (Nat.mul_le_mul_right _ (of_decide_eq_true (by first | (with_reducible assumption) | assumption) : a0_0.toNat ≤ 35184372088832)) (by omega)) (Below.refl _ _) (Nat.le_refl _) ?_; intro v229 w11 ho12 hb hg_ hnew_; clear hg_ hnew_; (first | rw [← Ny228.out] at ho12 | (simp only [Int.reduceToNat] at ho12; rw [← Ny228.out] at ho12)); have n0_ := zz (Kd.S_elder' (by (with_reducible repeat (first | apply yz | apply yq | apply yj)); exact HO_3.out) (kj ho12) hb); have n1_ := zz (Kd.R_lower ho12 (zv (by repeat (first | (with_reducible first | exact HB.out | apply zj | apply zq | apply zw | refine zx ?_ GE227.out) | exact HB.out)))); have n2_ := zz (qk (g := gb227) (o := .cells #[.int .i64 a0_0, .slice A0_1 l0_1.length c0_1, .slice A0_2 l0_2.length c0_2] 59 (0, 0)) (by (with_reducible repeat (first | refine qq ?_ _ | refine qj ?_ | refine qz ?_ _)); exact BK227.out) hb); have n3_ := zz (zk (by repeat (first | (with_reducible first | exact HB.out | apply zj | apply zq | apply zw | refine zx ?_ GE227.out) | exact HB.out)) hb); clear HO_3; clear BK227; clear HB; have HO_3 := n0_; have HO230 := n1_; have BK227 := n2_; have HB := n3_; clear n0_ n1_ n2_ n3_; clear hb ho12; have p8 : 0 ≤ (x4_1 : Int) := of_decide_eq_true (by first | (with_reducible assumption) | assumption); have q8 : (x4_1 : Int) < ((y228.length : Int) : Int) := of_decide_eq_true (by first | (with_reducible assumption) | assumption); obtain ⟨go8, co8, eo8, gb8, gl8, cl8, HG8⟩ := Kd.R_form HO230.out (by omega); (first | cases eo8 | (injection eo8 with ea_ en_ ec_; (first | subst ea_ | (injection ea_ with ea_; subst ea_)); subst ec_; clear en_)); have GB8 := zz gb8; have GG8 := zz HG8; clear gb8 gl8 HG8; obtain ⟨hx8_0, hf8_0⟩ := Kd.R_celln 0 HO230.out (x4_1 : Int) p8 q8; replace p8 := eq_true p8; replace q8 := eq_true q8; obtain ⟨hy13_, hz13_⟩ := Kd.R_celln 0 HO230.out (x4_1 : Int) (of_decide_eq_true (by first | (with_reducible assumption) | assumption)) (of_decide_eq_true (by first | (with_reducible assumption) | assumption)); have HP13 := Kd.R_putg HO230.out (x4_1 : Int) 1) | ((with_reducible refine gate_store (t := 3) (p := 19) rfl ?_); refine store_event (t := 3) (p := 19) (v := ?vo_w14) (w1 := (w11.setCell ⟨go8, (x4_1 : Int).toNat, none⟩ (.int .i64 1))) ?hg ?ho ?hn ?hr ?_; (case ho => rfl); (case hg => rfl); (case hn => rfl); (case hr => first | (go_simp; done) | (go_simp; rfl)); intro w14 hw; have hg : w11.grownBy w14 (some go8) := (by rw [hw]; exact HP13.2); have hp_ : Kd.R (Kd.int .i64) 3 w14 w.heap.size (fun _ => True) (.slice (some ⟨go8, 0, none⟩) y228.length co8) y231 := (by rw [hw, Ny231.out]; exact HP13.1); clear HP13; have n0_ := zz (Kd.S_after (v := (.slice (some ⟨go8, 0, none⟩) y228.length co8)) (v1 := (.slice (some ⟨go8, 0, none⟩) y228.length co8)) (ok := (fun _ => True)) (by (with_reducible repeat (first | apply yz | apply yq | apply yj)); exact HO_3.out) hg (.inl rfl)); have n1_ := zz (blk_grown (g := gb227) (o := .cells #[.int .i64 a0_0, .slice A0_1 l0_1.length c0_1, .slice A0_2 l0_2.length c0_2] 59 (0, 0)) (by (with_reducible repeat (first | refine qq ?_ _ | refine qj ?_ | refine qz ?_ _)); exact BK227.out) hg (Kd.R_ne HO230.out BK227.out (by decide))); have n2_ := zz (hp_); have n3_ := zz ((by rw [hw]; exact zx (HB.out) GB8.out : Below w.heap.size w w14)); clear HO_3; clear BK227; clear HO230; clear HB; have HO_3 := n0_; have BK227 := n1_; have HO230 := n2_; have HB := n3_; clear n0_ n1_ n2_ n3_; clear hg hw hp_) | ((with_reducible refine gate_builtin (b := .append) (xs := #[.tmp 20, .tmp 22]) rfl ?_); at_builtin; refine Kd.S_append (Kd.slice 3 (Kd.int .i64)) (w0 := w) w.heap.size rfl (.tmp 20) (.tmp 22) 79 29 (.slice none 0 0) 24 rfl Try.underlying79 info29 rfl (by decide) (by omega) u3 x3_1 y231 [.slice (some ⟨go8, 0, none⟩) y228.length co8] (fun _ => True) (fun k_ => some k_ = (.slice (some ⟨go8, 0, none⟩) y228.length co8 : Value).ownBlock) rfl rfl ?aP (fun k_ hk_ => ((yv (ok' := fun k_ => ((fun _ => True)) k_ ∧ some k_ ≠ (u3 : Value).ownBlock) (vw (HO230.out) (vj HO_3.out) (by decide)) (fun k_ hk => ⟨trivial, hk.2⟩))).1 k_ hk_.symm) ?aF ?aO ?aB ?aS ?aL ?_; (case aP => exact Kd.M_row (yv (Kd.R_tight rfl (yv (ok' := fun k_ => ((fun _ => True)) k_ ∧ some k_ ≠ (u3 : Value).ownBlock) (vw (HO230.out) (vj HO_3.out) (by decide)) (fun k_ hk => ⟨trivial, hk.2⟩))) (fun _ h_ => h_))); (case aB => exact (by repeat (first | (with_reducible first | exact HB.out | apply zj | apply zq | apply zw | refine zx ?_ GE227.out) | exact HB.out))); (case aF => exact (fun _ _ => trivial)); (case aO => exact (by (with_reducible repeat (first | apply yz | apply yq | apply yj)); exact Kd.S_mono HO_3.out (fun k_ hk => ⟨trivial, fun e_ => hk.2 e_⟩))); (case aS => exact (zv (by repeat (first | (with_reducible first | exact HB.out | apply zj | apply zq | apply zw | refine zx ?_ GE227.out) | exact HB.out)))); (case aL => have := LMc9.out; omega); intro v233 w15 ho hb hg hat; rw [← Ny232.out] at ho; have n0_ := zz (blk_grown (g := gb227) (o := .cells #[.int .i64 a0_0, .slice A0_1 l0_1.length c0_1, .slice A0_2 l0_2.length c0_2] 59 (0, 0)) (by (with_reducible repeat (first | refine qq ?_ _ | refine qj ?_ | refine qz ?_ _)); exact BK227.out) hg (Kd.S_ne HO_3.out BK227.out (by decide))); have n1_ := zz (hb); have n2_ := zz (ho); clear BK227; clear HB; clear HO_3; clear HO230; have BK227 := n0_; have HB := n1_; have HO234 := n2_; clear n0_ n1_ n2_; clear ho hb hg hat))
         go_roundg k1
         case measure => have := HK1.out; omega
         case rel => exact ⟨(y232), (wrap64 (x4_1 + 1)), (by first | rfl | (simp; done) | (simp [*]; done)), H', ⟨by have := HK1.out; omega⟩, ⟨by (with_reducible repeat (first | apply yz | apply yq | apply yj)); exact HO234.out⟩, ⟨by (with_reducible repeat (first | refine qq ?_ _ | refine qj ?_ | refine qz ?_ _)); exact BK227.out⟩, ⟨by repeat (first | (with_reducible first | exact HB.out | apply zj | apply zq | apply zw | refine zx ?_ GE227.out) | exact HB.out)⟩⟩
        ·rw [if_neg c9] at H
         exact absurd H (by simp)
       ·rw [if_neg c7] at H
        exact absurd H (by simp)
      ·rw [if_neg c6] at H
       exact absurd H (by simp)
     ·rw [if_neg c5] at H
      exact absurd H (by simp)
    ·rw [if_neg c4] at H
     exact absurd H (by simp)
   ·rw [if_neg c3] at H
    have c3b0 : decide (x4_1 < a0_0) = false := decide_eq_false c3
    clear c3
    have H' := zz H
    clear H
    have hcz16_0 : wr.cell? ⟨gb227, 0, none⟩ = some (.int .i64 a0_0) := (qw BK227.out 0).trans rfl
    have hcz16_1 : wr.cell? ⟨gb227, 1, none⟩ = some (.slice A0_1 l0_1.length c0_1) := (qw BK227.out 1).trans rfl
    have hcz16_2 : wr.cell? ⟨gb227, 2, none⟩ = some (.slice A0_2 l0_2.length c0_2) := (qw BK227.out 2).trans rfl
    have hfz16_0 := qx BK227.out 0
    have hfz16_1 := qx BK227.out 1
    have hfz16_2 := qx BK227.out 2
    go_wp2
    go_loopg [3, 27] k1 (fun kq v3 v27 w' => ∃ (x3_2 : List (List Int)) (x27_2 : Int), v27 = .int .i64 x27_2 ∧ Aside0 (spec_plExponents.l1 kq x3_2 l0_1 (l0_1.length : Int) x27_2 = some r) ∧ Aside0 (kq ≤ k1) ∧ Aside0 (Kd.S (Kd.slice 3 (Kd.int .i64)) 29 w' w.heap.size (fun _ => True) v3 x3_2) ∧ Aside0 (w'.heap[gb227]? = some (.cells #[.int .i64 a0_0, (.slice A0_1 l0_1.length c0_1), (.slice A0_2 l0_2.length c0_2)] 59 (0, 0))) ∧ Aside0 (Below w.heap.size w w'))
    case atStart => exact ⟨(x3_1), (0), (by first | rfl | (simp; done) | (simp [*]; done)), H', ⟨Nat.le_refl _⟩, ⟨by (with_reducible repeat (first | apply yz | apply yq | apply yj)); exact HO_3.out⟩, ⟨by (with_reducible repeat (first | refine qq ?_ _ | refine qj ?_ | refine qz ?_ _)); exact BK227.out⟩, ⟨by repeat (first | (with_reducible first | exact HB.out | apply zj | apply zq | apply zw | refine zx ?_ GE227.out) | exact HB.out)⟩⟩
    case round =>
     clear H'
     try clear c1
     try clear p2
     try clear c3
     try clear c3b0
     try clear c4
     try clear c4b0
     try clear c4b1
     try clear c5
     try clear c5b0
     try clear c5b1
     try clear c6
     try clear c6b0
     try clear p6
     try clear c7
     try clear c7b0
     try clear p8
     try clear q8
     try clear hx8
     try clear hf8
     try clear c9
     try clear hcz10_0
     try clear hcz10_1
     try clear hcz10_2
     try clear hcz16_0
     try clear hcz16_1
     try clear hcz16_2
     try clear hfz10_0
     try clear hfz10_1
     try clear hfz10_2
     try clear hfz16_0
     try clear hfz16_1
     try clear hfz16_2
     try clear hx8_0
     try clear p2
     try clear p8
     try clear q8
     obtain ⟨x3_2, x27_2, rfl, HA, HK2, HO_3, BK227, HB⟩ := hrel
     cases gk with
     | zero => exact absurd HA.out (by simp [spec_plExponents.l1])
     | succ k2 =>
      have H := HA.out
      clear HA
      simp only [spec_plExponents.l1] at H
      by_cases c17 : x27_2 < (l0_1.length : Int)
      ·rw [if_pos c17] at H
       have c17b0 : decide (x27_2 < (l0_1.length : Int)) = true := decide_eq_true c17
       clear c17
       by_cases c18 : 0 ≤ x27_2
       ·rw [if_pos c18] at H
        have c18b0 : decide (0 ≤ x27_2) = true := decide_eq_true c18
        clear c18
        by_cases c19 : x27_2 < (l0_1.length : Int)
        ·rw [if_pos c19] at H
         have c19b0 : decide (x27_2 < (l0_1.length : Int)) = true := decide_eq_true c19
         clear c19
         by_cases c20 : 0 ≤ ((rd_T133 l0_1 x27_2).f0)
         ·rw [if_pos c20] at H
          have c20b0 : decide (0 ≤ ((rd_T133 l0_1 x27_2).f0)) = true := decide_eq_true c20
          clear c20
          by_cases c21 : ((rd_T133 l0_1 x27_2).f0) < (x3_2.length : Int)
          ·rw [if_pos c21] at H
           have c21b0 : decide (((rd_T133 l0_1 x27_2).f0) < (x3_2.length : Int)) = true := decide_eq_true c21
           clear c21
           by_cases c22 : 0 ≤ ((rd_T133 l0_1 x27_2).f1)
           ·rw [if_pos c22] at H
            have c22b0 : decide (0 ≤ ((rd_T133 l0_1 x27_2).f1)) = true := decide_eq_true c22
            clear c22
            by_cases c23 : ((rd_T133 l0_1 x27_2).f1) < (x3_2.length : Int)
            ·rw [if_pos c23] at H
             have c23b0 : decide (((rd_T133 l0_1 x27_2).f1) < (x3_2.length : Int)) = true := decide_eq_true c23
             clear c23
             replace H := Option.bind_eq_some_iff.mp H
             obtain ⟨t239, A240, H⟩ := H
             replace H : (if x3_2.length < 5864062014805 then (spec_plExponents.l1 k2 (x3_2 ++ [t239]) l0_1 (l0_1.length : Int) (wrap64 (x27_2 + 1))) else (none)) = some r := H
             have A24 := zz A240
             clear A240
             by_cases c25 : x3_2.length < 5864062014805
             ·rw [if_pos c25] at H
              have LMc25 := zz c25
              clear c25
              obtain ⟨y242, hy242⟩ : ∃ y_ : List (List Int), y_ = (x3_2 ++ [t239]) := ⟨_, rfl⟩
              replace H : (spec_plExponents.l1 k2 y242 l0_1 (l0_1.length : Int) (wrap64 (x27_2 + 1))) = some r := by first | (rw [hy242]; with_reducible exact H) | (have H2_ := (Option.bind_some _ _).symm.trans H; rw [hy242]; with_reducible exact H2_) | (have H2_ := (Option.bind_some _ _).symm.trans H; with_reducible exact H2_) | with_reducible exact H | (rw [hy242]; exact H) | exact H
              have Ny242 := zz hy242
              clear hy242
              have H' := zz H
              clear H
              have p235 : 0 ≤ (x27_2 : Int) := of_decide_eq_true (by first | (with_reducible assumption) | assumption)
              have q235 : x27_2 < (l0_1.length : Int) := of_decide_eq_true (by first | (with_reducible assumption) | assumption)
              obtain ⟨ad235, e235, hx235_0, hx235_1⟩ := at_T133 HR0_1.out x27_2 p235 q235
              cases e235
              replace hx235_0 := (HB.out.cell (jz w _ hx235_0)).trans hx235_0
              replace hx235_1 := (HB.out.cell (jz w _ hx235_1)).trans hx235_1
              replace p235 := eq_true p235
              replace q235 := eq_true q235
              try go_wp2_with (first | ((with_reducible refine yk (N := 7) rfl ?_); refine box_event ?hg (N := 7) ?hd (cs := #[.int .i64 0, .int .i64 0]) (t := 133) ?hr ?_; (case hd => rfl); (case hg => rfl); (case hr => first | (go_simp; done) | (go_simp; rfl)); intro gb236 hg w26 hbox hb; have n0_ := zz (Kd.S_below (by (with_reducible repeat (first | apply yz | apply yq | apply yj)); exact HO_3.out) hb); have n1_ := zz (qk (g := gb227) (o := .cells #[.int .i64 a0_0, .slice (some ad235) l0_1.length c0_1, .slice A0_2 l0_2.length c0_2] 59 (0, 0)) (by (with_reducible repeat (first | refine qq ?_ _ | refine qj ?_ | refine qz ?_ _)); exact BK227.out) hb); have n2_ := zz (zk (by repeat (first | (with_reducible first | exact HB.out | apply zj | apply zq | apply zw | refine zx ?_ GE227.out) | exact HB.out)) hb); have n3_ := zz (hbox); have n4_ := zz ((by rw [hg]; exact (zv (by repeat (first | (with_reducible first | exact HB.out | apply zj | apply zq | apply zw | refine zx ?_ GE227.out) | exact HB.out))) : w.heap.size ≤ gb236)); have n5_ := zz ((by rw [hg]; exact (zv (by repeat (first | (with_reducible first | exact HB.out | apply zj | apply zq | apply zw | refine zx ?_ GE227.out) | exact HB.out))) : w.heap.size ≤ gb236)); have n6_ := zz ((by rw [hg]; exact Nat.ne_of_lt (blk_lt (g := gb227) (o := .cells #[.int .i64 a0_0, .slice (some ad235) l0_1.length c0_1, .slice A0_2 l0_2.length c0_2] 59 (0, 0)) (by (with_reducible repeat (first | refine qq ?_ _ | refine qj ?_ | refine qz ?_ _)); exact BK227.out)) : gb227 ≠ gb236)); have n7_ := zz ((by rw [hg]; exact Nat.ne_of_gt (blk_lt (g := gb227) (o := .cells #[.int .i64 a0_0, .slice (some ad235) l0_1.length c0_1, .slice A0_2 l0_2.length c0_2] 59 (0, 0)) (by (with_reducible repeat (first | refine qq ?_ _ | refine qj ?_ | refine qz ?_ _)); exact BK227.out)) : gb236 ≠ gb227)); clear HO_3; clear BK227; clear HB; have HO_3 := n0_; have BK227 := n1_; have HB := n2_; have BK236 := n3_; have GW236 := n4_; have GE236 := n5_; have NB227_236 := n6_; have NB236_227 := n7_; clear n0_ n1_ n2_ n3_ n4_ n5_ n6_ n7_; clear hb hbox hg; have hnb27 := NB236_227.out; have hnc27 := NB227_236.out; have hcz28_0 : w26.cell? ⟨gb236, 0, none⟩ = some (.int .i64 0) := (qw BK236.out 0).trans rfl; have hcz28_1 : w26.cell? ⟨gb236, 1, none⟩ = some (.int .i64 0) := (qw BK236.out 1).trans rfl; have hfz28_0 := qx BK236.out 0; have hfz28_1 := qx BK236.out 1))
              have n0_ : Aside0 (Kd.S (Kd.slice 3 (Kd.int .i64)) 29 ((w26.setCell ⟨gb236, 0, none⟩ (.int .i64 ((rd_T133 l0_1 x27_2).f0))).setCell ⟨gb236, 1, none⟩ (.int .i64 ((rd_T133 l0_1 x27_2).f1))) w.heap.size (fun _ => True) u3 x3_2) := ⟨by (with_reducible repeat (first | apply yz | apply yq | apply yj)); exact Kd.S_mono (Kd.S_far (p := ⟨gb236, 1, none⟩) (Kd.S_far (p := ⟨gb236, 0, none⟩) (Kd.S_types HO_3.out BK236.out (by decide)) (fun _ hk => hk.2) (.int .i64 ((rd_T133 l0_1 x27_2).f0))) (fun _ hk => hk.2) (.int .i64 ((rd_T133 l0_1 x27_2).f1))) (fun _ hk => trivial)⟩
              have n1_ : Aside0 (((w26.setCell ⟨gb236, 0, none⟩ (.int .i64 ((rd_T133 l0_1 x27_2).f0))).setCell ⟨gb236, 1, none⟩ (.int .i64 ((rd_T133 l0_1 x27_2).f1))).heap[gb227]? = some (.cells #[.int .i64 a0_0, .slice (some ad235) l0_1.length c0_1, .slice A0_2 l0_2.length c0_2] 59 (0, 0))) := ⟨by (with_reducible repeat (first | refine qq ?_ _ | refine qj ?_ | refine qz ?_ _)); refine blk_far ?_ NB227_236.out _; (with_reducible repeat (first | refine qq ?_ _ | refine qj ?_ | refine qz ?_ _)); refine blk_far ?_ NB227_236.out _; (with_reducible repeat (first | refine qq ?_ _ | refine qj ?_ | refine qz ?_ _)); exact BK227.out⟩
              have n2_ : Aside0 (((w26.setCell ⟨gb236, 0, none⟩ (.int .i64 ((rd_T133 l0_1 x27_2).f0))).setCell ⟨gb236, 1, none⟩ (.int .i64 ((rd_T133 l0_1 x27_2).f1))).heap[gb236]? = some (.cells #[.int .i64 ((rd_T133 l0_1 x27_2).f0), .int .i64 ((rd_T133 l0_1 x27_2).f1)] 133 (0, 0))) := ⟨by (with_reducible repeat (first | refine qq ?_ _ | refine qj ?_ | refine qz ?_ _)); refine blk_put (cs := #[.int .i64 ((rd_T133 l0_1 x27_2).f0), .int .i64 0]) ?_ 1 _ rfl; (with_reducible repeat (first | refine qq ?_ _ | refine qj ?_ | refine qz ?_ _)); refine blk_put (cs := #[.int .i64 0, .int .i64 0]) ?_ 0 _ rfl; (with_reducible repeat (first | refine qq ?_ _ | refine qj ?_ | refine qz ?_ _)); exact BK236.out⟩
              have n3_ : Aside0 (Below w.heap.size w ((w26.setCell ⟨gb236, 0, none⟩ (.int .i64 ((rd_T133 l0_1 x27_2).f0))).setCell ⟨gb236, 1, none⟩ (.int .i64 ((rd_T133 l0_1 x27_2).f1)))) := ⟨by repeat (first | (with_reducible first | exact HB.out | apply zj | apply zq | apply zw | refine zx ?_ GE227.out | refine zx ?_ GE236.out) | exact HB.out)⟩
              (try clear HO_3)
              (try clear BK227)
              (try clear BK236)
              (try clear HB)
              generalize ((w26.setCell ⟨gb236, 0, none⟩ (.int .i64 ((rd_T133 l0_1 x27_2).f0))).setCell ⟨gb236, 1, none⟩ (.int .i64 ((rd_T133 l0_1 x27_2).f1))) = w29 at n0_ n1_ n2_ n3_ ⊢
              have HO_3 := n0_
              have BK227 := n1_
              have BK236 := n2_
              have HB := n3_
              clear n0_ n1_ n2_ n3_
              have n0_ := zz (yj HO_3.out)
              have n1_ := zz (qj BK227.out)
              have n2_ := zz (qj BK236.out)
              have n3_ := zz (zw HB.out)
              clear HO_3
              clear BK227
              clear BK236
              clear HB
              have HO_3 := n0_
              have BK227 := n1_
              have BK236 := n2_
              have HB := n3_
              clear n0_ n1_ n2_ n3_
              obtain ⟨Ao31, co31, eo31⟩ := Kd.S_slice HO_3.out
              (first | subst eo31 | (injection eo31 with f1_ f2_ f3_; have f4_ := f1_.symm; have f5_ := f3_.symm; clear f1_ f2_ f3_; subst f4_; subst f5_))
              have p237 : 0 ≤ (((rd_T133 l0_1 x27_2).f0) : Int) := of_decide_eq_true (by first | (with_reducible assumption) | assumption)
              have q237 : ((rd_T133 l0_1 x27_2).f0) < (x3_2.length : Int) := of_decide_eq_true (by first | (with_reducible assumption) | assumption)
              obtain ⟨ad237, A237_0, c237_0, e237, hx237_0, hl237_0, hi237_0⟩ := at_L3 (Kd.S_reads' HO_3.out).2.2 ((rd_T133 l0_1 x27_2).f0) p237 q237
              cases e237
              obtain ⟨ce237, hce237, hMe237, hcc237⟩ := Kd.S_get HO_3.out [] ((rd_T133 l0_1 x27_2).f0) p237 (by first | exact q237 | exact of_decide_eq_true (by first | (with_reducible assumption) | assumption) | (have e_ := (Kd.S_reads' HO_3.out).1; omega))
              obtain ⟨ve237_0, rfl, ge237_0⟩ := hMe237
              have hv237_0 := hcc237 0 _ rfl
              rw [Nat.add_zero, show ((Kd.slice 3 (Kd.int .i64))).sz = 1 from rfl, Nat.mul_one] at hv237_0
              replace hv237_0 := Option.some.inj (hv237_0.symm.trans hx237_0)
              rw [hv237_0] at ge237_0
              have HL237_0 := zz (show Kd.R (Kd.int .i64) 3 _ _ _ _ (rd_L3 x3_2 ((rd_T133 l0_1 x27_2).f0)) from ge237_0)
              clear hv237_0 ge237_0
              clear hcc237 hce237
              have HR237_0 := zz hi237_0
              have HC237_0 := zz hl237_0
              clear hi237_0 hl237_0
              replace p237 := eq_true p237
              replace q237 := eq_true q237
              have p238 : 0 ≤ (((rd_T133 l0_1 x27_2).f1) : Int) := of_decide_eq_true (by first | (with_reducible assumption) | assumption)
              have q238 : ((rd_T133 l0_1 x27_2).f1) < (x3_2.length : Int) := of_decide_eq_true (by first | (with_reducible assumption) | assumption)
              obtain ⟨ad238, A238_0, c238_0, e238, hx238_0, hl238_0, hi238_0⟩ := at_L3 (Kd.S_reads' HO_3.out).2.2 ((rd_T133 l0_1 x27_2).f1) p238 q238
              obtain rfl : ad237 = ad238 := (by injection e238)
              obtain ⟨ce238, hce238, hMe238, hcc238⟩ := Kd.S_get HO_3.out [] ((rd_T133 l0_1 x27_2).f1) p238 (by first | exact q238 | exact of_decide_eq_true (by first | (with_reducible assumption) | assumption) | (have e_ := (Kd.S_reads' HO_3.out).1; omega))
              obtain ⟨ve238_0, rfl, ge238_0⟩ := hMe238
              have hv238_0 := hcc238 0 _ rfl
              rw [Nat.add_zero, show ((Kd.slice 3 (Kd.int .i64))).sz = 1 from rfl, Nat.mul_one] at hv238_0
              replace hv238_0 := Option.some.inj (hv238_0.symm.trans hx238_0)
              rw [hv238_0] at ge238_0
              have HL238_0 := zz (show Kd.R (Kd.int .i64) 3 _ _ _ _ (rd_L3 x3_2 ((rd_T133 l0_1 x27_2).f1)) from ge238_0)
              clear hv238_0 ge238_0
              clear hcc238 hce238
              have HR238_0 := zz hi238_0
              have HC238_0 := zz hl238_0
              clear hi238_0 hl238_0
              replace p238 := eq_true p238
              replace q238 := eq_true q238
              refine start_ (n := 15) (S := fun w' => w'.cell? ⟨gb236, 0, none⟩ = some (.int .i64 ((rd_T133 l0_1 x27_2).f0)) ∧ w'.cell? ⟨gb236, 1, none⟩ = some (.int .i64 ((rd_T133 l0_1 x27_2).f1)) ∧ w'.cell? (ad237.add (((rd_T133 l0_1 x27_2).f0)).toNat) = some (.slice A237_0 (rd_L3 x3_2 ((rd_T133 l0_1 x27_2).f0)).length c237_0) ∧ w'.cell? (ad237.add (((rd_T133 l0_1 x27_2).f1)).toNat) = some (.slice A238_0 (rd_L3 x3_2 ((rd_T133 l0_1 x27_2).f1)).length c238_0)) (ds := [12, 13]) #[false, false, false, false, false, false, false, false, false, false, false, false, false, false, false] (by kernel_rfl) rfl rfl ⟨(qw BK236.out 0).trans rfl, (qw BK236.out 1).trans rfl, hx237_0, hx238_0⟩ (fun hHeld => ?_); refine with_tabW spec_plExponents.tab11 spec_plExponents.bits11 (fun HT_ HW_ => ?_)
              generalize w29.drew = w30 at HO_3 BK227 BK236 HB HL237_0 HL238_0 HR237_0 HR238_0 hx237_0 hx238_0 hHeld ⊢
              refine pure_ (i := 0) (N := some 31) (v := ?_) (a' := ?_) #[true, false, false, false, false, false, false, false, false, false, false, false, false, false, false] rfl rfl (vx HT_.out (by kernel_rfl)) (fun _ _ _ h => h) (Or.inl ⟨by rfl, ?_⟩) ?_ ?_
              rotate_left
              ·intro w'
               go_simp
               with_reducible rfl
              rotate_left
              ·simp only [Act.put, qv, yw, yx, vv, kz]
               rfl
              refine pure_ (i := 1) (N := some 32) (v := ?_) (a' := ?_) #[true, true, false, false, false, false, false, false, false, false, false, false, false, false, false] rfl rfl (vx HT_.out (by kernel_rfl)) (fun _ _ _ h => h) (Or.inl ⟨by rfl, ?_⟩) ?_ ?_
              rotate_left
              ·intro w'
               go_simp
               with_reducible rfl
              rotate_left
              ·simp only [Act.put, qv, yw, yx, vv, kz]
               rfl
              refine pure_ (i := 2) (N := some 33) (v := ?_) (a' := ?_) #[true, true, true, false, false, false, false, false, false, false, false, false, false, false, false] rfl rfl (vx HT_.out (by kernel_rfl)) (fun _ _ _ h => h) (Or.inl ⟨by rfl, ?_⟩) ?_ ?_
              rotate_left
              ·intro w'
               go_simp
               with_reducible rfl
              rotate_left
              ·simp only [Act.put, qv, yw, yx, vv, kz]
               rfl
              refine pure_ (i := 6) (N := some 37) (v := ?_) (a' := ?_) #[true, true, true, false, false, false, true, false, false, false, false, false, false, false, false] rfl rfl (vx HT_.out (by kernel_rfl)) (fun _ _ _ h => h) (Or.inl ⟨by rfl, ?_⟩) ?_ ?_
              rotate_left
              ·intro w'
               go_simp
               with_reducible rfl
              rotate_left
              ·simp only [Act.put, qv, yw, yx, vv, kz]
               rfl
              refine pure_ (i := 7) (N := some 38) (v := ?_) (a' := ?_) #[true, true, true, false, false, false, true, true, false, false, false, false, false, false, false] rfl rfl (vx HT_.out (by kernel_rfl)) (fun _ _ _ h => h) (Or.inl ⟨by rfl, ?_⟩) ?_ ?_
              rotate_left
              ·intro w'
               go_simp
               with_reducible rfl
              rotate_left
              ·simp only [Act.put, qv, yw, yx, vv, kz]
               rfl
              refine take_ (i := 3) (N := some 34) (v := ?_) (a' := ?_) #[true, true, true, true, false, false, true, true, false, false, false, false, false, false, false] rfl rfl (vk HT_.out HW_.out (by kernel_rfl)) (fun _ _ _ h => h) (Or.inl ⟨by rfl, ?_⟩) hHeld ?_ ?_
              rotate_left
              ·rintro w' ⟨s0, s1, s2, s3⟩
               go_simp
               with_reducible rfl
              rotate_left
              ·simp only [Act.put, qv, yw, yx, vv, kz]
               rfl
              refine pure_ (i := 4) (N := some 35) (v := ?_) (a' := ?_) #[true, true, true, true, true, false, true, true, false, false, false, false, false, false, false] rfl rfl (vx HT_.out (by kernel_rfl)) (fun _ _ _ h => h) (Or.inl ⟨by rfl, ?_⟩) ?_ ?_
              rotate_left
              ·intro w'
               go_simp
               with_reducible rfl
              rotate_left
              ·simp only [Act.put, qv, yw, yx, vv, kz]
               rfl
              refine take_ (i := 5) (N := some 36) (v := ?_) (a' := ?_) #[true, true, true, true, true, true, true, true, false, false, false, false, false, false, false] rfl rfl (vk HT_.out HW_.out (by kernel_rfl)) (fun _ _ _ h => h) (Or.inl ⟨by rfl, ?_⟩) hHeld ?_ ?_
              rotate_left
              ·rintro w' ⟨s0, s1, s2, s3⟩
               go_simp
               with_reducible rfl
              rotate_left
              ·simp only [Act.put, qv, yw, yx, vv, kz]
               rfl
              refine take_ (i := 8) (N := some 39) (v := ?_) (a' := ?_) #[true, true, true, true, true, true, true, true, true, false, false, false, false, false, false] rfl rfl (vk HT_.out HW_.out (by kernel_rfl)) (fun _ _ _ h => h) (Or.inl ⟨by rfl, ?_⟩) hHeld ?_ ?_
              rotate_left
              ·rintro w' ⟨s0, s1, s2, s3⟩
               go_simp
               with_reducible rfl
              rotate_left
              ·simp only [Act.put, qv, yw, yx, vv, kz]
               rfl
              refine pure_ (i := 9) (N := some 40) (v := ?_) (a' := ?_) #[true, true, true, true, true, true, true, true, true, true, false, false, false, false, false] rfl rfl (vx HT_.out (by kernel_rfl)) (fun _ _ _ h => h) (Or.inl ⟨by rfl, ?_⟩) ?_ ?_
              rotate_left
              ·intro w'
               go_simp
               with_reducible rfl
              rotate_left
              ·simp only [Act.put, qv, yw, yx, vv, kz]
               rfl
              refine take_ (i := 10) (N := some 41) (v := ?_) (a' := ?_) #[true, true, true, true, true, true, true, true, true, true, true, false, false, false, false] rfl rfl (vk HT_.out HW_.out (by kernel_rfl)) (fun _ _ _ h => h) (Or.inl ⟨by rfl, ?_⟩) hHeld ?_ ?_
              rotate_left
              ·rintro w' ⟨s0, s1, s2, s3⟩
               go_simp
               with_reducible rfl
              rotate_left
              ·simp only [Act.put, qv, yw, yx, vv, kz]
               rfl
              refine one_ (i := 11) (N := some 42) #[true, true, true, true, true, true, true, true, true, true, true, true, false, false, false] rfl rfl (one_of HT_.out (by kernel_rfl)) (by decide) (fun K hK => ?_)
              refine goes_ Try.func236 (by kernel_rfl) rfl #[.slice A237_0 (rd_L3 x3_2 ((rd_T133 l0_1 x27_2).f0)).length c237_0, .slice A238_0 (rd_L3 x3_2 ((rd_T133 l0_1 x27_2).f1)).length c238_0] (by rfl) rfl rfl (by (try simp only [List.map_toArray, List.map_cons, List.map_nil]); first | done | rfl | (simp only [List.length_drop, List.length_take]; rfl)) ?_
              with_reducible refine (spec_plSum.calls k2 _ _ (rd_L3 x3_2 ((rd_T133 l0_1 x27_2).f0)) _ _ (rd_L3 x3_2 ((rd_T133 l0_1 x27_2).f1)) t239 _ ?side1 ?side2 ?side3 ?side4 A24.out).mono ?_
              (case side1 => repeat (first | exact (by repeat (first | (with_reducible exact HR237_0.out) | (with_reducible refine jx ?_ _) | (with_reducible refine jk ?_ _) | (with_reducible refine jv ?_) | exact HR237_0.out)) | (with_reducible refine jx ?_ _) | (with_reducible refine jk ?_ _) | (with_reducible refine jv ?_)))
              (case side2 => exact HC237_0.out)
              (case side3 => repeat (first | exact (by repeat (first | (with_reducible exact HR238_0.out) | (with_reducible refine jx ?_ _) | (with_reducible refine jk ?_ _) | (with_reducible refine jv ?_) | exact HR238_0.out)) | (with_reducible refine jx ?_ _) | (with_reducible refine jk ?_ _) | (with_reducible refine jv ?_)))
              (case side4 => exact HC238_0.out)
              rintro e w32 ⟨v240, rfl, ho0, hb⟩
              have HS2_ := (hb.cell (jz _ _ (hHeld.2.2.1))).trans (hHeld.2.2.1)
              have HS3_ := (hb.cell (jz _ _ (hHeld.2.2.2))).trans (hHeld.2.2.2)
              refine ⟨_, rfl, ?_⟩
              have n0_ := zz (Kd.S_elder' (by (with_reducible repeat (first | apply yz | apply yq | apply yj)); exact HO_3.out) (kj ho0) hb)
              have n1_ := zz (kw (by (with_reducible repeat (first | apply jq | apply jj | apply jw)); exact HL237_0.out) (kj ho0) hb)
              have n2_ := zz (kw (by (with_reducible repeat (first | apply jq | apply jj | apply jw)); exact HL238_0.out) (kj ho0) hb)
              have n3_ := zz (Kd.R_lower (Kd.R_new' (Kd.R_new' ho0 (Kd.R_lt (by (with_reducible repeat (first | apply jq | apply jj | apply jw)); exact HL237_0.out))) (Kd.R_lt (by (with_reducible repeat (first | apply jq | apply jj | apply jw)); exact HL238_0.out))) (zv (by repeat (first | (with_reducible first | exact HB.out | apply zj | apply zq | apply zw | refine zx ?_ GE227.out | refine zx ?_ GE236.out) | exact HB.out))))
              have n4_ := zz (qk (g := gb227) (o := .cells #[.int .i64 a0_0, .slice (some ad235) l0_1.length c0_1, .slice A0_2 l0_2.length c0_2] 59 (0, 0)) (by (with_reducible repeat (first | refine qq ?_ _ | refine qj ?_ | refine qz ?_ _)); exact BK227.out) hb)
              have n5_ := zz (qk (g := gb236) (o := .cells #[.int .i64 ((rd_T133 l0_1 x27_2).f0), .int .i64 ((rd_T133 l0_1 x27_2).f1)] 133 (0, 0)) (by (with_reducible repeat (first | refine qq ?_ _ | refine qj ?_ | refine qz ?_ _)); exact BK236.out) hb)
              have n6_ := zz (Kd.C_below (by repeat (first | (with_reducible exact HR237_0.out) | (with_reducible refine jx ?_ _) | (with_reducible refine jk ?_ _) | (with_reducible refine jv ?_) | exact HR237_0.out)) hb)
              have n7_ := zz (Kd.C_below (by repeat (first | (with_reducible exact HR238_0.out) | (with_reducible refine jx ?_ _) | (with_reducible refine jk ?_ _) | (with_reducible refine jv ?_) | exact HR238_0.out)) hb)
              have n8_ := zz (zk (by repeat (first | (with_reducible first | exact HB.out | apply zj | apply zq | apply zw | refine zx ?_ GE227.out | refine zx ?_ GE236.out) | exact HB.out)) hb)
              clear HO_3
              clear HL237_0
              clear HL238_0
              clear BK227
              clear BK236
              clear HR237_0
              clear HR238_0
              clear HB
              have HO_3 := n0_
              have HL237_0 := n1_
              have HL238_0 := n2_
              have HO241 := n3_
              have BK227 := n4_
              have BK236 := n5_
              have HR237_0 := n6_
              have HR238_0 := n7_
              have HB := n8_
              clear n0_ n1_ n2_ n3_ n4_ n5_ n6_ n7_ n8_
              (try clear hb)
              (try clear hb2)
              (try clear hk)
              (try clear hi)
              (try clear ho0)
              obtain ⟨Ao34, co34, eo34⟩ := Kd.R_slice HO241.out
              (first | subst eo34 | (injection eo34 with f1_ f2_ f3_; have f4_ := f1_.symm; have f5_ := f3_.symm; clear f1_ f2_ f3_; subst f4_; subst f5_))
              refine hK.out _ _ ⟨(qw BK236.out 0).trans rfl, (qw BK236.out 1).trans rfl, HS2_, HS3_⟩ (fun hHeld => ?_)
              clear hK K
              refine norm_ (a' := ?_) ?_ ?_
              rotate_left
              ·show Act.put _ (some 42) _ = _
               simp only [Act.put, qv, yw, yx, vv, kz]
               rfl
              refine last_ (i := 12) (N := some 43) #[true, true, true, true, true, true, true, true, true, true, true, true, true, false, false] rfl rfl (one_of HT_.out (by kernel_rfl)) (by decide) (fun K hK => ?_)
              refine value_ (w1 := ?_) (v := ?_) (by rfl) rfl ?_ ?_
              rotate_left 2
              ·go_simp
               constructor
               ·rfl
               ·rfl
              refine hK.out _ _ ?_
              clear hK K
              refine norm_ (a' := ?_) ?_ ?_
              rotate_left
              ·show Act.put _ (some 43) _ = _
               simp only [Act.put, qv, yw, yx, vv, kz]
               rfl
              refine last_ (i := 13) (N := some 44) #[true, true, true, true, true, true, true, true, true, true, true, true, true, true, false] rfl rfl (one_of HT_.out (by kernel_rfl)) (by decide) (fun K hK => ?_)
              refine Kd.S_append_step (Kd.slice 3 (Kd.int .i64)) (w0 := w) w.heap.size (by rfl) (.tmp 31) (.tmp 43) 79 29 (.slice none 0 0) 24 rfl Try.underlying79 info29 rfl (by decide) (by omega) (.slice (some ad237) x3_2.length co31) x3_2 t239 [.slice Ao34 t239.length co34] (fun _ => True) (fun k_ => some k_ = (.slice Ao34 t239.length co34 : Value).ownBlock) rfl rfl ?aP (fun k_ hk_ => ((yv (ok' := fun k_ => ((fun _ => True)) k_ ∧ some k_ ≠ (.slice (some ad237) x3_2.length co31 : Value).ownBlock) (vw (HO241.out) (vj HO_3.out) (by decide)) (fun k_ hk => ⟨trivial, hk.2⟩))).1 k_ hk_.symm) ?aF ?aO ?aB ?aS ?aL ?_
              (case aP => exact Kd.M_row (yv (Kd.R_tight rfl (yv (ok' := fun k_ => ((fun _ => True)) k_ ∧ some k_ ≠ (.slice (some ad237) x3_2.length co31 : Value).ownBlock) (vw (HO241.out) (vj HO_3.out) (by decide)) (fun k_ hk => ⟨trivial, hk.2⟩))) (fun _ h_ => h_)))
              (case aB => exact (by repeat (first | (with_reducible first | exact HB.out | apply zj | apply zq | apply zw | refine zx ?_ GE227.out | refine zx ?_ GE236.out) | exact HB.out)))
              (case aF => exact (fun _ _ => trivial))
              (case aO => exact (by (with_reducible repeat (first | apply yz | apply yq | apply yj)); exact Kd.S_mono HO_3.out (fun k_ hk => ⟨trivial, fun e_ => hk.2 e_⟩)))
              (case aS => exact (zv (by repeat (first | (with_reducible first | exact HB.out | apply zj | apply zq | apply zw | refine zx ?_ GE227.out | refine zx ?_ GE236.out) | exact HB.out))))
              (case aL => have := LMc25.out; omega)
              intro v243 w33 ho hb hg hat
              rw [← Ny242.out] at ho
              have n0_ := zz (blk_grown (g := gb227) (o := .cells #[.int .i64 a0_0, .slice (some ad235) l0_1.length c0_1, .slice A0_2 l0_2.length c0_2] 59 (0, 0)) (by (with_reducible repeat (first | refine qq ?_ _ | refine qj ?_ | refine qz ?_ _)); exact BK227.out) hg (Kd.S_ne HO_3.out BK227.out (by decide)))
              have n1_ := zz (blk_grown (g := gb236) (o := .cells #[.int .i64 ((rd_T133 l0_1 x27_2).f0), .int .i64 ((rd_T133 l0_1 x27_2).f1)] 133 (0, 0)) (by (with_reducible repeat (first | refine qq ?_ _ | refine qj ?_ | refine qz ?_ _)); exact BK236.out) hg (Kd.S_ne HO_3.out BK236.out (by decide)))
              have n2_ := zz (Kd.R_after (ok := (fun k_ => some k_ ≠ (.slice Ao34 t239.length co34 : Value).ownBlock)) (by (with_reducible repeat (first | apply jq | apply jj | apply jw)); exact yv HL237_0.out (fun _ hk => ⟨hk.2, hk.1.2⟩)) hg hat)
              have n3_ := zz (Kd.R_after (ok := (fun k_ => some k_ ≠ (.slice Ao34 t239.length co34 : Value).ownBlock)) (by (with_reducible repeat (first | apply jq | apply jj | apply jw)); exact yv HL238_0.out (fun _ hk => ⟨hk.2, hk.1.2⟩)) hg hat)
              have n4_ := zz (hb)
              have n5_ := zz (ho)
              clear BK227
              clear BK236
              clear HL237_0
              clear HL238_0
              clear HB
              clear HO_3
              clear HO241
              have BK227 := n0_
              have BK236 := n1_
              have HL237_0 := n2_
              have HL238_0 := n3_
              have HB := n4_
              have HO244 := n5_
              clear n0_ n1_ n2_ n3_ n4_ n5_
              clear ho hb hg hat
              refine hK.out _ _ ?_
              clear hK K
              refine norm_ (a' := ?_) ?_ ?_
              rotate_left
              ·show Act.put _ (some 44) _ = _
               simp only [Act.put, qv, yw, yx, vv, kz]
               rfl
              refine pure_ (i := 14) (N := some 3) (v := ?_) (a' := ?_) #[true, true, true, true, true, true, true, true, true, true, true, true, true, true, true] rfl rfl (vx HT_.out (by kernel_rfl)) (fun _ _ _ h => h) (Or.inl ⟨by rfl, ?_⟩) ?_ ?_
              rotate_left
              ·intro w'
               go_simp
               with_reducible rfl
              rotate_left
              ·simp only [Act.put, qv, yw, yx, vv, kz]
               rfl
              refine done_ (done_of HT_.out (by kernel_rfl)) ?_
              try go_wp2
              go_roundg k2
              case measure => have := HK1.out; have := HK2.out; omega
              case rel => exact ⟨(y242), (wrap64 (x27_2 + 1)), (by first | rfl | (simp; done) | (simp [*]; done)), H', ⟨by have := HK1.out; have := HK2.out; omega⟩, ⟨by (with_reducible repeat (first | apply yz | apply yq | apply yj)); exact HO244.out⟩, ⟨by (with_reducible repeat (first | refine qq ?_ _ | refine qj ?_ | refine qz ?_ _)); exact BK227.out⟩, ⟨by repeat (first | (with_reducible first | exact HB.out | apply zj | apply zq | apply zw | refine zx ?_ GE227.out | refine zx ?_ GE236.out) | exact HB.out)⟩⟩
             ·rw [if_neg c25] at H
              exact absurd H (by simp)
            ·rw [if_neg c23] at H
             exact absurd H (by simp)
           ·rw [if_neg c22] at H
            exact absurd H (by simp)
          ·rw [if_neg c21] at H
           exact absurd H (by simp)
         ·rw [if_neg c20] at H
          exact absurd H (by simp)
        ·rw [if_neg c19] at H
         exact absurd H (by simp)
       ·rw [if_neg c18] at H
        exact absurd H (by simp)
      ·rw [if_neg c17] at H
       have c17b0 : decide (x27_2 < (l0_1.length : Int)) = false := decide_eq_false c17
       clear c17
       obtain rfl := Option.some.inj H
       go_wp2
       go_ret
       exact ⟨_, by first | rfl | (simp [errW_none, errW_some] <;> rfl) | (simp [*, errW_none, errW_some] <;> rfl), by (with_reducible repeat (first | apply yz | apply yq | apply yj)); exact HO_3.out, by repeat (first | (with_reducible first | exact HB.out | apply zj | apply zq | apply zw | refine zx ?_ GE227.out) | exact HB.out)⟩

end Go.Proofs.Ytlmoemahamneoaa.PFnExactCodeOfPlan
