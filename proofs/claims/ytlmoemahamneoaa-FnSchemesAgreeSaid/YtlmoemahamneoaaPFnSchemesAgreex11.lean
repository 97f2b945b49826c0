-- Written by gprint.py, a program of this session, out of the translation (a changed print).
import Derived.Test.YtlmoemahamneoaaPFnSchemesAgreex0
import Derived.Test.YtlmoemahamneoaaPFnSchemesAgreex9
import Derived.Test.YtlmoemahamneoaaPFnSchemesAgreex10
namespace Go.Proofs.Ytlmoemahamneoaa.PFnSchemesAgree
open Go.RowKit Go.Proofs.YtlmoemahamneoaaW.PrintWords Go.Proofs.YtlmoemahamneoaaW.PrintLast Go.Proofs.YtlmoemahamneoaaW.PrintMore
open Go.Proofs.YtlmoemahamneoaaW.PrintWords.Aside0 renaming mk → zz
open Go.Proofs.YtlmoemahamneoaaW.PrintWords renaming pw_below_drewN → zq, below_alloc → zj, below_drew1 → zw, below_set → zx, below_step → zk, below_size → zv, blk_alloc → qz, blk_drewN → qq, blk_drew → qj, blk_cell → qw, blk_frozen → qx, blk_put → qk, blk_below → qv, gate_callee → yk
open List renaming setIfInBounds_toArray → jz, set_cons_zero → yz, set_cons_succ → yq, map_toArray → yj, length_drop → yw, length_take → yx
open Go.Proofs.YtlmoemahamneoaaW.PrintWords.Kd renaming R_alloc → jq, R_drewN → jj, R_drew → jw, C_alloc → jx, C_drewN → jk, C_drew → jv, R_mono → yv, R_below → vz, R_reads' → vq, R_slice → vj, R_apart' → vk
open Go.Proofs.YtlmoemahamneoaaW.PrintWords.LeO renaming bind → vw, refl → vx
open Go.Proofs.YtlmoemahamneoaaW.PrintLast renaming with_tabW → vv, any_of → kz, take_ofW → kj, one_of → kw, norm_ → kv
attribute [local go_sem] max2_int min2_int max_two min_two max_three min_three max_four min_four
set_option linter.unusedVariables false
set_option linter.unusedSimpArgs false
mutual
def spec_poGiant.l0 : Nat → List Int → Int → List Int → Int → Int → List (S109) → Int → Option ((List (S109)) × Int)
 | 0, _, _, _, _, _, _, _ => none
 | k + 1, x0, x1, x6, x7, x8, x297000, x297001 => if x8 ≥ 0 then (if x7 ≥ 0 then (if 0 ≤ (wrap64 (x1 - 1)) then (if (wrap64 (x1 - 1)) < (x6.length : Int) then ((spec_poAdd.f x297000 x297001 3 x7 (rd x6 (wrap64 (x1 - 1)))).bind fun bt298 => (spec_poGiant.j1 k x0 x1 x6 bt298.2.2 x8 bt298.1 bt298.2.1)) else (none)) else (none)) else (spec_poGiant.j1 k x0 x1 x6 x7 x8 x297000 x297001)) else (some (x297000, x7))
def spec_poGiant.j1 : Nat → List Int → Int → List Int → Int → Int → List (S109) → Int → Option ((List (S109)) × Int)
 | 0, _, _, _, _, _, _, _ => none
 | k + 1, x0, x1, x6, x7, x8, x297000, x297001 => (spec_l1Least.f (wrap64 (x8 + x1)) (x0.length : Int)).bind fun t303 => (if 0 ≤ x8 then (if x8 ≤ t303 then (if t303 ≤ (x0.length : Int) then ((spec_poGroup.f k x297000 x297001 ((x0.take (t303 : Int).toNat).drop (x8 : Int).toNat) x6).bind fun bt305 => (if x7 < 0 then (spec_poGiant.l0 k x0 x1 x6 bt305.2.2 (wrap64 (x8 - x1)) bt305.1 bt305.2.1) else ((spec_poAdd.f bt305.1 bt305.2.1 1 x7 bt305.2.2).bind fun bt310 => (spec_poGiant.l0 k x0 x1 x6 bt310.2.2 (wrap64 (x8 - x1)) bt310.1 bt310.2.1)))) else (none)) else (none)) else (none))
end
def spec_poGiant.f (k : Nat) (l0 : List Int) (a1 : Int) : Option ((List (S109)) × Int) := (spec_l1Least.f a1 (wrap64 ((l0.length : Int) - 1))).bind fun t288 => ((spec_poPowers.f k ([] : List (S109)) 0 t288).bind fun bt289 => (if a1 = 0 then (none) else (spec_poGiant.l0 k l0 a1 bt289.2.2 (-1) (wrap64 ((wrap64 (Int.tdiv (wrap64 ((l0.length : Int) - 1)) a1)) * a1)) bt289.1 bt289.2.1)))
theorem spec_poGiant.mono_l : ∀ k, (∀ y0 y1 y2 y3 y4 y5 y6, LeO (spec_poGiant.l0 k y0 y1 y2 y3 y4 y5 y6) (spec_poGiant.l0 (k + 1) y0 y1 y2 y3 y4 y5 y6)) ∧ (∀ y0 y1 y2 y3 y4 y5 y6, LeO (spec_poGiant.j1 k y0 y1 y2 y3 y4 y5 y6) (spec_poGiant.j1 (k + 1) y0 y1 y2 y3 y4 y5 y6))
 | 0 => ⟨fun _ _ _ _ _ _ _ r h => by simp [spec_poGiant.l0] at h, fun _ _ _ _ _ _ _ r h => by simp [spec_poGiant.j1] at h⟩
 | k + 1 => by
  obtain ⟨ih0, ih1⟩ := spec_poGiant.mono_l k
  refine ⟨?_, ?_⟩
  ·intro y0 y1 y2 y3 y4 y5 y6
   unfold spec_poGiant.l0
   repeat' with_reducible first
   | exact ih0 _ _ _ _ _ _ _
   | exact ih1 _ _ _ _ _ _ _
   | exact spec_poGroup.mono _ _ _ _ _
   | exact spec_poPowers.mono _ _ _ _
   | exact vx _
   | exact LeO.none _
   | refine LeO.ite ?_ ?_
   | refine vw ?_ (fun _ => ?_)
  ·intro y0 y1 y2 y3 y4 y5 y6
   unfold spec_poGiant.j1
   repeat' with_reducible first
   | exact ih0 _ _ _ _ _ _ _
   | exact ih1 _ _ _ _ _ _ _
   | exact spec_poGroup.mono _ _ _ _ _
   | exact spec_poPowers.mono _ _ _ _
   | exact vx _
   | exact LeO.none _
   | refine LeO.ite ?_ ?_
   | refine vw ?_ (fun _ => ?_)
theorem spec_poGiant.mono : ∀ a0 a1 k, LeO (spec_poGiant.f k a0 a1) (spec_poGiant.f (k + 1) a0 a1) := by
 intro a0 a1 k
 obtain ⟨ih0, ih1⟩ := spec_poGiant.mono_l k
 unfold spec_poGiant.f
 repeat' with_reducible first
   | exact ih0 _ _ _ _ _ _ _
   | exact ih1 _ _ _ _ _ _ _
   | exact spec_poGroup.mono _ _ _ _ _
   | exact spec_poPowers.mono _ _ _ _
   | exact vx _
   | exact LeO.none _
   | refine LeO.ite ?_ ?_
   | refine vw ?_ (fun _ => ?_)
def spec_poGiant.T7 : Bool × List (List Nat × List Nat) := (true, [([], []), ([], []), ([], []), ([], []), ([3], [3]), ([2, 4], [2, 4]), ([5], [5]), ([0, 1, 6], [0, 1, 6]), ([7], [7]), ([8], [8]), ([8], [8]), ([9, 7, 0, 1, 2, 3, 4, 5, 6, 7, 8, 9], [9]), ([10, 11, 0, 1, 2, 3, 4, 5, 6, 7, 8, 9, 10, 11], [1, 10])])
def spec_poGiant.B7 : List Nat := [0, 0, 0, 0, 8, 28, 60, 127, 255, 511, 511, 1023, 4095]
theorem spec_poGiant.tab7 : rtab .any (opsOf Try.f106 7) = spec_poGiant.T7 := by kernel_rfl
theorem spec_poGiant.bits7 : waitsOk spec_poGiant.T7.2 spec_poGiant.B7 = true := by kernel_rfl
def spec_poGiant.T9 : Bool × List (List Nat × List Nat) := (true, [([], []), ([], []), ([], []), ([], []), ([], []), ([3, 4], [3, 4]), ([], []), ([6], [6]), ([5, 7], [5, 7]), ([1, 2, 8], [1, 2, 8]), ([], []), ([0, 9, 10, 8], [0, 9, 10]), ([11], [11]), ([12], [12]), ([12], [12]), ([13, 11, 0, 1, 2, 3, 4, 5, 6, 7, 8, 9, 10, 11, 12, 13], [13]), ([14, 15, 0, 1, 2, 3, 4, 5, 6, 7, 8, 9, 10, 11, 12, 13, 14, 15], [14])])
def spec_poGiant.B9 : List Nat := [0, 0, 0, 0, 0, 24, 0, 64, 248, 510, 0, 2047, 4095, 8191, 8191, 16383, 65535]
theorem spec_poGiant.tab9 : rtab .any (opsOf Try.f106 9) = spec_poGiant.T9 := by kernel_rfl
theorem spec_poGiant.bits9 : waitsOk spec_poGiant.T9.2 spec_poGiant.B9 = true := by kernel_rfl
set_option maxHeartbeats 8000000 in
set_option maxRecDepth 100000 in
theorem spec_poGiant.calls (k : Nat) (A0 : Option Addr) (c0 : Nat) (l0 : List Int) (a1 : Int) (r1 : List (S109)) (r2 : Int) (w : World) (hr0 : Kd.C (Kd.int .i64) w A0 l0.length l0) (hc0 : l0.length ≤ c0) (h : spec_poGiant.f k l0 a1 = some (r1, r2)) :
  Calls Try.prog 106 #[.slice A0 l0.length c0, .int .i64 a1] w fun e w' => ∃ v0_ : Value, e = .returned (.agg #[v0_, .int .i64 r2]) ∧ Kd.V k109 109 w' w.heap.size (fun k_ => (w.heap.size ≤ k_)) v0_ r1 ∧ Below w.heap.size w w' := by
 have hu32 := Try.underlying32
 have HR0 := zz hr0
 have HC0 := zz hc0
 clear hr0 hc0
 have HB := zz (Below.refl w.heap.size w)
 have H : ((spec_l1Least.f a1 (wrap64 ((l0.length : Int) - 1))).bind fun t288 => ((spec_poPowers.f k ([] : List (S109)) 0 t288).bind fun bt289 => (if a1 = 0 then (none) else (spec_poGiant.l0 k l0 a1 bt289.2.2 (-1) (wrap64 ((wrap64 (Int.tdiv (wrap64 ((l0.length : Int) - 1)) a1)) * a1)) bt289.1 bt289.2.1)))) = some (r1, r2) := h
 clear h
 replace H := Option.bind_eq_some_iff.mp H
 obtain ⟨t288, A30, H⟩ := H
 replace H : ((spec_poPowers.f k ([] : List (S109)) 0 t288).bind fun bt289 => (if a1 = 0 then (none) else (spec_poGiant.l0 k l0 a1 bt289.2.2 (-1) (wrap64 ((wrap64 (Int.tdiv (wrap64 ((l0.length : Int) - 1)) a1)) * a1)) bt289.1 bt289.2.1))) = some (r1, r2) := H
 have A3 := zz A30
 clear A30
 replace H := Option.bind_eq_some_iff.mp H
 obtain ⟨⟨t289, t292, t293⟩, A40, H⟩ := H
 replace H : (if a1 = 0 then (none) else (spec_poGiant.l0 k l0 a1 t293 (-1) (wrap64 ((wrap64 (Int.tdiv (wrap64 ((l0.length : Int) - 1)) a1)) * a1)) t289 t292)) = some (r1, r2) := H
 have A4 := zz A40
 clear A40
 by_cases c5 : a1 = 0
 ·rw [if_pos c5] at H
  exact absurd H (by simp)
 ·rw [if_neg c5] at H
  have c5b0 : (a1 == 0) = false := beq_eq_false_iff_ne.mpr c5
  have c5b1 : (a1 != 0) = true := bne_iff_ne.mpr c5
  have H' := zz H
  clear H
  go_enter Try.func106, Try.ntmps106
  go_wp2_with (first | ((with_reducible refine gate_dst (N := 4) rfl ?_); refine box_event ?hg (N := 4) ?hd (cs := #[.slice none 0 0, .int .i64 0]) (t := 32) ?hr ?_; (case hd => rfl); (case hg => rfl); (case hr => first | (go_simp; done) | (go_simp; rfl)); intro gb287 hg w6 hbox hb; have n0_ := zz (zk (by repeat (with_reducible first | exact HB.out | apply zj | apply zq | apply zw)) hb); have n1_ := zz (hbox); have n2_ := zz ((by rw [hg]; exact (zv (by repeat (with_reducible first | exact HB.out | apply zj | apply zq | apply zw))) : w.heap.size ≤ gb287)); have n3_ := zz ((by rw [hg]; exact (zv (by repeat (with_reducible first | exact HB.out | apply zj | apply zq | apply zw))) : w.heap.size ≤ gb287)); clear HB; have HB := n0_; have BK287 := n1_; have GW287 := n2_; have GE287 := n3_; clear n0_ n1_ n2_ n3_; clear hb hbox hg) | ((with_reducible refine yk (f := 191) rfl ?_); refine goesL_ (some 16) rfl rfl Try.func191 (by kernel_rfl) rfl #[.int .i64 a1, .int .i64 (wrap64 ((l0.length : Int) - 1))] rfl (by (try simp only [yj, List.map_cons, List.map_nil]); first | done | rfl) ?_; (with_reducible refine (spec_l1Least.calls a1 (wrap64 ((l0.length : Int) - 1)) t288 _ A3.out).mono ?_); rintro e w' ⟨rfl, ⟨nd, rfl⟩⟩; refine ⟨_, rfl, ?_⟩; (try (rw [drewN_self w6]; generalize hq_ : World.drewN w6 _ = w6; have n0_ : Aside0 (w6.heap[gb287]? = some (.cells #[.slice none 0 0, .int .i64 0] 32 (0, 0))) := ⟨by rw [← hq_]; exact (by (with_reducible repeat (first | refine qq ?_ _ | refine qj ?_ | refine qz ?_ _)); exact BK287.out)⟩; have n1_ : Aside0 (Below w.heap.size w w6) := ⟨by rw [← hq_]; exact (by repeat (with_reducible first | exact HB.out | apply zj | apply zq | apply zw | refine zx ?_ GE287.out))⟩; clear BK287 HB hq_; have BK287 := n0_; have HB := n1_; clear n0_ n1_))) | ((with_reducible refine yk (f := 190) rfl ?_); refine goesL_ (some 17) rfl rfl Try.func190 (by kernel_rfl) rfl #[.agg #[.slice none 0 0, .int .i64 0], .int .i64 t288] rfl (by (try simp only [yj, List.map_cons, List.map_nil]); first | done | rfl) ?_; (refine (spec_poPowers.calls k (fun k_ => False) _ _ ([] : List (S109)) 0 t288 t289 t292 t293 _ ?side1 A4.out).mono ?_); (case side1 => exact Kd.V_nil _ _ _ _ _); rintro e w7 ⟨v290, v294, rfl, ho0, ho1, hb⟩; refine ⟨_, rfl, ?_⟩; have n0_ := zz (Kd.V_lower (Kd.V_mono (ok' := fun k_ => (w.heap.size ≤ k_) ∧ some k_ ≠ (v294 : Value).ownBlock ∧ k_ ≠ gb287) ho0 (fun k_ hk_ => ⟨Or.elim hk_.1 (fun hs_ => (hs_).elim) (fun hn_ => (Nat.le_trans (zv (by repeat (with_reducible first | exact HB.out | apply zj | apply zq | apply zw | refine zx ?_ GE287.out))) hn_)), hk_.2, Or.elim hk_.1 (fun hs_ => (hs_).elim) (fun hn_ => (Kd.freshB (g := gb287) (o := .cells #[.slice none 0 0, .int .i64 0] 32 (0, 0)) (by (with_reducible repeat (first | refine qq ?_ _ | refine qj ?_ | refine qz ?_ _)); exact BK287.out) k_ hn_))⟩)) (zv (by repeat (with_reducible first | exact HB.out | apply zj | apply zq | apply zw | refine zx ?_ GE287.out)))); have n1_ := zz (Kd.R_lower (Kd.R_newM (M := fun k_ => (w.heap.size ≤ k_)) (yv (ok' := fun k_ => True) ho1 (fun _ hk_ => trivial)) (zv (by repeat (with_reducible first | exact HB.out | apply zj | apply zq | apply zw | refine zx ?_ GE287.out))) (fun k_ h_ => h_)) (zv (by repeat (with_reducible first | exact HB.out | apply zj | apply zq | apply zw | refine zx ?_ GE287.out)))); have n2_ := zz (qv (g := gb287) (o := .cells #[.slice none 0 0, .int .i64 0] 32 (0, 0)) (by (with_reducible repeat (first | refine qq ?_ _ | refine qj ?_ | refine qz ?_ _)); exact BK287.out) hb); have n3_ := zz (zk (by repeat (with_reducible first | exact HB.out | apply zj | apply zq | apply zw | refine zx ?_ GE287.out)) hb); clear BK287; clear HB; have HO291 := n0_; have HO295 := n1_; have BK287 := n2_; have HB := n3_; clear n0_ n1_ n2_ n3_; (try clear hb); (try clear hi hk); (try clear ho0); (try clear ho1)) | ((with_reducible refine gate_dst (N := 5) rfl ?_); refine box_event ?hg (N := 5) ?hd (cs := #[.slice none 0 0, .int .i64 0]) (t := 32) ?hr ?_; (case hd => rfl); (case hg => rfl); (case hr => first | (go_simp; done) | (go_simp; rfl)); intro gb296 hg w8 hbox hb; have n0_ := zz (Kd.V_below (Kd.V_elderB (by (with_reducible repeat (first | apply Kd.V_alloc | apply Kd.V_drewN | apply Kd.V_drew)); exact HO291.out) gb296 (Nat.le_of_eq hg.symm)) hb); have n1_ := zz (vz (by (with_reducible repeat (first | apply jq | apply jj | apply jw)); exact HO295.out) hb); have n2_ := zz (qv (g := gb287) (o := .cells #[.slice none 0 0, .int .i64 0] 32 (0, 0)) (by (with_reducible repeat (first | refine qq ?_ _ | refine qj ?_ | refine qz ?_ _)); exact BK287.out) hb); have n3_ := zz (zk (by repeat (with_reducible first | exact HB.out | apply zj | apply zq | apply zw | refine zx ?_ GE287.out)) hb); have n4_ := zz (hbox); have n5_ := zz ((by rw [hg]; exact (zv (by repeat (with_reducible first | exact HB.out | apply zj | apply zq | apply zw | refine zx ?_ GE287.out))) : w.heap.size ≤ gb296)); have n6_ := zz ((by rw [hg]; exact (zv (by repeat (with_reducible first | exact HB.out | apply zj | apply zq | apply zw | refine zx ?_ GE287.out))) : w.heap.size ≤ gb296)); have n7_ := zz ((by rw [hg]; exact Nat.ne_of_lt (blk_lt (g := gb287) (o := .cells #[.slice none 0 0, .int .i64 0] 32 (0, 0)) (by (with_reducible repeat (first | refine qq ?_ _ | refine qj ?_ | refine qz ?_ _)); exact BK287.out)) : gb287 ≠ gb296)); have n8_ := zz ((by rw [hg]; exact Nat.ne_of_gt (blk_lt (g := gb287) (o := .cells #[.slice none 0 0, .int .i64 0] 32 (0, 0)) (by (with_reducible repeat (first | refine qq ?_ _ | refine qj ?_ | refine qz ?_ _)); exact BK287.out)) : gb296 ≠ gb287)); clear HO291; clear HO295; clear BK287; clear HB; have HO291 := n0_; have HO295 := n1_; have BK287 := n2_; have HB := n3_; have BK296 := n4_; have GW296 := n5_; have GE296 := n6_; have NB287_296 := n7_; have NB296_287 := n8_; clear n0_ n1_ n2_ n3_ n4_ n5_ n6_ n7_ n8_; clear hb hbox hg; obtain ⟨Ao9, co9, eo9⟩ := Kd.V_slice HO291.out; subst eo9; have hnb10 := NB296_287.out; have hnc10 := NB287_296.out; have hcz11_0 : w8.cell? ⟨gb296, 0, none⟩ = some (.slice none 0 0) := (qw BK296.out 0).trans rfl; have hcz11_1 : w8.cell? ⟨gb296, 1, none⟩ = some (.int .i64 0) := (qw BK296.out 1).trans rfl; have hfz11_0 := qx BK296.out 0; have hfz11_1 := qx BK296.out 1))
  go_loopg [7, 8] k (fun kq v7 v8 w' => ∃ (x7_1 : Int) (x8_1 : Int) (x297000_1 : List (S109)) (x297001_1 : Int) (u297000 : Value), v7 = .int .i64 x7_1 ∧ v8 = .int .i64 x8_1 ∧ Aside0 (spec_poGiant.l0 kq l0 a1 t293 x7_1 x8_1 x297000_1 x297001_1 = some (r1, r2)) ∧ Aside0 (kq ≤ k) ∧ Aside0 (Kd.R (Kd.int .i64) 3 w' w.heap.size (fun k_ => (w.heap.size ≤ k_)) v294 t293) ∧ Aside0 (Kd.V k109 109 w' w.heap.size (fun k_ => (w.heap.size ≤ k_) ∧ some k_ ≠ (v294 : Value).ownBlock ∧ k_ ≠ gb287 ∧ k_ ≠ gb296) u297000 x297000_1) ∧ Aside0 (w'.heap[gb287]? = some (.cells #[(.slice none 0 0), .int .i64 0] 32 (0, 0))) ∧ Aside0 (w'.heap[gb296]? = some (.cells #[u297000, .int .i64 x297001_1] 32 (0, 0))) ∧ Aside0 (Below w.heap.size w w'))
  case atStart => exact ⟨((-1)), (wrap64 ((wrap64 (Int.tdiv (wrap64 ((l0.length : Int) - 1)) a1)) * a1)), (t289), (t292), (.slice Ao9 t289.length co9), (by first | rfl | (simp; done) | (simp [*]; done)), (by first | rfl | (simp; done) | (simp [*]; done)), H', ⟨Nat.le_refl _⟩, ⟨by (with_reducible repeat (first | apply jq | apply jj | apply jw)); exact yv (Kd.R_far (p := ⟨gb296, 1, none⟩) (Kd.R_far (p := ⟨gb296, 0, none⟩) (Kd.R_types HO295.out BK296.out (by decide)) (fun _ hk => hk.2) (.slice Ao9 t289.length co9)) (fun _ hk => hk.2) (.int .i64 t292)) (fun _ hk => hk.1.1)⟩, ⟨by (with_reducible repeat (first | apply Kd.V_alloc | apply Kd.V_drewN | apply Kd.V_drew)); exact Kd.V_mono (Kd.V_far (p := ⟨gb296, 1, none⟩) (Kd.V_far (p := ⟨gb296, 0, none⟩) (Kd.V_mono HO291.out (fun k_ hk => (⟨hk, hk.2⟩ : _ ∧ k_ ≠ gb296))) (fun _ hk => hk.2) (.slice Ao9 t289.length co9)) (fun _ hk => hk.2) (.int .i64 t292)) (fun _ hk => ⟨hk.1.1.1, ⟨hk.1.1.2.1, ⟨hk.1.1.2.2, hk.1.2⟩⟩⟩)⟩, ⟨by (with_reducible repeat (first | refine qq ?_ _ | refine qj ?_ | refine qz ?_ _)); refine blk_far ?_ NB287_296.out _; (with_reducible repeat (first | refine qq ?_ _ | refine qj ?_ | refine qz ?_ _)); refine blk_far ?_ NB287_296.out _; (with_reducible repeat (first | refine qq ?_ _ | refine qj ?_ | refine qz ?_ _)); exact BK287.out⟩, ⟨by (with_reducible repeat (first | refine qq ?_ _ | refine qj ?_ | refine qz ?_ _)); refine qk (cs := #[.slice Ao9 t289.length co9, .int .i64 0]) ?_ 1 _ rfl; (with_reducible repeat (first | refine qq ?_ _ | refine qj ?_ | refine qz ?_ _)); refine qk (cs := #[.slice none 0 0, .int .i64 0]) ?_ 0 _ rfl; (with_reducible repeat (first | refine qq ?_ _ | refine qj ?_ | refine qz ?_ _)); exact BK296.out⟩, ⟨by repeat (with_reducible first | exact HB.out | apply zj | apply zq | apply zw | refine zx ?_ GE287.out | refine zx ?_ GE296.out)⟩⟩
  case round =>
   clear H'
   try clear c1
   try clear p2
   try clear c5
   try clear c5b0
   try clear c5b1
   try clear p6
   try clear c10
   try clear hcz11_0
   try clear hcz11_1
   try clear hfz11_0
   try clear hfz11_1
   obtain ⟨x7_1, x8_1, x297000_1, x297001_1, u297000, rfl, rfl, HA, HK1, HO_6, HO_297000, BK287, BK296, HB⟩ := hrel
   cases gk with
   | zero => exact absurd HA.out (by simp [spec_poGiant.l0])
   | succ k1 =>
    have H := HA.out
    clear HA
    simp only [spec_poGiant.l0] at H
    by_cases c12 : x8_1 ≥ 0
    ·rw [if_pos c12] at H
     have c12b0 : decide (0 ≤ x8_1) = true := decide_eq_true c12
     clear c12
     have HC13 := zz H
     clear H
     go_upto_if 33 with (fail)
     go_cut [7] (fun v7 wc => ∃ (kq : Nat) (x7_12 : Int) (x297000_12 : List (S109)) (x297001_12 : Int) (u297000 : Value), v7 = .int .i64 x7_12 ∧ Aside0 (spec_poGiant.j1 kq l0 a1 t293 x7_12 x8_1 x297000_12 x297001_12 = some (r1, r2)) ∧ Aside0 (kq ≤ k1) ∧ Aside0 (Kd.R (Kd.int .i64) 3 wc w.heap.size (fun k_ => (w.heap.size ≤ k_)) v294 t293) ∧ Aside0 (Kd.V k109 109 wc w.heap.size (fun k_ => (w.heap.size ≤ k_) ∧ some k_ ≠ (v294 : Value).ownBlock ∧ k_ ≠ gb287 ∧ k_ ≠ gb296) u297000 x297000_12) ∧ Aside0 (wc.heap[gb287]? = some (.cells #[(.slice none 0 0), .int .i64 0] 32 (0, 0))) ∧ Aside0 (wc.heap[gb296]? = some (.cells #[u297000, .int .i64 x297001_12] 32 (0, 0))) ∧ Aside0 (Below w.heap.size w wc))
     case first =>
      have H := HC13.out
      clear HC13
      by_cases c14 : x7_1 ≥ 0
      ·rw [if_pos c14] at H
       have c14b0 : decide (0 ≤ x7_1) = true := decide_eq_true c14
       clear c14
       (first | rw [c14b0] | (simp only [i64_w, i32_w]; rw [c14b0]) | skip)
       obtain ⟨ji15, hji15⟩ : ∃ j_ : Int, (wrap64 (a1 - 1)) = j_ := ⟨_, rfl⟩
       replace H : (if 0 ≤ (ji15) then (if (ji15) < (t293.length : Int) then ((spec_poAdd.f x297000_1 x297001_1 3 x7_1 (rd t293 (ji15))).bind fun bt298 => (spec_poGiant.j1 k1 l0 a1 t293 bt298.2.2 x8_1 bt298.1 bt298.2.1)) else (none)) else (none)) = some (r1, r2) := by first | (rw [hji15] at H; exact H) | (simp only [hji15] at H ⊢; exact H)
       have hji15w : (IntKind.i64.wrap (a1 - 1)) = ji15 := (i64_w _).trans hji15
       by_cases c16 : 0 ≤ (ji15)
       ·rw [if_pos c16] at H
        have c16b0 : decide (0 ≤ (ji15)) = true := decide_eq_true c16
        clear c16
        by_cases c17 : (ji15) < (t293.length : Int)
        ·rw [if_pos c17] at H
         have c17b0 : decide ((ji15) < (t293.length : Int)) = true := decide_eq_true c17
         clear c17
         replace H := Option.bind_eq_some_iff.mp H
         obtain ⟨⟨t298, t301, t302⟩, A180, H⟩ := H
         replace H : (spec_poGiant.j1 k1 l0 a1 t293 t302 x8_1 t298 t301) = some (r1, r2) := H
         have A18 := zz A180
         clear A180
         have H' := zz H
         clear H
         try go_wp2
         have n0_ := zz (jw HO_6.out)
         have n1_ := zz (Kd.V_drew HO_297000.out)
         have n2_ := zz (qj BK287.out)
         have n3_ := zz (qj BK296.out)
         have n4_ := zz (zw HB.out)
         clear HO_6
         clear HO_297000
         clear BK287
         clear BK296
         clear HB
         have HO_6 := n0_
         have HO_297000 := n1_
         have BK287 := n2_
         have BK296 := n3_
         have HB := n4_
         clear n0_ n1_ n2_ n3_ n4_
         obtain ⟨Ao20, co20, eo20⟩ := vj HO_6.out
         (first | subst eo20 | (injection eo20 with f1_ f2_ f3_; have f4_ := f1_.symm; have f5_ := f3_.symm; clear f1_ f2_ f3_; subst f4_; subst f5_))
         have p297 : 0 ≤ ((ji15) : Int) := of_decide_eq_true (by with_reducible assumption)
         have q297 : (ji15) < (t293.length : Int) := of_decide_eq_true (by with_reducible assumption)
         obtain ⟨ad297, e297, hx297_0⟩ := Kd.at_int (vq HO_6.out).2.2 (ji15) p297 q297
         cases e297
         replace p297 := eq_true p297
         replace q297 := eq_true q297
         obtain ⟨Ao21, co21, eo21⟩ := Kd.V_slice HO_297000.out
         (first | subst eo21 | (injection eo21 with f1_ f2_ f3_; have f4_ := f1_.symm; have f5_ := f3_.symm; clear f1_ f2_ f3_; subst f4_; subst f5_))
         refine start_ (n := 13) (S := fun w' => w'.cell? ⟨gb296, 0, none⟩ = some (.slice Ao21 x297000_1.length co21) ∧ w'.cell? ⟨gb296, 1, none⟩ = some (.int .i64 x297001_1) ∧ w'.cell? (ad297.add ((ji15)).toNat) = some (.int .i64 (rd t293 (ji15)))) (ds := [11]) #[false, false, false, false, false, false, false, false, false, false, false, false, false] (by kernel_rfl) rfl rfl ⟨(qw BK296.out 0).trans rfl, (qw BK296.out 1).trans rfl, hx297_0⟩ (fun hHeld => ?_); refine vv spec_poGiant.tab7 spec_poGiant.bits7 (fun HT_ HW_ => ?_)
         generalize wr.drew = w19 at HO_6 HO_297000 BK287 BK296 HB hx297_0 hHeld ⊢
         refine pure_ (i := 1) (N := some 36) (v := ?_) (a' := ?_) #[false, true, false, false, false, false, false, false, false, false, false, false, false] rfl rfl (kz HT_.out (by kernel_rfl)) (fun _ _ _ h => h) (Or.inl ⟨by rfl, ?_⟩) ?_ ?_
         rotate_left
         ·intro w'
          go_simp
          with_reducible rfl
         rotate_left
         ·simp only [Act.put, jz, yz, yq, i64_w, i32_w]
          rfl
         refine pure_ (i := 2) (N := some 37) (v := ?_) (a' := ?_) #[false, true, true, false, false, false, false, false, false, false, false, false, false] rfl rfl (kz HT_.out (by kernel_rfl)) (fun _ _ _ h => h) (Or.inl ⟨by rfl, ?_⟩) ?_ ?_
         rotate_left
         ·intro w'
          go_simp
          with_reducible rfl
         rotate_left
         ·simp only [Act.put, jz, yz, yq, i64_w, i32_w]
          rfl
         refine pure_ (i := 3) (N := some 38) (v := ?_) (a' := ?_) #[false, true, true, true, false, false, false, false, false, false, false, false, false] rfl rfl (kz HT_.out (by kernel_rfl)) (fun _ _ _ h => h) (Or.inl ⟨by rfl, ?_⟩) ?_ ?_
         rotate_left
         ·intro w'
          go_simp
          with_reducible rfl
         rotate_left
         ·simp only [Act.put, jz, yz, yq, i64_w, i32_w]
          rfl
         refine pure_ (i := 4) (N := some 39) (v := ?_) (a' := ?_) #[false, true, true, true, true, false, false, false, false, false, false, false, false] rfl rfl (kz HT_.out (by kernel_rfl)) (fun _ _ _ h => h) (Or.inl ⟨by rfl, ?_⟩) ?_ ?_
         rotate_left
         ·intro w'
          go_simp
          with_reducible rfl
         rotate_left
         ·simp only [Act.put, jz, yz, yq, i64_w, i32_w]
          rfl
         refine pure_ (i := 5) (N := some 40) (v := ?_) (a' := ?_) #[false, true, true, true, true, true, false, false, false, false, false, false, false] rfl rfl (kz HT_.out (by kernel_rfl)) (fun _ _ _ h => h) (Or.inl ⟨by rfl, ?_⟩) ?_ ?_
         rotate_left
         ·intro w'
          go_simp
          with_reducible rfl
         rotate_left
         ·simp only [Act.put, jz, yz, yq, i64_w, i32_w]
          rfl
         refine take_ (i := 0) (N := some 35) (v := ?_) (a' := ?_) #[true, true, true, true, true, true, false, false, false, false, false, false, false] rfl rfl (kj HT_.out HW_.out (by kernel_rfl)) (fun _ _ _ h => h) (Or.inl ⟨by rfl, ?_⟩) hHeld ?_ ?_
         rotate_left
         ·rintro w' ⟨s0, s1, s2⟩
          go_simp
          with_reducible rfl
         rotate_left
         ·simp only [Act.put, jz, yz, yq, i64_w, i32_w]
          rfl
         refine take_ (i := 6) (N := some 41) (v := ?_) (a' := ?_) #[true, true, true, true, true, true, true, false, false, false, false, false, false] rfl rfl (kj HT_.out HW_.out (by kernel_rfl)) (fun _ _ _ h => h) (Or.inl ⟨by rfl, ?_⟩) hHeld ?_ ?_
         rotate_left
         ·rintro w' ⟨s0, s1, s2⟩
          go_simp
          with_reducible rfl
         rotate_left
         ·simp only [Act.put, jz, yz, yq, i64_w, i32_w]
          rfl
         refine one_ (i := 7) (N := some 42) #[true, true, true, true, true, true, true, true, false, false, false, false, false] rfl rfl (kw HT_.out (by kernel_rfl)) (by decide) (fun K hK => ?_)
         refine goes_ Try.func130 (by kernel_rfl) rfl #[.agg #[.slice Ao21 x297000_1.length co21, .int .i64 x297001_1], .int .i64 3, .int .i64 x7_1, .int .i64 (rd t293 (ji15))] (by rfl) rfl rfl (by (try simp only [yj, List.map_cons, List.map_nil]); first | done | (simp only [hji15]; rfl) | rfl | (simp only [yw, yx]; rfl)) ?_
         with_reducible refine (spec_poAdd.calls _ _ x297000_1 x297001_1 3 x7_1 (rd t293 (ji15)) t298 t301 t302 _ ?side1 ?side2 A18.out).mono ?_
         (case side1 => repeat (first | exact (Kd.V_reads' HO_297000.out).2.2 | (with_reducible refine jx ?_ _) | (with_reducible refine jk ?_ _) | (with_reducible refine jv ?_)))
         (case side2 => exact (Kd.V_reads' HO_297000.out).2.1)
         rintro e w22 ⟨v299, rfl, ho0, hb⟩
         have HS2_ := (hb.cell (World.block_lt_of_cell? _ _ (hHeld.2.2))).trans (hHeld.2.2)
         refine ⟨_, rfl, ?_⟩
         have n0_ := zz (vz (by (with_reducible repeat (first | apply jq | apply jj | apply jw)); exact HO_6.out) hb)
         have n1_ := zz (Kd.V_elder' (by (with_reducible repeat (first | apply Kd.V_alloc | apply Kd.V_drewN | apply Kd.V_drew)); exact HO_297000.out) (Kd.R_base ho0) hb)
         have n2_ := zz (Kd.R_lower (Kd.R_newM (M := fun k_ => (w.heap.size ≤ k_)) ho0 (zv (by repeat (with_reducible first | exact HB.out | apply zj | apply zq | apply zw | refine zx ?_ GE287.out | refine zx ?_ GE296.out))) (fun k_ h_ => h_)) (zv (by repeat (with_reducible first | exact HB.out | apply zj | apply zq | apply zw | refine zx ?_ GE287.out | refine zx ?_ GE296.out))))
         have n3_ := zz (qv (g := gb287) (o := .cells #[.slice none 0 0, .int .i64 0] 32 (0, 0)) (by (with_reducible repeat (first | refine qq ?_ _ | refine qj ?_ | refine qz ?_ _)); exact BK287.out) hb)
         have n4_ := zz (qv (g := gb296) (o := .cells #[.slice Ao21 x297000_1.length co21, .int .i64 x297001_1] 32 (0, 0)) (by (with_reducible repeat (first | refine qq ?_ _ | refine qj ?_ | refine qz ?_ _)); exact BK296.out) hb)
         have n5_ := zz (zk (by repeat (with_reducible first | exact HB.out | apply zj | apply zq | apply zw | refine zx ?_ GE287.out | refine zx ?_ GE296.out)) hb)
         clear HO_6
         clear HO_297000
         clear BK287
         clear BK296
         clear HB
         have HO_6 := n0_
         have HO_297000 := n1_
         have HO300 := n2_
         have BK287 := n3_
         have BK296 := n4_
         have HB := n5_
         clear n0_ n1_ n2_ n3_ n4_ n5_
         (try clear hb)
         (try clear hb2)
         (try clear hk)
         (try clear hi)
         (try clear ho0)
         obtain ⟨Ao23, co23, eo23⟩ := vj HO300.out
         (first | subst eo23 | (injection eo23 with f1_ f2_ f3_; have f4_ := f1_.symm; have f5_ := f3_.symm; clear f1_ f2_ f3_; subst f4_; subst f5_))
         refine hK.out _ _ ⟨(qw BK296.out 0).trans rfl, (qw BK296.out 1).trans rfl, HS2_⟩ (fun hHeld => ?_)
         clear hK K
         refine kv (a' := ?_) ?_ ?_
         rotate_left
         ·show Act.put _ (some 42) _ = _
          simp only [Act.put, jz, yz, yq, i64_w, i32_w]
          rfl
         refine pure_ (i := 8) (N := some 34) (v := ?_) (a' := ?_) #[true, true, true, true, true, true, true, true, true, false, false, false, false] rfl rfl (kz HT_.out (by kernel_rfl)) (fun _ _ _ h => h) (Or.inl ⟨by rfl, ?_⟩) ?_ ?_
         rotate_left
         ·intro w'
          go_simp
          with_reducible rfl
         rotate_left
         ·simp only [Act.put, jz, yz, yq, i64_w, i32_w]
          rfl
         refine pure_ (i := 9) (N := some 43) (v := ?_) (a' := ?_) #[true, true, true, true, true, true, true, true, true, true, false, false, false] rfl rfl (kz HT_.out (by kernel_rfl)) (fun _ _ _ h => h) (Or.inl ⟨by rfl, ?_⟩) ?_ ?_
         rotate_left
         ·intro w'
          go_simp
          with_reducible rfl
         rotate_left
         ·simp only [Act.put, jz, yz, yq, i64_w, i32_w]
          rfl
         refine pure_ (i := 10) (N := some 44) (v := ?_) (a' := ?_) #[true, true, true, true, true, true, true, true, true, true, true, false, false] rfl rfl (kz HT_.out (by kernel_rfl)) (fun _ _ _ h => h) (Or.inl ⟨by rfl, ?_⟩) ?_ ?_
         rotate_left
         ·intro w'
          go_simp
          with_reducible rfl
         rotate_left
         ·simp only [Act.put, jz, yz, yq, i64_w, i32_w]
          rfl
         refine last_ (i := 11) (N := none) #[true, true, true, true, true, true, true, true, true, true, true, true, false] rfl rfl (kw HT_.out (by kernel_rfl)) (by decide) (fun K hK => ?_)
         have hs24 : w22.cell? ⟨gb296, 0, none⟩ = some (.slice Ao21 x297000_1.length co21) := (qw BK296.out 0).trans rfl
         have hfs24 := qx BK296.out 0
         have hns24_0 := NB287_296.out
         have hms24_0 := NB296_287.out
         have hs25 : w22.cell? ⟨gb296, 1, none⟩ = some (.int .i64 x297001_1) := (qw BK296.out 1).trans rfl
         have hfs25 := qx BK296.out 1
         have hns25_0 := NB287_296.out
         have hms25_0 := NB296_287.out
         refine skip_ (w1 := ?_) (by rfl) rfl ?_ ?_
         rotate_left
         ·go_simp
          rfl
         refine hK.out _ _ ?_
         clear hK K
         refine pure_ (i := 12) (N := some 7) (v := ?_) (a' := ?_) #[true, true, true, true, true, true, true, true, true, true, true, true, true] rfl rfl (kz HT_.out (by kernel_rfl)) (fun _ _ _ h => h) (Or.inl ⟨by rfl, ?_⟩) ?_ ?_
         rotate_left
         ·intro w'
          go_simp
          with_reducible rfl
         rotate_left
         ·simp only [Act.put, jz, yz, yq, i64_w, i32_w]
          rfl
         refine done_ (done_of HT_.out (by kernel_rfl)) ?_
         try go_wp2
         go_meet
         case rel => exact ⟨_, (t302), (t298), (t301), (.slice Ao23 t298.length co23), (by first | rfl | (simp; done) | (simp [*]; done)), H', ⟨by have := HK1.out; first | omega | exact Nat.le_refl _⟩, ⟨by (with_reducible repeat (first | apply jq | apply jj | apply jw)); exact yv (Kd.R_far (p := ⟨gb296, 1, none⟩) (Kd.R_far (p := ⟨gb296, 0, none⟩) (Kd.R_types HO_6.out BK296.out (by decide)) (fun _ hk => hk.2) (.slice Ao23 t298.length co23)) (fun _ hk => hk.2) (.int .i64 t301)) (fun _ hk => hk.1)⟩, ⟨Kd.R_V (by (with_reducible repeat (first | apply jq | apply jj | apply jw)); exact yv (Kd.R_far (p := ⟨gb296, 1, none⟩) (Kd.R_far (p := ⟨gb296, 0, none⟩) (Kd.R_types (Kd.R_types (Kd.R_types (vk HO300.out (Kd.R_typed HO_6.out) (by decide)) BK287.out (by decide)) BK296.out (by decide)) BK296.out (by decide)) (fun _ hk => hk.2) (.slice Ao23 t298.length co23)) (fun _ hk => hk.2) (.int .i64 t301)) (fun _ hk => ⟨hk.1.1.1.1.1, ⟨hk.1.1.1.2, ⟨hk.1.1.2, hk.1.2⟩⟩⟩))⟩, ⟨by (with_reducible repeat (first | refine qq ?_ _ | refine qj ?_ | refine qz ?_ _)); refine blk_far ?_ NB287_296.out _; (with_reducible repeat (first | refine qq ?_ _ | refine qj ?_ | refine qz ?_ _)); refine blk_far ?_ NB287_296.out _; (with_reducible repeat (first | refine qq ?_ _ | refine qj ?_ | refine qz ?_ _)); exact BK287.out⟩, ⟨by (with_reducible repeat (first | refine qq ?_ _ | refine qj ?_ | refine qz ?_ _)); refine qk (cs := #[.slice Ao23 t298.length co23, .int .i64 x297001_1]) ?_ 1 _ rfl; (with_reducible repeat (first | refine qq ?_ _ | refine qj ?_ | refine qz ?_ _)); refine qk (cs := #[.slice Ao21 x297000_1.length co21, .int .i64 x297001_1]) ?_ 0 _ rfl; (with_reducible repeat (first | refine qq ?_ _ | refine qj ?_ | refine qz ?_ _)); exact BK296.out⟩, ⟨by repeat (with_reducible first | exact HB.out | apply zj | apply zq | apply zw | refine zx ?_ GE287.out | refine zx ?_ GE296.out)⟩⟩
        ·rw [if_neg c17] at H
         exact absurd H (by simp)
       ·rw [if_neg c16] at H
        exact absurd H (by simp)
      ·rw [if_neg c14] at H
       have c14b0 : decide (0 ≤ x7_1) = false := decide_eq_false c14
       clear c14
       (first | rw [c14b0] | (simp only [i64_w, i32_w]; rw [c14b0]) | skip)
       have H' := zz H
       clear H
       go_wp2
       go_meet
       case rel => exact ⟨_, (x7_1), (x297000_1), (x297001_1), (u297000), (by first | rfl | (simp; done) | (simp [*]; done)), H', ⟨by have := HK1.out; first | omega | exact Nat.le_refl _⟩, ⟨by (with_reducible repeat (first | apply jq | apply jj | apply jw)); exact HO_6.out⟩, ⟨by (with_reducible repeat (first | apply Kd.V_alloc | apply Kd.V_drewN | apply Kd.V_drew)); exact HO_297000.out⟩, ⟨by (with_reducible repeat (first | refine qq ?_ _ | refine qj ?_ | refine qz ?_ _)); exact BK287.out⟩, ⟨by (with_reducible repeat (first | refine qq ?_ _ | refine qj ?_ | refine qz ?_ _)); exact BK296.out⟩, ⟨by repeat (with_reducible first | exact HB.out | apply zj | apply zq | apply zw | refine zx ?_ GE287.out | refine zx ?_ GE296.out)⟩⟩
     case rest =>
      clear HC13
      try clear c1
      try clear p2
      try clear q2
      try clear hx2
      try clear c5
      try clear c5b0
      try clear c5b1
      try clear p6
      try clear c10
      try clear c12
      try clear c12b0
      try clear c13
      try clear c14
      try clear c14b0
      try clear c16
      try clear c16b0
      try clear c17
      try clear c17b0
      try clear c19
      try clear hcz11_0
      try clear hcz11_1
      try clear hfz11_0
      try clear hfz11_1
      try clear hx297_0
      try clear p2
      try clear p297
      try clear p6
      try clear q297
      obtain ⟨kq, x7_12, x297000_12, x297001_12, u297000, rfl, HA, HJ12, HO_6, HO_297000, BK287, BK296, HB⟩ := hcut
      cases kq with
      | zero => exact absurd HA.out (by simp [spec_poGiant.j1])
      | succ kj12 =>
       have H := HA.out
       clear HA
       simp only [spec_poGiant.j1] at H
       replace H := Option.bind_eq_some_iff.mp H
       obtain ⟨t303, A260, H⟩ := H
       replace H : (if 0 ≤ x8_1 then (if x8_1 ≤ t303 then (if t303 ≤ (l0.length : Int) then ((spec_poGroup.f kj12 x297000_12 x297001_12 ((l0.take (t303 : Int).toNat).drop (x8_1 : Int).toNat) t293).bind fun bt305 => (if x7_12 < 0 then (spec_poGiant.l0 kj12 l0 a1 t293 bt305.2.2 (wrap64 (x8_1 - a1)) bt305.1 bt305.2.1) else ((spec_poAdd.f bt305.1 bt305.2.1 1 x7_12 bt305.2.2).bind fun bt310 => (spec_poGiant.l0 kj12 l0 a1 t293 bt310.2.2 (wrap64 (x8_1 - a1)) bt310.1 bt310.2.1)))) else (none)) else (none)) else (none)) = some (r1, r2) := H
       have A26 := zz A260
       clear A260
       by_cases c27 : 0 ≤ x8_1
       ·rw [if_pos c27] at H
        have c27b0 := eq_true c27
        have c27b1 : decide (0 ≤ x8_1) = true := decide_eq_true c27
        clear c27
        by_cases c28 : x8_1 ≤ t303
        ·rw [if_pos c28] at H
         have c28b0 := eq_true c28
         have c28b1 : decide (x8_1 ≤ t303) = true := decide_eq_true c28
         clear c28
         by_cases c29 : t303 ≤ (l0.length : Int)
         ·rw [if_pos c29] at H
          have c29b0 := eq_true c29
          have c29b1 : decide (t303 ≤ (l0.length : Int)) = true := decide_eq_true c29
          clear c29
          replace H := Option.bind_eq_some_iff.mp H
          obtain ⟨⟨t305, t308, t309⟩, A300, H⟩ := H
          replace H : (if x7_12 < 0 then (spec_poGiant.l0 kj12 l0 a1 t293 t309 (wrap64 (x8_1 - a1)) t305 t308) else ((spec_poAdd.f t305 t308 1 x7_12 t309).bind fun bt310 => (spec_poGiant.l0 kj12 l0 a1 t293 bt310.2.2 (wrap64 (x8_1 - a1)) bt310.1 bt310.2.1))) = some (r1, r2) := H
          have A30 := zz A300
          clear A300
          by_cases c31 : x7_12 < 0
          ·rw [if_pos c31] at H
           have c31b0 : decide (x7_12 < 0) = true := decide_eq_true c31
           clear c31
           have H' := zz H
           clear H
           try go_wp2
           have n0_ := zz (jw HO_6.out)
           have n1_ := zz (Kd.V_drew HO_297000.out)
           have n2_ := zz (qj BK287.out)
           have n3_ := zz (qj BK296.out)
           have n4_ := zz (zw HB.out)
           clear HO_6
           clear HO_297000
           clear BK287
           clear BK296
           clear HB
           have HO_6 := n0_
           have HO_297000 := n1_
           have BK287 := n2_
           have BK296 := n3_
           have HB := n4_
           clear n0_ n1_ n2_ n3_ n4_
           refine start_ (n := 17) (S := fun w' => w'.cell? ⟨gb296, 0, none⟩ = some (u297000) ∧ w'.cell? ⟨gb296, 1, none⟩ = some (.int .i64 x297001_12)) (ds := [15]) #[false, false, false, false, false, false, false, false, false, false, false, false, false, false, false, false, false] (by kernel_rfl) rfl rfl ⟨(qw BK296.out 0).trans rfl, (qw BK296.out 1).trans rfl⟩ (fun hHeld => ?_); refine vv spec_poGiant.tab9 spec_poGiant.bits9 (fun HT_ HW_ => ?_)
           generalize wc.drew = w32 at HO_6 HO_297000 BK287 BK296 HB hHeld ⊢
           refine pure_ (i := 1) (N := some 47) (v := ?_) (a' := ?_) #[false, true, false, false, false, false, false, false, false, false, false, false, false, false, false, false, false] rfl rfl (kz HT_.out (by kernel_rfl)) (fun _ _ _ h => h) (Or.inl ⟨by rfl, ?_⟩) ?_ ?_
           rotate_left
           ·intro w'
            go_simp
            with_reducible rfl
           rotate_left
           ·simp only [Act.put, jz, yz, yq, i64_w, i32_w]
            rfl
           refine pure_ (i := 2) (N := some 48) (v := ?_) (a' := ?_) #[false, true, true, false, false, false, false, false, false, false, false, false, false, false, false, false, false] rfl rfl (kz HT_.out (by kernel_rfl)) (fun _ _ _ h => h) (Or.inl ⟨by rfl, ?_⟩) ?_ ?_
           rotate_left
           ·intro w'
            go_simp
            with_reducible rfl
           rotate_left
           ·simp only [Act.put, jz, yz, yq, i64_w, i32_w]
            rfl
           refine pure_ (i := 3) (N := some 49) (v := ?_) (a' := ?_) #[false, true, true, true, false, false, false, false, false, false, false, false, false, false, false, false, false] rfl rfl (kz HT_.out (by kernel_rfl)) (fun _ _ _ h => h) (Or.inl ⟨by rfl, ?_⟩) ?_ ?_
           rotate_left
           ·intro w'
            go_simp
            with_reducible rfl
           rotate_left
           ·simp only [Act.put, jz, yz, yq, i64_w, i32_w]
            rfl
           refine pure_ (i := 4) (N := some 50) (v := ?_) (a' := ?_) #[false, true, true, true, true, false, false, false, false, false, false, false, false, false, false, false, false] rfl rfl (kz HT_.out (by kernel_rfl)) (fun _ _ _ h => h) (Or.inl ⟨by rfl, ?_⟩) ?_ ?_
           rotate_left
           ·intro w'
            go_simp
            with_reducible rfl
           rotate_left
           ·simp only [Act.put, jz, yz, yq, i64_w, i32_w]
            rfl
           refine pure_ (i := 5) (N := some 51) (v := ?_) (a' := ?_) #[false, true, true, true, true, true, false, false, false, false, false, false, false, false, false, false, false] rfl rfl (kz HT_.out (by kernel_rfl)) (fun _ _ _ h => h) (Or.inl ⟨by rfl, ?_⟩) ?_ ?_
           rotate_left
           ·intro w'
            go_simp
            with_reducible rfl
           rotate_left
           ·simp only [Act.put, jz, yz, yq, i64_w, i32_w]
            rfl
           refine pure_ (i := 6) (N := some 52) (v := ?_) (a' := ?_) #[false, true, true, true, true, true, true, false, false, false, false, false, false, false, false, false, false] rfl rfl (kz HT_.out (by kernel_rfl)) (fun _ _ _ h => h) (Or.inl ⟨by rfl, ?_⟩) ?_ ?_
           rotate_left
           ·intro w'
            go_simp
            with_reducible rfl
           rotate_left
           ·simp only [Act.put, jz, yz, yq, i64_w, i32_w]
            rfl
           refine pure_ (i := 7) (N := some 53) (v := ?_) (a' := ?_) #[false, true, true, true, true, true, true, true, false, false, false, false, false, false, false, false, false] rfl rfl (kz HT_.out (by kernel_rfl)) (fun _ _ _ h => h) (Or.inl ⟨by rfl, ?_⟩) ?_ ?_
           rotate_left
           ·intro w'
            go_simp
            with_reducible rfl
           rotate_left
           ·simp only [Act.put, jz, yz, yq, i64_w, i32_w]
            rfl
           refine pure_ (i := 10) (N := some 56) (v := ?_) (a' := ?_) #[false, true, true, true, true, true, true, true, false, false, true, false, false, false, false, false, false] rfl rfl (kz HT_.out (by kernel_rfl)) (fun _ _ _ h => h) (Or.inl ⟨by rfl, ?_⟩) ?_ ?_
           rotate_left
           ·intro w'
            go_simp
            with_reducible rfl
           rotate_left
           ·simp only [Act.put, jz, yz, yq, i64_w, i32_w]
            rfl
           refine take_ (i := 0) (N := some 46) (v := ?_) (a' := ?_) #[true, true, true, true, true, true, true, true, false, false, true, false, false, false, false, false, false] rfl rfl (kj HT_.out HW_.out (by kernel_rfl)) (fun _ _ _ h => h) (Or.inl ⟨by rfl, ?_⟩) hHeld ?_ ?_
           rotate_left
           ·rintro w' ⟨s0, s1⟩
            go_simp
            with_reducible rfl
           rotate_left
           ·simp only [Act.put, jz, yz, yq, i64_w, i32_w]
            rfl
           refine one_ (i := 8) (N := some 54) #[true, true, true, true, true, true, true, true, true, false, true, false, false, false, false, false, false] rfl rfl (kw HT_.out (by kernel_rfl)) (by decide) (fun K hK => ?_)
           refine goes_ Try.func191 (by kernel_rfl) rfl #[.int .i64 (wrap64 (x8_1 + a1)), .int .i64 (l0.length : Int)] (by rfl) rfl rfl (by (try simp only [yj, List.map_cons, List.map_nil]); first | done | rfl) ?_
           with_reducible refine (spec_l1Least.calls (wrap64 (x8_1 + a1)) (l0.length : Int) t303 _ A26.out).mono ?_
           rintro e w' ⟨rfl, ⟨nd, rfl⟩⟩
           refine ⟨_, rfl, ?_⟩
           obtain ⟨i033, hi033, _, hsz33, _⟩ := info_parts info3
           obtain ⟨A33, hcut33, hA33, hC33⟩ := print_mid_of (P := Try.prog) (Value.int .i64) 0 29 3 .i64 .i64 Try.underlying29 hi033 hsz33 A0 c0 l0 x8_1 t303 (of_decide_eq_true (by with_reducible assumption)) (by first | omega | exact of_decide_eq_true (by with_reducible assumption)) (of_decide_eq_true (by with_reducible assumption)) HC0.out
           have HR304 := zz (Kd.C_of_reads (h1 := fun _ => rfl) (hA33 _ (Kd.reads_of_C HR0.out)))
           have HC304 := zz hC33
           clear hA33 hC33 hi033 hsz33
           obtain ⟨Ao34, co34, eo34⟩ := Kd.V_slice HO_297000.out
           (first | subst eo34 | (injection eo34 with f1_ f2_ f3_; have f4_ := f1_.symm; have f5_ := f3_.symm; clear f1_ f2_ f3_; subst f4_; subst f5_))
           obtain ⟨Ao35, co35, eo35⟩ := vj HO_6.out
           (first | subst eo35 | (injection eo35 with f1_ f2_ f3_; have f4_ := f1_.symm; have f5_ := f3_.symm; clear f1_ f2_ f3_; subst f4_; subst f5_))
           refine hK.out _ _ ⟨(qw BK296.out 0).trans rfl, (qw BK296.out 1).trans rfl⟩ (fun hHeld => ?_)
           clear hK K
           refine kv (a' := ?_) ?_ ?_
           rotate_left
           ·show Act.put _ (some 54) _ = _
            simp only [Act.put, jz, yz, yq, i64_w, i32_w]
            rfl
           refine pure_ (i := 9) (N := some 55) (v := ?_) (a' := ?_) #[true, true, true, true, true, true, true, true, true, true, true, false, false, false, false, false, false] rfl rfl (kz HT_.out (by kernel_rfl)) (fun _ _ _ h => h) (Or.inl ⟨by rfl, ?_⟩) ?_ ?_
           rotate_left
           ·intro w'
            go_simp
            with_reducible rfl
           rotate_left
           ·simp only [Act.put, jz, yz, yq, i64_w, i32_w]
            rfl
           refine one_ (i := 11) (N := some 57) #[true, true, true, true, true, true, true, true, true, true, true, true, false, false, false, false, false] rfl rfl (kw HT_.out (by kernel_rfl)) (by decide) (fun K hK => ?_)
           refine goes_ Try.func192 (by kernel_rfl) rfl #[.agg #[.slice Ao34 x297000_12.length co34, .int .i64 x297001_12], .slice A33 ((l0.take (t303 : Int).toNat).drop (x8_1 : Int).toNat).length (c0 - x8_1.toNat), .slice Ao35 t293.length co35] (by rfl) rfl rfl (by (try simp only [yj, List.map_cons, List.map_nil]); first | done | (rw [show ((l0.take (t303 : Int).toNat).drop (x8_1 : Int).toNat).length = (t303.toNat - x8_1.toNat) from (by rw [yw, yx]; have h_ : (t303 : Int) ≤ (l0.length : Int) := of_decide_eq_true (by with_reducible assumption); omega)] <;> rfl) | rfl | (simp only [yw, yx]; rfl)) ?_
           with_reducible refine (spec_poGroup.calls kj12 _ _ x297000_12 x297001_12 _ _ ((l0.take (t303 : Int).toNat).drop (x8_1 : Int).toNat) _ _ t293 t305 t308 t309 _ ?side1 ?side2 ?side3 ?side4 ?side5 ?side6 A30.out).mono ?_
           (case side1 => repeat (first | exact (Kd.V_reads' HO_297000.out).2.2 | (with_reducible refine jx ?_ _) | (with_reducible refine jk ?_ _) | (with_reducible refine jv ?_)))
           (case side2 => exact (Kd.V_reads' HO_297000.out).2.1)
           (case side3 => repeat (first | exact (Kd.C_below HR304.out (by repeat (with_reducible first | exact HB.out | apply zj | apply zq | apply zw | refine zx ?_ GE287.out | refine zx ?_ GE296.out))) | (with_reducible refine jx ?_ _) | (with_reducible refine jk ?_ _) | (with_reducible refine jv ?_)))
           (case side4 => exact HC304.out)
           (case side5 => repeat (first | exact (vq HO_6.out).2.2 | (with_reducible refine jx ?_ _) | (with_reducible refine jk ?_ _) | (with_reducible refine jv ?_)))
           (case side6 => exact (vq HO_6.out).2.1)
           rintro e w36 ⟨v306, rfl, ho0, hb⟩
           refine ⟨_, rfl, ?_⟩
           have n0_ := zz (vz (by (with_reducible repeat (first | apply jq | apply jj | apply jw)); exact HO_6.out) hb)
           have n1_ := zz (Kd.V_elder' (by (with_reducible repeat (first | apply Kd.V_alloc | apply Kd.V_drewN | apply Kd.V_drew)); exact HO_297000.out) (Kd.R_base ho0) hb)
           have n2_ := zz (Kd.R_lower (Kd.R_newM (M := fun k_ => (w.heap.size ≤ k_)) ho0 (zv (by repeat (with_reducible first | exact HB.out | apply zj | apply zq | apply zw | refine zx ?_ GE287.out | refine zx ?_ GE296.out))) (fun k_ h_ => h_)) (zv (by repeat (with_reducible first | exact HB.out | apply zj | apply zq | apply zw | refine zx ?_ GE287.out | refine zx ?_ GE296.out))))
           have n3_ := zz (qv (g := gb287) (o := .cells #[.slice none 0 0, .int .i64 0] 32 (0, 0)) (by (with_reducible repeat (first | refine qq ?_ _ | refine qj ?_ | refine qz ?_ _)); exact BK287.out) hb)
           have n4_ := zz (qv (g := gb296) (o := .cells #[.slice Ao34 x297000_12.length co34, .int .i64 x297001_12] 32 (0, 0)) (by (with_reducible repeat (first | refine qq ?_ _ | refine qj ?_ | refine qz ?_ _)); exact BK296.out) hb)
           have n5_ := zz (zk (by repeat (with_reducible first | exact HB.out | apply zj | apply zq | apply zw | refine zx ?_ GE287.out | refine zx ?_ GE296.out)) hb)
           clear HO_6
           clear HO_297000
           clear BK287
           clear BK296
           clear HB
           have HO_6 := n0_
           have HO_297000 := n1_
           have HO307 := n2_
           have BK287 := n3_
           have BK296 := n4_
           have HB := n5_
           clear n0_ n1_ n2_ n3_ n4_ n5_
           (try clear hb)
           (try clear hb2)
           (try clear hk)
           (try clear hi)
           (try clear ho0)
           obtain ⟨Ao37, co37, eo37⟩ := vj HO307.out
           (first | subst eo37 | (injection eo37 with f1_ f2_ f3_; have f4_ := f1_.symm; have f5_ := f3_.symm; clear f1_ f2_ f3_; subst f4_; subst f5_))
           refine hK.out _ _ ⟨(qw BK296.out 0).trans rfl, (qw BK296.out 1).trans rfl⟩ (fun hHeld => ?_)
           clear hK K
           refine kv (a' := ?_) ?_ ?_
           rotate_left
           ·show Act.put _ (some 57) _ = _
            simp only [Act.put, jz, yz, yq, i64_w, i32_w]
            rfl
           refine pure_ (i := 12) (N := some 45) (v := ?_) (a' := ?_) #[true, true, true, true, true, true, true, true, true, true, true, true, true, false, false, false, false] rfl rfl (kz HT_.out (by kernel_rfl)) (fun _ _ _ h => h) (Or.inl ⟨by rfl, ?_⟩) ?_ ?_
           rotate_left
           ·intro w'
            go_simp
            with_reducible rfl
           rotate_left
           ·simp only [Act.put, jz, yz, yq, i64_w, i32_w]
            rfl
           refine pure_ (i := 13) (N := some 58) (v := ?_) (a' := ?_) #[true, true, true, true, true, true, true, true, true, true, true, true, true, true, false, false, false] rfl rfl (kz HT_.out (by kernel_rfl)) (fun _ _ _ h => h) (Or.inl ⟨by rfl, ?_⟩) ?_ ?_
           rotate_left
           ·intro w'
            go_simp
            with_reducible rfl
           rotate_left
           ·simp only [Act.put, jz, yz, yq, i64_w, i32_w]
            rfl
           refine pure_ (i := 14) (N := some 59) (v := ?_) (a' := ?_) #[true, true, true, true, true, true, true, true, true, true, true, true, true, true, true, false, false] rfl rfl (kz HT_.out (by kernel_rfl)) (fun _ _ _ h => h) (Or.inl ⟨by rfl, ?_⟩) ?_ ?_
           rotate_left
           ·intro w'
            go_simp
            with_reducible rfl
           rotate_left
           ·simp only [Act.put, jz, yz, yq, i64_w, i32_w]
            rfl
           refine last_ (i := 15) (N := none) #[true, true, true, true, true, true, true, true, true, true, true, true, true, true, true, true, false] rfl rfl (kw HT_.out (by kernel_rfl)) (by decide) (fun K hK => ?_)
           have hs38 : w36.cell? ⟨gb296, 0, none⟩ = some (.slice Ao34 x297000_12.length co34) := (qw BK296.out 0).trans rfl
           have hfs38 := qx BK296.out 0
           have hns38_0 := NB287_296.out
           have hms38_0 := NB296_287.out
           have hs39 : w36.cell? ⟨gb296, 1, none⟩ = some (.int .i64 x297001_12) := (qw BK296.out 1).trans rfl
           have hfs39 := qx BK296.out 1
           have hns39_0 := NB287_296.out
           have hms39_0 := NB296_287.out
           refine skip_ (w1 := ?_) (by rfl) rfl ?_ ?_
           rotate_left
           ·go_simp
            rfl
           refine hK.out _ _ ?_
           clear hK K
           refine pure_ (i := 16) (N := some 9) (v := ?_) (a' := ?_) #[true, true, true, true, true, true, true, true, true, true, true, true, true, true, true, true, true] rfl rfl (kz HT_.out (by kernel_rfl)) (fun _ _ _ h => h) (Or.inl ⟨by rfl, ?_⟩) ?_ ?_
           rotate_left
           ·intro w'
            go_simp
            with_reducible rfl
           rotate_left
           ·simp only [Act.put, jz, yz, yq, i64_w, i32_w]
            rfl
           refine done_ (done_of HT_.out (by kernel_rfl)) ?_
           try go_wp2
           go_roundg kj12
           case measure => have := HK1.out; have := HJ12.out; omega
           case rel => exact ⟨(t309), (wrap64 (x8_1 - a1)), (t305), (t308), (.slice Ao37 t305.length co37), (by first | rfl | (simp; done) | (simp [*]; done)), (by first | rfl | (simp; done) | (simp [*]; done)), H', ⟨by have := HK1.out; have := HJ12.out; omega⟩, ⟨by (with_reducible repeat (first | apply jq | apply jj | apply jw)); exact yv (Kd.R_far (p := ⟨gb296, 1, none⟩) (Kd.R_far (p := ⟨gb296, 0, none⟩) (Kd.R_types HO_6.out BK296.out (by decide)) (fun _ hk => hk.2) (.slice Ao37 t305.length co37)) (fun _ hk => hk.2) (.int .i64 t308)) (fun _ hk => hk.1)⟩, ⟨Kd.R_V (by (with_reducible repeat (first | apply jq | apply jj | apply jw)); exact yv (Kd.R_far (p := ⟨gb296, 1, none⟩) (Kd.R_far (p := ⟨gb296, 0, none⟩) (Kd.R_types (Kd.R_types (Kd.R_types (vk HO307.out (Kd.R_typed HO_6.out) (by decide)) BK287.out (by decide)) BK296.out (by decide)) BK296.out (by decide)) (fun _ hk => hk.2) (.slice Ao37 t305.length co37)) (fun _ hk => hk.2) (.int .i64 t308)) (fun _ hk => ⟨hk.1.1.1.1.1, ⟨hk.1.1.1.2, ⟨hk.1.1.2, hk.1.2⟩⟩⟩))⟩, ⟨by (with_reducible repeat (first | refine qq ?_ _ | refine qj ?_ | refine qz ?_ _)); refine blk_far ?_ NB287_296.out _; (with_reducible repeat (first | refine qq ?_ _ | refine qj ?_ | refine qz ?_ _)); refine blk_far ?_ NB287_296.out _; (with_reducible repeat (first | refine qq ?_ _ | refine qj ?_ | refine qz ?_ _)); exact BK287.out⟩, ⟨by (with_reducible repeat (first | refine qq ?_ _ | refine qj ?_ | refine qz ?_ _)); refine qk (cs := #[.slice Ao37 t305.length co37, .int .i64 x297001_12]) ?_ 1 _ rfl; (with_reducible repeat (first | refine qq ?_ _ | refine qj ?_ | refine qz ?_ _)); refine qk (cs := #[.slice Ao34 x297000_12.length co34, .int .i64 x297001_12]) ?_ 0 _ rfl; (with_reducible repeat (first | refine qq ?_ _ | refine qj ?_ | refine qz ?_ _)); exact BK296.out⟩, ⟨by repeat (with_reducible first | exact HB.out | apply zj | apply zq | apply zw | refine zx ?_ GE287.out | refine zx ?_ GE296.out)⟩⟩
          ·rw [if_neg c31] at H
           have c31b0 : decide (x7_12 < 0) = false := decide_eq_false c31
           clear c31
           replace H := Option.bind_eq_some_iff.mp H
           obtain ⟨⟨t310, t313, t314⟩, A400, H⟩ := H
           replace H : (spec_poGiant.l0 kj12 l0 a1 t293 t314 (wrap64 (x8_1 - a1)) t310 t313) = some (r1, r2) := H
           have A40 := zz A400
           clear A400
           have H' := zz H
           clear H
           try go_wp2
           have n0_ := zz (jw HO_6.out)
           have n1_ := zz (Kd.V_drew HO_297000.out)
           have n2_ := zz (qj BK287.out)
           have n3_ := zz (qj BK296.out)
           have n4_ := zz (zw HB.out)
           clear HO_6
           clear HO_297000
           clear BK287
           clear BK296
           clear HB
           have HO_6 := n0_
           have HO_297000 := n1_
           have BK287 := n2_
           have BK296 := n3_
           have HB := n4_
           clear n0_ n1_ n2_ n3_ n4_
           refine start_ (n := 17) (S := fun w' => w'.cell? ⟨gb296, 0, none⟩ = some (u297000) ∧ w'.cell? ⟨gb296, 1, none⟩ = some (.int .i64 x297001_12)) (ds := [15]) #[false, false, false, false, false, false, false, false, false, false, false, false, false, false, false, false, false] (by kernel_rfl) rfl rfl ⟨(qw BK296.out 0).trans rfl, (qw BK296.out 1).trans rfl⟩ (fun hHeld => ?_); refine vv spec_poGiant.tab9 spec_poGiant.bits9 (fun HT_ HW_ => ?_)
           generalize wc.drew = w41 at HO_6 HO_297000 BK287 BK296 HB hHeld ⊢
           refine pure_ (i := 1) (N := some 47) (v := ?_) (a' := ?_) #[false, true, false, false, false, false, false, false, false, false, false, false, false, false, false, false, false] rfl rfl (kz HT_.out (by kernel_rfl)) (fun _ _ _ h => h) (Or.inl ⟨by rfl, ?_⟩) ?_ ?_
           rotate_left
           ·intro w'
            go_simp
            with_reducible rfl
           rotate_left
           ·simp only [Act.put, jz, yz, yq, i64_w, i32_w]
            rfl
           refine pure_ (i := 2) (N := some 48) (v := ?_) (a' := ?_) #[false, true, true, false, false, false, false, false, false, false, false, false, false, false, false, false, false] rfl rfl (kz HT_.out (by kernel_rfl)) (fun _ _ _ h => h) (Or.inl ⟨by rfl, ?_⟩) ?_ ?_
           rotate_left
           ·intro w'
            go_simp
            with_reducible rfl
           rotate_left
           ·simp only [Act.put, jz, yz, yq, i64_w, i32_w]
            rfl
           refine pure_ (i := 3) (N := some 49) (v := ?_) (a' := ?_) #[false, true, true, true, false, false, false, false, false, false, false, false, false, false, false, false, false] rfl rfl (kz HT_.out (by kernel_rfl)) (fun _ _ _ h => h) (Or.inl ⟨by rfl, ?_⟩) ?_ ?_
           rotate_left
           ·intro w'
            go_simp
            with_reducible rfl
           rotate_left
           ·simp only [Act.put, jz, yz, yq, i64_w, i32_w]
            rfl
           refine pure_ (i := 4) (N := some 50) (v := ?_) (a' := ?_) #[false, true, true, true, true, false, false, false, false, false, false, false, false, false, false, false, false] rfl rfl (kz HT_.out (by kernel_rfl)) (fun _ _ _ h => h) (Or.inl ⟨by rfl, ?_⟩) ?_ ?_
           rotate_left
           ·intro w'
            go_simp
            with_reducible rfl
           rotate_left
           ·simp only [Act.put, jz, yz, yq, i64_w, i32_w]
            rfl
           refine pure_ (i := 5) (N := some 51) (v := ?_) (a' := ?_) #[false, true, true, true, true, true, false, false, false, false, false, false, false, false, false, false, false] rfl rfl (kz HT_.out (by kernel_rfl)) (fun _ _ _ h => h) (Or.inl ⟨by rfl, ?_⟩) ?_ ?_
           rotate_left
           ·intro w'
            go_simp
            with_reducible rfl
           rotate_left
           ·simp only [Act.put, jz, yz, yq, i64_w, i32_w]
            rfl
           refine pure_ (i := 6) (N := some 52) (v := ?_) (a' := ?_) #[false, true, true, true, true, true, true, false, false, false, false, false, false, false, false, false, false] rfl rfl (kz HT_.out (by kernel_rfl)) (fun _ _ _ h => h) (Or.inl ⟨by rfl, ?_⟩) ?_ ?_
           rotate_left
           ·intro w'
            go_simp
            with_reducible rfl
           rotate_left
           ·simp only [Act.put, jz, yz, yq, i64_w, i32_w]
            rfl
           refine pure_ (i := 7) (N := some 53) (v := ?_) (a' := ?_) #[false, true, true, true, true, true, true, true, false, false, false, false, false, false, false, false, false] rfl rfl (kz HT_.out (by kernel_rfl)) (fun _ _ _ h => h) (Or.inl ⟨by rfl, ?_⟩) ?_ ?_
           rotate_left
           ·intro w'
            go_simp
            with_reducible rfl
           rotate_left
           ·simp only [Act.put, jz, yz, yq, i64_w, i32_w]
            rfl
           refine pure_ (i := 10) (N := some 56) (v := ?_) (a' := ?_) #[false, true, true, true, true, true, true, true, false, false, true, false, false, false, false, false, false] rfl rfl (kz HT_.out (by kernel_rfl)) (fun _ _ _ h => h) (Or.inl ⟨by rfl, ?_⟩) ?_ ?_
           rotate_left
           ·intro w'
            go_simp
            with_reducible rfl
           rotate_left
           ·simp only [Act.put, jz, yz, yq, i64_w, i32_w]
            rfl
           refine take_ (i := 0) (N := some 46) (v := ?_) (a' := ?_) #[true, true, true, true, true, true, true, true, false, false, true, false, false, false, false, false, false] rfl rfl (kj HT_.out HW_.out (by kernel_rfl)) (fun _ _ _ h => h) (Or.inl ⟨by rfl, ?_⟩) hHeld ?_ ?_
           rotate_left
           ·rintro w' ⟨s0, s1⟩
            go_simp
            with_reducible rfl
           rotate_left
           ·simp only [Act.put, jz, yz, yq, i64_w, i32_w]
            rfl
           refine one_ (i := 8) (N := some 54) #[true, true, true, true, true, true, true, true, true, false, true, false, false, false, false, false, false] rfl rfl (kw HT_.out (by kernel_rfl)) (by decide) (fun K hK => ?_)
           refine goes_ Try.func191 (by kernel_rfl) rfl #[.int .i64 (wrap64 (x8_1 + a1)), .int .i64 (l0.length : Int)] (by rfl) rfl rfl (by (try simp only [yj, List.map_cons, List.map_nil]); first | done | rfl) ?_
           with_reducible refine (spec_l1Least.calls (wrap64 (x8_1 + a1)) (l0.length : Int) t303 _ A26.out).mono ?_
           rintro e w' ⟨rfl, ⟨nd, rfl⟩⟩
           refine ⟨_, rfl, ?_⟩
           obtain ⟨i042, hi042, _, hsz42, _⟩ := info_parts info3
           obtain ⟨A42, hcut42, hA42, hC42⟩ := print_mid_of (P := Try.prog) (Value.int .i64) 0 29 3 .i64 .i64 Try.underlying29 hi042 hsz42 A0 c0 l0 x8_1 t303 (of_decide_eq_true (by with_reducible assumption)) (by first | omega | exact of_decide_eq_true (by with_reducible assumption)) (of_decide_eq_true (by with_reducible assumption)) HC0.out
           have HR304 := zz (Kd.C_of_reads (h1 := fun _ => rfl) (hA42 _ (Kd.reads_of_C HR0.out)))
           have HC304 := zz hC42
           clear hA42 hC42 hi042 hsz42
           obtain ⟨Ao43, co43, eo43⟩ := Kd.V_slice HO_297000.out
           (first | subst eo43 | (injection eo43 with f1_ f2_ f3_; have f4_ := f1_.symm; have f5_ := f3_.symm; clear f1_ f2_ f3_; subst f4_; subst f5_))
           obtain ⟨Ao44, co44, eo44⟩ := vj HO_6.out
           (first | subst eo44 | (injection eo44 with f1_ f2_ f3_; have f4_ := f1_.symm; have f5_ := f3_.symm; clear f1_ f2_ f3_; subst f4_; subst f5_))
           refine hK.out _ _ ⟨(qw BK296.out 0).trans rfl, (qw BK296.out 1).trans rfl⟩ (fun hHeld => ?_)
           clear hK K
           refine kv (a' := ?_) ?_ ?_
           rotate_left
           ·show Act.put _ (some 54) _ = _
            simp only [Act.put, jz, yz, yq, i64_w, i32_w]
            rfl
           refine pure_ (i := 9) (N := some 55) (v := ?_) (a' := ?_) #[true, true, true, true, true, true, true, true, true, true, true, false, false, false, false, false, false] rfl rfl (kz HT_.out (by kernel_rfl)) (fun _ _ _ h => h) (Or.inl ⟨by rfl, ?_⟩) ?_ ?_
           rotate_left
           ·intro w'
            go_simp
            with_reducible rfl
           rotate_left
           ·simp only [Act.put, jz, yz, yq, i64_w, i32_w]
            rfl
           refine one_ (i := 11) (N := some 57) #[true, true, true, true, true, true, true, true, true, true, true, true, false, false, false, false, false] rfl rfl (kw HT_.out (by kernel_rfl)) (by decide) (fun K hK => ?_)
           refine goes_ Try.func192 (by kernel_rfl) rfl #[.agg #[.slice Ao43 x297000_12.length co43, .int .i64 x297001_12], .slice A42 ((l0.take (t303 : Int).toNat).drop (x8_1 : Int).toNat).length (c0 - x8_1.toNat), .slice Ao44 t293.length co44] (by rfl) rfl rfl (by (try simp only [yj, List.map_cons, List.map_nil]); first | done | (rw [show ((l0.take (t303 : Int).toNat).drop (x8_1 : Int).toNat).length = (t303.toNat - x8_1.toNat) from (by rw [yw, yx]; have h_ : (t303 : Int) ≤ (l0.length : Int) := of_decide_eq_true (by with_reducible assumption); omega)] <;> rfl) | rfl | (simp only [yw, yx]; rfl)) ?_
           with_reducible refine (spec_poGroup.calls kj12 _ _ x297000_12 x297001_12 _ _ ((l0.take (t303 : Int).toNat).drop (x8_1 : Int).toNat) _ _ t293 t305 t308 t309 _ ?side1 ?side2 ?side3 ?side4 ?side5 ?side6 A30.out).mono ?_
           (case side1 => repeat (first | exact (Kd.V_reads' HO_297000.out).2.2 | (with_reducible refine jx ?_ _) | (with_reducible refine jk ?_ _) | (with_reducible refine jv ?_)))
           (case side2 => exact (Kd.V_reads' HO_297000.out).2.1)
           (case side3 => repeat (first | exact (Kd.C_below HR304.out (by repeat (with_reducible first | exact HB.out | apply zj | apply zq | apply zw | refine zx ?_ GE287.out | refine zx ?_ GE296.out))) | (with_reducible refine jx ?_ _) | (with_reducible refine jk ?_ _) | (with_reducible refine jv ?_)))
           (case side4 => exact HC304.out)
           (case side5 => repeat (first | exact (vq HO_6.out).2.2 | (with_reducible refine jx ?_ _) | (with_reducible refine jk ?_ _) | (with_reducible refine jv ?_)))
           (case side6 => exact (vq HO_6.out).2.1)
           rintro e w45 ⟨v306, rfl, ho0, hb⟩
           refine ⟨_, rfl, ?_⟩
           have n0_ := zz (vz (by (with_reducible repeat (first | apply jq | apply jj | apply jw)); exact HO_6.out) hb)
           have n1_ := zz (Kd.V_elder' (by (with_reducible repeat (first | apply Kd.V_alloc | apply Kd.V_drewN | apply Kd.V_drew)); exact HO_297000.out) (Kd.R_base ho0) hb)
           have n2_ := zz (Kd.R_lower (Kd.R_newM (M := fun k_ => (w.heap.size ≤ k_)) ho0 (zv (by repeat (with_reducible first | exact HB.out | apply zj | apply zq | apply zw | refine zx ?_ GE287.out | refine zx ?_ GE296.out))) (fun k_ h_ => h_)) (zv (by repeat (with_reducible first | exact HB.out | apply zj | apply zq | apply zw | refine zx ?_ GE287.out | refine zx ?_ GE296.out))))
           have n3_ := zz (qv (g := gb287) (o := .cells #[.slice none 0 0, .int .i64 0] 32 (0, 0)) (by (with_reducible repeat (first | refine qq ?_ _ | refine qj ?_ | refine qz ?_ _)); exact BK287.out) hb)
           have n4_ := zz (qv (g := gb296) (o := .cells #[.slice Ao43 x297000_12.length co43, .int .i64 x297001_12] 32 (0, 0)) (by (with_reducible repeat (first | refine qq ?_ _ | refine qj ?_ | refine qz ?_ _)); exact BK296.out) hb)
           have n5_ := zz (zk (by repeat (with_reducible first | exact HB.out | apply zj | apply zq | apply zw | refine zx ?_ GE287.out | refine zx ?_ GE296.out)) hb)
           clear HO_6
           clear HO_297000
           clear BK287
           clear BK296
           clear HB
           have HO_6 := n0_
           have HO_297000 := n1_
           have HO307 := n2_
           have BK287 := n3_
           have BK296 := n4_
           have HB := n5_
           clear n0_ n1_ n2_ n3_ n4_ n5_
           (try clear hb)
           (try clear hb2)
           (try clear hk)
           (try clear hi)
           (try clear ho0)
           obtain ⟨Ao46, co46, eo46⟩ := vj HO307.out
           (first | subst eo46 | (injection eo46 with f1_ f2_ f3_; have f4_ := f1_.symm; have f5_ := f3_.symm; clear f1_ f2_ f3_; subst f4_; subst f5_))
           refine hK.out _ _ ⟨(qw BK296.out 0).trans rfl, (qw BK296.out 1).trans rfl⟩ (fun hHeld => ?_)
           clear hK K
           refine kv (a' := ?_) ?_ ?_
           rotate_left
           ·show Act.put _ (some 57) _ = _
            simp only [Act.put, jz, yz, yq, i64_w, i32_w]
            rfl
           refine pure_ (i := 12) (N := some 45) (v := ?_) (a' := ?_) #[true, true, true, true, true, true, true, true, true, true, true, true, true, false, false, false, false] rfl rfl (kz HT_.out (by kernel_rfl)) (fun _ _ _ h => h) (Or.inl ⟨by rfl, ?_⟩) ?_ ?_
           rotate_left
           ·intro w'
            go_simp
            with_reducible rfl
           rotate_left
           ·simp only [Act.put, jz, yz, yq, i64_w, i32_w]
            rfl
           refine pure_ (i := 13) (N := some 58) (v := ?_) (a' := ?_) #[true, true, true, true, true, true, true, true, true, true, true, true, true, true, false, false, false] rfl rfl (kz HT_.out (by kernel_rfl)) (fun _ _ _ h => h) (Or.inl ⟨by rfl, ?_⟩) ?_ ?_
           rotate_left
           ·intro w'
            go_simp
            with_reducible rfl
           rotate_left
           ·simp only [Act.put, jz, yz, yq, i64_w, i32_w]
            rfl
           refine pure_ (i := 14) (N := some 59) (v := ?_) (a' := ?_) #[true, true, true, true, true, true, true, true, true, true, true, true, true, true, true, false, false] rfl rfl (kz HT_.out (by kernel_rfl)) (fun _ _ _ h => h) (Or.inl ⟨by rfl, ?_⟩) ?_ ?_
           rotate_left
           ·intro w'
            go_simp
            with_reducible rfl
           rotate_left
           ·simp only [Act.put, jz, yz, yq, i64_w, i32_w]
            rfl
           refine last_ (i := 15) (N := none) #[true, true, true, true, true, true, true, true, true, true, true, true, true, true, true, true, false] rfl rfl (kw HT_.out (by kernel_rfl)) (by decide) (fun K hK => ?_)
           have hs47 : w45.cell? ⟨gb296, 0, none⟩ = some (.slice Ao43 x297000_12.length co43) := (qw BK296.out 0).trans rfl
           have hfs47 := qx BK296.out 0
           have hns47_0 := NB287_296.out
           have hms47_0 := NB296_287.out
           have hs48 : w45.cell? ⟨gb296, 1, none⟩ = some (.int .i64 x297001_12) := (qw BK296.out 1).trans rfl
           have hfs48 := qx BK296.out 1
           have hns48_0 := NB287_296.out
           have hms48_0 := NB296_287.out
           refine skip_ (w1 := ?_) (by rfl) rfl ?_ ?_
           rotate_left
           ·go_simp
            rfl
           refine hK.out _ _ ?_
           clear hK K
           refine pure_ (i := 16) (N := some 9) (v := ?_) (a' := ?_) #[true, true, true, true, true, true, true, true, true, true, true, true, true, true, true, true, true] rfl rfl (kz HT_.out (by kernel_rfl)) (fun _ _ _ h => h) (Or.inl ⟨by rfl, ?_⟩) ?_ ?_
           rotate_left
           ·intro w'
            go_simp
            with_reducible rfl
           rotate_left
           ·simp only [Act.put, jz, yz, yq, i64_w, i32_w]
            rfl
           refine done_ (done_of HT_.out (by kernel_rfl)) ?_
           have hnb49 := NB296_287.out
           have hnc49 := NB287_296.out
           have hcz50_0 : w45.cell? ⟨gb296, 0, none⟩ = some (.slice Ao43 x297000_12.length co43) := (qw BK296.out 0).trans rfl
           have hcz50_1 : w45.cell? ⟨gb296, 1, none⟩ = some (.int .i64 x297001_12) := (qw BK296.out 1).trans rfl
           have hfz50_0 := qx BK296.out 0
           have hfz50_1 := qx BK296.out 1
           try go_wp2_with (first | ((with_reducible refine yk (f := 130) rfl ?_); refine goesL_ (some 67) rfl rfl Try.func130 (by kernel_rfl) rfl #[.agg #[.slice Ao46 t305.length co46, .int .i64 t308], .int .i64 1, .int .i64 x7_12, .int .i64 t309] rfl (by (try simp only [yj, List.map_cons, List.map_nil]); first | done | rfl) ?_; (with_reducible refine (spec_poAdd.calls _ _ t305 t308 1 x7_12 t309 t310 t313 t314 _ ?side1 ?side2 A40.out).mono ?_); (case side1 => refine (vq (e := 109) (base := w.heap.size) (ok := fun k_ => ((w.heap.size ≤ k_) ∧ True)) (n := t305.length) (c := co46) ?_).2.2; exact (by (with_reducible repeat (first | apply jq | apply jj | apply jw)); exact (yv (Kd.R_far (p := ⟨gb296, 1, none⟩) (Kd.R_far (p := ⟨gb296, 0, none⟩) (Kd.R_types HO307.out BK296.out (by decide)) (fun _ hk => hk.2) (.slice Ao46 t305.length co46)) (fun _ hk => hk.2) (.int .i64 t308)) (fun _ h_ => h_.1)))); (case side2 => exact (vq HO307.out).2.1); rintro e w51 ⟨v311, rfl, ho0, hb⟩; refine ⟨_, rfl, ?_⟩; have n0_ := zz (vz (by (with_reducible repeat (first | apply jq | apply jj | apply jw)); exact (yv (Kd.R_far (p := ⟨gb296, 1, none⟩) (Kd.R_far (p := ⟨gb296, 0, none⟩) (Kd.R_types HO_6.out BK296.out (by decide)) (fun _ hk => hk.2) (.slice Ao46 t305.length co46)) (fun _ hk => hk.2) (.int .i64 t308)) (fun _ h_ => h_.1))) hb); have n1_ := zz (Kd.V_elder' (by (with_reducible repeat (first | apply Kd.V_alloc | apply Kd.V_drewN | apply Kd.V_drew)); exact (Kd.V_mono (Kd.V_far (p := ⟨gb296, 1, none⟩) (Kd.V_far (p := ⟨gb296, 0, none⟩) (Kd.V_mono HO_297000.out (fun k_ hk => (⟨hk, hk.1.2.2.2⟩ : _ ∧ k_ ≠ gb296))) (fun _ hk => hk.2) (.slice Ao46 t305.length co46)) (fun _ hk => hk.2) (.int .i64 t308)) (fun _ h_ => h_.1))) (Kd.R_base ho0) hb); have n2_ := zz (Kd.R_elder' (by (with_reducible repeat (first | apply jq | apply jj | apply jw)); exact (yv (Kd.R_far (p := ⟨gb296, 1, none⟩) (Kd.R_far (p := ⟨gb296, 0, none⟩) (Kd.R_types HO307.out BK296.out (by decide)) (fun _ hk => hk.2) (.slice Ao46 t305.length co46)) (fun _ hk => hk.2) (.int .i64 t308)) (fun _ h_ => h_.1))) (Kd.R_base ho0) hb); have n3_ := zz (Kd.R_lower (Kd.R_new' (Kd.R_newM (M := fun k_ => (w.heap.size ≤ k_)) ho0 (zv (by repeat (with_reducible first | exact HB.out | apply zj | apply zq | apply zw | refine zx ?_ GE287.out | refine zx ?_ GE296.out))) (fun k_ h_ => h_)) (Kd.R_lt (by (with_reducible repeat (first | apply jq | apply jj | apply jw)); exact (yv (Kd.R_far (p := ⟨gb296, 1, none⟩) (Kd.R_far (p := ⟨gb296, 0, none⟩) (Kd.R_types HO307.out BK296.out (by decide)) (fun _ hk => hk.2) (.slice Ao46 t305.length co46)) (fun _ hk => hk.2) (.int .i64 t308)) (fun _ h_ => h_.1))))) (zv (by repeat (with_reducible first | exact HB.out | apply zj | apply zq | apply zw | refine zx ?_ GE287.out | refine zx ?_ GE296.out)))); have n4_ := zz (qv (g := gb287) (o := .cells #[.slice none 0 0, .int .i64 0] 32 (0, 0)) (by (with_reducible repeat (first | refine qq ?_ _ | refine qj ?_ | refine qz ?_ _)); refine blk_far ?_ NB287_296.out _; (with_reducible repeat (first | refine qq ?_ _ | refine qj ?_ | refine qz ?_ _)); refine blk_far ?_ NB287_296.out _; (with_reducible repeat (first | refine qq ?_ _ | refine qj ?_ | refine qz ?_ _)); exact BK287.out) hb); have n5_ := zz (qv (g := gb296) (o := .cells #[.slice Ao46 t305.length co46, .int .i64 t308] 32 (0, 0)) (by (with_reducible repeat (first | refine qq ?_ _ | refine qj ?_ | refine qz ?_ _)); refine qk (cs := #[.slice Ao46 t305.length co46, .int .i64 x297001_12]) ?_ 1 _ rfl; (with_reducible repeat (first | refine qq ?_ _ | refine qj ?_ | refine qz ?_ _)); refine qk (cs := #[.slice Ao43 x297000_12.length co43, .int .i64 x297001_12]) ?_ 0 _ rfl; (with_reducible repeat (first | refine qq ?_ _ | refine qj ?_ | refine qz ?_ _)); exact BK296.out) hb); have n6_ := zz (zk (by repeat (with_reducible first | exact HB.out | apply zj | apply zq | apply zw | refine zx ?_ GE287.out | refine zx ?_ GE296.out)) hb); clear HO_6; clear HO_297000; clear HO307; clear BK287; clear BK296; clear HB; have HO_6 := n0_; have HO_297000 := n1_; have HO307 := n2_; have HO312 := n3_; have BK287 := n4_; have BK296 := n5_; have HB := n6_; clear n0_ n1_ n2_ n3_ n4_ n5_ n6_; (try clear hb); (try clear hi hk); (try clear ho0); obtain ⟨Ao52, co52, eo52⟩ := vj HO312.out; subst eo52; have hcz53_0 : w51.cell? ⟨gb296, 0, none⟩ = some (.slice Ao46 t305.length co46) := (qw BK296.out 0).trans rfl; have hcz53_1 : w51.cell? ⟨gb296, 1, none⟩ = some (.int .i64 t308) := (qw BK296.out 1).trans rfl; have hfz53_0 := qx BK296.out 0; have hfz53_1 := qx BK296.out 1))
           go_roundg kj12
           case measure => have := HK1.out; have := HJ12.out; omega
           case rel => exact ⟨(t314), (wrap64 (x8_1 - a1)), (t310), (t313), (.slice Ao52 t310.length co52), (by first | rfl | (simp; done) | (simp [*]; done)), (by first | rfl | (simp; done) | (simp [*]; done)), H', ⟨by have := HK1.out; have := HJ12.out; omega⟩, ⟨by (with_reducible repeat (first | apply jq | apply jj | apply jw)); exact yv (Kd.R_far (p := ⟨gb296, 1, none⟩) (Kd.R_far (p := ⟨gb296, 0, none⟩) (Kd.R_types HO_6.out BK296.out (by decide)) (fun _ hk => hk.2) (.slice Ao52 t310.length co52)) (fun _ hk => hk.2) (.int .i64 t313)) (fun _ hk => hk.1)⟩, ⟨Kd.R_V (by (with_reducible repeat (first | apply jq | apply jj | apply jw)); exact yv (Kd.R_far (p := ⟨gb296, 1, none⟩) (Kd.R_far (p := ⟨gb296, 0, none⟩) (Kd.R_types (Kd.R_types (Kd.R_types (vk HO312.out (Kd.R_typed HO_6.out) (by decide)) BK287.out (by decide)) BK296.out (by decide)) BK296.out (by decide)) (fun _ hk => hk.2) (.slice Ao52 t310.length co52)) (fun _ hk => hk.2) (.int .i64 t313)) (fun _ hk => ⟨hk.1.1.1.1.1.1, ⟨hk.1.1.1.2, ⟨hk.1.1.2, hk.1.2⟩⟩⟩))⟩, ⟨by (with_reducible repeat (first | refine qq ?_ _ | refine qj ?_ | refine qz ?_ _)); refine blk_far ?_ NB287_296.out _; (with_reducible repeat (first | refine qq ?_ _ | refine qj ?_ | refine qz ?_ _)); refine blk_far ?_ NB287_296.out _; (with_reducible repeat (first | refine qq ?_ _ | refine qj ?_ | refine qz ?_ _)); exact BK287.out⟩, ⟨by (with_reducible repeat (first | refine qq ?_ _ | refine qj ?_ | refine qz ?_ _)); refine qk (cs := #[.slice Ao52 t310.length co52, .int .i64 t308]) ?_ 1 _ rfl; (with_reducible repeat (first | refine qq ?_ _ | refine qj ?_ | refine qz ?_ _)); refine qk (cs := #[.slice Ao46 t305.length co46, .int .i64 t308]) ?_ 0 _ rfl; (with_reducible repeat (first | refine qq ?_ _ | refine qj ?_ | refine qz ?_ _)); exact BK296.out⟩, ⟨by repeat (with_reducible first | exact HB.out | apply zj | apply zq | apply zw | refine zx ?_ GE287.out | refine zx ?_ GE296.out)⟩⟩
         ·rw [if_neg c29] at H
          exact absurd H (by simp)
        ·rw [if_neg c28] at H
         exact absurd H (by simp)
       ·rw [if_neg c27] at H
        exact absurd H (by simp)
    ·rw [if_neg c12] at H
     have c12b0 : decide (0 ≤ x8_1) = false := decide_eq_false c12
     clear c12
     simp only [Option.some.injEq, Prod.mk.injEq] at H
     obtain ⟨rfl, rfl⟩ := H
     have hnb54 := NB296_287.out
     have hnc54 := NB287_296.out
     have hcz55_0 : wr.cell? ⟨gb296, 0, none⟩ = some (u297000) := (qw BK296.out 0).trans rfl
     have hcz55_1 : wr.cell? ⟨gb296, 1, none⟩ = some (.int .i64 x297001_1) := (qw BK296.out 1).trans rfl
     have hfz55_0 := qx BK296.out 0
     have hfz55_1 := qx BK296.out 1
     obtain ⟨Ao56, co56, eo56⟩ := Kd.V_slice HO_297000.out
     subst eo56
     have hcz57_0 : wr.cell? ⟨gb287, 0, none⟩ = some (.slice none 0 0) := (qw BK287.out 0).trans rfl
     have hcz57_1 : wr.cell? ⟨gb287, 1, none⟩ = some (.int .i64 0) := (qw BK287.out 1).trans rfl
     have hfz57_0 := qx BK287.out 0
     have hfz57_1 := qx BK287.out 1
     go_wp2
     refine bodyPost_ret (results_cell_row rfl _ _ gb287 32 #[.slice Ao56 x297000_1.length co56, .int .i64 x7_1] (0, 0) _ rfl (by (with_reducible repeat (first | refine qq ?_ _ | refine qj ?_ | refine qz ?_ _)); refine qk (cs := #[.slice Ao56 x297000_1.length co56, .int .i64 0]) ?_ 1 _ rfl; (with_reducible repeat (first | refine qq ?_ _ | refine qj ?_ | refine qz ?_ _)); refine qk (cs := #[.slice none 0 0, .int .i64 0]) ?_ 0 _ rfl; (with_reducible repeat (first | refine qq ?_ _ | refine qj ?_ | refine qz ?_ _)); refine blk_far ?_ NB287_296.out _; (with_reducible repeat (first | refine qq ?_ _ | refine qj ?_ | refine qz ?_ _)); exact BK287.out) Try.underlying32 rfl (by kernel_rfl)) rfl ?_
     exact ⟨_, by first | rfl | (simp <;> rfl) | (simp [*] <;> rfl), by (with_reducible repeat (first | apply Kd.V_alloc | apply Kd.V_drewN | apply Kd.V_drew)); exact Kd.V_mono (Kd.V_far (p := ⟨gb287, 1, none⟩) (Kd.V_far (p := ⟨gb287, 0, none⟩) (Kd.V_far (p := ⟨gb296, 1, none⟩) (Kd.V_mono (Kd.V_mono HO_297000.out (fun k_ hk => (⟨hk, hk.2.2.2⟩ : _ ∧ k_ ≠ gb296))) (fun k_ hk => (⟨hk, hk.1.2.2.1⟩ : _ ∧ k_ ≠ gb287))) (fun _ hk => hk.1.2) (.int .i64 x7_1)) (fun _ hk => hk.2) (.slice Ao56 x297000_1.length co56)) (fun _ hk => hk.2) (.int .i64 x7_1)) (fun _ hk => hk.1.1.1), by repeat (with_reducible first | exact HB.out | apply zj | apply zq | apply zw | refine zx ?_ GE287.out | refine zx ?_ GE296.out)⟩
end Go.Proofs.Ytlmoemahamneoaa.PFnSchemesAgree
