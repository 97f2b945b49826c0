-- Written by gprint.py, a program of this session, out of the translation (a changed print).
import Derived.Test.YtlmoemahamneoaaPFnSchemesAgreex0
import Derived.Test.YtlmoemahamneoaaPFnSchemesAgreex9
namespace Go.Proofs.Ytlmoemahamneoaa.PFnSchemesAgree
open Go.RowKit Go.Proofs.YtlmoemahamneoaaW.PrintWords Go.Proofs.YtlmoemahamneoaaW.PrintLast Go.Proofs.YtlmoemahamneoaaW.PrintMore
open Go.Proofs.YtlmoemahamneoaaW.PrintWords.Aside0 renaming mk → zz
open Go.Proofs.YtlmoemahamneoaaW.PrintWords renaming pw_below_drewN → zq, below_alloc → zj, below_drew1 → zw, below_set → zx, below_step → zk, below_size → zv, blk_alloc → qz, blk_drewN → qq, blk_drew → qj, blk_cell → qw, blk_frozen → qx, blk_put → qk, blk_below → qv
open List renaming setIfInBounds_toArray → jz, set_cons_zero → yq, set_cons_succ → yj, map_toArray → yw, length_drop → yx, length_take → yk
open Go.World renaming block_lt_of_cell? → jq
open Go.Proofs.YtlmoemahamneoaaW.PrintWords.Kd renaming R_alloc → jj, R_drewN → jw, R_drew → jx, C_alloc → jk, C_drewN → jv, C_drew → yz, R_mono → yv, R_reads' → vz, R_slice → vq, R_base → kw, R_lt → kv
open Go.Proofs.YtlmoemahamneoaaW.PrintWords.LeO renaming bind → vj
open Go.Proofs.YtlmoemahamneoaaW.PrintLast renaming any_of → vw, take_ofW → vx, one_of → vk, norm_ → vv, i64_w → kz, i32_w → kj
attribute [local go_sem] max2_int min2_int max_two min_two max_three min_three max_four min_four
set_option linter.unusedVariables false
set_option linter.unusedSimpArgs false
def spec_poGroup.l0 : Nat → List Int → List Int → Int → Int → List (S109) → Int → Option ((List (S109)) × Int × Int)
 | 0, _, _, _, _, _, _ => none
 | k + 1, x1, x2, x9, x10, x275000, x275001 => if x10 < (x1.length : Int) then (if 0 ≤ (wrap64 (x10 - 1)) then (if (wrap64 (x10 - 1)) < (x2.length : Int) then (if 0 ≤ x10 then ((spec_poAdd.f x275000 x275001 2 (rd x2 (wrap64 (x10 - 1))) (rd x1 x10)).bind fun bt277 => ((spec_poAdd.f bt277.1 bt277.2.1 1 x9 bt277.2.2).bind fun bt282 => (spec_poGroup.l0 k x1 x2 bt282.2.2 (wrap64 (x10 + 1)) bt282.1 bt282.2.1))) else (none)) else (none)) else (none)) else (some (x275000, x275001, x9))
def spec_poGroup.f (k : Nat) (l0_0 : List (S109)) (a0_1 : Int) (l1 : List Int) (l2 : List Int) : Option ((List (S109)) × Int × Int) := if 0 < (l1.length : Int) then ((spec_poAdd.f l0_0 a0_1 0 (rd l1 0) 0).bind fun bt269 => (spec_poGroup.l0 k l1 l2 bt269.2.2 1 bt269.1 bt269.2.1)) else (none)
theorem spec_poGroup.mono_l : ∀ k, (∀ y0 y1 y2 y3 y4 y5, LeO (spec_poGroup.l0 k y0 y1 y2 y3 y4 y5) (spec_poGroup.l0 (k + 1) y0 y1 y2 y3 y4 y5))
 | 0 => fun _ _ _ _ _ _ r h => by simp [spec_poGroup.l0] at h
 | k + 1 => by
  have ih0 := spec_poGroup.mono_l k
  ·intro y0 y1 y2 y3 y4 y5
   unfold spec_poGroup.l0
   repeat' with_reducible first
   | exact ih0 _ _ _ _ _ _
   | exact LeO.refl _
   | exact LeO.none _
   | refine LeO.ite ?_ ?_
   | refine vj ?_ (fun _ => ?_)
theorem spec_poGroup.mono : ∀ a0 a1 a2 a3 k, LeO (spec_poGroup.f k a0 a1 a2 a3) (spec_poGroup.f (k + 1) a0 a1 a2 a3) := by
 intro a0 a1 a2 a3 k
 have ih0 := spec_poGroup.mono_l k
 unfold spec_poGroup.f
 repeat' with_reducible first
   | exact ih0 _ _ _ _ _ _
   | exact LeO.refl _
   | exact LeO.none _
   | refine LeO.ite ?_ ?_
   | refine vj ?_ (fun _ => ?_)
def spec_poGroup.T1 : Bool × List (List Nat × List Nat) := (true, [([], []), ([], []), ([1], [1]), ([2], [2]), ([0, 3], [0, 3]), ([4], [4]), ([5], [5]), ([5], [5]), ([], []), ([8, 6, 4, 0, 1, 2, 3, 4, 5, 6, 8], [6, 8]), ([7, 9, 0, 1, 2, 3, 4, 5, 6, 7, 8, 9], [7])])
def spec_poGroup.B1 : List Nat := [0, 0, 2, 6, 15, 31, 63, 63, 0, 383, 1023]
theorem spec_poGroup.tab1 : rtab .any (opsOf Try.f192 1) = spec_poGroup.T1 := by kernel_rfl
theorem spec_poGroup.bits1 : waitsOk spec_poGroup.T1.2 spec_poGroup.B1 = true := by kernel_rfl
def spec_poGroup.T6 : Bool × List (List Nat × List Nat) := (true, [([], []), ([], []), ([], []), ([2], [2]), ([1, 3], [1, 3]), ([4], [4]), ([], []), ([], []), ([6, 7], [6, 7]), ([8], [8]), ([0, 5, 9], [0, 5, 9]), ([10], [10]), ([11], [11]), ([11], [11]), ([12, 10, 0, 1, 2, 3, 4, 5, 6, 7, 8, 9, 10, 11, 12], [12]), ([13, 14, 0, 1, 2, 3, 4, 5, 6, 7, 8, 9, 10, 11, 12, 13, 14], [13])])
def spec_poGroup.B6 : List Nat := [0, 0, 0, 4, 14, 30, 0, 0, 192, 448, 1023, 2047, 4095, 4095, 8191, 32767]
theorem spec_poGroup.tab6 : rtab .any (opsOf Try.f192 6) = spec_poGroup.T6 := by kernel_rfl
theorem spec_poGroup.bits6 : waitsOk spec_poGroup.T6.2 spec_poGroup.B6 = true := by kernel_rfl
set_option maxHeartbeats 8000000 in
set_option maxRecDepth 100000 in
theorem spec_poGroup.calls (k : Nat) (A0_0 : Option Addr) (c0_0 : Nat) (l0_0 : List (S109)) (a0_1 : Int) (A1 : Option Addr) (c1 : Nat) (l1 : List Int) (A2 : Option Addr) (c2 : Nat) (l2 : List Int) (r1 : List (S109)) (r2 : Int) (r3 : Int) (w : World) (hr0_0 : Kd.C k109 w A0_0 l0_0.length l0_0) (hc0_0 : l0_0.length ≤ c0_0) (hr1 : Kd.C (Kd.int .i64) w A1 l1.length l1) (hc1 : l1.length ≤ c1) (hr2 : Kd.C (Kd.int .i64) w A2 l2.length l2) (hc2 : l2.length ≤ c2) (h : spec_poGroup.f k l0_0 a0_1 l1 l2 = some (r1, r2, r3)) :
  Calls Try.prog 192 #[.agg #[.slice A0_0 l0_0.length c0_0, .int .i64 a0_1], .slice A1 l1.length c1, .slice A2 l2.length c2] w fun e w' => ∃ v0_ : Value, e = .returned (.tuple #[.agg #[v0_, .int .i64 r2], .int .i64 r3]) ∧ Kd.R k109 109 w' w.heap.size (fun _ => True) v0_ r1 ∧ Below w.heap.size w w' := by
 have hu32 := Try.underlying32
 have HR0_0 := zz hr0_0
 have HC0_0 := zz hc0_0
 clear hr0_0 hc0_0
 have HR1 := zz hr1
 have HC1 := zz hc1
 clear hr1 hc1
 have HR2 := zz hr2
 have HC2 := zz hc2
 clear hr2 hc2
 have HB := zz (Below.refl w.heap.size w)
 have H : (if 0 < (l1.length : Int) then ((spec_poAdd.f l0_0 a0_1 0 (rd l1 0) 0).bind fun bt269 => (spec_poGroup.l0 k l1 l2 bt269.2.2 1 bt269.1 bt269.2.1)) else (none)) = some (r1, r2, r3) := h
 clear h
 by_cases c4 : 0 < (l1.length : Int)
 ·rw [if_pos c4] at H
  have c4b0 : decide (0 < (l1.length : Int)) = true := decide_eq_true c4
  have c4b1 : decide (0 < l1.length) = true := decide_eq_true (by omega)
  clear c4
  replace H := Option.bind_eq_some_iff.mp H
  obtain ⟨⟨t269, t272, t273⟩, A50, H⟩ := H
  replace H : (spec_poGroup.l0 k l1 l2 t273 1 t269 t272) = some (r1, r2, r3) := H
  have A5 := zz A50
  clear A50
  have H' := zz H
  clear H
  go_enter Try.func192, Try.ntmps192
  try go_wp2_with (first | ((with_reducible refine gate_dst (N := 3) rfl ?_); refine box_event ?hg (N := 3) ?hd (cs := #[.slice A0_0 l0_0.length c0_0, .int .i64 a0_1]) (t := 32) ?hr ?_; (case hd => rfl); (case hg => rfl); (case hr => first | (go_simp; done) | (go_simp; rfl)); intro gb266 hg w6 hbox hb; have n0_ := zz (zk (by repeat (with_reducible first | exact HB.out | apply zj | apply zq | apply zw)) hb); have n1_ := zz (hbox); have n2_ := zz ((by rw [hg]; exact (zv (by repeat (with_reducible first | exact HB.out | apply zj | apply zq | apply zw))) : w.heap.size ≤ gb266)); have n3_ := zz ((by rw [hg]; exact (zv (by repeat (with_reducible first | exact HB.out | apply zj | apply zq | apply zw))) : w.heap.size ≤ gb266)); clear HB; have HB := n0_; have BK266 := n1_; have GW266 := n2_; have GE266 := n3_; clear n0_ n1_ n2_ n3_; clear hb hbox hg) | ((with_reducible refine gate_dst (N := 6) rfl ?_); refine box_event ?hg (N := 6) ?hd (cs := #[.slice none 0 0, .int .i64 0]) (t := 32) ?hr ?_; (case hd => rfl); (case hg => rfl); (case hr => first | (go_simp; done) | (go_simp; rfl)); intro gb267 hg w7 hbox hb; have n0_ := zz (qv (g := gb266) (o := .cells #[.slice A0_0 l0_0.length c0_0, .int .i64 a0_1] 32 (0, 0)) (by (with_reducible repeat (first | refine qq ?_ _ | refine qj ?_ | refine qz ?_ _)); exact BK266.out) hb); have n1_ := zz (zk (by repeat (with_reducible first | exact HB.out | apply zj | apply zq | apply zw | refine zx ?_ GE266.out)) hb); have n2_ := zz (hbox); have n3_ := zz ((by rw [hg]; exact (zv (by repeat (with_reducible first | exact HB.out | apply zj | apply zq | apply zw | refine zx ?_ GE266.out))) : w.heap.size ≤ gb267)); have n4_ := zz ((by rw [hg]; exact (zv (by repeat (with_reducible first | exact HB.out | apply zj | apply zq | apply zw | refine zx ?_ GE266.out))) : w.heap.size ≤ gb267)); have n5_ := zz ((by rw [hg]; exact Nat.ne_of_lt (blk_lt (g := gb266) (o := .cells #[.slice A0_0 l0_0.length c0_0, .int .i64 a0_1] 32 (0, 0)) (by (with_reducible repeat (first | refine qq ?_ _ | refine qj ?_ | refine qz ?_ _)); exact BK266.out)) : gb266 ≠ gb267)); have n6_ := zz ((by rw [hg]; exact Nat.ne_of_gt (blk_lt (g := gb266) (o := .cells #[.slice A0_0 l0_0.length c0_0, .int .i64 a0_1] 32 (0, 0)) (by (with_reducible repeat (first | refine qq ?_ _ | refine qj ?_ | refine qz ?_ _)); exact BK266.out)) : gb267 ≠ gb266)); clear BK266; clear HB; have BK266 := n0_; have HB := n1_; have BK267 := n2_; have GW267 := n3_; have GE267 := n4_; have NB266_267 := n5_; have NB267_266 := n6_; clear n0_ n1_ n2_ n3_ n4_ n5_ n6_; clear hb hbox hg))
  have n0_ := zz (qj BK266.out)
  have n1_ := zz (qj BK267.out)
  have n2_ := zz (zw HB.out)
  clear BK266
  clear BK267
  clear HB
  have BK266 := n0_
  have BK267 := n1_
  have HB := n2_
  clear n0_ n1_ n2_
  have p268 : 0 ≤ (0 : Int) := (by omega)
  have q268 : 0 < (l1.length : Int) := of_decide_eq_true (by with_reducible assumption)
  obtain ⟨ad268, e268, hx268_0⟩ := Kd.at_int HR1.out 0 p268 q268
  have hw268_0 := hx268_0
  (try rw [show ((0 : Int)).toNat = 0 from rfl] at hw268_0)
  (try rw [show 0 * 1 = 0 from rfl] at hw268_0)
  (try rw [Addr.add_zero'] at hw268_0)
  cases e268
  have qi268 : (0 < l1.length) = True := eq_true (by omega)
  (try rw [show ((0 : Int)).toNat = 0 from rfl] at hx268_0)
  (try rw [Addr.add_zero'] at hx268_0)
  replace hx268_0 := (HB.out.cell (jq w _ hx268_0)).trans hx268_0
  replace p268 := eq_true p268
  replace q268 := eq_true q268
  refine start_ (n := 11) (S := fun w' => w'.cell? ⟨gb266, 0, none⟩ = some (.slice A0_0 l0_0.length c0_0) ∧ w'.cell? ⟨gb266, 1, none⟩ = some (.int .i64 a0_1) ∧ w'.cell? ad268 = some (.int .i64 (rd l1 0))) (ds := []) #[false, false, false, false, false, false, false, false, false, false, false] (by kernel_rfl) rfl rfl ⟨(qw BK266.out 0).trans rfl, (qw BK266.out 1).trans rfl, ((HB.out.cell (jq w _ hw268_0)).trans hw268_0)⟩ (fun hHeld => ?_); refine with_tabW spec_poGroup.tab1 spec_poGroup.bits1 (fun HT_ HW_ => ?_)
  generalize w7.drew = w8 at BK266 BK267 HB hx268_0 hHeld ⊢
  refine pure_ (i := 1) (N := some 14) (v := ?_) (a' := ?_) #[false, true, false, false, false, false, false, false, false, false, false] rfl rfl (vw HT_.out (by kernel_rfl)) (fun _ _ _ h => h) (Or.inl ⟨by rfl, ?_⟩) ?_ ?_
  rotate_left
  ·intro w'
   go_simp
   with_reducible rfl
  rotate_left
  ·simp only [Act.put, jz, yq, yj, kz, kj]
   rfl
  refine pure_ (i := 2) (N := some 15) (v := ?_) (a' := ?_) #[false, true, true, false, false, false, false, false, false, false, false] rfl rfl (vw HT_.out (by kernel_rfl)) (fun _ _ _ h => h) (Or.inl ⟨by rfl, ?_⟩) ?_ ?_
  rotate_left
  ·intro w'
   go_simp
   with_reducible rfl
  rotate_left
  ·simp only [Act.put, jz, yq, yj, kz, kj]
   rfl
  refine take_ (i := 0) (N := some 13) (v := ?_) (a' := ?_) #[true, true, true, false, false, false, false, false, false, false, false] rfl rfl (vx HT_.out HW_.out (by kernel_rfl)) (fun _ _ _ h => h) (Or.inl ⟨by rfl, ?_⟩) hHeld ?_ ?_
  rotate_left
  ·rintro w' ⟨s0, s1, s2⟩
   go_simp
   with_reducible rfl
  rotate_left
  ·simp only [Act.put, jz, yq, yj, kz, kj]
   rfl
  refine take_ (i := 3) (N := some 16) (v := ?_) (a' := ?_) #[true, true, true, true, false, false, false, false, false, false, false] rfl rfl (vx HT_.out HW_.out (by kernel_rfl)) (fun _ _ _ h => h) (Or.inl ⟨by rfl, ?_⟩) hHeld ?_ ?_
  rotate_left
  ·rintro w' ⟨s0, s1, s2⟩
   go_simp
   with_reducible rfl
  rotate_left
  ·simp only [Act.put, jz, yq, yj, kz, kj]
   rfl
  refine join_ (σ := Value × Nat) 2 #[true, true, true, true, true, true, true, true, true, false, false] (fun s_ => [(17, .tuple #[.agg #[s_.1, .int .i64 t272], .int .i64 t273]), (8, .pointer (some ⟨s_.2, 0, none⟩)), (12, .tuple #[.agg #[s_.1, .int .i64 t272], .int .i64 t273]), (18, .agg #[s_.1, .int .i64 t272]), (19, .int .i64 t273)]) (fun s_ w' => (w'.cell? ⟨gb266, 0, none⟩ = some (.slice A0_0 l0_0.length c0_0) ∧ w'.cell? ⟨gb266, 1, none⟩ = some (.int .i64 a0_1) ∧ w'.cell? ad268 = some (.int .i64 (rd l1 0))) ∧ (Kd.R k109 109 w' w.heap.size (fun _ => True) s_.1 t269) ∧ (w'.heap[gb266]? = some (.cells #[.slice A0_0 l0_0.length c0_0, .int .i64 a0_1] 32 (0, 0))) ∧ (w'.heap[gb267]? = some (.cells #[.slice none 0 0, .int .i64 0] 32 (0, 0))) ∧ (w'.heap[s_.2]? = some (.cells #[.slice none 0 0, .int .i64 0] 32 (0, 0))) ∧ (w.heap.size ≤ s_.2) ∧ (w.heap.size ≤ s_.2) ∧ (gb266 ≠ s_.2) ∧ (s_.2 ≠ gb266) ∧ (gb267 ≠ s_.2) ∧ (s_.2 ≠ gb267) ∧ (Below w.heap.size w w')) ?_ ?_
  rotate_left
  ·intro hCont
   refine two_ (i := 4) (j := 8) (Ni := some 17) (Nj := some 8) #[true, true, true, true, true, false, false, false, false, false, false] #[true, true, true, true, false, false, false, false, true, false, false] rfl rfl rfl rfl (two_of HT_.out (by kernel_rfl)) (by decide) (by decide) (fun K hK => ?_) (fun K hK => ?_)
   ·skip
    refine goes_ Try.func130 (by kernel_rfl) rfl #[.agg #[.slice A0_0 l0_0.length c0_0, .int .i64 a0_1], .int .i64 0, .int .i64 (rd l1 0), .int .i64 0] (by rfl) rfl rfl (by (try simp only [yw, List.map_cons, List.map_nil]); first | done | rfl) ?_
    with_reducible refine (spec_poAdd.calls _ _ l0_0 a0_1 0 (rd l1 0) 0 t269 t272 t273 _ ?side1 ?side2 A5.out).mono ?_
    (case side1 => repeat (first | exact (Kd.C_below HR0_0.out HB.out) | (with_reducible refine jk ?_ _) | (with_reducible refine jv ?_ _) | (with_reducible refine yz ?_)))
    (case side2 => exact HC0_0.out)
    rintro e w9 ⟨v270, rfl, ho0, hb⟩
    refine ⟨_, rfl, ?_⟩
    have n0_ := zz (Kd.R_lower ho0 (zv (by repeat (with_reducible first | exact HB.out | apply zj | apply zq | apply zw | refine zx ?_ GE266.out | refine zx ?_ GE267.out))))
    have n1_ := zz (qv (g := gb266) (o := .cells #[.slice A0_0 l0_0.length c0_0, .int .i64 a0_1] 32 (0, 0)) (by (with_reducible repeat (first | refine qq ?_ _ | refine qj ?_ | refine qz ?_ _)); exact BK266.out) hb)
    have n2_ := zz (qv (g := gb267) (o := .cells #[.slice none 0 0, .int .i64 0] 32 (0, 0)) (by (with_reducible repeat (first | refine qq ?_ _ | refine qj ?_ | refine qz ?_ _)); exact BK267.out) hb)
    have n3_ := zz (zk (by repeat (with_reducible first | exact HB.out | apply zj | apply zq | apply zw | refine zx ?_ GE266.out | refine zx ?_ GE267.out)) hb)
    clear BK266
    clear BK267
    clear HB
    have HO271 := n0_
    have BK266 := n1_
    have BK267 := n2_
    have HB := n3_
    clear n0_ n1_ n2_ n3_
    (try clear hb)
    (try clear hb2)
    (try clear hk)
    (try clear hi)
    (try clear ho0)
    refine hK.out _ _ ⟨(qw BK266.out 0).trans rfl, (qw BK266.out 1).trans rfl, ((HB.out.cell (jq w _ hw268_0)).trans hw268_0)⟩ (fun hHeld => ?_)
    clear hK K
    refine vv (a' := ?_) ?_ ?_
    rotate_left
    ·show Act.put _ (some 17) _ = _
     simp only [Act.put, jz, yq, yj, kz, kj]
     rfl
    refine pure_ (i := 5) (N := some 12) (v := ?_) (a' := ?_) #[true, true, true, true, true, true, false, false, false, false, false] rfl rfl (vw HT_.out (by kernel_rfl)) (fun _ _ _ h => h) (Or.inl ⟨by rfl, ?_⟩) ?_ ?_
    rotate_left
    ·intro w'
     go_simp
     with_reducible rfl
    rotate_left
    ·simp only [Act.put, jz, yq, yj, kz, kj]
     rfl
    refine pure_ (i := 6) (N := some 18) (v := ?_) (a' := ?_) #[true, true, true, true, true, true, true, false, false, false, false] rfl rfl (vw HT_.out (by kernel_rfl)) (fun _ _ _ h => h) (Or.inl ⟨by rfl, ?_⟩) ?_ ?_
    rotate_left
    ·intro w'
     go_simp
     with_reducible rfl
    rotate_left
    ·simp only [Act.put, jz, yq, yj, kz, kj]
     rfl
    refine pure_ (i := 7) (N := some 19) (v := ?_) (a' := ?_) #[true, true, true, true, true, true, true, true, false, false, false] rfl rfl (vw HT_.out (by kernel_rfl)) (fun _ _ _ h => h) (Or.inl ⟨by rfl, ?_⟩) ?_ ?_
    rotate_left
    ·intro w'
     go_simp
     with_reducible rfl
    rotate_left
    ·simp only [Act.put, jz, yq, yj, kz, kj]
     rfl
    refine one_ (i := 8) (N := some 8) #[true, true, true, true, true, true, true, true, true, false, false] rfl rfl (vk HT_.out (by kernel_rfl)) (by decide) (fun K hK => ?_)
    refine box_step ?hg (N := 8) ?hd (cs := #[.slice none 0 0, .int .i64 0]) (t := 32) ?hr ?_; (case hd => rfl); (case hg => rfl); (case hr => first | (go_simp; done) | (go_simp; rfl))
    intro gb274 hg w10 hbox hb
    have n0_ := zz (Kd.R_below (by (with_reducible repeat (first | apply jj | apply jw | apply jx)); exact HO271.out) hb)
    have n1_ := zz (qv (g := gb266) (o := .cells #[.slice A0_0 l0_0.length c0_0, .int .i64 a0_1] 32 (0, 0)) (by (with_reducible repeat (first | refine qq ?_ _ | refine qj ?_ | refine qz ?_ _)); exact BK266.out) hb)
    have n2_ := zz (qv (g := gb267) (o := .cells #[.slice none 0 0, .int .i64 0] 32 (0, 0)) (by (with_reducible repeat (first | refine qq ?_ _ | refine qj ?_ | refine qz ?_ _)); exact BK267.out) hb)
    have n3_ := zz (zk (by repeat (with_reducible first | exact HB.out | apply zj | apply zq | apply zw | refine zx ?_ GE266.out | refine zx ?_ GE267.out)) hb)
    have n4_ := zz (hbox)
    have n5_ := zz ((by rw [hg]; exact (zv (by repeat (with_reducible first | exact HB.out | apply zj | apply zq | apply zw | refine zx ?_ GE266.out | refine zx ?_ GE267.out))) : w.heap.size ≤ gb274))
    have n6_ := zz ((by rw [hg]; exact (zv (by repeat (with_reducible first | exact HB.out | apply zj | apply zq | apply zw | refine zx ?_ GE266.out | refine zx ?_ GE267.out))) : w.heap.size ≤ gb274))
    have n7_ := zz ((by rw [hg]; exact Nat.ne_of_lt (blk_lt (g := gb266) (o := .cells #[.slice A0_0 l0_0.length c0_0, .int .i64 a0_1] 32 (0, 0)) (by (with_reducible repeat (first | refine qq ?_ _ | refine qj ?_ | refine qz ?_ _)); exact BK266.out)) : gb266 ≠ gb274))
    have n8_ := zz ((by rw [hg]; exact Nat.ne_of_gt (blk_lt (g := gb266) (o := .cells #[.slice A0_0 l0_0.length c0_0, .int .i64 a0_1] 32 (0, 0)) (by (with_reducible repeat (first | refine qq ?_ _ | refine qj ?_ | refine qz ?_ _)); exact BK266.out)) : gb274 ≠ gb266))
    have n9_ := zz ((by rw [hg]; exact Nat.ne_of_lt (blk_lt (g := gb267) (o := .cells #[.slice none 0 0, .int .i64 0] 32 (0, 0)) (by (with_reducible repeat (first | refine qq ?_ _ | refine qj ?_ | refine qz ?_ _)); exact BK267.out)) : gb267 ≠ gb274))
    have n10_ := zz ((by rw [hg]; exact Nat.ne_of_gt (blk_lt (g := gb267) (o := .cells #[.slice none 0 0, .int .i64 0] 32 (0, 0)) (by (with_reducible repeat (first | refine qq ?_ _ | refine qj ?_ | refine qz ?_ _)); exact BK267.out)) : gb274 ≠ gb267))
    clear HO271
    clear BK266
    clear BK267
    clear HB
    have HO271 := n0_
    have BK266 := n1_
    have BK267 := n2_
    have HB := n3_
    have BK274 := n4_
    have GW274 := n5_
    have GE274 := n6_
    have NB266_274 := n7_
    have NB274_266 := n8_
    have NB267_274 := n9_
    have NB274_267 := n10_
    clear n0_ n1_ n2_ n3_ n4_ n5_ n6_ n7_ n8_ n9_ n10_
    clear hb hbox hg
    refine hK.out _ _ ⟨(qw BK266.out 0).trans rfl, (qw BK266.out 1).trans rfl, ((HB.out.cell (jq w _ hw268_0)).trans hw268_0)⟩ (fun hHeld => ?_)
    clear hK K
    refine vv (a' := ?_) ?_ ?_
    rotate_left
    ·show Act.put _ (some 8) _ = _
     simp only [Act.put, jz, yq, yj, kz, kj]
     rfl
    exact vv (by simp only [putAll, Act.put, jz, yq, yj]) (hCont (v270, gb274) _ ⟨hHeld, (by (with_reducible repeat (first | apply jj | apply jw | apply jx)); exact HO271.out), (by (with_reducible repeat (first | refine qq ?_ _ | refine qj ?_ | refine qz ?_ _)); exact BK266.out), (by (with_reducible repeat (first | refine qq ?_ _ | refine qj ?_ | refine qz ?_ _)); exact BK267.out), (by (with_reducible repeat (first | refine qq ?_ _ | refine qj ?_ | refine qz ?_ _)); exact BK274.out), GW274.out, GE274.out, NB266_274.out, NB274_266.out, NB267_274.out, NB274_267.out, (by repeat (with_reducible first | exact HB.out | apply zj | apply zq | apply zw | refine zx ?_ GE266.out | refine zx ?_ GE267.out | refine zx ?_ GE274.out))⟩)
   ·skip
    refine box_step ?hg (N := 8) ?hd (cs := #[.slice none 0 0, .int .i64 0]) (t := 32) ?hr ?_; (case hd => rfl); (case hg => rfl); (case hr => first | (go_simp; done) | (go_simp; rfl))
    intro gb274 hg w9 hbox hb
    have n0_ := zz (qv (g := gb266) (o := .cells #[.slice A0_0 l0_0.length c0_0, .int .i64 a0_1] 32 (0, 0)) (by (with_reducible repeat (first | refine qq ?_ _ | refine qj ?_ | refine qz ?_ _)); exact BK266.out) hb)
    have n1_ := zz (qv (g := gb267) (o := .cells #[.slice none 0 0, .int .i64 0] 32 (0, 0)) (by (with_reducible repeat (first | refine qq ?_ _ | refine qj ?_ | refine qz ?_ _)); exact BK267.out) hb)
    have n2_ := zz (zk (by repeat (with_reducible first | exact HB.out | apply zj | apply zq | apply zw | refine zx ?_ GE266.out | refine zx ?_ GE267.out)) hb)
    have n3_ := zz (hbox)
    have n4_ := zz ((by rw [hg]; exact (zv (by repeat (with_reducible first | exact HB.out | apply zj | apply zq | apply zw | refine zx ?_ GE266.out | refine zx ?_ GE267.out))) : w.heap.size ≤ gb274))
    have n5_ := zz ((by rw [hg]; exact (zv (by repeat (with_reducible first | exact HB.out | apply zj | apply zq | apply zw | refine zx ?_ GE266.out | refine zx ?_ GE267.out))) : w.heap.size ≤ gb274))
    have n6_ := zz ((by rw [hg]; exact Nat.ne_of_lt (blk_lt (g := gb266) (o := .cells #[.slice A0_0 l0_0.length c0_0, .int .i64 a0_1] 32 (0, 0)) (by (with_reducible repeat (first | refine qq ?_ _ | refine qj ?_ | refine qz ?_ _)); exact BK266.out)) : gb266 ≠ gb274))
    have n7_ := zz ((by rw [hg]; exact Nat.ne_of_gt (blk_lt (g := gb266) (o := .cells #[.slice A0_0 l0_0.length c0_0, .int .i64 a0_1] 32 (0, 0)) (by (with_reducible repeat (first | refine qq ?_ _ | refine qj ?_ | refine qz ?_ _)); exact BK266.out)) : gb274 ≠ gb266))
    have n8_ := zz ((by rw [hg]; exact Nat.ne_of_lt (blk_lt (g := gb267) (o := .cells #[.slice none 0 0, .int .i64 0] 32 (0, 0)) (by (with_reducible repeat (first | refine qq ?_ _ | refine qj ?_ | refine qz ?_ _)); exact BK267.out)) : gb267 ≠ gb274))
    have n9_ := zz ((by rw [hg]; exact Nat.ne_of_gt (blk_lt (g := gb267) (o := .cells #[.slice none 0 0, .int .i64 0] 32 (0, 0)) (by (with_reducible repeat (first | refine qq ?_ _ | refine qj ?_ | refine qz ?_ _)); exact BK267.out)) : gb274 ≠ gb267))
    clear BK266
    clear BK267
    clear HB
    have BK266 := n0_
    have BK267 := n1_
    have HB := n2_
    have BK274 := n3_
    have GW274 := n4_
    have GE274 := n5_
    have NB266_274 := n6_
    have NB274_266 := n7_
    have NB267_274 := n8_
    have NB274_267 := n9_
    clear n0_ n1_ n2_ n3_ n4_ n5_ n6_ n7_ n8_ n9_
    clear hb hbox hg
    refine hK.out _ _ ⟨(qw BK266.out 0).trans rfl, (qw BK266.out 1).trans rfl, ((HB.out.cell (jq w _ hw268_0)).trans hw268_0)⟩ (fun hHeld => ?_)
    clear hK K
    refine vv (a' := ?_) ?_ ?_
    rotate_left
    ·show Act.put _ (some 8) _ = _
     simp only [Act.put, jz, yq, yj, kz, kj]
     rfl
    refine one_ (i := 4) (N := some 17) #[true, true, true, true, true, false, false, false, true, false, false] rfl rfl (vk HT_.out (by kernel_rfl)) (by decide) (fun K hK => ?_)
    refine goes_ Try.func130 (by kernel_rfl) rfl #[.agg #[.slice A0_0 l0_0.length c0_0, .int .i64 a0_1], .int .i64 0, .int .i64 (rd l1 0), .int .i64 0] (by rfl) rfl rfl (by (try simp only [yw, List.map_cons, List.map_nil]); first | done | rfl) ?_
    with_reducible refine (spec_poAdd.calls _ _ l0_0 a0_1 0 (rd l1 0) 0 t269 t272 t273 _ ?side1 ?side2 A5.out).mono ?_
    (case side1 => repeat (first | exact (Kd.C_below HR0_0.out HB.out) | (with_reducible refine jk ?_ _) | (with_reducible refine jv ?_ _) | (with_reducible refine yz ?_)))
    (case side2 => exact HC0_0.out)
    rintro e w10 ⟨v270, rfl, ho0, hb⟩
    refine ⟨_, rfl, ?_⟩
    have n0_ := zz (Kd.R_lower ho0 (zv (by repeat (with_reducible first | exact HB.out | apply zj | apply zq | apply zw | refine zx ?_ GE266.out | refine zx ?_ GE267.out | refine zx ?_ GE274.out))))
    have n1_ := zz (qv (g := gb266) (o := .cells #[.slice A0_0 l0_0.length c0_0, .int .i64 a0_1] 32 (0, 0)) (by (with_reducible repeat (first | refine qq ?_ _ | refine qj ?_ | refine qz ?_ _)); exact BK266.out) hb)
    have n2_ := zz (qv (g := gb267) (o := .cells #[.slice none 0 0, .int .i64 0] 32 (0, 0)) (by (with_reducible repeat (first | refine qq ?_ _ | refine qj ?_ | refine qz ?_ _)); exact BK267.out) hb)
    have n3_ := zz (qv (g := gb274) (o := .cells #[.slice none 0 0, .int .i64 0] 32 (0, 0)) (by (with_reducible repeat (first | refine qq ?_ _ | refine qj ?_ | refine qz ?_ _)); exact BK274.out) hb)
    have n4_ := zz (zk (by repeat (with_reducible first | exact HB.out | apply zj | apply zq | apply zw | refine zx ?_ GE266.out | refine zx ?_ GE267.out | refine zx ?_ GE274.out)) hb)
    clear BK266
    clear BK267
    clear BK274
    clear HB
    have HO271 := n0_
    have BK266 := n1_
    have BK267 := n2_
    have BK274 := n3_
    have HB := n4_
    clear n0_ n1_ n2_ n3_ n4_
    (try clear hb)
    (try clear hb2)
    (try clear hk)
    (try clear hi)
    (try clear ho0)
    refine hK.out _ _ ⟨(qw BK266.out 0).trans rfl, (qw BK266.out 1).trans rfl, ((HB.out.cell (jq w _ hw268_0)).trans hw268_0)⟩ (fun hHeld => ?_)
    clear hK K
    refine vv (a' := ?_) ?_ ?_
    rotate_left
    ·show Act.put _ (some 17) _ = _
     simp only [Act.put, jz, yq, yj, kz, kj]
     rfl
    refine pure_ (i := 5) (N := some 12) (v := ?_) (a' := ?_) #[true, true, true, true, true, true, false, false, true, false, false] rfl rfl (vw HT_.out (by kernel_rfl)) (fun _ _ _ h => h) (Or.inl ⟨by rfl, ?_⟩) ?_ ?_
    rotate_left
    ·intro w'
     go_simp
     with_reducible rfl
    rotate_left
    ·simp only [Act.put, jz, yq, yj, kz, kj]
     rfl
    refine pure_ (i := 6) (N := some 18) (v := ?_) (a' := ?_) #[true, true, true, true, true, true, true, false, true, false, false] rfl rfl (vw HT_.out (by kernel_rfl)) (fun _ _ _ h => h) (Or.inl ⟨by rfl, ?_⟩) ?_ ?_
    rotate_left
    ·intro w'
     go_simp
     with_reducible rfl
    rotate_left
    ·simp only [Act.put, jz, yq, yj, kz, kj]
     rfl
    refine pure_ (i := 7) (N := some 19) (v := ?_) (a' := ?_) #[true, true, true, true, true, true, true, true, true, false, false] rfl rfl (vw HT_.out (by kernel_rfl)) (fun _ _ _ h => h) (Or.inl ⟨by rfl, ?_⟩) ?_ ?_
    rotate_left
    ·intro w'
     go_simp
     with_reducible rfl
    rotate_left
    ·simp only [Act.put, jz, yq, yj, kz, kj]
     rfl
    exact vv (by simp only [putAll, Act.put, jz, yq, yj]) (hCont (v270, gb274) _ ⟨hHeld, (by (with_reducible repeat (first | apply jj | apply jw | apply jx)); exact HO271.out), (by (with_reducible repeat (first | refine qq ?_ _ | refine qj ?_ | refine qz ?_ _)); exact BK266.out), (by (with_reducible repeat (first | refine qq ?_ _ | refine qj ?_ | refine qz ?_ _)); exact BK267.out), (by (with_reducible repeat (first | refine qq ?_ _ | refine qj ?_ | refine qz ?_ _)); exact BK274.out), GW274.out, GE274.out, NB266_274.out, NB274_266.out, NB267_274.out, NB274_267.out, (by repeat (with_reducible first | exact HB.out | apply zj | apply zq | apply zw | refine zx ?_ GE266.out | refine zx ?_ GE267.out | refine zx ?_ GE274.out))⟩)
  rintro ⟨v270, gb274⟩ w11 ⟨hS_, h0_, h1_, h2_, h3_, h4_, h5_, h6_, h7_, h8_, h9_, h10_⟩
  have n0_ : Aside0 (Kd.R k109 109 w11 w.heap.size (fun _ => True) v270 t269) := ⟨h0_⟩
  have n1_ : Aside0 (w11.heap[gb266]? = some (.cells #[.slice A0_0 l0_0.length c0_0, .int .i64 a0_1] 32 (0, 0))) := ⟨h1_⟩
  have n2_ : Aside0 (w11.heap[gb267]? = some (.cells #[.slice none 0 0, .int .i64 0] 32 (0, 0))) := ⟨h2_⟩
  have n3_ : Aside0 (w11.heap[gb274]? = some (.cells #[.slice none 0 0, .int .i64 0] 32 (0, 0))) := ⟨h3_⟩
  have n4_ : Aside0 (w.heap.size ≤ gb274) := ⟨h4_⟩
  have n5_ : Aside0 (w.heap.size ≤ gb274) := ⟨h5_⟩
  have n6_ : Aside0 (gb266 ≠ gb274) := ⟨h6_⟩
  have n7_ : Aside0 (gb274 ≠ gb266) := ⟨h7_⟩
  have n8_ : Aside0 (gb267 ≠ gb274) := ⟨h8_⟩
  have n9_ : Aside0 (gb274 ≠ gb267) := ⟨h9_⟩
  have n10_ : Aside0 (Below w.heap.size w w11) := ⟨h10_⟩
  clear BK266
  clear BK267
  clear HB
  clear h0_ h1_ h2_ h3_ h4_ h5_ h6_ h7_ h8_ h9_ h10_
  have HO271 := n0_
  have BK266 := n1_
  have BK267 := n2_
  have BK274 := n3_
  have GW274 := n4_
  have GE274 := n5_
  have NB266_274 := n6_
  have NB274_266 := n7_
  have NB267_274 := n8_
  have NB274_267 := n9_
  have HB := n10_
  clear n0_ n1_ n2_ n3_ n4_ n5_ n6_ n7_ n8_ n9_ n10_
  have hHeld : w11.cell? ⟨gb266, 0, none⟩ = some (.slice A0_0 l0_0.length c0_0) ∧ w11.cell? ⟨gb266, 1, none⟩ = some (.int .i64 a0_1) ∧ w11.cell? ad268 = some (.int .i64 (rd l1 0)) := hS_
  obtain ⟨Ao12, co12, eo12⟩ := vq HO271.out
  (first | subst eo12 | (injection eo12 with f1_ f2_ f3_; have f4_ := f1_.symm; have f5_ := f3_.symm; clear f1_ f2_ f3_; subst f4_; subst f5_))
  refine vv (a' := ?_) ?_ ?_
  rotate_left
  ·simp only [putAll, Act.put, jz, yq, yj]
   rfl
  refine one_ (i := 9) (N := none) #[true, true, true, true, true, true, true, true, true, true, false] rfl rfl (vk HT_.out (by kernel_rfl)) (by decide) (fun K hK => ?_)
  have hs13 : w11.cell? ⟨gb274, 0, none⟩ = some (.slice none 0 0) := (qw BK274.out 0).trans rfl
  have hfs13 := qx BK274.out 0
  have hns13_0 := NB266_274.out
  have hns13_1 := NB267_274.out
  have hms13_0 := NB274_266.out
  have hms13_1 := NB274_267.out
  have hs14 : w11.cell? ⟨gb274, 1, none⟩ = some (.int .i64 0) := (qw BK274.out 1).trans rfl
  have hfs14 := qx BK274.out 1
  have hns14_0 := NB266_274.out
  have hns14_1 := NB267_274.out
  have hms14_0 := NB274_266.out
  have hms14_1 := NB274_267.out
  refine skip_ (w1 := ?_) (by rfl) rfl ?_ ?_
  rotate_left
  ·go_simp
   rfl
  refine hK.out _ _ ⟨((cell_far (p := ⟨gb274, _, none⟩) NB266_274.out _).trans (((cell_far (p := ⟨gb274, _, none⟩) NB266_274.out _).trans (hHeld.1)))), ((cell_far (p := ⟨gb274, _, none⟩) NB266_274.out _).trans (((cell_far (p := ⟨gb274, _, none⟩) NB266_274.out _).trans (hHeld.2.1)))), ((cell_far (p := ⟨gb274, _, none⟩) (by first | exact Nat.ne_of_lt (Nat.lt_of_lt_of_le (by have := jq _ _ hw268_0; first | rwa [add_block] at this | exact this) GW274.out) | (rw [add_block]; exact Nat.ne_of_lt (Nat.lt_of_lt_of_le (by have := jq _ _ hw268_0; first | rwa [add_block] at this | exact this) GW274.out)) | (show (Addr.add _ _).block ≠ _; rw [add_block]; exact Nat.ne_of_lt (Nat.lt_of_lt_of_le (by have := jq _ _ hw268_0; first | rwa [add_block] at this | exact this) GW274.out)) | (dsimp only; exact Nat.ne_of_lt (Nat.lt_of_lt_of_le (by have := jq _ _ hw268_0; first | rwa [add_block] at this | exact this) GW274.out))) _).trans (((cell_far (p := ⟨gb274, _, none⟩) (by first | exact Nat.ne_of_lt (Nat.lt_of_lt_of_le (by have := jq _ _ hw268_0; first | rwa [add_block] at this | exact this) GW274.out) | (rw [add_block]; exact Nat.ne_of_lt (Nat.lt_of_lt_of_le (by have := jq _ _ hw268_0; first | rwa [add_block] at this | exact this) GW274.out)) | (show (Addr.add _ _).block ≠ _; rw [add_block]; exact Nat.ne_of_lt (Nat.lt_of_lt_of_le (by have := jq _ _ hw268_0; first | rwa [add_block] at this | exact this) GW274.out)) | (dsimp only; exact Nat.ne_of_lt (Nat.lt_of_lt_of_le (by have := jq _ _ hw268_0; first | rwa [add_block] at this | exact this) GW274.out))) _).trans (hHeld.2.2))))⟩ (fun hHeld => ?_)
  clear hK K
  refine pure_ (i := 10) (N := some 9) (v := ?_) (a' := ?_) #[true, true, true, true, true, true, true, true, true, true, true] rfl rfl (vw HT_.out (by kernel_rfl)) (fun _ _ _ h => h) (Or.inl ⟨by rfl, ?_⟩) ?_ ?_
  rotate_left
  ·intro w'
   go_simp
   with_reducible rfl
  rotate_left
  ·simp only [Act.put, jz, yq, yj, kz, kj]
   rfl
  refine done_ (done_of HT_.out (by kernel_rfl)) ?_
  try go_wp2
  go_loopg [9, 10] k (fun kq v9 v10 w' => ∃ (x9_1 : Int) (x10_1 : Int) (x275000_1 : List (S109)) (x275001_1 : Int) (u275000 : Value), v9 = .int .i64 x9_1 ∧ v10 = .int .i64 x10_1 ∧ Aside0 (spec_poGroup.l0 kq l1 l2 x9_1 x10_1 x275000_1 x275001_1 = some (r1, r2, r3)) ∧ Aside0 (kq ≤ k) ∧ Aside0 (Kd.R k109 109 w' w.heap.size (fun _ => True) u275000 x275000_1) ∧ Aside0 (w'.heap[gb266]? = some (.cells #[(.slice A0_0 l0_0.length c0_0), .int .i64 a0_1] 32 (0, 0))) ∧ Aside0 (w'.heap[gb267]? = some (.cells #[(.slice none 0 0), .int .i64 0] 32 (0, 0))) ∧ Aside0 (w'.heap[gb274]? = some (.cells #[u275000, .int .i64 x275001_1] 32 (0, 0))) ∧ Aside0 (Below w.heap.size w w'))
  case atStart => exact ⟨(t273), (1), (t269), (t272), (.slice Ao12 t269.length co12), (by first | rfl | (simp; done) | (simp [*]; done)), (by first | rfl | (simp; done) | (simp [*]; done)), H', ⟨Nat.le_refl _⟩, ⟨by (with_reducible repeat (first | apply jj | apply jw | apply jx)); exact yv (Kd.R_far (p := ⟨gb274, 1, none⟩) (Kd.R_far (p := ⟨gb274, 0, none⟩) (Kd.R_types HO271.out BK274.out (by decide)) (fun _ hk => hk.2) (.slice Ao12 t269.length co12)) (fun _ hk => hk.2) (.int .i64 t272)) (fun _ hk => trivial)⟩, ⟨by (with_reducible repeat (first | refine qq ?_ _ | refine qj ?_ | refine qz ?_ _)); refine blk_far ?_ NB266_274.out _; (with_reducible repeat (first | refine qq ?_ _ | refine qj ?_ | refine qz ?_ _)); refine blk_far ?_ NB266_274.out _; (with_reducible repeat (first | refine qq ?_ _ | refine qj ?_ | refine qz ?_ _)); exact BK266.out⟩, ⟨by (with_reducible repeat (first | refine qq ?_ _ | refine qj ?_ | refine qz ?_ _)); refine blk_far ?_ NB267_274.out _; (with_reducible repeat (first | refine qq ?_ _ | refine qj ?_ | refine qz ?_ _)); refine blk_far ?_ NB267_274.out _; (with_reducible repeat (first | refine qq ?_ _ | refine qj ?_ | refine qz ?_ _)); exact BK267.out⟩, ⟨by (with_reducible repeat (first | refine qq ?_ _ | refine qj ?_ | refine qz ?_ _)); refine qk (cs := #[.slice Ao12 t269.length co12, .int .i64 0]) ?_ 1 _ rfl; (with_reducible repeat (first | refine qq ?_ _ | refine qj ?_ | refine qz ?_ _)); refine qk (cs := #[.slice none 0 0, .int .i64 0]) ?_ 0 _ rfl; (with_reducible repeat (first | refine qq ?_ _ | refine qj ?_ | refine qz ?_ _)); exact BK274.out⟩, ⟨by repeat (with_reducible first | exact HB.out | apply zj | apply zq | apply zw | refine zx ?_ GE266.out | refine zx ?_ GE267.out | refine zx ?_ GE274.out)⟩⟩
  case round =>
   clear H'
   try clear c1
   try clear c2
   try clear p2
   try clear q2
   try clear hx2
   try clear qi2
   try clear c4
   try clear c4b0
   try clear c4b1
   try clear c13
   try clear hx268_0
   try clear p268
   try clear q268
   obtain ⟨x9_1, x10_1, x275000_1, x275001_1, u275000, rfl, rfl, HA, HK1, HO_275000, BK266, BK267, BK274, HB⟩ := hrel
   cases gk with
   | zero => exact absurd HA.out (by simp [spec_poGroup.l0])
   | succ k1 =>
    have H := HA.out
    clear HA
    simp only [spec_poGroup.l0] at H
    by_cases c15 : x10_1 < (l1.length : Int)
    ·rw [if_pos c15] at H
     have c15b0 : decide (x10_1 < (l1.length : Int)) = true := decide_eq_true c15
     clear c15
     obtain ⟨ji16, hji16⟩ : ∃ j_ : Int, (wrap64 (x10_1 - 1)) = j_ := ⟨_, rfl⟩
     replace H : (if 0 ≤ (ji16) then (if (ji16) < (l2.length : Int) then (if 0 ≤ x10_1 then ((spec_poAdd.f x275000_1 x275001_1 2 (rd l2 (ji16)) (rd l1 x10_1)).bind fun bt277 => ((spec_poAdd.f bt277.1 bt277.2.1 1 x9_1 bt277.2.2).bind fun bt282 => (spec_poGroup.l0 k1 l1 l2 bt282.2.2 (wrap64 (x10_1 + 1)) bt282.1 bt282.2.1))) else (none)) else (none)) else (none)) = some (r1, r2, r3) := by first | (rw [hji16] at H; exact H) | (simp only [hji16] at H ⊢; exact H)
     have hji16w : (IntKind.i64.wrap (x10_1 - 1)) = ji16 := (kz _).trans hji16
     by_cases c17 : 0 ≤ (ji16)
     ·rw [if_pos c17] at H
      have c17b0 : decide (0 ≤ (ji16)) = true := decide_eq_true c17
      clear c17
      by_cases c18 : (ji16) < (l2.length : Int)
      ·rw [if_pos c18] at H
       have c18b0 : decide ((ji16) < (l2.length : Int)) = true := decide_eq_true c18
       clear c18
       by_cases c19 : 0 ≤ x10_1
       ·rw [if_pos c19] at H
        have c19b0 : decide (0 ≤ x10_1) = true := decide_eq_true c19
        clear c19
        replace H := Option.bind_eq_some_iff.mp H
        obtain ⟨⟨t277, t280, t281⟩, A200, H⟩ := H
        replace H : ((spec_poAdd.f t277 t280 1 x9_1 t281).bind fun bt282 => (spec_poGroup.l0 k1 l1 l2 bt282.2.2 (wrap64 (x10_1 + 1)) bt282.1 bt282.2.1)) = some (r1, r2, r3) := H
        have A20 := zz A200
        clear A200
        replace H := Option.bind_eq_some_iff.mp H
        obtain ⟨⟨t282, t285, t286⟩, A210, H⟩ := H
        replace H : (spec_poGroup.l0 k1 l1 l2 t286 (wrap64 (x10_1 + 1)) t282 t285) = some (r1, r2, r3) := H
        have A21 := zz A210
        clear A210
        have H' := zz H
        clear H
        try go_wp2
        have n0_ := zz (jx HO_275000.out)
        have n1_ := zz (qj BK266.out)
        have n2_ := zz (qj BK267.out)
        have n3_ := zz (qj BK274.out)
        have n4_ := zz (zw HB.out)
        clear HO_275000
        clear BK266
        clear BK267
        clear BK274
        clear HB
        have HO_275000 := n0_
        have BK266 := n1_
        have BK267 := n2_
        have BK274 := n3_
        have HB := n4_
        clear n0_ n1_ n2_ n3_ n4_
        have p275 : 0 ≤ ((ji16) : Int) := of_decide_eq_true (by with_reducible assumption)
        have q275 : (ji16) < (l2.length : Int) := of_decide_eq_true (by with_reducible assumption)
        obtain ⟨ad275, e275, hx275_0⟩ := Kd.at_int HR2.out (ji16) p275 q275
        have hw275_0 := hx275_0
        cases e275
        replace hx275_0 := (HB.out.cell (jq w _ hx275_0)).trans hx275_0
        replace p275 := eq_true p275
        replace q275 := eq_true q275
        have p276 : 0 ≤ (x10_1 : Int) := of_decide_eq_true (by with_reducible assumption)
        have q276 : x10_1 < (l1.length : Int) := of_decide_eq_true (by with_reducible assumption)
        obtain ⟨ad276, e276, hx276_0⟩ := Kd.at_int HR1.out x10_1 p276 q276
        have hw276_0 := hx276_0
        obtain rfl : ad268 = ad276 := (by injection e276)
        replace hx276_0 := (HB.out.cell (jq w _ hx276_0)).trans hx276_0
        replace p276 := eq_true p276
        replace q276 := eq_true q276
        obtain ⟨Ao23, co23, eo23⟩ := vq HO_275000.out
        (first | subst eo23 | (injection eo23 with f1_ f2_ f3_; have f4_ := f1_.symm; have f5_ := f3_.symm; clear f1_ f2_ f3_; subst f4_; subst f5_))
        refine start_ (n := 16) (S := fun w' => w'.cell? ⟨gb274, 0, none⟩ = some (.slice Ao23 x275000_1.length co23) ∧ w'.cell? ⟨gb274, 1, none⟩ = some (.int .i64 x275001_1) ∧ w'.cell? (ad275.add ((ji16)).toNat) = some (.int .i64 (rd l2 (ji16))) ∧ w'.cell? (ad268.add (x10_1).toNat) = some (.int .i64 (rd l1 x10_1))) (ds := [14]) #[false, false, false, false, false, false, false, false, false, false, false, false, false, false, false, false] (by kernel_rfl) rfl rfl ⟨(qw BK274.out 0).trans rfl, (qw BK274.out 1).trans rfl, ((HB.out.cell (jq w _ hw275_0)).trans hw275_0), ((HB.out.cell (jq w _ hw276_0)).trans hw276_0)⟩ (fun hHeld => ?_); refine with_tabW spec_poGroup.tab6 spec_poGroup.bits6 (fun HT_ HW_ => ?_)
        generalize wr.drew = w22 at HO_275000 BK266 BK267 BK274 HB hx275_0 hx276_0 hHeld ⊢
        refine pure_ (i := 1) (N := some 28) (v := ?_) (a' := ?_) #[false, true, false, false, false, false, false, false, false, false, false, false, false, false, false, false] rfl rfl (vw HT_.out (by kernel_rfl)) (fun _ _ _ h => h) (Or.inl ⟨by rfl, ?_⟩) ?_ ?_
        rotate_left
        ·intro w'
         go_simp
         with_reducible rfl
        rotate_left
        ·simp only [Act.put, jz, yq, yj, kz, kj]
         rfl
        refine pure_ (i := 2) (N := some 29) (v := ?_) (a' := ?_) #[false, true, true, false, false, false, false, false, false, false, false, false, false, false, false, false] rfl rfl (vw HT_.out (by kernel_rfl)) (fun _ _ _ h => h) (Or.inl ⟨by rfl, ?_⟩) ?_ ?_
        rotate_left
        ·intro w'
         go_simp
         with_reducible rfl
        rotate_left
        ·simp only [Act.put, jz, yq, yj, kz, kj]
         rfl
        refine pure_ (i := 3) (N := some 30) (v := ?_) (a' := ?_) #[false, true, true, true, false, false, false, false, false, false, false, false, false, false, false, false] rfl rfl (vw HT_.out (by kernel_rfl)) (fun _ _ _ h => h) (Or.inl ⟨by rfl, ?_⟩) ?_ ?_
        rotate_left
        ·intro w'
         go_simp
         with_reducible rfl
        rotate_left
        ·simp only [Act.put, jz, yq, yj, kz, kj]
         rfl
        refine pure_ (i := 4) (N := some 31) (v := ?_) (a' := ?_) #[false, true, true, true, true, false, false, false, false, false, false, false, false, false, false, false] rfl rfl (vw HT_.out (by kernel_rfl)) (fun _ _ _ h => h) (Or.inl ⟨by rfl, ?_⟩) ?_ ?_
        rotate_left
        ·intro w'
         go_simp
         with_reducible rfl
        rotate_left
        ·simp only [Act.put, jz, yq, yj, kz, kj]
         rfl
        refine pure_ (i := 6) (N := some 33) (v := ?_) (a' := ?_) #[false, true, true, true, true, false, true, false, false, false, false, false, false, false, false, false] rfl rfl (vw HT_.out (by kernel_rfl)) (fun _ _ _ h => h) (Or.inl ⟨by rfl, ?_⟩) ?_ ?_
        rotate_left
        ·intro w'
         go_simp
         with_reducible rfl
        rotate_left
        ·simp only [Act.put, jz, yq, yj, kz, kj]
         rfl
        refine pure_ (i := 7) (N := some 34) (v := ?_) (a' := ?_) #[false, true, true, true, true, false, true, true, false, false, false, false, false, false, false, false] rfl rfl (vw HT_.out (by kernel_rfl)) (fun _ _ _ h => h) (Or.inl ⟨by rfl, ?_⟩) ?_ ?_
        rotate_left
        ·intro w'
         go_simp
         with_reducible rfl
        rotate_left
        ·simp only [Act.put, jz, yq, yj, kz, kj]
         rfl
        refine pure_ (i := 8) (N := some 35) (v := ?_) (a' := ?_) #[false, true, true, true, true, false, true, true, true, false, false, false, false, false, false, false] rfl rfl (vw HT_.out (by kernel_rfl)) (fun _ _ _ h => h) (Or.inl ⟨by rfl, ?_⟩) ?_ ?_
        rotate_left
        ·intro w'
         go_simp
         with_reducible rfl
        rotate_left
        ·simp only [Act.put, jz, yq, yj, kz, kj]
         rfl
        refine take_ (i := 0) (N := some 27) (v := ?_) (a' := ?_) #[true, true, true, true, true, false, true, true, true, false, false, false, false, false, false, false] rfl rfl (vx HT_.out HW_.out (by kernel_rfl)) (fun _ _ _ h => h) (Or.inl ⟨by rfl, ?_⟩) hHeld ?_ ?_
        rotate_left
        ·rintro w' ⟨s0, s1, s2, s3⟩
         go_simp
         with_reducible rfl
        rotate_left
        ·simp only [Act.put, jz, yq, yj, kz, kj]
         rfl
        refine take_ (i := 5) (N := some 32) (v := ?_) (a' := ?_) #[true, true, true, true, true, true, true, true, true, false, false, false, false, false, false, false] rfl rfl (vx HT_.out HW_.out (by kernel_rfl)) (fun _ _ _ h => h) (Or.inl ⟨by rfl, ?_⟩) hHeld ?_ ?_
        rotate_left
        ·rintro w' ⟨s0, s1, s2, s3⟩
         go_simp
         with_reducible rfl
        rotate_left
        ·simp only [Act.put, jz, yq, yj, kz, kj]
         rfl
        refine take_ (i := 9) (N := some 36) (v := ?_) (a' := ?_) #[true, true, true, true, true, true, true, true, true, true, false, false, false, false, false, false] rfl rfl (vx HT_.out HW_.out (by kernel_rfl)) (fun _ _ _ h => h) (Or.inl ⟨by rfl, ?_⟩) hHeld ?_ ?_
        rotate_left
        ·rintro w' ⟨s0, s1, s2, s3⟩
         go_simp
         with_reducible rfl
        rotate_left
        ·simp only [Act.put, jz, yq, yj, kz, kj]
         rfl
        refine one_ (i := 10) (N := some 37) #[true, true, true, true, true, true, true, true, true, true, true, false, false, false, false, false] rfl rfl (vk HT_.out (by kernel_rfl)) (by decide) (fun K hK => ?_)
        refine goes_ Try.func130 (by kernel_rfl) rfl #[.agg #[.slice Ao23 x275000_1.length co23, .int .i64 x275001_1], .int .i64 2, .int .i64 (rd l2 (ji16)), .int .i64 (rd l1 x10_1)] (by rfl) rfl rfl (by (try simp only [yw, List.map_cons, List.map_nil]); first | done | (simp only [hji16]; rfl) | rfl | (simp only [yx, yk]; rfl)) ?_
        with_reducible refine (spec_poAdd.calls _ _ x275000_1 x275001_1 2 (rd l2 (ji16)) (rd l1 x10_1) t277 t280 t281 _ ?side1 ?side2 A20.out).mono ?_
        (case side1 => repeat (first | exact (vz HO_275000.out).2.2 | (with_reducible refine jk ?_ _) | (with_reducible refine jv ?_ _) | (with_reducible refine yz ?_)))
        (case side2 => exact (vz HO_275000.out).2.1)
        rintro e w24 ⟨v278, rfl, ho0, hb⟩
        refine ⟨_, rfl, ?_⟩
        have n0_ := zz (Kd.R_elder' (by (with_reducible repeat (first | apply jj | apply jw | apply jx)); exact HO_275000.out) (kw ho0) hb)
        have n1_ := zz (Kd.R_lower (Kd.R_new' ho0 (kv (by (with_reducible repeat (first | apply jj | apply jw | apply jx)); exact HO_275000.out))) (zv (by repeat (with_reducible first | exact HB.out | apply zj | apply zq | apply zw | refine zx ?_ GE266.out | refine zx ?_ GE267.out | refine zx ?_ GE274.out))))
        have n2_ := zz (qv (g := gb266) (o := .cells #[.slice A0_0 l0_0.length c0_0, .int .i64 a0_1] 32 (0, 0)) (by (with_reducible repeat (first | refine qq ?_ _ | refine qj ?_ | refine qz ?_ _)); exact BK266.out) hb)
        have n3_ := zz (qv (g := gb267) (o := .cells #[.slice none 0 0, .int .i64 0] 32 (0, 0)) (by (with_reducible repeat (first | refine qq ?_ _ | refine qj ?_ | refine qz ?_ _)); exact BK267.out) hb)
        have n4_ := zz (qv (g := gb274) (o := .cells #[.slice Ao23 x275000_1.length co23, .int .i64 x275001_1] 32 (0, 0)) (by (with_reducible repeat (first | refine qq ?_ _ | refine qj ?_ | refine qz ?_ _)); exact BK274.out) hb)
        have n5_ := zz (zk (by repeat (with_reducible first | exact HB.out | apply zj | apply zq | apply zw | refine zx ?_ GE266.out | refine zx ?_ GE267.out | refine zx ?_ GE274.out)) hb)
        clear HO_275000
        clear BK266
        clear BK267
        clear BK274
        clear HB
        have HO_275000 := n0_
        have HO279 := n1_
        have BK266 := n2_
        have BK267 := n3_
        have BK274 := n4_
        have HB := n5_
        clear n0_ n1_ n2_ n3_ n4_ n5_
        (try clear hb)
        (try clear hb2)
        (try clear hk)
        (try clear hi)
        (try clear ho0)
        obtain ⟨Ao25, co25, eo25⟩ := vq HO279.out
        (first | subst eo25 | (injection eo25 with f1_ f2_ f3_; have f4_ := f1_.symm; have f5_ := f3_.symm; clear f1_ f2_ f3_; subst f4_; subst f5_))
        refine hK.out _ _ ⟨(qw BK274.out 0).trans rfl, (qw BK274.out 1).trans rfl, ((HB.out.cell (jq w _ hw275_0)).trans hw275_0), ((HB.out.cell (jq w _ hw276_0)).trans hw276_0)⟩ (fun hHeld => ?_)
        clear hK K
        refine vv (a' := ?_) ?_ ?_
        rotate_left
        ·show Act.put _ (some 37) _ = _
         simp only [Act.put, jz, yq, yj, kz, kj]
         rfl
        refine pure_ (i := 11) (N := some 26) (v := ?_) (a' := ?_) #[true, true, true, true, true, true, true, true, true, true, true, true, false, false, false, false] rfl rfl (vw HT_.out (by kernel_rfl)) (fun _ _ _ h => h) (Or.inl ⟨by rfl, ?_⟩) ?_ ?_
        rotate_left
        ·intro w'
         go_simp
         with_reducible rfl
        rotate_left
        ·simp only [Act.put, jz, yq, yj, kz, kj]
         rfl
        refine pure_ (i := 12) (N := some 38) (v := ?_) (a' := ?_) #[true, true, true, true, true, true, true, true, true, true, true, true, true, false, false, false] rfl rfl (vw HT_.out (by kernel_rfl)) (fun _ _ _ h => h) (Or.inl ⟨by rfl, ?_⟩) ?_ ?_
        rotate_left
        ·intro w'
         go_simp
         with_reducible rfl
        rotate_left
        ·simp only [Act.put, jz, yq, yj, kz, kj]
         rfl
        refine pure_ (i := 13) (N := some 39) (v := ?_) (a' := ?_) #[true, true, true, true, true, true, true, true, true, true, true, true, true, true, false, false] rfl rfl (vw HT_.out (by kernel_rfl)) (fun _ _ _ h => h) (Or.inl ⟨by rfl, ?_⟩) ?_ ?_
        rotate_left
        ·intro w'
         go_simp
         with_reducible rfl
        rotate_left
        ·simp only [Act.put, jz, yq, yj, kz, kj]
         rfl
        refine last_ (i := 14) (N := none) #[true, true, true, true, true, true, true, true, true, true, true, true, true, true, true, false] rfl rfl (vk HT_.out (by kernel_rfl)) (by decide) (fun K hK => ?_)
        have hs26 : w24.cell? ⟨gb274, 0, none⟩ = some (.slice Ao23 x275000_1.length co23) := (qw BK274.out 0).trans rfl
        have hfs26 := qx BK274.out 0
        have hns26_0 := NB266_274.out
        have hns26_1 := NB267_274.out
        have hms26_0 := NB274_266.out
        have hms26_1 := NB274_267.out
        have hs27 : w24.cell? ⟨gb274, 1, none⟩ = some (.int .i64 x275001_1) := (qw BK274.out 1).trans rfl
        have hfs27 := qx BK274.out 1
        have hns27_0 := NB266_274.out
        have hns27_1 := NB267_274.out
        have hms27_0 := NB274_266.out
        have hms27_1 := NB274_267.out
        refine skip_ (w1 := ?_) (by rfl) rfl ?_ ?_
        rotate_left
        ·go_simp
         rfl
        refine hK.out _ _ ?_
        clear hK K
        refine pure_ (i := 15) (N := some 11) (v := ?_) (a' := ?_) #[true, true, true, true, true, true, true, true, true, true, true, true, true, true, true, true] rfl rfl (vw HT_.out (by kernel_rfl)) (fun _ _ _ h => h) (Or.inl ⟨by rfl, ?_⟩) ?_ ?_
        rotate_left
        ·intro w'
         go_simp
         with_reducible rfl
        rotate_left
        ·simp only [Act.put, jz, yq, yj, kz, kj]
         rfl
        refine done_ (done_of HT_.out (by kernel_rfl)) ?_
        have hnb28 := NB274_266.out
        have hnc28 := NB266_274.out
        have hnb29 := NB274_267.out
        have hnc29 := NB267_274.out
        have hcz30_0 : w24.cell? ⟨gb274, 0, none⟩ = some (.slice Ao23 x275000_1.length co23) := (qw BK274.out 0).trans rfl
        have hcz30_1 : w24.cell? ⟨gb274, 1, none⟩ = some (.int .i64 x275001_1) := (qw BK274.out 1).trans rfl
        have hfz30_0 := qx BK274.out 0
        have hfz30_1 := qx BK274.out 1
        try go_wp2_with (first | ((with_reducible refine gate_callee (f := 130) rfl ?_); refine goesL_ (some 44) rfl rfl Try.func130 (by kernel_rfl) rfl #[.agg #[.slice Ao25 t277.length co25, .int .i64 t280], .int .i64 1, .int .i64 x9_1, .int .i64 t281] rfl (by (try simp only [yw, List.map_cons, List.map_nil]); first | done | rfl) ?_; (with_reducible refine (spec_poAdd.calls _ _ t277 t280 1 x9_1 t281 t282 t285 t286 _ ?side1 ?side2 A21.out).mono ?_); (case side1 => refine (vz (e := 109) (base := w.heap.size) (ok := fun k_ => (True ∧ some k_ ≠ (.slice Ao23 x275000_1.length co23 : Value).ownBlock)) (n := t277.length) (c := co25) ?_).2.2; exact (by (with_reducible repeat (first | apply jj | apply jw | apply jx)); exact (yv (Kd.R_far (p := ⟨gb274, 1, none⟩) (Kd.R_far (p := ⟨gb274, 0, none⟩) (Kd.R_types HO279.out BK274.out (by decide)) (fun _ hk => hk.2) (.slice Ao25 t277.length co25)) (fun _ hk => hk.2) (.int .i64 t280)) (fun _ h_ => h_.1)))); (case side2 => exact (vz HO279.out).2.1); rintro e w31 ⟨v283, rfl, ho0, hb⟩; refine ⟨_, rfl, ?_⟩; have n0_ := zz (Kd.R_elder' (by (with_reducible repeat (first | apply jj | apply jw | apply jx)); exact (yv (Kd.R_far (p := ⟨gb274, 1, none⟩) (Kd.R_far (p := ⟨gb274, 0, none⟩) (Kd.R_types HO_275000.out BK274.out (by decide)) (fun _ hk => hk.2) (.slice Ao25 t277.length co25)) (fun _ hk => hk.2) (.int .i64 t280)) (fun _ h_ => h_.1))) (kw ho0) hb); have n1_ := zz (Kd.R_elder' (by (with_reducible repeat (first | apply jj | apply jw | apply jx)); exact (yv (Kd.R_far (p := ⟨gb274, 1, none⟩) (Kd.R_far (p := ⟨gb274, 0, none⟩) (Kd.R_types HO279.out BK274.out (by decide)) (fun _ hk => hk.2) (.slice Ao25 t277.length co25)) (fun _ hk => hk.2) (.int .i64 t280)) (fun _ h_ => h_.1))) (kw ho0) hb); have n2_ := zz (Kd.R_lower (Kd.R_new' (Kd.R_new' ho0 (kv (by (with_reducible repeat (first | apply jj | apply jw | apply jx)); exact (yv (Kd.R_far (p := ⟨gb274, 1, none⟩) (Kd.R_far (p := ⟨gb274, 0, none⟩) (Kd.R_types HO_275000.out BK274.out (by decide)) (fun _ hk => hk.2) (.slice Ao25 t277.length co25)) (fun _ hk => hk.2) (.int .i64 t280)) (fun _ h_ => h_.1))))) (kv (by (with_reducible repeat (first | apply jj | apply jw | apply jx)); exact (yv (Kd.R_far (p := ⟨gb274, 1, none⟩) (Kd.R_far (p := ⟨gb274, 0, none⟩) (Kd.R_types HO279.out BK274.out (by decide)) (fun _ hk => hk.2) (.slice Ao25 t277.length co25)) (fun _ hk => hk.2) (.int .i64 t280)) (fun _ h_ => h_.1))))) (zv (by repeat (with_reducible first | exact HB.out | apply zj | apply zq | apply zw | refine zx ?_ GE266.out | refine zx ?_ GE267.out | refine zx ?_ GE274.out)))); have n3_ := zz (qv (g := gb266) (o := .cells #[.slice A0_0 l0_0.length c0_0, .int .i64 a0_1] 32 (0, 0)) (by (with_reducible repeat (first | refine qq ?_ _ | refine qj ?_ | refine qz ?_ _)); refine blk_far ?_ NB266_274.out _; (with_reducible repeat (first | refine qq ?_ _ | refine qj ?_ | refine qz ?_ _)); refine blk_far ?_ NB266_274.out _; (with_reducible repeat (first | refine qq ?_ _ | refine qj ?_ | refine qz ?_ _)); exact BK266.out) hb); have n4_ := zz (qv (g := gb267) (o := .cells #[.slice none 0 0, .int .i64 0] 32 (0, 0)) (by (with_reducible repeat (first | refine qq ?_ _ | refine qj ?_ | refine qz ?_ _)); refine blk_far ?_ NB267_274.out _; (with_reducible repeat (first | refine qq ?_ _ | refine qj ?_ | refine qz ?_ _)); refine blk_far ?_ NB267_274.out _; (with_reducible repeat (first | refine qq ?_ _ | refine qj ?_ | refine qz ?_ _)); exact BK267.out) hb); have n5_ := zz (qv (g := gb274) (o := .cells #[.slice Ao25 t277.length co25, .int .i64 t280] 32 (0, 0)) (by (with_reducible repeat (first | refine qq ?_ _ | refine qj ?_ | refine qz ?_ _)); refine qk (cs := #[.slice Ao25 t277.length co25, .int .i64 x275001_1]) ?_ 1 _ rfl; (with_reducible repeat (first | refine qq ?_ _ | refine qj ?_ | refine qz ?_ _)); refine qk (cs := #[.slice Ao23 x275000_1.length co23, .int .i64 x275001_1]) ?_ 0 _ rfl; (with_reducible repeat (first | refine qq ?_ _ | refine qj ?_ | refine qz ?_ _)); exact BK274.out) hb); have n6_ := zz (zk (by repeat (with_reducible first | exact HB.out | apply zj | apply zq | apply zw | refine zx ?_ GE266.out | refine zx ?_ GE267.out | refine zx ?_ GE274.out)) hb); clear HO_275000; clear HO279; clear BK266; clear BK267; clear BK274; clear HB; have HO_275000 := n0_; have HO279 := n1_; have HO284 := n2_; have BK266 := n3_; have BK267 := n4_; have BK274 := n5_; have HB := n6_; clear n0_ n1_ n2_ n3_ n4_ n5_ n6_; (try clear hb); (try clear hi hk); (try clear ho0); obtain ⟨Ao32, co32, eo32⟩ := vq HO284.out; subst eo32; have hcz33_0 : w31.cell? ⟨gb274, 0, none⟩ = some (.slice Ao25 t277.length co25) := (qw BK274.out 0).trans rfl; have hcz33_1 : w31.cell? ⟨gb274, 1, none⟩ = some (.int .i64 t280) := (qw BK274.out 1).trans rfl; have hfz33_0 := qx BK274.out 0; have hfz33_1 := qx BK274.out 1))
        go_roundg k1
        case measure => have := HK1.out; omega
        case rel => exact ⟨(t286), (wrap64 (x10_1 + 1)), (t282), (t285), (.slice Ao32 t282.length co32), (by first | rfl | (simp; done) | (simp [*]; done)), (by first | rfl | (simp; done) | (simp [*]; done)), H', ⟨by have := HK1.out; omega⟩, ⟨by (with_reducible repeat (first | apply jj | apply jw | apply jx)); exact yv (Kd.R_far (p := ⟨gb274, 1, none⟩) (Kd.R_far (p := ⟨gb274, 0, none⟩) (Kd.R_types HO284.out BK274.out (by decide)) (fun _ hk => hk.2) (.slice Ao32 t282.length co32)) (fun _ hk => hk.2) (.int .i64 t285)) (fun _ hk => trivial)⟩, ⟨by (with_reducible repeat (first | refine qq ?_ _ | refine qj ?_ | refine qz ?_ _)); refine blk_far ?_ NB266_274.out _; (with_reducible repeat (first | refine qq ?_ _ | refine qj ?_ | refine qz ?_ _)); refine blk_far ?_ NB266_274.out _; (with_reducible repeat (first | refine qq ?_ _ | refine qj ?_ | refine qz ?_ _)); exact BK266.out⟩, ⟨by (with_reducible repeat (first | refine qq ?_ _ | refine qj ?_ | refine qz ?_ _)); refine blk_far ?_ NB267_274.out _; (with_reducible repeat (first | refine qq ?_ _ | refine qj ?_ | refine qz ?_ _)); refine blk_far ?_ NB267_274.out _; (with_reducible repeat (first | refine qq ?_ _ | refine qj ?_ | refine qz ?_ _)); exact BK267.out⟩, ⟨by (with_reducible repeat (first | refine qq ?_ _ | refine qj ?_ | refine qz ?_ _)); refine qk (cs := #[.slice Ao32 t282.length co32, .int .i64 t280]) ?_ 1 _ rfl; (with_reducible repeat (first | refine qq ?_ _ | refine qj ?_ | refine qz ?_ _)); refine qk (cs := #[.slice Ao25 t277.length co25, .int .i64 t280]) ?_ 0 _ rfl; (with_reducible repeat (first | refine qq ?_ _ | refine qj ?_ | refine qz ?_ _)); exact BK274.out⟩, ⟨by repeat (with_reducible first | exact HB.out | apply zj | apply zq | apply zw | refine zx ?_ GE266.out | refine zx ?_ GE267.out | refine zx ?_ GE274.out)⟩⟩
       ·rw [if_neg c19] at H
        exact absurd H (by simp)
      ·rw [if_neg c18] at H
       exact absurd H (by simp)
     ·rw [if_neg c17] at H
      exact absurd H (by simp)
    ·rw [if_neg c15] at H
     have c15b0 : decide (x10_1 < (l1.length : Int)) = false := decide_eq_false c15
     clear c15
     simp only [Option.some.injEq, Prod.mk.injEq] at H
     obtain ⟨rfl, rfl, rfl⟩ := H
     have hnb34 := NB274_266.out
     have hnc34 := NB266_274.out
     have hnb35 := NB274_267.out
     have hnc35 := NB267_274.out
     have hcz36_0 : wr.cell? ⟨gb274, 0, none⟩ = some (u275000) := (qw BK274.out 0).trans rfl
     have hcz36_1 : wr.cell? ⟨gb274, 1, none⟩ = some (.int .i64 x275001_1) := (qw BK274.out 1).trans rfl
     have hfz36_0 := qx BK274.out 0
     have hfz36_1 := qx BK274.out 1
     obtain ⟨Ao37, co37, eo37⟩ := vq HO_275000.out
     subst eo37
     have hnb38 := NB267_266.out
     have hnc38 := NB266_267.out
     have hcz39_0 : wr.cell? ⟨gb267, 0, none⟩ = some (.slice none 0 0) := (qw BK267.out 0).trans rfl
     have hcz39_1 : wr.cell? ⟨gb267, 1, none⟩ = some (.int .i64 0) := (qw BK267.out 1).trans rfl
     have hfz39_0 := qx BK267.out 0
     have hfz39_1 := qx BK267.out 1
     go_wp2
     refine bodyPost_ret (results_ct rfl _ _ gb267 32 #[.slice Ao37 x275000_1.length co37, .int .i64 x275001_1] (0, 0) _ rfl (by (with_reducible repeat (first | refine qq ?_ _ | refine qj ?_ | refine qz ?_ _)); refine qk (cs := #[.slice Ao37 x275000_1.length co37, .int .i64 0]) ?_ 1 _ rfl; (with_reducible repeat (first | refine qq ?_ _ | refine qj ?_ | refine qz ?_ _)); refine qk (cs := #[.slice none 0 0, .int .i64 0]) ?_ 0 _ rfl; (with_reducible repeat (first | refine qq ?_ _ | refine qj ?_ | refine qz ?_ _)); exact BK267.out) Try.underlying32 rfl (by kernel_rfl)) rfl ?_
     exact ⟨_, by first | rfl | (simp <;> rfl) | (simp [*] <;> rfl), by (with_reducible repeat (first | apply jj | apply jw | apply jx)); exact yv (Kd.R_far (p := ⟨gb267, 1, none⟩) (Kd.R_far (p := ⟨gb267, 0, none⟩) (Kd.R_types HO_275000.out BK267.out (by decide)) (fun _ hk => hk.2) (.slice Ao37 x275000_1.length co37)) (fun _ hk => hk.2) (.int .i64 x275001_1)) (fun _ hk => trivial), by repeat (with_reducible first | exact HB.out | apply zj | apply zq | apply zw | refine zx ?_ GE266.out | refine zx ?_ GE267.out | refine zx ?_ GE274.out)⟩
 ·rw [if_neg c4] at H
  exact absurd H (by simp)
end Go.Proofs.Ytlmoemahamneoaa.PFnSchemesAgree
