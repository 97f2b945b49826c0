-- Written by gprint.py, a program of this session, out of the translation (a changed print).
import Derived.Test.YtlmoemahamneoaaPFnSchemesAgreex0
import Derived.Test.YtlmoemahamneoaaPFnSchemesAgreex6
namespace Go.Proofs.Ytlmoemahamneoaa.PFnSchemesAgree
open Go.RowKit Go.Proofs.YtlmoemahamneoaaW.PrintWords Go.Proofs.YtlmoemahamneoaaW.PrintLast Go.Proofs.YtlmoemahamneoaaW.PrintMore
open Go.Proofs.YtlmoemahamneoaaW.PrintWords.Aside0 renaming mk → zz
open Go.Proofs.YtlmoemahamneoaaW.PrintWords renaming pw_below_drewN → zq, below_alloc → zj, below_drew1 → zw
open Go.World renaming block_lt_of_cell? → zx
open Go.Proofs.YtlmoemahamneoaaW.PrintWords.Kd renaming R_alloc → zk, R_drewN → zv, R_drew → qz, R_reads' → qq
open Go.Proofs.YtlmoemahamneoaaW.PrintWords.LeO renaming bind → qj, refl → qw
attribute [local go_sem] max2_int min2_int max_two min_two max_three min_three max_four min_four
set_option linter.unusedVariables false
set_option linter.unusedSimpArgs false
mutual
def spec_poProduct.j0 : Nat → List Int → List Int → Bool → Option (List Int)
 | 0, _, _, _ => none
 | k + 1, x0, x1, x17 => if x17 = true then (some ([] : List Int)) else (if 0 ≤ (wrap64 ((wrap64 ((x0.length : Int) + (x1.length : Int))) - 1)) then (if (wrap64 ((wrap64 ((x0.length : Int) + (x1.length : Int))) - 1) : Int).toNat ≤ 35184372088832 then (spec_poProduct.l0 k x1 (List.replicate (wrap64 ((wrap64 ((x0.length : Int) + (x1.length : Int))) - 1) : Int).toNat 0) x0 (x0.length : Int) 0) else (none)) else (none))
def spec_poProduct.l0 : Nat → List Int → List Int → List Int → Int → Int → Option (List Int)
 | 0, _, _, _, _, _ => none
 | k + 1, x1, x5, x25, x26, x27 => if x27 < x26 then (if 0 ≤ x27 then (if x27 < (x25.length : Int) then (spec_poProduct.l1 k x1 x5 x27 (rd x25 x27) x25 x26 x27 x1 (x1.length : Int) 0) else (none)) else (none)) else ((spec_poTrim.f k x5).bind fun t177 => (some t177))
def spec_poProduct.l1 : Nat → List Int → List Int → Int → Int → List Int → Int → Int → List Int → Int → Int → Option (List Int)
 | 0, _, _, _, _, _, _, _, _, _, _ => none
 | k + 1, x1, x5, x6, x7, x25, x26, x27, x32, x33, x34 => if x34 < x33 then (if 0 ≤ x34 then (if x34 < (x32.length : Int) then (if 0 ≤ (wrap64 (x6 + x34)) then (if (wrap64 (x6 + x34)) < (x5.length : Int) then (spec_poProduct.l1 k x1 (x5.set ((wrap64 (x6 + x34)) : Int).toNat (wrap64 ((rd x5 (wrap64 (x6 + x34))) + (wrap64 (x7 * (rd x32 x34)))))) x6 x7 x25 x26 x27 x32 x33 (wrap64 (x34 + 1))) else (none)) else (none)) else (none)) else (none)) else (spec_poProduct.l0 k x1 x5 x25 x26 (wrap64 (x27 + 1)))
end
def spec_poProduct.f (k : Nat) (l0 : List Int) (l1 : List Int) : Option (List Int) := if (l0.length : Int) = 0 then (spec_poProduct.j0 k l0 l1 true) else (spec_poProduct.j0 k l0 l1 ((l1.length : Int) == 0))
theorem spec_poProduct.mono_l : ∀ k, (∀ y0 y1 y2, LeO (spec_poProduct.j0 k y0 y1 y2) (spec_poProduct.j0 (k + 1) y0 y1 y2)) ∧ (∀ y0 y1 y2 y3 y4, LeO (spec_poProduct.l0 k y0 y1 y2 y3 y4) (spec_poProduct.l0 (k + 1) y0 y1 y2 y3 y4)) ∧ (∀ y0 y1 y2 y3 y4 y5 y6 y7 y8 y9, LeO (spec_poProduct.l1 k y0 y1 y2 y3 y4 y5 y6 y7 y8 y9) (spec_poProduct.l1 (k + 1) y0 y1 y2 y3 y4 y5 y6 y7 y8 y9))
 | 0 => ⟨fun _ _ _ r h => by simp [spec_poProduct.j0] at h, fun _ _ _ _ _ r h => by simp [spec_poProduct.l0] at h, fun _ _ _ _ _ _ _ _ _ _ r h => by simp [spec_poProduct.l1] at h⟩
 | k + 1 => by
  obtain ⟨ih0, ih1, ih2⟩ := spec_poProduct.mono_l k
  refine ⟨?_, ?_, ?_⟩
  ·intro y0 y1 y2
   unfold spec_poProduct.j0
   repeat' with_reducible first
   | exact ih0 _ _ _
   | exact ih1 _ _ _ _ _
   | exact ih2 _ _ _ _ _ _ _ _ _ _
   | exact spec_poTrim.mono _ _
   | exact qw _
   | exact LeO.none _
   | refine LeO.ite ?_ ?_
   | refine qj ?_ (fun _ => ?_)
  ·intro y0 y1 y2 y3 y4
   unfold spec_poProduct.l0
   repeat' with_reducible first
   | exact ih0 _ _ _
   | exact ih1 _ _ _ _ _
   | exact ih2 _ _ _ _ _ _ _ _ _ _
   | exact spec_poTrim.mono _ _
   | exact qw _
   | exact LeO.none _
   | refine LeO.ite ?_ ?_
   | refine qj ?_ (fun _ => ?_)
  ·intro y0 y1 y2 y3 y4 y5 y6 y7 y8 y9
   unfold spec_poProduct.l1
   repeat' with_reducible first
   | exact ih0 _ _ _
   | exact ih1 _ _ _ _ _
   | exact ih2 _ _ _ _ _ _ _ _ _ _
   | exact spec_poTrim.mono _ _
   | exact qw _
   | exact LeO.none _
   | refine LeO.ite ?_ ?_
   | refine qj ?_ (fun _ => ?_)
theorem spec_poProduct.mono : ∀ a0 a1 k, LeO (spec_poProduct.f k a0 a1) (spec_poProduct.f (k + 1) a0 a1) := by
 intro a0 a1 k
 obtain ⟨ih0, ih1, ih2⟩ := spec_poProduct.mono_l k
 unfold spec_poProduct.f
 repeat' with_reducible first
   | exact ih0 _ _ _
   | exact ih1 _ _ _ _ _
   | exact ih2 _ _ _ _ _ _ _ _ _ _
   | exact spec_poTrim.mono _ _
   | exact qw _
   | exact LeO.none _
   | refine LeO.ite ?_ ?_
   | refine qj ?_ (fun _ => ?_)
set_option maxHeartbeats 8000000 in
set_option maxRecDepth 100000 in
theorem spec_poProduct.calls (k : Nat) (A0 : Option Addr) (c0 : Nat) (l0 : List Int) (A1 : Option Addr) (c1 : Nat) (l1 : List Int) (r : List Int) (w : World) (hr0 : Kd.C (Kd.int .i64) w A0 l0.length l0) (hc0 : l0.length ≤ c0) (hr1 : Kd.C (Kd.int .i64) w A1 l1.length l1) (hc1 : l1.length ≤ c1) (h : spec_poProduct.f k l0 l1 = some r) :
  Calls Try.prog 250 #[.slice A0 l0.length c0, .slice A1 l1.length c1] w fun e w' => ∃ v0_ : Value, e = .returned (v0_) ∧ Kd.R (Kd.int .i64) 3 w' w.heap.size (fun _ => True) v0_ r ∧ Below w.heap.size w w' := by
 have HR0 := zz hr0
 have HC0 := zz hc0
 clear hr0 hc0
 have HR1 := zz hr1
 have HC1 := zz hc1
 clear hr1 hc1
 have HB := zz (Below.refl w.heap.size w)
 have H : (if (l0.length : Int) = 0 then (spec_poProduct.j0 k l0 l1 true) else (spec_poProduct.j0 k l0 l1 ((l1.length : Int) == 0))) = some r := h
 clear h
 have HC3 := zz H
 clear H
 go_enter Try.func250, Try.ntmps250
 go_upto_region 1 with (fail)
 go_cut [17] (fun v17 wc => ∃ (kq : Nat) (x17_2 : Bool), v17 = .bool x17_2 ∧ Aside0 (spec_poProduct.j0 kq l0 l1 x17_2 = some r) ∧ Aside0 (kq ≤ k) ∧ Aside0 (Below w.heap.size w wc))
 case first =>
  have H := HC3.out
  clear HC3
  by_cases c4 : (l0.length : Int) = 0
  ·rw [if_pos c4] at H
   have c4b0 : ((l0.length : Int) == 0) = true := beq_iff_eq.mpr c4
   have c4b1 : ((l0.length : Int) != 0) = false := bne_eq_false_iff_eq.mpr c4
   clear c4
   (first | rw [c4b0] | (simp only [i64_w, i32_w]; rw [c4b0]) | skip)
   have H' := zz H
   clear H
   go_wp2
   go_meet
   case rel => exact ⟨_, (true), (by first | rfl | (simp; done) | (simp [*]; done)), H', ⟨by first | omega | exact Nat.le_refl _⟩, ⟨by repeat (with_reducible first | exact HB.out | apply zj | apply zq | apply zw)⟩⟩
  ·rw [if_neg c4] at H
   have c4b0 : ((l0.length : Int) == 0) = false := beq_eq_false_iff_ne.mpr c4
   have c4b1 : ((l0.length : Int) != 0) = true := bne_iff_ne.mpr c4
   have c4b2 : ¬ (l0 = []) := fun h_ => c4 (by rw [h_]; rfl)
   (first | rw [c4b0] | (simp only [i64_w, i32_w]; rw [c4b0]) | skip)
   have H' := zz H
   clear H
   go_wp2
   go_meet
   case rel => exact ⟨_, (((l1.length : Int) == 0)), (by first | rfl | (simp; done) | (simp [*]; done)), H', ⟨by first | omega | exact Nat.le_refl _⟩, ⟨by repeat (with_reducible first | exact HB.out | apply zj | apply zq | apply zw)⟩⟩
 case rest =>
  clear HC3
  try clear c1
  try clear c2
  try clear p2
  try clear c4
  try clear c4b0
  try clear c4b1
  try clear c4b2
  obtain ⟨kq, x17_2, rfl, HA, HJ2, HB⟩ := hcut
  cases kq with
  | zero => exact absurd HA.out (by simp [spec_poProduct.j0])
  | succ kj2 =>
   have H := HA.out
   clear HA
   simp only [spec_poProduct.j0] at H
   by_cases c5 : x17_2 = true
   ·subst c5
    have H1 : (some ([] : List Int)) = some r := by rw [if_pos rfl] at H; exact H
    clear H
    have H := H1
    clear H1
    obtain rfl := Option.some.inj H
    go_wp2
    go_ret
    exact ⟨_, by first | rfl | (simp <;> rfl) | (simp [*] <;> rfl), by first | exact Kd.R_nil _ _ _ _ _ | exact Kd.N_nil _ _ _ _ _ | exact Kd.V_nil _ _ _ _ _ | exact Kd.Q_nil _ _ _ _ _ | exact Kd.S_nil _ _ _ _ _, by repeat (with_reducible first | exact HB.out | apply zj | apply zq | apply zw)⟩
   ·replace c5 := Bool.eq_false_iff.mpr c5
    subst c5
    have H1 : (if 0 ≤ (wrap64 ((wrap64 ((l0.length : Int) + (l1.length : Int))) - 1)) then (if (wrap64 ((wrap64 ((l0.length : Int) + (l1.length : Int))) - 1) : Int).toNat ≤ 35184372088832 then (spec_poProduct.l0 kj2 l1 (List.replicate (wrap64 ((wrap64 ((l0.length : Int) + (l1.length : Int))) - 1) : Int).toNat 0) l0 (l0.length : Int) 0) else (none)) else (none)) = some r := by rw [if_neg (show ¬ (false = true) by decide)] at H; exact H
    clear H
    have H := H1
    clear H1
    obtain ⟨ji6, hji6⟩ : ∃ j_ : Int, (wrap64 ((wrap64 ((l0.length : Int) + (l1.length : Int))) - 1)) = j_ := ⟨_, rfl⟩
    replace H : (if 0 ≤ (ji6) then (if (ji6 : Int).toNat ≤ 35184372088832 then (spec_poProduct.l0 kj2 l1 (List.replicate (ji6 : Int).toNat 0) l0 (l0.length : Int) 0) else (none)) else (none)) = some r := by first | (rw [hji6] at H; exact H) | (simp only [hji6] at H ⊢; exact H)
    have hji6w : (IntKind.i64.wrap ((wrap64 ((l0.length : Int) + (l1.length : Int))) - 1)) = ji6 := (i64_w _).trans hji6
    by_cases c7 : 0 ≤ (ji6)
    ·rw [if_pos c7] at H
     have c7b0 := eq_true c7
     have c7b1 : decide (0 ≤ (ji6)) = true := decide_eq_true c7
     clear c7
     by_cases c8 : (ji6 : Int).toNat ≤ 35184372088832
     ·rw [if_pos c8] at H
      have c8b0 := eq_true c8
      have c8b1 : decide ((ji6 : Int).toNat ≤ 35184372088832) = true := decide_eq_true c8
      clear c8
      obtain ⟨y174, hy174⟩ : ∃ y_ : List Int, y_ = (List.replicate (ji6 : Int).toNat 0) := ⟨_, rfl⟩
      replace H : (spec_poProduct.l0 kj2 l1 y174 l0 (l0.length : Int) 0) = some r := by first | (rw [hy174]; with_reducible exact H) | (have H2_ := (Option.bind_some _ _).symm.trans H; rw [hy174]; with_reducible exact H2_) | (have H2_ := (Option.bind_some _ _).symm.trans H; with_reducible exact H2_) | with_reducible exact H | (rw [hy174]; exact H) | exact H
      have Ny174 := zz hy174
      clear hy174
      have H' := zz H
      clear H
      go_wp2_with (first | ((with_reducible refine gate_dst (N := 24) rfl ?_); (try (refine gate_guard (by rfl) ?_; dsimp only)); refine Kd.R_make (Kd.int .i64) _ 3 rfl (N := 24) rfl 29 _ _ rfl ji6 rfl rfl Try.underlying29 (.int .i64 0) 8 info3 rfl (by decide) (by omega) 0 (ok := fun _ => True) (okp := fun _ => True) rfl (fun _ hk => hk) trivial (of_decide_eq_true (by with_reducible assumption)) (Nat.le_trans (Nat.mul_le_mul_right _ (of_decide_eq_true (by with_reducible assumption) : ji6.toNat ≤ 35184372088832)) (by omega)) (Below.refl _ _) (Nat.le_refl _) ?_; intro v175 w9 ho10 hb hg_ hnew_; clear hg_ hnew_; (first | rw [← Ny174.out] at ho10 | (simp only [Int.reduceToNat] at ho10; rw [← Ny174.out] at ho10)); have n0_ := zz (Kd.R_lower ho10 (below_size (by repeat (with_reducible first | exact HB.out | apply zj | apply zq | apply zw)))); have n1_ := zz (below_step (by repeat (with_reducible first | exact HB.out | apply zj | apply zq | apply zw)) hb); clear HB; have HO176 := n0_; have HB := n1_; clear n0_ n1_; clear hb ho10))
      go_loopg [27] kj2 (fun kq v27 w' => ∃ (x5_2 : List Int) (x27_2 : Int), v27 = .int .i64 x27_2 ∧ Aside0 (spec_poProduct.l0 kq l1 x5_2 l0 (l0.length : Int) x27_2 = some r) ∧ Aside0 (kq ≤ kj2) ∧ Aside0 (Kd.R (Kd.int .i64) 3 w' w.heap.size (fun _ => True) v175 x5_2) ∧ Aside0 (Below w.heap.size w w'))
      case atStart => exact ⟨(y174), (0), (by first | rfl | (simp; done) | (simp [*]; done)), H', ⟨Nat.le_refl _⟩, ⟨by (with_reducible repeat (first | apply zk | apply zv | apply qz)); exact HO176.out⟩, ⟨by repeat (with_reducible first | exact HB.out | apply zj | apply zq | apply zw)⟩⟩
      case round =>
       clear H'
       try clear c1
       try clear c2
       try clear p2
       try clear c4
       try clear c4b0
       try clear c4b1
       try clear c4b2
       try clear c5
       try clear p6
       try clear c7
       try clear c7b0
       try clear c7b1
       try clear c8
       try clear c8b0
       try clear c8b1
       try clear p2
       obtain ⟨x5_2, x27_2, rfl, HA, HK2, HO_5, HB⟩ := hrel
       cases gk with
       | zero => exact absurd HA.out (by simp [spec_poProduct.l0])
       | succ k2 =>
        have H := HA.out
        clear HA
        simp only [spec_poProduct.l0] at H
        by_cases c11 : x27_2 < (l0.length : Int)
        ·rw [if_pos c11] at H
         have c11b0 : decide (x27_2 < (l0.length : Int)) = true := decide_eq_true c11
         clear c11
         by_cases c12 : 0 ≤ x27_2
         ·rw [if_pos c12] at H
          have c12b0 : decide (0 ≤ x27_2) = true := decide_eq_true c12
          clear c12
          by_cases c13 : x27_2 < (l0.length : Int)
          ·rw [if_pos c13] at H
           have c13b0 : decide (x27_2 < (l0.length : Int)) = true := decide_eq_true c13
           clear c13
           have H' := zz H
           clear H
           have p180 : 0 ≤ (x27_2 : Int) := of_decide_eq_true (by with_reducible assumption)
           have q180 : x27_2 < (l0.length : Int) := of_decide_eq_true (by with_reducible assumption)
           obtain ⟨ad180, e180, hx180_0⟩ := Kd.at_int HR0.out x27_2 p180 q180
           cases e180
           replace hx180_0 := (HB.out.cell (zx w _ hx180_0)).trans hx180_0
           replace p180 := eq_true p180
           replace q180 := eq_true q180
           go_wp2
           go_loopg [34] k2 (fun kq v34 w' => ∃ (x5_3 : List Int) (x34_3 : Int), v34 = .int .i64 x34_3 ∧ Aside0 (spec_poProduct.l1 kq l1 x5_3 x27_2 (rd l0 x27_2) l0 (l0.length : Int) x27_2 l1 (l1.length : Int) x34_3 = some r) ∧ Aside0 (kq ≤ k2) ∧ Aside0 (Kd.R (Kd.int .i64) 3 w' w.heap.size (fun _ => True) v175 x5_3) ∧ Aside0 (Below w.heap.size w w'))
           case atStart => exact ⟨(x5_2), (0), (by first | rfl | (simp; done) | (simp [*]; done)), H', ⟨Nat.le_refl _⟩, ⟨by (with_reducible repeat (first | apply zk | apply zv | apply qz)); exact HO_5.out⟩, ⟨by repeat (with_reducible first | exact HB.out | apply zj | apply zq | apply zw)⟩⟩
           case round =>
            clear H'
            try clear c1
            try clear p1
            try clear q1
            try clear hx1
            try clear c2
            try clear p2
            try clear c4
            try clear c4b0
            try clear c4b1
            try clear c4b2
            try clear c5
            try clear p6
            try clear c7
            try clear c7b0
            try clear c7b1
            try clear c8
            try clear c8b0
            try clear c8b1
            try clear c11
            try clear c11b0
            try clear c12
            try clear c12b0
            try clear c13
            try clear c13b0
            try clear hx180_0
            try clear p180
            try clear p2
            try clear p6
            try clear q180
            obtain ⟨x5_3, x34_3, rfl, HA, HK3, HO_5, HB⟩ := hrel
            cases gk with
            | zero => exact absurd HA.out (by simp [spec_poProduct.l1])
            | succ k3 =>
             have H := HA.out
             clear HA
             simp only [spec_poProduct.l1] at H
             by_cases c14 : x34_3 < (l1.length : Int)
             ·rw [if_pos c14] at H
              have c14b0 : decide (x34_3 < (l1.length : Int)) = true := decide_eq_true c14
              clear c14
              by_cases c15 : 0 ≤ x34_3
              ·rw [if_pos c15] at H
               have c15b0 : decide (0 ≤ x34_3) = true := decide_eq_true c15
               clear c15
               by_cases c16 : x34_3 < (l1.length : Int)
               ·rw [if_pos c16] at H
                have c16b0 : decide (x34_3 < (l1.length : Int)) = true := decide_eq_true c16
                clear c16
                obtain ⟨ji17, hji17⟩ : ∃ j_ : Int, (wrap64 (x27_2 + x34_3)) = j_ := ⟨_, rfl⟩
                replace H : (if 0 ≤ (ji17) then (if (ji17) < (x5_3.length : Int) then (spec_poProduct.l1 k3 l1 (x5_3.set ((ji17) : Int).toNat (wrap64 ((rd x5_3 (ji17)) + (wrap64 ((rd l0 x27_2) * (rd l1 x34_3)))))) x27_2 (rd l0 x27_2) l0 (l0.length : Int) x27_2 l1 (l1.length : Int) (wrap64 (x34_3 + 1))) else (none)) else (none)) = some r := by first | (rw [hji17] at H; exact H) | (simp only [hji17] at H ⊢; exact H)
                have hji17w : (IntKind.i64.wrap (x27_2 + x34_3)) = ji17 := (i64_w _).trans hji17
                by_cases c18 : 0 ≤ (ji17)
                ·rw [if_pos c18] at H
                 have c18b0 : decide (0 ≤ (ji17)) = true := decide_eq_true c18
                 clear c18
                 by_cases c19 : (ji17) < (x5_3.length : Int)
                 ·rw [if_pos c19] at H
                  have c19b0 : decide ((ji17) < (x5_3.length : Int)) = true := decide_eq_true c19
                  clear c19
                  obtain ⟨y183, hy183⟩ : ∃ y_ : List Int, y_ = (x5_3.set ((ji17) : Int).toNat (wrap64 ((rd x5_3 (ji17)) + (wrap64 ((rd l0 x27_2) * (rd l1 x34_3)))))) := ⟨_, rfl⟩
                  replace H : (spec_poProduct.l1 k3 l1 y183 x27_2 (rd l0 x27_2) l0 (l0.length : Int) x27_2 l1 (l1.length : Int) (wrap64 (x34_3 + 1))) = some r := by first | (rw [hy183]; with_reducible exact H) | (have H2_ := (Option.bind_some _ _).symm.trans H; rw [hy183]; with_reducible exact H2_) | (have H2_ := (Option.bind_some _ _).symm.trans H; with_reducible exact H2_) | with_reducible exact H | (rw [hy183]; exact H) | exact H
                  have Ny183 := zz hy183
                  clear hy183
                  have H' := zz H
                  clear H
                  have p181 : 0 ≤ (x34_3 : Int) := of_decide_eq_true (by with_reducible assumption)
                  have q181 : x34_3 < (l1.length : Int) := of_decide_eq_true (by with_reducible assumption)
                  obtain ⟨ad181, e181, hx181_0⟩ := Kd.at_int HR1.out x34_3 p181 q181
                  cases e181
                  replace hx181_0 := (HB.out.cell (zx w _ hx181_0)).trans hx181_0
                  replace p181 := eq_true p181
                  replace q181 := eq_true q181
                  obtain ⟨Ao21, co21, eo21⟩ := Kd.R_slice HO_5.out
                  subst eo21
                  have p182 : 0 ≤ ((ji17) : Int) := of_decide_eq_true (by with_reducible assumption)
                  have q182 : (ji17) < (x5_3.length : Int) := of_decide_eq_true (by with_reducible assumption)
                  obtain ⟨ad182, e182, hx182_0⟩ := Kd.at_int (qq HO_5.out).2.2 (ji17) p182 q182
                  cases e182
                  replace p182 := eq_true p182
                  replace q182 := eq_true q182
                  have p20 : 0 ≤ ((ji17) : Int) := of_decide_eq_true (by with_reducible assumption)
                  have q20 : ((ji17) : Int) < ((x5_3.length : Int) : Int) := of_decide_eq_true (by with_reducible assumption)
                  obtain ⟨go20, co20, eo20, gb20, gl20, cl20, HG20⟩ := Kd.R_form HO_5.out (by omega)
                  (first | cases eo20 | (injection eo20 with ea_ en_ ec_; (first | subst ea_ | (injection ea_ with ea_; subst ea_)); subst ec_; clear en_))
                  have GB20 := zz gb20
                  have GG20 := zz HG20
                  clear gb20 gl20 HG20
                  (first | simp only [add_plain] at hx182_0 | skip)
                  obtain ⟨hx20_0, hf20_0⟩ := Kd.R_celln 0 HO_5.out ((ji17) : Int) p20 q20
                  replace p20 := eq_true p20
                  replace q20 := eq_true q20
                  have HP22 := Kd.R_putg HO_5.out ((ji17) : Int) (wrap64 ((rd x5_3 (ji17)) + (wrap64 ((rd l0 x27_2) * (rd l1 x34_3)))))
                  go_wp2_with (first | ((with_reducible refine gate_store (t := 3) (p := 49) rfl ?_); refine store_event (t := 3) (p := 49) (v := ?vo_w23) (w1 := (wr.setCell ⟨go20, ((ji17) : Int).toNat, none⟩ (.int .i64 (wrap64 ((rd x5_3 (ji17)) + (wrap64 ((rd l0 x27_2) * (rd l1 x34_3)))))))) ?hg ?ho ?hn ?hr ?_; (case ho => rfl); (case hg => rfl); (case hn => rfl); (case hr => first | (go_simp; done) | (go_simp; rfl)); intro w23 hw; have hg : wr.grownBy w23 (some go20) := (by rw [hw]; exact HP22.2); have hp_ : Kd.R (Kd.int .i64) 3 w23 w.heap.size (fun _ => True) (.slice (some ⟨go20, 0, none⟩) x5_3.length co21) y183 := (by rw [hw, Ny183.out]; exact HP22.1); clear HP22; have n0_ := zz (hp_); have n1_ := zz ((by rw [hw]; exact below_set (HB.out) GB20.out : Below w.heap.size w w23)); clear HO_5; clear HB; have HO_5 := n0_; have HB := n1_; clear n0_ n1_; clear hg hw hp_))
                  go_roundg k3
                  case measure => have := HJ2.out; have := HK2.out; have := HK3.out; omega
                  case rel => exact ⟨(y183), (wrap64 (x34_3 + 1)), (by first | rfl | (simp; done) | (simp [*]; done)), H', ⟨by have := HJ2.out; have := HK2.out; have := HK3.out; omega⟩, ⟨by (with_reducible repeat (first | apply zk | apply zv | apply qz)); exact HO_5.out⟩, ⟨by repeat (with_reducible first | exact HB.out | apply zj | apply zq | apply zw)⟩⟩
                 ·rw [if_neg c19] at H
                  exact absurd H (by simp)
                ·rw [if_neg c18] at H
                 exact absurd H (by simp)
               ·rw [if_neg c16] at H
                exact absurd H (by simp)
              ·rw [if_neg c15] at H
               exact absurd H (by simp)
             ·rw [if_neg c14] at H
              have c14b0 : decide (x34_3 < (l1.length : Int)) = false := decide_eq_false c14
              clear c14
              have H' := zz H
              clear H
              go_wp2
              go_roundg k3
              case measure => have := HJ2.out; have := HK2.out; have := HK3.out; omega
              case rel => exact ⟨(x5_3), (wrap64 (x27_2 + 1)), (by first | rfl | (simp; done) | (simp [*]; done)), H', ⟨by have := HJ2.out; have := HK2.out; have := HK3.out; omega⟩, ⟨by (with_reducible repeat (first | apply zk | apply zv | apply qz)); exact HO_5.out⟩, ⟨by repeat (with_reducible first | exact HB.out | apply zj | apply zq | apply zw)⟩⟩
          ·rw [if_neg c13] at H
           exact absurd H (by simp)
         ·rw [if_neg c12] at H
          exact absurd H (by simp)
        ·rw [if_neg c11] at H
         have c11b0 : decide (x27_2 < (l0.length : Int)) = false := decide_eq_false c11
         clear c11
         replace H := Option.bind_eq_some_iff.mp H
         obtain ⟨t177, A240, H⟩ := H
         replace H : (some t177) = some r := H
         have A24 := zz A240
         clear A240
         obtain rfl := Option.some.inj H
         obtain ⟨Ao25, co25, eo25⟩ := Kd.R_slice HO_5.out
         subst eo25
         go_wp2_with (first | ((with_reducible refine gate_callee (f := 248) rfl ?_); refine goesL_ (some 53) rfl rfl Try.func248 (by kernel_rfl) rfl #[.slice Ao25 x5_2.length co25] rfl (by (try simp only [List.map_toArray, List.map_cons, List.map_nil]); first | done | rfl) ?_; (with_reducible refine (spec_poTrim.calls k2 _ _ x5_2 t177 _ ?side1 ?side2 A24.out).mono ?_); (case side1 => repeat (first | exact (qq HO_5.out).2.2 | (with_reducible refine Kd.C_alloc ?_ _) | (with_reducible refine Kd.C_drewN ?_ _) | (with_reducible refine Kd.C_drew ?_))); (case side2 => exact (qq HO_5.out).2.1); rintro e w26 ⟨v178, rfl, ho0, hb⟩; refine ⟨_, rfl, ?_⟩; have n0_ := zz (Kd.R_elder' (by (with_reducible repeat (first | apply zk | apply zv | apply qz)); exact HO_5.out) (Kd.R_base ho0) hb); have n1_ := zz (Kd.R_lower (Kd.R_new' ho0 (Kd.R_lt (by (with_reducible repeat (first | apply zk | apply zv | apply qz)); exact HO_5.out))) (below_size (by repeat (with_reducible first | exact HB.out | apply zj | apply zq | apply zw)))); have n2_ := zz (below_step (by repeat (with_reducible first | exact HB.out | apply zj | apply zq | apply zw)) hb); clear HO_5; clear HB; have HO_5 := n0_; have HO179 := n1_; have HB := n2_; clear n0_ n1_ n2_; (try clear hb); (try clear hi hk); (try clear ho0)))
         go_ret
         exact ⟨_, by first | rfl | (simp [errW_none, errW_some] <;> rfl) | (simp only [← hji6]; first | rfl | (simp [errW_none, errW_some] <;> rfl)) | (simp [*, errW_none, errW_some] <;> rfl), by (with_reducible repeat (first | apply zk | apply zv | apply qz)); exact Kd.R_mono HO179.out (fun _ hk => trivial), by repeat (with_reducible first | exact HB.out | apply zj | apply zq | apply zw)⟩
     ·rw [if_neg c8] at H
      exact absurd H (by simp)
    ·rw [if_neg c7] at H
     exact absurd H (by simp)
end Go.Proofs.Ytlmoemahamneoaa.PFnSchemesAgree
