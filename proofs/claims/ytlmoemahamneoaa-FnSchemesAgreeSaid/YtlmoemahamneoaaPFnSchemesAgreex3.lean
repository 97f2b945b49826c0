-- Written by gprint.py, a program of this session, out of the translation (a changed print).
import Derived.Test.YtlmoemahamneoaaPFnSchemesAgreex0
import Derived.Test.YtlmoemahamneoaaPFnSchemesAgreex2
namespace Go.Proofs.Ytlmoemahamneoaa.PFnSchemesAgree
open Go.RowKit Go.Proofs.YtlmoemahamneoaaW.PrintWords Go.Proofs.YtlmoemahamneoaaW.PrintLast Go.Proofs.YtlmoemahamneoaaW.PrintMore
open Go.Proofs.YtlmoemahamneoaaW.PrintWords.Aside0 renaming mk → zz
open Go.Proofs.YtlmoemahamneoaaW.PrintWords renaming pw_below_drewN → zq, below_alloc → zj, below_drew1 → zw, below_set → zx, below_step → zk, below_size → zv, blk_alloc → qz, blk_drewN → qq, blk_drew → qj, blk_cell → qw, blk_frozen → qx, blk_put → qk, blk_below → qv, gate_callee → yk, gate_dst → yv, box_event → vz
open Go.World renaming block_lt_of_cell? → jz
open Go.Proofs.YtlmoemahamneoaaW.PrintWords.Kd renaming R_alloc → jq, R_drewN → jj, R_drew → jw, C_alloc → jx, C_drewN → jk, C_drew → jv, C_below → yz, N_drewN → yq, R_mono → vq, R_below → vj, R_reads' → vw, R_slice → vx, N_below → kz
open List renaming map_toArray → yj, length_drop → yw, length_take → yx
open Go.Proofs.YtlmoemahamneoaaW.PrintWords.LeO renaming bind → vk, refl → vv
attribute [local go_sem] max2_int min2_int max_two min_two max_three min_three max_four min_four
set_option linter.unusedVariables false
set_option linter.unusedSimpArgs false
mutual
def impl_productOf.l0 : Nat → List Int → List Int → List Int → Int → Int → Option (List Int)
 | 0, _, _, _, _, _ => none
 | k + 1, x1, x5, x16, x17, x18 => if x18 < x17 then (if 0 ≤ x18 then (if x18 < (x16.length : Int) then (impl_productOf.l1 k x1 x5 x18 (rd x16 x18) x16 x17 x18 x1 (x1.length : Int) 0) else (none)) else (none)) else ((impl_cut.f k x5).bind fun t132 => (some t132))
def impl_productOf.l1 : Nat → List Int → List Int → Int → Int → List Int → Int → Int → List Int → Int → Int → Option (List Int)
 | 0, _, _, _, _, _, _, _, _, _, _ => none
 | k + 1, x1, x5, x6, x7, x16, x17, x18, x23, x24, x25 => if x25 < x24 then (if 0 ≤ x25 then (if x25 < (x23.length : Int) then (if 0 ≤ (wrap64 (x6 + x25)) then (if (wrap64 (x6 + x25)) < (x5.length : Int) then (impl_productOf.l1 k x1 (x5.set ((wrap64 (x6 + x25)) : Int).toNat (wrap64 ((rd x5 (wrap64 (x6 + x25))) + (wrap64 (x7 * (rd x23 x25)))))) x6 x7 x16 x17 x18 x23 x24 (wrap64 (x25 + 1))) else (none)) else (none)) else (none)) else (none)) else (impl_productOf.l0 k x1 x5 x16 x17 (wrap64 (x18 + 1)))
end
def impl_productOf.f (k : Nat) (l0 : List Int) (l1 : List Int) : Option (List Int) := if 0 ≤ (wrap64 ((l0.length : Int) + (l1.length : Int))) then (if (wrap64 ((l0.length : Int) + (l1.length : Int)) : Int).toNat ≤ 35184372088832 then (impl_productOf.l0 k l1 (List.replicate (wrap64 ((l0.length : Int) + (l1.length : Int)) : Int).toNat 0) l0 (l0.length : Int) 0) else (none)) else (none)
theorem impl_productOf.mono_l : ∀ k, (∀ y0 y1 y2 y3 y4, LeO (impl_productOf.l0 k y0 y1 y2 y3 y4) (impl_productOf.l0 (k + 1) y0 y1 y2 y3 y4)) ∧ (∀ y0 y1 y2 y3 y4 y5 y6 y7 y8 y9, LeO (impl_productOf.l1 k y0 y1 y2 y3 y4 y5 y6 y7 y8 y9) (impl_productOf.l1 (k + 1) y0 y1 y2 y3 y4 y5 y6 y7 y8 y9))
 | 0 => ⟨fun _ _ _ _ _ r h => by simp [impl_productOf.l0] at h, fun _ _ _ _ _ _ _ _ _ _ r h => by simp [impl_productOf.l1] at h⟩
 | k + 1 => by
  obtain ⟨ih0, ih1⟩ := impl_productOf.mono_l k
  refine ⟨?_, ?_⟩
  ·intro y0 y1 y2 y3 y4
   unfold impl_productOf.l0
   repeat' with_reducible first
   | exact ih0 _ _ _ _ _
   | exact ih1 _ _ _ _ _ _ _ _ _ _
   | exact impl_cut.mono _ _
   | exact vv _
   | exact LeO.none _
   | refine LeO.ite ?_ ?_
   | refine vk ?_ (fun _ => ?_)
  ·intro y0 y1 y2 y3 y4 y5 y6 y7 y8 y9
   unfold impl_productOf.l1
   repeat' with_reducible first
   | exact ih0 _ _ _ _ _
   | exact ih1 _ _ _ _ _ _ _ _ _ _
   | exact impl_cut.mono _ _
   | exact vv _
   | exact LeO.none _
   | refine LeO.ite ?_ ?_
   | refine vk ?_ (fun _ => ?_)
theorem impl_productOf.mono : ∀ a0 a1 k, LeO (impl_productOf.f k a0 a1) (impl_productOf.f (k + 1) a0 a1) := by
 intro a0 a1 k
 obtain ⟨ih0, ih1⟩ := impl_productOf.mono_l k
 unfold impl_productOf.f
 repeat' with_reducible first
   | exact ih0 _ _ _ _ _
   | exact ih1 _ _ _ _ _ _ _ _ _ _
   | exact impl_cut.mono _ _
   | exact vv _
   | exact LeO.none _
   | refine LeO.ite ?_ ?_
   | refine vk ?_ (fun _ => ?_)
set_option maxHeartbeats 8000000 in
set_option maxRecDepth 100000 in
theorem impl_productOf.calls (k : Nat) (A0 : Option Addr) (c0 : Nat) (l0 : List Int) (A1 : Option Addr) (c1 : Nat) (l1 : List Int) (r : List Int) (w : World) (hr0 : Kd.C (Kd.int .i64) w A0 l0.length l0) (hc0 : l0.length ≤ c0) (hr1 : Kd.C (Kd.int .i64) w A1 l1.length l1) (hc1 : l1.length ≤ c1) (h : impl_productOf.f k l0 l1 = some r) :
  Calls Try.prog 208 #[.slice A0 l0.length c0, .slice A1 l1.length c1] w fun e w' => ∃ v0_ : Value, e = .returned (v0_) ∧ Kd.V (Kd.int .i64) 3 w' w.heap.size (fun k_ => (w.heap.size ≤ k_)) v0_ r ∧ Below w.heap.size w w' := by
 have HR0 := zz hr0
 have HC0 := zz hc0
 clear hr0 hc0
 have HR1 := zz hr1
 have HC1 := zz hc1
 clear hr1 hc1
 have HB := zz (Below.refl w.heap.size w)
 have H : (if 0 ≤ (wrap64 ((l0.length : Int) + (l1.length : Int))) then (if (wrap64 ((l0.length : Int) + (l1.length : Int)) : Int).toNat ≤ 35184372088832 then (impl_productOf.l0 k l1 (List.replicate (wrap64 ((l0.length : Int) + (l1.length : Int)) : Int).toNat 0) l0 (l0.length : Int) 0) else (none)) else (none)) = some r := h
 clear h
 obtain ⟨ji3, hji3⟩ : ∃ j_ : Int, (wrap64 ((l0.length : Int) + (l1.length : Int))) = j_ := ⟨_, rfl⟩
 replace H : (if 0 ≤ (ji3) then (if (ji3 : Int).toNat ≤ 35184372088832 then (impl_productOf.l0 k l1 (List.replicate (ji3 : Int).toNat 0) l0 (l0.length : Int) 0) else (none)) else (none)) = some r := by first | (rw [hji3] at H; exact H) | (simp only [hji3] at H ⊢; exact H)
 have hji3w : (IntKind.i64.wrap ((l0.length : Int) + (l1.length : Int))) = ji3 := (i64_w _).trans hji3
 by_cases c4 : 0 ≤ (ji3)
 ·rw [if_pos c4] at H
  have c4b0 := eq_true c4
  have c4b1 : decide (0 ≤ (ji3)) = true := decide_eq_true c4
  clear c4
  by_cases c5 : (ji3 : Int).toNat ≤ 35184372088832
  ·rw [if_pos c5] at H
   have c5b0 := eq_true c5
   have c5b1 : decide ((ji3 : Int).toNat ≤ 35184372088832) = true := decide_eq_true c5
   clear c5
   obtain ⟨y129, hy129⟩ : ∃ y_ : List Int, y_ = (List.replicate (ji3 : Int).toNat 0) := ⟨_, rfl⟩
   replace H : (impl_productOf.l0 k l1 y129 l0 (l0.length : Int) 0) = some r := by first | (rw [hy129]; with_reducible exact H) | (have H2_ := (Option.bind_some _ _).symm.trans H; rw [hy129]; with_reducible exact H2_) | (have H2_ := (Option.bind_some _ _).symm.trans H; with_reducible exact H2_) | with_reducible exact H | (rw [hy129]; exact H) | exact H
   have Ny129 := zz hy129
   clear hy129
   have H' := zz H
   clear H
   go_enter Try.func208, Try.ntmps208
   go_wp2_with (first | ((with_reducible refine yv (N := 15) rfl ?_); refine Kd.R_make (Kd.int .i64) _ 3 rfl (N := 15) rfl 29 _ _ rfl ji3 rfl rfl Try.underlying29 (.int .i64 0) 8 info3 rfl (by decide) (by omega) 0 (ok := fun _ => True) (okp := fun _ => True) rfl (fun _ hk => hk) trivial (of_decide_eq_true (by with_reducible assumption)) (Nat.le_trans (Nat.mul_le_mul_right _ (of_decide_eq_true (by with_reducible assumption) : ji3.toNat ≤ 35184372088832)) (by omega)) (Below.refl _ _) (Nat.le_refl _) ?_; intro v130 w6 ho7 hb hg_ hnew_; clear hg_ hnew_; (first | rw [← Ny129.out] at ho7 | (simp only [Int.reduceToNat] at ho7; rw [← Ny129.out] at ho7)); have n0_ := zz (Kd.R_lower (Kd.R_newM (M := fun k_ => (w.heap.size ≤ k_)) ho7 (zv (by repeat (with_reducible first | exact HB.out | apply zj | apply zq | apply zw))) (fun k_ h_ => h_)) (zv (by repeat (with_reducible first | exact HB.out | apply zj | apply zq | apply zw)))); have n1_ := zz (zk (by repeat (with_reducible first | exact HB.out | apply zj | apply zq | apply zw)) hb); clear HB; have HO131 := n0_; have HB := n1_; clear n0_ n1_; clear hb ho7))
   go_loopg [18] k (fun kq v18 w' => ∃ (x5_1 : List Int) (x18_1 : Int), v18 = .int .i64 x18_1 ∧ Aside0 (impl_productOf.l0 kq l1 x5_1 l0 (l0.length : Int) x18_1 = some r) ∧ Aside0 (kq ≤ k) ∧ Aside0 (Kd.R (Kd.int .i64) 3 w' w.heap.size (fun k_ => (w.heap.size ≤ k_)) v130 x5_1) ∧ Aside0 (Below w.heap.size w w'))
   case atStart => exact ⟨(y129), (0), (by first | rfl | (simp; done) | (simp [*]; done)), H', ⟨Nat.le_refl _⟩, ⟨by (with_reducible repeat (first | apply jq | apply jj | apply jw)); exact vq HO131.out (fun _ hk => hk.1)⟩, ⟨by repeat (with_reducible first | exact HB.out | apply zj | apply zq | apply zw)⟩⟩
   case round =>
    clear H'
    try clear c1
    try clear c2
    try clear p2
    try clear c4
    try clear c4b0
    try clear c4b1
    try clear c5
    try clear c5b0
    try clear c5b1
    try clear p6
    obtain ⟨x5_1, x18_1, rfl, HA, HK1, HO_5, HB⟩ := hrel
    cases gk with
    | zero => exact absurd HA.out (by simp [impl_productOf.l0])
    | succ k1 =>
     have H := HA.out
     clear HA
     simp only [impl_productOf.l0] at H
     by_cases c8 : x18_1 < (l0.length : Int)
     ·rw [if_pos c8] at H
      have c8b0 : decide (x18_1 < (l0.length : Int)) = true := decide_eq_true c8
      clear c8
      by_cases c9 : 0 ≤ x18_1
      ·rw [if_pos c9] at H
       have c9b0 : decide (0 ≤ x18_1) = true := decide_eq_true c9
       clear c9
       by_cases c10 : x18_1 < (l0.length : Int)
       ·rw [if_pos c10] at H
        have c10b0 : decide (x18_1 < (l0.length : Int)) = true := decide_eq_true c10
        clear c10
        have H' := zz H
        clear H
        have p135 : 0 ≤ (x18_1 : Int) := of_decide_eq_true (by with_reducible assumption)
        have q135 : x18_1 < (l0.length : Int) := of_decide_eq_true (by with_reducible assumption)
        obtain ⟨ad135, e135, hx135_0⟩ := Kd.at_int HR0.out x18_1 p135 q135
        cases e135
        replace hx135_0 := (HB.out.cell (jz w _ hx135_0)).trans hx135_0
        replace p135 := eq_true p135
        replace q135 := eq_true q135
        go_wp2
        go_loopg [25] k1 (fun kq v25 w' => ∃ (x5_2 : List Int) (x25_2 : Int), v25 = .int .i64 x25_2 ∧ Aside0 (impl_productOf.l1 kq l1 x5_2 x18_1 (rd l0 x18_1) l0 (l0.length : Int) x18_1 l1 (l1.length : Int) x25_2 = some r) ∧ Aside0 (kq ≤ k1) ∧ Aside0 (Kd.R (Kd.int .i64) 3 w' w.heap.size (fun k_ => (w.heap.size ≤ k_)) v130 x5_2) ∧ Aside0 (Below w.heap.size w w'))
        case atStart => exact ⟨(x5_1), (0), (by first | rfl | (simp; done) | (simp [*]; done)), H', ⟨Nat.le_refl _⟩, ⟨by (with_reducible repeat (first | apply jq | apply jj | apply jw)); exact HO_5.out⟩, ⟨by repeat (with_reducible first | exact HB.out | apply zj | apply zq | apply zw)⟩⟩
        case round =>
         clear H'
         try clear c1
         try clear p1
         try clear q1
         try clear hx1
         try clear c2
         try clear p2
         try clear c4
         try clear c4b0
         try clear c4b1
         try clear c5
         try clear c5b0
         try clear c5b1
         try clear p6
         try clear c8
         try clear c8b0
         try clear c9
         try clear c9b0
         try clear c10
         try clear c10b0
         try clear hx135_0
         try clear p135
         try clear p2
         try clear p6
         try clear q135
         obtain ⟨x5_2, x25_2, rfl, HA, HK2, HO_5, HB⟩ := hrel
         cases gk with
         | zero => exact absurd HA.out (by simp [impl_productOf.l1])
         | succ k2 =>
          have H := HA.out
          clear HA
          simp only [impl_productOf.l1] at H
          by_cases c11 : x25_2 < (l1.length : Int)
          ·rw [if_pos c11] at H
           have c11b0 : decide (x25_2 < (l1.length : Int)) = true := decide_eq_true c11
           clear c11
           by_cases c12 : 0 ≤ x25_2
           ·rw [if_pos c12] at H
            have c12b0 : decide (0 ≤ x25_2) = true := decide_eq_true c12
            clear c12
            by_cases c13 : x25_2 < (l1.length : Int)
            ·rw [if_pos c13] at H
             have c13b0 : decide (x25_2 < (l1.length : Int)) = true := decide_eq_true c13
             clear c13
             obtain ⟨ji14, hji14⟩ : ∃ j_ : Int, (wrap64 (x18_1 + x25_2)) = j_ := ⟨_, rfl⟩
             replace H : (if 0 ≤ (ji14) then (if (ji14) < (x5_2.length : Int) then (impl_productOf.l1 k2 l1 (x5_2.set ((ji14) : Int).toNat (wrap64 ((rd x5_2 (ji14)) + (wrap64 ((rd l0 x18_1) * (rd l1 x25_2)))))) x18_1 (rd l0 x18_1) l0 (l0.length : Int) x18_1 l1 (l1.length : Int) (wrap64 (x25_2 + 1))) else (none)) else (none)) = some r := by first | (rw [hji14] at H; exact H) | (simp only [hji14] at H ⊢; exact H)
             have hji14w : (IntKind.i64.wrap (x18_1 + x25_2)) = ji14 := (i64_w _).trans hji14
             by_cases c15 : 0 ≤ (ji14)
             ·rw [if_pos c15] at H
              have c15b0 : decide (0 ≤ (ji14)) = true := decide_eq_true c15
              clear c15
              by_cases c16 : (ji14) < (x5_2.length : Int)
              ·rw [if_pos c16] at H
               have c16b0 : decide ((ji14) < (x5_2.length : Int)) = true := decide_eq_true c16
               clear c16
               obtain ⟨y138, hy138⟩ : ∃ y_ : List Int, y_ = (x5_2.set ((ji14) : Int).toNat (wrap64 ((rd x5_2 (ji14)) + (wrap64 ((rd l0 x18_1) * (rd l1 x25_2)))))) := ⟨_, rfl⟩
               replace H : (impl_productOf.l1 k2 l1 y138 x18_1 (rd l0 x18_1) l0 (l0.length : Int) x18_1 l1 (l1.length : Int) (wrap64 (x25_2 + 1))) = some r := by first | (rw [hy138]; with_reducible exact H) | (have H2_ := (Option.bind_some _ _).symm.trans H; rw [hy138]; with_reducible exact H2_) | (have H2_ := (Option.bind_some _ _).symm.trans H; with_reducible exact H2_) | with_reducible exact H | (rw [hy138]; exact H) | exact H
               have Ny138 := zz hy138
               clear hy138
               have H' := zz H
               clear H
               have p136 : 0 ≤ (x25_2 : Int) := of_decide_eq_true (by with_reducible assumption)
               have q136 : x25_2 < (l1.length : Int) := of_decide_eq_true (by with_reducible assumption)
               obtain ⟨ad136, e136, hx136_0⟩ := Kd.at_int HR1.out x25_2 p136 q136
               cases e136
               replace hx136_0 := (HB.out.cell (jz w _ hx136_0)).trans hx136_0
               replace p136 := eq_true p136
               replace q136 := eq_true q136
               obtain ⟨Ao18, co18, eo18⟩ := vx HO_5.out
               subst eo18
               have p137 : 0 ≤ ((ji14) : Int) := of_decide_eq_true (by with_reducible assumption)
               have q137 : (ji14) < (x5_2.length : Int) := of_decide_eq_true (by with_reducible assumption)
               obtain ⟨ad137, e137, hx137_0⟩ := Kd.at_int (vw HO_5.out).2.2 (ji14) p137 q137
               cases e137
               replace p137 := eq_true p137
               replace q137 := eq_true q137
               have p17 : 0 ≤ ((ji14) : Int) := of_decide_eq_true (by with_reducible assumption)
               have q17 : ((ji14) : Int) < ((x5_2.length : Int) : Int) := of_decide_eq_true (by with_reducible assumption)
               obtain ⟨go17, co17, eo17, gb17, gl17, cl17, HG17⟩ := Kd.R_form HO_5.out (by omega)
               (first | cases eo17 | (injection eo17 with ea_ en_ ec_; (first | subst ea_ | (injection ea_ with ea_; subst ea_)); subst ec_; clear en_))
               have GB17 := zz gb17
               have GG17 := zz HG17
               clear gb17 gl17 HG17
               (first | simp only [add_plain] at hx137_0 | skip)
               obtain ⟨hx17_0, hf17_0⟩ := Kd.R_celln 0 HO_5.out ((ji14) : Int) p17 q17
               replace p17 := eq_true p17
               replace q17 := eq_true q17
               have HP19 := Kd.R_putg HO_5.out ((ji14) : Int) (wrap64 ((rd x5_2 (ji14)) + (wrap64 ((rd l0 x18_1) * (rd l1 x25_2)))))
               go_wp2_with (first | ((with_reducible refine gate_store (t := 3) (p := 40) rfl ?_); refine store_event (t := 3) (p := 40) (v := ?vo_w20) (w1 := (wr.setCell ⟨go17, ((ji14) : Int).toNat, none⟩ (.int .i64 (wrap64 ((rd x5_2 (ji14)) + (wrap64 ((rd l0 x18_1) * (rd l1 x25_2)))))))) ?hg ?ho ?hn ?hr ?_; (case ho => rfl); (case hg => rfl); (case hn => rfl); (case hr => first | (go_simp; done) | (go_simp; rfl)); intro w20 hw; have hg : wr.grownBy w20 (some go17) := (by rw [hw]; exact HP19.2); have hp_ : Kd.R (Kd.int .i64) 3 w20 w.heap.size (fun k_ => (w.heap.size ≤ k_)) (.slice (some ⟨go17, 0, none⟩) x5_2.length co18) y138 := (by rw [hw, Ny138.out]; exact HP19.1); clear HP19; have n0_ := zz (hp_); have n1_ := zz ((by rw [hw]; exact zx (HB.out) GB17.out : Below w.heap.size w w20)); clear HO_5; clear HB; have HO_5 := n0_; have HB := n1_; clear n0_ n1_; clear hg hw hp_))
               go_roundg k2
               case measure => have := HK1.out; have := HK2.out; omega
               case rel => exact ⟨(y138), (wrap64 (x25_2 + 1)), (by first | rfl | (simp; done) | (simp [*]; done)), H', ⟨by have := HK1.out; have := HK2.out; omega⟩, ⟨by (with_reducible repeat (first | apply jq | apply jj | apply jw)); exact HO_5.out⟩, ⟨by repeat (with_reducible first | exact HB.out | apply zj | apply zq | apply zw)⟩⟩
              ·rw [if_neg c16] at H
               exact absurd H (by simp)
             ·rw [if_neg c15] at H
              exact absurd H (by simp)
            ·rw [if_neg c13] at H
             exact absurd H (by simp)
           ·rw [if_neg c12] at H
            exact absurd H (by simp)
          ·rw [if_neg c11] at H
           have c11b0 : decide (x25_2 < (l1.length : Int)) = false := decide_eq_false c11
           clear c11
           have H' := zz H
           clear H
           go_wp2
           go_roundg k2
           case measure => have := HK1.out; have := HK2.out; omega
           case rel => exact ⟨(x5_2), (wrap64 (x18_1 + 1)), (by first | rfl | (simp; done) | (simp [*]; done)), H', ⟨by have := HK1.out; have := HK2.out; omega⟩, ⟨by (with_reducible repeat (first | apply jq | apply jj | apply jw)); exact HO_5.out⟩, ⟨by repeat (with_reducible first | exact HB.out | apply zj | apply zq | apply zw)⟩⟩
       ·rw [if_neg c10] at H
        exact absurd H (by simp)
      ·rw [if_neg c9] at H
       exact absurd H (by simp)
     ·rw [if_neg c8] at H
      have c8b0 : decide (x18_1 < (l0.length : Int)) = false := decide_eq_false c8
      clear c8
      replace H := Option.bind_eq_some_iff.mp H
      obtain ⟨t132, A210, H⟩ := H
      replace H : (some t132) = some r := H
      have A21 := zz A210
      clear A210
      obtain rfl := Option.some.inj H
      obtain ⟨Ao22, co22, eo22⟩ := vx HO_5.out
      subst eo22
      go_wp2_with (first | ((with_reducible refine yk (f := 206) rfl ?_); refine goesL_ (some 44) rfl rfl Try.func206 (by kernel_rfl) rfl #[.slice Ao22 x5_1.length co22] rfl (by (try simp only [yj, List.map_cons, List.map_nil]); first | done | rfl) ?_; (with_reducible refine (impl_cut.calls k1 (fun k_ => some k_ = (.slice Ao22 x5_1.length co22 : Value).ownBlock) _ _ x5_1 t132 _ ?side1 A21.out).mono ?_); (case side1 => exact Kd.R_V (Kd.R_tight rfl (HO_5.out))); rintro e w23 ⟨v133, rfl, ho0, hb⟩; refine ⟨_, rfl, ?_⟩; have n0_ := zz (vj (by (with_reducible repeat (first | apply jq | apply jj | apply jw)); exact HO_5.out) hb); have n1_ := zz (Kd.V_lower (Kd.V_mono (ok' := fun k_ => (w.heap.size ≤ k_)) ho0 (fun k_ hk_ => Or.elim hk_ (fun hs_ => ((HO_5.out).1 k_ hs_.symm)) (fun hn_ => (Nat.le_trans (zv (by repeat (with_reducible first | exact HB.out | apply zj | apply zq | apply zw))) hn_)))) (zv (by repeat (with_reducible first | exact HB.out | apply zj | apply zq | apply zw)))); have n2_ := zz (zk (by repeat (with_reducible first | exact HB.out | apply zj | apply zq | apply zw)) hb); clear HO_5; clear HB; have HO_5 := n0_; have HO134 := n1_; have HB := n2_; clear n0_ n1_ n2_; (try clear hb); (try clear hi hk); (try clear ho0)))
      go_ret
      exact ⟨_, by first | rfl | (simp [errW_none, errW_some] <;> rfl) | (simp only [← hji3]; first | rfl | (simp [errW_none, errW_some] <;> rfl)) | (simp [*, errW_none, errW_some] <;> rfl), by (with_reducible repeat (first | apply Kd.V_alloc | apply Kd.V_drewN | apply Kd.V_drew)); exact HO134.out, by repeat (with_reducible first | exact HB.out | apply zj | apply zq | apply zw)⟩
  ·rw [if_neg c5] at H
   exact absurd H (by simp)
 ·rw [if_neg c4] at H
  exact absurd H (by simp)
def rdLL (P : List (List Int)) (i : Int) : List Int := P.getD i.toNat []
def pcNext (k : Nat) (o : S109) (P : List (List Int)) : Option (List Int) :=
 if o.f0 = 0 then impl_cut.f k [o.f1]
 else if o.f0 = 1 then (if (0 ≤ o.f1 ∧ o.f1 < (P.length : Int)) ∧ 0 ≤ o.f2 ∧ o.f2 < (P.length : Int) then impl_sumOf.f k (rdLL P o.f1) (rdLL P o.f2) else none)
 else if o.f0 = 2 then (if 0 ≤ o.f1 ∧ o.f1 < (P.length : Int) then impl_productOf.f k (rdLL P o.f1) [o.f2] else none)
 else if o.f0 = 3 then (if (0 ≤ o.f1 ∧ o.f1 < (P.length : Int)) ∧ 0 ≤ o.f2 ∧ o.f2 < (P.length : Int) then impl_productOf.f k (rdLL P o.f1) (rdLL P o.f2) else none)
 else none
def pcStep (k : Nat) (o : S109) (i : Int) (P : List (List Int)) : Option (Option (List Int)) :=
 (impl_Op_ok.f k o.f0 o.f1 o.f2 i).bind fun ok => if ok = true then (pcNext k o P).bind fun nx => (impl_polynomialOk.f nx).bind fun b => if b = true then some (some nx) else some none else some none
def pcLoop (k : Nat) : List S109 → Int → List (List Int) → Option (List (List Int) × Bool)
 | [], _, P => some (P, true)
 | o :: r, i, P => (pcStep k o i P).bind fun s => match s with
  | none => some ([], false)
  | some nx => if P.length < 1000 then pcLoop k r (i + 1) (P ++ [nx]) else none
def polysF (k : Nat) (ops : List S109) (out : Int) : Option (List (List Int) × Bool) :=
 if ops.length > 120 then some ([], false) else if 0 ≤ out ∧ out ≤ (ops.length : Int) then pcLoop k ops 0 [[0, 1]] else some ([], false)
theorem pcNext_mono (o : S109) (P : List (List Int)) (k : Nat) : LeO (pcNext k o P) (pcNext (k + 1) o P) := by
 unfold pcNext
 repeat' first
  | (with_reducible exact impl_cut.mono _ _)
  | (with_reducible exact impl_sumOf.mono _ _ _)
  | (with_reducible exact impl_productOf.mono _ _ _)
  | (with_reducible exact vv _)
  | (with_reducible refine LeO.ite ?_ ?_)
theorem pcStep_mono (o : S109) (i : Int) (P : List (List Int)) (k : Nat) : LeO (pcStep k o i P) (pcStep (k + 1) o i P) := by
 unfold pcStep
 refine vk (impl_Op_ok.mono _ _ _ _ _) fun ok => LeO.ite ?_ (vv _)
 exact vk (pcNext_mono o P k) fun _ => vv _
theorem pcLoop_mono (k : Nat) : ∀ (l : List S109) (i : Int) (P : List (List Int)), LeO (pcLoop k l i P) (pcLoop (k + 1) l i P)
 | [], _, _ => vv _
 | o :: r, i, P => by
  unfold pcLoop
  refine vk (pcStep_mono o i P k) fun s => ?_
  cases s with
  | none => exact vv _
  | some nx => exact LeO.ite (pcLoop_mono k r _ _) (vv _)
theorem polysF_mono (ops : List S109) (out : Int) (k : Nat) : LeO (polysF k ops out) (polysF (k + 1) ops out) := by
 unfold polysF
 exact LeO.ite (vv _) (LeO.ite (pcLoop_mono k _ _ _) (vv _))
abbrev dLL : Kd (List Int) := Kd.slice 3 (Kd.int .i64)
theorem pc_info : (Try.prog.info? 29).map (fun i => (i.zero, i.size, i.bytes)) = some (some (.slice none 0 0), 1, 24) := by kernel_rfl
def RowsAt (base : Nat) (v : Value) (P : List (List Int)) (W : World) : Prop := Kd.N dLL 29 W base (fun k => base ≤ k) v P
theorem rowsAt_get {base : Nat} {v : Value} {P : List (List Int)} {W : World} (h : RowsAt base v P W) (i : Int) (h0 : 0 ≤ i) (h1 : i < (P.length : Int)) :
  ∃ g cap A c, v = .slice (some ⟨g, 0, none⟩) P.length cap ∧ W.cell? ⟨g, i.toNat, none⟩ = some (.slice A (rdLL P i).length c) ∧ (rdLL P i).length ≤ c ∧ Kd.C (Kd.int .i64) W A (rdLL P i).length (rdLL P i) := by
 obtain ⟨g, cap, rfl, _⟩ := Kd.N_form h (by omega)
 obtain ⟨c, hcl, hf, hcc, _⟩ := Kd.N_elem h [] i h0 h1
 obtain ⟨A, cc, rfl, hl, hF⟩ := Kd.FK_slice_open hf
 refine ⟨g, cap, A, cc, rfl, ?_, hl, Kd.F_now hF⟩
 have := hcc 0 _ rfl
 rw [show i.toNat * dLL.sz + 0 = i.toNat from by show i.toNat * 1 + 0 = _; omega] at this
 exact this
theorem pc_in (x n : Int) (r : Bool) (h : impl_in.f x 0 n = some r) (w : World) (m : Nat) : Calls Try.prog 146 #[.int .i64 x, .int .i64 0, .int .i64 n] (w.drewN m) fun e w' => e = .returned (.bool r) ∧ ∃ q, w' = w.drewN q :=
 Calls.quiet_of ((impl_in.calls x 0 n r _ h).mono fun _ _ ⟨he, hd⟩ => ⟨he, hd.out⟩)
set_option maxRecDepth 100000 in
set_option maxHeartbeats 4000000 in
theorem polys_no (B : Nat) (A0 : Option Addr) (c0 : Nat) (ops : List S109) (out : Int) (w : World) (hB : w.heap[B]? = some (.cells #[.slice A0 ops.length c0, .int .i64 out] 32 (0, 0))) (hl : ops.length ≤ 9223372036854775807) (h : ops.length > 120 ∨ ¬ (0 ≤ out ∧ out ≤ (ops.length : Int))) :
  Calls Try.prog 131 #[.pointer (some ⟨B, 0, none⟩)] w fun e w' => e = .returned (.tuple #[.slice none 0 0, .bool false]) ∧ Below w.heap.size w w' := by
 have hb0 : w.cell? ⟨B, 0, none⟩ = some (.slice A0 ops.length c0) := (qw hB 0).trans rfl
 have hb1 : w.cell? ⟨B, 1, none⟩ = some (.int .i64 out) := (qw hB 1).trans rfl
 clear hB
 by_cases h1 : ops.length > 120
 ·have hd : decide ((120 : Int) < (ops.length : Int)) = true := decide_eq_true (by omega)
  have hd2 : decide (120 < ops.length) = true := decide_eq_true (by omega)
  clear h
  go_enter Try.func131, Try.ntmps131
  go_wp2
  go_quiet (fail)
  go_wp2
  go_ret2
  exact ⟨rfl, zq (Below.refl _ _) _⟩
 ·have hd : decide ((120 : Int) < (ops.length : Int)) = false := decide_eq_false (by omega)
  have hd2 : decide (120 < ops.length) = false := decide_eq_false (by omega)
  have h2 : ¬ (0 ≤ out ∧ out ≤ (ops.length : Int)) := by omega
  have HI := Go.Lib.hid (pc_in out (ops.length : Int) false (by unfold impl_in.f; by_cases h3 : out ≥ 0 <;> simp [h3] <;> omega))
  clear h
  go_enter Try.func131, Try.ntmps131
  go_wp2
  go_quiet ((go_at_call 146; exact HI.out _ _))
  go_wp2
  go_ret2
  exact ⟨rfl, zq (Below.refl _ _) _⟩
theorem pc_lit1 (W : World) (x : Int) : Kd.V (Kd.int .i64) 3 (W.alloc (.cells #[.int .i64 x] 3)) 0 (fun k => W.heap.size ≤ k) (.slice (some ⟨W.heap.size, 0, none⟩) 1 1) [x] := by
 have h := Go.Proofs.YtlmoemahamneoaaW.PrintWords.own_lit W 0 3 .i64 [x] (Nat.zero_le _) (by simp)
 have hR : Kd.R (Kd.int .i64) 3 (W.alloc (.cells #[.int .i64 x] 3)) 0 (fun k => W.heap.size ≤ k) (.slice (some ⟨W.heap.size, 0, none⟩) 1 1) [x] := Kd.R_of_own h (fun k hk => by simp [Value.ownBlock] at hk; omega)
 exact Kd.R_V hR
theorem rows_start (base : Nat) (W : World) (hb : base ≤ W.heap.size) : RowsAt base (.slice (some ⟨W.heap.size + 1, 0, none⟩) 1 1) [[0, 1]] ((W.alloc (.cells #[.int .i64 0, .int .i64 1] 3)).alloc (.cells #[.slice (some ⟨W.heap.size, 0, none⟩) 2 2] 29)) := by
 have hs : (W.alloc (.cells #[.int .i64 0, .int .i64 1] 3)).heap.size = W.heap.size + 1 := World.size_alloc ..
 have h := Go.Proofs.YtlmoemahamneoaaW.PrintWords.own_lit W 0 3 .i64 [0, 1] (Nat.zero_le _) (by simp)
 have hR : Kd.R (Kd.int .i64) 3 (W.alloc (.cells #[.int .i64 0, .int .i64 1] 3)) 0 (fun k => W.heap.size ≤ k) (.slice (some ⟨W.heap.size, 0, none⟩) 2 2) [0, 1] := Kd.R_of_own h (fun k hk => by simp [Value.ownBlock] at hk; omega)
 have h2 := World.ownsRow_lit (base := base) (e := 29) (size := 1) (W.alloc (.cells #[.int .i64 0, .int .i64 1] 3)) #[.slice (some ⟨W.heap.size, 0, none⟩) 2 2] 1 (by rw [hs]; omega) (by decide) rfl
 rw [hs] at h2
 refine Kd.N_made (d := dLL) (W := W.alloc (.cells #[.int .i64 0, .int .i64 1] 3)) (rows := [[.slice (some ⟨W.heap.size, 0, none⟩) 2 2]]) (okp := fun k => W.heap.size ≤ k) ⟨fun k hk => ?_, [.slice (some ⟨W.heap.size, 0, none⟩) 2 2], by exact h2, ?_⟩ (World.grownBy_alloc _ _ _) ⟨W.heap.size + 1, rfl, by rw [hs]; exact Nat.le_refl _⟩ rfl (fun j x c hx hc => ?_) (fun k hk => Nat.le_trans hb hk) (by rw [hs]; omega)
 ·simp [Value.ownBlock] at hk; rw [hs]; omega
 ·exact ⟨rfl, fun j p hj => by
   rcases j with _ | j
   ·simp only [List.getElem?_cons_zero, Option.some.injEq] at hj
    subst hj
    exact ⟨rfl, rfl, fun u hu => by
     have hu : u ∈ [Value.slice (some ⟨W.heap.size, 0, none⟩) 2 2] := hu
     rw [List.mem_singleton] at hu
     subst hu; rfl⟩
   ·simp at hj⟩
 ·rcases j with _ | j
  ·simp only [List.getElem?_cons_zero, Option.some.injEq] at hx hc
   subst hx
   subst hc
   exact Kd.FK_slice_mk (by simp) (Kd.R_F hR)
  ·simp at hx
theorem pc_lit2 (w1 : World) (x : Int) : Kd.V (Kd.int .i64) 3 ((w1.alloc (.cells #[] 3)).alloc (.cells #[.int .i64 x] 3)) 0 (fun k => w1.heap.size ≤ k) (.slice (some ⟨w1.heap.size + 1, 0, none⟩) 1 1) [x] := by
 have h := pc_lit1 (w1.alloc (.cells #[] 3)) x
 rw [World.size_alloc] at h
 exact Kd.V_mono h (fun k hk => by omega)
theorem pc_close {w1 W W3 : World} {b : Nat} {u : Value} {nx : List Int} (h : Below w1.heap.size w1 W) (hV : Kd.V (Kd.int .i64) 3 W3 b (fun k => W.heap.size ≤ k) u nx) (hB : Below W.heap.size W W3) : Kd.V (Kd.int .i64) 3 W3 0 (fun k => w1.heap.size ≤ k) u nx ∧ Below w1.heap.size w1 W3 :=
 ⟨Kd.V_mono hV (fun _ hk => Nat.le_trans h.size hk), below_then h h.size hB⟩
theorem pc_fk {W : World} {okp : Nat → Prop} {A : Option Addr} {c : Nat} {nx : List Int} (h : Kd.V (Kd.int .i64) 3 W 0 okp (.slice A nx.length c) nx) : Kd.FK dLL W okp nx [.slice A nx.length c] := Kd.FK_slice_mk (Kd.V_reads' h).2.1 (Kd.V_F h)
theorem pc_base {base : Nat} {v : Value} {P : List (List Int)} {wr w1 : World} (h : RowsAt base v P wr) (hb : wr.heap.size ≤ w1.heap.size) (hbase : base ≤ wr.heap.size) : ∀ k, w1.heap.size ≤ k → base ≤ k ∧ some k ≠ v.ownBlock := fun k hk => ⟨by omega, fun e => by have := Kd.N_lt h k e.symm; omega⟩
theorem box_k (W : World) (x0 x1 x2 : Int) : (W.alloc (.cells #[.int .i64 x0, .int .i64 x1, .int .i64 x2] 109)).heap[W.heap.size]? = some (.cells #[.int .i64 x0, .int .i64 x1, .int .i64 x2] 109 (0, 0)) := blk_new W _
theorem box_b (W : World) (x0 x1 x2 : Int) : Below W.heap.size W (W.alloc (.cells #[.int .i64 x0, .int .i64 x1, .int .i64 x2] 109)) := (Below.refl _ W).alloc (Nat.le_refl _) _
set_option maxRecDepth 100000 in
set_option maxHeartbeats 8000000 in
theorem polys_yes (k : Nat) (B : Nat) (A0 : Option Addr) (c0 : Nat) (ops : List S109) (out : Int) (R : List (List Int)) (b : Bool) (w : World) (hC : Kd.C k109 w A0 ops.length ops) (hB : w.heap[B]? = some (.cells #[.slice A0 ops.length c0, .int .i64 out] 32 (0, 0))) (h1 : ops.length ≤ 120) (h2 : 0 ≤ out ∧ out ≤ (ops.length : Int)) (H : pcLoop k ops 0 [[0, 1]] = some (R, b)) :
  Calls Try.prog 131 #[.pointer (some ⟨B, 0, none⟩)] w fun e w' => ∃ v, e = .returned (.tuple #[v, .bool b]) ∧ RowsAt w.heap.size v R w' ∧ Below w.heap.size w w' := by
 have hb0 : w.cell? ⟨B, 0, none⟩ = some (.slice A0 ops.length c0) := (qw hB 0).trans rfl
 have hb1 : w.cell? ⟨B, 1, none⟩ = some (.int .i64 out) := (qw hB 1).trans rfl
 have hBlt := blk_lt hB
 have hne1 : B ≠ w.heap.size := by omega
 have hne2 : B ≠ w.heap.size + 1 := by omega
 have hd : decide ((120 : Int) < (ops.length : Int)) = false := decide_eq_false (by omega)
 have hd2 : decide (120 < ops.length) = false := decide_eq_false (by omega)
 have HI := Go.Lib.hid (pc_in out (ops.length : Int) true (by unfold impl_in.f; simp [h2.1, h2.2]))
 have HC := Go.Lib.hid hC
 have HH := Go.Lib.hid H
 have HL := Go.Lib.hid h1
 have hlen : ops.length ≤ 9223372036854775807 := by omega
 clear hB h2 hC H h1
 go_enter Try.func131, Try.ntmps131
 go_wp2
 go_quiet ((go_at_call 146; exact HI.out _ _))
 have hb0a : ((w.drewN nq).alloc (.cells #[.int .i64 0, .int .i64 1] 3)).cell? ⟨B, 0, none⟩ = some (.slice A0 ops.length c0) := (World.cell?_alloc_lt _ _ _ hBlt).trans hb0
 go_wp2
 have HS := Go.Lib.hid (rows_start w.heap.size (w.drewN nq) (Nat.le_refl _))
 go_loopg [4, 34] ops.length (fun gg v s wr => ∃ (i : Nat) (P : List (List Int)), s = .int .i64 i ∧ i ≤ ops.length ∧ ops.length - i ≤ gg ∧ Aside0 (pcLoop k (ops.drop i) i P = some (R, b)) ∧ Aside0 (Below w.heap.size w wr ∧ RowsAt w.heap.size v P wr))
 case atStart => exact ⟨0, [[0, 1]], rfl, Nat.zero_le _, by omega, ⟨HH.out⟩, ⟨((zq (Below.refl _ _) nq).alloc (Nat.le_refl _) _).alloc (by simp) _, HS.out⟩⟩
 case round =>
  obtain ⟨i, P, rfl, hin, hgg, HA, A⟩ := hrel
  by_cases hlt : i < ops.length
  ·have hltz : (i : Int) < (ops.length : Int) := by omega
   have H := HA.out
   rw [List.drop_eq_getElem_cons hlt] at H
   unfold pcLoop at H
   obtain ⟨o, ho⟩ : ∃ o, ops[i] = o := ⟨_, rfl⟩
   rw [ho] at H
   obtain ⟨s, hs, H⟩ := Option.bind_eq_some_iff.mp H
   unfold pcStep at hs
   obtain ⟨ok, hok, hs⟩ := Option.bind_eq_some_iff.mp hs
   obtain ⟨ad, e, hx0, hx1, hx2⟩ := at_T109 (yz HC.out A.out.1) (i : Int) (by omega) hltz
   have hrd : rd_T109 ops (i : Int) = o := by
    unfold rd_T109
    rw [Int.toNat_natCast, List.getD_eq_getElem?_getD, List.getElem?_eq_getElem hlt]; exact ho
   rw [hrd, Int.toNat_natCast] at hx0 hx1 hx2
   clear hrd ho
   subst e
   obtain ⟨x0, x1, x2⟩ := o
   dsimp only at hx0 hx1 hx2 hok hs
   have HOK := Go.Lib.hid (fun W => impl_Op_ok.calls k x0 x1 x2 (i : Int) ok W hok)
   have HIN := Go.Lib.hid hlt
   clear hok HA
   cases ok with
   | false =>
    rw [if_neg (by decide)] at hs
    obtain rfl := Option.some.inj hs
    simp only [Option.some.injEq, Prod.mk.injEq] at H
    obtain ⟨rfl, rfl⟩ := H
    clear hs
    go_wp2_with (go_at_call 205; refine (HOK.out _).mono ?_; rintro e w1 ⟨rfl, hb_⟩; have A2 := zz (zk (box_b wr x0 x1 x2) hb_); have hbx_ := qv (box_k wr x0 x1 x2) hb_; clear hb_; have hy0 : w1.cell? ⟨wr.heap.size, 0, none⟩ = some (.int .i64 x0) := (qw hbx_ 0).trans rfl; have hy1 : w1.cell? ⟨wr.heap.size, 1, none⟩ = some (.int .i64 x1) := (qw hbx_ 1).trans rfl; have hy2 : w1.cell? ⟨wr.heap.size, 2, none⟩ = some (.int .i64 x2) := (qw hbx_ 2).trans rfl; have hylt := blk_lt hbx_; clear hbx_)
    go_ret2
    exact ⟨_, rfl, Kd.N_nil _ _ _ _ _, A.out.1.trans (A2.out.mono A.out.1.size)⟩
   | true =>
    rw [if_pos rfl] at hs
    obtain ⟨nx, hnx, hs⟩ := Option.bind_eq_some_iff.mp hs
    obtain ⟨pb, hpb, hs⟩ := Option.bind_eq_some_iff.mp hs
    have HPOK := Go.Lib.hid hpb
    clear hpb
    unfold pcNext at hnx
    dsimp only at hnx
    have hsz := A.out.1.size
    by_cases k0 : x0 = 0
    ·subst k0
     rw [if_pos rfl] at hnx
     have HNX := Go.Lib.hid hnx
     clear hnx
     cases pb with
     | false =>
      rw [if_neg (by decide)] at hs
      obtain rfl := Option.some.inj hs
      simp only [Option.some.injEq, Prod.mk.injEq] at H
      obtain ⟨rfl, rfl⟩ := H
      clear hs
      go_wp2_with (first | (go_at_call 205; refine (HOK.out _).mono ?_; rintro e w1 ⟨rfl, hb_⟩; have A2 := zz (zk (box_b wr (0) x1 x2) hb_); have hbx_ := qv (box_k wr (0) x1 x2) hb_; clear hb_; have hy0 : w1.cell? ⟨wr.heap.size, 0, none⟩ = some (.int .i64 (0)) := (qw hbx_ 0).trans rfl; have hy1 : w1.cell? ⟨wr.heap.size, 1, none⟩ = some (.int .i64 x1) := (qw hbx_ 1).trans rfl; have hy2 : w1.cell? ⟨wr.heap.size, 2, none⟩ = some (.int .i64 x2) := (qw hbx_ 2).trans rfl; have hylt := blk_lt hbx_; clear hbx_) | (go_at_call 206; refine (impl_cut.calls k (fun k_ => w1.heap.size ≤ k_) _ _ [x1] nx _ (pc_lit2 w1 x1) HNX.out).mono ?_; rintro e W3 ⟨u, rfl, hV3, hB3⟩; obtain ⟨An, cn, rfl⟩ := Kd.V_slice hV3; replace hV3 : Kd.V (Kd.int .i64) 3 W3 0 (fun k_ => w1.heap.size ≤ k_) (.slice An nx.length cn) nx := Kd.V_mono hV3 (fun k_ hk_ => hk_.elim id (fun h_ => by simp at h_; omega)); replace hB3 : Below w1.heap.size w1 W3 := below_then (((Below.refl _ w1).alloc (Nat.le_refl _) _).alloc (by simp) _) (by simp; omega) hB3; have HV3 := Go.Lib.hid hV3; have HB3 := Go.Lib.hid (zk A2.out hB3); clear hV3 hB3) | (go_at_call 186; refine (impl_polynomialOk.calls An cn nx _ _ (Kd.V_reads' HV3.out).2.2 (Kd.V_reads' HV3.out).2.1 HPOK.out).mono ?_; rintro e w4 ⟨rfl, ⟨nd, rfl⟩⟩))
      go_ret2
      exact ⟨_, rfl, Kd.N_nil _ _ _ _ _, zq (A.out.1.trans (HB3.out.mono hsz)) _⟩
     | true =>
      rw [if_pos rfl] at hs
      obtain rfl := Option.some.inj hs
      dsimp only at H
      obtain ⟨hpl, H⟩ : P.length < 1000 ∧ pcLoop k (ops.drop (i + 1)) ((i : Int) + 1) (P ++ [nx]) = some (R, b) := by
       by_cases hpl : P.length < 1000
       ·rw [if_pos hpl] at H; exact ⟨hpl, H⟩
       ·rw [if_neg hpl] at H; cases H
      have HH2 := Go.Lib.hid H
      have HPL := Go.Lib.hid (show (P.length + 1) * 24 ≤ 140737488355328 by omega)
      clear hs H hpl
      go_wp2_with (first | (go_at_call 205; refine (HOK.out _).mono ?_; rintro e w1 ⟨rfl, hb_⟩; have A2 := zz (zk (box_b wr (0) x1 x2) hb_); have hbx_ := qv (box_k wr (0) x1 x2) hb_; clear hb_; have hy0 : w1.cell? ⟨wr.heap.size, 0, none⟩ = some (.int .i64 (0)) := (qw hbx_ 0).trans rfl; have hy1 : w1.cell? ⟨wr.heap.size, 1, none⟩ = some (.int .i64 x1) := (qw hbx_ 1).trans rfl; have hy2 : w1.cell? ⟨wr.heap.size, 2, none⟩ = some (.int .i64 x2) := (qw hbx_ 2).trans rfl; have hylt := blk_lt hbx_; clear hbx_) | (go_at_call 206; refine (impl_cut.calls k (fun k_ => w1.heap.size ≤ k_) _ _ [x1] nx _ (pc_lit2 w1 x1) HNX.out).mono ?_; rintro e W3 ⟨u, rfl, hV3, hB3⟩; obtain ⟨An, cn, rfl⟩ := Kd.V_slice hV3; replace hV3 : Kd.V (Kd.int .i64) 3 W3 0 (fun k_ => w1.heap.size ≤ k_) (.slice An nx.length cn) nx := Kd.V_mono hV3 (fun k_ hk_ => hk_.elim id (fun h_ => by simp at h_; omega)); replace hB3 : Below w1.heap.size w1 W3 := below_then (((Below.refl _ w1).alloc (Nat.le_refl _) _).alloc (by simp) _) (by simp; omega) hB3; have HV3 := Go.Lib.hid hV3; have HB3 := Go.Lib.hid (zk A2.out hB3); clear hV3 hB3) | (go_at_call 186; refine (impl_polynomialOk.calls An cn nx _ _ (Kd.V_reads' HV3.out).2.2 (Kd.V_reads' HV3.out).2.1 HPOK.out).mono ?_; rintro e w4 ⟨rfl, ⟨nd, rfl⟩⟩) | (at_builtin; refine Kd.N_append dLL (w0 := w) w.heap.size rfl (.tmp 92) (.tmp 94) 79 29 (.slice none 0 0) 24 rfl Try.underlying79 pc_info rfl (by decide) (by decide) _ P nx [.slice An nx.length cn] (fun k_ => w.heap.size ≤ k_) (fun k_ => w1.heap.size ≤ k_) rfl rfl (pc_fk (Kd.V_drewN HV3.out nd)) (pc_base A.out.2 A2.out.size hsz) (fun k_ hk_ => Nat.le_trans (Nat.le_trans hsz HB3.out.size) hk_) (yq (kz A.out.2 HB3.out) nd) (zq (A.out.1.trans (HB3.out.mono hsz)) nd) (Nat.le_trans hsz HB3.out.size) HPL.out ?_; intro v1 w5 hN hb5 _ _))
      go_roundg (ops.length - (i + 1))
      case measure => have := HIN.out; omega
      case rel => exact ⟨i + 1, P ++ [nx], by go_num, HIN.out, Nat.le_refl _, ⟨HH2.out⟩, ⟨hb5, hN⟩⟩
    by_cases k1 : x0 = 1
    ·subst k1
     rw [if_neg (by decide), if_pos rfl] at hnx
     obtain ⟨hb1_, hnx⟩ : ((0 ≤ x1 ∧ x1 < (P.length : Int)) ∧ 0 ≤ x2 ∧ x2 < (P.length : Int)) ∧ impl_sumOf.f k (rdLL P x1) (rdLL P x2) = some nx := by
      by_cases hb : (0 ≤ x1 ∧ x1 < (P.length : Int)) ∧ 0 ≤ x2 ∧ x2 < (P.length : Int)
      ·rw [if_pos hb] at hnx; exact ⟨hb, hnx⟩
      ·rw [if_neg hb] at hnx; cases hnx
     obtain ⟨g, cap, A1, c1, ev, hc1, hl1, hC1⟩ := rowsAt_get A.out.2 x1 hb1_.1.1 hb1_.1.2
     obtain ⟨g', cap', A2_, c2, ev', hc2, hl2, hC2⟩ := rowsAt_get A.out.2 x2 hb1_.2.1 hb1_.2.2
     subst ev
     cases ev'
     obtain ⟨⟨p1, p2⟩, p3, p4⟩ := hb1_
     have HNX := Go.Lib.hid hnx
     have HC1 := Go.Lib.hid hC1
     have HC2 := Go.Lib.hid hC2
     have HL1 := Go.Lib.hid hl1
     have HL2 := Go.Lib.hid hl2
     clear hnx hC1 hC2 hl1 hl2
     cases pb with
     | false =>
      rw [if_neg (by decide)] at hs
      obtain rfl := Option.some.inj hs
      simp only [Option.some.injEq, Prod.mk.injEq] at H
      obtain ⟨rfl, rfl⟩ := H
      clear hs
      go_wp2_with (first | (go_at_call 205; refine (HOK.out _).mono ?_; rintro e w1 ⟨rfl, hb_⟩; have A2 := zz (zk (box_b wr (1) x1 x2) hb_); have hbx_ := qv (box_k wr (1) x1 x2) hb_; clear hb_; have hy0 : w1.cell? ⟨wr.heap.size, 0, none⟩ = some (.int .i64 (1)) := (qw hbx_ 0).trans rfl; have hy1 : w1.cell? ⟨wr.heap.size, 1, none⟩ = some (.int .i64 x1) := (qw hbx_ 1).trans rfl; have hy2 : w1.cell? ⟨wr.heap.size, 2, none⟩ = some (.int .i64 x2) := (qw hbx_ 2).trans rfl; have hylt := blk_lt hbx_; clear hbx_; have A3 := zz (A2.out.alloc A2.out.size (.cells #[] 3)); have hq1 := pw_cell_below A2.out hc1; have hq2 := pw_cell_below A2.out hc2; have hglt := jz _ _ hq1))
      refine wp_region_still_tail 10 (by kernel_rfl) (by kernel_rfl) ?_
      simp only [List.take_succ_cons, List.take_zero, List.drop_succ_cons, List.drop_zero]
      change wpStill _ _ (World.drew _) _ _ _
      repeat still_step
      refine wpStill_nil ?_
      change wpList _ _ _ _ _ (World.drew _)
      go_wp2_with (first | (go_at_call 207; refine (impl_sumOf.calls k _ _ (rdLL P x1) _ _ (rdLL P x2) nx _ (yz HC1.out (below_drew A3.out)) HL1.out (yz HC2.out (below_drew A3.out)) HL2.out HNX.out).mono ?_; rintro e W3 ⟨u, rfl, hV3, hB3⟩; obtain ⟨An, cn, rfl⟩ := Kd.V_slice hV3; replace hV3 : Kd.V (Kd.int .i64) 3 W3 0 (fun k_ => w1.heap.size ≤ k_) (.slice An nx.length cn) nx := Kd.V_mono hV3 (fun k_ hk_ => by simp at hk_; omega); replace hB3 : Below w1.heap.size w1 W3 := below_then (below_drew ((Below.refl _ w1).alloc (Nat.le_refl _) _)) (by simp) hB3; have HV3 := Go.Lib.hid hV3; have HB3 := Go.Lib.hid (zk A2.out hB3); clear hV3 hB3) | (go_at_call 186; refine (impl_polynomialOk.calls An cn nx _ _ (Kd.V_reads' HV3.out).2.2 (Kd.V_reads' HV3.out).2.1 HPOK.out).mono ?_; rintro e w4 ⟨rfl, ⟨nd, rfl⟩⟩))
      go_ret2
      exact ⟨_, rfl, Kd.N_nil _ _ _ _ _, zq (A.out.1.trans (HB3.out.mono hsz)) _⟩
     | true =>
      rw [if_pos rfl] at hs
      obtain rfl := Option.some.inj hs
      dsimp only at H
      obtain ⟨hpl, H⟩ : P.length < 1000 ∧ pcLoop k (ops.drop (i + 1)) ((i : Int) + 1) (P ++ [nx]) = some (R, b) := by
       by_cases hpl : P.length < 1000
       ·rw [if_pos hpl] at H; exact ⟨hpl, H⟩
       ·rw [if_neg hpl] at H; cases H
      have HH2 := Go.Lib.hid H
      have HPL := Go.Lib.hid (show (P.length + 1) * 24 ≤ 140737488355328 by omega)
      clear hs H hpl
      go_wp2_with (first | (go_at_call 205; refine (HOK.out _).mono ?_; rintro e w1 ⟨rfl, hb_⟩; have A2 := zz (zk (box_b wr (1) x1 x2) hb_); have hbx_ := qv (box_k wr (1) x1 x2) hb_; clear hb_; have hy0 : w1.cell? ⟨wr.heap.size, 0, none⟩ = some (.int .i64 (1)) := (qw hbx_ 0).trans rfl; have hy1 : w1.cell? ⟨wr.heap.size, 1, none⟩ = some (.int .i64 x1) := (qw hbx_ 1).trans rfl; have hy2 : w1.cell? ⟨wr.heap.size, 2, none⟩ = some (.int .i64 x2) := (qw hbx_ 2).trans rfl; have hylt := blk_lt hbx_; clear hbx_; have A3 := zz (A2.out.alloc A2.out.size (.cells #[] 3)); have hq1 := pw_cell_below A2.out hc1; have hq2 := pw_cell_below A2.out hc2; have hglt := jz _ _ hq1))
      refine wp_region_still_tail 10 (by kernel_rfl) (by kernel_rfl) ?_
      simp only [List.take_succ_cons, List.take_zero, List.drop_succ_cons, List.drop_zero]
      change wpStill _ _ (World.drew _) _ _ _
      repeat still_step
      refine wpStill_nil ?_
      change wpList _ _ _ _ _ (World.drew _)
      go_wp2_with (first | (go_at_call 207; refine (impl_sumOf.calls k _ _ (rdLL P x1) _ _ (rdLL P x2) nx _ (yz HC1.out (below_drew A3.out)) HL1.out (yz HC2.out (below_drew A3.out)) HL2.out HNX.out).mono ?_; rintro e W3 ⟨u, rfl, hV3, hB3⟩; obtain ⟨An, cn, rfl⟩ := Kd.V_slice hV3; replace hV3 : Kd.V (Kd.int .i64) 3 W3 0 (fun k_ => w1.heap.size ≤ k_) (.slice An nx.length cn) nx := Kd.V_mono hV3 (fun k_ hk_ => by simp at hk_; omega); replace hB3 : Below w1.heap.size w1 W3 := below_then (below_drew ((Below.refl _ w1).alloc (Nat.le_refl _) _)) (by simp) hB3; have HV3 := Go.Lib.hid hV3; have HB3 := Go.Lib.hid (zk A2.out hB3); clear hV3 hB3) | (go_at_call 186; refine (impl_polynomialOk.calls An cn nx _ _ (Kd.V_reads' HV3.out).2.2 (Kd.V_reads' HV3.out).2.1 HPOK.out).mono ?_; rintro e w4 ⟨rfl, ⟨nd, rfl⟩⟩) | (at_builtin; refine Kd.N_append dLL (w0 := w) w.heap.size rfl (.tmp 92) (.tmp 94) 79 29 (.slice none 0 0) 24 rfl Try.underlying79 pc_info rfl (by decide) (by decide) _ P nx [.slice An nx.length cn] (fun k_ => w.heap.size ≤ k_) (fun k_ => w1.heap.size ≤ k_) rfl rfl (pc_fk (Kd.V_drewN HV3.out nd)) (pc_base A.out.2 A2.out.size hsz) (fun k_ hk_ => Nat.le_trans (Nat.le_trans hsz HB3.out.size) hk_) (yq (kz A.out.2 HB3.out) nd) (zq (A.out.1.trans (HB3.out.mono hsz)) nd) (Nat.le_trans hsz HB3.out.size) HPL.out ?_; intro v1 w5 hN hb5 _ _))
      go_roundg (ops.length - (i + 1))
      case measure => have := HIN.out; omega
      case rel => exact ⟨i + 1, P ++ [nx], by go_num, HIN.out, Nat.le_refl _, ⟨HH2.out⟩, ⟨hb5, hN⟩⟩
    by_cases k2 : x0 = 2
    ·subst k2
     rw [if_neg (by decide), if_neg (by decide), if_pos rfl] at hnx
     obtain ⟨hb1_, hnx⟩ : (0 ≤ x1 ∧ x1 < (P.length : Int)) ∧ impl_productOf.f k (rdLL P x1) [x2] = some nx := by
      by_cases hb : 0 ≤ x1 ∧ x1 < (P.length : Int)
      ·rw [if_pos hb] at hnx; exact ⟨hb, hnx⟩
      ·rw [if_neg hb] at hnx; cases hnx
     obtain ⟨g, cap, A1, c1, ev, hc1, hl1, hC1⟩ := rowsAt_get A.out.2 x1 hb1_.1 hb1_.2
     subst ev
     obtain ⟨p1, p2⟩ := hb1_
     have HNX := Go.Lib.hid hnx
     have HC1 := Go.Lib.hid hC1
     have HL1 := Go.Lib.hid hl1
     clear hnx hC1 hl1
     cases pb with
     | false =>
      rw [if_neg (by decide)] at hs
      obtain rfl := Option.some.inj hs
      simp only [Option.some.injEq, Prod.mk.injEq] at H
      obtain ⟨rfl, rfl⟩ := H
      clear hs
      go_wp2_with (first | (go_at_call 205; refine (HOK.out _).mono ?_; rintro e w1 ⟨rfl, hb_⟩; have A2 := zz (zk (box_b wr (2) x1 x2) hb_); have hbx_ := qv (box_k wr (2) x1 x2) hb_; clear hb_; have hy0 : w1.cell? ⟨wr.heap.size, 0, none⟩ = some (.int .i64 (2)) := (qw hbx_ 0).trans rfl; have hy1 : w1.cell? ⟨wr.heap.size, 1, none⟩ = some (.int .i64 x1) := (qw hbx_ 1).trans rfl; have hy2 : w1.cell? ⟨wr.heap.size, 2, none⟩ = some (.int .i64 x2) := (qw hbx_ 2).trans rfl; have hylt := blk_lt hbx_; clear hbx_; have hq1 := pw_cell_below A2.out hc1; have hglt : g < w1.heap.size := jz _ _ hq1; have hgne : g ≠ w1.heap.size := (by omega); have hgne1 : g ≠ w1.heap.size + 1 := (by omega); have hbne1 : wr.heap.size ≠ w1.heap.size + 1 := (by omega); have HCA := Go.Lib.hid (yz HC1.out A2.out)))
      go_region_held3 (fun w' => w'.cell? ⟨wr.heap.size, 1, none⟩ = some (.int .i64 x1) ∧ w'.cell? ⟨wr.heap.size, 2, none⟩ = some (.int .i64 x2) ∧ w'.cell? ⟨g, x1.toNat, none⟩ = some (.slice A1 (rdLL P x1).length c1)) (first | go_keep | exact ⟨hy1', hy2', hq1'⟩) ((go_at_call 208; refine (impl_productOf.calls k _ _ (rdLL P x1) _ _ [x2] nx _ ?sa HL1.out ?sb (Nat.le_refl 1) HNX.out).mono ?_; (case sa => repeat (first | exact HCA.out | (with_reducible refine jx ?_ _) | (with_reducible refine jk ?_ _) | (with_reducible refine jv ?_))); (case sb => repeat (first | exact (Kd.V_reads' (pc_lit2 w1 x2)).2.2 | (with_reducible refine jk ?_ _) | (with_reducible refine jv ?_))); rintro e W3 ⟨u, rfl, hV3, hB3⟩; obtain ⟨An, cn, rfl⟩ := Kd.V_slice hV3; obtain ⟨hV3, hB3⟩ := pc_close (w1 := w1) (by repeat (first | (with_reducible first | exact Below.refl _ _ | apply zj | apply zq | apply zw) | exact Below.refl _ _)) hV3 hB3; have hy1' := pw_cell_below hB3 hy1; have hy2' := pw_cell_below hB3 hy2; have hq1' := pw_cell_below hB3 hq1; have HV3 := Go.Lib.hid hV3; have HB3 := Go.Lib.hid (zk A2.out hB3); clear hV3 hB3))
      go_wp2_with (first | (go_at_call 186; refine (impl_polynomialOk.calls An cn nx _ _ (Kd.V_reads' HV3.out).2.2 (Kd.V_reads' HV3.out).2.1 HPOK.out).mono ?_; rintro e w4 ⟨rfl, ⟨nd, rfl⟩⟩))
      go_ret2
      exact ⟨_, rfl, Kd.N_nil _ _ _ _ _, zq (A.out.1.trans (HB3.out.mono hsz)) _⟩
     | true =>
      rw [if_pos rfl] at hs
      obtain rfl := Option.some.inj hs
      dsimp only at H
      obtain ⟨hpl, H⟩ : P.length < 1000 ∧ pcLoop k (ops.drop (i + 1)) ((i : Int) + 1) (P ++ [nx]) = some (R, b) := by
       by_cases hpl : P.length < 1000
       ·rw [if_pos hpl] at H; exact ⟨hpl, H⟩
       ·rw [if_neg hpl] at H; cases H
      have HH2 := Go.Lib.hid H
      have HPL := Go.Lib.hid (show (P.length + 1) * 24 ≤ 140737488355328 by omega)
      clear hs H hpl
      go_wp2_with (first | (go_at_call 205; refine (HOK.out _).mono ?_; rintro e w1 ⟨rfl, hb_⟩; have A2 := zz (zk (box_b wr (2) x1 x2) hb_); have hbx_ := qv (box_k wr (2) x1 x2) hb_; clear hb_; have hy0 : w1.cell? ⟨wr.heap.size, 0, none⟩ = some (.int .i64 (2)) := (qw hbx_ 0).trans rfl; have hy1 : w1.cell? ⟨wr.heap.size, 1, none⟩ = some (.int .i64 x1) := (qw hbx_ 1).trans rfl; have hy2 : w1.cell? ⟨wr.heap.size, 2, none⟩ = some (.int .i64 x2) := (qw hbx_ 2).trans rfl; have hylt := blk_lt hbx_; clear hbx_; have hq1 := pw_cell_below A2.out hc1; have hglt : g < w1.heap.size := jz _ _ hq1; have hgne : g ≠ w1.heap.size := (by omega); have hgne1 : g ≠ w1.heap.size + 1 := (by omega); have hbne1 : wr.heap.size ≠ w1.heap.size + 1 := (by omega); have HCA := Go.Lib.hid (yz HC1.out A2.out)))
      go_region_held3 (fun w' => w'.cell? ⟨wr.heap.size, 1, none⟩ = some (.int .i64 x1) ∧ w'.cell? ⟨wr.heap.size, 2, none⟩ = some (.int .i64 x2) ∧ w'.cell? ⟨g, x1.toNat, none⟩ = some (.slice A1 (rdLL P x1).length c1)) (first | go_keep | exact ⟨hy1', hy2', hq1'⟩) ((go_at_call 208; refine (impl_productOf.calls k _ _ (rdLL P x1) _ _ [x2] nx _ ?sa HL1.out ?sb (Nat.le_refl 1) HNX.out).mono ?_; (case sa => repeat (first | exact HCA.out | (with_reducible refine jx ?_ _) | (with_reducible refine jk ?_ _) | (with_reducible refine jv ?_))); (case sb => repeat (first | exact (Kd.V_reads' (pc_lit2 w1 x2)).2.2 | (with_reducible refine jk ?_ _) | (with_reducible refine jv ?_))); rintro e W3 ⟨u, rfl, hV3, hB3⟩; obtain ⟨An, cn, rfl⟩ := Kd.V_slice hV3; obtain ⟨hV3, hB3⟩ := pc_close (w1 := w1) (by repeat (first | (with_reducible first | exact Below.refl _ _ | apply zj | apply zq | apply zw) | exact Below.refl _ _)) hV3 hB3; have hy1' := pw_cell_below hB3 hy1; have hy2' := pw_cell_below hB3 hy2; have hq1' := pw_cell_below hB3 hq1; have HV3 := Go.Lib.hid hV3; have HB3 := Go.Lib.hid (zk A2.out hB3); clear hV3 hB3))
      go_wp2_with (first | (go_at_call 186; refine (impl_polynomialOk.calls An cn nx _ _ (Kd.V_reads' HV3.out).2.2 (Kd.V_reads' HV3.out).2.1 HPOK.out).mono ?_; rintro e w4 ⟨rfl, ⟨nd, rfl⟩⟩) | (at_builtin; refine Kd.N_append dLL (w0 := w) w.heap.size rfl (.tmp 92) (.tmp 94) 79 29 (.slice none 0 0) 24 rfl Try.underlying79 pc_info rfl (by decide) (by decide) _ P nx [.slice An nx.length cn] (fun k_ => w.heap.size ≤ k_) (fun k_ => w1.heap.size ≤ k_) rfl rfl (pc_fk (Kd.V_drewN HV3.out nd)) (pc_base A.out.2 A2.out.size hsz) (fun k_ hk_ => Nat.le_trans (Nat.le_trans hsz HB3.out.size) hk_) (yq (kz A.out.2 HB3.out) nd) (zq (A.out.1.trans (HB3.out.mono hsz)) nd) (Nat.le_trans hsz HB3.out.size) HPL.out ?_; intro v1 w5 hN hb5 _ _))
      go_roundg (ops.length - (i + 1))
      case measure => have := HIN.out; omega
      case rel => exact ⟨i + 1, P ++ [nx], by go_num, HIN.out, Nat.le_refl _, ⟨HH2.out⟩, ⟨hb5, hN⟩⟩
    by_cases k3 : x0 = 3
    ·subst k3
     rw [if_neg (by decide), if_neg (by decide), if_neg (by decide), if_pos rfl] at hnx
     obtain ⟨hb1_, hnx⟩ : ((0 ≤ x1 ∧ x1 < (P.length : Int)) ∧ 0 ≤ x2 ∧ x2 < (P.length : Int)) ∧ impl_productOf.f k (rdLL P x1) (rdLL P x2) = some nx := by
      by_cases hb : (0 ≤ x1 ∧ x1 < (P.length : Int)) ∧ 0 ≤ x2 ∧ x2 < (P.length : Int)
      ·rw [if_pos hb] at hnx; exact ⟨hb, hnx⟩
      ·rw [if_neg hb] at hnx; cases hnx
     obtain ⟨g, cap, A1, c1, ev, hc1, hl1, hC1⟩ := rowsAt_get A.out.2 x1 hb1_.1.1 hb1_.1.2
     obtain ⟨g', cap', A2_, c2, ev', hc2, hl2, hC2⟩ := rowsAt_get A.out.2 x2 hb1_.2.1 hb1_.2.2
     subst ev
     cases ev'
     obtain ⟨⟨p1, p2⟩, p3, p4⟩ := hb1_
     have HNX := Go.Lib.hid hnx
     have HC1 := Go.Lib.hid hC1
     have HC2 := Go.Lib.hid hC2
     have HL1 := Go.Lib.hid hl1
     have HL2 := Go.Lib.hid hl2
     clear hnx hC1 hC2 hl1 hl2
     cases pb with
     | false =>
      rw [if_neg (by decide)] at hs
      obtain rfl := Option.some.inj hs
      simp only [Option.some.injEq, Prod.mk.injEq] at H
      obtain ⟨rfl, rfl⟩ := H
      clear hs
      go_wp2_with (first | (go_at_call 205; refine (HOK.out _).mono ?_; rintro e w1 ⟨rfl, hb_⟩; have A2 := zz (zk (box_b wr (3) x1 x2) hb_); have hbx_ := qv (box_k wr (3) x1 x2) hb_; clear hb_; have hy0 : w1.cell? ⟨wr.heap.size, 0, none⟩ = some (.int .i64 (3)) := (qw hbx_ 0).trans rfl; have hy1 : w1.cell? ⟨wr.heap.size, 1, none⟩ = some (.int .i64 x1) := (qw hbx_ 1).trans rfl; have hy2 : w1.cell? ⟨wr.heap.size, 2, none⟩ = some (.int .i64 x2) := (qw hbx_ 2).trans rfl; have hylt := blk_lt hbx_; clear hbx_; have A3 := zz (A2.out.alloc A2.out.size (.cells #[] 3)); have hq1 := pw_cell_below A2.out hc1; have hq2 := pw_cell_below A2.out hc2; have hglt := jz _ _ hq1))
      refine wp_region_still_tail 10 (by kernel_rfl) (by kernel_rfl) ?_
      simp only [List.take_succ_cons, List.take_zero, List.drop_succ_cons, List.drop_zero]
      change wpStill _ _ (World.drew _) _ _ _
      repeat still_step
      refine wpStill_nil ?_
      change wpList _ _ _ _ _ (World.drew _)
      go_wp2_with (first | (go_at_call 208; refine (impl_productOf.calls k _ _ (rdLL P x1) _ _ (rdLL P x2) nx _ (yz HC1.out (below_drew A3.out)) HL1.out (yz HC2.out (below_drew A3.out)) HL2.out HNX.out).mono ?_; rintro e W3 ⟨u, rfl, hV3, hB3⟩; obtain ⟨An, cn, rfl⟩ := Kd.V_slice hV3; replace hV3 : Kd.V (Kd.int .i64) 3 W3 0 (fun k_ => w1.heap.size ≤ k_) (.slice An nx.length cn) nx := Kd.V_mono hV3 (fun k_ hk_ => by simp at hk_; omega); replace hB3 : Below w1.heap.size w1 W3 := below_then (below_drew ((Below.refl _ w1).alloc (Nat.le_refl _) _)) (by simp) hB3; have HV3 := Go.Lib.hid hV3; have HB3 := Go.Lib.hid (zk A2.out hB3); clear hV3 hB3) | (go_at_call 186; refine (impl_polynomialOk.calls An cn nx _ _ (Kd.V_reads' HV3.out).2.2 (Kd.V_reads' HV3.out).2.1 HPOK.out).mono ?_; rintro e w4 ⟨rfl, ⟨nd, rfl⟩⟩))
      go_ret2
      exact ⟨_, rfl, Kd.N_nil _ _ _ _ _, zq (A.out.1.trans (HB3.out.mono hsz)) _⟩
     | true =>
      rw [if_pos rfl] at hs
      obtain rfl := Option.some.inj hs
      dsimp only at H
      obtain ⟨hpl, H⟩ : P.length < 1000 ∧ pcLoop k (ops.drop (i + 1)) ((i : Int) + 1) (P ++ [nx]) = some (R, b) := by
       by_cases hpl : P.length < 1000
       ·rw [if_pos hpl] at H; exact ⟨hpl, H⟩
       ·rw [if_neg hpl] at H; cases H
      have HH2 := Go.Lib.hid H
      have HPL := Go.Lib.hid (show (P.length + 1) * 24 ≤ 140737488355328 by omega)
      clear hs H hpl
      go_wp2_with (first | (go_at_call 205; refine (HOK.out _).mono ?_; rintro e w1 ⟨rfl, hb_⟩; have A2 := zz (zk (box_b wr (3) x1 x2) hb_); have hbx_ := qv (box_k wr (3) x1 x2) hb_; clear hb_; have hy0 : w1.cell? ⟨wr.heap.size, 0, none⟩ = some (.int .i64 (3)) := (qw hbx_ 0).trans rfl; have hy1 : w1.cell? ⟨wr.heap.size, 1, none⟩ = some (.int .i64 x1) := (qw hbx_ 1).trans rfl; have hy2 : w1.cell? ⟨wr.heap.size, 2, none⟩ = some (.int .i64 x2) := (qw hbx_ 2).trans rfl; have hylt := blk_lt hbx_; clear hbx_; have A3 := zz (A2.out.alloc A2.out.size (.cells #[] 3)); have hq1 := pw_cell_below A2.out hc1; have hq2 := pw_cell_below A2.out hc2; have hglt := jz _ _ hq1))
      refine wp_region_still_tail 10 (by kernel_rfl) (by kernel_rfl) ?_
      simp only [List.take_succ_cons, List.take_zero, List.drop_succ_cons, List.drop_zero]
      change wpStill _ _ (World.drew _) _ _ _
      repeat still_step
      refine wpStill_nil ?_
      change wpList _ _ _ _ _ (World.drew _)
      go_wp2_with (first | (go_at_call 208; refine (impl_productOf.calls k _ _ (rdLL P x1) _ _ (rdLL P x2) nx _ (yz HC1.out (below_drew A3.out)) HL1.out (yz HC2.out (below_drew A3.out)) HL2.out HNX.out).mono ?_; rintro e W3 ⟨u, rfl, hV3, hB3⟩; obtain ⟨An, cn, rfl⟩ := Kd.V_slice hV3; replace hV3 : Kd.V (Kd.int .i64) 3 W3 0 (fun k_ => w1.heap.size ≤ k_) (.slice An nx.length cn) nx := Kd.V_mono hV3 (fun k_ hk_ => by simp at hk_; omega); replace hB3 : Below w1.heap.size w1 W3 := below_then (below_drew ((Below.refl _ w1).alloc (Nat.le_refl _) _)) (by simp) hB3; have HV3 := Go.Lib.hid hV3; have HB3 := Go.Lib.hid (zk A2.out hB3); clear hV3 hB3) | (go_at_call 186; refine (impl_polynomialOk.calls An cn nx _ _ (Kd.V_reads' HV3.out).2.2 (Kd.V_reads' HV3.out).2.1 HPOK.out).mono ?_; rintro e w4 ⟨rfl, ⟨nd, rfl⟩⟩) | (at_builtin; refine Kd.N_append dLL (w0 := w) w.heap.size rfl (.tmp 92) (.tmp 94) 79 29 (.slice none 0 0) 24 rfl Try.underlying79 pc_info rfl (by decide) (by decide) _ P nx [.slice An nx.length cn] (fun k_ => w.heap.size ≤ k_) (fun k_ => w1.heap.size ≤ k_) rfl rfl (pc_fk (Kd.V_drewN HV3.out nd)) (pc_base A.out.2 A2.out.size hsz) (fun k_ hk_ => Nat.le_trans (Nat.le_trans hsz HB3.out.size) hk_) (yq (kz A.out.2 HB3.out) nd) (zq (A.out.1.trans (HB3.out.mono hsz)) nd) (Nat.le_trans hsz HB3.out.size) HPL.out ?_; intro v1 w5 hN hb5 _ _))
      go_roundg (ops.length - (i + 1))
      case measure => have := HIN.out; omega
      case rel => exact ⟨i + 1, P ++ [nx], by go_num, HIN.out, Nat.le_refl _, ⟨HH2.out⟩, ⟨hb5, hN⟩⟩
    rw [if_neg k0, if_neg k1, if_neg k2, if_neg k3] at hnx
    cases hnx
  ·have hltz : ¬ (i : Int) < (ops.length : Int) := by omega
   have H := HA.out
   rw [List.drop_of_length_le (by omega)] at H
   simp only [pcLoop, Option.some.injEq, Prod.mk.injEq] at H
   obtain ⟨rfl, rfl⟩ := H
   go_wp2
   go_ret2
   exact ⟨_, rfl, A.out.2, A.out.1⟩
theorem polys_in (k : Nat) (B : Nat) (A0 : Option Addr) (c0 : Nat) (ops : List S109) (out : Int) (R : List (List Int)) (b : Bool) (w : World) (hC : Kd.C k109 w A0 ops.length ops) (hB : w.heap[B]? = some (.cells #[.slice A0 ops.length c0, .int .i64 out] 32 (0, 0))) (H : polysF k ops out = some (R, b)) :
  Calls Try.prog 131 #[.pointer (some ⟨B, 0, none⟩)] w fun e w' => ∃ v, e = .returned (.tuple #[v, .bool b]) ∧ RowsAt w.heap.size v R w' ∧ Below w.heap.size w w' := by
 unfold polysF at H
 by_cases h1 : ops.length > 120
 ·rw [if_pos h1] at H
  simp only [Option.some.injEq, Prod.mk.injEq] at H
  obtain ⟨rfl, rfl⟩ := H
  exact (polys_no B A0 c0 ops out w hB hC.2.1 (.inl h1)).mono fun e w' ⟨he, hb⟩ => ⟨_, he, Kd.N_nil _ _ _ _ _, hb⟩
 ·rw [if_neg h1] at H
  by_cases h2 : 0 ≤ out ∧ out ≤ (ops.length : Int)
  ·rw [if_pos h2] at H
   exact polys_yes k B A0 c0 ops out R b w hC hB (by omega) h2 H
  ·rw [if_neg h2] at H
   simp only [Option.some.injEq, Prod.mk.injEq] at H
   obtain ⟨rfl, rfl⟩ := H
   exact (polys_no B A0 c0 ops out w hB hC.2.1 (.inr h2)).mono fun e w' ⟨he, hb⟩ => ⟨_, he, Kd.N_nil _ _ _ _ _, hb⟩
def impl_IsCode.f (k : Nat) (l0_0 : List (S109)) (a0_1 : Int) : Option (Bool) := (polysF k l0_0 a0_1).bind fun p => some p.2
theorem impl_IsCode.mono : ∀ (l0_0 : List (S109)) (a0_1 : Int) (k : Nat), LeO (impl_IsCode.f k l0_0 a0_1) (impl_IsCode.f (k + 1) l0_0 a0_1) := by
 intro l0_0 a0_1 k
 unfold impl_IsCode.f
 exact vk (polysF_mono _ _ _) (fun _ => vv _)
set_option maxRecDepth 100000 in
set_option maxHeartbeats 1000000 in
theorem impl_IsCode.calls (k : Nat) (A0_0 : Option Addr) (c0_0 : Nat) (l0_0 : List (S109)) (a0_1 : Int) (r : Bool) (w : World) (hr0_0 : Kd.C k109 w A0_0 l0_0.length l0_0) (hc0_0 : l0_0.length ≤ c0_0) (h : impl_IsCode.f k l0_0 a0_1 = some r) :
  Calls Try.prog 54 #[.agg #[.slice A0_0 l0_0.length c0_0, .int .i64 a0_1]] w fun e w' => e = .returned (.bool r) ∧ Below w.heap.size w w' := by
 unfold impl_IsCode.f at h
 obtain ⟨⟨R, b⟩, hp, h⟩ := Option.bind_eq_some_iff.mp h
 obtain rfl := Option.some.inj h
 have hb := (Below.refl w.heap.size w).alloc (Nat.le_refl _) (.cells #[.slice A0_0 l0_0.length c0_0, .int .i64 a0_1] 32)
 have HP := Go.Lib.hid (polys_in k w.heap.size A0_0 c0_0 l0_0 a0_1 R b (w.alloc (.cells #[.slice A0_0 l0_0.length c0_0, .int .i64 a0_1] 32)) (yz hr0_0 hb) (blk_new w _) hp)
 have HB := Go.Lib.hid hb
 clear hp h hb hr0_0 hc0_0
 go_enter Try.func54, Try.ntmps54
 go_wp2_with (go_at_call 131; refine HP.out.mono ?_; rintro e w' ⟨v, rfl, _, hb2⟩)
 go_ret
 exact ⟨rfl, below_then HB.out (by simp) hb2⟩
def impl_toldCode.f (k : Nat) (l0_0 : List (S109)) (a0_1 : Int) : Option ((List (S109)) × Int × Bool) := (impl_IsCode.f k l0_0 a0_1).bind fun t141 => (if t141 = true then (some (l0_0, a0_1, true)) else (some (([] : List (S109)), 0, false)))
theorem impl_toldCode.mono : ∀ a0 a1 k, LeO (impl_toldCode.f k a0 a1) (impl_toldCode.f (k + 1) a0 a1) := by
 intro a0 a1 k
 unfold impl_toldCode.f
 repeat' with_reducible first
   | exact impl_IsCode.mono _ _ _
   | exact vv _
   | exact LeO.none _
   | refine LeO.ite ?_ ?_
   | refine vk ?_ (fun _ => ?_)
set_option maxHeartbeats 8000000 in
set_option maxRecDepth 100000 in
theorem impl_toldCode.calls (k : Nat) (P0_0_ : Nat → Prop) (u9000_ : Value) (l0_0 : List (S109)) (a0_1 : Int) (r1 : List (S109)) (r2 : Int) (r3 : Bool) (w0 w : World) (hB : Below w0.heap.size w0 w) (ho0_0 : Kd.R k109 109 w w0.heap.size P0_0_ u9000_ l0_0) (h : impl_toldCode.f k l0_0 a0_1 = some (r1, r2, r3)) :
  Calls Try.prog 187 #[.agg #[u9000_, .int .i64 a0_1]] w fun e w' => ∃ v0_ : Value, e = .returned (.tuple #[.agg #[v0_, .int .i64 r2], .bool r3]) ∧ Kd.R k109 109 w' w0.heap.size (fun k_ => (P0_0_ k_ ∨ w.heap.size ≤ k_)) v0_ r1 ∧ Below w0.heap.size w0 w' ∧ Kept w w' (fun k_ => P0_0_ k_) := by
 have hu32 := Try.underlying32
 have HO0_0 := zz (show Kd.R k109 109 w w0.heap.size (fun k_ => (P0_0_ k_ ∨ w.heap.size ≤ k_)) u9000_ l0_0 from vq ho0_0 (fun k_ hk => (.inl hk)))
 have HK := zz (Kept.refl w (fun k_ => P0_0_ k_))
 have HW0 := zz hB.size
 have HB := zz hB
 clear hB
 have H : ((impl_IsCode.f k l0_0 a0_1).bind fun t141 => (if t141 = true then (some (l0_0, a0_1, true)) else (some (([] : List (S109)), 0, false)))) = some (r1, r2, r3) := h
 clear h
 replace H := Option.bind_eq_some_iff.mp H
 obtain ⟨t141, A20, H⟩ := H
 replace H : (if t141 = true then (some (l0_0, a0_1, true)) else (some (([] : List (S109)), 0, false))) = some (r1, r2, r3) := H
 have A2 := zz A20
 clear A20
 by_cases c3 : t141 = true
 ·subst c3
  have H1 : (some (l0_0, a0_1, true)) = some (r1, r2, r3) := by rw [if_pos rfl] at H; exact H
  clear H
  have H := H1
  clear H1
  simp only [Option.some.injEq, Prod.mk.injEq] at H
  obtain ⟨rfl, rfl, rfl⟩ := H
  obtain ⟨Ao4, co4, eo4⟩ := vx HO0_0.out
  subst eo4
  go_enter Try.func187, Try.ntmps187
  go_wp2_with (first | ((with_reducible refine yv (N := 1) rfl ?_); refine vz ?hg (N := 1) ?hd (cs := #[.slice Ao4 l0_0.length co4, .int .i64 a0_1]) (t := 32) ?hr ?_; (case hd => rfl); (case hg => rfl); (case hr => first | (go_simp; done) | (go_simp; rfl)); intro gb139 hg w5 hbox hb; have n0_ := zz (vj (by (with_reducible repeat (first | apply jq | apply jj | apply jw)); exact HO0_0.out) hb); have n1_ := zz (Kept.below (S := (fun k_ => P0_0_ k_)) (by repeat (with_reducible first | exact HK.out | apply Kept.alloc | apply Kept.drewN | apply Kept.drew)) hb); have n2_ := zz (zk (by repeat (with_reducible first | exact HB.out | apply zj | apply zq | apply zw)) hb); have n3_ := zz (hbox); have n4_ := zz ((by rw [hg]; exact (by first | exact HK.out.1 | exact (show Kept w _ (fun k_ => P0_0_ k_) from by repeat (with_reducible first | exact HK.out | apply Kept.alloc | apply Kept.drewN | apply Kept.drew)).1) : w.heap.size ≤ gb139)); have n5_ := zz ((by rw [hg]; exact (zv (by repeat (with_reducible first | exact HB.out | apply zj | apply zq | apply zw))) : w0.heap.size ≤ gb139)); clear HO0_0; clear HK; clear HB; have HO0_0 := n0_; have HK := n1_; have HB := n2_; have BK139 := n3_; have GW139 := n4_; have GE139 := n5_; clear n0_ n1_ n2_ n3_ n4_ n5_; clear hb hbox hg) | ((with_reducible refine yv (N := 2) rfl ?_); refine vz ?hg (N := 2) ?hd (cs := #[.slice none 0 0, .int .i64 0]) (t := 32) ?hr ?_; (case hd => rfl); (case hg => rfl); (case hr => first | (go_simp; done) | (go_simp; rfl)); intro gb140 hg w6 hbox hb; have n0_ := zz (vj (by (with_reducible repeat (first | apply jq | apply jj | apply jw)); exact HO0_0.out) hb); have n1_ := zz (qv (g := gb139) (o := .cells #[.slice Ao4 l0_0.length co4, .int .i64 a0_1] 32 (0, 0)) (by (with_reducible repeat (first | refine qq ?_ _ | refine qj ?_ | refine qz ?_ _)); exact BK139.out) hb); have n2_ := zz (Kept.below (S := (fun k_ => P0_0_ k_)) (by repeat (with_reducible first | exact HK.out | apply Kept.alloc | apply Kept.drewN | apply Kept.drew | refine Kept.setCell ?_ (.inr GW139.out) _)) hb); have n3_ := zz (zk (by repeat (with_reducible first | exact HB.out | apply zj | apply zq | apply zw | refine zx ?_ GE139.out)) hb); have n4_ := zz (hbox); have n5_ := zz ((by rw [hg]; exact (by first | exact HK.out.1 | exact (show Kept w _ (fun k_ => P0_0_ k_) from by repeat (with_reducible first | exact HK.out | apply Kept.alloc | apply Kept.drewN | apply Kept.drew | refine Kept.setCell ?_ (.inr GW139.out) _)).1) : w.heap.size ≤ gb140)); have n6_ := zz ((by rw [hg]; exact (zv (by repeat (with_reducible first | exact HB.out | apply zj | apply zq | apply zw | refine zx ?_ GE139.out))) : w0.heap.size ≤ gb140)); have n7_ := zz ((by rw [hg]; exact Nat.ne_of_lt (blk_lt (g := gb139) (o := .cells #[.slice Ao4 l0_0.length co4, .int .i64 a0_1] 32 (0, 0)) (by (with_reducible repeat (first | refine qq ?_ _ | refine qj ?_ | refine qz ?_ _)); exact BK139.out)) : gb139 ≠ gb140)); have n8_ := zz ((by rw [hg]; exact Nat.ne_of_gt (blk_lt (g := gb139) (o := .cells #[.slice Ao4 l0_0.length co4, .int .i64 a0_1] 32 (0, 0)) (by (with_reducible repeat (first | refine qq ?_ _ | refine qj ?_ | refine qz ?_ _)); exact BK139.out)) : gb140 ≠ gb139)); clear HO0_0; clear BK139; clear HK; clear HB; have HO0_0 := n0_; have BK139 := n1_; have HK := n2_; have HB := n3_; have BK140 := n4_; have GW140 := n5_; have GE140 := n6_; have NB139_140 := n7_; have NB140_139 := n8_; clear n0_ n1_ n2_ n3_ n4_ n5_ n6_ n7_ n8_; clear hb hbox hg; have hnb7 := NB139_140.out; have hnc7 := NB140_139.out; have hcz8_0 : w6.cell? ⟨gb139, 0, none⟩ = some (.slice Ao4 l0_0.length co4) := (qw BK139.out 0).trans rfl; have hcz8_1 : w6.cell? ⟨gb139, 1, none⟩ = some (.int .i64 a0_1) := (qw BK139.out 1).trans rfl; have hfz8_0 := qx BK139.out 0; have hfz8_1 := qx BK139.out 1) | ((with_reducible refine yk (f := 54) rfl ?_); refine goesL_ (some 5) rfl rfl Try.func54 (by kernel_rfl) rfl #[.agg #[.slice Ao4 l0_0.length co4, .int .i64 a0_1]] rfl (by (try simp only [yj, List.map_cons, List.map_nil]); first | done | rfl) ?_; (with_reducible refine (impl_IsCode.calls k _ _ l0_0 a0_1 true _ ?side1 ?side2 A2.out).mono ?_); (case side1 => repeat (first | exact (vw HO0_0.out).2.2 | (with_reducible refine jx ?_ _) | (with_reducible refine jk ?_ _) | (with_reducible refine jv ?_))); (case side2 => exact (vw HO0_0.out).2.1); rintro e w9 ⟨rfl, hb⟩; refine ⟨_, rfl, ?_⟩; have n0_ := zz (vj (by (with_reducible repeat (first | apply jq | apply jj | apply jw)); exact HO0_0.out) hb); have n1_ := zz (qv (g := gb139) (o := .cells #[.slice Ao4 l0_0.length co4, .int .i64 a0_1] 32 (0, 0)) (by (with_reducible repeat (first | refine qq ?_ _ | refine qj ?_ | refine qz ?_ _)); exact BK139.out) hb); have n2_ := zz (qv (g := gb140) (o := .cells #[.slice none 0 0, .int .i64 0] 32 (0, 0)) (by (with_reducible repeat (first | refine qq ?_ _ | refine qj ?_ | refine qz ?_ _)); exact BK140.out) hb); have n3_ := zz (Kept.below (S := (fun k_ => P0_0_ k_)) (by repeat (with_reducible first | exact HK.out | apply Kept.alloc | apply Kept.drewN | apply Kept.drew | refine Kept.setCell ?_ (.inr GW139.out) _ | refine Kept.setCell ?_ (.inr GW140.out) _)) hb); have n4_ := zz (zk (by repeat (with_reducible first | exact HB.out | apply zj | apply zq | apply zw | refine zx ?_ GE139.out | refine zx ?_ GE140.out)) hb); clear HO0_0; clear BK139; clear BK140; clear HK; clear HB; have HO0_0 := n0_; have BK139 := n1_; have BK140 := n2_; have HK := n3_; have HB := n4_; clear n0_ n1_ n2_ n3_ n4_; (try clear hb); (try clear hi hk); have hcz10_0 : w9.cell? ⟨gb139, 0, none⟩ = some (.slice Ao4 l0_0.length co4) := (qw BK139.out 0).trans rfl; have hcz10_1 : w9.cell? ⟨gb139, 1, none⟩ = some (.int .i64 a0_1) := (qw BK139.out 1).trans rfl; have hfz10_0 := qx BK139.out 0; have hfz10_1 := qx BK139.out 1; have hcz11_0 : w9.cell? ⟨gb140, 0, none⟩ = some (.slice none 0 0) := (qw BK140.out 0).trans rfl; have hcz11_1 : w9.cell? ⟨gb140, 1, none⟩ = some (.int .i64 0) := (qw BK140.out 1).trans rfl; have hfz11_0 := qx BK140.out 0; have hfz11_1 := qx BK140.out 1))
  refine bodyPost_ret (results_ct rfl _ _ gb140 32 #[.slice Ao4 l0_0.length co4, .int .i64 a0_1] (0, 0) _ rfl (by (with_reducible repeat (first | refine qq ?_ _ | refine qj ?_ | refine qz ?_ _)); refine qk (cs := #[.slice Ao4 l0_0.length co4, .int .i64 0]) ?_ 1 _ rfl; (with_reducible repeat (first | refine qq ?_ _ | refine qj ?_ | refine qz ?_ _)); refine qk (cs := #[.slice none 0 0, .int .i64 0]) ?_ 0 _ rfl; (with_reducible repeat (first | refine qq ?_ _ | refine qj ?_ | refine qz ?_ _)); exact BK140.out) Try.underlying32 rfl (by kernel_rfl)) rfl ?_
  exact ⟨_, by first | rfl | (simp <;> rfl) | (simp [*] <;> rfl), by (with_reducible repeat (first | apply jq | apply jj | apply jw)); exact vq (Kd.R_far (p := ⟨gb140, 1, none⟩) (Kd.R_far (p := ⟨gb140, 0, none⟩) (Kd.R_types HO0_0.out BK140.out (by decide)) (fun _ hk => hk.2) (.slice Ao4 l0_0.length co4)) (fun _ hk => hk.2) (.int .i64 a0_1)) (fun _ hk => hk.1), by repeat (with_reducible first | exact HB.out | apply zj | apply zq | apply zw | refine zx ?_ GE139.out | refine zx ?_ GE140.out), by repeat (with_reducible first | exact HK.out | apply Kept.alloc | apply Kept.drewN | apply Kept.drew | refine Kept.setCell ?_ (.inr GW139.out) _ | refine Kept.setCell ?_ (.inr GW140.out) _)⟩
 ·replace c3 := Bool.eq_false_iff.mpr c3
  subst c3
  have H1 : (some (([] : List (S109)), 0, false)) = some (r1, r2, r3) := by rw [if_neg (show ¬ (false = true) by decide)] at H; exact H
  clear H
  have H := H1
  clear H1
  simp only [Option.some.injEq, Prod.mk.injEq] at H
  obtain ⟨rfl, rfl, rfl⟩ := H
  obtain ⟨Ao12, co12, eo12⟩ := vx HO0_0.out
  subst eo12
  go_enter Try.func187, Try.ntmps187
  go_wp2_with (first | ((with_reducible refine yv (N := 1) rfl ?_); refine vz ?hg (N := 1) ?hd (cs := #[.slice Ao12 l0_0.length co12, .int .i64 a0_1]) (t := 32) ?hr ?_; (case hd => rfl); (case hg => rfl); (case hr => first | (go_simp; done) | (go_simp; rfl)); intro gb139 hg w13 hbox hb; have n0_ := zz (vj (by (with_reducible repeat (first | apply jq | apply jj | apply jw)); exact HO0_0.out) hb); have n1_ := zz (Kept.below (S := (fun k_ => P0_0_ k_)) (by repeat (with_reducible first | exact HK.out | apply Kept.alloc | apply Kept.drewN | apply Kept.drew)) hb); have n2_ := zz (zk (by repeat (with_reducible first | exact HB.out | apply zj | apply zq | apply zw)) hb); have n3_ := zz (hbox); have n4_ := zz ((by rw [hg]; exact (by first | exact HK.out.1 | exact (show Kept w _ (fun k_ => P0_0_ k_) from by repeat (with_reducible first | exact HK.out | apply Kept.alloc | apply Kept.drewN | apply Kept.drew)).1) : w.heap.size ≤ gb139)); have n5_ := zz ((by rw [hg]; exact (zv (by repeat (with_reducible first | exact HB.out | apply zj | apply zq | apply zw))) : w0.heap.size ≤ gb139)); clear HO0_0; clear HK; clear HB; have HO0_0 := n0_; have HK := n1_; have HB := n2_; have BK139 := n3_; have GW139 := n4_; have GE139 := n5_; clear n0_ n1_ n2_ n3_ n4_ n5_; clear hb hbox hg) | ((with_reducible refine yv (N := 2) rfl ?_); refine vz ?hg (N := 2) ?hd (cs := #[.slice none 0 0, .int .i64 0]) (t := 32) ?hr ?_; (case hd => rfl); (case hg => rfl); (case hr => first | (go_simp; done) | (go_simp; rfl)); intro gb140 hg w14 hbox hb; have n0_ := zz (vj (by (with_reducible repeat (first | apply jq | apply jj | apply jw)); exact HO0_0.out) hb); have n1_ := zz (qv (g := gb139) (o := .cells #[.slice Ao12 l0_0.length co12, .int .i64 a0_1] 32 (0, 0)) (by (with_reducible repeat (first | refine qq ?_ _ | refine qj ?_ | refine qz ?_ _)); exact BK139.out) hb); have n2_ := zz (Kept.below (S := (fun k_ => P0_0_ k_)) (by repeat (with_reducible first | exact HK.out | apply Kept.alloc | apply Kept.drewN | apply Kept.drew | refine Kept.setCell ?_ (.inr GW139.out) _)) hb); have n3_ := zz (zk (by repeat (with_reducible first | exact HB.out | apply zj | apply zq | apply zw | refine zx ?_ GE139.out)) hb); have n4_ := zz (hbox); have n5_ := zz ((by rw [hg]; exact (by first | exact HK.out.1 | exact (show Kept w _ (fun k_ => P0_0_ k_) from by repeat (with_reducible first | exact HK.out | apply Kept.alloc | apply Kept.drewN | apply Kept.drew | refine Kept.setCell ?_ (.inr GW139.out) _)).1) : w.heap.size ≤ gb140)); have n6_ := zz ((by rw [hg]; exact (zv (by repeat (with_reducible first | exact HB.out | apply zj | apply zq | apply zw | refine zx ?_ GE139.out))) : w0.heap.size ≤ gb140)); have n7_ := zz ((by rw [hg]; exact Nat.ne_of_lt (blk_lt (g := gb139) (o := .cells #[.slice Ao12 l0_0.length co12, .int .i64 a0_1] 32 (0, 0)) (by (with_reducible repeat (first | refine qq ?_ _ | refine qj ?_ | refine qz ?_ _)); exact BK139.out)) : gb139 ≠ gb140)); have n8_ := zz ((by rw [hg]; exact Nat.ne_of_gt (blk_lt (g := gb139) (o := .cells #[.slice Ao12 l0_0.length co12, .int .i64 a0_1] 32 (0, 0)) (by (with_reducible repeat (first | refine qq ?_ _ | refine qj ?_ | refine qz ?_ _)); exact BK139.out)) : gb140 ≠ gb139)); clear HO0_0; clear BK139; clear HK; clear HB; have HO0_0 := n0_; have BK139 := n1_; have HK := n2_; have HB := n3_; have BK140 := n4_; have GW140 := n5_; have GE140 := n6_; have NB139_140 := n7_; have NB140_139 := n8_; clear n0_ n1_ n2_ n3_ n4_ n5_ n6_ n7_ n8_; clear hb hbox hg; have hnb15 := NB139_140.out; have hnc15 := NB140_139.out; have hcz16_0 : w14.cell? ⟨gb139, 0, none⟩ = some (.slice Ao12 l0_0.length co12) := (qw BK139.out 0).trans rfl; have hcz16_1 : w14.cell? ⟨gb139, 1, none⟩ = some (.int .i64 a0_1) := (qw BK139.out 1).trans rfl; have hfz16_0 := qx BK139.out 0; have hfz16_1 := qx BK139.out 1) | ((with_reducible refine yk (f := 54) rfl ?_); refine goesL_ (some 5) rfl rfl Try.func54 (by kernel_rfl) rfl #[.agg #[.slice Ao12 l0_0.length co12, .int .i64 a0_1]] rfl (by (try simp only [yj, List.map_cons, List.map_nil]); first | done | rfl) ?_; (with_reducible refine (impl_IsCode.calls k _ _ l0_0 a0_1 false _ ?side1 ?side2 A2.out).mono ?_); (case side1 => repeat (first | exact (vw HO0_0.out).2.2 | (with_reducible refine jx ?_ _) | (with_reducible refine jk ?_ _) | (with_reducible refine jv ?_))); (case side2 => exact (vw HO0_0.out).2.1); rintro e w17 ⟨rfl, hb⟩; refine ⟨_, rfl, ?_⟩; have n0_ := zz (vj (by (with_reducible repeat (first | apply jq | apply jj | apply jw)); exact HO0_0.out) hb); have n1_ := zz (qv (g := gb139) (o := .cells #[.slice Ao12 l0_0.length co12, .int .i64 a0_1] 32 (0, 0)) (by (with_reducible repeat (first | refine qq ?_ _ | refine qj ?_ | refine qz ?_ _)); exact BK139.out) hb); have n2_ := zz (qv (g := gb140) (o := .cells #[.slice none 0 0, .int .i64 0] 32 (0, 0)) (by (with_reducible repeat (first | refine qq ?_ _ | refine qj ?_ | refine qz ?_ _)); exact BK140.out) hb); have n3_ := zz (Kept.below (S := (fun k_ => P0_0_ k_)) (by repeat (with_reducible first | exact HK.out | apply Kept.alloc | apply Kept.drewN | apply Kept.drew | refine Kept.setCell ?_ (.inr GW139.out) _ | refine Kept.setCell ?_ (.inr GW140.out) _)) hb); have n4_ := zz (zk (by repeat (with_reducible first | exact HB.out | apply zj | apply zq | apply zw | refine zx ?_ GE139.out | refine zx ?_ GE140.out)) hb); clear HO0_0; clear BK139; clear BK140; clear HK; clear HB; have HO0_0 := n0_; have BK139 := n1_; have BK140 := n2_; have HK := n3_; have HB := n4_; clear n0_ n1_ n2_ n3_ n4_; (try clear hb); (try clear hi hk); have hcz18_0 : w17.cell? ⟨gb140, 0, none⟩ = some (.slice none 0 0) := (qw BK140.out 0).trans rfl; have hcz18_1 : w17.cell? ⟨gb140, 1, none⟩ = some (.int .i64 0) := (qw BK140.out 1).trans rfl; have hfz18_0 := qx BK140.out 0; have hfz18_1 := qx BK140.out 1))
  refine bodyPost_ret (results_ct rfl _ _ gb140 32 #[.slice none 0 0, .int .i64 0] (0, 0) _ rfl (by (with_reducible repeat (first | refine qq ?_ _ | refine qj ?_ | refine qz ?_ _)); refine qk (cs := #[.slice none 0 0, .int .i64 0]) ?_ 1 _ rfl; (with_reducible repeat (first | refine qq ?_ _ | refine qj ?_ | refine qz ?_ _)); refine qk (cs := #[.slice none 0 0, .int .i64 0]) ?_ 0 _ rfl; (with_reducible repeat (first | refine qq ?_ _ | refine qj ?_ | refine qz ?_ _)); exact BK140.out) Try.underlying32 rfl (by kernel_rfl)) rfl ?_
  exact ⟨_, by first | rfl | (simp <;> rfl) | (simp [*] <;> rfl), by first | exact Kd.R_nil _ _ _ _ _ | exact Kd.N_nil _ _ _ _ _ | exact Kd.V_nil _ _ _ _ _ | exact Kd.Q_nil _ _ _ _ _ | exact Kd.S_nil _ _ _ _ _, by repeat (with_reducible first | exact HB.out | apply zj | apply zq | apply zw | refine zx ?_ GE139.out | refine zx ?_ GE140.out), by repeat (with_reducible first | exact HK.out | apply Kept.alloc | apply Kept.drewN | apply Kept.drew | refine Kept.setCell ?_ (.inr GW139.out) _ | refine Kept.setCell ?_ (.inr GW140.out) _)⟩
end Go.Proofs.Ytlmoemahamneoaa.PFnSchemesAgree
