-- Written by gprint.py, a program of this session, out of the translation (a changed print).
import Derived.Test.YtlmoemahamneoaaPFnSchemesAgreex0
namespace Go.Proofs.Ytlmoemahamneoaa.PFnSchemesAgree
open Go.RowKit Go.Proofs.YtlmoemahamneoaaW.PrintWords Go.Proofs.YtlmoemahamneoaaW.PrintLast Go.Proofs.YtlmoemahamneoaaW.PrintMore
open Go.Proofs.YtlmoemahamneoaaW.PrintWords.Aside0 renaming mk → zz
open Go.Proofs.YtlmoemahamneoaaW.PrintWords renaming pw_below_drewN → zq, below_alloc → zj, below_drew1 → zw, below_set → zx, below_step → zk, below_size → zv, blk_cell → qz, blk_frozen → qq, gate_callee → jj, gate_dst → jw, box_event → jx
open Go.World renaming block_lt_of_cell? → qj
open Go.Proofs.YtlmoemahamneoaaW.PrintWords.Kd renaming R_alloc → qw, R_drewN → qx, R_drew → qk, R_reads' → jk, R_slice → jv
open List renaming map_toArray → qv, length_drop → jz, length_take → jq
open Go.Proofs.YtlmoemahamneoaaW.PrintWords.LeO renaming bind → yz, refl → yq
open Go.Proofs.YtlmoemahamneoaaW.PrintLast renaming goesL_ → yj
attribute [local go_sem] max2_int min2_int max_two min_two max_three min_three max_four min_four
set_option linter.unusedVariables false
set_option linter.unusedSimpArgs false
def laws_big.f (l0 : List Int) (l1 : List Int) : Option (Bool) := if (l0.length : Int) > 1048576 then (some true) else (some (decide ((l1.length : Int) > (wrap64 (1048576 - (l0.length : Int))))))
set_option maxHeartbeats 8000000 in
set_option maxRecDepth 100000 in
theorem laws_big.calls (A0 : Option Addr) (c0 : Nat) (l0 : List Int) (A1 : Option Addr) (c1 : Nat) (l1 : List Int) (r : Bool) (w : World) (hr0 : Kd.C (Kd.int .u8) w A0 l0.length l0) (hc0 : l0.length ≤ c0) (hr1 : Kd.C (Kd.int .u8) w A1 l1.length l1) (hc1 : l1.length ≤ c1) (h : laws_big.f l0 l1 = some r) :
  Calls Try.prog 14 #[.slice A0 l0.length c0, .slice A1 l1.length c1] w fun e w' => e = .returned (.bool r) ∧ Drawn0 w w' := by
 have HR0 := zz hr0
 have HC0 := zz hc0
 clear hr0 hc0
 have HR1 := zz hr1
 have HC1 := zz hc1
 clear hr1 hc1
 have H : (if (l0.length : Int) > 1048576 then (some true) else (some (decide ((l1.length : Int) > (wrap64 (1048576 - (l0.length : Int))))))) = some r := h
 clear h
 by_cases c3 : (l0.length : Int) > 1048576
 ·rw [if_pos c3] at H
  have c3b0 : decide (1048576 < (l0.length : Int)) = true := decide_eq_true c3
  have c3b1 : decide (1048576 < l0.length) = true := decide_eq_true (by omega)
  clear c3
  obtain rfl := Option.some.inj H
  go_enter Try.func14, Try.ntmps14
  go_wp2
  go_ret
  exact ⟨by first | rfl | (simp; done) | (simp [*]; done), by repeat (first | exact Drawn0.refl _ | apply Drawn0.step)⟩
 ·rw [if_neg c3] at H
  have c3b0 : decide (1048576 < (l0.length : Int)) = false := decide_eq_false c3
  have c3b1 : decide (1048576 < l0.length) = false := decide_eq_false (by omega)
  clear c3
  obtain rfl := Option.some.inj H
  go_enter Try.func14, Try.ntmps14
  go_wp2
  go_ret
  exact ⟨by first | rfl | (simp; done) | (simp [*]; done), by repeat (first | exact Drawn0.refl _ | apply Drawn0.step)⟩
def impl_in.f (a0 : Int) (a1 : Int) (a2 : Int) : Option (Bool) := if a0 ≥ a1 then (some (decide (a0 ≤ a2))) else (some false)
set_option maxHeartbeats 8000000 in
set_option maxRecDepth 100000 in
theorem impl_in.calls (a0 : Int) (a1 : Int) (a2 : Int) (r : Bool) (w : World) (h : impl_in.f a0 a1 a2 = some r) :
  Calls Try.prog 146 #[.int .i64 a0, .int .i64 a1, .int .i64 a2] w fun e w' => e = .returned (.bool r) ∧ Drawn0 w w' := by
 have H : (if a0 ≥ a1 then (some (decide (a0 ≤ a2))) else (some false)) = some r := h
 clear h
 by_cases c4 : a0 ≥ a1
 ·rw [if_pos c4] at H
  have c4b0 : decide (a1 ≤ a0) = true := decide_eq_true c4
  clear c4
  obtain rfl := Option.some.inj H
  go_enter Try.func146, Try.ntmps146
  go_wp2
  go_ret
  exact ⟨by first | rfl | (simp; done) | (simp [*]; done), by repeat (first | exact Drawn0.refl _ | apply Drawn0.step)⟩
 ·rw [if_neg c4] at H
  have c4b0 : decide (a1 ≤ a0) = false := decide_eq_false c4
  clear c4
  obtain rfl := Option.some.inj H
  go_enter Try.func146, Try.ntmps146
  go_wp2
  go_ret
  exact ⟨by first | rfl | (simp; done) | (simp [*]; done), by repeat (first | exact Drawn0.refl _ | apply Drawn0.step)⟩
def impl_giantOk.f (a0 : Int) : Option (Bool) := (impl_in.f a0 1 17).bind fun t101 => (some t101)
set_option maxHeartbeats 8000000 in
set_option maxRecDepth 100000 in
theorem impl_giantOk.calls (a0 : Int) (r : Bool) (w : World) (h : impl_giantOk.f a0 = some r) :
  Calls Try.prog 91 #[.int .i64 a0] w fun e w' => e = .returned (.bool r) ∧ Drawn0 w w' := by
 have H : ((impl_in.f a0 1 17).bind fun t101 => (some t101)) = some r := h
 clear h
 replace H := Option.bind_eq_some_iff.mp H
 obtain ⟨t101, A20, H⟩ := H
 replace H : (some t101) = some r := H
 have A2 := zz A20
 clear A20
 obtain rfl := Option.some.inj H
 go_enter Try.func91, Try.ntmps91
 go_wp2_with (first | ((with_reducible refine jj (f := 146) rfl ?_); refine yj (some 4) rfl rfl Try.func146 (by kernel_rfl) rfl #[.int .i64 a0, .int .i64 1, .int .i64 17] rfl (by (try simp only [qv, List.map_cons, List.map_nil]); first | done | rfl) ?_; (with_reducible refine (impl_in.calls a0 1 17 t101 _ A2.out).mono ?_); rintro e w' ⟨rfl, ⟨nd, rfl⟩⟩; refine ⟨_, rfl, ?_⟩))
 go_ret
 exact ⟨by first | rfl | (simp; done) | (simp [*]; done), by repeat (first | exact Drawn0.refl _ | apply Drawn0.step)⟩
def impl_coefOk.f (a0 : Int) : Option (Bool) := (impl_in.f a0 (-1000000) 1000000).bind fun t102 => (some t102)
set_option maxHeartbeats 8000000 in
set_option maxRecDepth 100000 in
theorem impl_coefOk.calls (a0 : Int) (r : Bool) (w : World) (h : impl_coefOk.f a0 = some r) :
  Calls Try.prog 134 #[.int .i64 a0] w fun e w' => e = .returned (.bool r) ∧ Drawn0 w w' := by
 have H : ((impl_in.f a0 (-1000000) 1000000).bind fun t102 => (some t102)) = some r := h
 clear h
 replace H := Option.bind_eq_some_iff.mp H
 obtain ⟨t102, A20, H⟩ := H
 replace H : (some t102) = some r := H
 have A2 := zz A20
 clear A20
 obtain rfl := Option.some.inj H
 go_enter Try.func134, Try.ntmps134
 go_wp2_with (first | ((with_reducible refine jj (f := 146) rfl ?_); refine yj (some 4) rfl rfl Try.func146 (by kernel_rfl) rfl #[.int .i64 a0, .int .i64 (-1000000), .int .i64 1000000] rfl (by (try simp only [qv, List.map_cons, List.map_nil]); first | done | rfl) ?_; (with_reducible refine (impl_in.calls a0 (-1000000) 1000000 t102 _ A2.out).mono ?_); rintro e w' ⟨rfl, ⟨nd, rfl⟩⟩; refine ⟨_, rfl, ?_⟩))
 go_ret
 exact ⟨by first | rfl | (simp; done) | (simp [*]; done), by repeat (first | exact Drawn0.refl _ | apply Drawn0.step)⟩
def impl_polynomialOk_1.f (a0 : Int) : Option (Bool) := (impl_coefOk.f a0).bind fun t103 => (some (!t103))
set_option maxHeartbeats 8000000 in
set_option maxRecDepth 100000 in
theorem impl_polynomialOk_1.calls (a0 : Int) (r : Bool) (w : World) (h : impl_polynomialOk_1.f a0 = some r) :
  Calls Try.prog 234 #[.int .i64 a0] w fun e w' => e = .returned (.bool r) ∧ Drawn0 w w' := by
 have H : ((impl_coefOk.f a0).bind fun t103 => (some (!t103))) = some r := h
 clear h
 replace H := Option.bind_eq_some_iff.mp H
 obtain ⟨t103, A20, H⟩ := H
 replace H : (some (!t103)) = some r := H
 have A2 := zz A20
 clear A20
 obtain rfl := Option.some.inj H
 go_enter Try.func234, Try.ntmps234
 go_wp2_with (first | ((with_reducible refine jj (f := 134) rfl ?_); refine yj (some 4) rfl rfl Try.func134 (by kernel_rfl) rfl #[.int .i64 a0] rfl (by (try simp only [qv, List.map_cons, List.map_nil]); first | done | rfl) ?_; (with_reducible refine (impl_coefOk.calls a0 t103 _ A2.out).mono ?_); rintro e w' ⟨rfl, ⟨nd, rfl⟩⟩; refine ⟨_, rfl, ?_⟩))
 go_ret
 exact ⟨by first | rfl | (simp; done) | (simp [*]; done), by repeat (first | exact Drawn0.refl _ | apply Drawn0.step)⟩
def polyB (l : List Int) : Bool := decide (l.length ≤ 17) && l.all fun d => decide (-1000000 ≤ d) && decide (d ≤ 1000000)
def impl_polynomialOk.f (l0 : List Int) : Option (Bool) := some (polyB l0)
set_option maxHeartbeats 1000000 in
set_option maxRecDepth 100000 in
theorem impl_polynomialOk.calls (A0 : Option Addr) (c0 : Nat) (l0 : List Int) (r : Bool) (w : World) (hr0 : Kd.C (Kd.int .i64) w A0 l0.length l0) (hc0 : l0.length ≤ c0) (h : impl_polynomialOk.f l0 = some r) :
  Calls Try.prog 186 #[.slice A0 l0.length c0] w fun e w' => e = .returned (.bool r) ∧ Drawn0 w w' := by
 have hcon : Calls Try.prog 147 #[.slice A0 l0.length c0, .func (.func 234) #[] #[]] w fun e w' => e = .returned (.bool (l0.any fun d => !(decide (-1000000 ≤ d) && decide (d ≤ 1000000)))) ∧ Drawn0 w w' := by
  rcases YtlmoemahamneoaaHand.int_slice hr0 with h0 | ⟨b, off, rfl, _, hcells⟩
  ·subst h0
   exact (Try.slices_ContainsFunc_empty_f147 (α := Int) A0 c0 _ w).mono fun e w' ⟨he, hw⟩ => ⟨he, by rw [hw]; exact Drawn0.refl _⟩
  ·have eg : ∀ args w, (callFunc 234 args).run Try.prog w = .ok (.enter 234 args) w := enters_of Try.func234 (by kernel_rfl) rfl
   have hp : Go.Proofs.PredAt Try.prog 234 #[] (Value.int .i64) (fun d => !(decide (-1000000 ≤ d) && decide (d ≤ 1000000))) w := fun W x _ => by
    show Calls Try.prog 234 #[.int .i64 x] W _
    refine (impl_polynomialOk_1.calls x (!(decide (-1000000 ≤ x) && decide (x ≤ 1000000))) W ?_).mono fun e w' ⟨he, hw⟩ => ⟨he, YtlmoemahamneoaaHand.of_drawn hw⟩
    simp only [impl_polynomialOk_1.f, impl_coefOk.f, impl_in.f, Option.bind_some]
    by_cases h1 : x ≥ -1000000
    ·simp [h1, show -1000000 ≤ x from h1]
    ·simp [h1, show ¬ -1000000 ≤ x from h1]
   have := Try.slices_ContainsFunc_f147 (Value.int .i64) _ 234 #[] eg b off l0.length c0 l0 w hp (Nat.le_refl _) (YtlmoemahamneoaaHand.int_len hr0) (fun j hj => by rw [hcells j hj, YtlmoemahamneoaaHand.getD_bang])
   rw [List.take_length] at this
   exact this.mono fun e w' ⟨he, hw⟩ => ⟨he, YtlmoemahamneoaaHand.drawn_of hw⟩
 obtain rfl := Option.some.inj h
 have e1 : polyB l0 = (decide (l0.length ≤ 17) && !(l0.any fun d => !(decide (-1000000 ≤ d) && decide (d ≤ 1000000)))) := by
  unfold polyB
  rw [List.not_any_eq_all_not]
  simp
 rw [e1]
 generalize (l0.any fun d => !(decide (-1000000 ≤ d) && decide (d ≤ 1000000))) = b at hcon ⊢
 clear hr0 hc0 h e1
 by_cases hl : l0.length ≤ 17
 ·have hd : decide ((l0.length : Int) ≤ 17) = true := decide_eq_true (by omega)
  go_enter Try.func186, Try.ntmps186
  go_wp2_with (go_at_call 147; refine hcon.mono ?_; rintro e w' ⟨rfl, ⟨⟨q, rfl⟩⟩⟩)
  go_ret
  exact ⟨by simp [hl], by repeat (first | exact Drawn0.refl _ | apply Drawn0.step)⟩
 ·have hd : decide ((l0.length : Int) ≤ 17) = false := decide_eq_false (by omega)
  clear hcon
  go_enter Try.func186, Try.ntmps186
  go_wp2
  go_ret
  exact ⟨by simp [hl], Drawn0.refl _⟩
def impl_coefsOk.f (l0 : List Int) : Option (Bool) := if (l0.length : Int) > 0 then ((impl_polynomialOk.f l0).bind fun t104 => (some t104)) else (some false)
set_option maxHeartbeats 8000000 in
set_option maxRecDepth 100000 in
theorem impl_coefsOk.calls (A0 : Option Addr) (c0 : Nat) (l0 : List Int) (r : Bool) (w : World) (hr0 : Kd.C (Kd.int .i64) w A0 l0.length l0) (hc0 : l0.length ≤ c0) (h : impl_coefsOk.f l0 = some r) :
  Calls Try.prog 95 #[.slice A0 l0.length c0] w fun e w' => e = .returned (.bool r) ∧ Drawn0 w w' := by
 have HR0 := zz hr0
 have HC0 := zz hc0
 clear hr0 hc0
 have H : (if (l0.length : Int) > 0 then ((impl_polynomialOk.f l0).bind fun t104 => (some t104)) else (some false)) = some r := h
 clear h
 by_cases c2 : (l0.length : Int) > 0
 ·rw [if_pos c2] at H
  have c2b0 : decide (0 < (l0.length : Int)) = true := decide_eq_true c2
  have c2b1 : decide (0 < l0.length) = true := decide_eq_true (by omega)
  clear c2
  replace H := Option.bind_eq_some_iff.mp H
  obtain ⟨t104, A30, H⟩ := H
  replace H : (some t104) = some r := H
  have A3 := zz A30
  clear A30
  obtain rfl := Option.some.inj H
  go_enter Try.func95, Try.ntmps95
  go_wp2_with (first | (go_at_call 186; (with_reducible refine (impl_polynomialOk.calls _ _ l0 t104 _ ?side1 ?side2 A3.out).mono ?_); (case side1 => repeat (first | exact HR0.out | (with_reducible refine Kd.C_alloc ?_ _) | (with_reducible refine Kd.C_drewN ?_ _) | (with_reducible refine Kd.C_drew ?_))); (case side2 => exact HC0.out); rintro e w' ⟨rfl, ⟨nd, rfl⟩⟩))
  go_ret
  exact ⟨by first | rfl | (simp; done) | (simp [*]; done), by repeat (first | exact Drawn0.refl _ | apply Drawn0.step)⟩
 ·rw [if_neg c2] at H
  have c2b0 : decide (0 < (l0.length : Int)) = false := decide_eq_false c2
  have c2b1 : decide (0 < l0.length) = false := decide_eq_false (by omega)
  clear c2
  obtain rfl := Option.some.inj H
  go_enter Try.func95, Try.ntmps95
  go_wp2
  go_ret
  exact ⟨by first | rfl | (simp; done) | (simp [*]; done), by repeat (first | exact Drawn0.refl _ | apply Drawn0.step)⟩
def impl_Op_ok.j0 : Nat → Int → Int → Bool → Int → Int → Int → Option (Bool)
 | 0, _, _, _, _, _, _ => none
 | k + 1, x1, x6, x17, x106000, x106001, x106002 => if x17 = true then ((impl_in.f x106001 0 x1).bind fun t107 => (if t107 = true then ((impl_in.f x106002 0 x1).bind fun t108 => (some t108)) else (some false))) else (if x6 = 2 then ((impl_in.f x106001 0 x1).bind fun t109 => (if t109 = true then ((impl_coefOk.f x106002).bind fun t110 => (some t110)) else (some false))) else (some false))
def impl_Op_ok.f (k : Nat) (a0_0 : Int) (a0_1 : Int) (a0_2 : Int) (a1 : Int) : Option (Bool) := if a0_0 = 0 then ((impl_coefOk.f a0_1).bind fun t106 => (if t106 = true then (some (a0_2 == 0)) else (some false))) else (if a0_0 = 1 then (impl_Op_ok.j0 k a1 a0_0 (a0_0 == 1) a0_0 a0_1 a0_2) else (impl_Op_ok.j0 k a1 a0_0 (a0_0 == 3) a0_0 a0_1 a0_2))
theorem impl_Op_ok.mono_l : ∀ k, (∀ y0 y1 y2 y3 y4 y5, LeO (impl_Op_ok.j0 k y0 y1 y2 y3 y4 y5) (impl_Op_ok.j0 (k + 1) y0 y1 y2 y3 y4 y5))
 | 0 => fun _ _ _ _ _ _ r h => by simp [impl_Op_ok.j0] at h
 | k + 1 => by
  have ih0 := impl_Op_ok.mono_l k
  ·intro y0 y1 y2 y3 y4 y5
   unfold impl_Op_ok.j0
   repeat' with_reducible first
   | exact ih0 _ _ _ _ _ _
   | exact yq _
   | exact LeO.none _
   | refine LeO.ite ?_ ?_
   | refine yz ?_ (fun _ => ?_)
theorem impl_Op_ok.mono : ∀ a0 a1 a2 a3 k, LeO (impl_Op_ok.f k a0 a1 a2 a3) (impl_Op_ok.f (k + 1) a0 a1 a2 a3) := by
 intro a0 a1 a2 a3 k
 have ih0 := impl_Op_ok.mono_l k
 unfold impl_Op_ok.f
 repeat' with_reducible first
   | exact ih0 _ _ _ _ _ _
   | exact yq _
   | exact LeO.none _
   | refine LeO.ite ?_ ?_
   | refine yz ?_ (fun _ => ?_)
set_option maxHeartbeats 8000000 in
set_option maxRecDepth 100000 in
theorem impl_Op_ok.calls (k : Nat) (a0_0 : Int) (a0_1 : Int) (a0_2 : Int) (a1 : Int) (r : Bool) (w : World) (h : impl_Op_ok.f k a0_0 a0_1 a0_2 a1 = some r) :
  Calls Try.prog 205 #[.agg #[.int .i64 a0_0, .int .i64 a0_1, .int .i64 a0_2], .int .i64 a1] w fun e w' => e = .returned (.bool r) ∧ Below w.heap.size w w' := by
 have hu109 := Try.underlying109
 have HB := zz (Below.refl w.heap.size w)
 have H : (if a0_0 = 0 then ((impl_coefOk.f a0_1).bind fun t106 => (if t106 = true then (some (a0_2 == 0)) else (some false))) else (if a0_0 = 1 then (impl_Op_ok.j0 k a1 a0_0 (a0_0 == 1) a0_0 a0_1 a0_2) else (impl_Op_ok.j0 k a1 a0_0 (a0_0 == 3) a0_0 a0_1 a0_2))) = some r := h
 clear h
 by_cases c3 : a0_0 = 0
 ·rw [if_pos c3] at H
  have c3b0 : (a0_0 == 0) = true := beq_iff_eq.mpr c3
  have c3b1 : (a0_0 != 0) = false := bne_eq_false_iff_eq.mpr c3
  clear c3
  replace H := Option.bind_eq_some_iff.mp H
  obtain ⟨t106, A40, H⟩ := H
  replace H : (if t106 = true then (some (a0_2 == 0)) else (some false)) = some r := H
  have A4 := zz A40
  clear A40
  by_cases c5 : t106 = true
  ·subst c5
   have H1 : (some (a0_2 == 0)) = some r := by rw [if_pos rfl] at H; exact H
   clear H
   have H := H1
   clear H1
   obtain rfl := Option.some.inj H
   go_enter Try.func205, Try.ntmps205
   go_wp2_with (first | ((with_reducible refine jw (N := 2) rfl ?_); refine jx ?hg (N := 2) ?hd (cs := #[.int .i64 a0_0, .int .i64 a0_1, .int .i64 a0_2]) (t := 109) ?hr ?_; (case hd => rfl); (case hg => rfl); (case hr => first | (go_simp; done) | (go_simp; rfl)); intro gb105 hg w6 hbox hb; have n0_ := zz (zk (by repeat (with_reducible first | exact HB.out | apply zj | apply zq | apply zw)) hb); have n1_ := zz (hbox); have n2_ := zz ((by rw [hg]; exact (zv (by repeat (with_reducible first | exact HB.out | apply zj | apply zq | apply zw))) : w.heap.size ≤ gb105)); have n3_ := zz ((by rw [hg]; exact (zv (by repeat (with_reducible first | exact HB.out | apply zj | apply zq | apply zw))) : w.heap.size ≤ gb105)); clear HB; have HB := n0_; have BK105 := n1_; have GW105 := n2_; have GE105 := n3_; clear n0_ n1_ n2_ n3_; clear hb hbox hg; have hcz7_0 : w6.cell? ⟨gb105, 0, none⟩ = some (.int .i64 a0_0) := (qz BK105.out 0).trans rfl; have hcz7_1 : w6.cell? ⟨gb105, 1, none⟩ = some (.int .i64 a0_1) := (qz BK105.out 1).trans rfl; have hcz7_2 : w6.cell? ⟨gb105, 2, none⟩ = some (.int .i64 a0_2) := (qz BK105.out 2).trans rfl; have hfz7_0 := qq BK105.out 0; have hfz7_1 := qq BK105.out 1; have hfz7_2 := qq BK105.out 2) | ((with_reducible refine jj (f := 134) rfl ?_); refine yj (some 11) rfl rfl Try.func134 (by kernel_rfl) rfl #[.int .i64 a0_1] rfl (by (try simp only [qv, List.map_cons, List.map_nil]); first | done | rfl) ?_; (with_reducible refine (impl_coefOk.calls a0_1 true _ A4.out).mono ?_); rintro e w' ⟨rfl, ⟨nd, rfl⟩⟩; refine ⟨_, rfl, ?_⟩))
   go_ret
   exact ⟨by first | rfl | (simp <;> rfl) | (simp [*] <;> rfl), by repeat (with_reducible first | exact HB.out | apply zj | apply zq | apply zw | refine zx ?_ GE105.out)⟩
  ·replace c5 := Bool.eq_false_iff.mpr c5
   subst c5
   have H1 : (some false) = some r := by rw [if_neg (show ¬ (false = true) by decide)] at H; exact H
   clear H
   have H := H1
   clear H1
   obtain rfl := Option.some.inj H
   go_enter Try.func205, Try.ntmps205
   go_wp2_with (first | ((with_reducible refine jw (N := 2) rfl ?_); refine jx ?hg (N := 2) ?hd (cs := #[.int .i64 a0_0, .int .i64 a0_1, .int .i64 a0_2]) (t := 109) ?hr ?_; (case hd => rfl); (case hg => rfl); (case hr => first | (go_simp; done) | (go_simp; rfl)); intro gb105 hg w8 hbox hb; have n0_ := zz (zk (by repeat (with_reducible first | exact HB.out | apply zj | apply zq | apply zw)) hb); have n1_ := zz (hbox); have n2_ := zz ((by rw [hg]; exact (zv (by repeat (with_reducible first | exact HB.out | apply zj | apply zq | apply zw))) : w.heap.size ≤ gb105)); have n3_ := zz ((by rw [hg]; exact (zv (by repeat (with_reducible first | exact HB.out | apply zj | apply zq | apply zw))) : w.heap.size ≤ gb105)); clear HB; have HB := n0_; have BK105 := n1_; have GW105 := n2_; have GE105 := n3_; clear n0_ n1_ n2_ n3_; clear hb hbox hg; have hcz9_0 : w8.cell? ⟨gb105, 0, none⟩ = some (.int .i64 a0_0) := (qz BK105.out 0).trans rfl; have hcz9_1 : w8.cell? ⟨gb105, 1, none⟩ = some (.int .i64 a0_1) := (qz BK105.out 1).trans rfl; have hcz9_2 : w8.cell? ⟨gb105, 2, none⟩ = some (.int .i64 a0_2) := (qz BK105.out 2).trans rfl; have hfz9_0 := qq BK105.out 0; have hfz9_1 := qq BK105.out 1; have hfz9_2 := qq BK105.out 2) | ((with_reducible refine jj (f := 134) rfl ?_); refine yj (some 11) rfl rfl Try.func134 (by kernel_rfl) rfl #[.int .i64 a0_1] rfl (by (try simp only [qv, List.map_cons, List.map_nil]); first | done | rfl) ?_; (with_reducible refine (impl_coefOk.calls a0_1 false _ A4.out).mono ?_); rintro e w' ⟨rfl, ⟨nd, rfl⟩⟩; refine ⟨_, rfl, ?_⟩))
   go_ret
   exact ⟨by first | rfl | (simp <;> rfl) | (simp [*] <;> rfl), by repeat (with_reducible first | exact HB.out | apply zj | apply zq | apply zw | refine zx ?_ GE105.out)⟩
 ·rw [if_neg c3] at H
  have c3b0 : (a0_0 == 0) = false := beq_eq_false_iff_ne.mpr c3
  have c3b1 : (a0_0 != 0) = true := bne_iff_ne.mpr c3
  have HC10 := zz H
  clear H
  go_enter Try.func205, Try.ntmps205
  go_upto_if 17 with (first | ((with_reducible refine jw (N := 2) rfl ?_); refine jx ?hg (N := 2) ?hd (cs := #[.int .i64 a0_0, .int .i64 a0_1, .int .i64 a0_2]) (t := 109) ?hr ?_; (case hd => rfl); (case hg => rfl); (case hr => first | (go_simp; done) | (go_simp; rfl)); intro gb105 hg w11 hbox hb; have n0_ := zz (zk (by repeat (with_reducible first | exact HB.out | apply zj | apply zq | apply zw)) hb); have n1_ := zz (hbox); have n2_ := zz ((by rw [hg]; exact (zv (by repeat (with_reducible first | exact HB.out | apply zj | apply zq | apply zw))) : w.heap.size ≤ gb105)); have n3_ := zz ((by rw [hg]; exact (zv (by repeat (with_reducible first | exact HB.out | apply zj | apply zq | apply zw))) : w.heap.size ≤ gb105)); clear HB; have HB := n0_; have BK105 := n1_; have GW105 := n2_; have GE105 := n3_; clear n0_ n1_ n2_ n3_; clear hb hbox hg; have hcz12_0 : w11.cell? ⟨gb105, 0, none⟩ = some (.int .i64 a0_0) := (qz BK105.out 0).trans rfl; have hcz12_1 : w11.cell? ⟨gb105, 1, none⟩ = some (.int .i64 a0_1) := (qz BK105.out 1).trans rfl; have hcz12_2 : w11.cell? ⟨gb105, 2, none⟩ = some (.int .i64 a0_2) := (qz BK105.out 2).trans rfl; have hfz12_0 := qq BK105.out 0; have hfz12_1 := qq BK105.out 1; have hfz12_2 := qq BK105.out 2))
  (try simp only [Act.put, List.setIfInBounds_toArray, List.set_cons_zero, List.set_cons_succ])
  go_cut [17] (fun v17 wc => ∃ (kq : Nat) (x17_9 : Bool), v17 = .bool x17_9 ∧ Aside0 (impl_Op_ok.j0 kq a1 a0_0 x17_9 a0_0 a0_1 a0_2 = some r) ∧ Aside0 (kq ≤ k) ∧ Aside0 (wc.heap[gb105]? = some (.cells #[.int .i64 a0_0, .int .i64 a0_1, .int .i64 a0_2] 109 (0, 0))) ∧ Aside0 (Below w.heap.size w wc))
  case first =>
   have H := HC10.out
   clear HC10
   by_cases c13 : a0_0 = 1
   ·rw [if_pos c13] at H
    have c13b0 : (a0_0 == 1) = true := beq_iff_eq.mpr c13
    have c13b1 : (a0_0 != 1) = false := bne_eq_false_iff_eq.mpr c13
    clear c13
    (first | rw [c13b0] | (simp only [i64_w, i32_w]; rw [c13b0]) | skip)
    have H' := zz H
    clear H
    go_wp2
    go_meet
    case rel => exact ⟨_, ((a0_0 == 1)), (by first | rfl | (simp; done) | (simp [*]; done)), H', ⟨by first | omega | exact Nat.le_refl _⟩, ⟨by (with_reducible repeat (first | refine blk_drewN ?_ _ | refine blk_drew ?_ | refine blk_alloc ?_ _)); exact BK105.out⟩, ⟨by repeat (with_reducible first | exact HB.out | apply zj | apply zq | apply zw | refine zx ?_ GE105.out)⟩⟩
   ·rw [if_neg c13] at H
    have c13b0 : (a0_0 == 1) = false := beq_eq_false_iff_ne.mpr c13
    have c13b1 : (a0_0 != 1) = true := bne_iff_ne.mpr c13
    (first | rw [c13b0] | (simp only [i64_w, i32_w]; rw [c13b0]) | skip)
    have H' := zz H
    clear H
    go_wp2
    go_meet
    case rel => exact ⟨_, ((a0_0 == 3)), (by first | rfl | (simp; done) | (simp [*]; done)), H', ⟨by first | omega | exact Nat.le_refl _⟩, ⟨by (with_reducible repeat (first | refine blk_drewN ?_ _ | refine blk_drew ?_ | refine blk_alloc ?_ _)); exact BK105.out⟩, ⟨by repeat (with_reducible first | exact HB.out | apply zj | apply zq | apply zw | refine zx ?_ GE105.out)⟩⟩
  case rest =>
   clear HC10
   try clear c1
   try clear c2
   try clear p2
   try clear c3
   try clear c3b0
   try clear c3b1
   try clear c5
   try clear c13
   try clear c13b0
   try clear c13b1
   try clear hcz12_0
   try clear hcz12_1
   try clear hcz12_2
   try clear hcz7_0
   try clear hcz7_1
   try clear hcz7_2
   try clear hcz9_0
   try clear hcz9_1
   try clear hcz9_2
   try clear hfz12_0
   try clear hfz12_1
   try clear hfz12_2
   try clear hfz7_0
   try clear hfz7_1
   try clear hfz7_2
   try clear hfz9_0
   try clear hfz9_1
   try clear hfz9_2
   obtain ⟨kq, x17_9, rfl, HA, HJ9, BK105, HB⟩ := hcut
   cases kq with
   | zero => exact absurd HA.out (by simp [impl_Op_ok.j0])
   | succ kj9 =>
    have H := HA.out
    clear HA
    simp only [impl_Op_ok.j0] at H
    by_cases c14 : x17_9 = true
    ·subst c14
     have H1 : ((impl_in.f a0_1 0 a1).bind fun t107 => (if t107 = true then ((impl_in.f a0_2 0 a1).bind fun t108 => (some t108)) else (some false))) = some r := by rw [if_pos rfl] at H; exact H
     clear H
     have H := H1
     clear H1
     replace H := Option.bind_eq_some_iff.mp H
     obtain ⟨t107, A150, H⟩ := H
     replace H : (if t107 = true then ((impl_in.f a0_2 0 a1).bind fun t108 => (some t108)) else (some false)) = some r := H
     have A15 := zz A150
     clear A150
     by_cases c16 : t107 = true
     ·subst c16
      have H1 : ((impl_in.f a0_2 0 a1).bind fun t108 => (some t108)) = some r := by rw [if_pos rfl] at H; exact H
      clear H
      have H := H1
      clear H1
      replace H := Option.bind_eq_some_iff.mp H
      obtain ⟨t108, A170, H⟩ := H
      replace H : (some t108) = some r := H
      have A17 := zz A170
      clear A170
      obtain rfl := Option.some.inj H
      have hcz18_0 : wc.cell? ⟨gb105, 0, none⟩ = some (.int .i64 a0_0) := (qz BK105.out 0).trans rfl
      have hcz18_1 : wc.cell? ⟨gb105, 1, none⟩ = some (.int .i64 a0_1) := (qz BK105.out 1).trans rfl
      have hcz18_2 : wc.cell? ⟨gb105, 2, none⟩ = some (.int .i64 a0_2) := (qz BK105.out 2).trans rfl
      have hfz18_0 := qq BK105.out 0
      have hfz18_1 := qq BK105.out 1
      have hfz18_2 := qq BK105.out 2
      go_wp2_with (first | ((with_reducible refine jj (f := 146) rfl ?_); refine yj (some 23) rfl rfl Try.func146 (by kernel_rfl) rfl #[.int .i64 a0_1, .int .i64 0, .int .i64 a1] rfl (by (try simp only [qv, List.map_cons, List.map_nil]); first | done | rfl) ?_; (with_reducible refine (impl_in.calls a0_1 0 a1 true _ A15.out).mono ?_); rintro e w' ⟨rfl, ⟨nd, rfl⟩⟩; refine ⟨_, rfl, ?_⟩) | (go_at_call 146; (with_reducible refine (impl_in.calls a0_2 0 a1 t108 _ A17.out).mono ?_); rintro e w' ⟨rfl, ⟨nd, rfl⟩⟩))
      go_ret
      exact ⟨by first | rfl | (simp <;> rfl) | (simp [*] <;> rfl), by repeat (with_reducible first | exact HB.out | apply zj | apply zq | apply zw | refine zx ?_ GE105.out)⟩
     ·replace c16 := Bool.eq_false_iff.mpr c16
      subst c16
      have H1 : (some false) = some r := by rw [if_neg (show ¬ (false = true) by decide)] at H; exact H
      clear H
      have H := H1
      clear H1
      obtain rfl := Option.some.inj H
      have hcz19_0 : wc.cell? ⟨gb105, 0, none⟩ = some (.int .i64 a0_0) := (qz BK105.out 0).trans rfl
      have hcz19_1 : wc.cell? ⟨gb105, 1, none⟩ = some (.int .i64 a0_1) := (qz BK105.out 1).trans rfl
      have hcz19_2 : wc.cell? ⟨gb105, 2, none⟩ = some (.int .i64 a0_2) := (qz BK105.out 2).trans rfl
      have hfz19_0 := qq BK105.out 0
      have hfz19_1 := qq BK105.out 1
      have hfz19_2 := qq BK105.out 2
      go_wp2_with (first | ((with_reducible refine jj (f := 146) rfl ?_); refine yj (some 23) rfl rfl Try.func146 (by kernel_rfl) rfl #[.int .i64 a0_1, .int .i64 0, .int .i64 a1] rfl (by (try simp only [qv, List.map_cons, List.map_nil]); first | done | rfl) ?_; (with_reducible refine (impl_in.calls a0_1 0 a1 false _ A15.out).mono ?_); rintro e w' ⟨rfl, ⟨nd, rfl⟩⟩; refine ⟨_, rfl, ?_⟩))
      go_ret
      exact ⟨by first | rfl | (simp <;> rfl) | (simp [*] <;> rfl), by repeat (with_reducible first | exact HB.out | apply zj | apply zq | apply zw | refine zx ?_ GE105.out)⟩
    ·replace c14 := Bool.eq_false_iff.mpr c14
     subst c14
     have H1 : (if a0_0 = 2 then ((impl_in.f a0_1 0 a1).bind fun t109 => (if t109 = true then ((impl_coefOk.f a0_2).bind fun t110 => (some t110)) else (some false))) else (some false)) = some r := by rw [if_neg (show ¬ (false = true) by decide)] at H; exact H
     clear H
     have H := H1
     clear H1
     by_cases c20 : a0_0 = 2
     ·rw [if_pos c20] at H
      have c20b0 : (a0_0 == 2) = true := beq_iff_eq.mpr c20
      have c20b1 : (a0_0 != 2) = false := bne_eq_false_iff_eq.mpr c20
      clear c20
      replace H := Option.bind_eq_some_iff.mp H
      obtain ⟨t109, A210, H⟩ := H
      replace H : (if t109 = true then ((impl_coefOk.f a0_2).bind fun t110 => (some t110)) else (some false)) = some r := H
      have A21 := zz A210
      clear A210
      by_cases c22 : t109 = true
      ·subst c22
       have H1 : ((impl_coefOk.f a0_2).bind fun t110 => (some t110)) = some r := by rw [if_pos rfl] at H; exact H
       clear H
       have H := H1
       clear H1
       replace H := Option.bind_eq_some_iff.mp H
       obtain ⟨t110, A230, H⟩ := H
       replace H : (some t110) = some r := H
       have A23 := zz A230
       clear A230
       obtain rfl := Option.some.inj H
       have hcz24_0 : wc.cell? ⟨gb105, 0, none⟩ = some (.int .i64 a0_0) := (qz BK105.out 0).trans rfl
       have hcz24_1 : wc.cell? ⟨gb105, 1, none⟩ = some (.int .i64 a0_1) := (qz BK105.out 1).trans rfl
       have hcz24_2 : wc.cell? ⟨gb105, 2, none⟩ = some (.int .i64 a0_2) := (qz BK105.out 2).trans rfl
       have hfz24_0 := qq BK105.out 0
       have hfz24_1 := qq BK105.out 1
       have hfz24_2 := qq BK105.out 2
       go_wp2_with (first | ((with_reducible refine jj (f := 146) rfl ?_); refine yj (some 35) rfl rfl Try.func146 (by kernel_rfl) rfl #[.int .i64 a0_1, .int .i64 0, .int .i64 a1] rfl (by (try simp only [qv, List.map_cons, List.map_nil]); first | done | rfl) ?_; (with_reducible refine (impl_in.calls a0_1 0 a1 true _ A21.out).mono ?_); rintro e w' ⟨rfl, ⟨nd, rfl⟩⟩; refine ⟨_, rfl, ?_⟩) | (go_at_call 134; (with_reducible refine (impl_coefOk.calls a0_2 t110 _ A23.out).mono ?_); rintro e w' ⟨rfl, ⟨nd, rfl⟩⟩))
       go_ret
       exact ⟨by first | rfl | (simp <;> rfl) | (simp [*] <;> rfl), by repeat (with_reducible first | exact HB.out | apply zj | apply zq | apply zw | refine zx ?_ GE105.out)⟩
      ·replace c22 := Bool.eq_false_iff.mpr c22
       subst c22
       have H1 : (some false) = some r := by rw [if_neg (show ¬ (false = true) by decide)] at H; exact H
       clear H
       have H := H1
       clear H1
       obtain rfl := Option.some.inj H
       have hcz25_0 : wc.cell? ⟨gb105, 0, none⟩ = some (.int .i64 a0_0) := (qz BK105.out 0).trans rfl
       have hcz25_1 : wc.cell? ⟨gb105, 1, none⟩ = some (.int .i64 a0_1) := (qz BK105.out 1).trans rfl
       have hcz25_2 : wc.cell? ⟨gb105, 2, none⟩ = some (.int .i64 a0_2) := (qz BK105.out 2).trans rfl
       have hfz25_0 := qq BK105.out 0
       have hfz25_1 := qq BK105.out 1
       have hfz25_2 := qq BK105.out 2
       go_wp2_with (first | ((with_reducible refine jj (f := 146) rfl ?_); refine yj (some 35) rfl rfl Try.func146 (by kernel_rfl) rfl #[.int .i64 a0_1, .int .i64 0, .int .i64 a1] rfl (by (try simp only [qv, List.map_cons, List.map_nil]); first | done | rfl) ?_; (with_reducible refine (impl_in.calls a0_1 0 a1 false _ A21.out).mono ?_); rintro e w' ⟨rfl, ⟨nd, rfl⟩⟩; refine ⟨_, rfl, ?_⟩))
       go_ret
       exact ⟨by first | rfl | (simp <;> rfl) | (simp [*] <;> rfl), by repeat (with_reducible first | exact HB.out | apply zj | apply zq | apply zw | refine zx ?_ GE105.out)⟩
     ·rw [if_neg c20] at H
      have c20b0 : (a0_0 == 2) = false := beq_eq_false_iff_ne.mpr c20
      have c20b1 : (a0_0 != 2) = true := bne_iff_ne.mpr c20
      obtain rfl := Option.some.inj H
      go_wp2
      go_ret
      exact ⟨by first | rfl | (simp <;> rfl) | (simp [*] <;> rfl), by repeat (with_reducible first | exact HB.out | apply zj | apply zq | apply zw | refine zx ?_ GE105.out)⟩
def impl_cut.l0 : Nat → List Int → Option (List Int)
 | 0, _ => none
 | k + 1, x0 => if (x0.length : Int) > 0 then (if 0 ≤ (wrap64 ((x0.length : Int) - 1)) then (if (wrap64 ((x0.length : Int) - 1)) < (x0.length : Int) then (if (rd x0 (wrap64 ((x0.length : Int) - 1))) = 0 then (if (wrap64 ((x0.length : Int) - 1)) ≤ (x0.length : Int) then (impl_cut.l0 k (x0.take ((wrap64 ((x0.length : Int) - 1)) : Int).toNat)) else (none)) else (some x0)) else (none)) else (none)) else (some x0)
def impl_cut.f (k : Nat) (l0 : List Int) : Option (List Int) := impl_cut.l0 k l0
theorem impl_cut.mono_l : ∀ k, (∀ y0, LeO (impl_cut.l0 k y0) (impl_cut.l0 (k + 1) y0))
 | 0 => fun _ r h => by simp [impl_cut.l0] at h
 | k + 1 => by
  have ih0 := impl_cut.mono_l k
  ·intro y0
   unfold impl_cut.l0
   repeat' with_reducible first
   | exact ih0 _
   | exact yq _
   | exact LeO.none _
   | refine LeO.ite ?_ ?_
   | refine yz ?_ (fun _ => ?_)
theorem impl_cut.mono : ∀ a0 k, LeO (impl_cut.f k a0) (impl_cut.f (k + 1) a0) := by
 intro a0 k
 have ih0 := impl_cut.mono_l k
 unfold impl_cut.f
 repeat' with_reducible first
   | exact ih0 _
   | exact yq _
   | exact LeO.none _
   | refine LeO.ite ?_ ?_
   | refine yz ?_ (fun _ => ?_)
set_option maxHeartbeats 8000000 in
set_option maxRecDepth 100000 in
theorem impl_cut.calls (k : Nat) (P0_ : Nat → Prop) (A0 : Option Addr) (c0 : Nat) (l0 : List Int) (r : List Int) (w : World) (hs0 : Kd.V (Kd.int .i64) 3 w w.heap.size (fun k_ => P0_ k_) (.slice A0 l0.length c0) l0) (h : impl_cut.f k l0 = some r) :
  Calls Try.prog 206 #[.slice A0 l0.length c0] w fun e w' => ∃ v0_ : Value, e = .returned (v0_) ∧ Kd.V (Kd.int .i64) 3 w' w.heap.size (fun k_ => (P0_ k_ ∨ w.heap.size ≤ k_)) v0_ r ∧ Below w.heap.size w w' := by
 have HO0 := zz (show Kd.V (Kd.int .i64) 3 w w.heap.size (fun k_ => (P0_ k_ ∨ w.heap.size ≤ k_)) (.slice A0 l0.length c0) l0 from Kd.V_mono hs0 (fun k_ hk => .inl hk))
 have HB := zz (Below.refl w.heap.size w)
 have H : (impl_cut.l0 k l0) = some r := h
 clear h
 have H' := zz H
 clear H
 go_enter Try.func206, Try.ntmps206
 go_wp2
 go_loopg [0] k (fun kq v0 w' => ∃ (x0_1 : List Int), Aside0 (impl_cut.l0 kq x0_1 = some r) ∧ Aside0 (kq ≤ k) ∧ Aside0 (Kd.V (Kd.int .i64) 3 w' w.heap.size (fun k_ => (P0_ k_ ∨ w.heap.size ≤ k_)) v0 x0_1) ∧ Aside0 (Below w.heap.size w w'))
 case atStart => exact ⟨(l0), H', ⟨Nat.le_refl _⟩, ⟨by (with_reducible repeat (first | apply Kd.V_alloc | apply Kd.V_drewN | apply Kd.V_drew)); exact HO0.out⟩, ⟨by repeat (with_reducible first | exact HB.out | apply zj | apply zq | apply zw)⟩⟩
 case round =>
  clear H'
  obtain ⟨x0_1, HA, HK1, HO_0, HB⟩ := hrel
  cases gk with
  | zero => exact absurd HA.out (by simp [impl_cut.l0])
  | succ k1 =>
   have H := HA.out
   clear HA
   simp only [impl_cut.l0] at H
   by_cases c2 : (x0_1.length : Int) > 0
   ·rw [if_pos c2] at H
    have c2b0 : decide (0 < (x0_1.length : Int)) = true := decide_eq_true c2
    have c2b1 : decide (0 < x0_1.length) = true := decide_eq_true (by omega)
    clear c2
    obtain ⟨ji3, hji3⟩ : ∃ j_ : Int, (wrap64 ((x0_1.length : Int) - 1)) = j_ := ⟨_, rfl⟩
    replace H : (if 0 ≤ (ji3) then (if (ji3) < (x0_1.length : Int) then (if (rd x0_1 (ji3)) = 0 then (if (ji3) ≤ (x0_1.length : Int) then (impl_cut.l0 k1 (x0_1.take ((ji3) : Int).toNat)) else (none)) else (some x0_1)) else (none)) else (none)) = some r := by first | (rw [hji3] at H; exact H) | (simp only [hji3] at H ⊢; exact H)
    have hji3w : (IntKind.i64.wrap ((x0_1.length : Int) - 1)) = ji3 := (i64_w _).trans hji3
    by_cases c4 : 0 ≤ (ji3)
    ·rw [if_pos c4] at H
     have c4b0 : decide (0 ≤ (ji3)) = true := decide_eq_true c4
     clear c4
     by_cases c5 : (ji3) < (x0_1.length : Int)
     ·rw [if_pos c5] at H
      have c5b0 : decide ((ji3) < (x0_1.length : Int)) = true := decide_eq_true c5
      clear c5
      by_cases c6 : (rd x0_1 (ji3)) = 0
      ·rw [if_pos c6] at H
       have c6b0 : ((rd x0_1 (ji3)) == 0) = true := beq_iff_eq.mpr c6
       have c6b1 : ((rd x0_1 (ji3)) != 0) = false := bne_eq_false_iff_eq.mpr c6
       clear c6
       have c7b0 := eq_true (of_decide_eq_true (by with_reducible assumption) : 0 ≤ (ji3))
       by_cases c8 : (ji3) ≤ (x0_1.length : Int)
       ·rw [if_pos c8] at H
        have c8b0 := eq_true c8
        have c8b1 : decide ((ji3) ≤ (x0_1.length : Int)) = true := decide_eq_true c8
        clear c8
        obtain ⟨y112, hy112⟩ : ∃ y_ : List Int, y_ = (x0_1.take ((ji3) : Int).toNat) := ⟨_, rfl⟩
        replace H : (impl_cut.l0 k1 y112) = some r := by first | (rw [hy112]; with_reducible exact H) | (have H2_ := (Option.bind_some _ _).symm.trans H; rw [hy112]; with_reducible exact H2_) | (have H2_ := (Option.bind_some _ _).symm.trans H; with_reducible exact H2_) | with_reducible exact H | (rw [hy112]; exact H) | exact H
        have Ny112 := zz hy112
        clear hy112
        have H' := zz H
        clear H
        obtain ⟨Ao9, co9, eo9⟩ := Kd.V_slice HO_0.out
        subst eo9
        have p111 : 0 ≤ ((ji3) : Int) := of_decide_eq_true (by with_reducible assumption)
        have q111 : (ji3) < (x0_1.length : Int) := of_decide_eq_true (by with_reducible assumption)
        obtain ⟨ad111, e111, hx111_0⟩ := Kd.at_int (Kd.V_reads' HO_0.out).2.2 (ji3) p111 q111
        cases e111
        replace p111 := eq_true p111
        replace q111 := eq_true q111
        have q10 : ((ji3) : Int) ≤ ((x0_1.length : Int) : Int) := of_decide_eq_true (by with_reducible assumption)
        obtain ⟨i010, hi010, _, hsz10, _⟩ := info_parts info3
        have hroom10 : x0_1.length ≤ co9 := (Kd.V_reads' HO_0.out).2.1
        have hC10 : Kd.F (Kd.int .i64) _ _ (some ad111) x0_1.length x0_1 := (Kd.V_at (base := w.heap.size) HO_0.out).2.2
        have hcut10 := cut_to (P := Try.prog) 29 3 .i64 Try.underlying29 hi010 (some ad111) x0_1.length co9 (ji3) (of_decide_eq_true (by with_reducible assumption)) q10 hroom10
        have hr10 := Kd.F_take (m := ((ji3) : Int).toNat) hC10 (by omega)
        have hy10 : y112.length = ((ji3) : Int).toNat := (by rw [Ny112.out, jq]; omega)
        rw [← Ny112.out] at hr10
        rw [← hy10] at hcut10
        have HO116 := zz (show Kd.V (Kd.int .i64) 3 _ w.heap.size _ (.slice (some ad111) y112.length co9) y112 from Kd.V_mk (by omega) hr10)
        have HC116 := zz (show y112.length ≤ co9 from by omega)
        clear hr10 hC10 hroom10 hi010 hsz10
        have KY10 := zz hy10
        clear hy10
        replace q10 := eq_true q10
        go_wp2
        go_roundg k1
        case measure => have := HK1.out; omega
        case rel => exact ⟨(y112), H', ⟨by have := HK1.out; omega⟩, ⟨by (with_reducible repeat (first | apply Kd.V_alloc | apply Kd.V_drewN | apply Kd.V_drew)); exact HO116.out⟩, ⟨by repeat (with_reducible first | exact HB.out | apply zj | apply zq | apply zw)⟩⟩
       ·rw [if_neg c8] at H
        exact absurd H (by simp)
      ·rw [if_neg c6] at H
       have c6b0 : ((rd x0_1 (ji3)) == 0) = false := beq_eq_false_iff_ne.mpr c6
       have c6b1 : ((rd x0_1 (ji3)) != 0) = true := bne_iff_ne.mpr c6
       obtain rfl := Option.some.inj H
       obtain ⟨Ao11, co11, eo11⟩ := Kd.V_slice HO_0.out
       subst eo11
       have p111 : 0 ≤ ((ji3) : Int) := of_decide_eq_true (by with_reducible assumption)
       have q111 : (ji3) < (x0_1.length : Int) := of_decide_eq_true (by with_reducible assumption)
       obtain ⟨ad111, e111, hx111_0⟩ := Kd.at_int (Kd.V_reads' HO_0.out).2.2 (ji3) p111 q111
       cases e111
       replace p111 := eq_true p111
       replace q111 := eq_true q111
       go_wp2
       go_ret
       exact ⟨_, by first | rfl | (simp [errW_none, errW_some] <;> rfl) | (simp only [← hji3]; first | rfl | (simp [errW_none, errW_some] <;> rfl)) | (simp [*, errW_none, errW_some] <;> rfl), by (with_reducible repeat (first | apply Kd.V_alloc | apply Kd.V_drewN | apply Kd.V_drew)); exact HO_0.out, by repeat (with_reducible first | exact HB.out | apply zj | apply zq | apply zw)⟩
     ·rw [if_neg c5] at H
      exact absurd H (by simp)
    ·rw [if_neg c4] at H
     exact absurd H (by simp)
   ·rw [if_neg c2] at H
    have c2b0 : decide (0 < (x0_1.length : Int)) = false := decide_eq_false c2
    have c2b1 : decide (0 < x0_1.length) = false := decide_eq_false (by omega)
    clear c2
    obtain rfl := Option.some.inj H
    obtain ⟨Ao12, co12, eo12⟩ := Kd.V_slice HO_0.out
    subst eo12
    go_wp2
    go_ret
    exact ⟨_, by first | rfl | (simp <;> rfl) | (simp [*] <;> rfl), by (with_reducible repeat (first | apply Kd.V_alloc | apply Kd.V_drewN | apply Kd.V_drew)); exact HO_0.out, by repeat (with_reducible first | exact HB.out | apply zj | apply zq | apply zw)⟩
mutual
def impl_sumOf.l0 : Nat → List Int → List Int → List Int → Int → Int → Option (List Int)
 | 0, _, _, _, _, _ => none
 | k + 1, x1, x5, x16, x17, x18 => if x18 < x17 then (if 0 ≤ x18 then (if x18 < (x16.length : Int) then (if x18 < (x5.length : Int) then (impl_sumOf.l0 k x1 (x5.set (x18 : Int).toNat (wrap64 ((rd x5 x18) + (rd x16 x18)))) x16 x17 (wrap64 (x18 + 1))) else (none)) else (none)) else (none)) else (impl_sumOf.l1 k x5 x1 (x1.length : Int) 0)
def impl_sumOf.l1 : Nat → List Int → List Int → Int → Int → Option (List Int)
 | 0, _, _, _, _ => none
 | k + 1, x5, x31, x32, x33 => if x33 < x32 then (if 0 ≤ x33 then (if x33 < (x31.length : Int) then (if x33 < (x5.length : Int) then (impl_sumOf.l1 k (x5.set (x33 : Int).toNat (wrap64 ((rd x5 x33) + (rd x31 x33)))) x31 x32 (wrap64 (x33 + 1))) else (none)) else (none)) else (none)) else ((impl_cut.f k x5).bind fun t126 => (some t126))
end
def impl_sumOf.f (k : Nat) (l0 : List Int) (l1 : List Int) : Option (List Int) := if 0 ≤ (mx (l0.length : Int) (l1.length : Int)) then (if (mx (l0.length : Int) (l1.length : Int) : Int).toNat ≤ 35184372088832 then (impl_sumOf.l0 k l1 (List.replicate (mx (l0.length : Int) (l1.length : Int) : Int).toNat 0) l0 (l0.length : Int) 0) else (none)) else (none)
theorem impl_sumOf.mono_l : ∀ k, (∀ y0 y1 y2 y3 y4, LeO (impl_sumOf.l0 k y0 y1 y2 y3 y4) (impl_sumOf.l0 (k + 1) y0 y1 y2 y3 y4)) ∧ (∀ y0 y1 y2 y3, LeO (impl_sumOf.l1 k y0 y1 y2 y3) (impl_sumOf.l1 (k + 1) y0 y1 y2 y3))
 | 0 => ⟨fun _ _ _ _ _ r h => by simp [impl_sumOf.l0] at h, fun _ _ _ _ r h => by simp [impl_sumOf.l1] at h⟩
 | k + 1 => by
  obtain ⟨ih0, ih1⟩ := impl_sumOf.mono_l k
  refine ⟨?_, ?_⟩
  ·intro y0 y1 y2 y3 y4
   unfold impl_sumOf.l0
   repeat' with_reducible first
   | exact ih0 _ _ _ _ _
   | exact ih1 _ _ _ _
   | exact impl_cut.mono _ _
   | exact yq _
   | exact LeO.none _
   | refine LeO.ite ?_ ?_
   | refine yz ?_ (fun _ => ?_)
  ·intro y0 y1 y2 y3
   unfold impl_sumOf.l1
   repeat' with_reducible first
   | exact ih0 _ _ _ _ _
   | exact ih1 _ _ _ _
   | exact impl_cut.mono _ _
   | exact yq _
   | exact LeO.none _
   | refine LeO.ite ?_ ?_
   | refine yz ?_ (fun _ => ?_)
theorem impl_sumOf.mono : ∀ a0 a1 k, LeO (impl_sumOf.f k a0 a1) (impl_sumOf.f (k + 1) a0 a1) := by
 intro a0 a1 k
 obtain ⟨ih0, ih1⟩ := impl_sumOf.mono_l k
 unfold impl_sumOf.f
 repeat' with_reducible first
   | exact ih0 _ _ _ _ _
   | exact ih1 _ _ _ _
   | exact impl_cut.mono _ _
   | exact yq _
   | exact LeO.none _
   | refine LeO.ite ?_ ?_
   | refine yz ?_ (fun _ => ?_)
set_option maxHeartbeats 8000000 in
set_option maxRecDepth 100000 in
theorem impl_sumOf.calls (k : Nat) (A0 : Option Addr) (c0 : Nat) (l0 : List Int) (A1 : Option Addr) (c1 : Nat) (l1 : List Int) (r : List Int) (w : World) (hr0 : Kd.C (Kd.int .i64) w A0 l0.length l0) (hc0 : l0.length ≤ c0) (hr1 : Kd.C (Kd.int .i64) w A1 l1.length l1) (hc1 : l1.length ≤ c1) (h : impl_sumOf.f k l0 l1 = some r) :
  Calls Try.prog 207 #[.slice A0 l0.length c0, .slice A1 l1.length c1] w fun e w' => ∃ v0_ : Value, e = .returned (v0_) ∧ Kd.V (Kd.int .i64) 3 w' w.heap.size (fun k_ => (w.heap.size ≤ k_)) v0_ r ∧ Below w.heap.size w w' := by
 have HR0 := zz hr0
 have HC0 := zz hc0
 clear hr0 hc0
 have HR1 := zz hr1
 have HC1 := zz hc1
 clear hr1 hc1
 have HB := zz (Below.refl w.heap.size w)
 have H : (if 0 ≤ (mx (l0.length : Int) (l1.length : Int)) then (if (mx (l0.length : Int) (l1.length : Int) : Int).toNat ≤ 35184372088832 then (impl_sumOf.l0 k l1 (List.replicate (mx (l0.length : Int) (l1.length : Int) : Int).toNat 0) l0 (l0.length : Int) 0) else (none)) else (none)) = some r := h
 clear h
 obtain ⟨ji3, hji3⟩ : ∃ j_ : Int, (mx (l0.length : Int) (l1.length : Int)) = j_ := ⟨_, rfl⟩
 replace H : (if 0 ≤ (ji3) then (if (ji3 : Int).toNat ≤ 35184372088832 then (impl_sumOf.l0 k l1 (List.replicate (ji3 : Int).toNat 0) l0 (l0.length : Int) 0) else (none)) else (none)) = some r := by first | (rw [hji3] at H; exact H) | (simp only [hji3] at H ⊢; exact H)
 (try (have hji3l : 0 ≤ ji3 := by (rw [← hji3]; unfold mx; (repeat' split) <;> omega)))
 (try (have hji3m : 0 ≤ ji3 := by omega))
 have hji3_ : (if (l0.length : Int) < (l1.length : Int) then (l1.length : Int) else (l0.length : Int)) = ji3 := hji3
 have hji3n_ : (if l0.length < l1.length then (l1.length : Int) else (l0.length : Int)) = ji3 := by have h_ := hji3_; simp only [Int.ofNat_lt] at h_; exact h_
 by_cases c4 : 0 ≤ (ji3)
 ·rw [if_pos c4] at H
  have c4b0 := eq_true c4
  have c4b1 : decide (0 ≤ (ji3)) = true := decide_eq_true c4
  clear c4
  by_cases c5 : (ji3 : Int).toNat ≤ 35184372088832
  ·rw [if_pos c5] at H
   have c5b0 := eq_true c5
   have c5b1 : decide ((ji3 : Int).toNat ≤ 35184372088832) = true := decide_eq_true c5
   clear c5
   obtain ⟨y117, hy117⟩ : ∃ y_ : List Int, y_ = (List.replicate (ji3 : Int).toNat 0) := ⟨_, rfl⟩
   replace H : (impl_sumOf.l0 k l1 y117 l0 (l0.length : Int) 0) = some r := by first | (rw [hy117]; with_reducible exact H) | (have H2_ := (Option.bind_some _ _).symm.trans H; rw [hy117]; with_reducible exact H2_) | (have H2_ := (Option.bind_some _ _).symm.trans H; with_reducible exact H2_) | with_reducible exact H | (rw [hy117]; exact H) | exact H
   have Ny117 := zz hy117
   clear hy117
   have H' := zz H
   clear H
   go_enter Try.func207, Try.ntmps207
   go_wp2_with (first | ((with_reducible refine jw (N := 15) rfl ?_); refine Kd.R_make (Kd.int .i64) _ 3 rfl (N := 15) rfl 29 _ _ rfl ji3 rfl rfl Try.underlying29 (.int .i64 0) 8 info3 rfl (by decide) (by omega) 0 (ok := fun _ => True) (okp := fun _ => True) rfl (fun _ hk => hk) trivial (of_decide_eq_true (by with_reducible assumption)) (Nat.le_trans (Nat.mul_le_mul_right _ (of_decide_eq_true (by with_reducible assumption) : ji3.toNat ≤ 35184372088832)) (by omega)) (Below.refl _ _) (Nat.le_refl _) ?_; intro v118 w6 ho7 hb hg_ hnew_; clear hg_ hnew_; (first | rw [← Ny117.out] at ho7 | (simp only [Int.reduceToNat] at ho7; rw [← Ny117.out] at ho7)); have n0_ := zz (Kd.R_lower (Kd.R_newM (M := fun k_ => (w.heap.size ≤ k_)) ho7 (zv (by repeat (with_reducible first | exact HB.out | apply zj | apply zq | apply zw))) (fun k_ h_ => h_)) (zv (by repeat (with_reducible first | exact HB.out | apply zj | apply zq | apply zw)))); have n1_ := zz (zk (by repeat (with_reducible first | exact HB.out | apply zj | apply zq | apply zw)) hb); clear HB; have HO119 := n0_; have HB := n1_; clear n0_ n1_; clear hb ho7))
   go_loopg [18] k (fun kq v18 w' => ∃ (x5_1 : List Int) (x18_1 : Int), v18 = .int .i64 x18_1 ∧ Aside0 (impl_sumOf.l0 kq l1 x5_1 l0 (l0.length : Int) x18_1 = some r) ∧ Aside0 (kq ≤ k) ∧ Aside0 (Kd.R (Kd.int .i64) 3 w' w.heap.size (fun k_ => (w.heap.size ≤ k_)) v118 x5_1) ∧ Aside0 (Below w.heap.size w w'))
   case atStart => exact ⟨(y117), (0), (by first | rfl | (simp; done) | (simp [*]; done)), H', ⟨Nat.le_refl _⟩, ⟨by (with_reducible repeat (first | apply qw | apply qx | apply qk)); exact Kd.R_mono HO119.out (fun _ hk => hk.1)⟩, ⟨by repeat (with_reducible first | exact HB.out | apply zj | apply zq | apply zw)⟩⟩
   case round =>
    clear H'
    try clear c1
    try clear c2
    try clear p2
    try clear c4
    try clear c4b0
    try clear c4b1
    try clear c5
    try clear c5b0
    try clear c5b1
    obtain ⟨x5_1, x18_1, rfl, HA, HK1, HO_5, HB⟩ := hrel
    cases gk with
    | zero => exact absurd HA.out (by simp [impl_sumOf.l0])
    | succ k1 =>
     have H := HA.out
     clear HA
     simp only [impl_sumOf.l0] at H
     by_cases c8 : x18_1 < (l0.length : Int)
     ·rw [if_pos c8] at H
      have c8b0 : decide (x18_1 < (l0.length : Int)) = true := decide_eq_true c8
      clear c8
      by_cases c9 : 0 ≤ x18_1
      ·rw [if_pos c9] at H
       have c9b0 : decide (0 ≤ x18_1) = true := decide_eq_true c9
       clear c9
       by_cases c10 : x18_1 < (l0.length : Int)
       ·rw [if_pos c10] at H
        have c10b0 : decide (x18_1 < (l0.length : Int)) = true := decide_eq_true c10
        clear c10
        by_cases c11 : x18_1 < (x5_1.length : Int)
        ·rw [if_pos c11] at H
         have c11b0 : decide (x18_1 < (x5_1.length : Int)) = true := decide_eq_true c11
         clear c11
         obtain ⟨y122, hy122⟩ : ∃ y_ : List Int, y_ = (x5_1.set (x18_1 : Int).toNat (wrap64 ((rd x5_1 x18_1) + (rd l0 x18_1)))) := ⟨_, rfl⟩
         replace H : (impl_sumOf.l0 k1 l1 y122 l0 (l0.length : Int) (wrap64 (x18_1 + 1))) = some r := by first | (rw [hy122]; with_reducible exact H) | (have H2_ := (Option.bind_some _ _).symm.trans H; rw [hy122]; with_reducible exact H2_) | (have H2_ := (Option.bind_some _ _).symm.trans H; with_reducible exact H2_) | with_reducible exact H | (rw [hy122]; exact H) | exact H
         have Ny122 := zz hy122
         clear hy122
         have H' := zz H
         clear H
         have p120 : 0 ≤ (x18_1 : Int) := of_decide_eq_true (by with_reducible assumption)
         have q120 : x18_1 < (l0.length : Int) := of_decide_eq_true (by with_reducible assumption)
         obtain ⟨ad120, e120, hx120_0⟩ := Kd.at_int HR0.out x18_1 p120 q120
         cases e120
         replace hx120_0 := (HB.out.cell (qj w _ hx120_0)).trans hx120_0
         replace p120 := eq_true p120
         replace q120 := eq_true q120
         obtain ⟨Ao13, co13, eo13⟩ := jv HO_5.out
         subst eo13
         have p121 : 0 ≤ (x18_1 : Int) := of_decide_eq_true (by with_reducible assumption)
         have q121 : x18_1 < (x5_1.length : Int) := of_decide_eq_true (by with_reducible assumption)
         obtain ⟨ad121, e121, hx121_0⟩ := Kd.at_int (jk HO_5.out).2.2 x18_1 p121 q121
         cases e121
         replace p121 := eq_true p121
         replace q121 := eq_true q121
         have p12 : 0 ≤ (x18_1 : Int) := of_decide_eq_true (by with_reducible assumption)
         have q12 : (x18_1 : Int) < ((x5_1.length : Int) : Int) := of_decide_eq_true (by with_reducible assumption)
         obtain ⟨go12, co12, eo12, gb12, gl12, cl12, HG12⟩ := Kd.R_form HO_5.out (by omega)
         (first | cases eo12 | (injection eo12 with ea_ en_ ec_; (first | subst ea_ | (injection ea_ with ea_; subst ea_)); subst ec_; clear en_))
         have GB12 := zz gb12
         have GG12 := zz HG12
         clear gb12 gl12 HG12
         (first | simp only [add_plain] at hx121_0 | skip)
         obtain ⟨hx12_0, hf12_0⟩ := Kd.R_celln 0 HO_5.out (x18_1 : Int) p12 q12
         replace p12 := eq_true p12
         replace q12 := eq_true q12
         have HP14 := Kd.R_putg HO_5.out (x18_1 : Int) (wrap64 ((rd x5_1 x18_1) + (rd l0 x18_1)))
         go_wp2_with (first | ((with_reducible refine gate_store (t := 3) (p := 29) rfl ?_); refine store_event (t := 3) (p := 29) (v := ?vo_w15) (w1 := (wr.setCell ⟨go12, (x18_1 : Int).toNat, none⟩ (.int .i64 (wrap64 ((rd x5_1 x18_1) + (rd l0 x18_1)))))) ?hg ?ho ?hn ?hr ?_; (case ho => rfl); (case hg => rfl); (case hn => rfl); (case hr => first | (go_simp; done) | (go_simp; rfl)); intro w15 hw; have hg : wr.grownBy w15 (some go12) := (by rw [hw]; exact HP14.2); have hp_ : Kd.R (Kd.int .i64) 3 w15 w.heap.size (fun k_ => (w.heap.size ≤ k_)) (.slice (some ⟨go12, 0, none⟩) x5_1.length co13) y122 := (by rw [hw, Ny122.out]; exact HP14.1); clear HP14; have n0_ := zz (hp_); have n1_ := zz ((by rw [hw]; exact zx (HB.out) GB12.out : Below w.heap.size w w15)); clear HO_5; clear HB; have HO_5 := n0_; have HB := n1_; clear n0_ n1_; clear hg hw hp_))
         go_roundg k1
         case measure => have := HK1.out; omega
         case rel => exact ⟨(y122), (wrap64 (x18_1 + 1)), (by first | rfl | (simp; done) | (simp [*]; done)), H', ⟨by have := HK1.out; omega⟩, ⟨by (with_reducible repeat (first | apply qw | apply qx | apply qk)); exact HO_5.out⟩, ⟨by repeat (with_reducible first | exact HB.out | apply zj | apply zq | apply zw)⟩⟩
        ·rw [if_neg c11] at H
         exact absurd H (by simp)
       ·rw [if_neg c10] at H
        exact absurd H (by simp)
      ·rw [if_neg c9] at H
       exact absurd H (by simp)
     ·rw [if_neg c8] at H
      have c8b0 : decide (x18_1 < (l0.length : Int)) = false := decide_eq_false c8
      clear c8
      have H' := zz H
      clear H
      go_wp2
      go_loopg [33] k1 (fun kq v33 w' => ∃ (x5_2 : List Int) (x33_2 : Int), v33 = .int .i64 x33_2 ∧ Aside0 (impl_sumOf.l1 kq x5_2 l1 (l1.length : Int) x33_2 = some r) ∧ Aside0 (kq ≤ k1) ∧ Aside0 (Kd.R (Kd.int .i64) 3 w' w.heap.size (fun k_ => (w.heap.size ≤ k_)) v118 x5_2) ∧ Aside0 (Below w.heap.size w w'))
      case atStart => exact ⟨(x5_1), (0), (by first | rfl | (simp; done) | (simp [*]; done)), H', ⟨Nat.le_refl _⟩, ⟨by (with_reducible repeat (first | apply qw | apply qx | apply qk)); exact HO_5.out⟩, ⟨by repeat (with_reducible first | exact HB.out | apply zj | apply zq | apply zw)⟩⟩
      case round =>
       clear H'
       try clear c1
       try clear p1
       try clear q1
       try clear hx1
       try clear c2
       try clear p2
       try clear c4
       try clear c4b0
       try clear c4b1
       try clear c5
       try clear c5b0
       try clear c5b1
       try clear p6
       try clear c8
       try clear c8b0
       try clear c9
       try clear c9b0
       try clear c10
       try clear c10b0
       try clear c11
       try clear c11b0
       try clear p12
       try clear q12
       try clear hx12
       try clear hf12
       try clear hx120_0
       try clear hx121_0
       try clear hx12_0
       try clear p12
       try clear p120
       try clear p121
       try clear p2
       try clear q12
       try clear q120
       try clear q121
       obtain ⟨x5_2, x33_2, rfl, HA, HK2, HO_5, HB⟩ := hrel
       cases gk with
       | zero => exact absurd HA.out (by simp [impl_sumOf.l1])
       | succ k2 =>
        have H := HA.out
        clear HA
        simp only [impl_sumOf.l1] at H
        by_cases c16 : x33_2 < (l1.length : Int)
        ·rw [if_pos c16] at H
         have c16b0 : decide (x33_2 < (l1.length : Int)) = true := decide_eq_true c16
         clear c16
         by_cases c17 : 0 ≤ x33_2
         ·rw [if_pos c17] at H
          have c17b0 : decide (0 ≤ x33_2) = true := decide_eq_true c17
          clear c17
          by_cases c18 : x33_2 < (l1.length : Int)
          ·rw [if_pos c18] at H
           have c18b0 : decide (x33_2 < (l1.length : Int)) = true := decide_eq_true c18
           clear c18
           by_cases c19 : x33_2 < (x5_2.length : Int)
           ·rw [if_pos c19] at H
            have c19b0 : decide (x33_2 < (x5_2.length : Int)) = true := decide_eq_true c19
            clear c19
            obtain ⟨y125, hy125⟩ : ∃ y_ : List Int, y_ = (x5_2.set (x33_2 : Int).toNat (wrap64 ((rd x5_2 x33_2) + (rd l1 x33_2)))) := ⟨_, rfl⟩
            replace H : (impl_sumOf.l1 k2 y125 l1 (l1.length : Int) (wrap64 (x33_2 + 1))) = some r := by first | (rw [hy125]; with_reducible exact H) | (have H2_ := (Option.bind_some _ _).symm.trans H; rw [hy125]; with_reducible exact H2_) | (have H2_ := (Option.bind_some _ _).symm.trans H; with_reducible exact H2_) | with_reducible exact H | (rw [hy125]; exact H) | exact H
            have Ny125 := zz hy125
            clear hy125
            have H' := zz H
            clear H
            have p123 : 0 ≤ (x33_2 : Int) := of_decide_eq_true (by with_reducible assumption)
            have q123 : x33_2 < (l1.length : Int) := of_decide_eq_true (by with_reducible assumption)
            obtain ⟨ad123, e123, hx123_0⟩ := Kd.at_int HR1.out x33_2 p123 q123
            cases e123
            replace hx123_0 := (HB.out.cell (qj w _ hx123_0)).trans hx123_0
            replace p123 := eq_true p123
            replace q123 := eq_true q123
            obtain ⟨Ao21, co21, eo21⟩ := jv HO_5.out
            subst eo21
            have p124 : 0 ≤ (x33_2 : Int) := of_decide_eq_true (by with_reducible assumption)
            have q124 : x33_2 < (x5_2.length : Int) := of_decide_eq_true (by with_reducible assumption)
            obtain ⟨ad124, e124, hx124_0⟩ := Kd.at_int (jk HO_5.out).2.2 x33_2 p124 q124
            cases e124
            replace p124 := eq_true p124
            replace q124 := eq_true q124
            have p20 : 0 ≤ (x33_2 : Int) := of_decide_eq_true (by with_reducible assumption)
            have q20 : (x33_2 : Int) < ((x5_2.length : Int) : Int) := of_decide_eq_true (by with_reducible assumption)
            obtain ⟨go20, co20, eo20, gb20, gl20, cl20, HG20⟩ := Kd.R_form HO_5.out (by omega)
            (first | cases eo20 | (injection eo20 with ea_ en_ ec_; (first | subst ea_ | (injection ea_ with ea_; subst ea_)); subst ec_; clear en_))
            have GB20 := zz gb20
            have GG20 := zz HG20
            clear gb20 gl20 HG20
            (first | simp only [add_plain] at hx124_0 | skip)
            obtain ⟨hx20_0, hf20_0⟩ := Kd.R_celln 0 HO_5.out (x33_2 : Int) p20 q20
            replace p20 := eq_true p20
            replace q20 := eq_true q20
            have HP22 := Kd.R_putg HO_5.out (x33_2 : Int) (wrap64 ((rd x5_2 x33_2) + (rd l1 x33_2)))
            go_wp2_with (first | ((with_reducible refine gate_store (t := 3) (p := 44) rfl ?_); refine store_event (t := 3) (p := 44) (v := ?vo_w23) (w1 := (wr.setCell ⟨go20, (x33_2 : Int).toNat, none⟩ (.int .i64 (wrap64 ((rd x5_2 x33_2) + (rd l1 x33_2)))))) ?hg ?ho ?hn ?hr ?_; (case ho => rfl); (case hg => rfl); (case hn => rfl); (case hr => first | (go_simp; done) | (go_simp; rfl)); intro w23 hw; have hg : wr.grownBy w23 (some go20) := (by rw [hw]; exact HP22.2); have hp_ : Kd.R (Kd.int .i64) 3 w23 w.heap.size (fun k_ => (w.heap.size ≤ k_)) (.slice (some ⟨go20, 0, none⟩) x5_2.length co21) y125 := (by rw [hw, Ny125.out]; exact HP22.1); clear HP22; have n0_ := zz (hp_); have n1_ := zz ((by rw [hw]; exact zx (HB.out) GB20.out : Below w.heap.size w w23)); clear HO_5; clear HB; have HO_5 := n0_; have HB := n1_; clear n0_ n1_; clear hg hw hp_))
            go_roundg k2
            case measure => have := HK1.out; have := HK2.out; omega
            case rel => exact ⟨(y125), (wrap64 (x33_2 + 1)), (by first | rfl | (simp; done) | (simp [*]; done)), H', ⟨by have := HK1.out; have := HK2.out; omega⟩, ⟨by (with_reducible repeat (first | apply qw | apply qx | apply qk)); exact HO_5.out⟩, ⟨by repeat (with_reducible first | exact HB.out | apply zj | apply zq | apply zw)⟩⟩
           ·rw [if_neg c19] at H
            exact absurd H (by simp)
          ·rw [if_neg c18] at H
           exact absurd H (by simp)
         ·rw [if_neg c17] at H
          exact absurd H (by simp)
        ·rw [if_neg c16] at H
         have c16b0 : decide (x33_2 < (l1.length : Int)) = false := decide_eq_false c16
         clear c16
         replace H := Option.bind_eq_some_iff.mp H
         obtain ⟨t126, A240, H⟩ := H
         replace H : (some t126) = some r := H
         have A24 := zz A240
         clear A240
         obtain rfl := Option.some.inj H
         obtain ⟨Ao25, co25, eo25⟩ := jv HO_5.out
         subst eo25
         go_wp2_with (first | ((with_reducible refine jj (f := 206) rfl ?_); refine yj (some 47) rfl rfl Try.func206 (by kernel_rfl) rfl #[.slice Ao25 x5_2.length co25] rfl (by (try simp only [qv, List.map_cons, List.map_nil]); first | done | rfl) ?_; (with_reducible refine (impl_cut.calls k2 (fun k_ => some k_ = (.slice Ao25 x5_2.length co25 : Value).ownBlock) _ _ x5_2 t126 _ ?side1 A24.out).mono ?_); (case side1 => exact Kd.R_V (Kd.R_tight rfl (HO_5.out))); rintro e w26 ⟨v127, rfl, ho0, hb⟩; refine ⟨_, rfl, ?_⟩; have n0_ := zz (Kd.R_below (by (with_reducible repeat (first | apply qw | apply qx | apply qk)); exact HO_5.out) hb); have n1_ := zz (Kd.V_lower (Kd.V_mono (ok' := fun k_ => (w.heap.size ≤ k_)) ho0 (fun k_ hk_ => Or.elim hk_ (fun hs_ => ((HO_5.out).1 k_ hs_.symm)) (fun hn_ => (Nat.le_trans (zv (by repeat (with_reducible first | exact HB.out | apply zj | apply zq | apply zw))) hn_)))) (zv (by repeat (with_reducible first | exact HB.out | apply zj | apply zq | apply zw)))); have n2_ := zz (zk (by repeat (with_reducible first | exact HB.out | apply zj | apply zq | apply zw)) hb); clear HO_5; clear HB; have HO_5 := n0_; have HO128 := n1_; have HB := n2_; clear n0_ n1_ n2_; (try clear hb); (try clear hi hk); (try clear ho0)))
         go_ret
         exact ⟨_, by first | rfl | (simp [errW_none, errW_some] <;> rfl) | (simp only [← hji3]; first | rfl | (simp [errW_none, errW_some] <;> rfl)) | (simp [*, errW_none, errW_some] <;> rfl), by (with_reducible repeat (first | apply Kd.V_alloc | apply Kd.V_drewN | apply Kd.V_drew)); exact HO128.out, by repeat (with_reducible first | exact HB.out | apply zj | apply zq | apply zw)⟩
  ·rw [if_neg c5] at H
   exact absurd H (by simp)
 ·rw [if_neg c4] at H
  exact absurd H (by simp)
end Go.Proofs.Ytlmoemahamneoaa.PFnSchemesAgree
