-- Written by gprint.py, a program of this session, out of the translation (a changed print).
import Derived.Test.YtlmoemahamneoaaPFnSchemesAgreex0
import Derived.Test.YtlmoemahamneoaaPFnSchemesAgreex5
namespace Go.Proofs.Ytlmoemahamneoaa.PFnSchemesAgree
open Go.RowKit Go.Proofs.YtlmoemahamneoaaW.PrintWords Go.Proofs.YtlmoemahamneoaaW.PrintLast Go.Proofs.YtlmoemahamneoaaW.PrintMore
open Go.Proofs.YtlmoemahamneoaaW.PrintWords.Aside0 renaming mk → zz
open Go.Proofs.YtlmoemahamneoaaW.PrintWords renaming pw_below_drewN → zq, below_alloc → zj, below_drew1 → zw, below_step → zx, below_size → zk, gate_callee → jw
open Go.World renaming block_lt_of_cell? → zv
open Go.Proofs.YtlmoemahamneoaaW.PrintWords.Kd renaming R_alloc → qz, R_drewN → qq, R_drew → qj, C_alloc → qw, C_drewN → qx, C_drew → qk, C_below → qv, R_reads' → jx, R_slice → jk
open List renaming map_toArray → jz, length_drop → jq, length_take → jj
open Go.Proofs.YtlmoemahamneoaaW.PrintWords.LeO renaming bind → jv, refl → yz
open Go.Proofs.YtlmoemahamneoaaW.PrintLast renaming goesL_ → yq
attribute [local go_sem] max2_int min2_int max_two min_two max_three min_three max_four min_four
set_option linter.unusedVariables false
set_option linter.unusedSimpArgs false
def spec_poSmall.f (k : Nat) (l0 : List Int) : Option (Bool) := if (l0.length : Int) ≤ 17 then ((spec_l1All.f k l0 (-1000000) 1000000).bind fun t144 => (some t144)) else (some false)
theorem spec_poSmall.mono : ∀ a0 k, LeO (spec_poSmall.f k a0) (spec_poSmall.f (k + 1) a0) := by
 intro a0 k
 unfold spec_poSmall.f
 repeat' with_reducible first
   | exact spec_l1All.mono _ _ _ _
   | exact yz _
   | exact LeO.none _
   | refine LeO.ite ?_ ?_
   | refine jv ?_ (fun _ => ?_)
set_option maxHeartbeats 8000000 in
set_option maxRecDepth 100000 in
theorem spec_poSmall.calls (k : Nat) (A0 : Option Addr) (c0 : Nat) (l0 : List Int) (r : Bool) (w : World) (hr0 : Kd.C (Kd.int .i64) w A0 l0.length l0) (hc0 : l0.length ≤ c0) (h : spec_poSmall.f k l0 = some r) :
  Calls Try.prog 189 #[.slice A0 l0.length c0] w fun e w' => e = .returned (.bool r) ∧ Drawn0 w w' := by
 have HR0 := zz hr0
 have HC0 := zz hc0
 clear hr0 hc0
 have H : (if (l0.length : Int) ≤ 17 then ((spec_l1All.f k l0 (-1000000) 1000000).bind fun t144 => (some t144)) else (some false)) = some r := h
 clear h
 by_cases c2 : (l0.length : Int) ≤ 17
 ·rw [if_pos c2] at H
  have c2b0 : decide ((l0.length : Int) ≤ 17) = true := decide_eq_true c2
  have c2b1 : decide (l0.length ≤ 17) = true := decide_eq_true (by omega)
  clear c2
  replace H := Option.bind_eq_some_iff.mp H
  obtain ⟨t144, A30, H⟩ := H
  replace H : (some t144) = some r := H
  have A3 := zz A30
  clear A30
  obtain rfl := Option.some.inj H
  go_enter Try.func189, Try.ntmps189
  go_wp2_with (first | (go_at_call 156; (with_reducible refine (spec_l1All.calls k _ _ l0 (-1000000) 1000000 t144 _ ?side1 ?side2 A3.out).mono ?_); (case side1 => repeat (first | exact HR0.out | (with_reducible refine qw ?_ _) | (with_reducible refine qx ?_ _) | (with_reducible refine qk ?_))); (case side2 => exact HC0.out); rintro e w' ⟨rfl, ⟨nd, rfl⟩⟩))
  go_ret
  exact ⟨by first | rfl | (simp; done) | (simp [*]; done), by repeat (first | exact Drawn0.refl _ | apply Drawn0.step)⟩
 ·rw [if_neg c2] at H
  have c2b0 : decide ((l0.length : Int) ≤ 17) = false := decide_eq_false c2
  have c2b1 : decide (l0.length ≤ 17) = false := decide_eq_false (by omega)
  clear c2
  obtain rfl := Option.some.inj H
  go_enter Try.func189, Try.ntmps189
  go_wp2
  go_ret
  exact ⟨by first | rfl | (simp; done) | (simp [*]; done), by repeat (first | exact Drawn0.refl _ | apply Drawn0.step)⟩
def spec_poCoefs.f (k : Nat) (l0 : List Int) : Option (Bool) := if (l0.length : Int) > 0 then ((spec_poSmall.f k l0).bind fun t145 => (some t145)) else (some false)
theorem spec_poCoefs.mono : ∀ a0 k, LeO (spec_poCoefs.f k a0) (spec_poCoefs.f (k + 1) a0) := by
 intro a0 k
 unfold spec_poCoefs.f
 repeat' with_reducible first
   | exact spec_poSmall.mono _ _
   | exact yz _
   | exact LeO.none _
   | refine LeO.ite ?_ ?_
   | refine jv ?_ (fun _ => ?_)
set_option maxHeartbeats 8000000 in
set_option maxRecDepth 100000 in
theorem spec_poCoefs.calls (k : Nat) (A0 : Option Addr) (c0 : Nat) (l0 : List Int) (r : Bool) (w : World) (hr0 : Kd.C (Kd.int .i64) w A0 l0.length l0) (hc0 : l0.length ≤ c0) (h : spec_poCoefs.f k l0 = some r) :
  Calls Try.prog 104 #[.slice A0 l0.length c0] w fun e w' => e = .returned (.bool r) ∧ Drawn0 w w' := by
 have HR0 := zz hr0
 have HC0 := zz hc0
 clear hr0 hc0
 have H : (if (l0.length : Int) > 0 then ((spec_poSmall.f k l0).bind fun t145 => (some t145)) else (some false)) = some r := h
 clear h
 by_cases c2 : (l0.length : Int) > 0
 ·rw [if_pos c2] at H
  have c2b0 : decide (0 < (l0.length : Int)) = true := decide_eq_true c2
  have c2b1 : decide (0 < l0.length) = true := decide_eq_true (by omega)
  clear c2
  replace H := Option.bind_eq_some_iff.mp H
  obtain ⟨t145, A30, H⟩ := H
  replace H : (some t145) = some r := H
  have A3 := zz A30
  clear A30
  obtain rfl := Option.some.inj H
  go_enter Try.func104, Try.ntmps104
  go_wp2_with (first | (go_at_call 189; (with_reducible refine (spec_poSmall.calls k _ _ l0 t145 _ ?side1 ?side2 A3.out).mono ?_); (case side1 => repeat (first | exact HR0.out | (with_reducible refine qw ?_ _) | (with_reducible refine qx ?_ _) | (with_reducible refine qk ?_))); (case side2 => exact HC0.out); rintro e w' ⟨rfl, ⟨nd, rfl⟩⟩))
  go_ret
  exact ⟨by first | rfl | (simp; done) | (simp [*]; done), by repeat (first | exact Drawn0.refl _ | apply Drawn0.step)⟩
 ·rw [if_neg c2] at H
  have c2b0 : decide (0 < (l0.length : Int)) = false := decide_eq_false c2
  have c2b1 : decide (0 < l0.length) = false := decide_eq_false (by omega)
  clear c2
  obtain rfl := Option.some.inj H
  go_enter Try.func104, Try.ntmps104
  go_wp2
  go_ret
  exact ⟨by first | rfl | (simp; done) | (simp [*]; done), by repeat (first | exact Drawn0.refl _ | apply Drawn0.step)⟩
def spec_l1Own.f (l0 : List Int) : Option (List Int) := (some (([] : List Int) : List Int)).bind fun y146 => (if y146.length + l0.length < 17592186044416 then (some (y146 ++ l0)) else (none))
set_option maxHeartbeats 8000000 in
set_option maxRecDepth 100000 in
theorem spec_l1Own.calls (A0 : Option Addr) (c0 : Nat) (l0 : List Int) (r : List Int) (w : World) (hr0 : Kd.C (Kd.int .i64) w A0 l0.length l0) (hc0 : l0.length ≤ c0) (h : spec_l1Own.f l0 = some r) :
  Calls Try.prog 233 #[.slice A0 l0.length c0] w fun e w' => ∃ v0_ : Value, e = .returned (v0_) ∧ Kd.R (Kd.int .i64) 3 w' w.heap.size (fun _ => True) v0_ r ∧ Below w.heap.size w w' := by
 have HR0 := zz hr0
 have HC0 := zz hc0
 clear hr0 hc0
 have HB := zz (Below.refl w.heap.size w)
 have H : ((some (([] : List Int) : List Int)).bind fun y146 => (if y146.length + l0.length < 17592186044416 then (some (y146 ++ l0)) else (none))) = some r := h
 clear h
 obtain ⟨y146, hy146⟩ : ∃ y_ : List Int, y_ = (([] : List Int)) := ⟨_, rfl⟩
 replace H : (if y146.length + l0.length < 17592186044416 then (some (y146 ++ l0)) else (none)) = some r := by first | (rw [hy146]; with_reducible exact H) | (have H2_ := (Option.bind_some _ _).symm.trans H; rw [hy146]; with_reducible exact H2_) | (have H2_ := (Option.bind_some _ _).symm.trans H; with_reducible exact H2_) | with_reducible exact H | (rw [hy146]; exact H) | exact H
 have Ny146 := zz hy146
 clear hy146
 by_cases c2 : y146.length + l0.length < 17592186044416
 ·rw [if_pos c2] at H
  have LMc2 := zz c2
  clear c2
  obtain ⟨y149, hy149⟩ : ∃ y_ : List Int, y_ = (y146 ++ l0) := ⟨_, rfl⟩
  replace H : (some y149) = some r := by first | (rw [hy149]; with_reducible exact H) | (have H2_ := (Option.bind_some _ _).symm.trans H; rw [hy149]; with_reducible exact H2_) | (have H2_ := (Option.bind_some _ _).symm.trans H; with_reducible exact H2_) | with_reducible exact H | (rw [hy149]; exact H) | exact H
  have Ny149 := zz hy149
  clear hy149
  obtain rfl := Option.some.inj H
  go_enter Try.func233, Try.ntmps233
  go_wp2_with (first | ((with_reducible refine gate_dst (N := 3) rfl ?_); refine Kd.R_lit (Kd.int .i64) _ 3 ?hg (N := 3) ?hd (xs := ([] : List Int)) (inner := []) (ok := fun _ => True) (okp := fun _ => True) ?hr ?hp (fun _ hk => hk) trivial (Below.refl _ _) (Nat.le_refl _) (by simp) ?_; (case hd => rfl); (case hg => rfl); (case hr => first | (go_simp; done) | (go_simp; rfl)); (case hp => exact (Reps.none _ _)); intro v147 w3 ho4 hb hg_ hnew_; clear hg_ hnew_; (first | rw [← Ny146.out] at ho4 | (simp only [Int.reduceToNat] at ho4; rw [← Ny146.out] at ho4)); have n0_ := zz (Kd.R_lower ho4 (zk (by repeat (with_reducible first | exact HB.out | apply zj | apply zq | apply zw)))); have n1_ := zz (zx (by repeat (with_reducible first | exact HB.out | apply zj | apply zq | apply zw)) hb); clear HB; have HO148 := n0_; have HB := n1_; clear n0_ n1_; clear hb ho4) | ((with_reducible refine gate_builtin (b := .append) (xs := #[.tmp 3, .tmp 4]) rfl ?_); at_builtin; refine Kd.R_append_rows (Kd.int .i64) (w0 := w) w.heap.size rfl (.tmp 3) (.tmp 4) 29 3 (.int .i64 0) 8 rfl Try.underlying29 info3 rfl (by decide) (by omega) v147 y146 l0 _ _ _ (fun _ => True) (fun _ => False) rfl rfl ?aO ?aR (fun _ _ h => h) (fun _ h => h.elim) ?aF ?aB ?aS ?aL ?_; (case aR => repeat (first | exact (qv HR0.out HB.out) | (with_reducible refine qw ?_ _) | (with_reducible refine qx ?_ _) | (with_reducible refine qk ?_))); (case aB => exact (by repeat (with_reducible first | exact HB.out | apply zj | apply zq | apply zw))); (case aF => exact (fun _ _ => trivial)); (case aO => exact (by (with_reducible repeat (first | apply qz | apply qq | apply qj)); exact HO148.out)); (case aS => exact (zk (by repeat (with_reducible first | exact HB.out | apply zj | apply zq | apply zw)))); (case aL => have := LMc2.out; omega); intro v150 w5 ho hb hg hat; rw [← Ny149.out] at ho; have n0_ := zz (hb); have n1_ := zz (ho); clear HB; clear HO148; have HB := n0_; have HO151 := n1_; clear n0_ n1_; clear ho hb hg hat))
  go_ret
  exact ⟨_, by first | rfl | (simp <;> rfl) | (simp [*] <;> rfl), by (with_reducible repeat (first | apply qz | apply qq | apply qj)); exact HO151.out, by repeat (with_reducible first | exact HB.out | apply zj | apply zq | apply zw)⟩
 ·rw [if_neg c2] at H
  exact absurd H (by simp)
def spec_poTrim.l0 : Nat → List Int → Int → Option (List Int)
 | 0, _, _ => none
 | k + 1, x0, x3 => if x3 > 0 then (if 0 ≤ (wrap64 (x3 - 1)) then (if (wrap64 (x3 - 1)) < (x0.length : Int) then (if (rd x0 (wrap64 (x3 - 1))) = 0 then (spec_poTrim.l0 k x0 (wrap64 (x3 - 1))) else (if 0 ≤ x3 then (if x3 ≤ (x0.length : Int) then ((spec_l1Own.f (x0.take (x3 : Int).toNat)).bind fun t154 => (some t154)) else (none)) else (none))) else (none)) else (none)) else (if 0 ≤ x3 then (if x3 ≤ (x0.length : Int) then ((spec_l1Own.f (x0.take (x3 : Int).toNat)).bind fun t158 => (some t158)) else (none)) else (none))
def spec_poTrim.f (k : Nat) (l0 : List Int) : Option (List Int) := spec_poTrim.l0 k l0 (l0.length : Int)
theorem spec_poTrim.mono_l : ∀ k, (∀ y0 y1, LeO (spec_poTrim.l0 k y0 y1) (spec_poTrim.l0 (k + 1) y0 y1))
 | 0 => fun _ _ r h => by simp [spec_poTrim.l0] at h
 | k + 1 => by
  have ih0 := spec_poTrim.mono_l k
  ·intro y0 y1
   unfold spec_poTrim.l0
   repeat' with_reducible first
   | exact ih0 _ _
   | exact yz _
   | exact LeO.none _
   | refine LeO.ite ?_ ?_
   | refine jv ?_ (fun _ => ?_)
theorem spec_poTrim.mono : ∀ a0 k, LeO (spec_poTrim.f k a0) (spec_poTrim.f (k + 1) a0) := by
 intro a0 k
 have ih0 := spec_poTrim.mono_l k
 unfold spec_poTrim.f
 repeat' with_reducible first
   | exact ih0 _ _
   | exact yz _
   | exact LeO.none _
   | refine LeO.ite ?_ ?_
   | refine jv ?_ (fun _ => ?_)
set_option maxHeartbeats 8000000 in
set_option maxRecDepth 100000 in
theorem spec_poTrim.calls (k : Nat) (A0 : Option Addr) (c0 : Nat) (l0 : List Int) (r : List Int) (w : World) (hr0 : Kd.C (Kd.int .i64) w A0 l0.length l0) (hc0 : l0.length ≤ c0) (h : spec_poTrim.f k l0 = some r) :
  Calls Try.prog 248 #[.slice A0 l0.length c0] w fun e w' => ∃ v0_ : Value, e = .returned (v0_) ∧ Kd.R (Kd.int .i64) 3 w' w.heap.size (fun _ => True) v0_ r ∧ Below w.heap.size w w' := by
 have HR0 := zz hr0
 have HC0 := zz hc0
 clear hr0 hc0
 have HB := zz (Below.refl w.heap.size w)
 have H : (spec_poTrim.l0 k l0 (l0.length : Int)) = some r := h
 clear h
 have H' := zz H
 clear H
 go_enter Try.func248, Try.ntmps248
 go_wp2
 go_loopg [3] k (fun kq v3 w' => ∃ (x3_1 : Int), v3 = .int .i64 x3_1 ∧ Aside0 (spec_poTrim.l0 kq l0 x3_1 = some r) ∧ Aside0 (kq ≤ k) ∧ Aside0 (Below w.heap.size w w'))
 case atStart => exact ⟨((l0.length : Int)), (by first | rfl | (simp; done) | (simp [*]; done)), H', ⟨Nat.le_refl _⟩, ⟨by repeat (with_reducible first | exact HB.out | apply zj | apply zq | apply zw)⟩⟩
 case round =>
  clear H'
  obtain ⟨x3_1, rfl, HA, HK1, HB⟩ := hrel
  cases gk with
  | zero => exact absurd HA.out (by simp [spec_poTrim.l0])
  | succ k1 =>
   have H := HA.out
   clear HA
   simp only [spec_poTrim.l0] at H
   by_cases c2 : x3_1 > 0
   ·rw [if_pos c2] at H
    have c2b0 : decide (0 < x3_1) = true := decide_eq_true c2
    clear c2
    obtain ⟨ji3, hji3⟩ : ∃ j_ : Int, (wrap64 (x3_1 - 1)) = j_ := ⟨_, rfl⟩
    replace H : (if 0 ≤ (ji3) then (if (ji3) < (l0.length : Int) then (if (rd l0 (ji3)) = 0 then (spec_poTrim.l0 k1 l0 ji3) else (if 0 ≤ x3_1 then (if x3_1 ≤ (l0.length : Int) then ((spec_l1Own.f (l0.take (x3_1 : Int).toNat)).bind fun t154 => (some t154)) else (none)) else (none))) else (none)) else (none)) = some r := by first | (rw [hji3] at H; exact H) | (simp only [hji3] at H ⊢; exact H)
    have hji3w : (IntKind.i64.wrap (x3_1 - 1)) = ji3 := (i64_w _).trans hji3
    by_cases c4 : 0 ≤ (ji3)
    ·rw [if_pos c4] at H
     have c4b0 : decide (0 ≤ (ji3)) = true := decide_eq_true c4
     clear c4
     by_cases c5 : (ji3) < (l0.length : Int)
     ·rw [if_pos c5] at H
      have c5b0 : decide ((ji3) < (l0.length : Int)) = true := decide_eq_true c5
      clear c5
      by_cases c6 : (rd l0 (ji3)) = 0
      ·rw [if_pos c6] at H
       have c6b0 : ((rd l0 (ji3)) == 0) = true := beq_iff_eq.mpr c6
       have c6b1 : ((rd l0 (ji3)) != 0) = false := bne_eq_false_iff_eq.mpr c6
       clear c6
       have H' := zz H
       clear H
       have p152 : 0 ≤ ((ji3) : Int) := of_decide_eq_true (by with_reducible assumption)
       have q152 : (ji3) < (l0.length : Int) := of_decide_eq_true (by with_reducible assumption)
       obtain ⟨ad152, e152, hx152_0⟩ := Kd.at_int HR0.out (ji3) p152 q152
       cases e152
       replace hx152_0 := (HB.out.cell (zv w _ hx152_0)).trans hx152_0
       replace p152 := eq_true p152
       replace q152 := eq_true q152
       go_wp2
       go_roundg k1
       case measure => have := HK1.out; omega
       case rel => exact ⟨(ji3), (by first | rfl | (simp; done) | (simp only [← hji3] <;> (first | rfl | simp)) | (simp [*]; done)), H', ⟨by have := HK1.out; omega⟩, ⟨by repeat (with_reducible first | exact HB.out | apply zj | apply zq | apply zw)⟩⟩
      ·rw [if_neg c6] at H
       have c6b0 : ((rd l0 (ji3)) == 0) = false := beq_eq_false_iff_ne.mpr c6
       have c6b1 : ((rd l0 (ji3)) != 0) = true := bne_iff_ne.mpr c6
       by_cases c7 : 0 ≤ x3_1
       ·rw [if_pos c7] at H
        have c7b0 := eq_true c7
        have c7b1 : decide (0 ≤ x3_1) = true := decide_eq_true c7
        clear c7
        by_cases c8 : x3_1 ≤ (l0.length : Int)
        ·rw [if_pos c8] at H
         have c8b0 := eq_true c8
         have c8b1 : decide (x3_1 ≤ (l0.length : Int)) = true := decide_eq_true c8
         clear c8
         replace H := Option.bind_eq_some_iff.mp H
         obtain ⟨t154, A90, H⟩ := H
         replace H : (some t154) = some r := H
         have A9 := zz A90
         clear A90
         obtain rfl := Option.some.inj H
         have p152 : 0 ≤ ((ji3) : Int) := of_decide_eq_true (by with_reducible assumption)
         have q152 : (ji3) < (l0.length : Int) := of_decide_eq_true (by with_reducible assumption)
         obtain ⟨ad152, e152, hx152_0⟩ := Kd.at_int HR0.out (ji3) p152 q152
         cases e152
         replace hx152_0 := (HB.out.cell (zv w _ hx152_0)).trans hx152_0
         replace p152 := eq_true p152
         replace q152 := eq_true q152
         obtain ⟨i010, hi010, _, hsz10, _⟩ := info_parts info3
         obtain ⟨hcut10, hA10, hC10⟩ := print_take_of (P := Try.prog) (Value.int .i64) 0 29 3 .i64 Try.underlying29 hi010 hsz10 (some ad152) c0 l0 x3_1 (of_decide_eq_true (by with_reducible assumption)) (of_decide_eq_true (by with_reducible assumption)) HC0.out
         have HR153 := zz (Kd.C_of_reads (h1 := fun _ => rfl) (hA10 _ (Kd.reads_of_C HR0.out)))
         have HC153 := zz hC10
         clear hA10 hC10 hi010 hsz10
         go_wp2_with (first | ((with_reducible refine jw (f := 233) rfl ?_); refine yq (some 21) rfl rfl Try.func233 (by kernel_rfl) rfl #[.slice (some ad152) (l0.take (x3_1 : Int).toNat).length c0] rfl (by (try simp only [jz, List.map_cons, List.map_nil]); first | done | (rw [show (l0.take (x3_1 : Int).toNat).length = x3_1.toNat from (by rw [jj]; have h_ : (x3_1 : Int) ≤ (l0.length : Int) := of_decide_eq_true (by with_reducible assumption); omega)] <;> rfl) | rfl | (simp only [jq, jj]; rfl)) ?_; (with_reducible refine (spec_l1Own.calls _ _ (l0.take (x3_1 : Int).toNat) t154 _ ?side1 ?side2 A9.out).mono ?_); (case side1 => repeat (first | exact (qv HR153.out HB.out) | (with_reducible refine qw ?_ _) | (with_reducible refine qx ?_ _) | (with_reducible refine qk ?_))); (case side2 => exact HC153.out); rintro e w11 ⟨v155, rfl, ho0, hb⟩; refine ⟨_, rfl, ?_⟩; have n0_ := zz (Kd.R_lower ho0 (zk (by repeat (with_reducible first | exact HB.out | apply zj | apply zq | apply zw)))); have n1_ := zz (zx (by repeat (with_reducible first | exact HB.out | apply zj | apply zq | apply zw)) hb); clear HB; have HO156 := n0_; have HB := n1_; clear n0_ n1_; (try clear hb); (try clear hi hk); (try clear ho0)))
         go_ret
         exact ⟨_, by first | rfl | (simp [errW_none, errW_some] <;> rfl) | (simp only [← hji3]; first | rfl | (simp [errW_none, errW_some] <;> rfl)) | (simp [*, errW_none, errW_some] <;> rfl), by (with_reducible repeat (first | apply qz | apply qq | apply qj)); exact HO156.out, by repeat (with_reducible first | exact HB.out | apply zj | apply zq | apply zw)⟩
        ·rw [if_neg c8] at H
         exact absurd H (by simp)
       ·rw [if_neg c7] at H
        exact absurd H (by simp)
     ·rw [if_neg c5] at H
      exact absurd H (by simp)
    ·rw [if_neg c4] at H
     exact absurd H (by simp)
   ·rw [if_neg c2] at H
    have c2b0 : decide (0 < x3_1) = false := decide_eq_false c2
    clear c2
    by_cases c12 : 0 ≤ x3_1
    ·rw [if_pos c12] at H
     have c12b0 := eq_true c12
     have c12b1 : decide (0 ≤ x3_1) = true := decide_eq_true c12
     clear c12
     by_cases c13 : x3_1 ≤ (l0.length : Int)
     ·rw [if_pos c13] at H
      have c13b0 := eq_true c13
      have c13b1 : decide (x3_1 ≤ (l0.length : Int)) = true := decide_eq_true c13
      clear c13
      replace H := Option.bind_eq_some_iff.mp H
      obtain ⟨t158, A140, H⟩ := H
      replace H : (some t158) = some r := H
      have A14 := zz A140
      clear A140
      obtain rfl := Option.some.inj H
      obtain ⟨i015, hi015, _, hsz15, _⟩ := info_parts info3
      obtain ⟨hcut15, hA15, hC15⟩ := print_take_of (P := Try.prog) (Value.int .i64) 0 29 3 .i64 Try.underlying29 hi015 hsz15 A0 c0 l0 x3_1 (of_decide_eq_true (by with_reducible assumption)) (of_decide_eq_true (by with_reducible assumption)) HC0.out
      have HR157 := zz (Kd.C_of_reads (h1 := fun _ => rfl) (hA15 _ (Kd.reads_of_C HR0.out)))
      have HC157 := zz hC15
      clear hA15 hC15 hi015 hsz15
      go_wp2_with (first | ((with_reducible refine jw (f := 233) rfl ?_); refine yq (some 21) rfl rfl Try.func233 (by kernel_rfl) rfl #[.slice A0 (l0.take (x3_1 : Int).toNat).length c0] rfl (by (try simp only [jz, List.map_cons, List.map_nil]); first | done | (rw [show (l0.take (x3_1 : Int).toNat).length = x3_1.toNat from (by rw [jj]; have h_ : (x3_1 : Int) ≤ (l0.length : Int) := of_decide_eq_true (by with_reducible assumption); omega)] <;> rfl) | rfl | (simp only [jq, jj]; rfl)) ?_; (with_reducible refine (spec_l1Own.calls _ _ (l0.take (x3_1 : Int).toNat) t158 _ ?side1 ?side2 A14.out).mono ?_); (case side1 => repeat (first | exact (qv HR157.out HB.out) | (with_reducible refine qw ?_ _) | (with_reducible refine qx ?_ _) | (with_reducible refine qk ?_))); (case side2 => exact HC157.out); rintro e w16 ⟨v159, rfl, ho0, hb⟩; refine ⟨_, rfl, ?_⟩; have n0_ := zz (Kd.R_lower ho0 (zk (by repeat (with_reducible first | exact HB.out | apply zj | apply zq | apply zw)))); have n1_ := zz (zx (by repeat (with_reducible first | exact HB.out | apply zj | apply zq | apply zw)) hb); clear HB; have HO160 := n0_; have HB := n1_; clear n0_ n1_; (try clear hb); (try clear hi hk); (try clear ho0)))
      go_ret
      exact ⟨_, by first | rfl | (simp <;> rfl) | (simp [*] <;> rfl), by (with_reducible repeat (first | apply qz | apply qq | apply qj)); exact HO160.out, by repeat (with_reducible first | exact HB.out | apply zj | apply zq | apply zw)⟩
     ·rw [if_neg c13] at H
      exact absurd H (by simp)
    ·rw [if_neg c12] at H
     exact absurd H (by simp)
def spec_l1Most.f (a0 : Int) (a1 : Int) : Option (Int) := if a0 > a1 then (some a0) else (some a1)
set_option maxHeartbeats 8000000 in
set_option maxRecDepth 100000 in
theorem spec_l1Most.calls (a0 : Int) (a1 : Int) (r : Int) (w : World) (h : spec_l1Most.f a0 a1 = some r) :
  Calls Try.prog 216 #[.int .i64 a0, .int .i64 a1] w fun e w' => e = .returned (.int .i64 r) ∧ Drawn0 w w' := by
 have H : (if a0 > a1 then (some a0) else (some a1)) = some r := h
 clear h
 by_cases c3 : a0 > a1
 ·rw [if_pos c3] at H
  have c3b0 : decide (a1 < a0) = true := decide_eq_true c3
  clear c3
  obtain rfl := Option.some.inj H
  go_enter Try.func216, Try.ntmps216
  go_wp2
  go_ret
  exact ⟨by first | rfl | (simp; done) | (simp [*]; done), by repeat (first | exact Drawn0.refl _ | apply Drawn0.step)⟩
 ·rw [if_neg c3] at H
  have c3b0 : decide (a1 < a0) = false := decide_eq_false c3
  clear c3
  obtain rfl := Option.some.inj H
  go_enter Try.func216, Try.ntmps216
  go_wp2
  go_ret
  exact ⟨by first | rfl | (simp; done) | (simp [*]; done), by repeat (first | exact Drawn0.refl _ | apply Drawn0.step)⟩
mutual
def spec_poSum.l0 : Nat → List Int → List Int → List Int → Int → Int → Option (List Int)
 | 0, _, _, _, _, _ => none
 | k + 1, x1, x5, x16, x17, x18 => if x18 < x17 then (if 0 ≤ x18 then (if x18 < (x16.length : Int) then (if x18 < (x5.length : Int) then (spec_poSum.l0 k x1 (x5.set (x18 : Int).toNat (wrap64 ((rd x5 x18) + (rd x16 x18)))) x16 x17 (wrap64 (x18 + 1))) else (none)) else (none)) else (none)) else (spec_poSum.l1 k x5 x1 (x1.length : Int) 0)
def spec_poSum.l1 : Nat → List Int → List Int → Int → Int → Option (List Int)
 | 0, _, _, _, _ => none
 | k + 1, x5, x31, x32, x33 => if x33 < x32 then (if 0 ≤ x33 then (if x33 < (x31.length : Int) then (if x33 < (x5.length : Int) then (spec_poSum.l1 k (x5.set (x33 : Int).toNat (wrap64 ((rd x5 x33) + (rd x31 x33)))) x31 x32 (wrap64 (x33 + 1))) else (none)) else (none)) else (none)) else ((spec_poTrim.f k x5).bind fun t171 => (some t171))
end
def spec_poSum.f (k : Nat) (l0 : List Int) (l1 : List Int) : Option (List Int) := (spec_l1Most.f (l0.length : Int) (l1.length : Int)).bind fun t161 => (if 0 ≤ t161 then (if (t161 : Int).toNat ≤ 35184372088832 then (spec_poSum.l0 k l1 (List.replicate (t161 : Int).toNat 0) l0 (l0.length : Int) 0) else (none)) else (none))
theorem spec_poSum.mono_l : ∀ k, (∀ y0 y1 y2 y3 y4, LeO (spec_poSum.l0 k y0 y1 y2 y3 y4) (spec_poSum.l0 (k + 1) y0 y1 y2 y3 y4)) ∧ (∀ y0 y1 y2 y3, LeO (spec_poSum.l1 k y0 y1 y2 y3) (spec_poSum.l1 (k + 1) y0 y1 y2 y3))
 | 0 => ⟨fun _ _ _ _ _ r h => by simp [spec_poSum.l0] at h, fun _ _ _ _ r h => by simp [spec_poSum.l1] at h⟩
 | k + 1 => by
  obtain ⟨ih0, ih1⟩ := spec_poSum.mono_l k
  refine ⟨?_, ?_⟩
  ·intro y0 y1 y2 y3 y4
   unfold spec_poSum.l0
   repeat' with_reducible first
   | exact ih0 _ _ _ _ _
   | exact ih1 _ _ _ _
   | exact spec_poTrim.mono _ _
   | exact yz _
   | exact LeO.none _
   | refine LeO.ite ?_ ?_
   | refine jv ?_ (fun _ => ?_)
  ·intro y0 y1 y2 y3
   unfold spec_poSum.l1
   repeat' with_reducible first
   | exact ih0 _ _ _ _ _
   | exact ih1 _ _ _ _
   | exact spec_poTrim.mono _ _
   | exact yz _
   | exact LeO.none _
   | refine LeO.ite ?_ ?_
   | refine jv ?_ (fun _ => ?_)
theorem spec_poSum.mono : ∀ a0 a1 k, LeO (spec_poSum.f k a0 a1) (spec_poSum.f (k + 1) a0 a1) := by
 intro a0 a1 k
 obtain ⟨ih0, ih1⟩ := spec_poSum.mono_l k
 unfold spec_poSum.f
 repeat' with_reducible first
   | exact ih0 _ _ _ _ _
   | exact ih1 _ _ _ _
   | exact spec_poTrim.mono _ _
   | exact yz _
   | exact LeO.none _
   | refine LeO.ite ?_ ?_
   | refine jv ?_ (fun _ => ?_)
set_option maxHeartbeats 8000000 in
set_option maxRecDepth 100000 in
theorem spec_poSum.calls (k : Nat) (A0 : Option Addr) (c0 : Nat) (l0 : List Int) (A1 : Option Addr) (c1 : Nat) (l1 : List Int) (r : List Int) (w : World) (hr0 : Kd.C (Kd.int .i64) w A0 l0.length l0) (hc0 : l0.length ≤ c0) (hr1 : Kd.C (Kd.int .i64) w A1 l1.length l1) (hc1 : l1.length ≤ c1) (h : spec_poSum.f k l0 l1 = some r) :
  Calls Try.prog 249 #[.slice A0 l0.length c0, .slice A1 l1.length c1] w fun e w' => ∃ v0_ : Value, e = .returned (v0_) ∧ Kd.R (Kd.int .i64) 3 w' w.heap.size (fun _ => True) v0_ r ∧ Below w.heap.size w w' := by
 have HR0 := zz hr0
 have HC0 := zz hc0
 clear hr0 hc0
 have HR1 := zz hr1
 have HC1 := zz hc1
 clear hr1 hc1
 have HB := zz (Below.refl w.heap.size w)
 have H : ((spec_l1Most.f (l0.length : Int) (l1.length : Int)).bind fun t161 => (if 0 ≤ t161 then (if (t161 : Int).toNat ≤ 35184372088832 then (spec_poSum.l0 k l1 (List.replicate (t161 : Int).toNat 0) l0 (l0.length : Int) 0) else (none)) else (none))) = some r := h
 clear h
 replace H := Option.bind_eq_some_iff.mp H
 obtain ⟨t161, A30, H⟩ := H
 replace H : (if 0 ≤ t161 then (if (t161 : Int).toNat ≤ 35184372088832 then (spec_poSum.l0 k l1 (List.replicate (t161 : Int).toNat 0) l0 (l0.length : Int) 0) else (none)) else (none)) = some r := H
 have A3 := zz A30
 clear A30
 by_cases c4 : 0 ≤ t161
 ·rw [if_pos c4] at H
  have c4b0 := eq_true c4
  have c4b1 : decide (0 ≤ t161) = true := decide_eq_true c4
  clear c4
  by_cases c5 : (t161 : Int).toNat ≤ 35184372088832
  ·rw [if_pos c5] at H
   have c5b0 := eq_true c5
   have c5b1 : decide ((t161 : Int).toNat ≤ 35184372088832) = true := decide_eq_true c5
   clear c5
   obtain ⟨y162, hy162⟩ : ∃ y_ : List Int, y_ = (List.replicate (t161 : Int).toNat 0) := ⟨_, rfl⟩
   replace H : (spec_poSum.l0 k l1 y162 l0 (l0.length : Int) 0) = some r := by first | (rw [hy162]; with_reducible exact H) | (have H2_ := (Option.bind_some _ _).symm.trans H; rw [hy162]; with_reducible exact H2_) | (have H2_ := (Option.bind_some _ _).symm.trans H; with_reducible exact H2_) | with_reducible exact H | (rw [hy162]; exact H) | exact H
   have Ny162 := zz hy162
   clear hy162
   have H' := zz H
   clear H
   go_enter Try.func249, Try.ntmps249
   go_wp2_with (first | ((with_reducible refine jw (f := 216) rfl ?_); refine yq (some 14) rfl rfl Try.func216 (by kernel_rfl) rfl #[.int .i64 (l0.length : Int), .int .i64 (l1.length : Int)] rfl (by (try simp only [jz, List.map_cons, List.map_nil]); first | done | rfl) ?_; (with_reducible refine (spec_l1Most.calls (l0.length : Int) (l1.length : Int) t161 _ A3.out).mono ?_); rintro e w' ⟨rfl, ⟨nd, rfl⟩⟩; refine ⟨_, rfl, ?_⟩) | ((with_reducible refine gate_dst (N := 15) rfl ?_); refine Kd.R_make (Kd.int .i64) _ 3 rfl (N := 15) rfl 29 _ _ rfl t161 rfl rfl Try.underlying29 (.int .i64 0) 8 info3 rfl (by decide) (by omega) 0 (ok := fun _ => True) (okp := fun _ => True) rfl (fun _ hk => hk) trivial (of_decide_eq_true (by with_reducible assumption)) (Nat.le_trans (Nat.mul_le_mul_right _ (of_decide_eq_true (by with_reducible assumption) : t161.toNat ≤ 35184372088832)) (by omega)) (Below.refl _ _) (Nat.le_refl _) ?_; intro v163 w6 ho7 hb hg_ hnew_; clear hg_ hnew_; (first | rw [← Ny162.out] at ho7 | (simp only [Int.reduceToNat] at ho7; rw [← Ny162.out] at ho7)); have n0_ := zz (Kd.R_lower ho7 (zk (by repeat (with_reducible first | exact HB.out | apply zj | apply zq | apply zw)))); have n1_ := zz (zx (by repeat (with_reducible first | exact HB.out | apply zj | apply zq | apply zw)) hb); clear HB; have HO164 := n0_; have HB := n1_; clear n0_ n1_; clear hb ho7))
   go_loopg [18] k (fun kq v18 w' => ∃ (x5_1 : List Int) (x18_1 : Int), v18 = .int .i64 x18_1 ∧ Aside0 (spec_poSum.l0 kq l1 x5_1 l0 (l0.length : Int) x18_1 = some r) ∧ Aside0 (kq ≤ k) ∧ Aside0 (Kd.R (Kd.int .i64) 3 w' w.heap.size (fun _ => True) v163 x5_1) ∧ Aside0 (Below w.heap.size w w'))
   case atStart => exact ⟨(y162), (0), (by first | rfl | (simp; done) | (simp [*]; done)), H', ⟨Nat.le_refl _⟩, ⟨by (with_reducible repeat (first | apply qz | apply qq | apply qj)); exact HO164.out⟩, ⟨by repeat (with_reducible first | exact HB.out | apply zj | apply zq | apply zw)⟩⟩
   case round =>
    clear H'
    try clear c1
    try clear c2
    try clear p2
    try clear c4
    try clear c4b0
    try clear c4b1
    try clear c5
    try clear c5b0
    try clear c5b1
    obtain ⟨x5_1, x18_1, rfl, HA, HK1, HO_5, HB⟩ := hrel
    cases gk with
    | zero => exact absurd HA.out (by simp [spec_poSum.l0])
    | succ k1 =>
     have H := HA.out
     clear HA
     simp only [spec_poSum.l0] at H
     by_cases c8 : x18_1 < (l0.length : Int)
     ·rw [if_pos c8] at H
      have c8b0 : decide (x18_1 < (l0.length : Int)) = true := decide_eq_true c8
      clear c8
      by_cases c9 : 0 ≤ x18_1
      ·rw [if_pos c9] at H
       have c9b0 : decide (0 ≤ x18_1) = true := decide_eq_true c9
       clear c9
       by_cases c10 : x18_1 < (l0.length : Int)
       ·rw [if_pos c10] at H
        have c10b0 : decide (x18_1 < (l0.length : Int)) = true := decide_eq_true c10
        clear c10
        by_cases c11 : x18_1 < (x5_1.length : Int)
        ·rw [if_pos c11] at H
         have c11b0 : decide (x18_1 < (x5_1.length : Int)) = true := decide_eq_true c11
         clear c11
         obtain ⟨y167, hy167⟩ : ∃ y_ : List Int, y_ = (x5_1.set (x18_1 : Int).toNat (wrap64 ((rd x5_1 x18_1) + (rd l0 x18_1)))) := ⟨_, rfl⟩
         replace H : (spec_poSum.l0 k1 l1 y167 l0 (l0.length : Int) (wrap64 (x18_1 + 1))) = some r := by first | (rw [hy167]; with_reducible exact H) | (have H2_ := (Option.bind_some _ _).symm.trans H; rw [hy167]; with_reducible exact H2_) | (have H2_ := (Option.bind_some _ _).symm.trans H; with_reducible exact H2_) | with_reducible exact H | (rw [hy167]; exact H) | exact H
         have Ny167 := zz hy167
         clear hy167
         have H' := zz H
         clear H
         have p165 : 0 ≤ (x18_1 : Int) := of_decide_eq_true (by with_reducible assumption)
         have q165 : x18_1 < (l0.length : Int) := of_decide_eq_true (by with_reducible assumption)
         obtain ⟨ad165, e165, hx165_0⟩ := Kd.at_int HR0.out x18_1 p165 q165
         cases e165
         replace hx165_0 := (HB.out.cell (zv w _ hx165_0)).trans hx165_0
         replace p165 := eq_true p165
         replace q165 := eq_true q165
         obtain ⟨Ao13, co13, eo13⟩ := jk HO_5.out
         subst eo13
         have p166 : 0 ≤ (x18_1 : Int) := of_decide_eq_true (by with_reducible assumption)
         have q166 : x18_1 < (x5_1.length : Int) := of_decide_eq_true (by with_reducible assumption)
         obtain ⟨ad166, e166, hx166_0⟩ := Kd.at_int (jx HO_5.out).2.2 x18_1 p166 q166
         cases e166
         replace p166 := eq_true p166
         replace q166 := eq_true q166
         have p12 : 0 ≤ (x18_1 : Int) := of_decide_eq_true (by with_reducible assumption)
         have q12 : (x18_1 : Int) < ((x5_1.length : Int) : Int) := of_decide_eq_true (by with_reducible assumption)
         obtain ⟨go12, co12, eo12, gb12, gl12, cl12, HG12⟩ := Kd.R_form HO_5.out (by omega)
         (first | cases eo12 | (injection eo12 with ea_ en_ ec_; (first | subst ea_ | (injection ea_ with ea_; subst ea_)); subst ec_; clear en_))
         have GB12 := zz gb12
         have GG12 := zz HG12
         clear gb12 gl12 HG12
         (first | simp only [add_plain] at hx166_0 | skip)
         obtain ⟨hx12_0, hf12_0⟩ := Kd.R_celln 0 HO_5.out (x18_1 : Int) p12 q12
         replace p12 := eq_true p12
         replace q12 := eq_true q12
         have HP14 := Kd.R_putg HO_5.out (x18_1 : Int) (wrap64 ((rd x5_1 x18_1) + (rd l0 x18_1)))
         go_wp2_with (first | ((with_reducible refine gate_store (t := 3) (p := 29) rfl ?_); refine store_event (t := 3) (p := 29) (v := ?vo_w15) (w1 := (wr.setCell ⟨go12, (x18_1 : Int).toNat, none⟩ (.int .i64 (wrap64 ((rd x5_1 x18_1) + (rd l0 x18_1)))))) ?hg ?ho ?hn ?hr ?_; (case ho => rfl); (case hg => rfl); (case hn => rfl); (case hr => first | (go_simp; done) | (go_simp; rfl)); intro w15 hw; have hg : wr.grownBy w15 (some go12) := (by rw [hw]; exact HP14.2); have hp_ : Kd.R (Kd.int .i64) 3 w15 w.heap.size (fun _ => True) (.slice (some ⟨go12, 0, none⟩) x5_1.length co13) y167 := (by rw [hw, Ny167.out]; exact HP14.1); clear HP14; have n0_ := zz (hp_); have n1_ := zz ((by rw [hw]; exact below_set (HB.out) GB12.out : Below w.heap.size w w15)); clear HO_5; clear HB; have HO_5 := n0_; have HB := n1_; clear n0_ n1_; clear hg hw hp_))
         go_roundg k1
         case measure => have := HK1.out; omega
         case rel => exact ⟨(y167), (wrap64 (x18_1 + 1)), (by first | rfl | (simp; done) | (simp [*]; done)), H', ⟨by have := HK1.out; omega⟩, ⟨by (with_reducible repeat (first | apply qz | apply qq | apply qj)); exact HO_5.out⟩, ⟨by repeat (with_reducible first | exact HB.out | apply zj | apply zq | apply zw)⟩⟩
        ·rw [if_neg c11] at H
         exact absurd H (by simp)
       ·rw [if_neg c10] at H
        exact absurd H (by simp)
      ·rw [if_neg c9] at H
       exact absurd H (by simp)
     ·rw [if_neg c8] at H
      have c8b0 : decide (x18_1 < (l0.length : Int)) = false := decide_eq_false c8
      clear c8
      have H' := zz H
      clear H
      go_wp2
      go_loopg [33] k1 (fun kq v33 w' => ∃ (x5_2 : List Int) (x33_2 : Int), v33 = .int .i64 x33_2 ∧ Aside0 (spec_poSum.l1 kq x5_2 l1 (l1.length : Int) x33_2 = some r) ∧ Aside0 (kq ≤ k1) ∧ Aside0 (Kd.R (Kd.int .i64) 3 w' w.heap.size (fun _ => True) v163 x5_2) ∧ Aside0 (Below w.heap.size w w'))
      case atStart => exact ⟨(x5_1), (0), (by first | rfl | (simp; done) | (simp [*]; done)), H', ⟨Nat.le_refl _⟩, ⟨by (with_reducible repeat (first | apply qz | apply qq | apply qj)); exact HO_5.out⟩, ⟨by repeat (with_reducible first | exact HB.out | apply zj | apply zq | apply zw)⟩⟩
      case round =>
       clear H'
       try clear c1
       try clear p1
       try clear q1
       try clear hx1
       try clear c2
       try clear p2
       try clear c4
       try clear c4b0
       try clear c4b1
       try clear c5
       try clear c5b0
       try clear c5b1
       try clear p6
       try clear c8
       try clear c8b0
       try clear c9
       try clear c9b0
       try clear c10
       try clear c10b0
       try clear c11
       try clear c11b0
       try clear p12
       try clear q12
       try clear hx12
       try clear hf12
       try clear hx12_0
       try clear hx165_0
       try clear hx166_0
       try clear p12
       try clear p165
       try clear p166
       try clear p2
       try clear q12
       try clear q165
       try clear q166
       obtain ⟨x5_2, x33_2, rfl, HA, HK2, HO_5, HB⟩ := hrel
       cases gk with
       | zero => exact absurd HA.out (by simp [spec_poSum.l1])
       | succ k2 =>
        have H := HA.out
        clear HA
        simp only [spec_poSum.l1] at H
        by_cases c16 : x33_2 < (l1.length : Int)
        ·rw [if_pos c16] at H
         have c16b0 : decide (x33_2 < (l1.length : Int)) = true := decide_eq_true c16
         clear c16
         by_cases c17 : 0 ≤ x33_2
         ·rw [if_pos c17] at H
          have c17b0 : decide (0 ≤ x33_2) = true := decide_eq_true c17
          clear c17
          by_cases c18 : x33_2 < (l1.length : Int)
          ·rw [if_pos c18] at H
           have c18b0 : decide (x33_2 < (l1.length : Int)) = true := decide_eq_true c18
           clear c18
           by_cases c19 : x33_2 < (x5_2.length : Int)
           ·rw [if_pos c19] at H
            have c19b0 : decide (x33_2 < (x5_2.length : Int)) = true := decide_eq_true c19
            clear c19
            obtain ⟨y170, hy170⟩ : ∃ y_ : List Int, y_ = (x5_2.set (x33_2 : Int).toNat (wrap64 ((rd x5_2 x33_2) + (rd l1 x33_2)))) := ⟨_, rfl⟩
            replace H : (spec_poSum.l1 k2 y170 l1 (l1.length : Int) (wrap64 (x33_2 + 1))) = some r := by first | (rw [hy170]; with_reducible exact H) | (have H2_ := (Option.bind_some _ _).symm.trans H; rw [hy170]; with_reducible exact H2_) | (have H2_ := (Option.bind_some _ _).symm.trans H; with_reducible exact H2_) | with_reducible exact H | (rw [hy170]; exact H) | exact H
            have Ny170 := zz hy170
            clear hy170
            have H' := zz H
            clear H
            have p168 : 0 ≤ (x33_2 : Int) := of_decide_eq_true (by with_reducible assumption)
            have q168 : x33_2 < (l1.length : Int) := of_decide_eq_true (by with_reducible assumption)
            obtain ⟨ad168, e168, hx168_0⟩ := Kd.at_int HR1.out x33_2 p168 q168
            cases e168
            replace hx168_0 := (HB.out.cell (zv w _ hx168_0)).trans hx168_0
            replace p168 := eq_true p168
            replace q168 := eq_true q168
            obtain ⟨Ao21, co21, eo21⟩ := jk HO_5.out
            subst eo21
            have p169 : 0 ≤ (x33_2 : Int) := of_decide_eq_true (by with_reducible assumption)
            have q169 : x33_2 < (x5_2.length : Int) := of_decide_eq_true (by with_reducible assumption)
            obtain ⟨ad169, e169, hx169_0⟩ := Kd.at_int (jx HO_5.out).2.2 x33_2 p169 q169
            cases e169
            replace p169 := eq_true p169
            replace q169 := eq_true q169
            have p20 : 0 ≤ (x33_2 : Int) := of_decide_eq_true (by with_reducible assumption)
            have q20 : (x33_2 : Int) < ((x5_2.length : Int) : Int) := of_decide_eq_true (by with_reducible assumption)
            obtain ⟨go20, co20, eo20, gb20, gl20, cl20, HG20⟩ := Kd.R_form HO_5.out (by omega)
            (first | cases eo20 | (injection eo20 with ea_ en_ ec_; (first | subst ea_ | (injection ea_ with ea_; subst ea_)); subst ec_; clear en_))
            have GB20 := zz gb20
            have GG20 := zz HG20
            clear gb20 gl20 HG20
            (first | simp only [add_plain] at hx169_0 | skip)
            obtain ⟨hx20_0, hf20_0⟩ := Kd.R_celln 0 HO_5.out (x33_2 : Int) p20 q20
            replace p20 := eq_true p20
            replace q20 := eq_true q20
            have HP22 := Kd.R_putg HO_5.out (x33_2 : Int) (wrap64 ((rd x5_2 x33_2) + (rd l1 x33_2)))
            go_wp2_with (first | ((with_reducible refine gate_store (t := 3) (p := 44) rfl ?_); refine store_event (t := 3) (p := 44) (v := ?vo_w23) (w1 := (wr.setCell ⟨go20, (x33_2 : Int).toNat, none⟩ (.int .i64 (wrap64 ((rd x5_2 x33_2) + (rd l1 x33_2)))))) ?hg ?ho ?hn ?hr ?_; (case ho => rfl); (case hg => rfl); (case hn => rfl); (case hr => first | (go_simp; done) | (go_simp; rfl)); intro w23 hw; have hg : wr.grownBy w23 (some go20) := (by rw [hw]; exact HP22.2); have hp_ : Kd.R (Kd.int .i64) 3 w23 w.heap.size (fun _ => True) (.slice (some ⟨go20, 0, none⟩) x5_2.length co21) y170 := (by rw [hw, Ny170.out]; exact HP22.1); clear HP22; have n0_ := zz (hp_); have n1_ := zz ((by rw [hw]; exact below_set (HB.out) GB20.out : Below w.heap.size w w23)); clear HO_5; clear HB; have HO_5 := n0_; have HB := n1_; clear n0_ n1_; clear hg hw hp_))
            go_roundg k2
            case measure => have := HK1.out; have := HK2.out; omega
            case rel => exact ⟨(y170), (wrap64 (x33_2 + 1)), (by first | rfl | (simp; done) | (simp [*]; done)), H', ⟨by have := HK1.out; have := HK2.out; omega⟩, ⟨by (with_reducible repeat (first | apply qz | apply qq | apply qj)); exact HO_5.out⟩, ⟨by repeat (with_reducible first | exact HB.out | apply zj | apply zq | apply zw)⟩⟩
           ·rw [if_neg c19] at H
            exact absurd H (by simp)
          ·rw [if_neg c18] at H
           exact absurd H (by simp)
         ·rw [if_neg c17] at H
          exact absurd H (by simp)
        ·rw [if_neg c16] at H
         have c16b0 : decide (x33_2 < (l1.length : Int)) = false := decide_eq_false c16
         clear c16
         replace H := Option.bind_eq_some_iff.mp H
         obtain ⟨t171, A240, H⟩ := H
         replace H : (some t171) = some r := H
         have A24 := zz A240
         clear A240
         obtain rfl := Option.some.inj H
         obtain ⟨Ao25, co25, eo25⟩ := jk HO_5.out
         subst eo25
         go_wp2_with (first | ((with_reducible refine jw (f := 248) rfl ?_); refine yq (some 47) rfl rfl Try.func248 (by kernel_rfl) rfl #[.slice Ao25 x5_2.length co25] rfl (by (try simp only [jz, List.map_cons, List.map_nil]); first | done | rfl) ?_; (with_reducible refine (spec_poTrim.calls k2 _ _ x5_2 t171 _ ?side1 ?side2 A24.out).mono ?_); (case side1 => repeat (first | exact (jx HO_5.out).2.2 | (with_reducible refine qw ?_ _) | (with_reducible refine qx ?_ _) | (with_reducible refine qk ?_))); (case side2 => exact (jx HO_5.out).2.1); rintro e w26 ⟨v172, rfl, ho0, hb⟩; refine ⟨_, rfl, ?_⟩; have n0_ := zz (Kd.R_elder' (by (with_reducible repeat (first | apply qz | apply qq | apply qj)); exact HO_5.out) (Kd.R_base ho0) hb); have n1_ := zz (Kd.R_lower (Kd.R_new' ho0 (Kd.R_lt (by (with_reducible repeat (first | apply qz | apply qq | apply qj)); exact HO_5.out))) (zk (by repeat (with_reducible first | exact HB.out | apply zj | apply zq | apply zw)))); have n2_ := zz (zx (by repeat (with_reducible first | exact HB.out | apply zj | apply zq | apply zw)) hb); clear HO_5; clear HB; have HO_5 := n0_; have HO173 := n1_; have HB := n2_; clear n0_ n1_ n2_; (try clear hb); (try clear hi hk); (try clear ho0)))
         go_ret
         exact ⟨_, by first | rfl | (simp <;> rfl) | (simp [*] <;> rfl), by (with_reducible repeat (first | apply qz | apply qq | apply qj)); exact Kd.R_mono HO173.out (fun _ hk => trivial), by repeat (with_reducible first | exact HB.out | apply zj | apply zq | apply zw)⟩
  ·rw [if_neg c5] at H
   exact absurd H (by simp)
 ·rw [if_neg c4] at H
  exact absurd H (by simp)
end Go.Proofs.Ytlmoemahamneoaa.PFnSchemesAgree
