-- Written by gprint.py, a program of this session, out of the translation (a changed print).
import Derived.Test.YtemakeekfgaaeaaPFnExactIsAddersx0
namespace Go.Proofs.Ytemakeekfgaaeaa.PFnExactIsAdders
open Go.RowKit Go.Proofs.YtemakeekfgaaeaaW.PrintWords Go.Proofs.YtemakeekfgaaeaaW.PrintLast Go.Proofs.YtemakeekfgaaeaaW.PrintMore
attribute [local go_sem] max2_int min2_int max_two min_two max_three min_three max_four min_four   -- for this text's walks alone
set_option linter.unusedVariables false
set_option linter.unusedSimpArgs false

/-! ### laws_szAdderS: function 42 -/
def laws_szAdderS.f (l0 : List (S68)) (a1 : Int) : Option (Int) := if (wrap64 (a1 - (l0.length : Int))) < 0 then (some (-1)) else (some (wrap64 (a1 - (l0.length : Int))))
set_option maxHeartbeats 8000000 in
set_option maxRecDepth 100000 in
theorem laws_szAdderS.calls (A0 : Option Addr) (c0 : Nat) (l0 : List (S68)) (a1 : Int) (r : Int) (w : World) (hr0 : Kd.C k68 w A0 l0.length l0) (hc0 : l0.length ≤ c0) (h : laws_szAdderS.f l0 a1 = some r) :
    Calls Try.prog 42 #[.slice A0 l0.length c0, .int .i64 a1] w fun e w' => e = .returned (.int .i64 r) ∧ Drawn0 w w' := by
  have HR0 := Aside0.mk hr0
  have HC0 := Aside0.mk hc0
  clear hr0 hc0
  have H : (if (wrap64 (a1 - (l0.length : Int))) < 0 then (some (-1)) else (some (wrap64 (a1 - (l0.length : Int))))) = some r := h
  clear h
  by_cases c3 : (wrap64 (a1 - (l0.length : Int))) < 0
  · rw [if_pos c3] at H
    have c3b0 : decide ((wrap64 (a1 - (l0.length : Int))) < 0) = true := decide_eq_true c3
    clear c3
    obtain rfl := Option.some.inj H
    go_enter Try.func42, Try.ntmps42
    go_wp2
    go_ret
    exact ⟨by first | rfl | (simp; done) | (simp [*]; done), by repeat (first | exact Drawn0.refl _ | apply Drawn0.step)⟩
  · rw [if_neg c3] at H
    have c3b0 : decide ((wrap64 (a1 - (l0.length : Int))) < 0) = false := decide_eq_false c3
    clear c3
    obtain rfl := Option.some.inj H
    go_enter Try.func42, Try.ntmps42
    go_wp2
    go_ret
    exact ⟨by first | rfl | (simp; done) | (simp [*]; done), by repeat (first | exact Drawn0.refl _ | apply Drawn0.step)⟩

/-! ### spec_l1In: function 50 -/
def spec_l1In.f (a0 : Int) (a1 : Int) (a2 : Int) : Option (Bool) := if a0 ≥ a1 then (some (decide (a0 ≤ a2))) else (some false)
set_option maxHeartbeats 8000000 in
set_option maxRecDepth 100000 in
theorem spec_l1In.calls (a0 : Int) (a1 : Int) (a2 : Int) (r : Bool) (w : World) (h : spec_l1In.f a0 a1 a2 = some r) :
    Calls Try.prog 50 #[.int .i64 a0, .int .i64 a1, .int .i64 a2] w fun e w' => e = .returned (.bool r) ∧ Drawn0 w w' := by
  have H : (if a0 ≥ a1 then (some (decide (a0 ≤ a2))) else (some false)) = some r := h
  clear h
  by_cases c4 : a0 ≥ a1
  · rw [if_pos c4] at H
    have c4b0 : decide (a1 ≤ a0) = true := decide_eq_true c4
    clear c4
    obtain rfl := Option.some.inj H
    go_enter Try.func50, Try.ntmps50
    go_wp2
    go_ret
    exact ⟨by first | rfl | (simp; done) | (simp [*]; done), by repeat (first | exact Drawn0.refl _ | apply Drawn0.step)⟩
  · rw [if_neg c4] at H
    have c4b0 : decide (a1 ≤ a0) = false := decide_eq_false c4
    clear c4
    obtain rfl := Option.some.inj H
    go_enter Try.func50, Try.ntmps50
    go_wp2
    go_ret
    exact ⟨by first | rfl | (simp; done) | (simp [*]; done), by repeat (first | exact Drawn0.refl _ | apply Drawn0.step)⟩

/-! ### spec_l1All: function 69 -/
def spec_l1All.l0 : Nat → Int → Int → List Int → Int → Int → Option (Bool)
  | 0, _, _, _, _, _ => none
  | k + 1, x1, x2, x9, x10, x11 => if x11 < x10 then (if 0 ≤ x11 then (if x11 < (x9.length : Int) then ((spec_l1In.f (rd x9 x11) x1 x2).bind fun t102 => (if t102 = true then (spec_l1All.l0 k x1 x2 x9 x10 (wrap64 (x11 + 1))) else (some false))) else (none)) else (none)) else (some true)
def spec_l1All.f (k : Nat) (l0 : List Int) (a1 : Int) (a2 : Int) : Option (Bool) := spec_l1All.l0 k a1 a2 l0 (l0.length : Int) 0
theorem spec_l1All.mono_l : ∀ k, (∀ y0 y1 y2 y3 y4, LeO (spec_l1All.l0 k y0 y1 y2 y3 y4) (spec_l1All.l0 (k + 1) y0 y1 y2 y3 y4))
  | 0 => fun _ _ _ _ _ r h => by simp [spec_l1All.l0] at h
  | k + 1 => by
    have ih0 := spec_l1All.mono_l k
    · intro y0 y1 y2 y3 y4
      unfold spec_l1All.l0
      repeat' first
      | (with_reducible exact ih0 _ _ _ _ _)
      | (with_reducible exact LeO.refl _)
      | (with_reducible exact LeO.none _)
      | (with_reducible refine LeO.ite ?_ ?_)
      | (with_reducible refine LeO.bind ?_ (fun _ => ?_))
      | exact ih0 _ _ _ _ _
      | exact LeO.none _
      | refine LeO.ite ?_ ?_
      | refine LeO.bind ?_ (fun _ => ?_)
theorem spec_l1All.mono : ∀ a0 a1 a2 k, LeO (spec_l1All.f k a0 a1 a2) (spec_l1All.f (k + 1) a0 a1 a2) := by
  intro a0 a1 a2 k
  have ih0 := spec_l1All.mono_l k
  unfold spec_l1All.f
  repeat' first
      | (with_reducible exact ih0 _ _ _ _ _)
      | (with_reducible exact LeO.refl _)
      | (with_reducible exact LeO.none _)
      | (with_reducible refine LeO.ite ?_ ?_)
      | (with_reducible refine LeO.bind ?_ (fun _ => ?_))
      | exact ih0 _ _ _ _ _
      | exact LeO.none _
      | refine LeO.ite ?_ ?_
      | refine LeO.bind ?_ (fun _ => ?_)
set_option maxHeartbeats 8000000 in
set_option maxRecDepth 100000 in
theorem spec_l1All.calls (k : Nat) (A0 : Option Addr) (c0 : Nat) (l0 : List Int) (a1 : Int) (a2 : Int) (r : Bool) (w : World) (hr0 : Kd.C (Kd.int .i64) w A0 l0.length l0) (hc0 : l0.length ≤ c0) (h : spec_l1All.f k l0 a1 a2 = some r) :
    Calls Try.prog 69 #[.slice A0 l0.length c0, .int .i64 a1, .int .i64 a2] w fun e w' => e = .returned (.bool r) ∧ Drawn0 w w' := by
  have HR0 := Aside0.mk hr0
  have HC0 := Aside0.mk hc0
  clear hr0 hc0
  have H : (spec_l1All.l0 k a1 a2 l0 (l0.length : Int) 0) = some r := h
  clear h
  have H' := Aside0.mk H
  clear H
  go_enter Try.func69, Try.ntmps69
  go_wp2
  go_loopg [11] k (fun kq v11 w' => ∃ (x11_1 : Int), v11 = .int .i64 x11_1 ∧ Aside0 (spec_l1All.l0 kq a1 a2 l0 (l0.length : Int) x11_1 = some r) ∧ Aside0 (kq ≤ k) ∧ Drawn0 w w')
  case atStart => exact ⟨(0), (by first | rfl | (simp; done) | (simp [*]; done)), H', ⟨Nat.le_refl _⟩, by repeat (first | exact Drawn0.refl _ | apply Drawn0.step)⟩
  case round =>
    clear H'
    try clear p2
    obtain ⟨x11_1, rfl, HA, HK1, ⟨m1, rfl⟩⟩ := hrel
    cases gk with
    | zero => exact absurd HA.out (by simp [spec_l1All.l0])
    | succ k1 =>
      have H := HA.out
      clear HA
      simp only [spec_l1All.l0] at H
      by_cases c4 : x11_1 < (l0.length : Int)
      · rw [if_pos c4] at H
        have c4b0 : decide (x11_1 < (l0.length : Int)) = true := decide_eq_true c4
        clear c4
        by_cases c5 : 0 ≤ x11_1
        · rw [if_pos c5] at H
          have c5b0 : decide (0 ≤ x11_1) = true := decide_eq_true c5
          clear c5
          by_cases c6 : x11_1 < (l0.length : Int)
          · rw [if_pos c6] at H
            have c6b0 : decide (x11_1 < (l0.length : Int)) = true := decide_eq_true c6
            clear c6
            replace H := Option.bind_eq_some_iff.mp H
            obtain ⟨t102, A70, H⟩ := H
            replace H : (if t102 = true then (spec_l1All.l0 k1 a1 a2 l0 (l0.length : Int) (wrap64 (x11_1 + 1))) else (some false)) = some r := H
            have A7 := Aside0.mk A70
            clear A70
            by_cases c8 : t102 = true
            · subst c8
              have H1 : (spec_l1All.l0 k1 a1 a2 l0 (l0.length : Int) (wrap64 (x11_1 + 1))) = some r := by rw [if_pos rfl] at H; exact H
              clear H
              have H := H1
              clear H1
              have H' := Aside0.mk H
              clear H
              have p101 : 0 ≤ (x11_1 : Int) := of_decide_eq_true (by first | (with_reducible assumption) | assumption)
              have q101 : x11_1 < (l0.length : Int) := of_decide_eq_true (by first | (with_reducible assumption) | assumption)
              obtain ⟨ad101, e101, hx101_0⟩ := Kd.at_int HR0.out x11_1 p101 q101
              cases e101
              replace p101 := eq_true p101
              replace q101 := eq_true q101
              go_wp2_with (first | ((with_reducible refine gate_callee (f := 50) rfl ?_); refine goesL_ (some 18) rfl rfl Try.func50 (by kernel_rfl) rfl #[.int .i64 (rd l0 x11_1), .int .i64 a1, .int .i64 a2] rfl (by (try simp only [List.map_toArray, List.map_cons, List.map_nil]); first | done | rfl | (simp only [List.length_drop, List.length_take]; rfl)) ?_; (with_reducible refine (spec_l1In.calls (rd l0 x11_1) a1 a2 true _ A7.out).mono ?_); rintro e w' ⟨rfl, ⟨nd, rfl⟩⟩; refine ⟨_, rfl, ?_⟩))
              go_roundg k1
              case measure => have := HK1.out; omega
              case rel => exact ⟨(wrap64 (x11_1 + 1)), (by first | rfl | (simp; done) | (simp [*]; done)), H', ⟨by have := HK1.out; omega⟩, by repeat (first | exact Drawn0.refl _ | apply Drawn0.step)⟩
            · replace c8 := Bool.eq_false_iff.mpr c8
              subst c8
              have H1 : (some false) = some r := by rw [if_neg (show ¬ (false = true) by decide)] at H; exact H
              clear H
              have H := H1
              clear H1
              obtain rfl := Option.some.inj H
              have p101 : 0 ≤ (x11_1 : Int) := of_decide_eq_true (by first | (with_reducible assumption) | assumption)
              have q101 : x11_1 < (l0.length : Int) := of_decide_eq_true (by first | (with_reducible assumption) | assumption)
              obtain ⟨ad101, e101, hx101_0⟩ := Kd.at_int HR0.out x11_1 p101 q101
              cases e101
              replace p101 := eq_true p101
              replace q101 := eq_true q101
              go_wp2_with (first | ((with_reducible refine gate_callee (f := 50) rfl ?_); refine goesL_ (some 18) rfl rfl Try.func50 (by kernel_rfl) rfl #[.int .i64 (rd l0 x11_1), .int .i64 a1, .int .i64 a2] rfl (by (try simp only [List.map_toArray, List.map_cons, List.map_nil]); first | done | rfl | (simp only [List.length_drop, List.length_take]; rfl)) ?_; (with_reducible refine (spec_l1In.calls (rd l0 x11_1) a1 a2 false _ A7.out).mono ?_); rintro e w' ⟨rfl, ⟨nd, rfl⟩⟩; refine ⟨_, rfl, ?_⟩))
              go_ret
              exact ⟨by first | rfl | (simp; done) | (simp [*]; done), by repeat (first | exact Drawn0.refl _ | apply Drawn0.step)⟩
          · rw [if_neg c6] at H
            exact absurd H (by simp)
        · rw [if_neg c5] at H
          exact absurd H (by simp)
      · rw [if_neg c4] at H
        have c4b0 : decide (x11_1 < (l0.length : Int)) = false := decide_eq_false c4
        clear c4
        obtain rfl := Option.some.inj H
        go_wp2
        go_ret
        exact ⟨by first | rfl | (simp; done) | (simp [*]; done), by repeat (first | exact Drawn0.refl _ | apply Drawn0.step)⟩

/-! ### spec_siValues: function 87 -/
def spec_siValues.l0 : Nat → List Int → List (S23) → Int → Int → Option (List Int)
  | 0, _, _, _, _ => none
  | k + 1, x5, x12, x13, x14 => if x14 < x13 then (if 0 ≤ x14 then (if x14 < (x12.length : Int) then (if 0 ≤ ((rd_T23 x12 x14).f0) then (if ((rd_T23 x12 x14).f0) < (x5.length : Int) then (if 0 ≤ ((rd_T23 x12 x14).f1) then (if 0 ≤ ((rd_T23 x12 x14).f2) then (if ((rd_T23 x12 x14).f2) < (x5.length : Int) then (if 0 ≤ ((rd_T23 x12 x14).f3) then (if (rd_T23 x12 x14).f4 = true then (if x5.length < 17592186044416 then (spec_siValues.l0 k (x5 ++ [wrap64 ((shl .i64 (rd x5 ((rd_T23 x12 x14).f0)) ((rd_T23 x12 x14).f1)) + (wrap64 (-(shl .i64 (rd x5 ((rd_T23 x12 x14).f2)) ((rd_T23 x12 x14).f3)))))]) x12 x13 (wrap64 (x14 + 1))) else (none)) else (if x5.length < 17592186044416 then (spec_siValues.l0 k (x5 ++ [wrap64 ((shl .i64 (rd x5 ((rd_T23 x12 x14).f0)) ((rd_T23 x12 x14).f1)) + (shl .i64 (rd x5 ((rd_T23 x12 x14).f2)) ((rd_T23 x12 x14).f3)))]) x12 x13 (wrap64 (x14 + 1))) else (none))) else (none)) else (none)) else (none)) else (none)) else (none)) else (none)) else (none)) else (none)) else (some x5)
def spec_siValues.f (k : Nat) (l0 : List (S23)) (a1 : Int) : Option (List Int) := spec_siValues.l0 k (([a1] : List Int)) l0 (l0.length : Int) 0
theorem spec_siValues.mono_l : ∀ k, (∀ y0 y1 y2 y3, LeO (spec_siValues.l0 k y0 y1 y2 y3) (spec_siValues.l0 (k + 1) y0 y1 y2 y3))
  | 0 => fun _ _ _ _ r h => by simp [spec_siValues.l0] at h
  | k + 1 => by
    have ih0 := spec_siValues.mono_l k
    · intro y0 y1 y2 y3
      unfold spec_siValues.l0
      repeat' first
      | (with_reducible exact ih0 _ _ _ _)
      | (with_reducible exact LeO.refl _)
      | (with_reducible exact LeO.none _)
      | (with_reducible refine LeO.ite ?_ ?_)
      | (with_reducible refine LeO.bind ?_ (fun _ => ?_))
      | exact ih0 _ _ _ _
      | exact LeO.none _
      | refine LeO.ite ?_ ?_
      | refine LeO.bind ?_ (fun _ => ?_)
theorem spec_siValues.mono : ∀ a0 a1 k, LeO (spec_siValues.f k a0 a1) (spec_siValues.f (k + 1) a0 a1) := by
  intro a0 a1 k
  have ih0 := spec_siValues.mono_l k
  unfold spec_siValues.f
  repeat' first
      | (with_reducible exact ih0 _ _ _ _)
      | (with_reducible exact LeO.refl _)
      | (with_reducible exact LeO.none _)
      | (with_reducible refine LeO.ite ?_ ?_)
      | (with_reducible refine LeO.bind ?_ (fun _ => ?_))
      | exact ih0 _ _ _ _
      | exact LeO.none _
      | refine LeO.ite ?_ ?_
      | refine LeO.bind ?_ (fun _ => ?_)
set_option maxHeartbeats 8000000 in
set_option maxRecDepth 100000 in
theorem spec_siValues.calls (k : Nat) (A0 : Option Addr) (c0 : Nat) (l0 : List (S23)) (a1 : Int) (r : List Int) (w : World) (hr0 : Kd.C k23 w A0 l0.length l0) (hc0 : l0.length ≤ c0) (h : spec_siValues.f k l0 a1 = some r) :
    Calls Try.prog 87 #[.slice A0 l0.length c0, .int .i64 a1] w fun e w' => ∃ v0_ : Value, e = .returned (v0_) ∧ Kd.R (Kd.int .i64) 3 w' w.heap.size (fun _ => True) v0_ r ∧ Below w.heap.size w w' := by
  have hu23 := Try.underlying23
  have HR0 := Aside0.mk hr0
  have HC0 := Aside0.mk hc0
  clear hr0 hc0
  have HB := Aside0.mk (Below.refl w.heap.size w)
  have H : (spec_siValues.l0 k (([a1] : List Int)) l0 (l0.length : Int) 0) = some r := h
  clear h
  obtain ⟨y103, hy103⟩ : ∃ y_ : List Int, y_ = (([a1] : List Int)) := ⟨_, rfl⟩
  replace H : (spec_siValues.l0 k y103 l0 (l0.length : Int) 0) = some r := by first | (rw [hy103]; with_reducible exact H) | (have H2_ := (Option.bind_some _ _).symm.trans H; rw [hy103]; with_reducible exact H2_) | (have H2_ := (Option.bind_some _ _).symm.trans H; with_reducible exact H2_) | with_reducible exact H | (rw [hy103]; exact H) | exact H
  have Ny103 := Aside0.mk hy103
  clear hy103
  have H' := Aside0.mk H
  clear H
  go_enter Try.func87, Try.ntmps87
  go_wp2_with (first | ((with_reducible refine gate_dst (N := 11) rfl ?_); refine Kd.R_lit (Kd.int .i64) _ 3 ?hg (N := 11) ?hd (xs := ([a1] : List Int)) (inner := [.int .i64 a1]) (ok := fun _ => True) (okp := fun _ => True) ?hr ?hp (fun _ hk => hk) trivial (Below.refl _ _) (Nat.le_refl _) (by simp) ?_; (case hd => rfl); (case hg => rfl); (case hr => first | (go_simp; done) | (go_simp; rfl)); (case hp => exact (Reps.one (show Kd.M (Kd.int .i64) _ _ _ a1 [.int .i64 a1] from rfl) (Reps.none _ _))); intro v104 w3 ho4 hb hg_ hnew_; clear hg_ hnew_; (first | rw [← Ny103.out] at ho4 | (simp only [Int.reduceToNat] at ho4; rw [← Ny103.out] at ho4)); have n0_ := Aside0.mk (Kd.R_lower ho4 (below_size (by repeat (first | (with_reducible first | exact HB.out | apply below_alloc | apply pw_below_drewN | apply below_drew1) | exact HB.out)))); have n1_ := Aside0.mk (below_step (by repeat (first | (with_reducible first | exact HB.out | apply below_alloc | apply pw_below_drewN | apply below_drew1) | exact HB.out)) hb); clear HB; have HO105 := n0_; have HB := n1_; clear n0_ n1_; clear hb ho4))
  repeat (go_quiet (first | ((with_reducible refine gate_dst (N := 11) rfl ?_); refine Kd.R_lit (Kd.int .i64) _ 3 ?hg (N := 11) ?hd (xs := ([a1] : List Int)) (inner := [.int .i64 a1]) (ok := fun _ => True) (okp := fun _ => True) ?hr ?hp (fun _ hk => hk) trivial (Below.refl _ _) (Nat.le_refl _) (by simp) ?_; (case hd => rfl); (case hg => rfl); (case hr => first | (go_simp; done) | (go_simp; rfl)); (case hp => exact (Reps.one (show Kd.M (Kd.int .i64) _ _ _ a1 [.int .i64 a1] from rfl) (Reps.none _ _))); intro v104 w3 ho4 hb hg_ hnew_; clear hg_ hnew_; (first | rw [← Ny103.out] at ho4 | (simp only [Int.reduceToNat] at ho4; rw [← Ny103.out] at ho4)); have n0_ := Aside0.mk (Kd.R_lower ho4 (below_size (by repeat (first | (with_reducible first | exact HB.out | apply below_alloc | apply pw_below_drewN | apply below_drew1) | exact HB.out)))); have n1_ := Aside0.mk (below_step (by repeat (first | (with_reducible first | exact HB.out | apply below_alloc | apply pw_below_drewN | apply below_drew1) | exact HB.out)) hb); clear HB; have HO105 := n0_; have HB := n1_; clear n0_ n1_; clear hb ho4)); try go_wp2_with (first | ((with_reducible refine gate_dst (N := 11) rfl ?_); refine Kd.R_lit (Kd.int .i64) _ 3 ?hg (N := 11) ?hd (xs := ([a1] : List Int)) (inner := [.int .i64 a1]) (ok := fun _ => True) (okp := fun _ => True) ?hr ?hp (fun _ hk => hk) trivial (Below.refl _ _) (Nat.le_refl _) (by simp) ?_; (case hd => rfl); (case hg => rfl); (case hr => first | (go_simp; done) | (go_simp; rfl)); (case hp => exact (Reps.one (show Kd.M (Kd.int .i64) _ _ _ a1 [.int .i64 a1] from rfl) (Reps.none _ _))); intro v104 w3 ho4 hb hg_ hnew_; clear hg_ hnew_; (first | rw [← Ny103.out] at ho4 | (simp only [Int.reduceToNat] at ho4; rw [← Ny103.out] at ho4)); have n0_ := Aside0.mk (Kd.R_lower ho4 (below_size (by repeat (first | (with_reducible first | exact HB.out | apply below_alloc | apply pw_below_drewN | apply below_drew1) | exact HB.out)))); have n1_ := Aside0.mk (below_step (by repeat (first | (with_reducible first | exact HB.out | apply below_alloc | apply pw_below_drewN | apply below_drew1) | exact HB.out)) hb); clear HB; have HO105 := n0_; have HB := n1_; clear n0_ n1_; clear hb ho4)))
  go_loopg [5, 14] k (fun kq v5 v14 w' => ∃ (x5_1 : List Int) (x14_1 : Int), v14 = .int .i64 x14_1 ∧ Aside0 (spec_siValues.l0 kq x5_1 l0 (l0.length : Int) x14_1 = some r) ∧ Aside0 (kq ≤ k) ∧ Aside0 (Kd.R (Kd.int .i64) 3 w' w.heap.size (fun _ => True) v5 x5_1) ∧ Aside0 (Below w.heap.size w w'))
  case atStart => exact ⟨(y103), (0), (by first | rfl | (simp; done) | (simp [*]; done)), H', ⟨Nat.le_refl _⟩, ⟨by (with_reducible repeat (first | apply Kd.R_alloc | apply Kd.R_drewN | apply Kd.R_drew)); exact HO105.out⟩, ⟨by repeat (first | (with_reducible first | exact HB.out | apply below_alloc | apply pw_below_drewN | apply below_drew1) | exact HB.out)⟩⟩
  case round =>
    clear H'
    try clear p2
    obtain ⟨x5_1, x14_1, rfl, HA, HK1, HO_5, HB⟩ := hrel
    cases gk with
    | zero => exact absurd HA.out (by simp [spec_siValues.l0])
    | succ k1 =>
      have H := HA.out
      clear HA
      simp only [spec_siValues.l0] at H
      by_cases c5 : x14_1 < (l0.length : Int)
      · rw [if_pos c5] at H
        have c5b0 : decide (x14_1 < (l0.length : Int)) = true := decide_eq_true c5
        clear c5
        by_cases c6 : 0 ≤ x14_1
        · rw [if_pos c6] at H
          have c6b0 : decide (0 ≤ x14_1) = true := decide_eq_true c6
          clear c6
          by_cases c7 : x14_1 < (l0.length : Int)
          · rw [if_pos c7] at H
            have c7b0 : decide (x14_1 < (l0.length : Int)) = true := decide_eq_true c7
            clear c7
            by_cases c8 : 0 ≤ ((rd_T23 l0 x14_1).f0)
            · rw [if_pos c8] at H
              have c8b0 : decide (0 ≤ ((rd_T23 l0 x14_1).f0)) = true := decide_eq_true c8
              clear c8
              by_cases c9 : ((rd_T23 l0 x14_1).f0) < (x5_1.length : Int)
              · rw [if_pos c9] at H
                have c9b0 : decide (((rd_T23 l0 x14_1).f0) < (x5_1.length : Int)) = true := decide_eq_true c9
                clear c9
                by_cases c10 : 0 ≤ ((rd_T23 l0 x14_1).f1)
                · rw [if_pos c10] at H
                  have c10b0 := eq_true c10
                  have c10b1 : decide (0 ≤ ((rd_T23 l0 x14_1).f1)) = true := decide_eq_true c10
                  clear c10
                  obtain ⟨ji11, hji11⟩ : ∃ j_ : Int, (shl .i64 (rd x5_1 ((rd_T23 l0 x14_1).f0)) ((rd_T23 l0 x14_1).f1)) = j_ := ⟨_, rfl⟩
                  replace H : (if 0 ≤ ((rd_T23 l0 x14_1).f2) then (if ((rd_T23 l0 x14_1).f2) < (x5_1.length : Int) then (if 0 ≤ ((rd_T23 l0 x14_1).f3) then (if (rd_T23 l0 x14_1).f4 = true then (if x5_1.length < 17592186044416 then (spec_siValues.l0 k1 (x5_1 ++ [wrap64 ((ji11) + (wrap64 (-(shl .i64 (rd x5_1 ((rd_T23 l0 x14_1).f2)) ((rd_T23 l0 x14_1).f3)))))]) l0 (l0.length : Int) (wrap64 (x14_1 + 1))) else (none)) else (if x5_1.length < 17592186044416 then (spec_siValues.l0 k1 (x5_1 ++ [wrap64 ((ji11) + (shl .i64 (rd x5_1 ((rd_T23 l0 x14_1).f2)) ((rd_T23 l0 x14_1).f3)))]) l0 (l0.length : Int) (wrap64 (x14_1 + 1))) else (none))) else (none)) else (none)) else (none)) = some r := by first | (rw [hji11] at H; exact H) | (simp only [hji11] at H ⊢; exact H)
                  have hji11_ : (IntKind.i64.wrap ((rd x5_1 ((rd_T23 l0 x14_1).f0)) * 2 ^ min ((rd_T23 l0 x14_1).f1).toNat 64)) = ji11 := hji11
                  have hji11z : ((rd_T23 l0 x14_1).f1) ≤ 64 → (IntKind.i64.wrap ((rd x5_1 ((rd_T23 l0 x14_1).f0)) * 2 ^ ((rd_T23 l0 x14_1).f1).toNat)) = ji11 := shl_small hji11
                  have hji11y : (wrap64 ((rd x5_1 ((rd_T23 l0 x14_1).f0)) * 2 ^ min ((rd_T23 l0 x14_1).f1).toNat 64)) = ji11 := (i64_w _).symm.trans hji11_
                  have hji11x : ((rd_T23 l0 x14_1).f1) ≤ 64 → (wrap64 ((rd x5_1 ((rd_T23 l0 x14_1).f0)) * 2 ^ ((rd_T23 l0 x14_1).f1).toNat)) = ji11 := fun h_ => (i64_w _).symm.trans (hji11z h_)
                  by_cases c12 : 0 ≤ ((rd_T23 l0 x14_1).f2)
                  · rw [if_pos c12] at H
                    have c12b0 : decide (0 ≤ ((rd_T23 l0 x14_1).f2)) = true := decide_eq_true c12
                    clear c12
                    by_cases c13 : ((rd_T23 l0 x14_1).f2) < (x5_1.length : Int)
                    · rw [if_pos c13] at H
                      have c13b0 : decide (((rd_T23 l0 x14_1).f2) < (x5_1.length : Int)) = true := decide_eq_true c13
                      clear c13
                      by_cases c14 : 0 ≤ ((rd_T23 l0 x14_1).f3)
                      · rw [if_pos c14] at H
                        have c14b0 := eq_true c14
                        have c14b1 : decide (0 ≤ ((rd_T23 l0 x14_1).f3)) = true := decide_eq_true c14
                        clear c14
                        obtain ⟨ji15, hji15⟩ : ∃ j_ : Int, (shl .i64 (rd x5_1 ((rd_T23 l0 x14_1).f2)) ((rd_T23 l0 x14_1).f3)) = j_ := ⟨_, rfl⟩
                        replace H : (if (rd_T23 l0 x14_1).f4 = true then (if x5_1.length < 17592186044416 then (spec_siValues.l0 k1 (x5_1 ++ [wrap64 ((ji11) + (wrap64 (-(ji15))))]) l0 (l0.length : Int) (wrap64 (x14_1 + 1))) else (none)) else (if x5_1.length < 17592186044416 then (spec_siValues.l0 k1 (x5_1 ++ [wrap64 ((ji11) + (ji15))]) l0 (l0.length : Int) (wrap64 (x14_1 + 1))) else (none))) = some r := by first | (rw [hji15] at H; exact H) | (simp only [hji15] at H ⊢; exact H)
                        have hji15_ : (IntKind.i64.wrap ((rd x5_1 ((rd_T23 l0 x14_1).f2)) * 2 ^ min ((rd_T23 l0 x14_1).f3).toNat 64)) = ji15 := hji15
                        have hji15z : ((rd_T23 l0 x14_1).f3) ≤ 64 → (IntKind.i64.wrap ((rd x5_1 ((rd_T23 l0 x14_1).f2)) * 2 ^ ((rd_T23 l0 x14_1).f3).toNat)) = ji15 := shl_small hji15
                        have hji15y : (wrap64 ((rd x5_1 ((rd_T23 l0 x14_1).f2)) * 2 ^ min ((rd_T23 l0 x14_1).f3).toNat 64)) = ji15 := (i64_w _).symm.trans hji15_
                        have hji15x : ((rd_T23 l0 x14_1).f3) ≤ 64 → (wrap64 ((rd x5_1 ((rd_T23 l0 x14_1).f2)) * 2 ^ ((rd_T23 l0 x14_1).f3).toNat)) = ji15 := fun h_ => (i64_w _).symm.trans (hji15z h_)
                        obtain ⟨bq16, hbq16⟩ : ∃ b_ : Bool, b_ = ((rd_T23 l0 x14_1).f4) := ⟨_, rfl⟩
                        replace H : (if bq16 = true then (if x5_1.length < 17592186044416 then (spec_siValues.l0 k1 (x5_1 ++ [wrap64 ((ji11) + (wrap64 (-(ji15))))]) l0 (l0.length : Int) (wrap64 (x14_1 + 1))) else (none)) else (if x5_1.length < 17592186044416 then (spec_siValues.l0 k1 (x5_1 ++ [wrap64 ((ji11) + (ji15))]) l0 (l0.length : Int) (wrap64 (x14_1 + 1))) else (none))) = some r := by rw [← hbq16] at H; exact H
                        have Nbq16 := Aside0.mk hbq16
                        clear hbq16
                        by_cases c17 : bq16 = true
                        · subst c17
                          have H1 : (if x5_1.length < 17592186044416 then (spec_siValues.l0 k1 (x5_1 ++ [wrap64 ((ji11) + (wrap64 (-(ji15))))]) l0 (l0.length : Int) (wrap64 (x14_1 + 1))) else (none)) = some r := by rw [if_pos rfl] at H; exact H
                          clear H
                          have H := H1
                          clear H1
                          by_cases c18 : x5_1.length < 17592186044416
                          · rw [if_pos c18] at H
                            have LMc18 := Aside0.mk c18
                            clear c18
                            obtain ⟨y110, hy110⟩ : ∃ y_ : List Int, y_ = (x5_1 ++ [wrap64 ((ji11) + (wrap64 (-(ji15))))]) := ⟨_, rfl⟩
                            replace H : (spec_siValues.l0 k1 y110 l0 (l0.length : Int) (wrap64 (x14_1 + 1))) = some r := by first | (rw [hy110]; with_reducible exact H) | (have H2_ := (Option.bind_some _ _).symm.trans H; rw [hy110]; with_reducible exact H2_) | (have H2_ := (Option.bind_some _ _).symm.trans H; with_reducible exact H2_) | with_reducible exact H | (rw [hy110]; exact H) | exact H
                            have Ny110 := Aside0.mk hy110
                            clear hy110
                            have H' := Aside0.mk H
                            clear H
                            have p106 : 0 ≤ (x14_1 : Int) := of_decide_eq_true (by first | (with_reducible assumption) | assumption)
                            have q106 : x14_1 < (l0.length : Int) := of_decide_eq_true (by first | (with_reducible assumption) | assumption)
                            obtain ⟨ad106, e106, hx106_0, hx106_1, hx106_2, hx106_3, hx106_4⟩ := at_T23 HR0.out x14_1 p106 q106
                            (try rw [← Nbq16.out] at hx106_4)
                            cases e106
                            replace hx106_0 := (HB.out.cell (World.block_lt_of_cell? w _ hx106_0)).trans hx106_0
                            replace hx106_1 := (HB.out.cell (World.block_lt_of_cell? w _ hx106_1)).trans hx106_1
                            replace hx106_2 := (HB.out.cell (World.block_lt_of_cell? w _ hx106_2)).trans hx106_2
                            replace hx106_3 := (HB.out.cell (World.block_lt_of_cell? w _ hx106_3)).trans hx106_3
                            replace hx106_4 := (HB.out.cell (World.block_lt_of_cell? w _ hx106_4)).trans hx106_4
                            replace p106 := eq_true p106
                            replace q106 := eq_true q106
                            go_wp2_with (first | ((with_reducible refine gate_dst (N := 7) rfl ?_); refine box_event ?hg (N := 7) ?hd (cs := #[.int .i64 0, .int .i64 0, .int .i64 0, .int .i64 0, .bool false]) (t := 23) ?hr ?_; (case hd => rfl); (case hg => rfl); (case hr => first | (go_simp; done) | (go_simp; rfl)); intro gb107 hg w19 hbox hb; have n0_ := Aside0.mk (Kd.R_below (by (with_reducible repeat (first | apply Kd.R_alloc | apply Kd.R_drewN | apply Kd.R_drew)); exact HO_5.out) hb); have n1_ := Aside0.mk (below_step (by repeat (first | (with_reducible first | exact HB.out | apply below_alloc | apply pw_below_drewN | apply below_drew1) | exact HB.out)) hb); have n2_ := Aside0.mk (hbox); have n3_ := Aside0.mk ((by rw [hg]; exact (below_size (by repeat (first | (with_reducible first | exact HB.out | apply below_alloc | apply pw_below_drewN | apply below_drew1) | exact HB.out))) : w.heap.size ≤ gb107)); have n4_ := Aside0.mk ((by rw [hg]; exact (below_size (by repeat (first | (with_reducible first | exact HB.out | apply below_alloc | apply pw_below_drewN | apply below_drew1) | exact HB.out))) : w.heap.size ≤ gb107)); clear HO_5; clear HB; have HO_5 := n0_; have HB := n1_; have BK107 := n2_; have GW107 := n3_; have GE107 := n4_; clear n0_ n1_ n2_ n3_ n4_; clear hb hbox hg; have hcz20_0 : w19.cell? ⟨gb107, 0, none⟩ = some (.int .i64 0) := (blk_cell BK107.out 0).trans rfl; have hcz20_1 : w19.cell? ⟨gb107, 1, none⟩ = some (.int .i64 0) := (blk_cell BK107.out 1).trans rfl; have hcz20_2 : w19.cell? ⟨gb107, 2, none⟩ = some (.int .i64 0) := (blk_cell BK107.out 2).trans rfl; have hcz20_3 : w19.cell? ⟨gb107, 3, none⟩ = some (.int .i64 0) := (blk_cell BK107.out 3).trans rfl; have hcz20_4 : w19.cell? ⟨gb107, 4, none⟩ = some (.bool false) := (blk_cell BK107.out 4).trans rfl; have hfz20_0 := blk_frozen BK107.out 0; have hfz20_1 := blk_frozen BK107.out 1; have hfz20_2 := blk_frozen BK107.out 2; have hfz20_3 := blk_frozen BK107.out 3; have hfz20_4 := blk_frozen BK107.out 4; obtain ⟨Ao21, co21, eo21⟩ := Kd.R_slice HO_5.out; subst eo21; have p108 : 0 ≤ (((rd_T23 l0 x14_1).f0) : Int) := of_decide_eq_true (by first | (with_reducible assumption) | assumption); have q108 : ((rd_T23 l0 x14_1).f0) < (x5_1.length : Int) := of_decide_eq_true (by first | (with_reducible assumption) | assumption); obtain ⟨ad108, e108, hx108_0⟩ := Kd.at_int (Kd.R_reads' HO_5.out).2.2 ((rd_T23 l0 x14_1).f0) p108 q108; cases e108; have hn108_0 : ad108.block ≠ gb107 := Kd.own_blk (Kd.R_ne HO_5.out BK107.out (by decide)); have hn108_1 : ad108.block ≠ gb107 := Kd.own_blk (Kd.R_ne HO_5.out BK107.out (by decide)); have hn108_2 : ad108.block ≠ gb107 := Kd.own_blk (Kd.R_ne HO_5.out BK107.out (by decide)); have hn108_3 : ad108.block ≠ gb107 := Kd.own_blk (Kd.R_ne HO_5.out BK107.out (by decide)); have hn108_4 : ad108.block ≠ gb107 := Kd.own_blk (Kd.R_ne HO_5.out BK107.out (by decide)); replace hx108_0 := (cell_far (p := ⟨gb107, 0, none⟩) (by first | (rw [add_block]; exact hn108_0) | (show (Addr.add _ _).block ≠ _; rw [add_block]; exact hn108_0) | exact hn108_0) (.int .i64 ((rd_T23 l0 x14_1).f0))).trans hx108_0; replace hx108_0 := (cell_far (p := ⟨gb107, 1, none⟩) (by first | (rw [add_block]; exact hn108_1) | (show (Addr.add _ _).block ≠ _; rw [add_block]; exact hn108_1) | exact hn108_1) (.int .i64 ((rd_T23 l0 x14_1).f1))).trans hx108_0; replace hx108_0 := (cell_far (p := ⟨gb107, 2, none⟩) (by first | (rw [add_block]; exact hn108_2) | (show (Addr.add _ _).block ≠ _; rw [add_block]; exact hn108_2) | exact hn108_2) (.int .i64 ((rd_T23 l0 x14_1).f2))).trans hx108_0; replace hx108_0 := (cell_far (p := ⟨gb107, 3, none⟩) (by first | (rw [add_block]; exact hn108_3) | (show (Addr.add _ _).block ≠ _; rw [add_block]; exact hn108_3) | exact hn108_3) (.int .i64 ((rd_T23 l0 x14_1).f3))).trans hx108_0; replace hx108_0 := (cell_far (p := ⟨gb107, 4, none⟩) (by first | (rw [add_block]; exact hn108_4) | (show (Addr.add _ _).block ≠ _; rw [add_block]; exact hn108_4) | exact hn108_4) (.bool true)).trans hx108_0; (try have hy108_0 := fun (n_ : Nat) => (show (((((((w19.drewN n_).setCell ⟨gb107, 0, none⟩ (.int .i64 ((rd_T23 l0 x14_1).f0))).setCell ⟨gb107, 1, none⟩ (.int .i64 ((rd_T23 l0 x14_1).f1))).setCell ⟨gb107, 2, none⟩ (.int .i64 ((rd_T23 l0 x14_1).f2))).setCell ⟨gb107, 3, none⟩ (.int .i64 ((rd_T23 l0 x14_1).f3))).setCell ⟨gb107, 4, none⟩ (.bool true))).cell? _ = some _ from hx108_0)); clear hn108_0; clear hn108_1; clear hn108_2; clear hn108_3; clear hn108_4; replace p108 := eq_true p108; replace q108 := eq_true q108; have p109 : 0 ≤ (((rd_T23 l0 x14_1).f2) : Int) := of_decide_eq_true (by first | (with_reducible assumption) | assumption); have q109 : ((rd_T23 l0 x14_1).f2) < (x5_1.length : Int) := of_decide_eq_true (by first | (with_reducible assumption) | assumption); obtain ⟨ad109, e109, hx109_0⟩ := Kd.at_int (Kd.R_reads' HO_5.out).2.2 ((rd_T23 l0 x14_1).f2) p109 q109; obtain rfl : ad108 = ad109 := (by injection e109); have hn109_0 : ad108.block ≠ gb107 := Kd.own_blk (Kd.R_ne HO_5.out BK107.out (by decide)); have hn109_1 : ad108.block ≠ gb107 := Kd.own_blk (Kd.R_ne HO_5.out BK107.out (by decide)); have hn109_2 : ad108.block ≠ gb107 := Kd.own_blk (Kd.R_ne HO_5.out BK107.out (by decide)); have hn109_3 : ad108.block ≠ gb107 := Kd.own_blk (Kd.R_ne HO_5.out BK107.out (by decide)); have hn109_4 : ad108.block ≠ gb107 := Kd.own_blk (Kd.R_ne HO_5.out BK107.out (by decide)); replace hx109_0 := (cell_far (p := ⟨gb107, 0, none⟩) (by first | (rw [add_block]; exact hn109_0) | (show (Addr.add _ _).block ≠ _; rw [add_block]; exact hn109_0) | exact hn109_0) (.int .i64 ((rd_T23 l0 x14_1).f0))).trans hx109_0; replace hx109_0 := (cell_far (p := ⟨gb107, 1, none⟩) (by first | (rw [add_block]; exact hn109_1) | (show (Addr.add _ _).block ≠ _; rw [add_block]; exact hn109_1) | exact hn109_1) (.int .i64 ((rd_T23 l0 x14_1).f1))).trans hx109_0; replace hx109_0 := (cell_far (p := ⟨gb107, 2, none⟩) (by first | (rw [add_block]; exact hn109_2) | (show (Addr.add _ _).block ≠ _; rw [add_block]; exact hn109_2) | exact hn109_2) (.int .i64 ((rd_T23 l0 x14_1).f2))).trans hx109_0; replace hx109_0 := (cell_far (p := ⟨gb107, 3, none⟩) (by first | (rw [add_block]; exact hn109_3) | (show (Addr.add _ _).block ≠ _; rw [add_block]; exact hn109_3) | exact hn109_3) (.int .i64 ((rd_T23 l0 x14_1).f3))).trans hx109_0; replace hx109_0 := (cell_far (p := ⟨gb107, 4, none⟩) (by first | (rw [add_block]; exact hn109_4) | (show (Addr.add _ _).block ≠ _; rw [add_block]; exact hn109_4) | exact hn109_4) (.bool true)).trans hx109_0; (try have hy109_0 := fun (n_ : Nat) => (show (((((((w19.drewN n_).setCell ⟨gb107, 0, none⟩ (.int .i64 ((rd_T23 l0 x14_1).f0))).setCell ⟨gb107, 1, none⟩ (.int .i64 ((rd_T23 l0 x14_1).f1))).setCell ⟨gb107, 2, none⟩ (.int .i64 ((rd_T23 l0 x14_1).f2))).setCell ⟨gb107, 3, none⟩ (.int .i64 ((rd_T23 l0 x14_1).f3))).setCell ⟨gb107, 4, none⟩ (.bool true))).cell? _ = some _ from hx109_0)); clear hn109_0; clear hn109_1; clear hn109_2; clear hn109_3; clear hn109_4; replace p109 := eq_true p109; replace q109 := eq_true q109) | ((with_reducible refine gate_builtin (b := .append) (xs := #[.tmp 38, .tmp 42]) rfl ?_); at_builtin; refine Kd.R_append (Kd.int .i64) (w0 := w) w.heap.size rfl (.tmp 38) (.tmp 42) 28 3 (.int .i64 0) 8 rfl Try.underlying28 info3 rfl (by decide) (by omega) (.slice (some ad108) x5_1.length co21) x5_1 (wrap64 ((ji11) + (wrap64 (-(ji15))))) [.int .i64 (wrap64 ((ji11) + (wrap64 (-(ji15)))))] (fun _ => True) (fun _ => False) rfl (by first | (go_simp; done) | (go_simp; rfl)) ?aP (fun _ hk => hk.elim) ?aF ?aO ?aB ?aS ?aL ?_; (case aP => exact rfl); (case aB => exact (by repeat (first | (with_reducible first | exact HB.out | apply below_alloc | apply pw_below_drewN | apply below_drew1 | refine below_set ?_ GE107.out) | exact HB.out))); (case aF => exact (fun _ _ => trivial)); (case aO => exact (by (with_reducible repeat (first | apply Kd.R_alloc | apply Kd.R_drewN | apply Kd.R_drew)); exact Kd.R_mono (Kd.R_far (p := ⟨gb107, 4, none⟩) (Kd.R_far (p := ⟨gb107, 3, none⟩) (Kd.R_far (p := ⟨gb107, 2, none⟩) (Kd.R_far (p := ⟨gb107, 1, none⟩) (Kd.R_far (p := ⟨gb107, 0, none⟩) (Kd.R_types HO_5.out BK107.out (by decide)) (fun _ hk => hk.2) (.int .i64 ((rd_T23 l0 x14_1).f0))) (fun _ hk => hk.2) (.int .i64 ((rd_T23 l0 x14_1).f1))) (fun _ hk => hk.2) (.int .i64 ((rd_T23 l0 x14_1).f2))) (fun _ hk => hk.2) (.int .i64 ((rd_T23 l0 x14_1).f3))) (fun _ hk => hk.2) (.bool true)) (fun _ hk => trivial))); (case aS => exact (below_size (by repeat (first | (with_reducible first | exact HB.out | apply below_alloc | apply pw_below_drewN | apply below_drew1 | refine below_set ?_ GE107.out) | exact HB.out)))); (case aL => have := LMc18.out; omega); intro v111 w22 ho hb hg hat; rw [← Ny110.out] at ho; have n0_ := Aside0.mk (blk_grown (g := gb107) (o := .cells #[.int .i64 ((rd_T23 l0 x14_1).f0), .int .i64 ((rd_T23 l0 x14_1).f1), .int .i64 ((rd_T23 l0 x14_1).f2), .int .i64 ((rd_T23 l0 x14_1).f3), .bool true] 23 (0, 0)) (by (with_reducible repeat (first | refine blk_drewN ?_ _ | refine blk_drew ?_ | refine blk_alloc ?_ _)); refine blk_put (cs := #[.int .i64 ((rd_T23 l0 x14_1).f0), .int .i64 ((rd_T23 l0 x14_1).f1), .int .i64 ((rd_T23 l0 x14_1).f2), .int .i64 ((rd_T23 l0 x14_1).f3), .bool false]) ?_ 4 _ rfl; (with_reducible repeat (first | refine blk_drewN ?_ _ | refine blk_drew ?_ | refine blk_alloc ?_ _)); refine blk_put (cs := #[.int .i64 ((rd_T23 l0 x14_1).f0), .int .i64 ((rd_T23 l0 x14_1).f1), .int .i64 ((rd_T23 l0 x14_1).f2), .int .i64 0, .bool false]) ?_ 3 _ rfl; (with_reducible repeat (first | refine blk_drewN ?_ _ | refine blk_drew ?_ | refine blk_alloc ?_ _)); refine blk_put (cs := #[.int .i64 ((rd_T23 l0 x14_1).f0), .int .i64 ((rd_T23 l0 x14_1).f1), .int .i64 0, .int .i64 0, .bool false]) ?_ 2 _ rfl; (with_reducible repeat (first | refine blk_drewN ?_ _ | refine blk_drew ?_ | refine blk_alloc ?_ _)); refine blk_put (cs := #[.int .i64 ((rd_T23 l0 x14_1).f0), .int .i64 0, .int .i64 0, .int .i64 0, .bool false]) ?_ 1 _ rfl; (with_reducible repeat (first | refine blk_drewN ?_ _ | refine blk_drew ?_ | refine blk_alloc ?_ _)); refine blk_put (cs := #[.int .i64 0, .int .i64 0, .int .i64 0, .int .i64 0, .bool false]) ?_ 0 _ rfl; (with_reducible repeat (first | refine blk_drewN ?_ _ | refine blk_drew ?_ | refine blk_alloc ?_ _)); exact BK107.out) hg (Kd.R_ne HO_5.out BK107.out (by decide))); have n1_ := Aside0.mk (hb); have n2_ := Aside0.mk (ho); clear BK107; clear HB; clear HO_5; have BK107 := n0_; have HB := n1_; have HO112 := n2_; clear n0_ n1_ n2_; clear ho hb hg hat))
                            repeat (go_quiet (first | ((with_reducible refine gate_dst (N := 7) rfl ?_); refine box_event ?hg (N := 7) ?hd (cs := #[.int .i64 0, .int .i64 0, .int .i64 0, .int .i64 0, .bool false]) (t := 23) ?hr ?_; (case hd => rfl); (case hg => rfl); (case hr => first | (go_simp; done) | (go_simp; rfl)); intro gb107 hg w19 hbox hb; have n0_ := Aside0.mk (Kd.R_below (by (with_reducible repeat (first | apply Kd.R_alloc | apply Kd.R_drewN | apply Kd.R_drew)); exact HO_5.out) hb); have n1_ := Aside0.mk (below_step (by repeat (first | (with_reducible first | exact HB.out | apply below_alloc | apply pw_below_drewN | apply below_drew1) | exact HB.out)) hb); have n2_ := Aside0.mk (hbox); have n3_ := Aside0.mk ((by rw [hg]; exact (below_size (by repeat (first | (with_reducible first | exact HB.out | apply below_alloc | apply pw_below_drewN | apply below_drew1) | exact HB.out))) : w.heap.size ≤ gb107)); have n4_ := Aside0.mk ((by rw [hg]; exact (below_size (by repeat (first | (with_reducible first | exact HB.out | apply below_alloc | apply pw_below_drewN | apply below_drew1) | exact HB.out))) : w.heap.size ≤ gb107)); clear HO_5; clear HB; have HO_5 := n0_; have HB := n1_; have BK107 := n2_; have GW107 := n3_; have GE107 := n4_; clear n0_ n1_ n2_ n3_ n4_; clear hb hbox hg; have hcz20_0 : w19.cell? ⟨gb107, 0, none⟩ = some (.int .i64 0) := (blk_cell BK107.out 0).trans rfl; have hcz20_1 : w19.cell? ⟨gb107, 1, none⟩ = some (.int .i64 0) := (blk_cell BK107.out 1).trans rfl; have hcz20_2 : w19.cell? ⟨gb107, 2, none⟩ = some (.int .i64 0) := (blk_cell BK107.out 2).trans rfl; have hcz20_3 : w19.cell? ⟨gb107, 3, none⟩ = some (.int .i64 0) := (blk_cell BK107.out 3).trans rfl; have hcz20_4 : w19.cell? ⟨gb107, 4, none⟩ = some (.bool false) := (blk_cell BK107.out 4).trans rfl; have hfz20_0 := blk_frozen BK107.out 0; have hfz20_1 := blk_frozen BK107.out 1; have hfz20_2 := blk_frozen BK107.out 2; have hfz20_3 := blk_frozen BK107.out 3; have hfz20_4 := blk_frozen BK107.out 4; obtain ⟨Ao21, co21, eo21⟩ := Kd.R_slice HO_5.out; subst eo21; have p108 : 0 ≤ (((rd_T23 l0 x14_1).f0) : Int) := of_decide_eq_true (by first | (with_reducible assumption) | assumption); have q108 : ((rd_T23 l0 x14_1).f0) < (x5_1.length : Int) := of_decide_eq_true (by first | (with_reducible assumption) | assumption); obtain ⟨ad108, e108, hx108_0⟩ := Kd.at_int (Kd.R_reads' HO_5.out).2.2 ((rd_T23 l0 x14_1).f0) p108 q108; cases e108; have hn108_0 : ad108.block ≠ gb107 := Kd.own_blk (Kd.R_ne HO_5.out BK107.out (by decide)); have hn108_1 : ad108.block ≠ gb107 := Kd.own_blk (Kd.R_ne HO_5.out BK107.out (by decide)); have hn108_2 : ad108.block ≠ gb107 := Kd.own_blk (Kd.R_ne HO_5.out BK107.out (by decide)); have hn108_3 : ad108.block ≠ gb107 := Kd.own_blk (Kd.R_ne HO_5.out BK107.out (by decide)); have hn108_4 : ad108.block ≠ gb107 := Kd.own_blk (Kd.R_ne HO_5.out BK107.out (by decide)); replace hx108_0 := (cell_far (p := ⟨gb107, 0, none⟩) (by first | (rw [add_block]; exact hn108_0) | (show (Addr.add _ _).block ≠ _; rw [add_block]; exact hn108_0) | exact hn108_0) (.int .i64 ((rd_T23 l0 x14_1).f0))).trans hx108_0; replace hx108_0 := (cell_far (p := ⟨gb107, 1, none⟩) (by first | (rw [add_block]; exact hn108_1) | (show (Addr.add _ _).block ≠ _; rw [add_block]; exact hn108_1) | exact hn108_1) (.int .i64 ((rd_T23 l0 x14_1).f1))).trans hx108_0; replace hx108_0 := (cell_far (p := ⟨gb107, 2, none⟩) (by first | (rw [add_block]; exact hn108_2) | (show (Addr.add _ _).block ≠ _; rw [add_block]; exact hn108_2) | exact hn108_2) (.int .i64 ((rd_T23 l0 x14_1).f2))).trans hx108_0; replace hx108_0 := (cell_far (p := ⟨gb107, 3, none⟩) (by first | (rw [add_block]; exact hn108_3) | (show (Addr.add _ _).block ≠ _; rw [add_block]; exact hn108_3) | exact hn108_3) (.int .i64 ((rd_T23 l0 x14_1).f3))).trans hx108_0; replace hx108_0 := (cell_far (p := ⟨gb107, 4, none⟩) (by first | (rw [add_block]; exact hn108_4) | (show (Addr.add _ _).block ≠ _; rw [add_block]; exact hn108_4) | exact hn108_4) (.bool true)).trans hx108_0; (try have hy108_0 := fun (n_ : Nat) => (show (((((((w19.drewN n_).setCell ⟨gb107, 0, none⟩ (.int .i64 ((rd_T23 l0 x14_1).f0))).setCell ⟨gb107, 1, none⟩ (.int .i64 ((rd_T23 l0 x14_1).f1))).setCell ⟨gb107, 2, none⟩ (.int .i64 ((rd_T23 l0 x14_1).f2))).setCell ⟨gb107, 3, none⟩ (.int .i64 ((rd_T23 l0 x14_1).f3))).setCell ⟨gb107, 4, none⟩ (.bool true))).cell? _ = some _ from hx108_0)); clear hn108_0; clear hn108_1; clear hn108_2; clear hn108_3; clear hn108_4; replace p108 := eq_true p108; replace q108 := eq_true q108; have p109 : 0 ≤ (((rd_T23 l0 x14_1).f2) : Int) := of_decide_eq_true (by first | (with_reducible assumption) | assumption); have q109 : ((rd_T23 l0 x14_1).f2) < (x5_1.length : Int) := of_decide_eq_true (by first | (with_reducible assumption) | assumption); obtain ⟨ad109, e109, hx109_0⟩ := Kd.at_int (Kd.R_reads' HO_5.out).2.2 ((rd_T23 l0 x14_1).f2) p109 q109; obtain rfl : ad108 = ad109 := (by injection e109); have hn109_0 : ad108.block ≠ gb107 := Kd.own_blk (Kd.R_ne HO_5.out BK107.out (by decide)); have hn109_1 : ad108.block ≠ gb107 := Kd.own_blk (Kd.R_ne HO_5.out BK107.out (by decide)); have hn109_2 : ad108.block ≠ gb107 := Kd.own_blk (Kd.R_ne HO_5.out BK107.out (by decide)); have hn109_3 : ad108.block ≠ gb107 := Kd.own_blk (Kd.R_ne HO_5.out BK107.out (by decide)); have hn109_4 : ad108.block ≠ gb107 := Kd.own_blk (Kd.R_ne HO_5.out BK107.out (by decide)); replace hx109_0 := (cell_far (p := ⟨gb107, 0, none⟩) (by first | (rw [add_block]; exact hn109_0) | (show (Addr.add _ _).block ≠ _; rw [add_block]; exact hn109_0) | exact hn109_0) (.int .i64 ((rd_T23 l0 x14_1).f0))).trans hx109_0; replace hx109_0 := (cell_far (p := ⟨gb107, 1, none⟩) (by first | (rw [add_block]; exact hn109_1) | (show (Addr.add _ _).block ≠ _; rw [add_block]; exact hn109_1) | exact hn109_1) (.int .i64 ((rd_T23 l0 x14_1).f1))).trans hx109_0; replace hx109_0 := (cell_far (p := ⟨gb107, 2, none⟩) (by first | (rw [add_block]; exact hn109_2) | (show (Addr.add _ _).block ≠ _; rw [add_block]; exact hn109_2) | exact hn109_2) (.int .i64 ((rd_T23 l0 x14_1).f2))).trans hx109_0; replace hx109_0 := (cell_far (p := ⟨gb107, 3, none⟩) (by first | (rw [add_block]; exact hn109_3) | (show (Addr.add _ _).block ≠ _; rw [add_block]; exact hn109_3) | exact hn109_3) (.int .i64 ((rd_T23 l0 x14_1).f3))).trans hx109_0; replace hx109_0 := (cell_far (p := ⟨gb107, 4, none⟩) (by first | (rw [add_block]; exact hn109_4) | (show (Addr.add _ _).block ≠ _; rw [add_block]; exact hn109_4) | exact hn109_4) (.bool true)).trans hx109_0; (try have hy109_0 := fun (n_ : Nat) => (show (((((((w19.drewN n_).setCell ⟨gb107, 0, none⟩ (.int .i64 ((rd_T23 l0 x14_1).f0))).setCell ⟨gb107, 1, none⟩ (.int .i64 ((rd_T23 l0 x14_1).f1))).setCell ⟨gb107, 2, none⟩ (.int .i64 ((rd_T23 l0 x14_1).f2))).setCell ⟨gb107, 3, none⟩ (.int .i64 ((rd_T23 l0 x14_1).f3))).setCell ⟨gb107, 4, none⟩ (.bool true))).cell? _ = some _ from hx109_0)); clear hn109_0; clear hn109_1; clear hn109_2; clear hn109_3; clear hn109_4; replace p109 := eq_true p109; replace q109 := eq_true q109) | ((with_reducible refine gate_builtin (b := .append) (xs := #[.tmp 38, .tmp 42]) rfl ?_); at_builtin; refine Kd.R_append (Kd.int .i64) (w0 := w) w.heap.size rfl (.tmp 38) (.tmp 42) 28 3 (.int .i64 0) 8 rfl Try.underlying28 info3 rfl (by decide) (by omega) (.slice (some ad108) x5_1.length co21) x5_1 (wrap64 ((ji11) + (wrap64 (-(ji15))))) [.int .i64 (wrap64 ((ji11) + (wrap64 (-(ji15)))))] (fun _ => True) (fun _ => False) rfl (by first | (go_simp; done) | (go_simp; rfl)) ?aP (fun _ hk => hk.elim) ?aF ?aO ?aB ?aS ?aL ?_; (case aP => exact rfl); (case aB => exact (by repeat (first | (with_reducible first | exact HB.out | apply below_alloc | apply pw_below_drewN | apply below_drew1 | refine below_set ?_ GE107.out) | exact HB.out))); (case aF => exact (fun _ _ => trivial)); (case aO => exact (by (with_reducible repeat (first | apply Kd.R_alloc | apply Kd.R_drewN | apply Kd.R_drew)); exact Kd.R_mono (Kd.R_far (p := ⟨gb107, 4, none⟩) (Kd.R_far (p := ⟨gb107, 3, none⟩) (Kd.R_far (p := ⟨gb107, 2, none⟩) (Kd.R_far (p := ⟨gb107, 1, none⟩) (Kd.R_far (p := ⟨gb107, 0, none⟩) (Kd.R_types HO_5.out BK107.out (by decide)) (fun _ hk => hk.2) (.int .i64 ((rd_T23 l0 x14_1).f0))) (fun _ hk => hk.2) (.int .i64 ((rd_T23 l0 x14_1).f1))) (fun _ hk => hk.2) (.int .i64 ((rd_T23 l0 x14_1).f2))) (fun _ hk => hk.2) (.int .i64 ((rd_T23 l0 x14_1).f3))) (fun _ hk => hk.2) (.bool true)) (fun _ hk => trivial))); (case aS => exact (below_size (by repeat (first | (with_reducible first | exact HB.out | apply below_alloc | apply pw_below_drewN | apply below_drew1 | refine below_set ?_ GE107.out) | exact HB.out)))); (case aL => have := LMc18.out; omega); intro v111 w22 ho hb hg hat; rw [← Ny110.out] at ho; have n0_ := Aside0.mk (blk_grown (g := gb107) (o := .cells #[.int .i64 ((rd_T23 l0 x14_1).f0), .int .i64 ((rd_T23 l0 x14_1).f1), .int .i64 ((rd_T23 l0 x14_1).f2), .int .i64 ((rd_T23 l0 x14_1).f3), .bool true] 23 (0, 0)) (by (with_reducible repeat (first | refine blk_drewN ?_ _ | refine blk_drew ?_ | refine blk_alloc ?_ _)); refine blk_put (cs := #[.int .i64 ((rd_T23 l0 x14_1).f0), .int .i64 ((rd_T23 l0 x14_1).f1), .int .i64 ((rd_T23 l0 x14_1).f2), .int .i64 ((rd_T23 l0 x14_1).f3), .bool false]) ?_ 4 _ rfl; (with_reducible repeat (first | refine blk_drewN ?_ _ | refine blk_drew ?_ | refine blk_alloc ?_ _)); refine blk_put (cs := #[.int .i64 ((rd_T23 l0 x14_1).f0), .int .i64 ((rd_T23 l0 x14_1).f1), .int .i64 ((rd_T23 l0 x14_1).f2), .int .i64 0, .bool false]) ?_ 3 _ rfl; (with_reducible repeat (first | refine blk_drewN ?_ _ | refine blk_drew ?_ | refine blk_alloc ?_ _)); refine blk_put (cs := #[.int .i64 ((rd_T23 l0 x14_1).f0), .int .i64 ((rd_T23 l0 x14_1).f1), .int .i64 0, .int .i64 0, .bool false]) ?_ 2 _ rfl; (with_reducible repeat (first | refine blk_drewN ?_ _ | refine blk_drew ?_ | refine blk_alloc ?_ _)); refine blk_put (cs := #[.int .i64 ((rd_T23 l0 x14_1).f0), .int .i64 0, .int .i64 0, .int .i64 0, .bool false]) ?_ 1 _ rfl; (with_reducible repeat (first | refine blk_drewN ?_ _ | refine blk_drew ?_ | refine blk_alloc ?_ _)); refine blk_put (cs := #[.int .i64 0, .int .i64 0, .int .i64 0, .int .i64 0, .bool false]) ?_ 0 _ rfl; (with_reducible repeat (first | refine blk_drewN ?_ _ | refine blk_drew ?_ | refine blk_alloc ?_ _)); exact BK107.out) hg (Kd.R_ne HO_5.out BK107.out (by decide))); have n1_ := Aside0.mk (hb); have n2_ := Aside0.mk (ho); clear BK107; clear HB; clear HO_5; have BK107 := n0_; have HB := n1_; have HO112 := n2_; clear n0_ n1_ n2_; clear ho hb hg hat)); try go_wp2_with (first | ((with_reducible refine gate_dst (N := 7) rfl ?_); refine box_event ?hg (N := 7) ?hd (cs := #[.int .i64 0, .int .i64 0, .int .i64 0, .int .i64 0, .bool false]) (t := 23) ?hr ?_; (case hd => rfl); (case hg => rfl); (case hr => first | (go_simp; done) | (go_simp; rfl)); intro gb107 hg w19 hbox hb; have n0_ := Aside0.mk (Kd.R_below (by (with_reducible repeat (first | apply Kd.R_alloc | apply Kd.R_drewN | apply Kd.R_drew)); exact HO_5.out) hb); have n1_ := Aside0.mk (below_step (by repeat (first | (with_reducible first | exact HB.out | apply below_alloc | apply pw_below_drewN | apply below_drew1) | exact HB.out)) hb); have n2_ := Aside0.mk (hbox); have n3_ := Aside0.mk ((by rw [hg]; exact (below_size (by repeat (first | (with_reducible first | exact HB.out | apply below_alloc | apply pw_below_drewN | apply below_drew1) | exact HB.out))) : w.heap.size ≤ gb107)); have n4_ := Aside0.mk ((by rw [hg]; exact (below_size (by repeat (first | (with_reducible first | exact HB.out | apply below_alloc | apply pw_below_drewN | apply below_drew1) | exact HB.out))) : w.heap.size ≤ gb107)); clear HO_5; clear HB; have HO_5 := n0_; have HB := n1_; have BK107 := n2_; have GW107 := n3_; have GE107 := n4_; clear n0_ n1_ n2_ n3_ n4_; clear hb hbox hg; have hcz20_0 : w19.cell? ⟨gb107, 0, none⟩ = some (.int .i64 0) := (blk_cell BK107.out 0).trans rfl; have hcz20_1 : w19.cell? ⟨gb107, 1, none⟩ = some (.int .i64 0) := (blk_cell BK107.out 1).trans rfl; have hcz20_2 : w19.cell? ⟨gb107, 2, none⟩ = some (.int .i64 0) := (blk_cell BK107.out 2).trans rfl; have hcz20_3 : w19.cell? ⟨gb107, 3, none⟩ = some (.int .i64 0) := (blk_cell BK107.out 3).trans rfl; have hcz20_4 : w19.cell? ⟨gb107, 4, none⟩ = some (.bool false) := (blk_cell BK107.out 4).trans rfl; have hfz20_0 := blk_frozen BK107.out 0; have hfz20_1 := blk_frozen BK107.out 1; have hfz20_2 := blk_frozen BK107.out 2; have hfz20_3 := blk_frozen BK107.out 3; have hfz20_4 := blk_frozen BK107.out 4; obtain ⟨Ao21, co21, eo21⟩ := Kd.R_slice HO_5.out; subst eo21; have p108 : 0 ≤ (((rd_T23 l0 x14_1).f0) : Int) := of_decide_eq_true (by first | (with_reducible assumption) | assumption); have q108 : ((rd_T23 l0 x14_1).f0) < (x5_1.length : Int) := of_decide_eq_true (by first | (with_reducible assumption) | assumption); obtain ⟨ad108, e108, hx108_0⟩ := Kd.at_int (Kd.R_reads' HO_5.out).2.2 ((rd_T23 l0 x14_1).f0) p108 q108; cases e108; have hn108_0 : ad108.block ≠ gb107 := Kd.own_blk (Kd.R_ne HO_5.out BK107.out (by decide)); have hn108_1 : ad108.block ≠ gb107 := Kd.own_blk (Kd.R_ne HO_5.out BK107.out (by decide)); have hn108_2 : ad108.block ≠ gb107 := Kd.own_blk (Kd.R_ne HO_5.out BK107.out (by decide)); have hn108_3 : ad108.block ≠ gb107 := Kd.own_blk (Kd.R_ne HO_5.out BK107.out (by decide)); have hn108_4 : ad108.block ≠ gb107 := Kd.own_blk (Kd.R_ne HO_5.out BK107.out (by decide)); replace hx108_0 := (cell_far (p := ⟨gb107, 0, none⟩) (by first | (rw [add_block]; exact hn108_0) | (show (Addr.add _ _).block ≠ _; rw [add_block]; exact hn108_0) | exact hn108_0) (.int .i64 ((rd_T23 l0 x14_1).f0))).trans hx108_0; replace hx108_0 := (cell_far (p := ⟨gb107, 1, none⟩) (by first | (rw [add_block]; exact hn108_1) | (show (Addr.add _ _).block ≠ _; rw [add_block]; exact hn108_1) | exact hn108_1) (.int .i64 ((rd_T23 l0 x14_1).f1))).trans hx108_0; replace hx108_0 := (cell_far (p := ⟨gb107, 2, none⟩) (by first | (rw [add_block]; exact hn108_2) | (show (Addr.add _ _).block ≠ _; rw [add_block]; exact hn108_2) | exact hn108_2) (.int .i64 ((rd_T23 l0 x14_1).f2))).trans hx108_0; replace hx108_0 := (cell_far (p := ⟨gb107, 3, none⟩) (by first | (rw [add_block]; exact hn108_3) | (show (Addr.add _ _).block ≠ _; rw [add_block]; exact hn108_3) | exact hn108_3) (.int .i64 ((rd_T23 l0 x14_1).f3))).trans hx108_0; replace hx108_0 := (cell_far (p := ⟨gb107, 4, none⟩) (by first | (rw [add_block]; exact hn108_4) | (show (Addr.add _ _).block ≠ _; rw [add_block]; exact hn108_4) | exact hn108_4) (.bool true)).trans hx108_0; (try have hy108_0 := fun (n_ : Nat) => (show (((((((w19.drewN n_).setCell ⟨gb107, 0, none⟩ (.int .i64 ((rd_T23 l0 x14_1).f0))).setCell ⟨gb107, 1, none⟩ (.int .i64 ((rd_T23 l0 x14_1).f1))).setCell ⟨gb107, 2, none⟩ (.int .i64 ((rd_T23 l0 x14_1).f2))).setCell ⟨gb107, 3, none⟩ (.int .i64 ((rd_T23 l0 x14_1).f3))).setCell ⟨gb107, 4, none⟩ (.bool true))).cell? _ = some _ from hx108_0)); clear hn108_0; clear hn108_1; clear hn108_2; clear hn108_3; clear hn108_4; replace p108 := eq_true p108; replace q108 := eq_true q108; have p109 : 0 ≤ (((rd_T23 l0 x14_1).f2) : Int) := of_decide_eq_true (by first | (with_reducible assumption) | assumption); have q109 : ((rd_T23 l0 x14_1).f2) < (x5_1.length : Int) := of_decide_eq_true (by first | (with_reducible assumption) | assumption); obtain ⟨ad109, e109, hx109_0⟩ := Kd.at_int (Kd.R_reads' HO_5.out).2.2 ((rd_T23 l0 x14_1).f2) p109 q109; obtain rfl : ad108 = ad109 := (by injection e109); have hn109_0 : ad108.block ≠ gb107 := Kd.own_blk (Kd.R_ne HO_5.out BK107.out (by decide)); have hn109_1 : ad108.block ≠ gb107 := Kd.own_blk (Kd.R_ne HO_5.out BK107.out (by decide)); have hn109_2 : ad108.block ≠ gb107 := Kd.own_blk (Kd.R_ne HO_5.out BK107.out (by decide)); have hn109_3 : ad108.block ≠ gb107 := Kd.own_blk (Kd.R_ne HO_5.out BK107.out (by decide)); have hn109_4 : ad108.block ≠ gb107 := Kd.own_blk (Kd.R_ne HO_5.out BK107.out (by decide)); replace hx109_0 := (cell_far (p := ⟨gb107, 0, none⟩) (by first | (rw [add_block]; exact hn109_0) | (show (Addr.add _ _).block ≠ _; rw [add_block]; exact hn109_0) | exact hn109_0) (.int .i64 ((rd_T23 l0 x14_1).f0))).trans hx109_0; replace hx109_0 := (cell_far (p := ⟨gb107, 1, none⟩) (by first | (rw [add_block]; exact hn109_1) | (show (Addr.add _ _).block ≠ _; rw [add_block]; exact hn109_1) | exact hn109_1) (.int .i64 ((rd_T23 l0 x14_1).f1))).trans hx109_0; replace hx109_0 := (cell_far (p := ⟨gb107, 2, none⟩) (by first | (rw [add_block]; exact hn109_2) | (show (Addr.add _ _).block ≠ _; rw [add_block]; exact hn109_2) | exact hn109_2) (.int .i64 ((rd_T23 l0 x14_1).f2))).trans hx109_0; replace hx109_0 := (cell_far (p := ⟨gb107, 3, none⟩) (by first | (rw [add_block]; exact hn109_3) | (show (Addr.add _ _).block ≠ _; rw [add_block]; exact hn109_3) | exact hn109_3) (.int .i64 ((rd_T23 l0 x14_1).f3))).trans hx109_0; replace hx109_0 := (cell_far (p := ⟨gb107, 4, none⟩) (by first | (rw [add_block]; exact hn109_4) | (show (Addr.add _ _).block ≠ _; rw [add_block]; exact hn109_4) | exact hn109_4) (.bool true)).trans hx109_0; (try have hy109_0 := fun (n_ : Nat) => (show (((((((w19.drewN n_).setCell ⟨gb107, 0, none⟩ (.int .i64 ((rd_T23 l0 x14_1).f0))).setCell ⟨gb107, 1, none⟩ (.int .i64 ((rd_T23 l0 x14_1).f1))).setCell ⟨gb107, 2, none⟩ (.int .i64 ((rd_T23 l0 x14_1).f2))).setCell ⟨gb107, 3, none⟩ (.int .i64 ((rd_T23 l0 x14_1).f3))).setCell ⟨gb107, 4, none⟩ (.bool true))).cell? _ = some _ from hx109_0)); clear hn109_0; clear hn109_1; clear hn109_2; clear hn109_3; clear hn109_4; replace p109 := eq_true p109; replace q109 := eq_true q109) | ((with_reducible refine gate_builtin (b := .append) (xs := #[.tmp 38, .tmp 42]) rfl ?_); at_builtin; refine Kd.R_append (Kd.int .i64) (w0 := w) w.heap.size rfl (.tmp 38) (.tmp 42) 28 3 (.int .i64 0) 8 rfl Try.underlying28 info3 rfl (by decide) (by omega) (.slice (some ad108) x5_1.length co21) x5_1 (wrap64 ((ji11) + (wrap64 (-(ji15))))) [.int .i64 (wrap64 ((ji11) + (wrap64 (-(ji15)))))] (fun _ => True) (fun _ => False) rfl (by first | (go_simp; done) | (go_simp; rfl)) ?aP (fun _ hk => hk.elim) ?aF ?aO ?aB ?aS ?aL ?_; (case aP => exact rfl); (case aB => exact (by repeat (first | (with_reducible first | exact HB.out | apply below_alloc | apply pw_below_drewN | apply below_drew1 | refine below_set ?_ GE107.out) | exact HB.out))); (case aF => exact (fun _ _ => trivial)); (case aO => exact (by (with_reducible repeat (first | apply Kd.R_alloc | apply Kd.R_drewN | apply Kd.R_drew)); exact Kd.R_mono (Kd.R_far (p := ⟨gb107, 4, none⟩) (Kd.R_far (p := ⟨gb107, 3, none⟩) (Kd.R_far (p := ⟨gb107, 2, none⟩) (Kd.R_far (p := ⟨gb107, 1, none⟩) (Kd.R_far (p := ⟨gb107, 0, none⟩) (Kd.R_types HO_5.out BK107.out (by decide)) (fun _ hk => hk.2) (.int .i64 ((rd_T23 l0 x14_1).f0))) (fun _ hk => hk.2) (.int .i64 ((rd_T23 l0 x14_1).f1))) (fun _ hk => hk.2) (.int .i64 ((rd_T23 l0 x14_1).f2))) (fun _ hk => hk.2) (.int .i64 ((rd_T23 l0 x14_1).f3))) (fun _ hk => hk.2) (.bool true)) (fun _ hk => trivial))); (case aS => exact (below_size (by repeat (first | (with_reducible first | exact HB.out | apply below_alloc | apply pw_below_drewN | apply below_drew1 | refine below_set ?_ GE107.out) | exact HB.out)))); (case aL => have := LMc18.out; omega); intro v111 w22 ho hb hg hat; rw [← Ny110.out] at ho; have n0_ := Aside0.mk (blk_grown (g := gb107) (o := .cells #[.int .i64 ((rd_T23 l0 x14_1).f0), .int .i64 ((rd_T23 l0 x14_1).f1), .int .i64 ((rd_T23 l0 x14_1).f2), .int .i64 ((rd_T23 l0 x14_1).f3), .bool true] 23 (0, 0)) (by (with_reducible repeat (first | refine blk_drewN ?_ _ | refine blk_drew ?_ | refine blk_alloc ?_ _)); refine blk_put (cs := #[.int .i64 ((rd_T23 l0 x14_1).f0), .int .i64 ((rd_T23 l0 x14_1).f1), .int .i64 ((rd_T23 l0 x14_1).f2), .int .i64 ((rd_T23 l0 x14_1).f3), .bool false]) ?_ 4 _ rfl; (with_reducible repeat (first | refine blk_drewN ?_ _ | refine blk_drew ?_ | refine blk_alloc ?_ _)); refine blk_put (cs := #[.int .i64 ((rd_T23 l0 x14_1).f0), .int .i64 ((rd_T23 l0 x14_1).f1), .int .i64 ((rd_T23 l0 x14_1).f2), .int .i64 0, .bool false]) ?_ 3 _ rfl; (with_reducible repeat (first | refine blk_drewN ?_ _ | refine blk_drew ?_ | refine blk_alloc ?_ _)); refine blk_put (cs := #[.int .i64 ((rd_T23 l0 x14_1).f0), .int .i64 ((rd_T23 l0 x14_1).f1), .int .i64 0, .int .i64 0, .bool false]) ?_ 2 _ rfl; (with_reducible repeat (first | refine blk_drewN ?_ _ | refine blk_drew ?_ | refine blk_alloc ?_ _)); refine blk_put (cs := #[.int .i64 ((rd_T23 l0 x14_1).f0), .int .i64 0, .int .i64 0, .int .i64 0, .bool false]) ?_ 1 _ rfl; (with_reducible repeat (first | refine blk_drewN ?_ _ | refine blk_drew ?_ | refine blk_alloc ?_ _)); refine blk_put (cs := #[.int .i64 0, .int .i64 0, .int .i64 0, .int .i64 0, .bool false]) ?_ 0 _ rfl; (with_reducible repeat (first | refine blk_drewN ?_ _ | refine blk_drew ?_ | refine blk_alloc ?_ _)); exact BK107.out) hg (Kd.R_ne HO_5.out BK107.out (by decide))); have n1_ := Aside0.mk (hb); have n2_ := Aside0.mk (ho); clear BK107; clear HB; clear HO_5; have BK107 := n0_; have HB := n1_; have HO112 := n2_; clear n0_ n1_ n2_; clear ho hb hg hat)))
                            go_roundg k1
                            case measure => have := HK1.out; omega
                            case rel => exact ⟨(y110), (wrap64 (x14_1 + 1)), (by first | rfl | (simp; done) | (simp [*]; done)), H', ⟨by have := HK1.out; omega⟩, ⟨by (with_reducible repeat (first | apply Kd.R_alloc | apply Kd.R_drewN | apply Kd.R_drew)); exact HO112.out⟩, ⟨by repeat (first | (with_reducible first | exact HB.out | apply below_alloc | apply pw_below_drewN | apply below_drew1 | refine below_set ?_ GE107.out) | exact HB.out)⟩⟩
                          · rw [if_neg c18] at H
                            exact absurd H (by simp)
                        · replace c17 := Bool.eq_false_iff.mpr c17
                          subst c17
                          have H1 : (if x5_1.length < 17592186044416 then (spec_siValues.l0 k1 (x5_1 ++ [wrap64 ((ji11) + (ji15))]) l0 (l0.length : Int) (wrap64 (x14_1 + 1))) else (none)) = some r := by rw [if_neg (show ¬ (false = true) by decide)] at H; exact H
                          clear H
                          have H := H1
                          clear H1
                          by_cases c23 : x5_1.length < 17592186044416
                          · rw [if_pos c23] at H
                            have LMc23 := Aside0.mk c23
                            clear c23
                            obtain ⟨y113, hy113⟩ : ∃ y_ : List Int, y_ = (x5_1 ++ [wrap64 ((ji11) + (ji15))]) := ⟨_, rfl⟩
                            replace H : (spec_siValues.l0 k1 y113 l0 (l0.length : Int) (wrap64 (x14_1 + 1))) = some r := by first | (rw [hy113]; with_reducible exact H) | (have H2_ := (Option.bind_some _ _).symm.trans H; rw [hy113]; with_reducible exact H2_) | (have H2_ := (Option.bind_some _ _).symm.trans H; with_reducible exact H2_) | with_reducible exact H | (rw [hy113]; exact H) | exact H
                            have Ny113 := Aside0.mk hy113
                            clear hy113
                            have H' := Aside0.mk H
                            clear H
                            have p106 : 0 ≤ (x14_1 : Int) := of_decide_eq_true (by first | (with_reducible assumption) | assumption)
                            have q106 : x14_1 < (l0.length : Int) := of_decide_eq_true (by first | (with_reducible assumption) | assumption)
                            obtain ⟨ad106, e106, hx106_0, hx106_1, hx106_2, hx106_3, hx106_4⟩ := at_T23 HR0.out x14_1 p106 q106
                            (try rw [← Nbq16.out] at hx106_4)
                            cases e106
                            replace hx106_0 := (HB.out.cell (World.block_lt_of_cell? w _ hx106_0)).trans hx106_0
                            replace hx106_1 := (HB.out.cell (World.block_lt_of_cell? w _ hx106_1)).trans hx106_1
                            replace hx106_2 := (HB.out.cell (World.block_lt_of_cell? w _ hx106_2)).trans hx106_2
                            replace hx106_3 := (HB.out.cell (World.block_lt_of_cell? w _ hx106_3)).trans hx106_3
                            replace hx106_4 := (HB.out.cell (World.block_lt_of_cell? w _ hx106_4)).trans hx106_4
                            replace p106 := eq_true p106
                            replace q106 := eq_true q106
                            go_wp2_with (first | ((with_reducible refine gate_dst (N := 7) rfl ?_); refine box_event ?hg (N := 7) ?hd (cs := #[.int .i64 0, .int .i64 0, .int .i64 0, .int .i64 0, .bool false]) (t := 23) ?hr ?_; (case hd => rfl); (case hg => rfl); (case hr => first | (go_simp; done) | (go_simp; rfl)); intro gb107 hg w24 hbox hb; have n0_ := Aside0.mk (Kd.R_below (by (with_reducible repeat (first | apply Kd.R_alloc | apply Kd.R_drewN | apply Kd.R_drew)); exact HO_5.out) hb); have n1_ := Aside0.mk (below_step (by repeat (first | (with_reducible first | exact HB.out | apply below_alloc | apply pw_below_drewN | apply below_drew1) | exact HB.out)) hb); have n2_ := Aside0.mk (hbox); have n3_ := Aside0.mk ((by rw [hg]; exact (below_size (by repeat (first | (with_reducible first | exact HB.out | apply below_alloc | apply pw_below_drewN | apply below_drew1) | exact HB.out))) : w.heap.size ≤ gb107)); have n4_ := Aside0.mk ((by rw [hg]; exact (below_size (by repeat (first | (with_reducible first | exact HB.out | apply below_alloc | apply pw_below_drewN | apply below_drew1) | exact HB.out))) : w.heap.size ≤ gb107)); clear HO_5; clear HB; have HO_5 := n0_; have HB := n1_; have BK107 := n2_; have GW107 := n3_; have GE107 := n4_; clear n0_ n1_ n2_ n3_ n4_; clear hb hbox hg; have hcz25_0 : w24.cell? ⟨gb107, 0, none⟩ = some (.int .i64 0) := (blk_cell BK107.out 0).trans rfl; have hcz25_1 : w24.cell? ⟨gb107, 1, none⟩ = some (.int .i64 0) := (blk_cell BK107.out 1).trans rfl; have hcz25_2 : w24.cell? ⟨gb107, 2, none⟩ = some (.int .i64 0) := (blk_cell BK107.out 2).trans rfl; have hcz25_3 : w24.cell? ⟨gb107, 3, none⟩ = some (.int .i64 0) := (blk_cell BK107.out 3).trans rfl; have hcz25_4 : w24.cell? ⟨gb107, 4, none⟩ = some (.bool false) := (blk_cell BK107.out 4).trans rfl; have hfz25_0 := blk_frozen BK107.out 0; have hfz25_1 := blk_frozen BK107.out 1; have hfz25_2 := blk_frozen BK107.out 2; have hfz25_3 := blk_frozen BK107.out 3; have hfz25_4 := blk_frozen BK107.out 4; obtain ⟨Ao26, co26, eo26⟩ := Kd.R_slice HO_5.out; subst eo26; have p108 : 0 ≤ (((rd_T23 l0 x14_1).f0) : Int) := of_decide_eq_true (by first | (with_reducible assumption) | assumption); have q108 : ((rd_T23 l0 x14_1).f0) < (x5_1.length : Int) := of_decide_eq_true (by first | (with_reducible assumption) | assumption); obtain ⟨ad108, e108, hx108_0⟩ := Kd.at_int (Kd.R_reads' HO_5.out).2.2 ((rd_T23 l0 x14_1).f0) p108 q108; cases e108; have hn108_0 : ad108.block ≠ gb107 := Kd.own_blk (Kd.R_ne HO_5.out BK107.out (by decide)); have hn108_1 : ad108.block ≠ gb107 := Kd.own_blk (Kd.R_ne HO_5.out BK107.out (by decide)); have hn108_2 : ad108.block ≠ gb107 := Kd.own_blk (Kd.R_ne HO_5.out BK107.out (by decide)); have hn108_3 : ad108.block ≠ gb107 := Kd.own_blk (Kd.R_ne HO_5.out BK107.out (by decide)); have hn108_4 : ad108.block ≠ gb107 := Kd.own_blk (Kd.R_ne HO_5.out BK107.out (by decide)); replace hx108_0 := (cell_far (p := ⟨gb107, 0, none⟩) (by first | (rw [add_block]; exact hn108_0) | (show (Addr.add _ _).block ≠ _; rw [add_block]; exact hn108_0) | exact hn108_0) (.int .i64 ((rd_T23 l0 x14_1).f0))).trans hx108_0; replace hx108_0 := (cell_far (p := ⟨gb107, 1, none⟩) (by first | (rw [add_block]; exact hn108_1) | (show (Addr.add _ _).block ≠ _; rw [add_block]; exact hn108_1) | exact hn108_1) (.int .i64 ((rd_T23 l0 x14_1).f1))).trans hx108_0; replace hx108_0 := (cell_far (p := ⟨gb107, 2, none⟩) (by first | (rw [add_block]; exact hn108_2) | (show (Addr.add _ _).block ≠ _; rw [add_block]; exact hn108_2) | exact hn108_2) (.int .i64 ((rd_T23 l0 x14_1).f2))).trans hx108_0; replace hx108_0 := (cell_far (p := ⟨gb107, 3, none⟩) (by first | (rw [add_block]; exact hn108_3) | (show (Addr.add _ _).block ≠ _; rw [add_block]; exact hn108_3) | exact hn108_3) (.int .i64 ((rd_T23 l0 x14_1).f3))).trans hx108_0; replace hx108_0 := (cell_far (p := ⟨gb107, 4, none⟩) (by first | (rw [add_block]; exact hn108_4) | (show (Addr.add _ _).block ≠ _; rw [add_block]; exact hn108_4) | exact hn108_4) (.bool false)).trans hx108_0; (try have hy108_0 := fun (n_ : Nat) => (show (((((((w24.drewN n_).setCell ⟨gb107, 0, none⟩ (.int .i64 ((rd_T23 l0 x14_1).f0))).setCell ⟨gb107, 1, none⟩ (.int .i64 ((rd_T23 l0 x14_1).f1))).setCell ⟨gb107, 2, none⟩ (.int .i64 ((rd_T23 l0 x14_1).f2))).setCell ⟨gb107, 3, none⟩ (.int .i64 ((rd_T23 l0 x14_1).f3))).setCell ⟨gb107, 4, none⟩ (.bool false))).cell? _ = some _ from hx108_0)); clear hn108_0; clear hn108_1; clear hn108_2; clear hn108_3; clear hn108_4; replace p108 := eq_true p108; replace q108 := eq_true q108; have p109 : 0 ≤ (((rd_T23 l0 x14_1).f2) : Int) := of_decide_eq_true (by first | (with_reducible assumption) | assumption); have q109 : ((rd_T23 l0 x14_1).f2) < (x5_1.length : Int) := of_decide_eq_true (by first | (with_reducible assumption) | assumption); obtain ⟨ad109, e109, hx109_0⟩ := Kd.at_int (Kd.R_reads' HO_5.out).2.2 ((rd_T23 l0 x14_1).f2) p109 q109; obtain rfl : ad108 = ad109 := (by injection e109); have hn109_0 : ad108.block ≠ gb107 := Kd.own_blk (Kd.R_ne HO_5.out BK107.out (by decide)); have hn109_1 : ad108.block ≠ gb107 := Kd.own_blk (Kd.R_ne HO_5.out BK107.out (by decide)); have hn109_2 : ad108.block ≠ gb107 := Kd.own_blk (Kd.R_ne HO_5.out BK107.out (by decide)); have hn109_3 : ad108.block ≠ gb107 := Kd.own_blk (Kd.R_ne HO_5.out BK107.out (by decide)); have hn109_4 : ad108.block ≠ gb107 := Kd.own_blk (Kd.R_ne HO_5.out BK107.out (by decide)); replace hx109_0 := (cell_far (p := ⟨gb107, 0, none⟩) (by first | (rw [add_block]; exact hn109_0) | (show (Addr.add _ _).block ≠ _; rw [add_block]; exact hn109_0) | exact hn109_0) (.int .i64 ((rd_T23 l0 x14_1).f0))).trans hx109_0; replace hx109_0 := (cell_far (p := ⟨gb107, 1, none⟩) (by first | (rw [add_block]; exact hn109_1) | (show (Addr.add _ _).block ≠ _; rw [add_block]; exact hn109_1) | exact hn109_1) (.int .i64 ((rd_T23 l0 x14_1).f1))).trans hx109_0; replace hx109_0 := (cell_far (p := ⟨gb107, 2, none⟩) (by first | (rw [add_block]; exact hn109_2) | (show (Addr.add _ _).block ≠ _; rw [add_block]; exact hn109_2) | exact hn109_2) (.int .i64 ((rd_T23 l0 x14_1).f2))).trans hx109_0; replace hx109_0 := (cell_far (p := ⟨gb107, 3, none⟩) (by first | (rw [add_block]; exact hn109_3) | (show (Addr.add _ _).block ≠ _; rw [add_block]; exact hn109_3) | exact hn109_3) (.int .i64 ((rd_T23 l0 x14_1).f3))).trans hx109_0; replace hx109_0 := (cell_far (p := ⟨gb107, 4, none⟩) (by first | (rw [add_block]; exact hn109_4) | (show (Addr.add _ _).block ≠ _; rw [add_block]; exact hn109_4) | exact hn109_4) (.bool false)).trans hx109_0; (try have hy109_0 := fun (n_ : Nat) => (show (((((((w24.drewN n_).setCell ⟨gb107, 0, none⟩ (.int .i64 ((rd_T23 l0 x14_1).f0))).setCell ⟨gb107, 1, none⟩ (.int .i64 ((rd_T23 l0 x14_1).f1))).setCell ⟨gb107, 2, none⟩ (.int .i64 ((rd_T23 l0 x14_1).f2))).setCell ⟨gb107, 3, none⟩ (.int .i64 ((rd_T23 l0 x14_1).f3))).setCell ⟨gb107, 4, none⟩ (.bool false))).cell? _ = some _ from hx109_0)); clear hn109_0; clear hn109_1; clear hn109_2; clear hn109_3; clear hn109_4; replace p109 := eq_true p109; replace q109 := eq_true q109) | ((with_reducible refine gate_builtin (b := .append) (xs := #[.tmp 38, .tmp 42]) rfl ?_); at_builtin; refine Kd.R_append (Kd.int .i64) (w0 := w) w.heap.size rfl (.tmp 38) (.tmp 42) 28 3 (.int .i64 0) 8 rfl Try.underlying28 info3 rfl (by decide) (by omega) (.slice (some ad108) x5_1.length co26) x5_1 (wrap64 ((ji11) + (ji15))) [.int .i64 (wrap64 ((ji11) + (ji15)))] (fun _ => True) (fun _ => False) rfl (by first | (go_simp; done) | (go_simp; rfl)) ?aP (fun _ hk => hk.elim) ?aF ?aO ?aB ?aS ?aL ?_; (case aP => exact rfl); (case aB => exact (by repeat (first | (with_reducible first | exact HB.out | apply below_alloc | apply pw_below_drewN | apply below_drew1 | refine below_set ?_ GE107.out) | exact HB.out))); (case aF => exact (fun _ _ => trivial)); (case aO => exact (by (with_reducible repeat (first | apply Kd.R_alloc | apply Kd.R_drewN | apply Kd.R_drew)); exact Kd.R_mono (Kd.R_far (p := ⟨gb107, 4, none⟩) (Kd.R_far (p := ⟨gb107, 3, none⟩) (Kd.R_far (p := ⟨gb107, 2, none⟩) (Kd.R_far (p := ⟨gb107, 1, none⟩) (Kd.R_far (p := ⟨gb107, 0, none⟩) (Kd.R_types HO_5.out BK107.out (by decide)) (fun _ hk => hk.2) (.int .i64 ((rd_T23 l0 x14_1).f0))) (fun _ hk => hk.2) (.int .i64 ((rd_T23 l0 x14_1).f1))) (fun _ hk => hk.2) (.int .i64 ((rd_T23 l0 x14_1).f2))) (fun _ hk => hk.2) (.int .i64 ((rd_T23 l0 x14_1).f3))) (fun _ hk => hk.2) (.bool false)) (fun _ hk => trivial))); (case aS => exact (below_size (by repeat (first | (with_reducible first | exact HB.out | apply below_alloc | apply pw_below_drewN | apply below_drew1 | refine below_set ?_ GE107.out) | exact HB.out)))); (case aL => have := LMc23.out; omega); intro v114 w27 ho hb hg hat; rw [← Ny113.out] at ho; have n0_ := Aside0.mk (blk_grown (g := gb107) (o := .cells #[.int .i64 ((rd_T23 l0 x14_1).f0), .int .i64 ((rd_T23 l0 x14_1).f1), .int .i64 ((rd_T23 l0 x14_1).f2), .int .i64 ((rd_T23 l0 x14_1).f3), .bool false] 23 (0, 0)) (by (with_reducible repeat (first | refine blk_drewN ?_ _ | refine blk_drew ?_ | refine blk_alloc ?_ _)); refine blk_put (cs := #[.int .i64 ((rd_T23 l0 x14_1).f0), .int .i64 ((rd_T23 l0 x14_1).f1), .int .i64 ((rd_T23 l0 x14_1).f2), .int .i64 ((rd_T23 l0 x14_1).f3), .bool false]) ?_ 4 _ rfl; (with_reducible repeat (first | refine blk_drewN ?_ _ | refine blk_drew ?_ | refine blk_alloc ?_ _)); refine blk_put (cs := #[.int .i64 ((rd_T23 l0 x14_1).f0), .int .i64 ((rd_T23 l0 x14_1).f1), .int .i64 ((rd_T23 l0 x14_1).f2), .int .i64 0, .bool false]) ?_ 3 _ rfl; (with_reducible repeat (first | refine blk_drewN ?_ _ | refine blk_drew ?_ | refine blk_alloc ?_ _)); refine blk_put (cs := #[.int .i64 ((rd_T23 l0 x14_1).f0), .int .i64 ((rd_T23 l0 x14_1).f1), .int .i64 0, .int .i64 0, .bool false]) ?_ 2 _ rfl; (with_reducible repeat (first | refine blk_drewN ?_ _ | refine blk_drew ?_ | refine blk_alloc ?_ _)); refine blk_put (cs := #[.int .i64 ((rd_T23 l0 x14_1).f0), .int .i64 0, .int .i64 0, .int .i64 0, .bool false]) ?_ 1 _ rfl; (with_reducible repeat (first | refine blk_drewN ?_ _ | refine blk_drew ?_ | refine blk_alloc ?_ _)); refine blk_put (cs := #[.int .i64 0, .int .i64 0, .int .i64 0, .int .i64 0, .bool false]) ?_ 0 _ rfl; (with_reducible repeat (first | refine blk_drewN ?_ _ | refine blk_drew ?_ | refine blk_alloc ?_ _)); exact BK107.out) hg (Kd.R_ne HO_5.out BK107.out (by decide))); have n1_ := Aside0.mk (hb); have n2_ := Aside0.mk (ho); clear BK107; clear HB; clear HO_5; have BK107 := n0_; have HB := n1_; have HO115 := n2_; clear n0_ n1_ n2_; clear ho hb hg hat))
                            repeat (go_quiet (first | ((with_reducible refine gate_dst (N := 7) rfl ?_); refine box_event ?hg (N := 7) ?hd (cs := #[.int .i64 0, .int .i64 0, .int .i64 0, .int .i64 0, .bool false]) (t := 23) ?hr ?_; (case hd => rfl); (case hg => rfl); (case hr => first | (go_simp; done) | (go_simp; rfl)); intro gb107 hg w24 hbox hb; have n0_ := Aside0.mk (Kd.R_below (by (with_reducible repeat (first | apply Kd.R_alloc | apply Kd.R_drewN | apply Kd.R_drew)); exact HO_5.out) hb); have n1_ := Aside0.mk (below_step (by repeat (first | (with_reducible first | exact HB.out | apply below_alloc | apply pw_below_drewN | apply below_drew1) | exact HB.out)) hb); have n2_ := Aside0.mk (hbox); have n3_ := Aside0.mk ((by rw [hg]; exact (below_size (by repeat (first | (with_reducible first | exact HB.out | apply below_alloc | apply pw_below_drewN | apply below_drew1) | exact HB.out))) : w.heap.size ≤ gb107)); have n4_ := Aside0.mk ((by rw [hg]; exact (below_size (by repeat (first | (with_reducible first | exact HB.out | apply below_alloc | apply pw_below_drewN | apply below_drew1) | exact HB.out))) : w.heap.size ≤ gb107)); clear HO_5; clear HB; have HO_5 := n0_; have HB := n1_; have BK107 := n2_; have GW107 := n3_; have GE107 := n4_; clear n0_ n1_ n2_ n3_ n4_; clear hb hbox hg; have hcz25_0 : w24.cell? ⟨gb107, 0, none⟩ = some (.int .i64 0) := (blk_cell BK107.out 0).trans rfl; have hcz25_1 : w24.cell? ⟨gb107, 1, none⟩ = some (.int .i64 0) := (blk_cell BK107.out 1).trans rfl; have hcz25_2 : w24.cell? ⟨gb107, 2, none⟩ = some (.int .i64 0) := (blk_cell BK107.out 2).trans rfl; have hcz25_3 : w24.cell? ⟨gb107, 3, none⟩ = some (.int .i64 0) := (blk_cell BK107.out 3).trans rfl; have hcz25_4 : w24.cell? ⟨gb107, 4, none⟩ = some (.bool false) := (blk_cell BK107.out 4).trans rfl; have hfz25_0 := blk_frozen BK107.out 0; have hfz25_1 := blk_frozen BK107.out 1; have hfz25_2 := blk_frozen BK107.out 2; have hfz25_3 := blk_frozen BK107.out 3; have hfz25_4 := blk_frozen BK107.out 4; obtain ⟨Ao26, co26, eo26⟩ := Kd.R_slice HO_5.out; subst eo26; have p108 : 0 ≤ (((rd_T23 l0 x14_1).f0) : Int) := of_decide_eq_true (by first | (with_reducible assumption) | assumption); have q108 : ((rd_T23 l0 x14_1).f0) < (x5_1.length : Int) := of_decide_eq_true (by first | (with_reducible assumption) | assumption); obtain ⟨ad108, e108, hx108_0⟩ := Kd.at_int (Kd.R_reads' HO_5.out).2.2 ((rd_T23 l0 x14_1).f0) p108 q108; cases e108; have hn108_0 : ad108.block ≠ gb107 := Kd.own_blk (Kd.R_ne HO_5.out BK107.out (by decide)); have hn108_1 : ad108.block ≠ gb107 := Kd.own_blk (Kd.R_ne HO_5.out BK107.out (by decide)); have hn108_2 : ad108.block ≠ gb107 := Kd.own_blk (Kd.R_ne HO_5.out BK107.out (by decide)); have hn108_3 : ad108.block ≠ gb107 := Kd.own_blk (Kd.R_ne HO_5.out BK107.out (by decide)); have hn108_4 : ad108.block ≠ gb107 := Kd.own_blk (Kd.R_ne HO_5.out BK107.out (by decide)); replace hx108_0 := (cell_far (p := ⟨gb107, 0, none⟩) (by first | (rw [add_block]; exact hn108_0) | (show (Addr.add _ _).block ≠ _; rw [add_block]; exact hn108_0) | exact hn108_0) (.int .i64 ((rd_T23 l0 x14_1).f0))).trans hx108_0; replace hx108_0 := (cell_far (p := ⟨gb107, 1, none⟩) (by first | (rw [add_block]; exact hn108_1) | (show (Addr.add _ _).block ≠ _; rw [add_block]; exact hn108_1) | exact hn108_1) (.int .i64 ((rd_T23 l0 x14_1).f1))).trans hx108_0; replace hx108_0 := (cell_far (p := ⟨gb107, 2, none⟩) (by first | (rw [add_block]; exact hn108_2) | (show (Addr.add _ _).block ≠ _; rw [add_block]; exact hn108_2) | exact hn108_2) (.int .i64 ((rd_T23 l0 x14_1).f2))).trans hx108_0; replace hx108_0 := (cell_far (p := ⟨gb107, 3, none⟩) (by first | (rw [add_block]; exact hn108_3) | (show (Addr.add _ _).block ≠ _; rw [add_block]; exact hn108_3) | exact hn108_3) (.int .i64 ((rd_T23 l0 x14_1).f3))).trans hx108_0; replace hx108_0 := (cell_far (p := ⟨gb107, 4, none⟩) (by first | (rw [add_block]; exact hn108_4) | (show (Addr.add _ _).block ≠ _; rw [add_block]; exact hn108_4) | exact hn108_4) (.bool false)).trans hx108_0; (try have hy108_0 := fun (n_ : Nat) => (show (((((((w24.drewN n_).setCell ⟨gb107, 0, none⟩ (.int .i64 ((rd_T23 l0 x14_1).f0))).setCell ⟨gb107, 1, none⟩ (.int .i64 ((rd_T23 l0 x14_1).f1))).setCell ⟨gb107, 2, none⟩ (.int .i64 ((rd_T23 l0 x14_1).f2))).setCell ⟨gb107, 3, none⟩ (.int .i64 ((rd_T23 l0 x14_1).f3))).setCell ⟨gb107, 4, none⟩ (.bool false))).cell? _ = some _ from hx108_0)); clear hn108_0; clear hn108_1; clear hn108_2; clear hn108_3; clear hn108_4; replace p108 := eq_true p108; replace q108 := eq_true q108; have p109 : 0 ≤ (((rd_T23 l0 x14_1).f2) : Int) := of_decide_eq_true (by first | (with_reducible assumption) | assumption); have q109 : ((rd_T23 l0 x14_1).f2) < (x5_1.length : Int) := of_decide_eq_true (by first | (with_reducible assumption) | assumption); obtain ⟨ad109, e109, hx109_0⟩ := Kd.at_int (Kd.R_reads' HO_5.out).2.2 ((rd_T23 l0 x14_1).f2) p109 q109; obtain rfl : ad108 = ad109 := (by injection e109); have hn109_0 : ad108.block ≠ gb107 := Kd.own_blk (Kd.R_ne HO_5.out BK107.out (by decide)); have hn109_1 : ad108.block ≠ gb107 := Kd.own_blk (Kd.R_ne HO_5.out BK107.out (by decide)); have hn109_2 : ad108.block ≠ gb107 := Kd.own_blk (Kd.R_ne HO_5.out BK107.out (by decide)); have hn109_3 : ad108.block ≠ gb107 := Kd.own_blk (Kd.R_ne HO_5.out BK107.out (by decide)); have hn109_4 : ad108.block ≠ gb107 := Kd.own_blk (Kd.R_ne HO_5.out BK107.out (by decide)); replace hx109_0 := (cell_far (p := ⟨gb107, 0, none⟩) (by first | (rw [add_block]; exact hn109_0) | (show (Addr.add _ _).block ≠ _; rw [add_block]; exact hn109_0) | exact hn109_0) (.int .i64 ((rd_T23 l0 x14_1).f0))).trans hx109_0; replace hx109_0 := (cell_far (p := ⟨gb107, 1, none⟩) (by first | (rw [add_block]; exact hn109_1) | (show (Addr.add _ _).block ≠ _; rw [add_block]; exact hn109_1) | exact hn109_1) (.int .i64 ((rd_T23 l0 x14_1).f1))).trans hx109_0; replace hx109_0 := (cell_far (p := ⟨gb107, 2, none⟩) (by first | (rw [add_block]; exact hn109_2) | (show (Addr.add _ _).block ≠ _; rw [add_block]; exact hn109_2) | exact hn109_2) (.int .i64 ((rd_T23 l0 x14_1).f2))).trans hx109_0; replace hx109_0 := (cell_far (p := ⟨gb107, 3, none⟩) (by first | (rw [add_block]; exact hn109_3) | (show (Addr.add _ _).block ≠ _; rw [add_block]; exact hn109_3) | exact hn109_3) (.int .i64 ((rd_T23 l0 x14_1).f3))).trans hx109_0; replace hx109_0 := (cell_far (p := ⟨gb107, 4, none⟩) (by first | (rw [add_block]; exact hn109_4) | (show (Addr.add _ _).block ≠ _; rw [add_block]; exact hn109_4) | exact hn109_4) (.bool false)).trans hx109_0; (try have hy109_0 := fun (n_ : Nat) => (show (((((((w24.drewN n_).setCell ⟨gb107, 0, none⟩ (.int .i64 ((rd_T23 l0 x14_1).f0))).setCell ⟨gb107, 1, none⟩ (.int .i64 ((rd_T23 l0 x14_1).f1))).setCell ⟨gb107, 2, none⟩ (.int .i64 ((rd_T23 l0 x14_1).f2))).setCell ⟨gb107, 3, none⟩ (.int .i64 ((rd_T23 l0 x14_1).f3))).setCell ⟨gb107, 4, none⟩ (.bool false))).cell? _ = some _ from hx109_0)); clear hn109_0; clear hn109_1; clear hn109_2; clear hn109_3; clear hn109_4; replace p109 := eq_true p109; replace q109 := eq_true q109) | ((with_reducible refine gate_builtin (b := .append) (xs := #[.tmp 38, .tmp 42]) rfl ?_); at_builtin; refine Kd.R_append (Kd.int .i64) (w0 := w) w.heap.size rfl (.tmp 38) (.tmp 42) 28 3 (.int .i64 0) 8 rfl Try.underlying28 info3 rfl (by decide) (by omega) (.slice (some ad108) x5_1.length co26) x5_1 (wrap64 ((ji11) + (ji15))) [.int .i64 (wrap64 ((ji11) + (ji15)))] (fun _ => True) (fun _ => False) rfl (by first | (go_simp; done) | (go_simp; rfl)) ?aP (fun _ hk => hk.elim) ?aF ?aO ?aB ?aS ?aL ?_; (case aP => exact rfl); (case aB => exact (by repeat (first | (with_reducible first | exact HB.out | apply below_alloc | apply pw_below_drewN | apply below_drew1 | refine below_set ?_ GE107.out) | exact HB.out))); (case aF => exact (fun _ _ => trivial)); (case aO => exact (by (with_reducible repeat (first | apply Kd.R_alloc | apply Kd.R_drewN | apply Kd.R_drew)); exact Kd.R_mono (Kd.R_far (p := ⟨gb107, 4, none⟩) (Kd.R_far (p := ⟨gb107, 3, none⟩) (Kd.R_far (p := ⟨gb107, 2, none⟩) (Kd.R_far (p := ⟨gb107, 1, none⟩) (Kd.R_far (p := ⟨gb107, 0, none⟩) (Kd.R_types HO_5.out BK107.out (by decide)) (fun _ hk => hk.2) (.int .i64 ((rd_T23 l0 x14_1).f0))) (fun _ hk => hk.2) (.int .i64 ((rd_T23 l0 x14_1).f1))) (fun _ hk => hk.2) (.int .i64 ((rd_T23 l0 x14_1).f2))) (fun _ hk => hk.2) (.int .i64 ((rd_T23 l0 x14_1).f3))) (fun _ hk => hk.2) (.bool false)) (fun _ hk => trivial))); (case aS => exact (below_size (by repeat (first | (with_reducible first | exact HB.out | apply below_alloc | apply pw_below_drewN | apply below_drew1 | refine below_set ?_ GE107.out) | exact HB.out)))); (case aL => have := LMc23.out; omega); intro v114 w27 ho hb hg hat; rw [← Ny113.out] at ho; have n0_ := Aside0.mk (blk_grown (g := gb107) (o := .cells #[.int .i64 ((rd_T23 l0 x14_1).f0), .int .i64 ((rd_T23 l0 x14_1).f1), .int .i64 ((rd_T23 l0 x14_1).f2), .int .i64 ((rd_T23 l0 x14_1).f3), .bool false] 23 (0, 0)) (by (with_reducible repeat (first | refine blk_drewN ?_ _ | refine blk_drew ?_ | refine blk_alloc ?_ _)); refine blk_put (cs := #[.int .i64 ((rd_T23 l0 x14_1).f0), .int .i64 ((rd_T23 l0 x14_1).f1), .int .i64 ((rd_T23 l0 x14_1).f2), .int .i64 ((rd_T23 l0 x14_1).f3), .bool false]) ?_ 4 _ rfl; (with_reducible repeat (first | refine blk_drewN ?_ _ | refine blk_drew ?_ | refine blk_alloc ?_ _)); refine blk_put (cs := #[.int .i64 ((rd_T23 l0 x14_1).f0), .int .i64 ((rd_T23 l0 x14_1).f1), .int .i64 ((rd_T23 l0 x14_1).f2), .int .i64 0, .bool false]) ?_ 3 _ rfl; (with_reducible repeat (first | refine blk_drewN ?_ _ | refine blk_drew ?_ | refine blk_alloc ?_ _)); refine blk_put (cs := #[.int .i64 ((rd_T23 l0 x14_1).f0), .int .i64 ((rd_T23 l0 x14_1).f1), .int .i64 0, .int .i64 0, .bool false]) ?_ 2 _ rfl; (with_reducible repeat (first | refine blk_drewN ?_ _ | refine blk_drew ?_ | refine blk_alloc ?_ _)); refine blk_put (cs := #[.int .i64 ((rd_T23 l0 x14_1).f0), .int .i64 0, .int .i64 0, .int .i64 0, .bool false]) ?_ 1 _ rfl; (with_reducible repeat (first | refine blk_drewN ?_ _ | refine blk_drew ?_ | refine blk_alloc ?_ _)); refine blk_put (cs := #[.int .i64 0, .int .i64 0, .int .i64 0, .int .i64 0, .bool false]) ?_ 0 _ rfl; (with_reducible repeat (first | refine blk_drewN ?_ _ | refine blk_drew ?_ | refine blk_alloc ?_ _)); exact BK107.out) hg (Kd.R_ne HO_5.out BK107.out (by decide))); have n1_ := Aside0.mk (hb); have n2_ := Aside0.mk (ho); clear BK107; clear HB; clear HO_5; have BK107 := n0_; have HB := n1_; have HO115 := n2_; clear n0_ n1_ n2_; clear ho hb hg hat)); try go_wp2_with (first | ((with_reducible refine gate_dst (N := 7) rfl ?_); refine box_event ?hg (N := 7) ?hd (cs := #[.int .i64 0, .int .i64 0, .int .i64 0, .int .i64 0, .bool false]) (t := 23) ?hr ?_; (case hd => rfl); (case hg => rfl); (case hr => first | (go_simp; done) | (go_simp; rfl)); intro gb107 hg w24 hbox hb; have n0_ := Aside0.mk (Kd.R_below (by (with_reducible repeat (first | apply Kd.R_alloc | apply Kd.R_drewN | apply Kd.R_drew)); exact HO_5.out) hb); have n1_ := Aside0.mk (below_step (by repeat (first | (with_reducible first | exact HB.out | apply below_alloc | apply pw_below_drewN | apply below_drew1) | exact HB.out)) hb); have n2_ := Aside0.mk (hbox); have n3_ := Aside0.mk ((by rw [hg]; exact (below_size (by repeat (first | (with_reducible first | exact HB.out | apply below_alloc | apply pw_below_drewN | apply below_drew1) | exact HB.out))) : w.heap.size ≤ gb107)); have n4_ := Aside0.mk ((by rw [hg]; exact (below_size (by repeat (first | (with_reducible first | exact HB.out | apply below_alloc | apply pw_below_drewN | apply below_drew1) | exact HB.out))) : w.heap.size ≤ gb107)); clear HO_5; clear HB; have HO_5 := n0_; have HB := n1_; have BK107 := n2_; have GW107 := n3_; have GE107 := n4_; clear n0_ n1_ n2_ n3_ n4_; clear hb hbox hg; have hcz25_0 : w24.cell? ⟨gb107, 0, none⟩ = some (.int .i64 0) := (blk_cell BK107.out 0).trans rfl; have hcz25_1 : w24.cell? ⟨gb107, 1, none⟩ = some (.int .i64 0) := (blk_cell BK107.out 1).trans rfl; have hcz25_2 : w24.cell? ⟨gb107, 2, none⟩ = some (.int .i64 0) := (blk_cell BK107.out 2).trans rfl; have hcz25_3 : w24.cell? ⟨gb107, 3, none⟩ = some (.int .i64 0) := (blk_cell BK107.out 3).trans rfl; have hcz25_4 : w24.cell? ⟨gb107, 4, none⟩ = some (.bool false) := (blk_cell BK107.out 4).trans rfl; have hfz25_0 := blk_frozen BK107.out 0; have hfz25_1 := blk_frozen BK107.out 1; have hfz25_2 := blk_frozen BK107.out 2; have hfz25_3 := blk_frozen BK107.out 3; have hfz25_4 := blk_frozen BK107.out 4; obtain ⟨Ao26, co26, eo26⟩ := Kd.R_slice HO_5.out; subst eo26; have p108 : 0 ≤ (((rd_T23 l0 x14_1).f0) : Int) := of_decide_eq_true (by first | (with_reducible assumption) | assumption); have q108 : ((rd_T23 l0 x14_1).f0) < (x5_1.length : Int) := of_decide_eq_true (by first | (with_reducible assumption) | assumption); obtain ⟨ad108, e108, hx108_0⟩ := Kd.at_int (Kd.R_reads' HO_5.out).2.2 ((rd_T23 l0 x14_1).f0) p108 q108; cases e108; have hn108_0 : ad108.block ≠ gb107 := Kd.own_blk (Kd.R_ne HO_5.out BK107.out (by decide)); have hn108_1 : ad108.block ≠ gb107 := Kd.own_blk (Kd.R_ne HO_5.out BK107.out (by decide)); have hn108_2 : ad108.block ≠ gb107 := Kd.own_blk (Kd.R_ne HO_5.out BK107.out (by decide)); have hn108_3 : ad108.block ≠ gb107 := Kd.own_blk (Kd.R_ne HO_5.out BK107.out (by decide)); have hn108_4 : ad108.block ≠ gb107 := Kd.own_blk (Kd.R_ne HO_5.out BK107.out (by decide)); replace hx108_0 := (cell_far (p := ⟨gb107, 0, none⟩) (by first | (rw [add_block]; exact hn108_0) | (show (Addr.add _ _).block ≠ _; rw [add_block]; exact hn108_0) | exact hn108_0) (.int .i64 ((rd_T23 l0 x14_1).f0))).trans hx108_0; replace hx108_0 := (cell_far (p := ⟨gb107, 1, none⟩) (by first | (rw [add_block]; exact hn108_1) | (show (Addr.add _ _).block ≠ _; rw [add_block]; exact hn108_1) | exact hn108_1) (.int .i64 ((rd_T23 l0 x14_1).f1))).trans hx108_0; replace hx108_0 := (cell_far (p := ⟨gb107, 2, none⟩) (by first | (rw [add_block]; exact hn108_2) | (show (Addr.add _ _).block ≠ _; rw [add_block]; exact hn108_2) | exact hn108_2) (.int .i64 ((rd_T23 l0 x14_1).f2))).trans hx108_0; replace hx108_0 := (cell_far (p := ⟨gb107, 3, none⟩) (by first | (rw [add_block]; exact hn108_3) | (show (Addr.add _ _).block ≠ _; rw [add_block]; exact hn108_3) | exact hn108_3) (.int .i64 ((rd_T23 l0 x14_1).f3))).trans hx108_0; replace hx108_0 := (cell_far (p := ⟨gb107, 4, none⟩) (by first | (rw [add_block]; exact hn108_4) | (show (Addr.add _ _).block ≠ _; rw [add_block]; exact hn108_4) | exact hn108_4) (.bool false)).trans hx108_0; (try have hy108_0 := fun (n_ : Nat) => (show (((((((w24.drewN n_).setCell ⟨gb107, 0, none⟩ (.int .i64 ((rd_T23 l0 x14_1).f0))).setCell ⟨gb107, 1, none⟩ (.int .i64 ((rd_T23 l0 x14_1).f1))).setCell ⟨gb107, 2, none⟩ (.int .i64 ((rd_T23 l0 x14_1).f2))).setCell ⟨gb107, 3, none⟩ (.int .i64 ((rd_T23 l0 x14_1).f3))).setCell ⟨gb107, 4, none⟩ (.bool false))).cell? _ = some _ from hx108_0)); clear hn108_0; clear hn108_1; clear hn108_2; clear hn108_3; clear hn108_4; replace p108 := eq_true p108; replace q108 := eq_true q108; have p109 : 0 ≤ (((rd_T23 l0 x14_1).f2) : Int) := of_decide_eq_true (by first | (with_reducible assumption) | assumption); have q109 : ((rd_T23 l0 x14_1).f2) < (x5_1.length : Int) := of_decide_eq_true (by first | (with_reducible assumption) | assumption); obtain ⟨ad109, e109, hx109_0⟩ := Kd.at_int (Kd.R_reads' HO_5.out).2.2 ((rd_T23 l0 x14_1).f2) p109 q109; obtain rfl : ad108 = ad109 := (by injection e109); have hn109_0 : ad108.block ≠ gb107 := Kd.own_blk (Kd.R_ne HO_5.out BK107.out (by decide)); have hn109_1 : ad108.block ≠ gb107 := Kd.own_blk (Kd.R_ne HO_5.out BK107.out (by decide)); have hn109_2 : ad108.block ≠ gb107 := Kd.own_blk (Kd.R_ne HO_5.out BK107.out (by decide)); have hn109_3 : ad108.block ≠ gb107 := Kd.own_blk (Kd.R_ne HO_5.out BK107.out (by decide)); have hn109_4 : ad108.block ≠ gb107 := Kd.own_blk (Kd.R_ne HO_5.out BK107.out (by decide)); replace hx109_0 := (cell_far (p := ⟨gb107, 0, none⟩) (by first | (rw [add_block]; exact hn109_0) | (show (Addr.add _ _).block ≠ _; rw [add_block]; exact hn109_0) | exact hn109_0) (.int .i64 ((rd_T23 l0 x14_1).f0))).trans hx109_0; replace hx109_0 := (cell_far (p := ⟨gb107, 1, none⟩) (by first | (rw [add_block]; exact hn109_1) | (show (Addr.add _ _).block ≠ _; rw [add_block]; exact hn109_1) | exact hn109_1) (.int .i64 ((rd_T23 l0 x14_1).f1))).trans hx109_0; replace hx109_0 := (cell_far (p := ⟨gb107, 2, none⟩) (by first | (rw [add_block]; exact hn109_2) | (show (Addr.add _ _).block ≠ _; rw [add_block]; exact hn109_2) | exact hn109_2) (.int .i64 ((rd_T23 l0 x14_1).f2))).trans hx109_0; replace hx109_0 := (cell_far (p := ⟨gb107, 3, none⟩) (by first | (rw [add_block]; exact hn109_3) | (show (Addr.add _ _).block ≠ _; rw [add_block]; exact hn109_3) | exact hn109_3) (.int .i64 ((rd_T23 l0 x14_1).f3))).trans hx109_0; replace hx109_0 := (cell_far (p := ⟨gb107, 4, none⟩) (by first | (rw [add_block]; exact hn109_4) | (show (Addr.add _ _).block ≠ _; rw [add_block]; exact hn109_4) | exact hn109_4) (.bool false)).trans hx109_0; (try have hy109_0 := fun (n_ : Nat) => (show (((((((w24.drewN n_).setCell ⟨gb107, 0, none⟩ (.int .i64 ((rd_T23 l0 x14_1).f0))).setCell ⟨gb107, 1, none⟩ (.int .i64 ((rd_T23 l0 x14_1).f1))).setCell ⟨gb107, 2, none⟩ (.int .i64 ((rd_T23 l0 x14_1).f2))).setCell ⟨gb107, 3, none⟩ (.int .i64 ((rd_T23 l0 x14_1).f3))).setCell ⟨gb107, 4, none⟩ (.bool false))).cell? _ = some _ from hx109_0)); clear hn109_0; clear hn109_1; clear hn109_2; clear hn109_3; clear hn109_4; replace p109 := eq_true p109; replace q109 := eq_true q109) | ((with_reducible refine gate_builtin (b := .append) (xs := #[.tmp 38, .tmp 42]) rfl ?_); at_builtin; refine Kd.R_append (Kd.int .i64) (w0 := w) w.heap.size rfl (.tmp 38) (.tmp 42) 28 3 (.int .i64 0) 8 rfl Try.underlying28 info3 rfl (by decide) (by omega) (.slice (some ad108) x5_1.length co26) x5_1 (wrap64 ((ji11) + (ji15))) [.int .i64 (wrap64 ((ji11) + (ji15)))] (fun _ => True) (fun _ => False) rfl (by first | (go_simp; done) | (go_simp; rfl)) ?aP (fun _ hk => hk.elim) ?aF ?aO ?aB ?aS ?aL ?_; (case aP => exact rfl); (case aB => exact (by repeat (first | (with_reducible first | exact HB.out | apply below_alloc | apply pw_below_drewN | apply below_drew1 | refine below_set ?_ GE107.out) | exact HB.out))); (case aF => exact (fun _ _ => trivial)); (case aO => exact (by (with_reducible repeat (first | apply Kd.R_alloc | apply Kd.R_drewN | apply Kd.R_drew)); exact Kd.R_mono (Kd.R_far (p := ⟨gb107, 4, none⟩) (Kd.R_far (p := ⟨gb107, 3, none⟩) (Kd.R_far (p := ⟨gb107, 2, none⟩) (Kd.R_far (p := ⟨gb107, 1, none⟩) (Kd.R_far (p := ⟨gb107, 0, none⟩) (Kd.R_types HO_5.out BK107.out (by decide)) (fun _ hk => hk.2) (.int .i64 ((rd_T23 l0 x14_1).f0))) (fun _ hk => hk.2) (.int .i64 ((rd_T23 l0 x14_1).f1))) (fun _ hk => hk.2) (.int .i64 ((rd_T23 l0 x14_1).f2))) (fun _ hk => hk.2) (.int .i64 ((rd_T23 l0 x14_1).f3))) (fun _ hk => hk.2) (.bool false)) (fun _ hk => trivial))); (case aS => exact (below_size (by repeat (first | (with_reducible first | exact HB.out | apply below_alloc | apply pw_below_drewN | apply below_drew1 | refine below_set ?_ GE107.out) | exact HB.out)))); (case aL => have := LMc23.out; omega); intro v114 w27 ho hb hg hat; rw [← Ny113.out] at ho; have n0_ := Aside0.mk (blk_grown (g := gb107) (o := .cells #[.int .i64 ((rd_T23 l0 x14_1).f0), .int .i64 ((rd_T23 l0 x14_1).f1), .int .i64 ((rd_T23 l0 x14_1).f2), .int .i64 ((rd_T23 l0 x14_1).f3), .bool false] 23 (0, 0)) (by (with_reducible repeat (first | refine blk_drewN ?_ _ | refine blk_drew ?_ | refine blk_alloc ?_ _)); refine blk_put (cs := #[.int .i64 ((rd_T23 l0 x14_1).f0), .int .i64 ((rd_T23 l0 x14_1).f1), .int .i64 ((rd_T23 l0 x14_1).f2), .int .i64 ((rd_T23 l0 x14_1).f3), .bool false]) ?_ 4 _ rfl; (with_reducible repeat (first | refine blk_drewN ?_ _ | refine blk_drew ?_ | refine blk_alloc ?_ _)); refine blk_put (cs := #[.int .i64 ((rd_T23 l0 x14_1).f0), .int .i64 ((rd_T23 l0 x14_1).f1), .int .i64 ((rd_T23 l0 x14_1).f2), .int .i64 0, .bool false]) ?_ 3 _ rfl; (with_reducible repeat (first | refine blk_drewN ?_ _ | refine blk_drew ?_ | refine blk_alloc ?_ _)); refine blk_put (cs := #[.int .i64 ((rd_T23 l0 x14_1).f0), .int .i64 ((rd_T23 l0 x14_1).f1), .int .i64 0, .int .i64 0, .bool false]) ?_ 2 _ rfl; (with_reducible repeat (first | refine blk_drewN ?_ _ | refine blk_drew ?_ | refine blk_alloc ?_ _)); refine blk_put (cs := #[.int .i64 ((rd_T23 l0 x14_1).f0), .int .i64 0, .int .i64 0, .int .i64 0, .bool false]) ?_ 1 _ rfl; (with_reducible repeat (first | refine blk_drewN ?_ _ | refine blk_drew ?_ | refine blk_alloc ?_ _)); refine blk_put (cs := #[.int .i64 0, .int .i64 0, .int .i64 0, .int .i64 0, .bool false]) ?_ 0 _ rfl; (with_reducible repeat (first | refine blk_drewN ?_ _ | refine blk_drew ?_ | refine blk_alloc ?_ _)); exact BK107.out) hg (Kd.R_ne HO_5.out BK107.out (by decide))); have n1_ := Aside0.mk (hb); have n2_ := Aside0.mk (ho); clear BK107; clear HB; clear HO_5; have BK107 := n0_; have HB := n1_; have HO115 := n2_; clear n0_ n1_ n2_; clear ho hb hg hat)))
                            go_roundg k1
                            case measure => have := HK1.out; omega
                            case rel => exact ⟨(y113), (wrap64 (x14_1 + 1)), (by first | rfl | (simp; done) | (simp [*]; done)), H', ⟨by have := HK1.out; omega⟩, ⟨by (with_reducible repeat (first | apply Kd.R_alloc | apply Kd.R_drewN | apply Kd.R_drew)); exact HO115.out⟩, ⟨by repeat (first | (with_reducible first | exact HB.out | apply below_alloc | apply pw_below_drewN | apply below_drew1 | refine below_set ?_ GE107.out) | exact HB.out)⟩⟩
                          · rw [if_neg c23] at H
                            exact absurd H (by simp)
                      · rw [if_neg c14] at H
                        exact absurd H (by simp)
                    · rw [if_neg c13] at H
                      exact absurd H (by simp)
                  · rw [if_neg c12] at H
                    exact absurd H (by simp)
                · rw [if_neg c10] at H
                  exact absurd H (by simp)
              · rw [if_neg c9] at H
                exact absurd H (by simp)
            · rw [if_neg c8] at H
              exact absurd H (by simp)
          · rw [if_neg c7] at H
            exact absurd H (by simp)
        · rw [if_neg c6] at H
          exact absurd H (by simp)
      · rw [if_neg c5] at H
        have c5b0 : decide (x14_1 < (l0.length : Int)) = false := decide_eq_false c5
        clear c5
        obtain rfl := Option.some.inj H
        go_wp2
        repeat (go_quiet (fail); try go_wp2)
        go_ret
        exact ⟨_, by first | rfl | (simp [errW_none, errW_some] <;> rfl) | (simp [*, errW_none, errW_some] <;> rfl), by (with_reducible repeat (first | apply Kd.R_alloc | apply Kd.R_drewN | apply Kd.R_drew)); exact HO_5.out, by repeat (first | (with_reducible first | exact HB.out | apply below_alloc | apply pw_below_drewN | apply below_drew1) | exact HB.out)⟩

/-! ### spec_siAdders: function 76 -/
mutual
def spec_siAdders.l0 : Nat → List (S23) → List (S23) → Int → Int → Option (Bool)
  | 0, _, _, _, _ => none
  | k + 1, x0, x8, x9, x10 => if x10 < x9 then (if 0 ≤ x10 then (if x10 < (x8.length : Int) then ((spec_l1In.f ((rd_T23 x8 x10).f0) 0 x10).bind fun t118 => (if t118 = true then ((spec_l1In.f ((rd_T23 x8 x10).f2) 0 x10).bind fun t119 => (if t119 = true then ((spec_l1In.f ((rd_T23 x8 x10).f1) 0 20).bind fun t120 => (if t120 = true then ((spec_l1In.f ((rd_T23 x8 x10).f3) 0 20).bind fun t121 => (spec_siAdders.j1 k x0 x10 x8 x9 x10 (!t121))) else (spec_siAdders.j1 k x0 x10 x8 x9 x10 true))) else (spec_siAdders.j1 k x0 x10 x8 x9 x10 true))) else (spec_siAdders.j1 k x0 x10 x8 x9 x10 true))) else (none)) else (none)) else (some true)
def spec_siAdders.j1 : Nat → List (S23) → Int → List (S23) → Int → Int → Bool → Option (Bool)
  | 0, _, _, _, _, _, _ => none
  | k + 1, x0, x3, x8, x9, x10, x38 => if x38 = true then (some false) else (if 0 ≤ (wrap64 (x3 + 1)) then (if (wrap64 (x3 + 1)) ≤ (x0.length : Int) then ((spec_siValues.f k (x0.take ((wrap64 (x3 + 1)) : Int).toNat) 1).bind fun t126 => ((spec_l1All.f k t126 (-2097152) 2097152).bind fun t129 => (if t129 = true then (spec_siAdders.l0 k x0 x8 x9 (wrap64 (x10 + 1))) else (some false)))) else (none)) else (none))
end
def spec_siAdders.f (k : Nat) (l0 : List (S23)) : Option (Bool) := if (l0.length : Int) > 24 then (some false) else (spec_siAdders.l0 k l0 l0 (l0.length : Int) 0)
theorem spec_siAdders.mono_l : ∀ k, (∀ y0 y1 y2 y3, LeO (spec_siAdders.l0 k y0 y1 y2 y3) (spec_siAdders.l0 (k + 1) y0 y1 y2 y3)) ∧ (∀ y0 y1 y2 y3 y4 y5, LeO (spec_siAdders.j1 k y0 y1 y2 y3 y4 y5) (spec_siAdders.j1 (k + 1) y0 y1 y2 y3 y4 y5))
  | 0 => ⟨fun _ _ _ _ r h => by simp [spec_siAdders.l0] at h, fun _ _ _ _ _ _ r h => by simp [spec_siAdders.j1] at h⟩
  | k + 1 => by
    obtain ⟨ih0, ih1⟩ := spec_siAdders.mono_l k
    refine ⟨?_, ?_⟩
    · intro y0 y1 y2 y3
      unfold spec_siAdders.l0
      repeat' first
      | (with_reducible exact ih0 _ _ _ _)
      | (with_reducible exact ih1 _ _ _ _ _ _)
      | (with_reducible exact spec_l1All.mono _ _ _ _)
      | (with_reducible exact spec_siValues.mono _ _ _)
      | (with_reducible exact LeO.refl _)
      | (with_reducible exact LeO.none _)
      | (with_reducible refine LeO.ite ?_ ?_)
      | (with_reducible refine LeO.bind ?_ (fun _ => ?_))
      | exact ih0 _ _ _ _
      | exact ih1 _ _ _ _ _ _
      | exact spec_l1All.mono _ _ _ _
      | exact spec_siValues.mono _ _ _
      | exact LeO.none _
      | refine LeO.ite ?_ ?_
      | refine LeO.bind ?_ (fun _ => ?_)
    · intro y0 y1 y2 y3 y4 y5
      unfold spec_siAdders.j1
      repeat' first
      | (with_reducible exact ih0 _ _ _ _)
      | (with_reducible exact ih1 _ _ _ _ _ _)
      | (with_reducible exact spec_l1All.mono _ _ _ _)
      | (with_reducible exact spec_siValues.mono _ _ _)
      | (with_reducible exact LeO.refl _)
      | (with_reducible exact LeO.none _)
      | (with_reducible refine LeO.ite ?_ ?_)
      | (with_reducible refine LeO.bind ?_ (fun _ => ?_))
      | exact ih0 _ _ _ _
      | exact ih1 _ _ _ _ _ _
      | exact spec_l1All.mono _ _ _ _
      | exact spec_siValues.mono _ _ _
      | exact LeO.none _
      | refine LeO.ite ?_ ?_
      | refine LeO.bind ?_ (fun _ => ?_)
theorem spec_siAdders.mono : ∀ a0 k, LeO (spec_siAdders.f k a0) (spec_siAdders.f (k + 1) a0) := by
  intro a0 k
  obtain ⟨ih0, ih1⟩ := spec_siAdders.mono_l k
  unfold spec_siAdders.f
  repeat' first
      | (with_reducible exact ih0 _ _ _ _)
      | (with_reducible exact ih1 _ _ _ _ _ _)
      | (with_reducible exact spec_l1All.mono _ _ _ _)
      | (with_reducible exact spec_siValues.mono _ _ _)
      | (with_reducible exact LeO.refl _)
      | (with_reducible exact LeO.none _)
      | (with_reducible refine LeO.ite ?_ ?_)
      | (with_reducible refine LeO.bind ?_ (fun _ => ?_))
      | exact ih0 _ _ _ _
      | exact ih1 _ _ _ _ _ _
      | exact spec_l1All.mono _ _ _ _
      | exact spec_siValues.mono _ _ _
      | exact LeO.none _
      | refine LeO.ite ?_ ?_
      | refine LeO.bind ?_ (fun _ => ?_)
set_option maxHeartbeats 8000000 in
set_option maxRecDepth 100000 in
theorem spec_siAdders.calls (k : Nat) (A0 : Option Addr) (c0 : Nat) (l0 : List (S23)) (r : Bool) (w : World) (hr0 : Kd.C k23 w A0 l0.length l0) (hc0 : l0.length ≤ c0) (h : spec_siAdders.f k l0 = some r) :
    Calls Try.prog 76 #[.slice A0 l0.length c0] w fun e w' => e = .returned (.bool r) ∧ Below w.heap.size w w' := by
  have hu23 := Try.underlying23
  have HR0 := Aside0.mk hr0
  have HC0 := Aside0.mk hc0
  clear hr0 hc0
  have HB := Aside0.mk (Below.refl w.heap.size w)
  have H : (if (l0.length : Int) > 24 then (some false) else (spec_siAdders.l0 k l0 l0 (l0.length : Int) 0)) = some r := h
  clear h
  by_cases c2 : (l0.length : Int) > 24
  · rw [if_pos c2] at H
    have c2b0 : decide (24 < (l0.length : Int)) = true := decide_eq_true c2
    have c2b1 : decide (24 < l0.length) = true := decide_eq_true (by omega)
    clear c2
    obtain rfl := Option.some.inj H
    go_enter Try.func76, Try.ntmps76
    go_wp2
    go_ret
    exact ⟨by first | rfl | (simp [errW_none, errW_some] <;> rfl) | (simp [*, errW_none, errW_some] <;> rfl), by repeat (first | (with_reducible first | exact HB.out | apply below_alloc | apply pw_below_drewN | apply below_drew1) | exact HB.out)⟩
  · rw [if_neg c2] at H
    have c2b0 : decide (24 < (l0.length : Int)) = false := decide_eq_false c2
    have c2b1 : decide (24 < l0.length) = false := decide_eq_false (by omega)
    clear c2
    have H' := Aside0.mk H
    clear H
    go_enter Try.func76, Try.ntmps76
    go_wp2
    go_loopg [10] k (fun kq v10 w' => ∃ (x10_1 : Int), v10 = .int .i64 x10_1 ∧ Aside0 (spec_siAdders.l0 kq l0 l0 (l0.length : Int) x10_1 = some r) ∧ Aside0 (kq ≤ k) ∧ Aside0 (Below w.heap.size w w'))
    case atStart => exact ⟨(0), (by first | rfl | (simp; done) | (simp [*]; done)), H', ⟨Nat.le_refl _⟩, ⟨by repeat (first | (with_reducible first | exact HB.out | apply below_alloc | apply pw_below_drewN | apply below_drew1) | exact HB.out)⟩⟩
    case round =>
      clear H'
      try clear c2
      try clear c2b0
      try clear c2b1
      try clear p2
      obtain ⟨x10_1, rfl, HA, HK1, HB⟩ := hrel
      cases gk with
      | zero => exact absurd HA.out (by simp [spec_siAdders.l0])
      | succ k1 =>
        have H := HA.out
        clear HA
        simp only [spec_siAdders.l0] at H
        by_cases c3 : x10_1 < (l0.length : Int)
        · rw [if_pos c3] at H
          have c3b0 : decide (x10_1 < (l0.length : Int)) = true := decide_eq_true c3
          clear c3
          by_cases c4 : 0 ≤ x10_1
          · rw [if_pos c4] at H
            have c4b0 : decide (0 ≤ x10_1) = true := decide_eq_true c4
            clear c4
            by_cases c5 : x10_1 < (l0.length : Int)
            · rw [if_pos c5] at H
              have c5b0 : decide (x10_1 < (l0.length : Int)) = true := decide_eq_true c5
              clear c5
              have HC6 := Aside0.mk H
              clear H
              have p116 : 0 ≤ (x10_1 : Int) := of_decide_eq_true (by first | (with_reducible assumption) | assumption)
              have q116 : x10_1 < (l0.length : Int) := of_decide_eq_true (by first | (with_reducible assumption) | assumption)
              obtain ⟨ad116, e116, hx116_0, hx116_1, hx116_2, hx116_3, hx116_4⟩ := at_T23 HR0.out x10_1 p116 q116
              cases e116
              replace hx116_0 := (HB.out.cell (World.block_lt_of_cell? w _ hx116_0)).trans hx116_0
              replace hx116_1 := (HB.out.cell (World.block_lt_of_cell? w _ hx116_1)).trans hx116_1
              replace hx116_2 := (HB.out.cell (World.block_lt_of_cell? w _ hx116_2)).trans hx116_2
              replace hx116_3 := (HB.out.cell (World.block_lt_of_cell? w _ hx116_3)).trans hx116_3
              replace hx116_4 := (HB.out.cell (World.block_lt_of_cell? w _ hx116_4)).trans hx116_4
              replace p116 := eq_true p116
              replace q116 := eq_true q116
              go_upto_region 6 with (first | ((with_reducible refine gate_dst (N := 4) rfl ?_); refine box_event ?hg (N := 4) ?hd (cs := #[.int .i64 0, .int .i64 0, .int .i64 0, .int .i64 0, .bool false]) (t := 23) ?hr ?_; (case hd => rfl); (case hg => rfl); (case hr => first | (go_simp; done) | (go_simp; rfl)); intro gb117 hg w7 hbox hb; have n0_ := Aside0.mk (below_step (by repeat (first | (with_reducible first | exact HB.out | apply below_alloc | apply pw_below_drewN | apply below_drew1) | exact HB.out)) hb); have n1_ := Aside0.mk (hbox); have n2_ := Aside0.mk ((by rw [hg]; exact (below_size (by repeat (first | (with_reducible first | exact HB.out | apply below_alloc | apply pw_below_drewN | apply below_drew1) | exact HB.out))) : w.heap.size ≤ gb117)); have n3_ := Aside0.mk ((by rw [hg]; exact (below_size (by repeat (first | (with_reducible first | exact HB.out | apply below_alloc | apply pw_below_drewN | apply below_drew1) | exact HB.out))) : w.heap.size ≤ gb117)); clear HB; have HB := n0_; have BK117 := n1_; have GW117 := n2_; have GE117 := n3_; clear n0_ n1_ n2_ n3_; clear hb hbox hg; have hcz8_0 : w7.cell? ⟨gb117, 0, none⟩ = some (.int .i64 0) := (blk_cell BK117.out 0).trans rfl; have hcz8_1 : w7.cell? ⟨gb117, 1, none⟩ = some (.int .i64 0) := (blk_cell BK117.out 1).trans rfl; have hcz8_2 : w7.cell? ⟨gb117, 2, none⟩ = some (.int .i64 0) := (blk_cell BK117.out 2).trans rfl; have hcz8_3 : w7.cell? ⟨gb117, 3, none⟩ = some (.int .i64 0) := (blk_cell BK117.out 3).trans rfl; have hcz8_4 : w7.cell? ⟨gb117, 4, none⟩ = some (.bool false) := (blk_cell BK117.out 4).trans rfl; have hfz8_0 := blk_frozen BK117.out 0; have hfz8_1 := blk_frozen BK117.out 1; have hfz8_2 := blk_frozen BK117.out 2; have hfz8_3 := blk_frozen BK117.out 3; have hfz8_4 := blk_frozen BK117.out 4))
              (try simp only [Act.put, List.setIfInBounds_toArray, List.set_cons_zero, List.set_cons_succ])
              go_cut [38] (fun v38 wc => ∃ (kq : Nat) (x38_5 : Bool), v38 = .bool x38_5 ∧ Aside0 (spec_siAdders.j1 kq l0 x10_1 l0 (l0.length : Int) x10_1 x38_5 = some r) ∧ Aside0 (kq ≤ k1) ∧ Aside0 (wc.heap[gb117]? = some (.cells #[.int .i64 ((rd_T23 l0 x10_1).f0), .int .i64 ((rd_T23 l0 x10_1).f1), .int .i64 ((rd_T23 l0 x10_1).f2), .int .i64 ((rd_T23 l0 x10_1).f3), .bool ((rd_T23 l0 x10_1).f4)] 23 (0, 0))) ∧ Aside0 (Below w.heap.size w wc))
              case first =>
                have H := HC6.out
                clear HC6
                replace H := Option.bind_eq_some_iff.mp H
                obtain ⟨t118, A90, H⟩ := H
                replace H : (if t118 = true then ((spec_l1In.f ((rd_T23 l0 x10_1).f2) 0 x10_1).bind fun t119 => (if t119 = true then ((spec_l1In.f ((rd_T23 l0 x10_1).f1) 0 20).bind fun t120 => (if t120 = true then ((spec_l1In.f ((rd_T23 l0 x10_1).f3) 0 20).bind fun t121 => (spec_siAdders.j1 k1 l0 x10_1 l0 (l0.length : Int) x10_1 (!t121))) else (spec_siAdders.j1 k1 l0 x10_1 l0 (l0.length : Int) x10_1 true))) else (spec_siAdders.j1 k1 l0 x10_1 l0 (l0.length : Int) x10_1 true))) else (spec_siAdders.j1 k1 l0 x10_1 l0 (l0.length : Int) x10_1 true)) = some r := H
                have A9 := Aside0.mk A90
                clear A90
                by_cases c10 : t118 = true
                · subst c10
                  have H1 : ((spec_l1In.f ((rd_T23 l0 x10_1).f2) 0 x10_1).bind fun t119 => (if t119 = true then ((spec_l1In.f ((rd_T23 l0 x10_1).f1) 0 20).bind fun t120 => (if t120 = true then ((spec_l1In.f ((rd_T23 l0 x10_1).f3) 0 20).bind fun t121 => (spec_siAdders.j1 k1 l0 x10_1 l0 (l0.length : Int) x10_1 (!t121))) else (spec_siAdders.j1 k1 l0 x10_1 l0 (l0.length : Int) x10_1 true))) else (spec_siAdders.j1 k1 l0 x10_1 l0 (l0.length : Int) x10_1 true))) = some r := by rw [if_pos rfl] at H; exact H
                  clear H
                  have H := H1
                  clear H1
                  replace H := Option.bind_eq_some_iff.mp H
                  obtain ⟨t119, A110, H⟩ := H
                  replace H : (if t119 = true then ((spec_l1In.f ((rd_T23 l0 x10_1).f1) 0 20).bind fun t120 => (if t120 = true then ((spec_l1In.f ((rd_T23 l0 x10_1).f3) 0 20).bind fun t121 => (spec_siAdders.j1 k1 l0 x10_1 l0 (l0.length : Int) x10_1 (!t121))) else (spec_siAdders.j1 k1 l0 x10_1 l0 (l0.length : Int) x10_1 true))) else (spec_siAdders.j1 k1 l0 x10_1 l0 (l0.length : Int) x10_1 true)) = some r := H
                  have A11 := Aside0.mk A110
                  clear A110
                  by_cases c12 : t119 = true
                  · subst c12
                    have H1 : ((spec_l1In.f ((rd_T23 l0 x10_1).f1) 0 20).bind fun t120 => (if t120 = true then ((spec_l1In.f ((rd_T23 l0 x10_1).f3) 0 20).bind fun t121 => (spec_siAdders.j1 k1 l0 x10_1 l0 (l0.length : Int) x10_1 (!t121))) else (spec_siAdders.j1 k1 l0 x10_1 l0 (l0.length : Int) x10_1 true))) = some r := by rw [if_pos rfl] at H; exact H
                    clear H
                    have H := H1
                    clear H1
                    replace H := Option.bind_eq_some_iff.mp H
                    obtain ⟨t120, A130, H⟩ := H
                    replace H : (if t120 = true then ((spec_l1In.f ((rd_T23 l0 x10_1).f3) 0 20).bind fun t121 => (spec_siAdders.j1 k1 l0 x10_1 l0 (l0.length : Int) x10_1 (!t121))) else (spec_siAdders.j1 k1 l0 x10_1 l0 (l0.length : Int) x10_1 true)) = some r := H
                    have A13 := Aside0.mk A130
                    clear A130
                    by_cases c14 : t120 = true
                    · subst c14
                      have H1 : ((spec_l1In.f ((rd_T23 l0 x10_1).f3) 0 20).bind fun t121 => (spec_siAdders.j1 k1 l0 x10_1 l0 (l0.length : Int) x10_1 (!t121))) = some r := by rw [if_pos rfl] at H; exact H
                      clear H
                      have H := H1
                      clear H1
                      replace H := Option.bind_eq_some_iff.mp H
                      obtain ⟨t121, A150, H⟩ := H
                      replace H : (spec_siAdders.j1 k1 l0 x10_1 l0 (l0.length : Int) x10_1 (!t121)) = some r := H
                      have A15 := Aside0.mk A150
                      clear A150
                      have H' := Aside0.mk H
                      clear H
                      have hcz16_0 : w7.cell? ⟨gb117, 0, none⟩ = some (.int .i64 0) := (blk_cell BK117.out 0).trans rfl
                      have hcz16_1 : w7.cell? ⟨gb117, 1, none⟩ = some (.int .i64 0) := (blk_cell BK117.out 1).trans rfl
                      have hcz16_2 : w7.cell? ⟨gb117, 2, none⟩ = some (.int .i64 0) := (blk_cell BK117.out 2).trans rfl
                      have hcz16_3 : w7.cell? ⟨gb117, 3, none⟩ = some (.int .i64 0) := (blk_cell BK117.out 3).trans rfl
                      have hcz16_4 : w7.cell? ⟨gb117, 4, none⟩ = some (.bool false) := (blk_cell BK117.out 4).trans rfl
                      have hfz16_0 := blk_frozen BK117.out 0
                      have hfz16_1 := blk_frozen BK117.out 1
                      have hfz16_2 := blk_frozen BK117.out 2
                      have hfz16_3 := blk_frozen BK117.out 3
                      have hfz16_4 := blk_frozen BK117.out 4
                      go_wp2_with (first | ((with_reducible refine gate_callee (f := 50) rfl ?_); refine goesL_ (some 18) rfl rfl Try.func50 (by kernel_rfl) rfl #[.int .i64 ((rd_T23 l0 x10_1).f0), .int .i64 0, .int .i64 x10_1] rfl (by (try simp only [List.map_toArray, List.map_cons, List.map_nil]); first | done | rfl | (simp only [List.length_drop, List.length_take]; rfl)) ?_; (with_reducible refine (spec_l1In.calls ((rd_T23 l0 x10_1).f0) 0 x10_1 true _ A9.out).mono ?_); rintro e w' ⟨rfl, ⟨nd, rfl⟩⟩; refine ⟨_, rfl, ?_⟩) | (go_at_call 50; (with_reducible refine (spec_l1In.calls ((rd_T23 l0 x10_1).f2) 0 x10_1 true _ A11.out).mono ?_); rintro e w' ⟨rfl, ⟨nd, rfl⟩⟩) | (go_at_call 50; (with_reducible refine (spec_l1In.calls ((rd_T23 l0 x10_1).f1) 0 20 true _ A13.out).mono ?_); rintro e w' ⟨rfl, ⟨nd, rfl⟩⟩) | (go_at_call 50; (with_reducible refine (spec_l1In.calls ((rd_T23 l0 x10_1).f3) 0 20 t121 _ A15.out).mono ?_); rintro e w' ⟨rfl, ⟨nd, rfl⟩⟩))
                      go_meet
                      case rel => exact ⟨_, (!t121), (by first | rfl | (simp; done) | (simp [*]; done)), H', ⟨by have := HK1.out; first | omega | exact Nat.le_refl _⟩, ⟨by (with_reducible repeat (first | refine blk_drewN ?_ _ | refine blk_drew ?_ | refine blk_alloc ?_ _)); refine blk_put (cs := #[.int .i64 ((rd_T23 l0 x10_1).f0), .int .i64 ((rd_T23 l0 x10_1).f1), .int .i64 ((rd_T23 l0 x10_1).f2), .int .i64 ((rd_T23 l0 x10_1).f3), .bool false]) ?_ 4 _ rfl; (with_reducible repeat (first | refine blk_drewN ?_ _ | refine blk_drew ?_ | refine blk_alloc ?_ _)); refine blk_put (cs := #[.int .i64 ((rd_T23 l0 x10_1).f0), .int .i64 ((rd_T23 l0 x10_1).f1), .int .i64 ((rd_T23 l0 x10_1).f2), .int .i64 0, .bool false]) ?_ 3 _ rfl; (with_reducible repeat (first | refine blk_drewN ?_ _ | refine blk_drew ?_ | refine blk_alloc ?_ _)); refine blk_put (cs := #[.int .i64 ((rd_T23 l0 x10_1).f0), .int .i64 ((rd_T23 l0 x10_1).f1), .int .i64 0, .int .i64 0, .bool false]) ?_ 2 _ rfl; (with_reducible repeat (first | refine blk_drewN ?_ _ | refine blk_drew ?_ | refine blk_alloc ?_ _)); refine blk_put (cs := #[.int .i64 ((rd_T23 l0 x10_1).f0), .int .i64 0, .int .i64 0, .int .i64 0, .bool false]) ?_ 1 _ rfl; (with_reducible repeat (first | refine blk_drewN ?_ _ | refine blk_drew ?_ | refine blk_alloc ?_ _)); refine blk_put (cs := #[.int .i64 0, .int .i64 0, .int .i64 0, .int .i64 0, .bool false]) ?_ 0 _ rfl; (with_reducible repeat (first | refine blk_drewN ?_ _ | refine blk_drew ?_ | refine blk_alloc ?_ _)); exact BK117.out⟩, ⟨by repeat (first | (with_reducible first | exact HB.out | apply below_alloc | apply pw_below_drewN | apply below_drew1 | refine below_set ?_ GE117.out) | exact HB.out)⟩⟩
                    · replace c14 := Bool.eq_false_iff.mpr c14
                      subst c14
                      have H1 : (spec_siAdders.j1 k1 l0 x10_1 l0 (l0.length : Int) x10_1 true) = some r := by rw [if_neg (show ¬ (false = true) by decide)] at H; exact H
                      clear H
                      have H := H1
                      clear H1
                      have H' := Aside0.mk H
                      clear H
                      have hcz17_0 : w7.cell? ⟨gb117, 0, none⟩ = some (.int .i64 0) := (blk_cell BK117.out 0).trans rfl
                      have hcz17_1 : w7.cell? ⟨gb117, 1, none⟩ = some (.int .i64 0) := (blk_cell BK117.out 1).trans rfl
                      have hcz17_2 : w7.cell? ⟨gb117, 2, none⟩ = some (.int .i64 0) := (blk_cell BK117.out 2).trans rfl
                      have hcz17_3 : w7.cell? ⟨gb117, 3, none⟩ = some (.int .i64 0) := (blk_cell BK117.out 3).trans rfl
                      have hcz17_4 : w7.cell? ⟨gb117, 4, none⟩ = some (.bool false) := (blk_cell BK117.out 4).trans rfl
                      have hfz17_0 := blk_frozen BK117.out 0
                      have hfz17_1 := blk_frozen BK117.out 1
                      have hfz17_2 := blk_frozen BK117.out 2
                      have hfz17_3 := blk_frozen BK117.out 3
                      have hfz17_4 := blk_frozen BK117.out 4
                      go_wp2_with (first | ((with_reducible refine gate_callee (f := 50) rfl ?_); refine goesL_ (some 18) rfl rfl Try.func50 (by kernel_rfl) rfl #[.int .i64 ((rd_T23 l0 x10_1).f0), .int .i64 0, .int .i64 x10_1] rfl (by (try simp only [List.map_toArray, List.map_cons, List.map_nil]); first | done | rfl | (simp only [List.length_drop, List.length_take]; rfl)) ?_; (with_reducible refine (spec_l1In.calls ((rd_T23 l0 x10_1).f0) 0 x10_1 true _ A9.out).mono ?_); rintro e w' ⟨rfl, ⟨nd, rfl⟩⟩; refine ⟨_, rfl, ?_⟩) | (go_at_call 50; (with_reducible refine (spec_l1In.calls ((rd_T23 l0 x10_1).f2) 0 x10_1 true _ A11.out).mono ?_); rintro e w' ⟨rfl, ⟨nd, rfl⟩⟩) | (go_at_call 50; (with_reducible refine (spec_l1In.calls ((rd_T23 l0 x10_1).f1) 0 20 false _ A13.out).mono ?_); rintro e w' ⟨rfl, ⟨nd, rfl⟩⟩))
                      go_meet
                      case rel => exact ⟨_, (true), (by first | rfl | (simp; done) | (simp [*]; done)), H', ⟨by have := HK1.out; first | omega | exact Nat.le_refl _⟩, ⟨by (with_reducible repeat (first | refine blk_drewN ?_ _ | refine blk_drew ?_ | refine blk_alloc ?_ _)); refine blk_put (cs := #[.int .i64 ((rd_T23 l0 x10_1).f0), .int .i64 ((rd_T23 l0 x10_1).f1), .int .i64 ((rd_T23 l0 x10_1).f2), .int .i64 ((rd_T23 l0 x10_1).f3), .bool false]) ?_ 4 _ rfl; (with_reducible repeat (first | refine blk_drewN ?_ _ | refine blk_drew ?_ | refine blk_alloc ?_ _)); refine blk_put (cs := #[.int .i64 ((rd_T23 l0 x10_1).f0), .int .i64 ((rd_T23 l0 x10_1).f1), .int .i64 ((rd_T23 l0 x10_1).f2), .int .i64 0, .bool false]) ?_ 3 _ rfl; (with_reducible repeat (first | refine blk_drewN ?_ _ | refine blk_drew ?_ | refine blk_alloc ?_ _)); refine blk_put (cs := #[.int .i64 ((rd_T23 l0 x10_1).f0), .int .i64 ((rd_T23 l0 x10_1).f1), .int .i64 0, .int .i64 0, .bool false]) ?_ 2 _ rfl; (with_reducible repeat (first | refine blk_drewN ?_ _ | refine blk_drew ?_ | refine blk_alloc ?_ _)); refine blk_put (cs := #[.int .i64 ((rd_T23 l0 x10_1).f0), .int .i64 0, .int .i64 0, .int .i64 0, .bool false]) ?_ 1 _ rfl; (with_reducible repeat (first | refine blk_drewN ?_ _ | refine blk_drew ?_ | refine blk_alloc ?_ _)); refine blk_put (cs := #[.int .i64 0, .int .i64 0, .int .i64 0, .int .i64 0, .bool false]) ?_ 0 _ rfl; (with_reducible repeat (first | refine blk_drewN ?_ _ | refine blk_drew ?_ | refine blk_alloc ?_ _)); exact BK117.out⟩, ⟨by repeat (first | (with_reducible first | exact HB.out | apply below_alloc | apply pw_below_drewN | apply below_drew1 | refine below_set ?_ GE117.out) | exact HB.out)⟩⟩
                  · replace c12 := Bool.eq_false_iff.mpr c12
                    subst c12
                    have H1 : (spec_siAdders.j1 k1 l0 x10_1 l0 (l0.length : Int) x10_1 true) = some r := by rw [if_neg (show ¬ (false = true) by decide)] at H; exact H
                    clear H
                    have H := H1
                    clear H1
                    have H' := Aside0.mk H
                    clear H
                    have hcz18_0 : w7.cell? ⟨gb117, 0, none⟩ = some (.int .i64 0) := (blk_cell BK117.out 0).trans rfl
                    have hcz18_1 : w7.cell? ⟨gb117, 1, none⟩ = some (.int .i64 0) := (blk_cell BK117.out 1).trans rfl
                    have hcz18_2 : w7.cell? ⟨gb117, 2, none⟩ = some (.int .i64 0) := (blk_cell BK117.out 2).trans rfl
                    have hcz18_3 : w7.cell? ⟨gb117, 3, none⟩ = some (.int .i64 0) := (blk_cell BK117.out 3).trans rfl
                    have hcz18_4 : w7.cell? ⟨gb117, 4, none⟩ = some (.bool false) := (blk_cell BK117.out 4).trans rfl
                    have hfz18_0 := blk_frozen BK117.out 0
                    have hfz18_1 := blk_frozen BK117.out 1
                    have hfz18_2 := blk_frozen BK117.out 2
                    have hfz18_3 := blk_frozen BK117.out 3
                    have hfz18_4 := blk_frozen BK117.out 4
                    go_wp2_with (first | ((with_reducible refine gate_callee (f := 50) rfl ?_); refine goesL_ (some 18) rfl rfl Try.func50 (by kernel_rfl) rfl #[.int .i64 ((rd_T23 l0 x10_1).f0), .int .i64 0, .int .i64 x10_1] rfl (by (try simp only [List.map_toArray, List.map_cons, List.map_nil]); first | done | rfl | (simp only [List.length_drop, List.length_take]; rfl)) ?_; (with_reducible refine (spec_l1In.calls ((rd_T23 l0 x10_1).f0) 0 x10_1 true _ A9.out).mono ?_); rintro e w' ⟨rfl, ⟨nd, rfl⟩⟩; refine ⟨_, rfl, ?_⟩) | (go_at_call 50; (with_reducible refine (spec_l1In.calls ((rd_T23 l0 x10_1).f2) 0 x10_1 false _ A11.out).mono ?_); rintro e w' ⟨rfl, ⟨nd, rfl⟩⟩))
                    go_meet
                    case rel => exact ⟨_, (true), (by first | rfl | (simp; done) | (simp [*]; done)), H', ⟨by have := HK1.out; first | omega | exact Nat.le_refl _⟩, ⟨by (with_reducible repeat (first | refine blk_drewN ?_ _ | refine blk_drew ?_ | refine blk_alloc ?_ _)); refine blk_put (cs := #[.int .i64 ((rd_T23 l0 x10_1).f0), .int .i64 ((rd_T23 l0 x10_1).f1), .int .i64 ((rd_T23 l0 x10_1).f2), .int .i64 ((rd_T23 l0 x10_1).f3), .bool false]) ?_ 4 _ rfl; (with_reducible repeat (first | refine blk_drewN ?_ _ | refine blk_drew ?_ | refine blk_alloc ?_ _)); refine blk_put (cs := #[.int .i64 ((rd_T23 l0 x10_1).f0), .int .i64 ((rd_T23 l0 x10_1).f1), .int .i64 ((rd_T23 l0 x10_1).f2), .int .i64 0, .bool false]) ?_ 3 _ rfl; (with_reducible repeat (first | refine blk_drewN ?_ _ | refine blk_drew ?_ | refine blk_alloc ?_ _)); refine blk_put (cs := #[.int .i64 ((rd_T23 l0 x10_1).f0), .int .i64 ((rd_T23 l0 x10_1).f1), .int .i64 0, .int .i64 0, .bool false]) ?_ 2 _ rfl; (with_reducible repeat (first | refine blk_drewN ?_ _ | refine blk_drew ?_ | refine blk_alloc ?_ _)); refine blk_put (cs := #[.int .i64 ((rd_T23 l0 x10_1).f0), .int .i64 0, .int .i64 0, .int .i64 0, .bool false]) ?_ 1 _ rfl; (with_reducible repeat (first | refine blk_drewN ?_ _ | refine blk_drew ?_ | refine blk_alloc ?_ _)); refine blk_put (cs := #[.int .i64 0, .int .i64 0, .int .i64 0, .int .i64 0, .bool false]) ?_ 0 _ rfl; (with_reducible repeat (first | refine blk_drewN ?_ _ | refine blk_drew ?_ | refine blk_alloc ?_ _)); exact BK117.out⟩, ⟨by repeat (first | (with_reducible first | exact HB.out | apply below_alloc | apply pw_below_drewN | apply below_drew1 | refine below_set ?_ GE117.out) | exact HB.out)⟩⟩
                · replace c10 := Bool.eq_false_iff.mpr c10
                  subst c10
                  have H1 : (spec_siAdders.j1 k1 l0 x10_1 l0 (l0.length : Int) x10_1 true) = some r := by rw [if_neg (show ¬ (false = true) by decide)] at H; exact H
                  clear H
                  have H := H1
                  clear H1
                  have H' := Aside0.mk H
                  clear H
                  have hcz19_0 : w7.cell? ⟨gb117, 0, none⟩ = some (.int .i64 0) := (blk_cell BK117.out 0).trans rfl
                  have hcz19_1 : w7.cell? ⟨gb117, 1, none⟩ = some (.int .i64 0) := (blk_cell BK117.out 1).trans rfl
                  have hcz19_2 : w7.cell? ⟨gb117, 2, none⟩ = some (.int .i64 0) := (blk_cell BK117.out 2).trans rfl
                  have hcz19_3 : w7.cell? ⟨gb117, 3, none⟩ = some (.int .i64 0) := (blk_cell BK117.out 3).trans rfl
                  have hcz19_4 : w7.cell? ⟨gb117, 4, none⟩ = some (.bool false) := (blk_cell BK117.out 4).trans rfl
                  have hfz19_0 := blk_frozen BK117.out 0
                  have hfz19_1 := blk_frozen BK117.out 1
                  have hfz19_2 := blk_frozen BK117.out 2
                  have hfz19_3 := blk_frozen BK117.out 3
                  have hfz19_4 := blk_frozen BK117.out 4
                  go_wp2_with (first | ((with_reducible refine gate_callee (f := 50) rfl ?_); refine goesL_ (some 18) rfl rfl Try.func50 (by kernel_rfl) rfl #[.int .i64 ((rd_T23 l0 x10_1).f0), .int .i64 0, .int .i64 x10_1] rfl (by (try simp only [List.map_toArray, List.map_cons, List.map_nil]); first | done | rfl | (simp only [List.length_drop, List.length_take]; rfl)) ?_; (with_reducible refine (spec_l1In.calls ((rd_T23 l0 x10_1).f0) 0 x10_1 false _ A9.out).mono ?_); rintro e w' ⟨rfl, ⟨nd, rfl⟩⟩; refine ⟨_, rfl, ?_⟩))
                  go_meet
                  case rel => exact ⟨_, (true), (by first | rfl | (simp; done) | (simp [*]; done)), H', ⟨by have := HK1.out; first | omega | exact Nat.le_refl _⟩, ⟨by (with_reducible repeat (first | refine blk_drewN ?_ _ | refine blk_drew ?_ | refine blk_alloc ?_ _)); refine blk_put (cs := #[.int .i64 ((rd_T23 l0 x10_1).f0), .int .i64 ((rd_T23 l0 x10_1).f1), .int .i64 ((rd_T23 l0 x10_1).f2), .int .i64 ((rd_T23 l0 x10_1).f3), .bool false]) ?_ 4 _ rfl; (with_reducible repeat (first | refine blk_drewN ?_ _ | refine blk_drew ?_ | refine blk_alloc ?_ _)); refine blk_put (cs := #[.int .i64 ((rd_T23 l0 x10_1).f0), .int .i64 ((rd_T23 l0 x10_1).f1), .int .i64 ((rd_T23 l0 x10_1).f2), .int .i64 0, .bool false]) ?_ 3 _ rfl; (with_reducible repeat (first | refine blk_drewN ?_ _ | refine blk_drew ?_ | refine blk_alloc ?_ _)); refine blk_put (cs := #[.int .i64 ((rd_T23 l0 x10_1).f0), .int .i64 ((rd_T23 l0 x10_1).f1), .int .i64 0, .int .i64 0, .bool false]) ?_ 2 _ rfl; (with_reducible repeat (first | refine blk_drewN ?_ _ | refine blk_drew ?_ | refine blk_alloc ?_ _)); refine blk_put (cs := #[.int .i64 ((rd_T23 l0 x10_1).f0), .int .i64 0, .int .i64 0, .int .i64 0, .bool false]) ?_ 1 _ rfl; (with_reducible repeat (first | refine blk_drewN ?_ _ | refine blk_drew ?_ | refine blk_alloc ?_ _)); refine blk_put (cs := #[.int .i64 0, .int .i64 0, .int .i64 0, .int .i64 0, .bool false]) ?_ 0 _ rfl; (with_reducible repeat (first | refine blk_drewN ?_ _ | refine blk_drew ?_ | refine blk_alloc ?_ _)); exact BK117.out⟩, ⟨by repeat (first | (with_reducible first | exact HB.out | apply below_alloc | apply pw_below_drewN | apply below_drew1 | refine below_set ?_ GE117.out) | exact HB.out)⟩⟩
              case rest =>
                clear HC6
                try clear c1
                try clear p1
                try clear q1
                try clear hx1
                try clear c2
                try clear c2b0
                try clear c2b1
                try clear p2
                try clear c3
                try clear c3b0
                try clear c4
                try clear c4b0
                try clear c5
                try clear c5b0
                try clear c7
                try clear c10
                try clear p11
                try clear q11
                try clear hx11
                try clear c12
                try clear c14
                try clear hcz16_0
                try clear hcz16_1
                try clear hcz16_2
                try clear hcz16_3
                try clear hcz16_4
                try clear hcz17_0
                try clear hcz17_1
                try clear hcz17_2
                try clear hcz17_3
                try clear hcz17_4
                try clear hcz18_0
                try clear hcz18_1
                try clear hcz18_2
                try clear hcz18_3
                try clear hcz18_4
                try clear hcz19_0
                try clear hcz19_1
                try clear hcz19_2
                try clear hcz19_3
                try clear hcz19_4
                try clear hcz8_0
                try clear hcz8_1
                try clear hcz8_2
                try clear hcz8_3
                try clear hcz8_4
                try clear hfz16_0
                try clear hfz16_1
                try clear hfz16_2
                try clear hfz16_3
                try clear hfz16_4
                try clear hfz17_0
                try clear hfz17_1
                try clear hfz17_2
                try clear hfz17_3
                try clear hfz17_4
                try clear hfz18_0
                try clear hfz18_1
                try clear hfz18_2
                try clear hfz18_3
                try clear hfz18_4
                try clear hfz19_0
                try clear hfz19_1
                try clear hfz19_2
                try clear hfz19_3
                try clear hfz19_4
                try clear hfz8_0
                try clear hfz8_1
                try clear hfz8_2
                try clear hfz8_3
                try clear hfz8_4
                try clear hx116_0
                try clear hx116_1
                try clear hx116_2
                try clear hx116_3
                try clear hx116_4
                try clear p116
                try clear p2
                try clear q116
                obtain ⟨kq, x38_5, rfl, HA, HJ5, BK117, HB⟩ := hcut
                cases kq with
                | zero => exact absurd HA.out (by simp [spec_siAdders.j1])
                | succ kj5 =>
                  have H := HA.out
                  clear HA
                  simp only [spec_siAdders.j1] at H
                  by_cases c20 : x38_5 = true
                  · subst c20
                    have H1 : (some false) = some r := by rw [if_pos rfl] at H; exact H
                    clear H
                    have H := H1
                    clear H1
                    obtain rfl := Option.some.inj H
                    go_wp2
                    go_ret
                    exact ⟨by first | rfl | (simp [errW_none, errW_some] <;> rfl) | (simp [*, errW_none, errW_some] <;> rfl), by repeat (first | (with_reducible first | exact HB.out | apply below_alloc | apply pw_below_drewN | apply below_drew1 | refine below_set ?_ GE117.out) | exact HB.out)⟩
                  · replace c20 := Bool.eq_false_iff.mpr c20
                    subst c20
                    have H1 : (if 0 ≤ (wrap64 (x10_1 + 1)) then (if (wrap64 (x10_1 + 1)) ≤ (l0.length : Int) then ((spec_siValues.f kj5 (l0.take ((wrap64 (x10_1 + 1)) : Int).toNat) 1).bind fun t126 => ((spec_l1All.f kj5 t126 (-2097152) 2097152).bind fun t129 => (if t129 = true then (spec_siAdders.l0 kj5 l0 l0 (l0.length : Int) (wrap64 (x10_1 + 1))) else (some false)))) else (none)) else (none)) = some r := by rw [if_neg (show ¬ (false = true) by decide)] at H; exact H
                    clear H
                    have H := H1
                    clear H1
                    obtain ⟨ji21, hji21⟩ : ∃ j_ : Int, (wrap64 (x10_1 + 1)) = j_ := ⟨_, rfl⟩
                    replace H : (if 0 ≤ (ji21) then (if (ji21) ≤ (l0.length : Int) then ((spec_siValues.f kj5 (l0.take ((ji21) : Int).toNat) 1).bind fun t126 => ((spec_l1All.f kj5 t126 (-2097152) 2097152).bind fun t129 => (if t129 = true then (spec_siAdders.l0 kj5 l0 l0 (l0.length : Int) ji21) else (some false)))) else (none)) else (none)) = some r := by first | (rw [hji21] at H; exact H) | (simp only [hji21] at H ⊢; exact H)
                    have hji21w : (IntKind.i64.wrap (x10_1 + 1)) = ji21 := (i64_w _).trans hji21
                    by_cases c22 : 0 ≤ (ji21)
                    · rw [if_pos c22] at H
                      have c22b0 := eq_true c22
                      have c22b1 : decide (0 ≤ (ji21)) = true := decide_eq_true c22
                      clear c22
                      by_cases c23 : (ji21) ≤ (l0.length : Int)
                      · rw [if_pos c23] at H
                        have c23b0 := eq_true c23
                        have c23b1 : decide ((ji21) ≤ (l0.length : Int)) = true := decide_eq_true c23
                        clear c23
                        obtain ⟨y122, hy122⟩ : ∃ y_ : List (S23), y_ = (l0.take ((ji21) : Int).toNat) := ⟨_, rfl⟩
                        replace H : ((spec_siValues.f kj5 y122 1).bind fun t126 => ((spec_l1All.f kj5 t126 (-2097152) 2097152).bind fun t129 => (if t129 = true then (spec_siAdders.l0 kj5 l0 l0 (l0.length : Int) ji21) else (some false)))) = some r := by first | (rw [hy122]; with_reducible exact H) | (have H2_ := (Option.bind_some _ _).symm.trans H; rw [hy122]; with_reducible exact H2_) | (have H2_ := (Option.bind_some _ _).symm.trans H; with_reducible exact H2_) | with_reducible exact H | (rw [hy122]; exact H) | exact H
                        have Ny122 := Aside0.mk hy122
                        clear hy122
                        replace H := Option.bind_eq_some_iff.mp H
                        obtain ⟨t126, A240, H⟩ := H
                        replace H : ((spec_l1All.f kj5 t126 (-2097152) 2097152).bind fun t129 => (if t129 = true then (spec_siAdders.l0 kj5 l0 l0 (l0.length : Int) ji21) else (some false))) = some r := H
                        have A24 := Aside0.mk A240
                        clear A240
                        replace H := Option.bind_eq_some_iff.mp H
                        obtain ⟨t129, A250, H⟩ := H
                        replace H : (if t129 = true then (spec_siAdders.l0 kj5 l0 l0 (l0.length : Int) ji21) else (some false)) = some r := H
                        have A25 := Aside0.mk A250
                        clear A250
                        by_cases c26 : t129 = true
                        · subst c26
                          have H1 : (spec_siAdders.l0 kj5 l0 l0 (l0.length : Int) ji21) = some r := by rw [if_pos rfl] at H; exact H
                          clear H
                          have H := H1
                          clear H1
                          have H' := Aside0.mk H
                          clear H
                          have q27 : ((ji21) : Int) ≤ ((l0.length : Int) : Int) := of_decide_eq_true (by first | (with_reducible assumption) | assumption)
                          obtain ⟨i027, hi027, _, hsz27, _⟩ := info_parts info23
                          have hroom27 : l0.length ≤ c0 := HC0.out
                          have hC27 : Kd.C k23 _ (some ad116) l0.length l0 := HR0.out
                          have hcut27 := cut_to (P := Try.prog) 49 23 .i64 Try.underlying49 hi027 (some ad116) l0.length c0 (ji21) (of_decide_eq_true (by first | (with_reducible assumption) | assumption)) q27 hroom27
                          have hr27 := Kd.C_take (m := ((ji21) : Int).toNat) hC27 (by omega)
                          have hy27 : y122.length = ((ji21) : Int).toNat := (by rw [Ny122.out, List.length_take]; omega)
                          rw [← Ny122.out] at hr27
                          rw [← hy27] at hcut27
                          have HR125 := Aside0.mk hr27
                          have HC125 := Aside0.mk (show y122.length ≤ c0 from by omega)
                          clear hr27 hC27 hroom27 hi027 hsz27
                          have KY27 := Aside0.mk hy27
                          clear hy27
                          replace q27 := eq_true q27
                          go_wp2_with (first | ((with_reducible refine gate_callee (f := 87) rfl ?_); refine goesL_ (some 43) rfl rfl Try.func87 (by kernel_rfl) rfl #[.slice (some ad116) y122.length c0, .int .i64 1] rfl (by (try simp only [List.map_toArray, List.map_cons, List.map_nil]); first | done | rfl | (simp only [List.length_drop, List.length_take]; rfl)) ?_; (with_reducible refine (spec_siValues.calls kj5 _ _ y122 1 t126 _ ?side1 ?side2 A24.out).mono ?_); (case side1 => repeat (first | exact (Kd.C_below HR125.out HB.out) | (with_reducible refine Kd.C_alloc ?_ _) | (with_reducible refine Kd.C_drewN ?_ _) | (with_reducible refine Kd.C_drew ?_))); (case side2 => exact HC125.out); rintro e w28 ⟨v127, rfl, ho0, hb⟩; refine ⟨_, rfl, ?_⟩; have n0_ := Aside0.mk (Kd.R_lower ho0 (below_size (by repeat (first | (with_reducible first | exact HB.out | apply below_alloc | apply pw_below_drewN | apply below_drew1 | refine below_set ?_ GE117.out) | exact HB.out)))); have n1_ := Aside0.mk (blk_below (g := gb117) (o := .cells #[.int .i64 ((rd_T23 l0 x10_1).f0), .int .i64 ((rd_T23 l0 x10_1).f1), .int .i64 ((rd_T23 l0 x10_1).f2), .int .i64 ((rd_T23 l0 x10_1).f3), .bool ((rd_T23 l0 x10_1).f4)] 23 (0, 0)) (by (with_reducible repeat (first | refine blk_drewN ?_ _ | refine blk_drew ?_ | refine blk_alloc ?_ _)); exact BK117.out) hb); have n2_ := Aside0.mk (below_step (by repeat (first | (with_reducible first | exact HB.out | apply below_alloc | apply pw_below_drewN | apply below_drew1 | refine below_set ?_ GE117.out) | exact HB.out)) hb); clear BK117; clear HB; have HO128 := n0_; have BK117 := n1_; have HB := n2_; clear n0_ n1_ n2_; (try clear hb); (try clear hb2); (try clear hk); (try clear hi); (try clear ho0); obtain ⟨Ao29, co29, eo29⟩ := Kd.R_slice HO128.out; subst eo29) | ((with_reducible refine gate_callee (f := 69) rfl ?_); refine goesL_ (some 44) rfl rfl Try.func69 (by kernel_rfl) rfl #[.slice Ao29 t126.length co29, .int .i64 (-2097152), .int .i64 2097152] rfl (by (try simp only [List.map_toArray, List.map_cons, List.map_nil]); first | done | rfl | (simp only [List.length_drop, List.length_take]; rfl)) ?_; (with_reducible refine (spec_l1All.calls kj5 _ _ t126 (-2097152) 2097152 true _ ?side1 ?side2 A25.out).mono ?_); (case side1 => repeat (first | exact (Kd.R_reads' HO128.out).2.2 | (with_reducible refine Kd.C_alloc ?_ _) | (with_reducible refine Kd.C_drewN ?_ _) | (with_reducible refine Kd.C_drew ?_))); (case side2 => exact (Kd.R_reads' HO128.out).2.1); rintro e w' ⟨rfl, ⟨nd, rfl⟩⟩; refine ⟨_, rfl, ?_⟩))
                          go_roundg kj5
                          case measure => have := HK1.out; have := HJ5.out; omega
                          case rel => exact ⟨(ji21), (by first | rfl | (simp; done) | (simp only [← hji21] <;> (first | rfl | simp)) | (simp [*]; done)), H', ⟨by have := HK1.out; have := HJ5.out; omega⟩, ⟨by repeat (first | (with_reducible first | exact HB.out | apply below_alloc | apply pw_below_drewN | apply below_drew1 | refine below_set ?_ GE117.out) | exact HB.out)⟩⟩
                        · replace c26 := Bool.eq_false_iff.mpr c26
                          subst c26
                          have H1 : (some false) = some r := by rw [if_neg (show ¬ (false = true) by decide)] at H; exact H
                          clear H
                          have H := H1
                          clear H1
                          obtain rfl := Option.some.inj H
                          have q30 : ((ji21) : Int) ≤ ((l0.length : Int) : Int) := of_decide_eq_true (by first | (with_reducible assumption) | assumption)
                          obtain ⟨i030, hi030, _, hsz30, _⟩ := info_parts info23
                          have hroom30 : l0.length ≤ c0 := HC0.out
                          have hC30 : Kd.C k23 _ (some ad116) l0.length l0 := HR0.out
                          have hcut30 := cut_to (P := Try.prog) 49 23 .i64 Try.underlying49 hi030 (some ad116) l0.length c0 (ji21) (of_decide_eq_true (by first | (with_reducible assumption) | assumption)) q30 hroom30
                          have hr30 := Kd.C_take (m := ((ji21) : Int).toNat) hC30 (by omega)
                          have hy30 : y122.length = ((ji21) : Int).toNat := (by rw [Ny122.out, List.length_take]; omega)
                          rw [← Ny122.out] at hr30
                          rw [← hy30] at hcut30
                          have HR125 := Aside0.mk hr30
                          have HC125 := Aside0.mk (show y122.length ≤ c0 from by omega)
                          clear hr30 hC30 hroom30 hi030 hsz30
                          have KY30 := Aside0.mk hy30
                          clear hy30
                          replace q30 := eq_true q30
                          go_wp2_with (first | ((with_reducible refine gate_callee (f := 87) rfl ?_); refine goesL_ (some 43) rfl rfl Try.func87 (by kernel_rfl) rfl #[.slice (some ad116) y122.length c0, .int .i64 1] rfl (by (try simp only [List.map_toArray, List.map_cons, List.map_nil]); first | done | rfl | (simp only [List.length_drop, List.length_take]; rfl)) ?_; (with_reducible refine (spec_siValues.calls kj5 _ _ y122 1 t126 _ ?side1 ?side2 A24.out).mono ?_); (case side1 => repeat (first | exact (Kd.C_below HR125.out HB.out) | (with_reducible refine Kd.C_alloc ?_ _) | (with_reducible refine Kd.C_drewN ?_ _) | (with_reducible refine Kd.C_drew ?_))); (case side2 => exact HC125.out); rintro e w31 ⟨v127, rfl, ho0, hb⟩; refine ⟨_, rfl, ?_⟩; have n0_ := Aside0.mk (Kd.R_lower ho0 (below_size (by repeat (first | (with_reducible first | exact HB.out | apply below_alloc | apply pw_below_drewN | apply below_drew1 | refine below_set ?_ GE117.out) | exact HB.out)))); have n1_ := Aside0.mk (blk_below (g := gb117) (o := .cells #[.int .i64 ((rd_T23 l0 x10_1).f0), .int .i64 ((rd_T23 l0 x10_1).f1), .int .i64 ((rd_T23 l0 x10_1).f2), .int .i64 ((rd_T23 l0 x10_1).f3), .bool ((rd_T23 l0 x10_1).f4)] 23 (0, 0)) (by (with_reducible repeat (first | refine blk_drewN ?_ _ | refine blk_drew ?_ | refine blk_alloc ?_ _)); exact BK117.out) hb); have n2_ := Aside0.mk (below_step (by repeat (first | (with_reducible first | exact HB.out | apply below_alloc | apply pw_below_drewN | apply below_drew1 | refine below_set ?_ GE117.out) | exact HB.out)) hb); clear BK117; clear HB; have HO128 := n0_; have BK117 := n1_; have HB := n2_; clear n0_ n1_ n2_; (try clear hb); (try clear hb2); (try clear hk); (try clear hi); (try clear ho0); obtain ⟨Ao32, co32, eo32⟩ := Kd.R_slice HO128.out; subst eo32) | ((with_reducible refine gate_callee (f := 69) rfl ?_); refine goesL_ (some 44) rfl rfl Try.func69 (by kernel_rfl) rfl #[.slice Ao32 t126.length co32, .int .i64 (-2097152), .int .i64 2097152] rfl (by (try simp only [List.map_toArray, List.map_cons, List.map_nil]); first | done | rfl | (simp only [List.length_drop, List.length_take]; rfl)) ?_; (with_reducible refine (spec_l1All.calls kj5 _ _ t126 (-2097152) 2097152 false _ ?side1 ?side2 A25.out).mono ?_); (case side1 => repeat (first | exact (Kd.R_reads' HO128.out).2.2 | (with_reducible refine Kd.C_alloc ?_ _) | (with_reducible refine Kd.C_drewN ?_ _) | (with_reducible refine Kd.C_drew ?_))); (case side2 => exact (Kd.R_reads' HO128.out).2.1); rintro e w' ⟨rfl, ⟨nd, rfl⟩⟩; refine ⟨_, rfl, ?_⟩))
                          go_ret
                          exact ⟨by first | rfl | (simp [errW_none, errW_some] <;> rfl) | (simp only [← hji21]; first | rfl | (simp [errW_none, errW_some] <;> rfl)) | (simp [*, errW_none, errW_some] <;> rfl), by repeat (first | (with_reducible first | exact HB.out | apply below_alloc | apply pw_below_drewN | apply below_drew1 | refine below_set ?_ GE117.out) | exact HB.out)⟩
                      · rw [if_neg c23] at H
                        exact absurd H (by simp)
                    · rw [if_neg c22] at H
                      exact absurd H (by simp)
            · rw [if_neg c5] at H
              exact absurd H (by simp)
          · rw [if_neg c4] at H
            exact absurd H (by simp)
        · rw [if_neg c3] at H
          have c3b0 : decide (x10_1 < (l0.length : Int)) = false := decide_eq_false c3
          clear c3
          obtain rfl := Option.some.inj H
          go_wp2
          go_ret
          exact ⟨by first | rfl | (simp [errW_none, errW_some] <;> rfl) | (simp [*, errW_none, errW_some] <;> rfl), by repeat (first | (with_reducible first | exact HB.out | apply below_alloc | apply pw_below_drewN | apply below_drew1) | exact HB.out)⟩

/-! ### spec_IsAdders: function 43 -/
def spec_IsAdders.f (k : Nat) (l0 : List (S23)) : Option (Bool) := (spec_siAdders.f k l0).bind fun t130 => (some t130)
theorem spec_IsAdders.mono : ∀ a0 k, LeO (spec_IsAdders.f k a0) (spec_IsAdders.f (k + 1) a0) := by
  intro a0 k
  unfold spec_IsAdders.f
  repeat' first
      | (with_reducible exact spec_siAdders.mono _ _)
      | (with_reducible exact LeO.refl _)
      | (with_reducible exact LeO.none _)
      | (with_reducible refine LeO.ite ?_ ?_)
      | (with_reducible refine LeO.bind ?_ (fun _ => ?_))
      | exact spec_siAdders.mono _ _
      | exact LeO.none _
      | refine LeO.ite ?_ ?_
      | refine LeO.bind ?_ (fun _ => ?_)
set_option maxHeartbeats 8000000 in
set_option maxRecDepth 100000 in
theorem spec_IsAdders.calls (k : Nat) (A0 : Option Addr) (c0 : Nat) (l0 : List (S23)) (r : Bool) (w : World) (hr0 : Kd.C k23 w A0 l0.length l0) (hc0 : l0.length ≤ c0) (h : spec_IsAdders.f k l0 = some r) :
    Calls Try.prog 43 #[.slice A0 l0.length c0] w fun e w' => e = .returned (.bool r) ∧ Below w.heap.size w w' := by
  have HR0 := Aside0.mk hr0
  have HC0 := Aside0.mk hc0
  clear hr0 hc0
  have HB := Aside0.mk (Below.refl w.heap.size w)
  have H : ((spec_siAdders.f k l0).bind fun t130 => (some t130)) = some r := h
  clear h
  replace H := Option.bind_eq_some_iff.mp H
  obtain ⟨t130, A20, H⟩ := H
  replace H : (some t130) = some r := H
  have A2 := Aside0.mk A20
  clear A20
  obtain rfl := Option.some.inj H
  go_enter Try.func43, Try.ntmps43
  go_wp2_with (first | ((with_reducible refine gate_callee (f := 76) rfl ?_); refine goesL_ (some 4) rfl rfl Try.func76 (by kernel_rfl) rfl #[.slice A0 l0.length c0] rfl (by (try simp only [List.map_toArray, List.map_cons, List.map_nil]); first | done | rfl | (simp only [List.length_drop, List.length_take]; rfl)) ?_; (with_reducible refine (spec_siAdders.calls k _ _ l0 t130 _ ?side1 ?side2 A2.out).mono ?_); (case side1 => repeat (first | exact HR0.out | (with_reducible refine Kd.C_alloc ?_ _) | (with_reducible refine Kd.C_drewN ?_ _) | (with_reducible refine Kd.C_drew ?_))); (case side2 => exact HC0.out); rintro e w3 ⟨rfl, hb⟩; refine ⟨_, rfl, ?_⟩; have n0_ := Aside0.mk (below_step (by repeat (first | (with_reducible first | exact HB.out | apply below_alloc | apply pw_below_drewN | apply below_drew1) | exact HB.out)) hb); clear HB; have HB := n0_; clear n0_; (try clear hb); (try clear hb2); (try clear hk); (try clear hi)))
  go_ret
  exact ⟨by first | rfl | (simp [errW_none, errW_some] <;> rfl) | (simp [*, errW_none, errW_some] <;> rfl), by repeat (first | (with_reducible first | exact HB.out | apply below_alloc | apply pw_below_drewN | apply below_drew1) | exact HB.out)⟩

end Go.Proofs.Ytemakeekfgaaeaa.PFnExactIsAdders
