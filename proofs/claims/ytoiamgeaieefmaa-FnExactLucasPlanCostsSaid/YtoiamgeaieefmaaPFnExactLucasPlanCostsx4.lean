-- Written by gprint.py, a program of this session, out of the translation (a changed print).
import Derived.Test.YtoiamgeaieefmaaPFnExactLucasPlanCostsx0
import Derived.Test.YtoiamgeaieefmaaPFnExactLucasPlanCostsx3
namespace Go.Proofs.Ytoiamgeaieefmaa.PFnExactLucasPlanCosts
open Go.RowKit Go.Proofs.YtoiamgeaieefmaaW.PrintWords Go.Proofs.YtoiamgeaieefmaaW.PrintLast Go.Proofs.YtoiamgeaieefmaaW.PrintMore
attribute [local go_sem] max2_int min2_int max_two min_two max_three min_three max_four min_four   -- for this text's walks alone
set_option linter.unusedVariables false
set_option linter.unusedSimpArgs false

/-! ### impl_IsPlan: function 45 -/
def IpS (w0 W : World) (g : Nat) (f0 : Int) (f1 : List (S79)) (f2 : List Int) : Prop := ∃ A1 c1, ∃ A2 c2, W.heap[g]? = some (.cells #[.int .i64 f0, .slice A1 f1.length c1, .slice A2 f2.length c2] 28 (0, 0)) ∧ w0.heap.size ≤ g ∧ Kd.C k79 w0 A1 f1.length f1 ∧ Kd.C (Kd.int .i64) w0 A2 f2.length f2
def stepB (inp : Int) (i : Nat) (s : S79) : Bool := decide (0 ≤ s.f0) && (decide (s.f0 ≤ s.f1) && decide (s.f1 < inp + i))
def stepsB (inp : Int) : List S79 → Nat → Bool
  | [], _ => true
  | s :: r, i => stepB inp i s && stepsB inp r (i + 1)
theorem stepsB_cons (inp : Int) (s : S79) (r : List S79) (i : Nat) : stepsB inp (s :: r) i = (stepB inp i s && stepsB inp r (i + 1)) := rfl
theorem stepsB_nil (inp : Int) (i : Nat) : stepsB inp [] i = true := rfl
def outsB (inp : Int) (n : Nat) (outs : List Int) : Bool := !(outs.any fun v => !(decide (0 ≤ v) && decide (v ≤ inp + n - 1)))
def formedB (inp : Int) (steps : List S79) (outs : List Int) : Bool := decide (1 ≤ inp ∧ inp ≤ 6) && (decide (steps.length ≤ 40) && (decide (outs.length ≤ 6) && (stepsB inp steps 0 && outsB inp steps.length outs)))
theorem ip_in (x a b : Int) : impl_in.f x a b = some (decide (a ≤ x) && decide (x ≤ b)) := by
  unfold impl_in.f
  by_cases h : a ≤ x
  · rw [if_pos h]; simp [h]
  · rw [if_neg h]; simp [h]
section
set_option maxRecDepth 100000
theorem ip_many (g : Nat) (inp : Int) (A1 A2 : Option Addr) (n1 c1 n2 c2 : Nat) (W : World) (hg : W.heap[g]? = some (.cells #[.int .i64 inp, .slice A1 n1 c1, .slice A2 n2 c2] 28 (0, 0))) :
    Calls Try.prog 65 #[.pointer (some ⟨g, 0, none⟩)] W fun e w' => e = .returned (.int .i64 (wrap64 (inp + (n1 : Int)))) ∧ ∃ q, w' = W.drewN q := by
  have h0 : W.cell? ⟨g, 0, none⟩ = some (.int .i64 inp) := (blk_cell hg 0).trans rfl
  have h1 : W.cell? ⟨g, 1, none⟩ = some (.slice A1 n1 c1) := (blk_cell hg 1).trans rfl
  clear hg
  go_enter Try.func65, Try.ntmps65
  go_wp2
  refine wp_region_still_lit (by kernel_rfl) (by kernel_rfl) ?_
  change wpStill _ _ (World.drew _) _ _ _
  repeat still_step
  refine wpStill_nil ?_
  go_wp2
  go_ret
  exact ⟨by rw [IntWalk.i64_left]; rfl, 1, rfl⟩
theorem ip_clos (B g : Nat) (inp : Int) (A1 A2 : Option Addr) (n1 c1 n2 c2 : Nat) (x : Int) (W : World) (hi : 1 ≤ inp ∧ inp ≤ 6) (hn : n1 ≤ 40) (hB : W.heap[B]? = some (.cells #[.pointer (some ⟨g, 0, none⟩)] 84 (0, 0))) (hg : W.heap[g]? = some (.cells #[.int .i64 inp, .slice A1 n1 c1, .slice A2 n2 c2] 28 (0, 0))) :
    Calls Try.prog 90 #[.int .i64 x, .pointer (some ⟨B, 0, none⟩)] W fun e w' => e = .returned (.bool (!(decide (0 ≤ x) && decide (x ≤ inp + n1 - 1)))) ∧ ∃ q, w' = W.drewN q := by
  have h0 : W.cell? ⟨B, 0, none⟩ = some (.pointer (some ⟨g, 0, none⟩)) := (blk_cell hB 0).trans rfl
  have hw1 : wrap64 (inp + (n1 : Int)) = inp + n1 := IntWalk.wrap64_in _ (by omega)
  have hw2 : IntKind.i64.wrap (inp + (n1 : Int) - 1) = inp + n1 - 1 := IntWalk.i64_in _ (by omega)
  have HM := Go.Lib.hid (ip_many g inp A1 A2 n1 c1 n2 c2 W hg)
  rw [hw1] at HM
  clear hB hg hw1
  go_enter Try.func90, Try.ntmps90
  go_wp2_with (first | (go_at_call 65; refine HM.out.mono ?_; rintro e w' ⟨rfl, ⟨q, rfl⟩⟩) | (go_at_call 27; refine (impl_in.calls _ _ _ _ _ (ip_in _ _ _)).mono ?_; rintro e w' ⟨rfl, hq_⟩; obtain ⟨q2, rfl⟩ := YtoiamgeaieefmaaHand.of_drawn hq_; clear hq_))
  go_ret
  exact ⟨by first | rfl | simp, _, rfl⟩
theorem ip_outs (B g : Nat) (inp : Int) (A1 A2 A3 : Option Addr) (n1 c1 n2 c2 c3 : Nat) (outs : List Int) (W : World) (hi : 1 ≤ inp ∧ inp ≤ 6) (hn : n1 ≤ 40) (hB : W.heap[B]? = some (.cells #[.pointer (some ⟨g, 0, none⟩)] 84 (0, 0))) (hg : W.heap[g]? = some (.cells #[.int .i64 inp, .slice A1 n1 c1, .slice A2 n2 c2] 28 (0, 0))) (hC : Kd.C (Kd.int .i64) W A3 outs.length outs) :
    Calls Try.prog 28 #[.slice A3 outs.length c3, .func (.func 90) #[] #[.pointer (some ⟨B, 0, none⟩)]] W fun e w' => e = .returned (.bool (outs.any fun v => !(decide (0 ≤ v) && decide (v ≤ inp + n1 - 1)))) ∧ ∃ q, w' = W.drewN q := by
  rcases YtoiamgeaieefmaaHand.int_slice hC with h0 | ⟨b, off, rfl, _, hcells⟩
  · subst h0
    exact (Try.slices_ContainsFunc_empty_f28 (α := Int) A3 c3 _ _).mono fun e w' ⟨he, hw⟩ => ⟨he, 0, hw⟩
  · have eg : ∀ args w, (callFunc 90 args).run Try.prog w = .ok (.enter 90 args) w := enters_of Try.func90 (by kernel_rfl) rfl
    have hp : Go.Proofs.PredAt Try.prog 90 #[.pointer (some ⟨B, 0, none⟩)] (Value.int .i64) (fun v => !(decide (0 ≤ v) && decide (v ≤ inp + n1 - 1))) W := fun W2 x hb => by
      show Calls Try.prog 90 #[.int .i64 x, .pointer (some ⟨B, 0, none⟩)] W2 _
      exact ip_clos B g inp A1 A2 n1 c1 n2 c2 x W2 hi hn (blk_below hB hb) (blk_below hg hb)
    have := Try.slices_ContainsFunc_f28 (Value.int .i64) _ 90 _ eg b off outs.length c3 outs _ hp (Nat.le_refl _) (YtoiamgeaieefmaaHand.int_len hC) (fun j hj => by rw [hcells j hj, YtoiamgeaieefmaaHand.getD_bang])
    rw [List.take_length] at this
    exact this
theorem ip_far (g : Nat) (inp : Int) (A1 A2 : Option Addr) (n1 c1 n2 c2 : Nat) (w : World) (hl1 : n1 ≤ 9223372036854775807) (hl2 : n2 ≤ 9223372036854775807) (hg : w.heap[g]? = some (.cells #[.int .i64 inp, .slice A1 n1 c1, .slice A2 n2 c2] 28 (0, 0))) (h : ¬ ((1 ≤ inp ∧ inp ≤ 6) ∧ n1 ≤ 40 ∧ n2 ≤ 6)) :
    Calls Try.prog 69 #[.pointer (some ⟨g, 0, none⟩)] w fun e w' => e = .returned (.bool false) ∧ Below w.heap.size w w' := by
  have hg2 := blk_alloc hg (.cells #[.pointer (some ⟨g, 0, none⟩)] 84)
  have hb := blk_new w (.cells #[.pointer (some ⟨g, 0, none⟩)] 84)
  have hBl : Below w.heap.size w (w.alloc (.cells #[.pointer (some ⟨g, 0, none⟩)] 84)) := below_alloc (Below.refl _ _) _
  have b0 : (w.alloc (.cells #[.pointer (some ⟨g, 0, none⟩)] 84)).cell? ⟨w.heap.size, 0, none⟩ = some (.pointer (some ⟨g, 0, none⟩)) := (blk_cell hb 0).trans rfl
  have g0 : (w.alloc (.cells #[.pointer (some ⟨g, 0, none⟩)] 84)).cell? ⟨g, 0, none⟩ = some (.int .i64 inp) := (blk_cell hg2 0).trans rfl
  have g1 : (w.alloc (.cells #[.pointer (some ⟨g, 0, none⟩)] 84)).cell? ⟨g, 1, none⟩ = some (.slice A1 n1 c1) := (blk_cell hg2 1).trans rfl
  have g2 : (w.alloc (.cells #[.pointer (some ⟨g, 0, none⟩)] 84)).cell? ⟨g, 2, none⟩ = some (.slice A2 n2 c2) := (blk_cell hg2 2).trans rfl
  have HB := Go.Lib.hid hBl
  clear hg hg2 hb hBl
  by_cases h1 : 1 ≤ inp ∧ inp ≤ 6
  · have hin := ip_in inp 1 6
    rw [show (decide ((1 : Int) ≤ inp) && decide (inp ≤ 6)) = true by simp [h1.1, h1.2]] at hin
    have HIN := Go.Lib.hid hin
    by_cases h2 : n1 ≤ 40
    · have h3 : ¬ n2 ≤ 6 := fun h3 => h ⟨h1, h2, h3⟩
      have d1 : decide ((40 : Int) < (n1 : Int)) = false := decide_eq_false (by omega)
      have d2 : decide ((6 : Int) < (n2 : Int)) = true := decide_eq_true (by omega)
      have e1 : decide (40 < n1) = false := decide_eq_false (by omega)
      have e2 : decide (6 < n2) = true := decide_eq_true (by omega)
      clear h h1 h2 h3 hin
      go_enter Try.func69, Try.ntmps69
      go_wp2_with (go_at_call 27; refine (impl_in.calls _ _ _ _ _ HIN.out).mono ?_; rintro e w' ⟨rfl, ⟨⟨q, rfl⟩⟩⟩)
      go_ret
      exact ⟨rfl, pw_below_drewN HB.out _⟩
    · have d1 : decide ((40 : Int) < (n1 : Int)) = true := decide_eq_true (by omega)
      have e1 : decide (40 < n1) = true := decide_eq_true (by omega)
      clear h h1 h2 hin
      go_enter Try.func69, Try.ntmps69
      go_wp2_with (go_at_call 27; refine (impl_in.calls _ _ _ _ _ HIN.out).mono ?_; rintro e w' ⟨rfl, ⟨⟨q, rfl⟩⟩⟩)
      go_ret
      exact ⟨rfl, pw_below_drewN HB.out _⟩
  · have hin := ip_in inp 1 6
    rw [show (decide ((1 : Int) ≤ inp) && decide (inp ≤ 6)) = false by rw [Bool.eq_false_iff]; intro hc; rw [Bool.and_eq_true, decide_eq_true_iff, decide_eq_true_iff] at hc; exact h1 hc] at hin
    have HIN := Go.Lib.hid hin
    clear h h1 hin
    go_enter Try.func69, Try.ntmps69
    go_wp2_with (go_at_call 27; refine (impl_in.calls _ _ _ _ _ HIN.out).mono ?_; rintro e w' ⟨rfl, ⟨⟨q, rfl⟩⟩⟩)
    go_ret
    exact ⟨rfl, pw_below_drewN HB.out _⟩
theorem ip_wrap {j L : Nat} (hj : j < L) (hL : L ≤ 40) : Value.int .i64 (wrap64 ((j : Int) + 1)) = Value.int .i64 ((j + 1 : Nat) : Int) := by
  have : wrap64 ((j : Int) + 1) = (j : Int) + 1 := IntWalk.wrap64_in _ (by omega)
  rw [this]
  rfl
theorem ip_meas {j L : Nat} (hj : j < L) (hL : L ≤ 40) : L - (intOf (Value.int .i64 (wrap64 ((j : Int) + 1)))).toNat < L - (intOf (Value.int .i64 (j : Int))).toNat := by
  rw [ip_wrap hj hL]
  simp only [intOf]
  omega
def IpHold (p : Prop) : Prop := p
theorem ip_hold {p : Prop} (h : IpHold p) : p := h
set_option maxHeartbeats 8000000 in
theorem ip_near (w0 : World) (g : Nat) (inp : Int) (steps : List S79) (outs : List Int) (w : World) (hI : IpS w0 w g inp steps outs) (hB0 : Below w0.heap.size w0 w) (h1 : 1 ≤ inp ∧ inp ≤ 6) (h2 : steps.length ≤ 40) (h3 : outs.length ≤ 6) :
    Calls Try.prog 69 #[.pointer (some ⟨g, 0, none⟩)] w fun e w' => e = .returned (.bool (stepsB inp steps 0 && outsB inp steps.length outs)) ∧ Below w.heap.size w w' := by
  obtain ⟨A1, c1, A2, c2, hg, hge, hC1, hC2⟩ := hI
  have hg2 := blk_alloc hg (.cells #[.pointer (some ⟨g, 0, none⟩)] 84)
  have hb := blk_new w (.cells #[.pointer (some ⟨g, 0, none⟩)] 84)
  have hBl : Below w.heap.size w (w.alloc (.cells #[.pointer (some ⟨g, 0, none⟩)] 84)) := below_alloc (Below.refl _ _) _
  have b0 : (w.alloc (.cells #[.pointer (some ⟨g, 0, none⟩)] 84)).cell? ⟨w.heap.size, 0, none⟩ = some (.pointer (some ⟨g, 0, none⟩)) := (blk_cell hb 0).trans rfl
  have g0 : (w.alloc (.cells #[.pointer (some ⟨g, 0, none⟩)] 84)).cell? ⟨g, 0, none⟩ = some (.int .i64 inp) := (blk_cell hg2 0).trans rfl
  have g1 : (w.alloc (.cells #[.pointer (some ⟨g, 0, none⟩)] 84)).cell? ⟨g, 1, none⟩ = some (.slice A1 steps.length c1) := (blk_cell hg2 1).trans rfl
  have g2 : (w.alloc (.cells #[.pointer (some ⟨g, 0, none⟩)] 84)).cell? ⟨g, 2, none⟩ = some (.slice A2 outs.length c2) := (blk_cell hg2 2).trans rfl
  have HB := Go.Lib.hid hBl
  have HG := Go.Lib.hid hg2
  have HBX := Go.Lib.hid hb
  have HC1 := Go.Lib.hid hC1
  have HC2 := Go.Lib.hid hC2
  have HB0 := Go.Lib.hid hB0
  have hin := ip_in inp 1 6
  rw [show (decide ((1 : Int) ≤ inp) && decide (inp ≤ 6)) = true by simp [h1.1, h1.2]] at hin
  have HIN := Go.Lib.hid hin
  have d1 : decide ((40 : Int) < (steps.length : Int)) = false := decide_eq_false (by omega)
  have d2 : decide ((6 : Int) < (outs.length : Int)) = false := decide_eq_false (by omega)
  have e1 : decide (40 < steps.length) = false := decide_eq_false (by omega)
  have e2 : decide (6 < outs.length) = false := decide_eq_false (by omega)
  have H1 := Go.Lib.hid h1
  have H2 := Go.Lib.hid h2
  clear hg hg2 hb hBl hC1 hC2 hge hin h1 h2 h3 hB0
  go_enter Try.func69, Try.ntmps69
  go_wp2_with (go_at_call 27; refine (impl_in.calls _ _ _ _ _ HIN.out).mono ?_; rintro e w' ⟨rfl, ⟨⟨q, rfl⟩⟩⟩)
  go_loopw [32] (fun s wr => ∃ i : Nat, s = .int .i64 (i : Int) ∧ i ≤ steps.length ∧ Aside0 (stepsB inp steps 0 = stepsB inp (steps.drop i) i) ∧ Aside0 (wr.heap[w.heap.size]? = some (.cells #[.pointer (some ⟨g, 0, none⟩)] 84 (0, 0)) ∧ wr.heap[g]? = some (.cells #[.int .i64 inp, .slice A1 steps.length c1, .slice A2 outs.length c2] 28 (0, 0)) ∧ Below w.heap.size w wr))
    (fun s _ => steps.length - (intOf s).toNat)
  case atStart => exact ⟨0, rfl, Nat.zero_le _, ⟨rfl⟩, ⟨HBX.out, HG.out, pw_below_drewN HB.out _⟩⟩
  case round =>
    obtain ⟨i, rfl, hi, HS, HW⟩ := hrel
    have h1 := H1.out
    have h2 := H2.out
    by_cases hlt : i < steps.length
    · have hltz : (i : Int) < (steps.length : Int) := by omega
      obtain ⟨s, hs⟩ : ∃ s, steps[i] = s := ⟨_, rfl⟩
      have hst := HS.out
      rw [List.drop_eq_getElem_cons hlt, hs, stepsB_cons] at hst
      obtain ⟨ad, e, hx0, hx1⟩ := at_T79 (Kd.C_below HC1.out (below_step HB0.out HW.out.2.2)) (i : Int) (by omega) hltz
      have hrd : rd_T79 steps (i : Int) = s := by
        unfold rd_T79
        rw [Int.toNat_natCast, List.getD_eq_getElem?_getD, List.getElem?_eq_getElem hlt]; exact hs
      rw [hrd, Int.toNat_natCast] at hx0 hx1
      subst e
      obtain ⟨a, b⟩ := s
      dsimp only at hx0 hx1
      have HST := Go.Lib.hid hst
      have HI := Go.Lib.hid hlt
      clear hst hrd hs HS
      have hbs := blk_alloc HW.out.1 (.cells #[.int .i64 a, .int .i64 b] 79)
      have hgs := blk_alloc HW.out.2.1 (.cells #[.int .i64 a, .int .i64 b] 79)
      have hos := blk_new wr (.cells #[.int .i64 a, .int .i64 b] 79)
      have hbl : Below w.heap.size w (wr.alloc (.cells #[.int .i64 a, .int .i64 b] 79)) := below_alloc HW.out.2.2 _
      have hwi : IntKind.i64.wrap (inp + (i : Int)) = inp + (i : Int) := IntWalk.i64_in _ (by omega)
      go_wp2
      obtain ⟨w5, hw5⟩ : ∃ w5, wr.alloc (.cells #[.int .i64 a, .int .i64 b] 79) = w5 := ⟨_, rfl⟩
      rw [hw5] at hbs hgs hos hbl ⊢
      clear hw5 hx0 hx1 b0 g0 g1 g2
      obtain ⟨q5, hq5⟩ : ∃ q5, wr.heap.size = q5 := ⟨_, rfl⟩
      rw [hq5] at hos ⊢
      clear hq5
      have k0 : w5.cell? ⟨q5, 0, none⟩ = some (.int .i64 a) := (blk_cell hos 0).trans rfl
      have k1 : w5.cell? ⟨q5, 1, none⟩ = some (.int .i64 b) := (blk_cell hos 1).trans rfl
      have k2 : w5.cell? ⟨w.heap.size, 0, none⟩ = some (.pointer (some ⟨g, 0, none⟩)) := (blk_cell hbs 0).trans rfl
      have k3 : w5.cell? ⟨g, 0, none⟩ = some (.int .i64 inp) := (blk_cell hgs 0).trans rfl
      have HW5 := Go.Lib.hid (show w5.heap[w.heap.size]? = some (.cells #[.pointer (some ⟨g, 0, none⟩)] 84 (0, 0)) ∧ w5.heap[g]? = some (.cells #[.int .i64 inp, .slice (some ad) steps.length c1, .slice A2 outs.length c2] 28 (0, 0)) ∧ Below w.heap.size w w5 from ⟨hbs, hgs, hbl⟩)
      clear hbs hgs hos hbl hi h1 h2 hlt hltz d1 d2 e1 e2
      refine wp_region_still_lit (by kernel_rfl) (by kernel_rfl) ?_
      change wpStill _ _ (World.drew _) _ _ _
      by_cases ha : a < 0
      · have f1 : decide (a < 0) = true := decide_eq_true ha
        have HF := Go.Lib.hid (show stepB inp i ⟨a, b⟩ = false by unfold stepB; rw [show decide (0 ≤ (⟨a, b⟩ : S79).f0) = false from decide_eq_false (by show ¬ 0 ≤ a; omega)]; rfl)
        clear ha
        repeat ((with_reducible refine wpStill_step (fun K hK => ?_)); go_simp; (with_reducible refine hK _ ?_); clear hK K)
        with_reducible refine wpStill_nil ?_
        go_wp2
        go_ret
        exact ⟨by rw [HST.out, HF.out]; rfl, below_drew HW5.out.2.2⟩
      · have f1 : decide (a < 0) = false := decide_eq_false ha
        by_cases hab : b < a
        · have f2 : decide (b < a) = true := decide_eq_true hab
          have HF := Go.Lib.hid (show stepB inp i ⟨a, b⟩ = false by unfold stepB; rw [show decide ((⟨a, b⟩ : S79).f0 ≤ (⟨a, b⟩ : S79).f1) = false from decide_eq_false (by show ¬ a ≤ b; omega), Bool.false_and, Bool.and_false])
          clear ha hab
          repeat ((with_reducible refine wpStill_step (fun K hK => ?_)); go_simp; (with_reducible refine hK _ ?_); clear hK K)
          with_reducible refine wpStill_nil ?_
          go_wp2
          go_ret
          exact ⟨by rw [HST.out, HF.out]; rfl, below_drew HW5.out.2.2⟩
        · have f2 : decide (b < a) = false := decide_eq_false hab
          by_cases hbi : inp + (i : Int) ≤ b
          · have f3 : decide (inp + (i : Int) ≤ b) = true := decide_eq_true hbi
            have HF := Go.Lib.hid (show stepB inp i ⟨a, b⟩ = false by unfold stepB; rw [show decide ((⟨a, b⟩ : S79).f1 < inp + (i : Int)) = false from decide_eq_false (by show ¬ b < inp + i; omega), Bool.and_false, Bool.and_false])
            clear ha hab hbi
            repeat ((with_reducible refine wpStill_step (fun K hK => ?_)); go_simp; (with_reducible refine hK _ ?_); clear hK K)
            with_reducible refine wpStill_nil ?_
            go_wp2
            go_ret
            exact ⟨by rw [HST.out, HF.out]; rfl, below_drew HW5.out.2.2⟩
          · have f3 : decide (inp + (i : Int) ≤ b) = false := decide_eq_false hbi
            have HF := Go.Lib.hid (show stepB inp i ⟨a, b⟩ = true by unfold stepB; rw [show decide (0 ≤ (⟨a, b⟩ : S79).f0) = true from decide_eq_true (by show 0 ≤ a; omega), show decide ((⟨a, b⟩ : S79).f0 ≤ (⟨a, b⟩ : S79).f1) = true from decide_eq_true (by show a ≤ b; omega), show decide ((⟨a, b⟩ : S79).f1 < inp + (i : Int)) = true from decide_eq_true (by show b < inp + i; omega)]; rfl)
            clear ha hab hbi
            repeat ((with_reducible refine wpStill_step (fun K hK => ?_)); go_simp; (with_reducible refine hK _ ?_); clear hK K)
            with_reducible refine wpStill_nil ?_
            go_wp2
            go_roundw
            case rel => exact ⟨i + 1, ip_wrap HI.out H2.out, HI.out, ⟨by rw [HST.out, HF.out]; rfl⟩, ⟨blk_drew HW5.out.1, blk_drew HW5.out.2.1, below_drew HW5.out.2.2⟩⟩
            case measure => exact ip_meas HI.out H2.out
    · obtain rfl : i = steps.length := by omega
      have hst := HS.out
      rw [List.drop_length, stepsB_nil] at hst
      have HST := Go.Lib.hid hst
      have k2 : wr.cell? ⟨w.heap.size, 0, none⟩ = some (.pointer (some ⟨g, 0, none⟩)) := (blk_cell HW.out.1 0).trans rfl
      have k3 : wr.cell? ⟨g, 2, none⟩ = some (.slice A2 outs.length c2) := (blk_cell HW.out.2.1 2).trans rfl
      have ho_ := ip_outs w.heap.size g inp A1 A2 A2 steps.length c1 outs.length c2 c2 outs wr h1 h2 HW.out.1 HW.out.2.1 (Kd.C_below HC2.out (below_step HB0.out HW.out.2.2))
      obtain ⟨bv, hbv⟩ : ∃ bv, (outs.any fun v => !(decide (0 ≤ v) && decide (v ≤ inp + (steps.length : Int) - 1))) = bv := ⟨_, rfl⟩
      rw [hbv] at ho_
      have HO := Go.Lib.hid ho_
      have HBV := Go.Lib.hid (show outsB inp steps.length outs = !bv by unfold outsB; rw [hbv])
      clear ho_ hbv
      clear hst HS b0 g0 g1 g2 hlt
      go_wp2_with (go_at_call 28; refine HO.out.mono ?_; rintro e w' ⟨rfl, ⟨q2, rfl⟩⟩)
      go_ret
      exact ⟨by rw [HST.out, HBV.out]; rfl, pw_below_drewN HW.out.2.2 _⟩
theorem formed_in (w0 : World) (g : Nat) (inp : Int) (steps : List S79) (outs : List Int) (w : World) (hI : IpS w0 w g inp steps outs) (hB0 : Below w0.heap.size w0 w) :
    Calls Try.prog 69 #[.pointer (some ⟨g, 0, none⟩)] w fun e w' => e = .returned (.bool (formedB inp steps outs)) ∧ Below w.heap.size w w' := by
  by_cases h : (1 ≤ inp ∧ inp ≤ 6) ∧ steps.length ≤ 40 ∧ outs.length ≤ 6
  · have e : formedB inp steps outs = (stepsB inp steps 0 && outsB inp steps.length outs) := by
      unfold formedB
      rw [decide_eq_true h.1, decide_eq_true h.2.1, decide_eq_true h.2.2]
      rfl
    rw [e]
    exact ip_near w0 g inp steps outs w hI hB0 h.1 h.2.1 h.2.2
  · have e : formedB inp steps outs = false := by
      unfold formedB
      rw [Bool.eq_false_iff]
      intro hc
      rw [Bool.and_eq_true, Bool.and_eq_true, Bool.and_eq_true] at hc
      exact h ⟨of_decide_eq_true hc.1, of_decide_eq_true hc.2.1, of_decide_eq_true hc.2.2.1⟩
    rw [e]
    obtain ⟨A1, c1, A2, c2, hg, _, hC1, hC2⟩ := hI
    exact ip_far g inp A1 A2 _ c1 _ c2 w hC1.2.1 hC2.2.1 hg h
/-! The exponents of all values, walked. -/
abbrev exD : Kd (List Int) := Kd.slice 3 (Kd.int .i64)
def exRows (base : Nat) (v : Value) (P : List (List Int)) (W : World) : Prop := Kd.N exD 24 W base (fun k => base ≤ k) v P
def exUnit (n i : Nat) : List Int := (List.replicate n 0).set i 1
def exBase (n i : Nat) : List (List Int) := (List.range i).map (exUnit n)
def exRow (a b : List Int) : List Int := List.zipWith (fun x y => min (x + y) 1000001) a b
def exLoop : List S79 → List (List Int) → List (List Int)
  | [], P => P
  | s :: r, P => exLoop r (P ++ [exRow (P.getD s.f0.toNat []) (P.getD s.f1.toNat [])])
def exAll (inp : Int) (steps : List S79) : List (List Int) := exLoop steps (exBase inp.toNat inp.toNat)
def exGood (n : Nat) (P : List (List Int)) : Prop := ∀ p ∈ P, p.length = n ∧ ∀ x ∈ p, 0 ≤ x ∧ x ≤ 1000001
theorem exUnit_length (n i : Nat) : (exUnit n i).length = n := by simp [exUnit]
theorem exUnit_good (n i : Nat) : (exUnit n i).length = n ∧ ∀ x ∈ exUnit n i, 0 ≤ x ∧ x ≤ 1000001 := by
  refine ⟨exUnit_length n i, fun x hx => ?_⟩
  unfold exUnit at hx
  rcases List.mem_or_eq_of_mem_set hx with h | h
  · have := (List.mem_replicate.1 h).2
    omega
  · omega
theorem exBase_good (n i : Nat) : exGood n (exBase n i) := by
  intro p hp
  unfold exBase at hp
  obtain ⟨j, _, rfl⟩ := List.mem_map.1 hp
  exact exUnit_good n j
theorem exBase_succ (n i : Nat) : exBase n (i + 1) = exBase n i ++ [exUnit n i] := by simp [exBase, List.range_succ]
theorem exBase_length (n i : Nat) : (exBase n i).length = i := by simp [exBase]
theorem exRow_good {n : Nat} {a b : List Int} (ha : a.length = n ∧ ∀ x ∈ a, 0 ≤ x ∧ x ≤ 1000001) (hb : b.length = n ∧ ∀ x ∈ b, 0 ≤ x ∧ x ≤ 1000001) : (exRow a b).length = n ∧ ∀ x ∈ exRow a b, 0 ≤ x ∧ x ≤ 1000001 := by
  refine ⟨by unfold exRow; rw [List.length_zipWith, ha.1, hb.1]; exact Nat.min_self n, fun x hx => ?_⟩
  unfold exRow at hx
  obtain ⟨i, hi, rfl⟩ := List.mem_iff_getElem.1 hx
  rw [List.getElem_zipWith]
  have h1 := ha.2 _ (List.getElem_mem (n := i) (by rw [List.length_zipWith] at hi; omega))
  have h2 := hb.2 _ (List.getElem_mem (n := i) (by rw [List.length_zipWith] at hi; omega))
  omega
theorem exGood_app {n : Nat} {P : List (List Int)} (h : exGood n P) {r : List Int} (hr : r.length = n ∧ ∀ x ∈ r, 0 ≤ x ∧ x ≤ 1000001) : exGood n (P ++ [r]) := by
  intro p hp
  rcases List.mem_append.1 hp with hp | hp
  · exact h p hp
  · rw [List.mem_singleton] at hp; subst hp; exact hr
theorem exRows_get {base : Nat} {v : Value} {P : List (List Int)} {W : World} (h : exRows base v P W) (i : Int) (h0 : 0 ≤ i) (h1 : i < (P.length : Int)) :
    ∃ g cap A c, v = .slice (some ⟨g, 0, none⟩) P.length cap ∧ W.cell? ⟨g, i.toNat, none⟩ = some (.slice A (P.getD i.toNat []).length c) ∧ Kd.C (Kd.int .i64) W A (P.getD i.toNat []).length (P.getD i.toNat []) := by
  obtain ⟨g, cap, rfl, _⟩ := Kd.N_form h (by omega)
  obtain ⟨c, hcl, hf, hcc, _⟩ := Kd.N_elem h [] i h0 h1
  obtain ⟨A, cc, rfl, hl, hF⟩ := Kd.FK_slice_open hf
  refine ⟨g, cap, A, cc, rfl, ?_, Kd.F_now hF⟩
  have := hcc 0 _ rfl
  rw [show i.toNat * exD.sz + 0 = i.toNat from by show i.toNat * 1 + 0 = _; omega] at this
  exact this
theorem ex_info : (Try.prog.info? 24).map (fun i => (i.zero, i.size, i.bytes)) = some (some (.slice none 0 0), 1, 24) := by kernel_rfl
theorem ex_int : (Try.prog.info? 3).map (fun i => (i.zero, i.size, i.bytes)) = some (some (.int .i64 0), 1, 8) := by kernel_rfl
theorem ex_cells (n i : Nat) : (madeCells #[.int .i64 0] n).setIfInBounds i (.int .i64 1) = ((exUnit n i).map (Value.int .i64)).toArray := by
  have e : madeCells #[.int .i64 0] n = ((List.replicate n (0 : Int)).map (Value.int .i64)).toArray := by
    apply Array.ext
    · simp [madeCells]
    · intro j h1 h2
      simp [madeCells]
      rw [Nat.mod_one]
      rfl
  rw [e]
  refine Array.ext' ?_
  simp [exUnit, List.map_set]
theorem ex_made {n j : Nat} (h : j < n) : (madeCells #[.int .i64 0] n)[j]? = some (.int .i64 0) := by
  simp [madeCells, h]
  rw [Nat.mod_one]
  rfl
theorem ex_start (base : Nat) (W : World) (hb : base ≤ W.heap.size) : exRows base (.slice (some ⟨W.heap.size, 0, none⟩) 0 0) [] (W.alloc (.cells #[] 24)) := by
  have h := World.ownsRow_lit (base := base) (e := 24) (size := 1) W #[] 0 hb (by decide) rfl
  have h2 : (W.alloc (.cells #[] 24)).ownsRow base 24 1 (.slice (some ⟨W.heap.size, 0, none⟩) 0 0) 0 [] := by simpa using h
  exact Kd.R_N ⟨fun k hk => by simp [Value.ownBlock] at hk; omega, [], h2, Reps.none _ _⟩
theorem ex_unitR (W : World) (n i : Nat) (hn : n ≤ 1000) : Kd.R (Kd.int .i64) 3 (W.alloc (.cells ((madeCells #[.int .i64 0] n).setIfInBounds i (.int .i64 1)) 3)) W.heap.size (fun k => W.heap.size ≤ k) (.slice (some ⟨W.heap.size, 0, none⟩) n n) (exUnit n i) := by
  rw [ex_cells]
  have h := Go.Proofs.YtoiamgeaieefmaaW.PrintWords.own_lit W W.heap.size 3 .i64 (exUnit n i) (Nat.le_refl _) (by rw [exUnit_length]; omega)
  rw [exUnit_length] at h
  exact Kd.R_of_own (by rw [exUnit_length]; exact h) (fun k hk => by simp [Value.ownBlock] at hk; omega)
theorem ex_base {base : Nat} {v : Value} {P : List (List Int)} {wr w1 : World} (h : exRows base v P wr) (hb : wr.heap.size ≤ w1.heap.size) (hbase : base ≤ wr.heap.size) : ∀ k, w1.heap.size ≤ k → base ≤ k ∧ some k ≠ v.ownBlock := fun k hk => ⟨by omega, fun e => by have := Kd.N_lt h k e.symm; omega⟩
theorem ex_fk {W : World} {base : Nat} {okp : Nat → Prop} {A : Option Addr} {n c : Nat} {nx : List Int} (h : Kd.R (Kd.int .i64) 3 W base okp (.slice A n c) nx) : Kd.FK exD W okp nx [.slice A n c] := by
  obtain ⟨e, h4, _⟩ := Kd.R_reads' h
  have h3 := Kd.R_F h
  subst e
  exact Kd.FK_slice_mk h4 h3
set_option maxHeartbeats 4000000 in
theorem ex_in (w0 : World) (g : Nat) (inp : Int) (steps : List S79) (outs : List Int) (w : World) (hI : IpS w0 w g inp steps outs) (hB0 : Below w0.heap.size w0 w) (h1 : 1 ≤ inp ∧ inp ≤ 6) (h2 : steps.length ≤ 40) (hst : stepsB inp steps 0 = true) :
    Calls Try.prog 71 #[.pointer (some ⟨g, 0, none⟩)] w fun e w' => ∃ v, e = .returned v ∧ exRows w.heap.size v (exAll inp steps) w' ∧ Below w.heap.size w w' ∧ exGood inp.toNat (exAll inp steps) ∧ (exAll inp steps).length = inp.toNat + steps.length := by
  obtain ⟨i0, hi, hz0, hz1, hz2⟩ := info_parts ex_int
  obtain ⟨n, hn⟩ : ∃ n : Nat, inp = (n : Int) := ⟨inp.toNat, by omega⟩
  subst hn
  obtain ⟨A1, c1, A2, c2, hg, hge, hC1, hC2⟩ := hI
  have HG := Go.Lib.hid hg
  have HC1 := Go.Lib.hid hC1
  have HB0 := Go.Lib.hid hB0
  have HST := Go.Lib.hid hst
  have hg0 : (w.alloc (.cells #[] 24)).cell? ⟨g, 0, none⟩ = some (.int .i64 (n : Int)) := (blk_cell (blk_alloc hg _) 0).trans rfl
  have hn6 : n ≤ 6 := by omega
  clear hg hge hC1 hC2 hB0 hst
  go_enter Try.func71, Try.ntmps71
  go_wp2
  go_loopw [3, 16] (fun v s wr => ∃ i : Nat, s = .int .i64 (i : Int) ∧ i ≤ n ∧ Aside0 (exRows w.heap.size v (exBase n i) wr) ∧ Aside0 (Below w.heap.size w wr)) (fun _ s _ => n - (intOf s).toNat)
  case atStart => exact ⟨0, rfl, Nat.zero_le _, ⟨ex_start _ _ (Nat.le_refl _)⟩, ⟨below_alloc (Below.refl _ _) _⟩⟩
  case round =>
    obtain ⟨i, rfl, hi2, HO, HB⟩ := hrel
    clear hg0
    by_cases hlt : i < n
    · have hltz : (i : Int) < (n : Int) := by omega
      have hgr := blk_below HG.out HB.out
      have g0 : wr.cell? ⟨g, 0, none⟩ = some (.int .i64 (n : Int)) := (blk_cell hgr 0).trans rfl
      have hr_ : (wr.alloc (.cells (madeCells #[.int .i64 0] n) 3)).cell? ⟨wr.heap.size, i, none⟩ = some (.int .i64 0) := (blk_cell (blk_new wr _) i).trans (ex_made hlt)
      have hf_ := blk_frozen (blk_new wr (.cells (madeCells #[.int .i64 0] n) 3)) i
      have HI := Go.Lib.hid hlt
      clear hgr hlt hi2
      go_wp2_with (first | (refine wpList_make_row _ rfl (.tmp 22) (.tmp 22) 24 rfl 3 i0 (.int .i64 0) Try.underlying24 hi hz0 hz1 rfl .i64 .i64 n rfl rfl (by rw [hz2]; omega) (by omega) ?_) | ((with_reducible refine gate_dst (N := 29) rfl ?_); refine ip_hold ?_))
      unfold IpHold
      have hR_ := ex_unitR wr n i (by omega)
      have hb_ : Below wr.heap.size wr (wr.alloc (.cells ((madeCells #[.int .i64 0] n).setIfInBounds i (.int .i64 1)) 3)) := below_alloc (Below.refl _ _) _
      obtain ⟨w5, hw5⟩ : ∃ w5, wr.alloc (.cells ((madeCells #[.int .i64 0] n).setIfInBounds i (.int .i64 1)) 3) = w5 := ⟨_, rfl⟩
      rw [hw5] at hR_ hb_ ⊢
      clear hw5 hr_ hf_ g0
      have HR := Aside0.mk hR_
      have HL := Aside0.mk hb_
      have HS := Aside0.mk HB.out.size
      clear hR_ hb_
      obtain ⟨q5, hq5⟩ : ∃ q, wr.heap.size = q := ⟨_, rfl⟩
      have HQ := Aside0.mk hq5
      rw [hq5] at HR ⊢
      clear hq5
      go_wp2_with (at_builtin; refine Kd.N_append exD (w0 := w) w.heap.size rfl (.tmp 27) (.tmp 29) 32 24 (.slice none 0 0) 24 rfl Try.underlying32 ex_info rfl (by decide) (by decide) _ (exBase n i) (exUnit n i) [.slice (some ⟨q5, 0, none⟩) n n] (fun k_ => w.heap.size ≤ k_) (fun k_ => q5 ≤ k_) rfl rfl ?aP ?aK ?aF ?aO ?aB ?aS ?aL ?_; (case aP => exact ex_fk HR.out); (case aK => exact fun k hk => ex_base HO.out (Nat.le_refl _) HS.out k (by rw [HQ.out]; exact hk)); (case aF => exact fun k hk => Nat.le_trans (Nat.le_trans HS.out HL.out.size) hk); (case aO => exact Kd.N_below HO.out HL.out); (case aB => exact below_step HB.out HL.out); (case aS => exact Nat.le_trans HS.out HL.out.size); (case aL => rw [exBase_length]; omega); intro v1 w6 hN_ hb6_ _ _; have N1 := Aside0.mk hN_; have N2 := Aside0.mk hb6_; clear hN_ hb6_)
      go_roundw
      case rel => exact ⟨i + 1, by go_num, HI.out, ⟨by rw [exBase_succ]; exact N1.out⟩, ⟨N2.out⟩⟩
      case measure => have := HI.out; simp only [intOf]; first | (go_num; done) | (go_num; omega)
    · obtain rfl : n = i := by omega
      have hgr := blk_below HG.out HB.out
      have g1 : wr.cell? ⟨g, 1, none⟩ = some (.slice A1 steps.length c1) := (blk_cell hgr 1).trans rfl
      have HAL := Go.Lib.hid (show exAll (n : Int) steps = exLoop steps (exBase n n) by unfold exAll; rw [Int.toNat_natCast])
      clear hgr hlt hi2
      go_wp2
      go_loopw [3, 37] (fun v s w2 => ∃ (j : Nat) (P : List (List Int)), s = .int .i64 (j : Int) ∧ j ≤ steps.length ∧ Aside0 (P.length = n + j ∧ exGood n P ∧ stepsB (n : Int) (steps.drop j) j = true ∧ exLoop (steps.drop j) P = exAll (n : Int) steps) ∧ Aside0 (exRows w.heap.size v P w2) ∧ Aside0 (Below w.heap.size w w2)) (fun _ s _ => steps.length - (intOf s).toNat)
      case atStart => exact ⟨0, exBase n n, rfl, Nat.zero_le _, ⟨by rw [exBase_length]; rfl, exBase_good n n, HST.out, HAL.out.symm⟩, ⟨HO.out⟩, ⟨HB.out⟩⟩
      case round =>
        clear g1
        obtain ⟨j, P, rfl, hj, HP, HO2, HB2⟩ := hrel
        by_cases hlt : j < steps.length
        · have hltz : (j : Int) < (steps.length : Int) := by omega
          obtain ⟨s, hs⟩ : ∃ s, steps[j] = s := ⟨_, rfl⟩
          obtain ⟨hPl, hPg, hst, hal⟩ := HP.out
          rw [List.drop_eq_getElem_cons hlt, hs] at hst hal
          unfold stepsB at hst
          unfold exLoop at hal
          rw [Bool.and_eq_true] at hst
          have hsb := hst.1
          unfold stepB at hsb
          rw [Bool.and_eq_true, Bool.and_eq_true, decide_eq_true_iff, decide_eq_true_iff, decide_eq_true_iff] at hsb
          obtain ⟨ad, e, hx0, hx1⟩ := at_T79 (Kd.C_below HC1.out (below_step HB0.out HB2.out)) (j : Int) (by omega) hltz
          have hrd : rd_T79 steps (j : Int) = s := by
            unfold rd_T79
            rw [Int.toNat_natCast, List.getD_eq_getElem?_getD, List.getElem?_eq_getElem hlt]; exact hs
          rw [hrd, Int.toNat_natCast] at hx0 hx1
          subst e
          obtain ⟨a, b⟩ := s
          dsimp only at hx0 hx1 hsb hal
          obtain ⟨sa, sb, sc⟩ := hsb
          have ha2 : a < (P.length : Int) := by omega
          have hb0 : 0 ≤ b := by omega
          have hb2 : b < (P.length : Int) := by omega
          obtain ⟨gO, capO, Aa, ca, ev, hca, hCa⟩ := exRows_get HO2.out a sa ha2
          obtain ⟨gO', capO', Ab, cb, ev', hcb, hCb⟩ := exRows_get HO2.out b hb0 hb2
          subst ev
          cases ev'
          have hmem : ∀ y : Int, 0 ≤ y → y < (P.length : Int) → (P.getD y.toNat []).length = n ∧ ∀ x ∈ P.getD y.toNat [], 0 ≤ x ∧ x ≤ 1000001 := fun y h0 h1' => by
            rw [List.getD_eq_getElem?_getD, List.getElem?_eq_getElem (by omega)]
            exact hPg _ (List.getElem_mem _)
          obtain ⟨Ra, hRa⟩ : ∃ Ra, P.getD a.toNat [] = Ra := ⟨_, rfl⟩
          obtain ⟨Rb, hRb⟩ : ∃ Rb, P.getD b.toNat [] = Rb := ⟨_, rfl⟩
          have hga := hmem a sa ha2
          have hgb := hmem b hb0 hb2
          rw [hRa] at hca hCa hga
          rw [hRb] at hcb hCb hgb
          rw [hRa, hRb] at hal
          rw [hga.1] at hca hCa
          rw [hgb.1] at hcb hCb
          have HGA := Go.Lib.hid hga
          have HGB := Go.Lib.hid hgb
          have HAL2 := Go.Lib.hid hal
          have HST2 := Go.Lib.hid hst.2
          have HPL := Go.Lib.hid hPl
          have HPG := Go.Lib.hid hPg
          have HI := Go.Lib.hid hlt
          have HCA := Go.Lib.hid hCa
          have HCB := Go.Lib.hid hCb
          have HC0 := Go.Lib.hid hca
          have HC02 := Go.Lib.hid hcb
          clear hmem hga hgb hal hst hPl hPg hlt hrd hs hRa hRb hCa hCb hj HP sc
          go_wp2_with ((with_reducible refine gate_dst (N := 44) rfl ?_); refine ip_hold ?_)
          unfold IpHold
          have hS : w.heap.size ≤ wr.heap.size := HB2.out.size
          have hbl : Below wr.heap.size wr ((wr.alloc (.cells #[.int .i64 a, .int .i64 b] 79)).alloc (.cells #[] 3)) := below_alloc (below_alloc (Below.refl _ _) _) _
          have hbox := blk_alloc (blk_new wr (.cells #[.int .i64 a, .int .i64 b] 79)) (.cells #[] 3)
          have hrow : Kd.R (Kd.int .i64) 3 ((wr.alloc (.cells #[.int .i64 a, .int .i64 b] 79)).alloc (.cells #[] 3)) wr.heap.size (fun _ => True) (.slice (some ⟨wr.heap.size + 1, 0, none⟩) 0 0) [] := by
            have h := World.ownsRow_lit (base := wr.heap.size) (e := 3) (size := 1) (wr.alloc (.cells #[.int .i64 a, .int .i64 b] 79)) #[] 0 (by simp) (by decide) rfl
            rw [World.size_alloc] at h
            have h2 : ((wr.alloc (.cells #[.int .i64 a, .int .i64 b] 79)).alloc (.cells #[] 3)).ownsRow wr.heap.size 3 1 (.slice (some ⟨wr.heap.size + 1, 0, none⟩) 0 0) 0 [] := by simpa using h
            exact Kd.R_of_own h2 (fun _ _ => trivial)
          obtain ⟨w6, hw6⟩ : ∃ w6, (wr.alloc (.cells #[.int .i64 a, .int .i64 b] 79)).alloc (.cells #[] 3) = w6 := ⟨_, rfl⟩
          rw [hw6] at hbl hbox hrow ⊢
          clear hw6 hx0 hx1
          have hgl : gO < wr.heap.size := World.block_lt_of_cell? _ _ HC0.out
          have k0 : w6.cell? ⟨wr.heap.size, 0, none⟩ = some (.int .i64 a) := (blk_cell hbox 0).trans rfl
          have k1 : w6.cell? ⟨gO, a.toNat, none⟩ = some (.slice Aa n ca) := (hbl.cell (p := ⟨gO, a.toNat, none⟩) hgl).trans HC0.out
          have HBL := Aside0.mk hbl
          have HBOX := Aside0.mk hbox
          have HROW := Aside0.mk hrow
          clear hbl hbox hrow
          go_wp2
          obtain ⟨wq, hwq⟩ : ∃ wq, wq = wr := ⟨_, rfl⟩
          subst hwq
          go_loopw [8, 48] (fun v s w3 => ∃ m : Nat, s = .int .i64 (m : Int) ∧ m ≤ n ∧ Aside0 (w3.heap[wq.heap.size]? = some (.cells #[.int .i64 a, .int .i64 b] 79 (0, 0))) ∧ Aside0 (Kd.R (Kd.int .i64) 3 w3 wq.heap.size (fun _ => True) v ((exRow Ra Rb).take m)) ∧ Aside0 (Below wq.heap.size wq w3)) (fun _ s _ => n - (intOf s).toNat)
          case atStart => exact ⟨0, rfl, Nat.zero_le _, HBOX, ⟨by rw [List.take_zero]; exact HROW.out⟩, HBL⟩
          case round =>
            clear HBOX HROW HBL k0 k1
            obtain ⟨m, rfl, hm, HBOX, HROW, HBL⟩ := hrel
            by_cases hlm : m < n
            · have hlmz : (m : Int) < (n : Int) := by omega
              obtain ⟨aA, eA, hxA⟩ := Kd.at_int (Kd.C_below HCA.out HBL.out) (m : Int) (by omega) hlmz
              obtain ⟨aB, eB, hxB⟩ := Kd.at_int (Kd.C_below HCB.out HBL.out) (m : Int) (by omega) hlmz
              subst eA
              subst eB
              rw [Int.toNat_natCast] at hxA hxB
              have k1 : wr.cell? ⟨wq.heap.size, 1, none⟩ = some (.int .i64 b) := (blk_cell HBOX.out 1).trans rfl
              have k2 : wr.cell? ⟨gO, b.toNat, none⟩ = some (.slice (some aB) n cb) := (HBL.out.cell (p := ⟨gO, b.toNat, none⟩) hgl).trans HC02.out
              have hla : m < Ra.length := by rw [HGA.out.1]; exact hlm
              have hlb : m < Rb.length := by rw [HGB.out.1]; exact hlm
              have hrA : rd Ra (m : Int) = Ra[m] := by unfold rd; rw [Int.toNat_natCast, List.getD_eq_getElem?_getD, List.getElem?_eq_getElem hla]; rfl
              have hrB : rd Rb (m : Int) = Rb[m] := by unfold rd; rw [Int.toNat_natCast, List.getD_eq_getElem?_getD, List.getElem?_eq_getElem hlb]; rfl
              rw [hrA] at hxA
              rw [hrB] at hxB
              have hta : (exRow Ra Rb).take (m + 1) = (exRow Ra Rb).take m ++ [min (Ra[m] + Rb[m]) 1000001] := by
                have hlx : m < (exRow Ra Rb).length := by unfold exRow; rw [List.length_zipWith]; omega
                have hgx : (exRow Ra Rb)[m] = min (Ra[m] + Rb[m]) 1000001 := by simp [exRow]
                rw [List.take_succ_eq_append_getElem hlx, hgx]
              have b1 := HGA.out.2 _ (List.getElem_mem hla)
              have b2 := HGB.out.2 _ (List.getElem_mem hlb)
              generalize Ra[m] = x at hxA hta b1
              generalize Rb[m] = y at hxB hta b2
              obtain ⟨z, hz⟩ : ∃ z, min (x + y) 1000001 = z := ⟨_, rfl⟩
              rw [hz] at hta
              have hwz : IntKind.i64.wrap (x + y) = x + y := IntWalk.i64_in _ (by omega)
              have HTA := Go.Lib.hid hta
              have HIM := Go.Lib.hid hlm
              have hl8 : (((exRow Ra Rb).take m).length + 1) * 8 ≤ 140737488355328 := by rw [List.length_take]; omega
              have hzz : (if 1000001 < x + y then 1000001 else x + y) = z := by rw [← hz]; split <;> omega
              have HSW := Aside0.mk hS
              clear hrA hrB hla hlb hta hlm hm hz hS
              go_wp2_with (at_builtin; refine Kd.R_append (Kd.int .i64) (w0 := wq) wq.heap.size rfl (.tmp 53) (.tmp 65) 24 3 (.int .i64 0) 8 rfl Try.underlying24 ex_int rfl (by decide) (by decide) _ ((exRow Ra Rb).take m) z [.int .i64 z] (fun _ => True) (fun _ => False) rfl rfl ?aP (fun _ hk => hk.elim) ?aF ?aO ?aB ?aS hl8 ?_; (case aP => exact rfl); (case aF => exact (fun _ _ => trivial)); (case aO => exact HROW.out); (case aB => exact HBL.out); (case aS => exact HBL.out.size); intro v1 w7 ho_ hb_ hg_ _; have N1 := Aside0.mk ho_; have N2 := Aside0.mk hb_; have N4 := Aside0.mk (blk_grown HBOX.out hg_ (Kd.R_ne HROW.out HBOX.out (by decide))); clear ho_ hb_ hg_)
              go_roundw
              case rel => exact ⟨m + 1, by go_num, HIM.out, N4, ⟨by rw [HTA.out]; exact N1.out⟩, N2⟩
              case measure => have := HIM.out; simp only [intOf]; first | (go_num; done) | (go_num; omega)
            · obtain rfl : m = n := by omega
              have hfull : (exRow Ra Rb).take m = exRow Ra Rb := by
                rw [List.take_of_length_le]
                have := (exRow_good HGA.out HGB.out).1
                omega
              rw [hfull] at HROW
              obtain ⟨A8, c8, e8⟩ := Kd.R_slice HROW.out
              subst e8
              have HR8 := Aside0.mk (Kd.R_mono (ok' := fun k => wq.heap.size ≤ k) (Kd.R_bound HROW.out) (fun k hk => hk.2.1))
              have HSW := Aside0.mk hS
              have hPlen : (P.length + 1) * 24 ≤ 140737488355328 := by have := HPL.out; omega
              clear hlm hm hfull hS
              go_wp2_with (at_builtin; refine Kd.N_append exD (w0 := w) w.heap.size rfl (.tmp 68) (.tmp 70) 32 24 (.slice none 0 0) 24 rfl Try.underlying32 ex_info rfl (by decide) (by decide) _ P (exRow Ra Rb) [.slice A8 (exRow Ra Rb).length c8] (fun k_ => w.heap.size ≤ k_) (fun k_ => wq.heap.size ≤ k_) rfl rfl ?aP ?aK ?aF ?aO ?aB ?aS hPlen ?_; (case aP => exact ex_fk HR8.out); (case aK => exact fun k hk => ex_base HO2.out (Nat.le_refl _) HSW.out k hk); (case aF => exact fun k hk => Nat.le_trans (Nat.le_trans HSW.out HBL.out.size) hk); (case aO => exact Kd.N_below HO2.out HBL.out); (case aB => exact below_step HB2.out HBL.out); (case aS => exact Nat.le_trans HSW.out HBL.out.size); intro v1 w7 hN_ hb6_ _ _; have N1 := Aside0.mk hN_; have N2 := Aside0.mk hb6_; clear hN_ hb6_)
              go_roundw
              case rel => exact ⟨j + 1, P ++ [exRow Ra Rb], by go_num, HI.out, ⟨by rw [List.length_append, List.length_singleton, HPL.out]; omega, exGood_app HPG.out (exRow_good HGA.out HGB.out), HST2.out, HAL2.out⟩, N1, N2⟩
              case measure => have := HI.out; simp only [intOf]; first | (go_num; done) | (go_num; omega)
        · obtain rfl : j = steps.length := by omega
          obtain ⟨hPl, hPg, _, hal⟩ := HP.out
          rw [List.drop_length] at hal
          unfold exLoop at hal
          subst hal
          have HPL := Go.Lib.hid hPl
          have HPG := Go.Lib.hid hPg
          clear hlt hj HP hPl hPg
          go_wp2
          go_ret
          exact ⟨_, rfl, HO2.out, HB2.out, by rw [Int.toNat_natCast]; exact HPG.out, by rw [Int.toNat_natCast]; exact HPL.out⟩
/-- A row of a list of rows: where it lies. -/
abbrev IpRow (w : World) := {r : (Option Addr × Nat) × List Int // Kd.C (Kd.int .i64) w r.1.1 r.2.length r.2 ∧ 0 < r.2.length}
def ipEnc {w : World} (r : IpRow w) : Value := .slice r.1.1.1 r.1.2.length r.1.1.2
theorem ip_max (w : World) (r : IpRow w) (W : World) (hW : Below w.heap.size w W) : Calls Try.prog 72 #[ipEnc r] W fun e w' => e = .returned (.bool (decide (1000000 < Go.Lib.maxOf r.1.2))) ∧ ∃ q, w' = W.drewN q := by
  obtain ⟨⟨⟨A, c⟩, l⟩, hC, hp⟩ := r
  unfold ipEnc
  dsimp only at hC hp ⊢
  have hC2 := Kd.C_below hC hW
  rcases YtoiamgeaieefmaaHand.int_slice hC2 with h0 | ⟨b, off, rfl, _, hcells⟩
  · rw [h0] at hp; simp at hp
  · have HM := Go.Lib.hid (Try.slices_Max_int b off l.length c l W hp (Nat.le_refl _) (YtoiamgeaieefmaaHand.int_len hC2) hcells)
    rw [List.take_length] at HM
    show Calls Try.prog 72 #[.slice (some ⟨b, off, none⟩) l.length c] W fun e w' => e = .returned (.bool (decide (1000000 < Go.Lib.maxOf l))) ∧ ∃ q, w' = W.drewN q
    clear hC2 hcells hp hW
    go_enter Try.func72, Try.ntmps72
    go_wp2_with (go_at_call 30; refine HM.out.mono ?_; rintro e w' ⟨rfl, rfl⟩)
    go_ret
    exact ⟨rfl, 0, rfl⟩
theorem ip_rows (w : World) (v : Value) (E : List (List Int)) (base : Nat) (hS : exRows base v E w) (h0 : 0 < E.length) (hp : ∀ r ∈ E, 0 < r.length) :
    Calls Try.prog 70 #[v, .func (.func 72) #[] #[]] w fun e w' => e = .returned (.bool (E.any fun r => decide (1000000 < Go.Lib.maxOf r))) ∧ ∃ q, w' = w.drewN q := by
  · obtain ⟨g, cap, rfl, _, _, _⟩ := Kd.N_form hS h0
    have hC := (Kd.N_reads' hS).2.2
    have hlen : E.length ≤ 9223372036854775807 := hC.2.1
    have hrow : ∀ i : Fin E.length, ∃ r : IpRow w, r.1.2 = E[i] ∧ w.cell? ⟨g, i.1, none⟩ = some (ipEnc r) := fun i => by
      obtain ⟨ad, cs, e, hcl, hK, hcc⟩ := Kd.C_get hC [] (i.1 : Int) (by omega) (by omega)
      injection e with e
      subst e
      rw [Int.toNat_natCast, List.getD_eq_getElem?_getD, List.getElem?_eq_getElem i.2] at hK
      obtain ⟨A, c, rfl, hl, hCr⟩ := hK
      have h1 := hcc 0 _ rfl
      rw [Int.toNat_natCast, YtoiamgeaieefmaaHand.add_plain] at h1
      refine ⟨⟨((A, c), E[i]), hCr, hp _ (List.getElem_mem i.2)⟩, rfl, ?_⟩
      rw [show (0 : Nat) + (i.1 * (Kd.slice 3 (Kd.int .i64)).sz + 0) = i.1 by show 0 + (i.1 * 1 + 0) = i.1; omega] at h1
      exact h1
    obtain ⟨f, hf⟩ := Classical.axiomOfChoice hrow
    haveI : Inhabited (IpRow w) := ⟨f ⟨0, h0⟩⟩
    have hzl : (List.ofFn f).length = E.length := List.length_ofFn
    have hz : (List.ofFn f).map (fun r => r.1.2) = E := by
      apply List.ext_getElem
      · rw [List.length_map, hzl]
      · intro i h1 h2
        rw [List.getElem_map, List.getElem_ofFn]
        exact (hf ⟨i, h2⟩).1
    have eg : ∀ args w, (callFunc 72 args).run Try.prog w = .ok (.enter 72 args) w := enters_of Try.func72 (by kernel_rfl) rfl
    have hpr : Go.Proofs.PredAt Try.prog 72 #[] (ipEnc (w := w)) (fun r => decide (1000000 < Go.Lib.maxOf r.1.2)) w := fun W r hW => ip_max w r W hW
    have := Try.slices_ContainsFunc_f70 (ipEnc (w := w)) _ 72 #[] eg g 0 E.length cap (List.ofFn f) w hpr (by rw [hzl]; exact Nat.le_refl _) hlen (fun j hj => by
      rw [hzl] at hj
      rw [Nat.zero_add, (hf ⟨j, hj⟩).2, List.getElem!_eq_getElem?_getD, List.getElem?_eq_getElem (by rw [hzl]; exact hj), List.getElem_ofFn]
      rfl)
    have ht : (List.ofFn f).take E.length = List.ofFn f := List.take_of_length_le (by rw [hzl]; exact Nat.le_refl _)
    rw [ht] at this
    refine this.mono fun e w' ⟨he, hw⟩ => ⟨?_, hw⟩
    rw [he]
    conv => rhs; rw [← hz]
    rw [List.any_map]
    rfl
end
theorem ipS_below {w0 W W1 : World} {g : Nat} {f0 : Int} {f1 : List (S79)} {f2 : List Int} (h : IpS w0 W g f0 f1 f2) (hb : Below W.heap.size W W1) : IpS w0 W1 g f0 f1 f2 := by
  obtain ⟨A1, c1, A2, c2, h1, h2, h3, h4⟩ := h
  exact ⟨A1, c1, A2, c2, blk_below h1 hb, h2, h3, h4⟩
def impl_IsPlan.f (a0_0 : Int) (l0_1 : List (S79)) (l0_2 : List Int) : Option Bool := some (formedB a0_0 l0_1 l0_2 && !((exAll a0_0 l0_1).any fun r => decide (1000000 < Go.Lib.maxOf r)))
theorem formedB_parts {inp : Int} {steps : List S79} {outs : List Int} (h : formedB inp steps outs = true) : (1 ≤ inp ∧ inp ≤ 6) ∧ steps.length ≤ 40 ∧ outs.length ≤ 6 ∧ stepsB inp steps 0 = true ∧ outsB inp steps.length outs = true := by
  unfold formedB at h
  rw [Bool.and_eq_true, Bool.and_eq_true, Bool.and_eq_true, Bool.and_eq_true] at h
  exact ⟨of_decide_eq_true h.1, of_decide_eq_true h.2.1, of_decide_eq_true h.2.2.1, h.2.2.2.1, h.2.2.2.2⟩
set_option maxRecDepth 100000 in
theorem impl_IsPlan.calls (a0_0 : Int) (A0_1 : Option Addr) (c0_1 : Nat) (l0_1 : List (S79)) (A0_2 : Option Addr) (c0_2 : Nat) (l0_2 : List Int) (r : Bool) (w : World) (hr0_1 : Kd.C k79 w A0_1 l0_1.length l0_1) (hc0_1 : l0_1.length ≤ c0_1) (hr0_2 : Kd.C (Kd.int .i64) w A0_2 l0_2.length l0_2) (hc0_2 : l0_2.length ≤ c0_2) (h : impl_IsPlan.f a0_0 l0_1 l0_2 = some r) :
    Calls Try.prog 45 #[.agg #[.int .i64 a0_0, .slice A0_1 l0_1.length c0_1, .slice A0_2 l0_2.length c0_2]] w fun e w' => e = .returned (.bool r) ∧ Below w.heap.size w w' := by
  have hbel : Below w.heap.size w (w.alloc (.cells #[.int .i64 a0_0, .slice A0_1 l0_1.length c0_1, .slice A0_2 l0_2.length c0_2] 28)) := below_alloc (Below.refl _ _) _
  have hnew : IpS w (w.alloc (.cells #[.int .i64 a0_0, .slice A0_1 l0_1.length c0_1, .slice A0_2 l0_2.length c0_2] 28)) w.heap.size a0_0 l0_1 l0_2 := ⟨A0_1, c0_1, A0_2, c0_2, blk_new w _, Nat.le_refl _, hr0_1, hr0_2⟩
  have hform := formed_in w w.heap.size a0_0 l0_1 l0_2 _ hnew hbel
  have HN := Go.Lib.hid hnew
  have HB := Go.Lib.hid hbel
  obtain rfl := Option.some.inj h
  clear hr0_1 hr0_2 hc0_1 hc0_2 hnew hbel h
  cases hf : formedB a0_0 l0_1 l0_2 with
  | false =>
    rw [hf] at hform
    have HF := Go.Lib.hid hform
    clear hf hform
    rw [Bool.false_and]
    go_enter Try.func45, Try.ntmps45
    go_wp2_with (go_at_call 69; refine HF.out.mono ?_; rintro e w2 ⟨rfl, hb_⟩; have HB2 := Go.Lib.hid (below_step HB.out hb_); clear hb_)
    go_ret
    exact ⟨rfl, HB2.out⟩
  | true =>
    rw [hf] at hform
    obtain ⟨p1, p2, _, p4, _⟩ := formedB_parts hf
    have HF := Go.Lib.hid hform
    have HE := Go.Lib.hid (fun (W : World) (hI : IpS w W w.heap.size a0_0 l0_1 l0_2) (hW : Below w.heap.size w W) => ex_in w w.heap.size a0_0 l0_1 l0_2 W hI hW p1 p2 p4)
    have HP1 := Go.Lib.hid p1
    generalize hbv : ((exAll a0_0 l0_1).any fun r => decide (1000000 < Go.Lib.maxOf r)) = bv
    have HBV := Go.Lib.hid hbv
    clear hf hform hbv p1 p2 p4
    rw [Bool.true_and]
    go_enter Try.func45, Try.ntmps45
    go_wp2_with (first
      | (go_at_call 69; refine HF.out.mono ?_; rintro e w2 ⟨rfl, hb_⟩; have HN2 := Go.Lib.hid (ipS_below HN.out hb_); have HB2 := Go.Lib.hid (below_step HB.out hb_); clear hb_)
      | (go_at_call 71; refine (HE.out _ HN2.out HB2.out).mono ?_; rintro e w3 ⟨v0, rfl, hS_, hB_, hg_, hl_⟩; have HS := Go.Lib.hid hS_; have HB3 := Go.Lib.hid (below_step HB2.out hB_); have HGd := Go.Lib.hid hg_; have HLn := Go.Lib.hid hl_; clear hS_ hB_ hg_ hl_)
      | (go_at_call 70; refine (ip_rows _ _ (exAll a0_0 l0_1) _ HS.out (by have := HLn.out; have := HP1.out; omega) (fun r hr => by have := (HGd.out r hr).1; have := HP1.out; omega)).mono ?_; rintro e w4 ⟨rfl, ⟨q, rfl⟩⟩; rw [HBV.out]))
    go_ret
    exact ⟨by cases bv <;> rfl, pw_below_drewN HB3.out _⟩

/-! ### impl_told: function 35 -/
def impl_told.f (a0_0 : Int) (l0_1 : List (S79)) (l0_2 : List Int) : Option (Int × (List (S79)) × List Int × Bool) := (impl_IsPlan.f a0_0 l0_1 l0_2).bind fun t221 => (if t221 = true then (some (a0_0, l0_1, l0_2, true)) else (some (0, ([] : List (S79)), ([] : List Int), false)))
set_option maxHeartbeats 8000000 in
set_option maxRecDepth 100000 in
theorem impl_told.calls (a0_0 : Int) (P0_1_ : Nat → Prop) (u9000_ : Value) (l0_1 : List (S79)) (P0_2_ : Nat → Prop) (u9001_ : Value) (l0_2 : List Int) (r1 : Int) (r2 : List (S79)) (r3 : List Int) (r4 : Bool) (w0 w : World) (hB : Below w0.heap.size w0 w) (ho0_1 : Kd.R k79 79 w w0.heap.size P0_1_ u9000_ l0_1) (ho0_2 : Kd.R (Kd.int .i64) 3 w w0.heap.size P0_2_ u9001_ l0_2) (h : impl_told.f a0_0 l0_1 l0_2 = some (r1, r2, r3, r4)) :
    Calls Try.prog 35 #[.agg #[.int .i64 a0_0, u9000_, u9001_]] w fun e w' => ∃ v1_ v2_ : Value, e = .returned (.tuple #[.agg #[.int .i64 r1, v1_, v2_], .bool r4]) ∧ Kd.R k79 79 w' w0.heap.size (fun k_ => ((P0_1_ k_ ∨ P0_2_ k_) ∨ w.heap.size ≤ k_)) v1_ r2 ∧ Kd.R (Kd.int .i64) 3 w' w0.heap.size (fun k_ => ((P0_1_ k_ ∨ P0_2_ k_) ∨ w.heap.size ≤ k_)) v2_ r3 ∧ Below w0.heap.size w0 w' ∧ Kept w w' (fun k_ => P0_1_ k_ ∨ P0_2_ k_) := by
  have hu28 := Try.underlying28
  have HO0_1 := Aside0.mk (show Kd.R k79 79 w w0.heap.size (fun k_ => ((P0_1_ k_ ∨ P0_2_ k_) ∨ w.heap.size ≤ k_)) u9000_ l0_1 from Kd.R_mono ho0_1 (fun k_ hk => (.inl (.inl hk))))
  have HO0_2 := Aside0.mk (show Kd.R (Kd.int .i64) 3 w w0.heap.size (fun k_ => ((P0_1_ k_ ∨ P0_2_ k_) ∨ w.heap.size ≤ k_)) u9001_ l0_2 from Kd.R_mono ho0_2 (fun k_ hk => (.inl (.inr hk))))
  have HK := Aside0.mk (Kept.refl w (fun k_ => P0_1_ k_ ∨ P0_2_ k_))
  have HW0 := Aside0.mk hB.size
  have HB := Aside0.mk hB
  clear hB
  have H : ((impl_IsPlan.f a0_0 l0_1 l0_2).bind fun t221 => (if t221 = true then (some (a0_0, l0_1, l0_2, true)) else (some (0, ([] : List (S79)), ([] : List Int), false)))) = some (r1, r2, r3, r4) := h
  clear h
  replace H := Option.bind_eq_some_iff.mp H
  obtain ⟨t221, A20, H⟩ := H
  replace H : (if t221 = true then (some (a0_0, l0_1, l0_2, true)) else (some (0, ([] : List (S79)), ([] : List Int), false))) = some (r1, r2, r3, r4) := H
  have A2 := Aside0.mk A20
  clear A20
  by_cases c3 : t221 = true
  · subst c3
    have H1 : (some (a0_0, l0_1, l0_2, true)) = some (r1, r2, r3, r4) := by rw [if_pos rfl] at H; exact H
    clear H
    have H := H1
    clear H1
    simp only [Option.some.injEq, Prod.mk.injEq] at H
    obtain ⟨rfl, rfl, rfl, rfl⟩ := H
    obtain ⟨Ao4, co4, eo4⟩ := Kd.R_slice HO0_1.out
    subst eo4
    obtain ⟨Ao5, co5, eo5⟩ := Kd.R_slice HO0_2.out
    subst eo5
    go_enter Try.func35, Try.ntmps35
    go_wp2_with (first | ((with_reducible refine gate_dst (N := 1) rfl ?_); refine box_event ?hg (N := 1) ?hd (cs := #[.int .i64 a0_0, .slice Ao4 l0_1.length co4, .slice Ao5 l0_2.length co5]) (t := 28) ?hr ?_; (case hd => rfl); (case hg => rfl); (case hr => first | (go_simp; done) | (go_simp; rfl)); intro gb219 hg w6 hbox hb; have n0_ := Aside0.mk (Kd.R_below (by (with_reducible repeat (first | apply Kd.R_alloc | apply Kd.R_drewN | apply Kd.R_drew)); exact HO0_1.out) hb); have n1_ := Aside0.mk (Kd.R_below (by (with_reducible repeat (first | apply Kd.R_alloc | apply Kd.R_drewN | apply Kd.R_drew)); exact HO0_2.out) hb); have n2_ := Aside0.mk (Kept.below (S := (fun k_ => P0_1_ k_ ∨ P0_2_ k_)) (by repeat (first | (with_reducible first | exact HK.out | apply Kept.alloc | apply Kept.drewN | apply Kept.drew) | exact HK.out)) hb); have n3_ := Aside0.mk (below_step (by repeat (first | (with_reducible first | exact HB.out | apply below_alloc | apply pw_below_drewN | apply below_drew1) | exact HB.out)) hb); have n4_ := Aside0.mk (hbox); have n5_ := Aside0.mk ((by rw [hg]; exact (by first | exact HK.out.1 | exact (show Kept w _ (fun k_ => P0_1_ k_ ∨ P0_2_ k_) from by repeat (first | (with_reducible first | exact HK.out | apply Kept.alloc | apply Kept.drewN | apply Kept.drew) | exact HK.out)).1) : w.heap.size ≤ gb219)); have n6_ := Aside0.mk ((by rw [hg]; exact (below_size (by repeat (first | (with_reducible first | exact HB.out | apply below_alloc | apply pw_below_drewN | apply below_drew1) | exact HB.out))) : w0.heap.size ≤ gb219)); clear HO0_1; clear HO0_2; clear HK; clear HB; have HO0_1 := n0_; have HO0_2 := n1_; have HK := n2_; have HB := n3_; have BK219 := n4_; have GW219 := n5_; have GE219 := n6_; clear n0_ n1_ n2_ n3_ n4_ n5_ n6_; clear hb hbox hg) | ((with_reducible refine gate_dst (N := 2) rfl ?_); refine box_event ?hg (N := 2) ?hd (cs := #[.int .i64 0, .slice none 0 0, .slice none 0 0]) (t := 28) ?hr ?_; (case hd => rfl); (case hg => rfl); (case hr => first | (go_simp; done) | (go_simp; rfl)); intro gb220 hg w7 hbox hb; have n0_ := Aside0.mk (Kd.R_below (by (with_reducible repeat (first | apply Kd.R_alloc | apply Kd.R_drewN | apply Kd.R_drew)); exact HO0_1.out) hb); have n1_ := Aside0.mk (Kd.R_below (by (with_reducible repeat (first | apply Kd.R_alloc | apply Kd.R_drewN | apply Kd.R_drew)); exact HO0_2.out) hb); have n2_ := Aside0.mk (blk_below (g := gb219) (o := .cells #[.int .i64 a0_0, .slice Ao4 l0_1.length co4, .slice Ao5 l0_2.length co5] 28 (0, 0)) (by (with_reducible repeat (first | refine blk_drewN ?_ _ | refine blk_drew ?_ | refine blk_alloc ?_ _)); exact BK219.out) hb); have n3_ := Aside0.mk (Kept.below (S := (fun k_ => P0_1_ k_ ∨ P0_2_ k_)) (by repeat (first | (with_reducible first | exact HK.out | apply Kept.alloc | apply Kept.drewN | apply Kept.drew | refine Kept.setCell ?_ (.inr GW219.out) _) | exact HK.out)) hb); have n4_ := Aside0.mk (below_step (by repeat (first | (with_reducible first | exact HB.out | apply below_alloc | apply pw_below_drewN | apply below_drew1 | refine below_set ?_ GE219.out) | exact HB.out)) hb); have n5_ := Aside0.mk (hbox); have n6_ := Aside0.mk ((by rw [hg]; exact (by first | exact HK.out.1 | exact (show Kept w _ (fun k_ => P0_1_ k_ ∨ P0_2_ k_) from by repeat (first | (with_reducible first | exact HK.out | apply Kept.alloc | apply Kept.drewN | apply Kept.drew | refine Kept.setCell ?_ (.inr GW219.out) _) | exact HK.out)).1) : w.heap.size ≤ gb220)); have n7_ := Aside0.mk ((by rw [hg]; exact (below_size (by repeat (first | (with_reducible first | exact HB.out | apply below_alloc | apply pw_below_drewN | apply below_drew1 | refine below_set ?_ GE219.out) | exact HB.out))) : w0.heap.size ≤ gb220)); have n8_ := Aside0.mk ((by rw [hg]; exact Nat.ne_of_lt (blk_lt (g := gb219) (o := .cells #[.int .i64 a0_0, .slice Ao4 l0_1.length co4, .slice Ao5 l0_2.length co5] 28 (0, 0)) (by (with_reducible repeat (first | refine blk_drewN ?_ _ | refine blk_drew ?_ | refine blk_alloc ?_ _)); exact BK219.out)) : gb219 ≠ gb220)); have n9_ := Aside0.mk ((by rw [hg]; exact Nat.ne_of_gt (blk_lt (g := gb219) (o := .cells #[.int .i64 a0_0, .slice Ao4 l0_1.length co4, .slice Ao5 l0_2.length co5] 28 (0, 0)) (by (with_reducible repeat (first | refine blk_drewN ?_ _ | refine blk_drew ?_ | refine blk_alloc ?_ _)); exact BK219.out)) : gb220 ≠ gb219)); clear HO0_1; clear HO0_2; clear BK219; clear HK; clear HB; have HO0_1 := n0_; have HO0_2 := n1_; have BK219 := n2_; have HK := n3_; have HB := n4_; have BK220 := n5_; have GW220 := n6_; have GE220 := n7_; have NB219_220 := n8_; have NB220_219 := n9_; clear n0_ n1_ n2_ n3_ n4_ n5_ n6_ n7_ n8_ n9_; clear hb hbox hg; have hnb8 := NB219_220.out; have hnc8 := NB220_219.out; have hcz9_0 : w7.cell? ⟨gb219, 0, none⟩ = some (.int .i64 a0_0) := (blk_cell BK219.out 0).trans rfl; have hcz9_1 : w7.cell? ⟨gb219, 1, none⟩ = some (.slice Ao4 l0_1.length co4) := (blk_cell BK219.out 1).trans rfl; have hcz9_2 : w7.cell? ⟨gb219, 2, none⟩ = some (.slice Ao5 l0_2.length co5) := (blk_cell BK219.out 2).trans rfl; have hfz9_0 := blk_frozen BK219.out 0; have hfz9_1 := blk_frozen BK219.out 1; have hfz9_2 := blk_frozen BK219.out 2) | ((with_reducible refine gate_callee (f := 45) rfl ?_); refine goesL_ (some 5) rfl rfl Try.func45 (by kernel_rfl) rfl #[.agg #[.int .i64 a0_0, .slice Ao4 l0_1.length co4, .slice Ao5 l0_2.length co5]] rfl (by (try simp only [List.map_toArray, List.map_cons, List.map_nil]); first | done | rfl | (simp only [List.length_drop, List.length_take]; rfl)) ?_; (with_reducible refine (impl_IsPlan.calls a0_0 _ _ l0_1 _ _ l0_2 true _ ?side1 ?side2 ?side3 ?side4 A2.out).mono ?_); (case side1 => repeat (first | exact (Kd.R_reads' HO0_1.out).2.2 | (with_reducible refine Kd.C_alloc ?_ _) | (with_reducible refine Kd.C_drewN ?_ _) | (with_reducible refine Kd.C_drew ?_))); (case side2 => exact (Kd.R_reads' HO0_1.out).2.1); (case side3 => repeat (first | exact (Kd.R_reads' HO0_2.out).2.2 | (with_reducible refine Kd.C_alloc ?_ _) | (with_reducible refine Kd.C_drewN ?_ _) | (with_reducible refine Kd.C_drew ?_))); (case side4 => exact (Kd.R_reads' HO0_2.out).2.1); rintro e w10 ⟨rfl, hb⟩; refine ⟨_, rfl, ?_⟩; have n0_ := Aside0.mk (Kd.R_below (by (with_reducible repeat (first | apply Kd.R_alloc | apply Kd.R_drewN | apply Kd.R_drew)); exact HO0_1.out) hb); have n1_ := Aside0.mk (Kd.R_below (by (with_reducible repeat (first | apply Kd.R_alloc | apply Kd.R_drewN | apply Kd.R_drew)); exact HO0_2.out) hb); have n2_ := Aside0.mk (blk_below (g := gb219) (o := .cells #[.int .i64 a0_0, .slice Ao4 l0_1.length co4, .slice Ao5 l0_2.length co5] 28 (0, 0)) (by (with_reducible repeat (first | refine blk_drewN ?_ _ | refine blk_drew ?_ | refine blk_alloc ?_ _)); exact BK219.out) hb); have n3_ := Aside0.mk (blk_below (g := gb220) (o := .cells #[.int .i64 0, .slice none 0 0, .slice none 0 0] 28 (0, 0)) (by (with_reducible repeat (first | refine blk_drewN ?_ _ | refine blk_drew ?_ | refine blk_alloc ?_ _)); exact BK220.out) hb); have n4_ := Aside0.mk (Kept.below (S := (fun k_ => P0_1_ k_ ∨ P0_2_ k_)) (by repeat (first | (with_reducible first | exact HK.out | apply Kept.alloc | apply Kept.drewN | apply Kept.drew | refine Kept.setCell ?_ (.inr GW219.out) _ | refine Kept.setCell ?_ (.inr GW220.out) _) | exact HK.out)) hb); have n5_ := Aside0.mk (below_step (by repeat (first | (with_reducible first | exact HB.out | apply below_alloc | apply pw_below_drewN | apply below_drew1 | refine below_set ?_ GE219.out | refine below_set ?_ GE220.out) | exact HB.out)) hb); clear HO0_1; clear HO0_2; clear BK219; clear BK220; clear HK; clear HB; have HO0_1 := n0_; have HO0_2 := n1_; have BK219 := n2_; have BK220 := n3_; have HK := n4_; have HB := n5_; clear n0_ n1_ n2_ n3_ n4_ n5_; (try clear hb); (try clear hb2); (try clear hk); (try clear hi); have hcz11_0 : w10.cell? ⟨gb219, 0, none⟩ = some (.int .i64 a0_0) := (blk_cell BK219.out 0).trans rfl; have hcz11_1 : w10.cell? ⟨gb219, 1, none⟩ = some (.slice Ao4 l0_1.length co4) := (blk_cell BK219.out 1).trans rfl; have hcz11_2 : w10.cell? ⟨gb219, 2, none⟩ = some (.slice Ao5 l0_2.length co5) := (blk_cell BK219.out 2).trans rfl; have hfz11_0 := blk_frozen BK219.out 0; have hfz11_1 := blk_frozen BK219.out 1; have hfz11_2 := blk_frozen BK219.out 2; have hcz12_0 : w10.cell? ⟨gb220, 0, none⟩ = some (.int .i64 0) := (blk_cell BK220.out 0).trans rfl; have hcz12_1 : w10.cell? ⟨gb220, 1, none⟩ = some (.slice none 0 0) := (blk_cell BK220.out 1).trans rfl; have hcz12_2 : w10.cell? ⟨gb220, 2, none⟩ = some (.slice none 0 0) := (blk_cell BK220.out 2).trans rfl; have hfz12_0 := blk_frozen BK220.out 0; have hfz12_1 := blk_frozen BK220.out 1; have hfz12_2 := blk_frozen BK220.out 2))
    refine bodyPost_ret (results_ct rfl _ _ gb220 28 #[.int .i64 a0_0, .slice Ao4 l0_1.length co4, .slice Ao5 l0_2.length co5] (0, 0) _ rfl (by (with_reducible repeat (first | refine blk_drewN ?_ _ | refine blk_drew ?_ | refine blk_alloc ?_ _)); refine blk_put (cs := #[.int .i64 a0_0, .slice Ao4 l0_1.length co4, .slice none 0 0]) ?_ 2 _ rfl; (with_reducible repeat (first | refine blk_drewN ?_ _ | refine blk_drew ?_ | refine blk_alloc ?_ _)); refine blk_put (cs := #[.int .i64 a0_0, .slice none 0 0, .slice none 0 0]) ?_ 1 _ rfl; (with_reducible repeat (first | refine blk_drewN ?_ _ | refine blk_drew ?_ | refine blk_alloc ?_ _)); refine blk_put (cs := #[.int .i64 0, .slice none 0 0, .slice none 0 0]) ?_ 0 _ rfl; (with_reducible repeat (first | refine blk_drewN ?_ _ | refine blk_drew ?_ | refine blk_alloc ?_ _)); exact BK220.out) Try.underlying28 rfl (by kernel_rfl)) rfl ?_
    exact ⟨_, _, by first | rfl | (simp [errW_none, errW_some] <;> rfl) | (simp [*, errW_none, errW_some] <;> rfl), by (with_reducible repeat (first | apply Kd.R_alloc | apply Kd.R_drewN | apply Kd.R_drew)); exact Kd.R_mono (Kd.R_far (p := ⟨gb220, 2, none⟩) (Kd.R_far (p := ⟨gb220, 1, none⟩) (Kd.R_far (p := ⟨gb220, 0, none⟩) (Kd.R_types HO0_1.out BK220.out (by decide)) (fun _ hk => hk.2) (.int .i64 a0_0)) (fun _ hk => hk.2) (.slice Ao4 l0_1.length co4)) (fun _ hk => hk.2) (.slice Ao5 l0_2.length co5)) (fun _ hk => hk.1), by (with_reducible repeat (first | apply Kd.R_alloc | apply Kd.R_drewN | apply Kd.R_drew)); exact Kd.R_mono (Kd.R_far (p := ⟨gb220, 2, none⟩) (Kd.R_far (p := ⟨gb220, 1, none⟩) (Kd.R_far (p := ⟨gb220, 0, none⟩) (Kd.R_types HO0_2.out BK220.out (by decide)) (fun _ hk => hk.2) (.int .i64 a0_0)) (fun _ hk => hk.2) (.slice Ao4 l0_1.length co4)) (fun _ hk => hk.2) (.slice Ao5 l0_2.length co5)) (fun _ hk => hk.1), by repeat (first | (with_reducible first | exact HB.out | apply below_alloc | apply pw_below_drewN | apply below_drew1 | refine below_set ?_ GE219.out | refine below_set ?_ GE220.out) | exact HB.out), by repeat (first | (with_reducible first | exact HK.out | apply Kept.alloc | apply Kept.drewN | apply Kept.drew | refine Kept.setCell ?_ (.inr GW219.out) _ | refine Kept.setCell ?_ (.inr GW220.out) _) | exact HK.out)⟩
  · replace c3 := Bool.eq_false_iff.mpr c3
    subst c3
    have H1 : (some (0, ([] : List (S79)), ([] : List Int), false)) = some (r1, r2, r3, r4) := by rw [if_neg (show ¬ (false = true) by decide)] at H; exact H
    clear H
    have H := H1
    clear H1
    simp only [Option.some.injEq, Prod.mk.injEq] at H
    obtain ⟨rfl, rfl, rfl, rfl⟩ := H
    obtain ⟨Ao13, co13, eo13⟩ := Kd.R_slice HO0_1.out
    subst eo13
    obtain ⟨Ao14, co14, eo14⟩ := Kd.R_slice HO0_2.out
    subst eo14
    go_enter Try.func35, Try.ntmps35
    go_wp2_with (first | ((with_reducible refine gate_dst (N := 1) rfl ?_); refine box_event ?hg (N := 1) ?hd (cs := #[.int .i64 a0_0, .slice Ao13 l0_1.length co13, .slice Ao14 l0_2.length co14]) (t := 28) ?hr ?_; (case hd => rfl); (case hg => rfl); (case hr => first | (go_simp; done) | (go_simp; rfl)); intro gb219 hg w15 hbox hb; have n0_ := Aside0.mk (Kd.R_below (by (with_reducible repeat (first | apply Kd.R_alloc | apply Kd.R_drewN | apply Kd.R_drew)); exact HO0_1.out) hb); have n1_ := Aside0.mk (Kd.R_below (by (with_reducible repeat (first | apply Kd.R_alloc | apply Kd.R_drewN | apply Kd.R_drew)); exact HO0_2.out) hb); have n2_ := Aside0.mk (Kept.below (S := (fun k_ => P0_1_ k_ ∨ P0_2_ k_)) (by repeat (first | (with_reducible first | exact HK.out | apply Kept.alloc | apply Kept.drewN | apply Kept.drew) | exact HK.out)) hb); have n3_ := Aside0.mk (below_step (by repeat (first | (with_reducible first | exact HB.out | apply below_alloc | apply pw_below_drewN | apply below_drew1) | exact HB.out)) hb); have n4_ := Aside0.mk (hbox); have n5_ := Aside0.mk ((by rw [hg]; exact (by first | exact HK.out.1 | exact (show Kept w _ (fun k_ => P0_1_ k_ ∨ P0_2_ k_) from by repeat (first | (with_reducible first | exact HK.out | apply Kept.alloc | apply Kept.drewN | apply Kept.drew) | exact HK.out)).1) : w.heap.size ≤ gb219)); have n6_ := Aside0.mk ((by rw [hg]; exact (below_size (by repeat (first | (with_reducible first | exact HB.out | apply below_alloc | apply pw_below_drewN | apply below_drew1) | exact HB.out))) : w0.heap.size ≤ gb219)); clear HO0_1; clear HO0_2; clear HK; clear HB; have HO0_1 := n0_; have HO0_2 := n1_; have HK := n2_; have HB := n3_; have BK219 := n4_; have GW219 := n5_; have GE219 := n6_; clear n0_ n1_ n2_ n3_ n4_ n5_ n6_; clear hb hbox hg) | ((with_reducible refine gate_dst (N := 2) rfl ?_); refine box_event ?hg (N := 2) ?hd (cs := #[.int .i64 0, .slice none 0 0, .slice none 0 0]) (t := 28) ?hr ?_; (case hd => rfl); (case hg => rfl); (case hr => first | (go_simp; done) | (go_simp; rfl)); intro gb220 hg w16 hbox hb; have n0_ := Aside0.mk (Kd.R_below (by (with_reducible repeat (first | apply Kd.R_alloc | apply Kd.R_drewN | apply Kd.R_drew)); exact HO0_1.out) hb); have n1_ := Aside0.mk (Kd.R_below (by (with_reducible repeat (first | apply Kd.R_alloc | apply Kd.R_drewN | apply Kd.R_drew)); exact HO0_2.out) hb); have n2_ := Aside0.mk (blk_below (g := gb219) (o := .cells #[.int .i64 a0_0, .slice Ao13 l0_1.length co13, .slice Ao14 l0_2.length co14] 28 (0, 0)) (by (with_reducible repeat (first | refine blk_drewN ?_ _ | refine blk_drew ?_ | refine blk_alloc ?_ _)); exact BK219.out) hb); have n3_ := Aside0.mk (Kept.below (S := (fun k_ => P0_1_ k_ ∨ P0_2_ k_)) (by repeat (first | (with_reducible first | exact HK.out | apply Kept.alloc | apply Kept.drewN | apply Kept.drew | refine Kept.setCell ?_ (.inr GW219.out) _) | exact HK.out)) hb); have n4_ := Aside0.mk (below_step (by repeat (first | (with_reducible first | exact HB.out | apply below_alloc | apply pw_below_drewN | apply below_drew1 | refine below_set ?_ GE219.out) | exact HB.out)) hb); have n5_ := Aside0.mk (hbox); have n6_ := Aside0.mk ((by rw [hg]; exact (by first | exact HK.out.1 | exact (show Kept w _ (fun k_ => P0_1_ k_ ∨ P0_2_ k_) from by repeat (first | (with_reducible first | exact HK.out | apply Kept.alloc | apply Kept.drewN | apply Kept.drew | refine Kept.setCell ?_ (.inr GW219.out) _) | exact HK.out)).1) : w.heap.size ≤ gb220)); have n7_ := Aside0.mk ((by rw [hg]; exact (below_size (by repeat (first | (with_reducible first | exact HB.out | apply below_alloc | apply pw_below_drewN | apply below_drew1 | refine below_set ?_ GE219.out) | exact HB.out))) : w0.heap.size ≤ gb220)); have n8_ := Aside0.mk ((by rw [hg]; exact Nat.ne_of_lt (blk_lt (g := gb219) (o := .cells #[.int .i64 a0_0, .slice Ao13 l0_1.length co13, .slice Ao14 l0_2.length co14] 28 (0, 0)) (by (with_reducible repeat (first | refine blk_drewN ?_ _ | refine blk_drew ?_ | refine blk_alloc ?_ _)); exact BK219.out)) : gb219 ≠ gb220)); have n9_ := Aside0.mk ((by rw [hg]; exact Nat.ne_of_gt (blk_lt (g := gb219) (o := .cells #[.int .i64 a0_0, .slice Ao13 l0_1.length co13, .slice Ao14 l0_2.length co14] 28 (0, 0)) (by (with_reducible repeat (first | refine blk_drewN ?_ _ | refine blk_drew ?_ | refine blk_alloc ?_ _)); exact BK219.out)) : gb220 ≠ gb219)); clear HO0_1; clear HO0_2; clear BK219; clear HK; clear HB; have HO0_1 := n0_; have HO0_2 := n1_; have BK219 := n2_; have HK := n3_; have HB := n4_; have BK220 := n5_; have GW220 := n6_; have GE220 := n7_; have NB219_220 := n8_; have NB220_219 := n9_; clear n0_ n1_ n2_ n3_ n4_ n5_ n6_ n7_ n8_ n9_; clear hb hbox hg; have hnb17 := NB219_220.out; have hnc17 := NB220_219.out; have hcz18_0 : w16.cell? ⟨gb219, 0, none⟩ = some (.int .i64 a0_0) := (blk_cell BK219.out 0).trans rfl; have hcz18_1 : w16.cell? ⟨gb219, 1, none⟩ = some (.slice Ao13 l0_1.length co13) := (blk_cell BK219.out 1).trans rfl; have hcz18_2 : w16.cell? ⟨gb219, 2, none⟩ = some (.slice Ao14 l0_2.length co14) := (blk_cell BK219.out 2).trans rfl; have hfz18_0 := blk_frozen BK219.out 0; have hfz18_1 := blk_frozen BK219.out 1; have hfz18_2 := blk_frozen BK219.out 2) | ((with_reducible refine gate_callee (f := 45) rfl ?_); refine goesL_ (some 5) rfl rfl Try.func45 (by kernel_rfl) rfl #[.agg #[.int .i64 a0_0, .slice Ao13 l0_1.length co13, .slice Ao14 l0_2.length co14]] rfl (by (try simp only [List.map_toArray, List.map_cons, List.map_nil]); first | done | rfl | (simp only [List.length_drop, List.length_take]; rfl)) ?_; (with_reducible refine (impl_IsPlan.calls a0_0 _ _ l0_1 _ _ l0_2 false _ ?side1 ?side2 ?side3 ?side4 A2.out).mono ?_); (case side1 => repeat (first | exact (Kd.R_reads' HO0_1.out).2.2 | (with_reducible refine Kd.C_alloc ?_ _) | (with_reducible refine Kd.C_drewN ?_ _) | (with_reducible refine Kd.C_drew ?_))); (case side2 => exact (Kd.R_reads' HO0_1.out).2.1); (case side3 => repeat (first | exact (Kd.R_reads' HO0_2.out).2.2 | (with_reducible refine Kd.C_alloc ?_ _) | (with_reducible refine Kd.C_drewN ?_ _) | (with_reducible refine Kd.C_drew ?_))); (case side4 => exact (Kd.R_reads' HO0_2.out).2.1); rintro e w19 ⟨rfl, hb⟩; refine ⟨_, rfl, ?_⟩; have n0_ := Aside0.mk (Kd.R_below (by (with_reducible repeat (first | apply Kd.R_alloc | apply Kd.R_drewN | apply Kd.R_drew)); exact HO0_1.out) hb); have n1_ := Aside0.mk (Kd.R_below (by (with_reducible repeat (first | apply Kd.R_alloc | apply Kd.R_drewN | apply Kd.R_drew)); exact HO0_2.out) hb); have n2_ := Aside0.mk (blk_below (g := gb219) (o := .cells #[.int .i64 a0_0, .slice Ao13 l0_1.length co13, .slice Ao14 l0_2.length co14] 28 (0, 0)) (by (with_reducible repeat (first | refine blk_drewN ?_ _ | refine blk_drew ?_ | refine blk_alloc ?_ _)); exact BK219.out) hb); have n3_ := Aside0.mk (blk_below (g := gb220) (o := .cells #[.int .i64 0, .slice none 0 0, .slice none 0 0] 28 (0, 0)) (by (with_reducible repeat (first | refine blk_drewN ?_ _ | refine blk_drew ?_ | refine blk_alloc ?_ _)); exact BK220.out) hb); have n4_ := Aside0.mk (Kept.below (S := (fun k_ => P0_1_ k_ ∨ P0_2_ k_)) (by repeat (first | (with_reducible first | exact HK.out | apply Kept.alloc | apply Kept.drewN | apply Kept.drew | refine Kept.setCell ?_ (.inr GW219.out) _ | refine Kept.setCell ?_ (.inr GW220.out) _) | exact HK.out)) hb); have n5_ := Aside0.mk (below_step (by repeat (first | (with_reducible first | exact HB.out | apply below_alloc | apply pw_below_drewN | apply below_drew1 | refine below_set ?_ GE219.out | refine below_set ?_ GE220.out) | exact HB.out)) hb); clear HO0_1; clear HO0_2; clear BK219; clear BK220; clear HK; clear HB; have HO0_1 := n0_; have HO0_2 := n1_; have BK219 := n2_; have BK220 := n3_; have HK := n4_; have HB := n5_; clear n0_ n1_ n2_ n3_ n4_ n5_; (try clear hb); (try clear hb2); (try clear hk); (try clear hi); have hcz20_0 : w19.cell? ⟨gb220, 0, none⟩ = some (.int .i64 0) := (blk_cell BK220.out 0).trans rfl; have hcz20_1 : w19.cell? ⟨gb220, 1, none⟩ = some (.slice none 0 0) := (blk_cell BK220.out 1).trans rfl; have hcz20_2 : w19.cell? ⟨gb220, 2, none⟩ = some (.slice none 0 0) := (blk_cell BK220.out 2).trans rfl; have hfz20_0 := blk_frozen BK220.out 0; have hfz20_1 := blk_frozen BK220.out 1; have hfz20_2 := blk_frozen BK220.out 2))
    refine bodyPost_ret (results_ct rfl _ _ gb220 28 #[.int .i64 0, .slice none 0 0, .slice none 0 0] (0, 0) _ rfl (by (with_reducible repeat (first | refine blk_drewN ?_ _ | refine blk_drew ?_ | refine blk_alloc ?_ _)); refine blk_put (cs := #[.int .i64 0, .slice none 0 0, .slice none 0 0]) ?_ 2 _ rfl; (with_reducible repeat (first | refine blk_drewN ?_ _ | refine blk_drew ?_ | refine blk_alloc ?_ _)); refine blk_put (cs := #[.int .i64 0, .slice none 0 0, .slice none 0 0]) ?_ 1 _ rfl; (with_reducible repeat (first | refine blk_drewN ?_ _ | refine blk_drew ?_ | refine blk_alloc ?_ _)); refine blk_put (cs := #[.int .i64 0, .slice none 0 0, .slice none 0 0]) ?_ 0 _ rfl; (with_reducible repeat (first | refine blk_drewN ?_ _ | refine blk_drew ?_ | refine blk_alloc ?_ _)); exact BK220.out) Try.underlying28 rfl (by kernel_rfl)) rfl ?_
    exact ⟨_, _, by first | rfl | (simp [errW_none, errW_some] <;> rfl) | (simp [*, errW_none, errW_some] <;> rfl), by first | exact Kd.R_nil _ _ _ _ _ | exact Kd.N_nil _ _ _ _ _ | exact Kd.V_nil _ _ _ _ _ | exact Kd.Q_nil _ _ _ _ _ | exact Kd.S_nil _ _ _ _ _, by first | exact Kd.R_nil _ _ _ _ _ | exact Kd.N_nil _ _ _ _ _ | exact Kd.V_nil _ _ _ _ _ | exact Kd.Q_nil _ _ _ _ _ | exact Kd.S_nil _ _ _ _ _, by repeat (first | (with_reducible first | exact HB.out | apply below_alloc | apply pw_below_drewN | apply below_drew1 | refine below_set ?_ GE219.out | refine below_set ?_ GE220.out) | exact HB.out), by repeat (first | (with_reducible first | exact HK.out | apply Kept.alloc | apply Kept.drewN | apply Kept.drew | refine Kept.setCell ?_ (.inr GW219.out) _ | refine Kept.setCell ?_ (.inr GW220.out) _) | exact HK.out)⟩

/-! ### impl_isNumber: function 47 -/
def impl_isNumber.f (a0 : Int) : Option (Bool) := (impl_in.f a0 1 1000000).bind fun t222 => (some t222)
set_option maxHeartbeats 8000000 in
set_option maxRecDepth 100000 in
theorem impl_isNumber.calls (a0 : Int) (r : Bool) (w : World) (h : impl_isNumber.f a0 = some r) :
    Calls Try.prog 47 #[.int .i64 a0] w fun e w' => e = .returned (.bool r) ∧ Drawn0 w w' := by
  have H : ((impl_in.f a0 1 1000000).bind fun t222 => (some t222)) = some r := h
  clear h
  replace H := Option.bind_eq_some_iff.mp H
  obtain ⟨t222, A20, H⟩ := H
  replace H : (some t222) = some r := H
  have A2 := Aside0.mk A20
  clear A20
  obtain rfl := Option.some.inj H
  go_enter Try.func47, Try.ntmps47
  go_wp2_with (first | ((with_reducible refine gate_callee (f := 27) rfl ?_); refine goesL_ (some 4) rfl rfl Try.func27 (by kernel_rfl) rfl #[.int .i64 a0, .int .i64 1, .int .i64 1000000] rfl (by (try simp only [List.map_toArray, List.map_cons, List.map_nil]); first | done | rfl | (simp only [List.length_drop, List.length_take]; rfl)) ?_; (with_reducible refine (impl_in.calls a0 1 1000000 t222 _ A2.out).mono ?_); rintro e w' ⟨rfl, ⟨nd, rfl⟩⟩; refine ⟨_, rfl, ?_⟩))
  go_ret
  exact ⟨by first | rfl | (simp; done) | (simp [*]; done), by repeat (first | exact Drawn0.refl _ | apply Drawn0.step)⟩

/-! ### impl_digits: function 99 -/
def impl_digits.l0 : Nat → Int → Int → List Int → Option (List Int)
  | 0, _, _, _ => none
  | k + 1, x0, x1, x5 => if x0 > 0 then (if x1 = 0 then (none) else (if x5.length < 17592186044416 then (impl_digits.l0 k (wrap64 (Int.tdiv x0 x1)) x1 (x5 ++ [Int.tmod x0 x1])) else (none))) else (some x5)
def impl_digits.f (k : Nat) (a0 : Int) (a1 : Int) : Option (List Int) := impl_digits.l0 k a0 a1 (([] : List Int))
theorem impl_digits.mono_l : ∀ k, (∀ y0 y1 y2, LeO (impl_digits.l0 k y0 y1 y2) (impl_digits.l0 (k + 1) y0 y1 y2))
  | 0 => fun _ _ _ r h => by simp [impl_digits.l0] at h
  | k + 1 => by
    have ih0 := impl_digits.mono_l k
    · intro y0 y1 y2
      unfold impl_digits.l0
      repeat' first
      | (with_reducible exact ih0 _ _ _)
      | (with_reducible exact LeO.refl _)
      | (with_reducible exact LeO.none _)
      | (with_reducible refine LeO.ite ?_ ?_)
      | (with_reducible refine LeO.bind ?_ (fun _ => ?_))
      | exact ih0 _ _ _
      | exact LeO.none _
      | refine LeO.ite ?_ ?_
      | refine LeO.bind ?_ (fun _ => ?_)
theorem impl_digits.mono : ∀ a0 a1 k, LeO (impl_digits.f k a0 a1) (impl_digits.f (k + 1) a0 a1) := by
  intro a0 a1 k
  have ih0 := impl_digits.mono_l k
  unfold impl_digits.f
  repeat' first
      | (with_reducible exact ih0 _ _ _)
      | (with_reducible exact LeO.refl _)
      | (with_reducible exact LeO.none _)
      | (with_reducible refine LeO.ite ?_ ?_)
      | (with_reducible refine LeO.bind ?_ (fun _ => ?_))
      | exact ih0 _ _ _
      | exact LeO.none _
      | refine LeO.ite ?_ ?_
      | refine LeO.bind ?_ (fun _ => ?_)
set_option maxHeartbeats 8000000 in
set_option maxRecDepth 100000 in
theorem impl_digits.calls (k : Nat) (a0 : Int) (a1 : Int) (r : List Int) (w : World) (h : impl_digits.f k a0 a1 = some r) :
    Calls Try.prog 99 #[.int .i64 a0, .int .i64 a1] w fun e w' => ∃ v0_ : Value, e = .returned (v0_) ∧ Kd.R (Kd.int .i64) 3 w' w.heap.size (fun _ => True) v0_ r ∧ Below w.heap.size w w' := by
  have HB := Aside0.mk (Below.refl w.heap.size w)
  have H : (impl_digits.l0 k a0 a1 (([] : List Int))) = some r := h
  clear h
  obtain ⟨y223, hy223⟩ : ∃ y_ : List Int, y_ = (([] : List Int)) := ⟨_, rfl⟩
  replace H : (impl_digits.l0 k a0 a1 y223) = some r := by first | (rw [hy223]; with_reducible exact H) | (have H2_ := (Option.bind_some _ _).symm.trans H; rw [hy223]; with_reducible exact H2_) | (have H2_ := (Option.bind_some _ _).symm.trans H; with_reducible exact H2_) | with_reducible exact H | (rw [hy223]; exact H) | exact H
  have Ny223 := Aside0.mk hy223
  clear hy223
  have H' := Aside0.mk H
  clear H
  go_enter Try.func99, Try.ntmps99
  go_wp2_with (first | ((with_reducible refine gate_dst (N := 6) rfl ?_); refine Kd.R_lit (Kd.int .i64) _ 3 ?hg (N := 6) ?hd (xs := ([] : List Int)) (inner := []) (ok := fun _ => True) (okp := fun _ => True) ?hr ?hp (fun _ hk => hk) trivial (Below.refl _ _) (Nat.le_refl _) (by simp) ?_; (case hd => rfl); (case hg => rfl); (case hr => first | (go_simp; done) | (go_simp; rfl)); (case hp => exact (Reps.none _ _)); intro v224 w3 ho4 hb hg_ hnew_; clear hg_ hnew_; (first | rw [← Ny223.out] at ho4 | (simp only [Int.reduceToNat] at ho4; rw [← Ny223.out] at ho4)); have n0_ := Aside0.mk (Kd.R_lower ho4 (below_size (by repeat (first | (with_reducible first | exact HB.out | apply below_alloc | apply pw_below_drewN | apply below_drew1) | exact HB.out)))); have n1_ := Aside0.mk (below_step (by repeat (first | (with_reducible first | exact HB.out | apply below_alloc | apply pw_below_drewN | apply below_drew1) | exact HB.out)) hb); clear HB; have HO225 := n0_; have HB := n1_; clear n0_ n1_; clear hb ho4))
  go_loopg [0, 5] k (fun kq v0 v5 w' => ∃ (x0_1 : Int) (x5_1 : List Int), v0 = .int .i64 x0_1 ∧ Aside0 (impl_digits.l0 kq x0_1 a1 x5_1 = some r) ∧ Aside0 (kq ≤ k) ∧ Aside0 (Kd.R (Kd.int .i64) 3 w' w.heap.size (fun _ => True) v5 x5_1) ∧ Aside0 (Below w.heap.size w w'))
  case atStart => exact ⟨(a0), (y223), (by first | rfl | (simp; done) | (simp [*]; done)), H', ⟨Nat.le_refl _⟩, ⟨by (with_reducible repeat (first | apply Kd.R_alloc | apply Kd.R_drewN | apply Kd.R_drew)); exact HO225.out⟩, ⟨by repeat (first | (with_reducible first | exact HB.out | apply below_alloc | apply pw_below_drewN | apply below_drew1) | exact HB.out)⟩⟩
  case round =>
    clear H'
    try clear p2
    obtain ⟨x0_1, x5_1, rfl, HA, HK1, HO_5, HB⟩ := hrel
    cases gk with
    | zero => exact absurd HA.out (by simp [impl_digits.l0])
    | succ k1 =>
      have H := HA.out
      clear HA
      simp only [impl_digits.l0] at H
      by_cases c5 : x0_1 > 0
      · rw [if_pos c5] at H
        have c5b0 : decide (0 < x0_1) = true := decide_eq_true c5
        clear c5
        by_cases c6 : a1 = 0
        · rw [if_pos c6] at H
          exact absurd H (by simp)
        · rw [if_neg c6] at H
          have c6b0 : (a1 == 0) = false := beq_eq_false_iff_ne.mpr c6
          have c6b1 : (a1 != 0) = true := bne_iff_ne.mpr c6
          by_cases c7 : x5_1.length < 17592186044416
          · rw [if_pos c7] at H
            have LMc7 := Aside0.mk c7
            clear c7
            obtain ⟨y226, hy226⟩ : ∃ y_ : List Int, y_ = (x5_1 ++ [Int.tmod x0_1 a1]) := ⟨_, rfl⟩
            replace H : (impl_digits.l0 k1 (wrap64 (Int.tdiv x0_1 a1)) a1 y226) = some r := by first | (rw [hy226]; with_reducible exact H) | (have H2_ := (Option.bind_some _ _).symm.trans H; rw [hy226]; with_reducible exact H2_) | (have H2_ := (Option.bind_some _ _).symm.trans H; with_reducible exact H2_) | with_reducible exact H | (rw [hy226]; exact H) | exact H
            have Ny226 := Aside0.mk hy226
            clear hy226
            have H' := Aside0.mk H
            clear H
            go_wp2_with (first | ((with_reducible refine gate_builtin (b := .append) (xs := #[.tmp 12, .tmp 16]) rfl ?_); at_builtin; refine Kd.R_append (Kd.int .i64) (w0 := w) w.heap.size rfl (.tmp 12) (.tmp 16) 24 3 (.int .i64 0) 8 rfl Try.underlying24 info3 rfl (by decide) (by omega) u5 x5_1 (Int.tmod x0_1 a1) [.int .i64 (Int.tmod x0_1 a1)] (fun _ => True) (fun _ => False) rfl rfl ?aP (fun _ hk => hk.elim) ?aF ?aO ?aB ?aS ?aL ?_; (case aP => exact rfl); (case aB => exact (by repeat (first | (with_reducible first | exact HB.out | apply below_alloc | apply pw_below_drewN | apply below_drew1) | exact HB.out))); (case aF => exact (fun _ _ => trivial)); (case aO => exact (by (with_reducible repeat (first | apply Kd.R_alloc | apply Kd.R_drewN | apply Kd.R_drew)); exact HO_5.out)); (case aS => exact (below_size (by repeat (first | (with_reducible first | exact HB.out | apply below_alloc | apply pw_below_drewN | apply below_drew1) | exact HB.out)))); (case aL => have := LMc7.out; omega); intro v227 w8 ho hb hg hat; rw [← Ny226.out] at ho; have n0_ := Aside0.mk (hb); have n1_ := Aside0.mk (ho); clear HB; clear HO_5; have HB := n0_; have HO228 := n1_; clear n0_ n1_; clear ho hb hg hat))
            go_roundg k1
            case measure => have := HK1.out; omega
            case rel => exact ⟨(wrap64 (Int.tdiv x0_1 a1)), (y226), (by first | rfl | (simp; done) | (simp [*]; done)), H', ⟨by have := HK1.out; omega⟩, ⟨by (with_reducible repeat (first | apply Kd.R_alloc | apply Kd.R_drewN | apply Kd.R_drew)); exact HO228.out⟩, ⟨by repeat (first | (with_reducible first | exact HB.out | apply below_alloc | apply pw_below_drewN | apply below_drew1) | exact HB.out)⟩⟩
          · rw [if_neg c7] at H
            exact absurd H (by simp)
      · rw [if_neg c5] at H
        have c5b0 : decide (0 < x0_1) = false := decide_eq_false c5
        clear c5
        obtain rfl := Option.some.inj H
        go_wp2
        go_ret
        exact ⟨_, by first | rfl | (simp [errW_none, errW_some] <;> rfl) | (simp [*, errW_none, errW_some] <;> rfl), by (with_reducible repeat (first | apply Kd.R_alloc | apply Kd.R_drewN | apply Kd.R_drew)); exact HO_5.out, by repeat (first | (with_reducible first | exact HB.out | apply below_alloc | apply pw_below_drewN | apply below_drew1) | exact HB.out)⟩

end Go.Proofs.Ytoiamgeaieefmaa.PFnExactLucasPlanCosts
