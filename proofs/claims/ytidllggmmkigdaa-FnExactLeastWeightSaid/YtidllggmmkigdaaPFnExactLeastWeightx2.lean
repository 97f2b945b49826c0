-- Written by gprint.py, a program of this session, out of the translation (a changed print).
import Derived.Test.YtidllggmmkigdaaPFnExactLeastWeightx0
import Derived.Test.YtidllggmmkigdaaPFnExactLeastWeightx1
namespace Go.Proofs.Ytidllggmmkigdaa.PFnExactLeastWeight
open Go.RowKit Go.Proofs.YtidllggmmkigdaaW.PrintWords Go.Proofs.YtidllggmmkigdaaW.PrintLast Go.Proofs.YtidllggmmkigdaaW.PrintMore
attribute [local go_sem] max2_int min2_int max_two min_two max_three min_three max_four min_four   -- for this text's walks alone
set_option linter.unusedVariables false
set_option linter.unusedSimpArgs false

/-! ### impl_LeastWeight: function 8 -/
def impl_LeastWeight.f (a0 : Int) (a1 : Int) : Option (Int × Bool) := if (-1000000 ≤ a0 ∧ a0 ≤ 1000000) ∧ 0 ≤ a1 ∧ a1 ≤ 24 then some ((YtidllggmmkigdaaLists.LV a1.toNat a0).2, decide ((YtidllggmmkigdaaLists.LV a1.toNat a0).1 > 0)) else some (0, false)
theorem lw_ok_val (n : Int) : impl_signedOk.f n = some (decide (-1000000 ≤ n) && decide (n ≤ 1000000)) := by
  simp only [impl_signedOk.f, impl_in.f]
  by_cases h : n ≥ -1000000
  · simp [h, show -1000000 ≤ n from h]
  · simp [h, show ¬ -1000000 ≤ n from h]
theorem lw_len_val (n : Int) : impl_lengthOfDigits.f n = some (decide (0 ≤ n) && decide (n ≤ 24)) := by
  simp only [impl_lengthOfDigits.f, impl_in.f]
  by_cases h : n ≥ 0
  · simp [h, show 0 ≤ n from h]
  · simp [h, show ¬ 0 ≤ n from h]
theorem lw_below {m : Nat} {w w1 w2 : World} (h : Below w.heap.size w w1) (hm : w.heap.size ≤ m) (hf : YtidllggmmkigdaaLists.Far m w1 w2) : Below w.heap.size w w2 :=
  ⟨hf.os.trans h.os, hf.tape.trans h.tape, hf.output.trans h.output, Nat.le_trans h.size hf.size, fun k hk => (hf.block k (Nat.lt_of_lt_of_le hk h.size) (by omega)).trans (h.block k hk)⟩
theorem lw_drawn {w w1 w2 : World} (h : Below w.heap.size w w1) (hd : Drawn0 w1 w2) : Below w.heap.size w w2 := by
  obtain ⟨q, rfl⟩ := YtidllggmmkigdaaHand.of_drawn hd
  exact ⟨h.os, h.tape, h.output, h.size, h.block⟩
attribute [local go_sem] run_makeMap in
set_option maxHeartbeats 2000000 in
set_option maxRecDepth 100000 in
theorem impl_LeastWeight.calls (a0 : Int) (a1 : Int) (r1 : Int) (r2 : Bool) (w : World) (h : impl_LeastWeight.f a0 a1 = some (r1, r2)) :
    Calls Try.prog 8 #[.int .i64 a0, .int .i64 a1] w fun e w' => e = .returned (.tuple #[.int .i64 r1, .bool r2]) ∧ Below w.heap.size w w' := by
  unfold impl_LeastWeight.f at h
  have W1 := Go.Lib.hid (lw_ok_val a0)
  have W2 := Go.Lib.hid (lw_len_val a1)
  have HB := Go.Lib.hid (Below.refl w.heap.size w)
  by_cases c1 : -1000000 ≤ a0 ∧ a0 ≤ 1000000
  · rw [show (decide (-1000000 ≤ a0) && decide (a0 ≤ 1000000)) = true by rw [decide_eq_true c1.1, decide_eq_true c1.2]; rfl] at W1
    by_cases c2 : 0 ≤ a1 ∧ a1 ≤ 24
    · rw [show (decide (0 ≤ a1) && decide (a1 ≤ 24)) = true by rw [decide_eq_true c2.1, decide_eq_true c2.2]; rfl] at W2
      rw [if_pos ⟨c1, c2⟩] at h
      obtain ⟨rfl, rfl⟩ := Prod.mk.inj (Option.some.inj h)
      have HL := Go.Lib.hid fun (W : World) => YtidllggmmkigdaaLists.lists_in W.heap.size a1.toNat (by omega) a0 (W.alloc (.map #[] 0)) #[] 0 (blk_new W _) YtidllggmmkigdaaLists.memo_nil (by omega) (by omega)
      rw [show ((a1.toNat : Nat) : Int) = a1 by omega] at HL
      unfold YtidllggmmkigdaaLists.Post YtidllggmmkigdaaLists.out at HL
      obtain ⟨p, hp⟩ : ∃ p, YtidllggmmkigdaaLists.LV a1.toNat a0 = p := ⟨_, rfl⟩
      rw [hp] at HL ⊢
      clear hp
      clear h c1 c2
      go_enter Try.func8, Try.ntmps8
      go_wp2_with (first
        | (go_at_call 11; refine (impl_signedOk.calls _ _ _ W1.out).mono ?_; rintro e w1 ⟨rfl, hd_⟩; have n_ := Go.Lib.hid (lw_drawn HB.out hd_); clear HB hd_; have HB := n_; clear n_)
        | (go_at_call 12; refine (impl_lengthOfDigits.calls _ _ _ W2.out).mono ?_; rintro e w1 ⟨rfl, hd_⟩; have n_ := Go.Lib.hid (lw_drawn HB.out hd_); clear HB hd_; have HB := n_; clear n_)
        | (go_at_call 13; refine (HL.out _).mono ?_; rintro e w1 ⟨rfl, hf_, _⟩; have n_ := Go.Lib.hid (lw_below (below_alloc HB.out _) HB.out.size hf_); clear HB hf_; have HB := n_; clear n_))
      go_quiet (fail)
      go_wp2
      go_ret2
      exact ⟨rfl, by repeat (first | (with_reducible first | exact HB.out | apply below_alloc | apply pw_below_drewN | apply below_drew1) | exact HB.out)⟩
    · rw [show (decide (0 ≤ a1) && decide (a1 ≤ 24)) = false by rw [Bool.and_eq_false_iff, decide_eq_false_iff_not, decide_eq_false_iff_not]; omega] at W2
      rw [if_neg (fun c => c2 c.2)] at h
      obtain ⟨rfl, rfl⟩ := Prod.mk.inj (Option.some.inj h)
      clear h c1 c2
      go_enter Try.func8, Try.ntmps8
      go_wp2_with (first
        | (go_at_call 11; refine (impl_signedOk.calls _ _ _ W1.out).mono ?_; rintro e w1 ⟨rfl, hd_⟩; have n_ := Go.Lib.hid (lw_drawn HB.out hd_); clear HB hd_; have HB := n_; clear n_)
        | (go_at_call 12; refine (impl_lengthOfDigits.calls _ _ _ W2.out).mono ?_; rintro e w1 ⟨rfl, hd_⟩; have n_ := Go.Lib.hid (lw_drawn HB.out hd_); clear HB hd_; have HB := n_; clear n_))
      go_ret2
      exact ⟨rfl, by repeat (first | (with_reducible first | exact HB.out | apply below_alloc | apply pw_below_drewN | apply below_drew1) | exact HB.out)⟩
  · rw [show (decide (-1000000 ≤ a0) && decide (a0 ≤ 1000000)) = false by rw [Bool.and_eq_false_iff, decide_eq_false_iff_not, decide_eq_false_iff_not]; omega] at W1
    rw [if_neg (fun c => c1 c.1)] at h
    obtain ⟨rfl, rfl⟩ := Prod.mk.inj (Option.some.inj h)
    clear h c1
    go_enter Try.func8, Try.ntmps8
    go_wp2_with (go_at_call 11; refine (impl_signedOk.calls _ _ _ W1.out).mono ?_; rintro e w1 ⟨rfl, hd_⟩; have n_ := Go.Lib.hid (lw_drawn HB.out hd_); clear HB hd_; have HB := n_; clear n_)
    go_ret2
    exact ⟨rfl, by repeat (first | (with_reducible first | exact HB.out | apply below_alloc | apply pw_below_drewN | apply below_drew1) | exact HB.out)⟩

/-! ### laws_FnExactLeastWeight: function 4 -/
def laws_FnExactLeastWeight.f (k : Nat) (a0 : Int) (a1 : Int) : Option (Bool) := (spec_LeastWeight.f k a0 a1).bind fun bt129 => ((impl_LeastWeight.f a0 a1).bind fun bt131 => (if bt131.1 = bt129.1 then (if (bt131.2 != bt129.2) = true then (some false) else (some true)) else (some false)))
theorem laws_FnExactLeastWeight.mono : ∀ a0 a1 k, LeO (laws_FnExactLeastWeight.f k a0 a1) (laws_FnExactLeastWeight.f (k + 1) a0 a1) := by
  intro a0 a1 k
  unfold laws_FnExactLeastWeight.f
  repeat' first
      | (with_reducible exact spec_LeastWeight.mono _ _ _)
      | (with_reducible exact LeO.refl _)
      | (with_reducible exact LeO.none _)
      | (with_reducible refine LeO.ite ?_ ?_)
      | (with_reducible refine LeO.bind ?_ (fun _ => ?_))
      | exact spec_LeastWeight.mono _ _ _
      | exact LeO.none _
      | refine LeO.ite ?_ ?_
      | refine LeO.bind ?_ (fun _ => ?_)
set_option maxHeartbeats 8000000 in
set_option maxRecDepth 100000 in
theorem laws_FnExactLeastWeight.calls (k : Nat) (a0 : Int) (a1 : Int) (r : Bool) (w : World) (h : laws_FnExactLeastWeight.f k a0 a1 = some r) :
    Calls Try.prog 4 #[.int .i64 a0, .int .i64 a1] w fun e w' => e = .returned (.bool r) ∧ Below w.heap.size w w' := by
  have HB := Aside0.mk (Below.refl w.heap.size w)
  have H : ((spec_LeastWeight.f k a0 a1).bind fun bt129 => ((impl_LeastWeight.f a0 a1).bind fun bt131 => (if bt131.1 = bt129.1 then (if (bt131.2 != bt129.2) = true then (some false) else (some true)) else (some false)))) = some r := h
  clear h
  replace H := Option.bind_eq_some_iff.mp H
  obtain ⟨⟨t129, t130⟩, A30, H⟩ := H
  replace H : ((impl_LeastWeight.f a0 a1).bind fun bt131 => (if bt131.1 = t129 then (if (bt131.2 != t130) = true then (some false) else (some true)) else (some false))) = some r := H
  have A3 := Aside0.mk A30
  clear A30
  replace H := Option.bind_eq_some_iff.mp H
  obtain ⟨⟨t131, t132⟩, A40, H⟩ := H
  replace H : (if t131 = t129 then (if (t132 != t130) = true then (some false) else (some true)) else (some false)) = some r := H
  have A4 := Aside0.mk A40
  clear A40
  by_cases c5 : t131 = t129
  · rw [if_pos c5] at H
    have c5b0 : (t131 == t129) = true := beq_iff_eq.mpr c5
    have c5b1 : (t131 != t129) = false := bne_eq_false_iff_eq.mpr c5
    clear c5
    by_cases c6 : (t132 != t130) = true
    · rw [if_pos c6] at H
      have c6b0 : (t132 != t130) = true := c6
      (try (have c6b1 : decide (t132 = t130) = false := by simpa using c6))
      (try (have c6b2 : (t132 == t130) = false := by simpa using c6))
      (try (have c6b3 : ¬ (t132 = t130) := by simpa using c6))
      clear c6
      obtain rfl := Option.some.inj H
      go_enter Try.func4, Try.ntmps4
      go_wp2_with (first | ((with_reducible refine gate_callee (f := 7) rfl ?_); refine goesL_ (some 12) rfl rfl Try.func7 (by kernel_rfl) rfl #[.int .i64 a0, .int .i64 a1] rfl (by (try simp only [List.map_toArray, List.map_cons, List.map_nil]); first | done | rfl | (simp only [List.length_drop, List.length_take]; rfl)) ?_; (with_reducible refine (spec_LeastWeight.calls k a0 a1 t129 t130 _ A3.out).mono ?_); rintro e w7 ⟨rfl, hb⟩; refine ⟨_, rfl, ?_⟩; have n0_ := Aside0.mk (below_step (by repeat (first | (with_reducible first | exact HB.out | apply below_alloc | apply pw_below_drewN | apply below_drew1) | exact HB.out)) hb); clear HB; have HB := n0_; clear n0_; (try clear hb); (try clear hb2); (try clear hk); (try clear hi)) | ((with_reducible refine gate_callee (f := 8) rfl ?_); refine goesL_ (some 18) rfl rfl Try.func8 (by kernel_rfl) rfl #[.int .i64 a0, .int .i64 a1] rfl (by (try simp only [List.map_toArray, List.map_cons, List.map_nil]); first | done | rfl | (simp only [List.length_drop, List.length_take]; rfl)) ?_; (with_reducible refine (impl_LeastWeight.calls a0 a1 t131 t132 _ A4.out).mono ?_); rintro e w8 ⟨rfl, hb⟩; refine ⟨_, rfl, ?_⟩; have n0_ := Aside0.mk (below_step (by repeat (first | (with_reducible first | exact HB.out | apply below_alloc | apply pw_below_drewN | apply below_drew1) | exact HB.out)) hb); clear HB; have HB := n0_; clear n0_; (try clear hb); (try clear hb2); (try clear hk); (try clear hi)))
      go_ret
      exact ⟨by first | rfl | (simp [errW_none, errW_some] <;> rfl) | (simp [*, errW_none, errW_some] <;> rfl), by repeat (first | (with_reducible first | exact HB.out | apply below_alloc | apply pw_below_drewN | apply below_drew1) | exact HB.out)⟩
    · rw [if_neg c6] at H
      have c6b0 : (t132 != t130) = false := by simpa using c6
      (try (have c6b1 : decide (t132 = t130) = true := by simpa using c6))
      (try (have c6b2 : (t132 == t130) = true := by simpa using c6))
      clear c6
      obtain rfl := Option.some.inj H
      go_enter Try.func4, Try.ntmps4
      go_wp2_with (first | ((with_reducible refine gate_callee (f := 7) rfl ?_); refine goesL_ (some 12) rfl rfl Try.func7 (by kernel_rfl) rfl #[.int .i64 a0, .int .i64 a1] rfl (by (try simp only [List.map_toArray, List.map_cons, List.map_nil]); first | done | rfl | (simp only [List.length_drop, List.length_take]; rfl)) ?_; (with_reducible refine (spec_LeastWeight.calls k a0 a1 t129 t130 _ A3.out).mono ?_); rintro e w9 ⟨rfl, hb⟩; refine ⟨_, rfl, ?_⟩; have n0_ := Aside0.mk (below_step (by repeat (first | (with_reducible first | exact HB.out | apply below_alloc | apply pw_below_drewN | apply below_drew1) | exact HB.out)) hb); clear HB; have HB := n0_; clear n0_; (try clear hb); (try clear hb2); (try clear hk); (try clear hi)) | ((with_reducible refine gate_callee (f := 8) rfl ?_); refine goesL_ (some 18) rfl rfl Try.func8 (by kernel_rfl) rfl #[.int .i64 a0, .int .i64 a1] rfl (by (try simp only [List.map_toArray, List.map_cons, List.map_nil]); first | done | rfl | (simp only [List.length_drop, List.length_take]; rfl)) ?_; (with_reducible refine (impl_LeastWeight.calls a0 a1 t131 t132 _ A4.out).mono ?_); rintro e w10 ⟨rfl, hb⟩; refine ⟨_, rfl, ?_⟩; have n0_ := Aside0.mk (below_step (by repeat (first | (with_reducible first | exact HB.out | apply below_alloc | apply pw_below_drewN | apply below_drew1) | exact HB.out)) hb); clear HB; have HB := n0_; clear n0_; (try clear hb); (try clear hb2); (try clear hk); (try clear hi)))
      go_ret
      exact ⟨by first | rfl | (simp [errW_none, errW_some] <;> rfl) | (simp [*, errW_none, errW_some] <;> rfl), by repeat (first | (with_reducible first | exact HB.out | apply below_alloc | apply pw_below_drewN | apply below_drew1) | exact HB.out)⟩
  · rw [if_neg c5] at H
    have c5b0 : (t131 == t129) = false := beq_eq_false_iff_ne.mpr c5
    have c5b1 : (t131 != t129) = true := bne_iff_ne.mpr c5
    obtain rfl := Option.some.inj H
    go_enter Try.func4, Try.ntmps4
    go_wp2_with (first | ((with_reducible refine gate_callee (f := 7) rfl ?_); refine goesL_ (some 12) rfl rfl Try.func7 (by kernel_rfl) rfl #[.int .i64 a0, .int .i64 a1] rfl (by (try simp only [List.map_toArray, List.map_cons, List.map_nil]); first | done | rfl | (simp only [List.length_drop, List.length_take]; rfl)) ?_; (with_reducible refine (spec_LeastWeight.calls k a0 a1 t129 t130 _ A3.out).mono ?_); rintro e w11 ⟨rfl, hb⟩; refine ⟨_, rfl, ?_⟩; have n0_ := Aside0.mk (below_step (by repeat (first | (with_reducible first | exact HB.out | apply below_alloc | apply pw_below_drewN | apply below_drew1) | exact HB.out)) hb); clear HB; have HB := n0_; clear n0_; (try clear hb); (try clear hb2); (try clear hk); (try clear hi)) | ((with_reducible refine gate_callee (f := 8) rfl ?_); refine goesL_ (some 18) rfl rfl Try.func8 (by kernel_rfl) rfl #[.int .i64 a0, .int .i64 a1] rfl (by (try simp only [List.map_toArray, List.map_cons, List.map_nil]); first | done | rfl | (simp only [List.length_drop, List.length_take]; rfl)) ?_; (with_reducible refine (impl_LeastWeight.calls a0 a1 t131 t132 _ A4.out).mono ?_); rintro e w12 ⟨rfl, hb⟩; refine ⟨_, rfl, ?_⟩; have n0_ := Aside0.mk (below_step (by repeat (first | (with_reducible first | exact HB.out | apply below_alloc | apply pw_below_drewN | apply below_drew1) | exact HB.out)) hb); clear HB; have HB := n0_; clear n0_; (try clear hb); (try clear hb2); (try clear hk); (try clear hi)))
    go_ret
    exact ⟨by first | rfl | (simp [errW_none, errW_some] <;> rfl) | (simp [*, errW_none, errW_some] <;> rfl), by repeat (first | (with_reducible first | exact HB.out | apply below_alloc | apply pw_below_drewN | apply below_drew1) | exact HB.out)⟩

/-- THE ONE PURE STATEMENT of laws_FnExactLeastWeight: yours. -/
def laws_FnExactLeastWeight.Pure : Prop := ∀ (a0 : Int) (a1 : Int), (Lit.int .i64 a0).wf = true → (Lit.int .i64 a1).wf = true → ∃ k, laws_FnExactLeastWeight.f k a0 a1 = some true
theorem laws_FnExactLeastWeight.walk (P : laws_FnExactLeastWeight.Pure) (a0 : Int) (a1 : Int) (w : World) (w0 : (Lit.int .i64 a0).wf = true) (w1 : (Lit.int .i64 a1).wf = true) :
    Calls Try.prog 4 #[.int .i64 a0, .int .i64 a1] w fun e w' => e = .returned (.bool true) ∧ Below w.heap.size w w' := by
  obtain ⟨k, h⟩ := P a0 a1 w0 w1
  refine (laws_FnExactLeastWeight.calls k a0 a1 true w h).mono ?_
  rintro e w' ⟨rfl, hd⟩
  exact ⟨rfl, hd⟩

end Go.Proofs.Ytidllggmmkigdaa.PFnExactLeastWeight
