-- Written by gprint.py, a program of this session, out of the translation (a changed print).
import Derived.Test.YtoiamgeaieefmaaPFnPowersTogetherx0
import Derived.Test.YtoiamgeaieefmaaPFnPowersTogetherx2
import Derived.Test.YtoiamgeaieefmaaPFnPowersTogetherx3
import Derived.Test.YtoiamgeaieefmaaPFnPowersTogetherx4
namespace Go.Proofs.Ytoiamgeaieefmaa.PFnPowersTogether
open Go.RowKit Go.Proofs.YtoiamgeaieefmaaW.PrintWords Go.Proofs.YtoiamgeaieefmaaW.PrintLast Go.Proofs.YtoiamgeaieefmaaW.PrintMore
attribute [local go_sem] max2_int min2_int max_two min_two max_three min_three max_four min_four   -- for this text's walks alone
set_option linter.unusedVariables false
set_option linter.unusedSimpArgs false

/-! ### impl_TogetherPlan: function 9 -/
def tpRow (inp : Int) (i : Nat) : List Int → Nat → List S79 × Int → List S79 × Int
  | [], _, s => s
  | n :: r, k, s => tpRow inp i r (k + 1) (if n.toNat / 2 ^ i % 2 = 1 then mkTimes inp s (k : Int) else s)
def tpSq (inp : Int) (s : List S79 × Int) : List S79 × Int := if 0 ≤ s.2 then (s.1 ++ [⟨mn s.2 s.2, mx s.2 s.2⟩], inp + (s.1.length : Int)) else s
def tpLoop (inp : Int) (l : List Int) : Nat → List S79 × Int → List S79 × Int
  | 0, s => s
  | i + 1, s => tpLoop inp l i (tpRow inp i l 0 (tpSq inp s))
def tpAll (l : List Int) : List S79 × Int := tpLoop (l.length : Int) l (Go.Lib.bitLen (Go.Lib.maxOf l).toNat) ([], -1)
def tpBad (n : Int) : Bool := !(decide (0 ≤ n) && decide (n ≤ 1000000))
theorem tp_in (x a b : Int) : impl_in.f x a b = some (decide (a ≤ x) && decide (x ≤ b)) := by
  unfold impl_in.f
  by_cases h : a ≤ x
  · rw [if_pos h]; simp [h]
  · rw [if_neg h]; simp [h]
theorem tp_wrap62 (n : Int) (h0 : 0 ≤ n) (h1 : n < 2 ^ 62) : IntKind.i64.wrap n = n := by
  have e : (2 : Int) ^ 62 = 4611686018427387904 := by decide
  simp only [IntKind.wrap, IntKind.bits, IntKind.signed]
  simp
  omega
theorem tp_bit {x : Int} {j : Nat} (h0 : 0 ≤ x) (h1 : x ≤ 1000000) : (Go.bits .and .i64 (x / 2 ^ j) 1 == 1) = decide (x.toNat / 2 ^ j % 2 = 1) := by
  obtain ⟨n, rfl⟩ : ∃ n : Nat, x = (n : Int) := ⟨x.toNat, by omega⟩
  rw [Int.toNat_natCast]
  obtain ⟨q, hq⟩ : ∃ q, n / 2 ^ j = q := ⟨_, rfl⟩
  have hle : q ≤ 1000000 := by have := Nat.div_le_self n (2 ^ j); omega
  have e0 : (n : Int) / 2 ^ j = (q : Int) := by rw [← hq]; simp
  have e : (2 : Int) ^ 62 = 4611686018427387904 := by decide
  have hb : Go.bits .and .i64 (q : Int) ((2 : Int) ^ 1 - 1) = (q : Int) % 2 ^ 1 := bits_mask .i64 62 (by decide) tp_wrap62 1 (by decide) (q : Int) (by omega) (by omega)
  have e1 : (2 : Int) ^ 1 - 1 = 1 := by decide
  have e2 : (2 : Int) ^ 1 = 2 := by decide
  rw [e1, e2] at hb
  rw [e0, hb, hq]
  by_cases h : q % 2 = 1
  · rw [decide_eq_true h]; simp; omega
  · rw [decide_eq_false h]; simp; omega
theorem tp_wrap {j L : Nat} (hj : j < L) (hL : (L : Int) ≤ 6) : Value.int .i64 (wrap64 ((j : Int) + 1)) = Value.int .i64 ((j + 1 : Nat) : Int) := by
  have : wrap64 ((j : Int) + 1) = (j : Int) + 1 := IntWalk.wrap64_in _ (by omega)
  rw [this]
  rfl
theorem tp_meas {j L : Nat} (hj : j < L) (hL : (L : Int) ≤ 6) : L - (intOf (Value.int .i64 (wrap64 ((j : Int) + 1)))).toNat < L - (intOf (Value.int .i64 (j : Int))).toNat := by
  rw [tp_wrap hj hL]
  simp only [intOf]
  omega
theorem tp_down {j : Nat} (hj : j ≤ 20) : Value.int .i64 (wrap64 ((j : Int) - 1)) = Value.int .i64 ((j : Int) - 1) := by
  have : wrap64 ((j : Int) - 1) = (j : Int) - 1 := IntWalk.wrap64_in _ (by omega)
  rw [this]
section
set_option maxRecDepth 100000
theorem tp_clos (x : Int) (W : World) :
    Calls Try.prog 29 #[.int .i64 x] W fun e w' => e = .returned (.bool (tpBad x)) ∧ ∃ q, w' = W.drewN q := by
  go_enter Try.func29, Try.ntmps29
  go_wp2_with (go_at_call 27; refine (impl_in.calls _ _ _ _ _ (tp_in _ _ _)).mono ?_; rintro e w' ⟨rfl, hq_⟩; obtain ⟨q2, rfl⟩ := YtoiamgeaieefmaaHand.of_drawn hq_; clear hq_)
  go_ret
  exact ⟨by unfold tpBad; first | rfl | simp, _, rfl⟩
theorem tp_any (A : Option Addr) (c : Nat) (l : List Int) (W : World) (hC : Kd.C (Kd.int .i64) W A l.length l) :
    Calls Try.prog 28 #[.slice A l.length c, .func (.func 29) #[] #[]] W fun e w' => e = .returned (.bool (l.any tpBad)) ∧ ∃ q, w' = W.drewN q := by
  rcases YtoiamgeaieefmaaHand.int_slice hC with h0 | ⟨b, off, rfl, _, hcells⟩
  · subst h0
    exact (Try.slices_ContainsFunc_empty_f28 (α := Int) A c _ _).mono fun e w' ⟨he, hw⟩ => ⟨he, 0, hw⟩
  · have eg : ∀ args w, (callFunc 29 args).run Try.prog w = .ok (.enter 29 args) w := enters_of Try.func29 (by kernel_rfl) rfl
    have hp : Go.Proofs.PredAt Try.prog 29 #[] (Value.int .i64) tpBad W := fun W2 x _ => tp_clos x W2
    have := Try.slices_ContainsFunc_f28 (Value.int .i64) _ 29 _ eg b off l.length c l _ hp (Nat.le_refl _) (YtoiamgeaieefmaaHand.int_len hC) (fun j hj => by rw [hcells j hj, YtoiamgeaieefmaaHand.getD_bang])
    rw [List.take_length] at this
    exact this
theorem tp_max (A : Option Addr) (c : Nat) (l : List Int) (W : World) (hC : Kd.C (Kd.int .i64) W A l.length l) (h0 : 0 < l.length) :
    Calls Try.prog 30 #[.slice A l.length c] W fun e w' => e = .returned (.int .i64 (Go.Lib.maxOf l)) ∧ w' = W := by
  rcases YtoiamgeaieefmaaHand.int_slice hC with h | ⟨b, off, rfl, _, hcells⟩
  · subst h; simp at h0
  · have := Try.slices_Max_int b off l.length c l W h0 (Nat.le_refl _) (YtoiamgeaieefmaaHand.int_len hC) hcells
    rw [List.take_length] at this
    exact this
/-- The steps and the outputs that a function over plans hands back, with the world behind. -/
def TpPost (w : World) (r1 : Int) (r2 : List S79) (r3 : List Int) (r4 : Bool) : Ending → World → Prop := fun e w' => ∃ v1 v2 : Value, e = .returned (.tuple #[.agg #[.int .i64 r1, v1, v2], .bool r4]) ∧ Kd.R k79 79 w' w.heap.size (fun _ => True) v1 r2 ∧ Kd.R (Kd.int .i64) 3 w' w.heap.size (fun _ => True) v2 r3 ∧ Below w.heap.size w w'
theorem tp_cells {W : World} {X : Nat} (h : W.heap[X]? = some (.cells #[.int .i64 0, .slice none 0 0, .slice none 0 0] 28 (0, 0))) : W.cell? ⟨X, 0, none⟩ = some (.int .i64 0) ∧ W.cell? ⟨X, 1, none⟩ = some (.slice none 0 0) ∧ W.cell? ⟨X, 2, none⟩ = some (.slice none 0 0) ∧ W.frozen? ⟨X, 0, none⟩ = false ∧ W.frozen? ⟨X, 1, none⟩ = false ∧ W.frozen? ⟨X, 2, none⟩ = false := ⟨(blk_cell h 0).trans rfl, (blk_cell h 1).trans rfl, (blk_cell h 2).trans rfl, blk_frozen h 0, blk_frozen h 1, blk_frozen h 2⟩
theorem tp_zero {w W : World} (hX : W.heap[w.heap.size]? = some (.cells #[.int .i64 0, .slice none 0 0, .slice none 0 0] 28 (0, 0))) (hB : Below w.heap.size w W) : TpPost w 0 [] [] false (.returned (.tuple #[.agg #[.int .i64 0, .slice none 0 0, .slice none 0 0], .bool false])) (((W.setCell ⟨w.heap.size, 0, none⟩ (.int .i64 0)).setCell ⟨w.heap.size, 1, none⟩ (.slice none 0 0)).setCell ⟨w.heap.size, 2, none⟩ (.slice none 0 0)) :=
  ⟨_, _, rfl, Kd.R_nil _ _ _ _ _, Kd.R_nil _ _ _ _ _, ((hB.setCell (p := ⟨w.heap.size, 0, none⟩) (Nat.le_refl _) _).setCell (p := ⟨w.heap.size, 1, none⟩) (Nat.le_refl _) _).setCell (p := ⟨w.heap.size, 2, none⟩) (Nat.le_refl _) _⟩
set_option maxHeartbeats 1000000 in
theorem tp_no (A : Option Addr) (c0 : Nat) (l : List Int) (w : World) (hC : Kd.C (Kd.int .i64) w A l.length l) (hcc : l.length ≤ c0) (h : ¬ ((1 ≤ (l.length : Int) ∧ (l.length : Int) ≤ 6) ∧ l.any tpBad = false ∧ Go.Lib.maxOf l ≠ 0)) :
    Calls Try.prog 9 #[.slice A l.length c0] w (TpPost w 0 [] [] false) := by
  obtain ⟨w1, hw1⟩ : ∃ w1, w.alloc (.cells #[.int .i64 0, .slice none 0 0, .slice none 0 0] 28) = w1 := ⟨_, rfl⟩
  have HB := Aside0.mk (show Below w.heap.size w w1 from hw1 ▸ below_alloc (Below.refl w.heap.size w) (.cells #[.int .i64 0, .slice none 0 0, .slice none 0 0] 28))
  have HX := Aside0.mk (show w1.heap[w.heap.size]? = some (.cells #[.int .i64 0, .slice none 0 0, .slice none 0 0] 28 (0, 0)) from hw1 ▸ blk_new w _)
  have HC := Aside0.mk (show Kd.C (Kd.int .i64) w1 A l.length l from hw1 ▸ Kd.C_alloc hC (.cells #[.int .i64 0, .slice none 0 0, .slice none 0 0] 28))
  have HW1 := Aside0.mk hw1
  have HIN := Aside0.mk (tp_in (l.length : Int) 1 6)
  obtain ⟨d1, hd1⟩ : ∃ d1, (decide (1 ≤ (l.length : Int)) && decide ((l.length : Int) ≤ 6)) = d1 := ⟨_, rfl⟩
  rw [hd1] at HIN
  cases d1 with
  | false =>
    clear h hC hcc hw1 hd1
    go_enter Try.func9, Try.ntmps9
    go_wp2_with (rw [HW1.out]; go_at_call 27; refine (impl_in.calls _ _ _ _ _ HIN.out).mono ?_; rintro e w2 ⟨rfl, ⟨⟨q, rfl⟩⟩⟩; obtain ⟨w2, hw2⟩ : ∃ w2, w1.drewN q = w2 := ⟨_, rfl⟩; have HX2 := Aside0.mk (show w2.heap[w.heap.size]? = some (.cells #[.int .i64 0, .slice none 0 0, .slice none 0 0] 28 (0, 0)) from hw2 ▸ blk_drewN HX.out q); have HB2 := Aside0.mk (show Below w.heap.size w w2 from hw2 ▸ pw_below_drewN HB.out q); rw [hw2]; clear hw2; obtain ⟨z0, z1, z2, f0, f1, f2⟩ := tp_cells HX2.out)
    refine bodyPost_ret (results_ct rfl _ _ w.heap.size 28 #[.int .i64 0, .slice none 0 0, .slice none 0 0] (0, 0) _ rfl (blk_put (blk_put (blk_put HX2.out 0 _ rfl) 1 _ rfl) 2 _ rfl) Try.underlying28 rfl (by kernel_rfl)) rfl ?_
    exact tp_zero HX2.out HB2.out
  | true =>
    obtain ⟨d2, hd2⟩ : ∃ d2, l.any tpBad = d2 := ⟨_, rfl⟩
    have HA := Aside0.mk (fun (W : World) (hW : Below w1.heap.size w1 W) => tp_any A c0 l W (Kd.C_below HC.out hW))
    rw [hd2] at HA
    cases d2 with
    | true =>
      clear h hC hcc hw1 hd1 hd2
      go_enter Try.func9, Try.ntmps9
      go_wp2_with (rw [HW1.out]; go_at_call 27; refine (impl_in.calls _ _ _ _ _ HIN.out).mono ?_; rintro e w2 ⟨rfl, ⟨⟨q, rfl⟩⟩⟩; obtain ⟨w2, hw2⟩ : ∃ w2, w1.drewN q = w2 := ⟨_, rfl⟩; have HB1 := Aside0.mk (show Below w1.heap.size w1 w2 from hw2 ▸ pw_below_drewN (Below.refl _ w1) q); rw [hw2]; clear hw2)
      refine (HA.out _ HB1.out).mono ?_
      rintro e w3 ⟨rfl, ⟨q3, rfl⟩⟩
      obtain ⟨w3, hw3⟩ : ∃ w3, w2.drewN q3 = w3 := ⟨_, rfl⟩
      have HBB := Aside0.mk (show Below w1.heap.size w1 w3 from hw3 ▸ pw_below_drewN HB1.out q3)
      rw [hw3]
      clear hw3
      have HX2 := Aside0.mk (blk_below HX.out HBB.out)
      obtain ⟨z0, z1, z2, f0, f1, f2⟩ := tp_cells HX2.out
      go_wp2
      refine bodyPost_ret (results_ct rfl _ _ w.heap.size 28 #[.int .i64 0, .slice none 0 0, .slice none 0 0] (0, 0) _ rfl (blk_put (blk_put (blk_put HX2.out 0 _ rfl) 1 _ rfl) 2 _ rfl) Try.underlying28 rfl (by kernel_rfl)) rfl ?_
      exact tp_zero HX2.out (HB.out.trans (HBB.out.mono HB.out.size))
    | false =>
      rw [Bool.and_eq_true, decide_eq_true_iff, decide_eq_true_iff] at hd1
      have h3 : Go.Lib.maxOf l = 0 := Classical.byContradiction fun h3 => h ⟨hd1, hd2, h3⟩
      have HM := Aside0.mk (fun (W : World) (hW : Below w1.heap.size w1 W) => tp_max A c0 l W (Kd.C_below HC.out hW) (by omega))
      rw [h3] at HM
      clear h hC hcc hw1 hd1 hd2 h3
      go_enter Try.func9, Try.ntmps9
      go_wp2_with (rw [HW1.out]; go_at_call 27; refine (impl_in.calls _ _ _ _ _ HIN.out).mono ?_; rintro e w2 ⟨rfl, ⟨⟨q, rfl⟩⟩⟩; obtain ⟨w2, hw2⟩ : ∃ w2, w1.drewN q = w2 := ⟨_, rfl⟩; have HB1 := Aside0.mk (show Below w1.heap.size w1 w2 from hw2 ▸ pw_below_drewN (Below.refl _ w1) q); rw [hw2]; clear hw2)
      refine (HA.out _ HB1.out).mono ?_
      rintro e w3 ⟨rfl, ⟨q3, rfl⟩⟩
      obtain ⟨w3, hw3⟩ : ∃ w3, w2.drewN q3 = w3 := ⟨_, rfl⟩
      have HBB := Aside0.mk (show Below w1.heap.size w1 w3 from hw3 ▸ pw_below_drewN HB1.out q3)
      rw [hw3]
      clear hw3
      have HX2 := Aside0.mk (blk_below HX.out HBB.out)
      go_wp2_with (go_at_call 30; refine (HM.out _ HBB.out).mono ?_; rintro e w4 ⟨rfl, rfl⟩; obtain ⟨z0, z1, z2, f0, f1, f2⟩ := tp_cells HX2.out)
      refine bodyPost_ret (results_ct rfl _ _ w.heap.size 28 #[.int .i64 0, .slice none 0 0, .slice none 0 0] (0, 0) _ rfl (blk_put (blk_put (blk_put HX2.out 0 _ rfl) 1 _ rfl) 2 _ rfl) Try.underlying28 rfl (by kernel_rfl)) rfl ?_
      exact tp_zero HX2.out (HB.out.trans (HBB.out.mono HB.out.size))
theorem mk_alloc {base B : Nat} {inp : Int} {os : List S79} {w0 W : World} (h : MkAt base B inp os w0 W) (o : Obj) : MkAt base B inp os w0 (W.alloc o) := by
  obtain ⟨u, hbx, hR, hB, hge, hbw⟩ := h
  exact ⟨u, blk_alloc hbx o, Kd.R_alloc hR o, hB.alloc (Nat.le_trans hbw hB.size) o, hge, hbw⟩
theorem mk_ints {base B : Nat} {W W1 : World} {v : Value} {xs : List Int} {bx : Array Value} (h : Kd.R (Kd.int .i64) 3 W base (fun _ => True) v xs) (hB : W.heap[B]? = some (.cells bx 74 (0, 0))) (hk : MkKeep B W W1) : Kd.R (Kd.int .i64) 3 W1 base (fun _ => True) v xs := by
  refine Kd.R_mono (Kd.R_step (Kd.R_bound h) (fun k hk1 _ => ?_)) (fun _ _ => trivial)
  obtain ⟨_, _, _, q, hq, cells, hc⟩ := hk1
  have hq3 : q = 3 := by simpa [Kd.int, Kd.scalar] using hq
  subst hq3
  have hne : k ≠ B := fun e => by subst e; rw [hB] at hc; injection hc with hc; injection hc with _ hc; exact absurd hc (by decide)
  rw [hk.1 k cells _ (by decide) hne hc, hc]
/-- The end of a plan that is made: its outputs in a row of their own, told. -/
theorem tp_end {w W : World} {r1 : Int} {r2 : List S79} {r3 : List Int} {r4 : Bool} {u1 u2 : Value} (hX : W.heap[w.heap.size]? = some (.cells #[.int .i64 0, .slice none 0 0, .slice none 0 0] 28 (0, 0))) (hB : Below w.heap.size w W) (h1 : Kd.R k79 79 W w.heap.size (fun _ => True) u1 r2) (h2 : Kd.R (Kd.int .i64) 3 W w.heap.size (fun _ => True) u2 r3) :
    TpPost w r1 r2 r3 r4 (.returned (.tuple #[.agg #[.int .i64 r1, u1, u2], .bool r4])) (((W.setCell ⟨w.heap.size, 0, none⟩ (.int .i64 r1)).setCell ⟨w.heap.size, 1, none⟩ u1).setCell ⟨w.heap.size, 2, none⟩ u2) := by
  have x1 := blk_put hX 0 (.int .i64 r1) rfl
  have x2 := blk_put x1 1 u1 rfl
  refine ⟨_, _, rfl, ?_, ?_, ((hB.setCell (p := ⟨w.heap.size, 0, none⟩) (Nat.le_refl _) _).setCell (p := ⟨w.heap.size, 1, none⟩) (Nat.le_refl _) _).setCell (p := ⟨w.heap.size, 2, none⟩) (Nat.le_refl _) _⟩
  · have a1 := Kd.R_mono (ok' := fun _ => True) (Kd.R_far (p := ⟨w.heap.size, 0, none⟩) (Kd.R_types h1 hX (by decide)) (fun _ hk => hk.2) (.int .i64 r1)) (fun _ _ => trivial)
    have a2 := Kd.R_mono (ok' := fun _ => True) (Kd.R_far (p := ⟨w.heap.size, 1, none⟩) (Kd.R_types a1 x1 (by decide)) (fun _ hk => hk.2) u1) (fun _ _ => trivial)
    exact Kd.R_mono (ok' := fun _ => True) (Kd.R_far (p := ⟨w.heap.size, 2, none⟩) (Kd.R_types a2 x2 (by decide)) (fun _ hk => hk.2) u2) (fun _ _ => trivial)
  · have a1 := Kd.R_mono (ok' := fun _ => True) (Kd.R_far (p := ⟨w.heap.size, 0, none⟩) (Kd.R_types h2 hX (by decide)) (fun _ hk => hk.2) (.int .i64 r1)) (fun _ _ => trivial)
    have a2 := Kd.R_mono (ok' := fun _ => True) (Kd.R_far (p := ⟨w.heap.size, 1, none⟩) (Kd.R_types a1 x1 (by decide)) (fun _ hk => hk.2) u1) (fun _ _ => trivial)
    exact Kd.R_mono (ok' := fun _ => True) (Kd.R_far (p := ⟨w.heap.size, 2, none⟩) (Kd.R_types a2 x2 (by decide)) (fun _ hk => hk.2) u2) (fun _ _ => trivial)
theorem mk_below {base B : Nat} {inp : Int} {os : List S79} {w0 W W1 : World} (h : MkAt base B inp os w0 W) (hb : Below W.heap.size W W1) : MkAt base B inp os w0 W1 := by
  obtain ⟨u, hbx, hR, hB, hge, hbw⟩ := h
  exact ⟨u, blk_below hbx hb, Kd.R_below hR hb, hB.trans (hb.mono (Nat.le_trans hbw hB.size)), hge, hbw⟩
set_option maxHeartbeats 4000000 in
theorem tp_yes (b off c0 : Nat) (l : List Int) (r1 : Int) (r2 : List S79) (r3 : List Int) (r4 : Bool) (w : World) (hC : Kd.C (Kd.int .i64) w (some ⟨b, off, none⟩) l.length l) (hcc : l.length ≤ c0) (hcell : ∀ j, j < l.length → w.cell? ⟨b, off + j, none⟩ = some (.int .i64 (l.getD j 0))) (h1 : 1 ≤ (l.length : Int) ∧ (l.length : Int) ≤ 6) (h2 : l.any tpBad = false) (h3 : Go.Lib.maxOf l ≠ 0) (hm : ∃ m : Nat, Go.Lib.maxOf l = (m : Int) ∧ m ≤ 1000000 ∧ Go.Lib.bitLen m ≤ 20) (hf : impl_told.f (l.length : Int) (tpAll l).1 [(tpAll l).2] = some (r1, r2, r3, r4)) :
    Calls Try.prog 9 #[.slice (some ⟨b, off, none⟩) l.length c0] w (TpPost w r1 r2 r3 r4) := by
  have hb : b < w.heap.size := World.block_lt_of_cell? _ _ (hcell 0 (by omega))
  obtain ⟨w1, hw1⟩ : ∃ w1, w.alloc (.cells #[.int .i64 0, .slice none 0 0, .slice none 0 0] 28) = w1 := ⟨_, rfl⟩
  have HB := Aside0.mk (show Below w.heap.size w w1 from hw1 ▸ below_alloc (Below.refl w.heap.size w) (.cells #[.int .i64 0, .slice none 0 0, .slice none 0 0] 28))
  have HX := Aside0.mk (show w1.heap[w.heap.size]? = some (.cells #[.int .i64 0, .slice none 0 0, .slice none 0 0] 28 (0, 0)) from hw1 ▸ blk_new w _)
  have HC := Aside0.mk (show Kd.C (Kd.int .i64) w1 (some ⟨b, off, none⟩) l.length l from hw1 ▸ Kd.C_alloc hC (.cells #[.int .i64 0, .slice none 0 0, .slice none 0 0] 28))
  have HCL := Aside0.mk (show ∀ j, j < l.length → w1.cell? ⟨b, off + j, none⟩ = some (.int .i64 (l.getD j 0)) from fun j hj => by rw [← hw1]; exact (World.cell?_alloc_lt _ _ ⟨b, off + j, none⟩ hb).trans (hcell j hj))
  have HBL := Aside0.mk (show b < w1.heap.size by rw [← hw1, World.size_alloc]; omega)
  have HW1 := Aside0.mk hw1
  have HIN := Aside0.mk (tp_in (l.length : Int) 1 6)
  rw [decide_eq_true h1.1, decide_eq_true h1.2] at HIN
  have HA := Aside0.mk (fun (W : World) (hW : Below w1.heap.size w1 W) => tp_any (some ⟨b, off, none⟩) c0 l W (Kd.C_below HC.out hW))
  rw [h2] at HA
  obtain ⟨m, hm1, hm2, hm3⟩ := hm
  have HM := Aside0.mk (fun (W : World) (hW : Below w1.heap.size w1 W) => tp_max (some ⟨b, off, none⟩) c0 l W (Kd.C_below HC.out hW) (by omega))
  rw [hm1] at HM h3
  have hmz : ((m : Int) == 0) = false := by simpa using h3
  have hmd : decide ((m : Int) = 0) = false := decide_eq_false h3
  have hmu : IntKind.u64.wrap (m : Int) = (m : Int) := by show (m : Int) % 18446744073709551616 = (m : Int); omega
  obtain ⟨J, hJ⟩ : ∃ J, Go.Lib.bitLen m = J := ⟨_, rfl⟩
  have HLen := Aside0.mk (show bits_Len.f (m : Int) = some (J : Int) by unfold bits_Len.f; rw [if_pos (by omega), Int.toNat_natCast, hJ])
  have HALL := Aside0.mk (show tpLoop (l.length : Int) l J ([], -1) = tpAll l by unfold tpAll; rw [hm1, Int.toNat_natCast, hJ])
  have HJ := Aside0.mk (show J ≤ 20 from hJ ▸ hm3)
  have HL := Aside0.mk h1
  have HBD := Aside0.mk (show ∀ x ∈ l, 0 ≤ x ∧ x ≤ 1000000 from fun x hx => by
    have := (List.any_eq_false.1 h2) x hx
    unfold tpBad at this
    simpa using this)
  have HF := Aside0.mk hf
  have HW20 := Aside0.mk (show wrap64 ((J : Int) - 1) = (J : Int) - 1 from IntWalk.wrap64_in _ (by have := HJ.out; omega))
  clear hC hcell h1 h2 h3 hm1 hm2 hm3 hJ hf hw1 hb
  go_enter Try.func9, Try.ntmps9
  go_wp2_with (rw [HW1.out]; go_at_call 27; refine (impl_in.calls _ _ _ _ _ HIN.out).mono ?_; rintro e w2 ⟨rfl, ⟨⟨q, rfl⟩⟩⟩; obtain ⟨w2, hw2⟩ : ∃ w2, w1.drewN q = w2 := ⟨_, rfl⟩; have HB1 := Aside0.mk (show Below w1.heap.size w1 w2 from hw2 ▸ pw_below_drewN (Below.refl _ w1) q); rw [hw2]; clear hw2)
  refine (HA.out _ HB1.out).mono ?_
  rintro e w3 ⟨rfl, ⟨q3, rfl⟩⟩
  obtain ⟨w3, hw3⟩ : ∃ w3, w2.drewN q3 = w3 := ⟨_, rfl⟩
  have HBB := Aside0.mk (show Below w1.heap.size w1 w3 from hw3 ▸ pw_below_drewN HB1.out q3)
  rw [hw3]
  clear hw3 HB1 HA
  go_wp2_with (go_at_call 30; refine (HM.out _ HBB.out).mono ?_; rintro e w4 ⟨rfl, hq_⟩; obtain rfl := hq_.symm)
  refine (newMaker_in _ _).mono ?_
  rintro e w5 ⟨rfl, rfl⟩
  have hMK := mk_new w1.heap.size (l.length : Int) w1 w3 HBB.out (Nat.le_refl _)
  obtain ⟨B, hB⟩ : ∃ B, w3.heap.size = B := ⟨_, rfl⟩
  rw [hB] at hMK ⊢
  obtain ⟨w5, hw5⟩ : ∃ w5, w3.alloc (.cells #[.int .i64 (l.length : Int), .slice none 0 0, .slice none 0 0] 74) = w5 := ⟨_, rfl⟩
  rw [hw5] at hMK ⊢
  have HMK := Aside0.mk hMK
  clear hB hw5 hMK HBB
  go_wp2_with (go_at_call 30; refine (HM.out _ HMK.out.choose_spec.2.2.1).mono ?_; rintro e w4 ⟨rfl, hq_⟩; obtain rfl := hq_.symm)
  refine (bits_Len.calls _ _ _ HLen.out).mono ?_
  rintro e w6 ⟨rfl, ⟨⟨q6, rfl⟩⟩⟩
  have HMK6 := Aside0.mk (mk_below HMK.out (pw_below_drewN (Below.refl _ w5) q6))
  clear HMK
  obtain ⟨w6, hw6⟩ : ∃ w6, w5.drewN q6 = w6 := ⟨_, rfl⟩
  rw [hw6] at HMK6 ⊢
  clear hw6 HM HIN HLen HW1
  go_wp2
  go_loopw [5, 6] (fun v5 v6 wr => ∃ (j : Nat) (s : List S79 × Int), v5 = .int .i64 s.2 ∧ v6 = .int .i64 ((j : Int) - 1) ∧ j ≤ 20 ∧ Aside0 (tpLoop (l.length : Int) l j s = tpAll l ∧ s.1.length + 7 * j ≤ 200) ∧ Aside0 (MkAt w1.heap.size B (l.length : Int) s.1 w1 wr)) (fun _ v _ => ((intOf v) + 1).toNat)
  case atStart => exact ⟨J, ([], -1), rfl, by rw [HW20.out], HJ.out, ⟨HALL.out, by have := HJ.out; simp; omega⟩, HMK6⟩
  case round =>
    clear HMK6
    obtain ⟨j, s, rfl, rfl, hj, HG, HMK⟩ := hrel
    cases j with
    | zero =>
      have hg := HG.out.1
      have HGG := Aside0.mk (show s = tpAll l from hg)
      clear hg HG hj
      have hsz := HMK.out.choose_spec.2.2.1.size
      have hbx := HMK.out.choose_spec.1
      have hOwn : Kd.R (Kd.int .i64) 3 (wr.alloc (.cells #[.int .i64 s.2] 3)) w1.heap.size (fun _ => True) (.slice (some ⟨wr.heap.size, 0, none⟩) 1 1) [s.2] := Kd.R_of_own (Go.Proofs.YtoiamgeaieefmaaW.PrintWords.own_lit wr w1.heap.size 3 .i64 [s.2] hsz (by simp)) (fun _ _ => trivial)
      have HMA := mk_alloc HMK.out (.cells #[.int .i64 s.2] 3)
      have HPL := Aside0.mk (plan_in w1.heap.size B (l.length : Int) s.1 w1 _ (some ⟨wr.heap.size, 0, none⟩) 1 1 HMA)
      have HOW := Aside0.mk (fun W1 (hk : MkKeep B (wr.alloc (.cells #[.int .i64 s.2] 3)) W1) => mk_ints hOwn (blk_alloc hbx _) hk)
      clear hsz hbx hOwn HMA HMK
      go_wp2_with (go_at_call 36; refine HPL.out.mono ?_; rintro e w8 ⟨u8, rfl, hr_, hb_, hk_⟩; have HR8 := Aside0.mk hr_; have HB8 := Aside0.mk hb_; have HO8 := Aside0.mk (HOW.out _ hk_); clear hr_ hb_ hk_)
      refine (impl_told.calls (l.length : Int) (fun _ => True) u8 s.1 (fun _ => True) (.slice (some ⟨wr.heap.size, 0, none⟩) 1 1) [s.2] r1 r2 r3 r4 w1 w8 HB8.out HR8.out HO8.out (by rw [HGG.out]; exact HF.out)).mono ?_
      rintro e w9 ⟨v1, v2, rfl, hr1, hr2, hb9, -⟩
      have HX9 := Aside0.mk (blk_below HX.out hb9)
      have HB9 := Aside0.mk (HB.out.trans (hb9.mono HB.out.size))
      have HR1 := Aside0.mk (Kd.R_lower (Kd.R_mono (ok' := fun _ => True) hr1 (fun _ _ => trivial)) HB.out.size)
      have HR2 := Aside0.mk (Kd.R_lower (Kd.R_mono (ok' := fun _ => True) hr2 (fun _ _ => trivial)) HB.out.size)
      clear hr1 hr2 hb9 HR8 HB8 HO8
      obtain ⟨z0, z1, z2, f0, f1, f2⟩ := tp_cells HX9.out
      obtain ⟨A1, c1, rfl⟩ := Kd.R_slice HR1.out
      obtain ⟨A2, c2, rfl⟩ := Kd.R_slice HR2.out
      go_wp2
      refine bodyPost_ret (results_ct rfl _ _ w.heap.size 28 #[.int .i64 r1, .slice A1 r2.length c1, .slice A2 r3.length c2] (0, 0) _ rfl (blk_put (blk_put (blk_put HX9.out 0 _ rfl) 1 _ rfl) 2 _ rfl) Try.underlying28 rfl (by kernel_rfl)) rfl ?_
      exact tp_end HX9.out HB9.out HR1.out HR2.out
    | succ j =>
      have hjz : ((j + 1 : Nat) : Int) - 1 = (j : Int) := by omega
      rw [hjz]
      have hj0 : decide (0 ≤ (j : Int)) = true := decide_eq_true (by omega)
      obtain ⟨s1, hs1⟩ : ∃ s1, tpSq (l.length : Int) s = s1 := ⟨_, rfl⟩
      have hg := HG.out.1
      unfold tpLoop at hg
      rw [hs1] at hg
      have HG1 := Aside0.mk hg
      by_cases h0 : 0 ≤ s.2
      · have hd : decide (0 ≤ s.2) = true := decide_eq_true h0
        have hs2 := hs1
        unfold tpSq at hs2
        rw [if_pos h0] at hs2
        have HLN := Aside0.mk (show s1.1.length + 7 * j + l.length ≤ 200 by have := HG.out.2; have := HL.out; rw [← hs2, List.length_append, List.length_singleton]; omega)
        have HMU := Aside0.mk (multiply_in w1.heap.size B (l.length : Int) s.1 w1 wr s.2 s.2 HMK.out (by have := HL.out; omega) (by have := HG.out.2; omega))
        subst hs2
        clear hs1 hg h0
        go_wp2_with (go_at_call 33; refine HMU.out.mono ?_; rintro e w7 ⟨rfl, hw_, -⟩; have HW7 := Aside0.mk hw_; clear hw_)
        go_loopw [5, 43] (fun v5 v43 wr => ∃ (k : Nat) (s2 : List S79 × Int), v5 = .int .i64 s2.2 ∧ v43 = .int .i64 (k : Int) ∧ k ≤ l.length ∧ Aside0 (tpLoop (l.length : Int) l j (tpRow (l.length : Int) j (l.drop k) k s2) = tpAll l ∧ s2.1.length + 7 * j + (l.length - k) ≤ 200) ∧ Aside0 (MkAt w1.heap.size B (l.length : Int) s2.1 w1 wr)) (fun _ v _ => l.length - (intOf v).toNat)
        case atStart => exact ⟨0, _, rfl, rfl, Nat.zero_le _, ⟨HG1.out, HLN.out⟩, HW7⟩
        case round =>
          clear HW7 HLN HG1 HG
          obtain ⟨k, s2, rfl, rfl, hk, HG2, HMK⟩ := hrel
          by_cases hlt : k < l.length
          · have hltz : (k : Int) < (l.length : Int) := by omega
            obtain ⟨x, hx⟩ : ∃ x, l[k] = x := ⟨_, rfl⟩
            have hg := HG2.out.1
            rw [List.drop_eq_getElem_cons hlt, hx] at hg
            unfold tpRow at hg
            have hc1 : wr.cell? ⟨b, off + k, none⟩ = some (.int .i64 x) := by
              refine (HMK.out.choose_spec.2.2.1.cell (p := ⟨b, off + k, none⟩) HBL.out).trans ((HCL.out k hlt).trans ?_)
              rw [List.getD_eq_getElem?_getD, List.getElem?_eq_getElem hlt, hx]; rfl
            have HI := Aside0.mk hlt
            have HXB := Aside0.mk (HBD.out x (by rw [← hx]; exact List.getElem_mem hlt))
            clear hx
            have hbt := tp_bit (x := x) (j := j) HXB.out.1 HXB.out.2
            by_cases hbit : x.toNat / 2 ^ j % 2 = 1
            · rw [decide_eq_true hbit] at hbt
              obtain ⟨s3, hs3⟩ : ∃ s3, mkTimes (l.length : Int) s2 (k : Int) = s3 := ⟨_, rfl⟩
              rw [if_pos hbit, hs3] at hg
              have HGN := Aside0.mk hg
              have HS3 := Aside0.mk (show s3.1.length ≤ s2.1.length + 1 by rw [← hs3]; unfold mkTimes; split <;> simp)
              have HTI := Aside0.mk (times_in w1.heap.size B (l.length : Int) s2.1 w1 wr s2.2 (k : Int) HMK.out (by have := HL.out; omega) (by have := HG2.out.2; omega) s3 hs3)
              clear hg hbit hs3 hlt hk
              go_wp2_with (go_at_call 34; refine HTI.out.mono ?_; rintro e w8 ⟨rfl, hw_, -⟩; have HW8 := Aside0.mk hw_; clear hw_)
              go_roundw
              case rel => exact ⟨k + 1, s3, rfl, tp_wrap HI.out HL.out.2, HI.out, ⟨HGN.out, by have := HG2.out.2; have := HS3.out; have := HI.out; omega⟩, HW8⟩
              case measure => exact tp_meas HI.out HL.out.2
            · rw [decide_eq_false hbit] at hbt
              rw [if_neg hbit] at hg
              have HGN := Aside0.mk hg
              clear hg hbit hlt hk
              go_wp2
              go_roundw
              case rel => exact ⟨k + 1, s2, rfl, tp_wrap HI.out HL.out.2, HI.out, ⟨HGN.out, by have := HG2.out.2; have := HI.out; omega⟩, HMK⟩
              case measure => exact tp_meas HI.out HL.out.2
          · obtain rfl : k = l.length := by omega
            have hg := HG2.out.1
            rw [List.drop_length] at hg
            unfold tpRow at hg
            have HGN := Aside0.mk hg
            clear hg hlt hk
            go_wp2
            go_roundw
            case rel => exact ⟨j, s2, rfl, rfl, by omega, ⟨HGN.out, by have := HG2.out.2; omega⟩, HMK⟩
            case measure => have := congrArg intOf (tp_down (j := j) (by omega)); simp only [intOf] at this ⊢; omega
      · have hd : decide (0 ≤ s.2) = false := decide_eq_false h0
        have hs2 := hs1
        unfold tpSq at hs2
        rw [if_neg h0] at hs2
        subst hs2
        have HLN := Aside0.mk (show s.1.length + 7 * j + l.length ≤ 200 by have := HG.out.2; have := HL.out; omega)
        have HW7 := HMK
        clear hs1 hg h0 HMK
        go_wp2
        go_loopw [5, 43] (fun v5 v43 wr => ∃ (k : Nat) (s2 : List S79 × Int), v5 = .int .i64 s2.2 ∧ v43 = .int .i64 (k : Int) ∧ k ≤ l.length ∧ Aside0 (tpLoop (l.length : Int) l j (tpRow (l.length : Int) j (l.drop k) k s2) = tpAll l ∧ s2.1.length + 7 * j + (l.length - k) ≤ 200) ∧ Aside0 (MkAt w1.heap.size B (l.length : Int) s2.1 w1 wr)) (fun _ v _ => l.length - (intOf v).toNat)
        case atStart => exact ⟨0, _, rfl, rfl, Nat.zero_le _, ⟨HG1.out, HLN.out⟩, HW7⟩
        case round =>
          clear HW7 HLN HG1 HG
          obtain ⟨k, s2, rfl, rfl, hk, HG2, HMK⟩ := hrel
          by_cases hlt : k < l.length
          · have hltz : (k : Int) < (l.length : Int) := by omega
            obtain ⟨x, hx⟩ : ∃ x, l[k] = x := ⟨_, rfl⟩
            have hg := HG2.out.1
            rw [List.drop_eq_getElem_cons hlt, hx] at hg
            unfold tpRow at hg
            have hc1 : wr.cell? ⟨b, off + k, none⟩ = some (.int .i64 x) := by
              refine (HMK.out.choose_spec.2.2.1.cell (p := ⟨b, off + k, none⟩) HBL.out).trans ((HCL.out k hlt).trans ?_)
              rw [List.getD_eq_getElem?_getD, List.getElem?_eq_getElem hlt, hx]; rfl
            have HI := Aside0.mk hlt
            have HXB := Aside0.mk (HBD.out x (by rw [← hx]; exact List.getElem_mem hlt))
            clear hx
            have hbt := tp_bit (x := x) (j := j) HXB.out.1 HXB.out.2
            by_cases hbit : x.toNat / 2 ^ j % 2 = 1
            · rw [decide_eq_true hbit] at hbt
              obtain ⟨s3, hs3⟩ : ∃ s3, mkTimes (l.length : Int) s2 (k : Int) = s3 := ⟨_, rfl⟩
              rw [if_pos hbit, hs3] at hg
              have HGN := Aside0.mk hg
              have HS3 := Aside0.mk (show s3.1.length ≤ s2.1.length + 1 by rw [← hs3]; unfold mkTimes; split <;> simp)
              have HTI := Aside0.mk (times_in w1.heap.size B (l.length : Int) s2.1 w1 wr s2.2 (k : Int) HMK.out (by have := HL.out; omega) (by have := HG2.out.2; omega) s3 hs3)
              clear hg hbit hs3 hlt hk
              go_wp2_with (go_at_call 34; refine HTI.out.mono ?_; rintro e w8 ⟨rfl, hw_, -⟩; have HW8 := Aside0.mk hw_; clear hw_)
              go_roundw
              case rel => exact ⟨k + 1, s3, rfl, tp_wrap HI.out HL.out.2, HI.out, ⟨HGN.out, by have := HG2.out.2; have := HS3.out; have := HI.out; omega⟩, HW8⟩
              case measure => exact tp_meas HI.out HL.out.2
            · rw [decide_eq_false hbit] at hbt
              rw [if_neg hbit] at hg
              have HGN := Aside0.mk hg
              clear hg hbit hlt hk
              go_wp2
              go_roundw
              case rel => exact ⟨k + 1, s2, rfl, tp_wrap HI.out HL.out.2, HI.out, ⟨HGN.out, by have := HG2.out.2; have := HI.out; omega⟩, HMK⟩
              case measure => exact tp_meas HI.out HL.out.2
          · obtain rfl : k = l.length := by omega
            have hg := HG2.out.1
            rw [List.drop_length] at hg
            unfold tpRow at hg
            have HGN := Aside0.mk hg
            clear hg hlt hk
            go_wp2
            go_roundw
            case rel => exact ⟨j, s2, rfl, rfl, by omega, ⟨HGN.out, by have := HG2.out.2; omega⟩, HMK⟩
            case measure => have := congrArg intOf (tp_down (j := j) (by omega)); simp only [intOf] at this ⊢; omega
end
theorem tp_fold : ∀ (l : List Int) (a : Int), l.foldl max a = a ∨ l.foldl max a ∈ l
  | [], a => .inl rfl
  | x :: l, a => by
    rw [List.foldl_cons]
    rcases tp_fold l (max a x) with h | h
    · rw [h]
      by_cases hx : x ≤ a
      · rw [Int.max_eq_left hx]; exact .inl rfl
      · rw [Int.max_eq_right (by omega)]; exact .inr (List.mem_cons_self ..)
    · exact .inr (List.mem_cons_of_mem _ h)
theorem tp_maxMem {l : List Int} (h : l ≠ []) : Go.Lib.maxOf l ∈ l := by
  unfold Go.Lib.maxOf
  cases l with
  | nil => exact absurd rfl h
  | cons x l =>
    rcases tp_fold (x :: l) x with e | e
    · show (x :: l).foldl max x ∈ _
      rw [e]; exact List.mem_cons_self ..
    · exact e
theorem tp_len20 : ∀ (f x : Nat), x < 2 ^ 20 → Go.Lib.bitLenAux f x ≤ 20 := by
  intro f x h
  have key : ∀ (f g x : Nat), x < 2 ^ g → Go.Lib.bitLenAux f x ≤ g := by
    intro f
    induction f with
    | zero => intro g x _; simp [Go.Lib.bitLenAux]
    | succ f ih =>
      intro g x hx
      unfold Go.Lib.bitLenAux
      split
      · omega
      · cases g with
        | zero => simp at hx; contradiction
        | succ g =>
          have := ih g (x / 2) (by rw [Nat.pow_succ] at hx; omega)
          omega
  exact key f 20 x h
def impl_TogetherPlan.f (l0 : List Int) : Option (Int × List S79 × List Int × Bool) := if (1 ≤ (l0.length : Int) ∧ (l0.length : Int) ≤ 6) ∧ l0.any tpBad = false ∧ Go.Lib.maxOf l0 ≠ 0 then impl_told.f (l0.length : Int) (tpAll l0).1 [(tpAll l0).2] else some (0, [], [], false)
theorem tp_maxOf {l : List Int} (h1 : 1 ≤ (l.length : Int)) (h2 : l.any tpBad = false) : ∃ m : Nat, Go.Lib.maxOf l = (m : Int) ∧ m ≤ 1000000 ∧ Go.Lib.bitLen m ≤ 20 := by
  have hm : Go.Lib.maxOf l ∈ l := tp_maxMem (fun e => by subst e; simp at h1)
  have := (List.any_eq_false.1 h2) _ hm
  unfold tpBad at this
  have hh : 0 ≤ Go.Lib.maxOf l ∧ Go.Lib.maxOf l ≤ 1000000 := by simpa using this
  refine ⟨(Go.Lib.maxOf l).toNat, by omega, by omega, tp_len20 64 _ (by omega)⟩
theorem impl_TogetherPlan.calls (A0 : Option Addr) (c0 : Nat) (l0 : List Int) (r1 : Int) (r2 : List S79) (r3 : List Int) (r4 : Bool) (w : World) (hr0 : Kd.C (Kd.int .i64) w A0 l0.length l0) (hc0 : l0.length ≤ c0) (h : impl_TogetherPlan.f l0 = some (r1, r2, r3, r4)) :
    Calls Try.prog 9 #[.slice A0 l0.length c0] w fun e w' => ∃ v0_ v1_ : Value, e = .returned (.tuple #[.agg #[.int .i64 r1, v0_, v1_], .bool r4]) ∧ Kd.R k79 79 w' w.heap.size (fun _ => True) v0_ r2 ∧ Kd.R (Kd.int .i64) 3 w' w.heap.size (fun _ => True) v1_ r3 ∧ Below w.heap.size w w' := by
  unfold impl_TogetherPlan.f at h
  by_cases hy : (1 ≤ (l0.length : Int) ∧ (l0.length : Int) ≤ 6) ∧ l0.any tpBad = false ∧ Go.Lib.maxOf l0 ≠ 0
  · rw [if_pos hy] at h
    rcases YtoiamgeaieefmaaHand.int_slice hr0 with h0 | ⟨b, off, rfl, _, hcells⟩
    · subst h0; simp at hy
    · exact tp_yes b off c0 l0 r1 r2 r3 r4 w hr0 hc0 hcells hy.1 hy.2.1 hy.2.2 (tp_maxOf hy.1.1 hy.2.1) h
  · rw [if_neg hy] at h
    simp only [Option.some.injEq, Prod.mk.injEq] at h
    obtain ⟨rfl, rfl, rfl, rfl⟩ := h
    exact tp_no A0 c0 l0 w hr0 hc0 hy

/-! ### spec_l1In: function 37 -/
def spec_l1In.f (a0 : Int) (a1 : Int) (a2 : Int) : Option (Bool) := if a0 ≥ a1 then (some (decide (a0 ≤ a2))) else (some false)
set_option maxHeartbeats 8000000 in
set_option maxRecDepth 100000 in
theorem spec_l1In.calls (a0 : Int) (a1 : Int) (a2 : Int) (r : Bool) (w : World) (h : spec_l1In.f a0 a1 a2 = some r) :
    Calls Try.prog 37 #[.int .i64 a0, .int .i64 a1, .int .i64 a2] w fun e w' => e = .returned (.bool r) ∧ Drawn0 w w' := by
  have H : (if a0 ≥ a1 then (some (decide (a0 ≤ a2))) else (some false)) = some r := h
  clear h
  by_cases c4 : a0 ≥ a1
  · rw [if_pos c4] at H
    have c4b0 : decide (a1 ≤ a0) = true := decide_eq_true c4
    clear c4
    obtain rfl := Option.some.inj H
    go_enter Try.func37, Try.ntmps37
    go_wp2
    go_ret
    exact ⟨by first | rfl | (simp; done) | (simp [*]; done), by repeat (first | exact Drawn0.refl _ | apply Drawn0.step)⟩
  · rw [if_neg c4] at H
    have c4b0 : decide (a1 ≤ a0) = false := decide_eq_false c4
    clear c4
    obtain rfl := Option.some.inj H
    go_enter Try.func37, Try.ntmps37
    go_wp2
    go_ret
    exact ⟨by first | rfl | (simp; done) | (simp [*]; done), by repeat (first | exact Drawn0.refl _ | apply Drawn0.step)⟩

/-! ### spec_l1All: function 38 -/
def spec_l1All.l0 : Nat → Int → Int → List Int → Int → Int → Option (Bool)
  | 0, _, _, _, _, _ => none
  | k + 1, x1, x2, x9, x10, x11 => if x11 < x10 then (if 0 ≤ x11 then (if x11 < (x9.length : Int) then ((spec_l1In.f (rd x9 x11) x1 x2).bind fun t166 => (if t166 = true then (spec_l1All.l0 k x1 x2 x9 x10 (wrap64 (x11 + 1))) else (some false))) else (none)) else (none)) else (some true)
def spec_l1All.f (k : Nat) (l0 : List Int) (a1 : Int) (a2 : Int) : Option (Bool) := spec_l1All.l0 k a1 a2 l0 (l0.length : Int) 0
theorem spec_l1All.mono_l : ∀ k, (∀ y0 y1 y2 y3 y4, LeO (spec_l1All.l0 k y0 y1 y2 y3 y4) (spec_l1All.l0 (k + 1) y0 y1 y2 y3 y4))
  | 0 => fun _ _ _ _ _ r h => by simp [spec_l1All.l0] at h
  | k + 1 => by
    have ih0 := spec_l1All.mono_l k
    · intro y0 y1 y2 y3 y4
      unfold spec_l1All.l0
      repeat' first
      | (with_reducible exact ih0 _ _ _ _ _)
      | (with_reducible exact LeO.refl _)
      | (with_reducible exact LeO.none _)
      | (with_reducible refine LeO.ite ?_ ?_)
      | (with_reducible refine LeO.bind ?_ (fun _ => ?_))
      | exact ih0 _ _ _ _ _
      | exact LeO.none _
      | refine LeO.ite ?_ ?_
      | refine LeO.bind ?_ (fun _ => ?_)
theorem spec_l1All.mono : ∀ a0 a1 a2 k, LeO (spec_l1All.f k a0 a1 a2) (spec_l1All.f (k + 1) a0 a1 a2) := by
  intro a0 a1 a2 k
  have ih0 := spec_l1All.mono_l k
  unfold spec_l1All.f
  repeat' first
      | (with_reducible exact ih0 _ _ _ _ _)
      | (with_reducible exact LeO.refl _)
      | (with_reducible exact LeO.none _)
      | (with_reducible refine LeO.ite ?_ ?_)
      | (with_reducible refine LeO.bind ?_ (fun _ => ?_))
      | exact ih0 _ _ _ _ _
      | exact LeO.none _
      | refine LeO.ite ?_ ?_
      | refine LeO.bind ?_ (fun _ => ?_)
set_option maxHeartbeats 8000000 in
set_option maxRecDepth 100000 in
theorem spec_l1All.calls (k : Nat) (A0 : Option Addr) (c0 : Nat) (l0 : List Int) (a1 : Int) (a2 : Int) (r : Bool) (w : World) (hr0 : Kd.C (Kd.int .i64) w A0 l0.length l0) (hc0 : l0.length ≤ c0) (h : spec_l1All.f k l0 a1 a2 = some r) :
    Calls Try.prog 38 #[.slice A0 l0.length c0, .int .i64 a1, .int .i64 a2] w fun e w' => e = .returned (.bool r) ∧ Drawn0 w w' := by
  have HR0 := Aside0.mk hr0
  have HC0 := Aside0.mk hc0
  clear hr0 hc0
  have H : (spec_l1All.l0 k a1 a2 l0 (l0.length : Int) 0) = some r := h
  clear h
  have H' := Aside0.mk H
  clear H
  go_enter Try.func38, Try.ntmps38
  go_wp2
  go_loopg [11] k (fun kq v11 w' => ∃ (x11_1 : Int), v11 = .int .i64 x11_1 ∧ Aside0 (spec_l1All.l0 kq a1 a2 l0 (l0.length : Int) x11_1 = some r) ∧ Aside0 (kq ≤ k) ∧ Drawn0 w w')
  case atStart => exact ⟨(0), (by first | rfl | (simp; done) | (simp [*]; done)), H', ⟨Nat.le_refl _⟩, by repeat (first | exact Drawn0.refl _ | apply Drawn0.step)⟩
  case round =>
    clear H'
    try clear p2
    try clear c3
    obtain ⟨x11_1, rfl, HA, HK1, ⟨m1, rfl⟩⟩ := hrel
    cases gk with
    | zero => exact absurd HA.out (by simp [spec_l1All.l0])
    | succ k1 =>
      have H := HA.out
      clear HA
      simp only [spec_l1All.l0] at H
      by_cases c4 : x11_1 < (l0.length : Int)
      · rw [if_pos c4] at H
        have c4b0 : decide (x11_1 < (l0.length : Int)) = true := decide_eq_true c4
        clear c4
        by_cases c5 : 0 ≤ x11_1
        · rw [if_pos c5] at H
          have c5b0 : decide (0 ≤ x11_1) = true := decide_eq_true c5
          clear c5
          by_cases c6 : x11_1 < (l0.length : Int)
          · rw [if_pos c6] at H
            have c6b0 : decide (x11_1 < (l0.length : Int)) = true := decide_eq_true c6
            clear c6
            replace H := Option.bind_eq_some_iff.mp H
            obtain ⟨t166, A70, H⟩ := H
            replace H : (if t166 = true then (spec_l1All.l0 k1 a1 a2 l0 (l0.length : Int) (wrap64 (x11_1 + 1))) else (some false)) = some r := H
            have A7 := Aside0.mk A70
            clear A70
            by_cases c8 : t166 = true
            · subst c8
              have H1 : (spec_l1All.l0 k1 a1 a2 l0 (l0.length : Int) (wrap64 (x11_1 + 1))) = some r := by rw [if_pos rfl] at H; exact H
              clear H
              have H := H1
              clear H1
              have H' := Aside0.mk H
              clear H
              have p165 : 0 ≤ (x11_1 : Int) := of_decide_eq_true (by first | (with_reducible assumption) | assumption)
              have q165 : x11_1 < (l0.length : Int) := of_decide_eq_true (by first | (with_reducible assumption) | assumption)
              obtain ⟨ad165, e165, hx165_0⟩ := Kd.at_int HR0.out x11_1 p165 q165
              cases e165
              replace p165 := eq_true p165
              replace q165 := eq_true q165
              go_wp2_with (first | ((with_reducible refine gate_callee (f := 37) rfl ?_); refine goesL_ (some 18) rfl rfl Try.func37 (by kernel_rfl) rfl #[.int .i64 (rd l0 x11_1), .int .i64 a1, .int .i64 a2] rfl (by (try simp only [List.map_toArray, List.map_cons, List.map_nil]); first | done | rfl | (simp only [List.length_drop, List.length_take]; rfl)) ?_; (with_reducible refine (spec_l1In.calls (rd l0 x11_1) a1 a2 true _ A7.out).mono ?_); rintro e w' ⟨rfl, ⟨nd, rfl⟩⟩; refine ⟨_, rfl, ?_⟩))
              go_roundg k1
              case measure => have := HK1.out; omega
              case rel => exact ⟨(wrap64 (x11_1 + 1)), (by first | rfl | (simp; done) | (simp [*]; done)), H', ⟨by have := HK1.out; omega⟩, by repeat (first | exact Drawn0.refl _ | apply Drawn0.step)⟩
            · replace c8 := Bool.eq_false_iff.mpr c8
              subst c8
              have H1 : (some false) = some r := by rw [if_neg (show ¬ (false = true) by decide)] at H; exact H
              clear H
              have H := H1
              clear H1
              obtain rfl := Option.some.inj H
              have p165 : 0 ≤ (x11_1 : Int) := of_decide_eq_true (by first | (with_reducible assumption) | assumption)
              have q165 : x11_1 < (l0.length : Int) := of_decide_eq_true (by first | (with_reducible assumption) | assumption)
              obtain ⟨ad165, e165, hx165_0⟩ := Kd.at_int HR0.out x11_1 p165 q165
              cases e165
              replace p165 := eq_true p165
              replace q165 := eq_true q165
              go_wp2_with (first | ((with_reducible refine gate_callee (f := 37) rfl ?_); refine goesL_ (some 18) rfl rfl Try.func37 (by kernel_rfl) rfl #[.int .i64 (rd l0 x11_1), .int .i64 a1, .int .i64 a2] rfl (by (try simp only [List.map_toArray, List.map_cons, List.map_nil]); first | done | rfl | (simp only [List.length_drop, List.length_take]; rfl)) ?_; (with_reducible refine (spec_l1In.calls (rd l0 x11_1) a1 a2 false _ A7.out).mono ?_); rintro e w' ⟨rfl, ⟨nd, rfl⟩⟩; refine ⟨_, rfl, ?_⟩))
              go_ret
              exact ⟨by first | rfl | (simp; done) | (simp [*]; done), by repeat (first | exact Drawn0.refl _ | apply Drawn0.step)⟩
          · rw [if_neg c6] at H
            exact absurd H (by simp)
        · rw [if_neg c5] at H
          exact absurd H (by simp)
      · rw [if_neg c4] at H
        have c4b0 : decide (x11_1 < (l0.length : Int)) = false := decide_eq_false c4
        clear c4
        obtain rfl := Option.some.inj H
        go_wp2
        go_ret
        exact ⟨by first | rfl | (simp; done) | (simp [*]; done), by repeat (first | exact Drawn0.refl _ | apply Drawn0.step)⟩

/-! ### spec_l1Most: function 66 -/
def spec_l1Most.f (a0 : Int) (a1 : Int) : Option (Int) := if a0 > a1 then (some a0) else (some a1)
set_option maxHeartbeats 8000000 in
set_option maxRecDepth 100000 in
theorem spec_l1Most.calls (a0 : Int) (a1 : Int) (r : Int) (w : World) (h : spec_l1Most.f a0 a1 = some r) :
    Calls Try.prog 66 #[.int .i64 a0, .int .i64 a1] w fun e w' => e = .returned (.int .i64 r) ∧ Drawn0 w w' := by
  have H : (if a0 > a1 then (some a0) else (some a1)) = some r := h
  clear h
  by_cases c3 : a0 > a1
  · rw [if_pos c3] at H
    have c3b0 : decide (a1 < a0) = true := decide_eq_true c3
    clear c3
    obtain rfl := Option.some.inj H
    go_enter Try.func66, Try.ntmps66
    go_wp2
    go_ret
    exact ⟨by first | rfl | (simp; done) | (simp [*]; done), by repeat (first | exact Drawn0.refl _ | apply Drawn0.step)⟩
  · rw [if_neg c3] at H
    have c3b0 : decide (a1 < a0) = false := decide_eq_false c3
    clear c3
    obtain rfl := Option.some.inj H
    go_enter Try.func66, Try.ntmps66
    go_wp2
    go_ret
    exact ⟨by first | rfl | (simp; done) | (simp [*]; done), by repeat (first | exact Drawn0.refl _ | apply Drawn0.step)⟩

/-! ### spec_meGreatest: function 39 -/
def spec_meGreatest.l0 : Nat → Int → List Int → Int → Int → Option (Int)
  | 0, _, _, _, _ => none
  | k + 1, x3, x6, x7, x8 => if x8 < x7 then (if 0 ≤ x8 then (if x8 < (x6.length : Int) then ((spec_l1Most.f x3 (rd x6 x8)).bind fun t168 => (spec_meGreatest.l0 k t168 x6 x7 (wrap64 (x8 + 1)))) else (none)) else (none)) else (some x3)
def spec_meGreatest.f (k : Nat) (l0 : List Int) : Option (Int) := spec_meGreatest.l0 k 0 l0 (l0.length : Int) 0
theorem spec_meGreatest.mono_l : ∀ k, (∀ y0 y1 y2 y3, LeO (spec_meGreatest.l0 k y0 y1 y2 y3) (spec_meGreatest.l0 (k + 1) y0 y1 y2 y3))
  | 0 => fun _ _ _ _ r h => by simp [spec_meGreatest.l0] at h
  | k + 1 => by
    have ih0 := spec_meGreatest.mono_l k
    · intro y0 y1 y2 y3
      unfold spec_meGreatest.l0
      repeat' first
      | (with_reducible exact ih0 _ _ _ _)
      | (with_reducible exact LeO.refl _)
      | (with_reducible exact LeO.none _)
      | (with_reducible refine LeO.ite ?_ ?_)
      | (with_reducible refine LeO.bind ?_ (fun _ => ?_))
      | exact ih0 _ _ _ _
      | exact LeO.none _
      | refine LeO.ite ?_ ?_
      | refine LeO.bind ?_ (fun _ => ?_)
theorem spec_meGreatest.mono : ∀ a0 k, LeO (spec_meGreatest.f k a0) (spec_meGreatest.f (k + 1) a0) := by
  intro a0 k
  have ih0 := spec_meGreatest.mono_l k
  unfold spec_meGreatest.f
  repeat' first
      | (with_reducible exact ih0 _ _ _ _)
      | (with_reducible exact LeO.refl _)
      | (with_reducible exact LeO.none _)
      | (with_reducible refine LeO.ite ?_ ?_)
      | (with_reducible refine LeO.bind ?_ (fun _ => ?_))
      | exact ih0 _ _ _ _
      | exact LeO.none _
      | refine LeO.ite ?_ ?_
      | refine LeO.bind ?_ (fun _ => ?_)
set_option maxHeartbeats 8000000 in
set_option maxRecDepth 100000 in
theorem spec_meGreatest.calls (k : Nat) (A0 : Option Addr) (c0 : Nat) (l0 : List Int) (r : Int) (w : World) (hr0 : Kd.C (Kd.int .i64) w A0 l0.length l0) (hc0 : l0.length ≤ c0) (h : spec_meGreatest.f k l0 = some r) :
    Calls Try.prog 39 #[.slice A0 l0.length c0] w fun e w' => e = .returned (.int .i64 r) ∧ Drawn0 w w' := by
  have HR0 := Aside0.mk hr0
  have HC0 := Aside0.mk hc0
  clear hr0 hc0
  have H : (spec_meGreatest.l0 k 0 l0 (l0.length : Int) 0) = some r := h
  clear h
  have H' := Aside0.mk H
  clear H
  go_enter Try.func39, Try.ntmps39
  go_wp2
  go_loopg [3, 8] k (fun kq v3 v8 w' => ∃ (x3_1 : Int) (x8_1 : Int), v3 = .int .i64 x3_1 ∧ v8 = .int .i64 x8_1 ∧ Aside0 (spec_meGreatest.l0 kq x3_1 l0 (l0.length : Int) x8_1 = some r) ∧ Aside0 (kq ≤ k) ∧ Drawn0 w w')
  case atStart => exact ⟨(0), (0), (by first | rfl | (simp; done) | (simp [*]; done)), (by first | rfl | (simp; done) | (simp [*]; done)), H', ⟨Nat.le_refl _⟩, by repeat (first | exact Drawn0.refl _ | apply Drawn0.step)⟩
  case round =>
    clear H'
    obtain ⟨x3_1, x8_1, rfl, rfl, HA, HK1, ⟨m1, rfl⟩⟩ := hrel
    cases gk with
    | zero => exact absurd HA.out (by simp [spec_meGreatest.l0])
    | succ k1 =>
      have H := HA.out
      clear HA
      simp only [spec_meGreatest.l0] at H
      by_cases c2 : x8_1 < (l0.length : Int)
      · rw [if_pos c2] at H
        have c2b0 : decide (x8_1 < (l0.length : Int)) = true := decide_eq_true c2
        clear c2
        by_cases c3 : 0 ≤ x8_1
        · rw [if_pos c3] at H
          have c3b0 : decide (0 ≤ x8_1) = true := decide_eq_true c3
          clear c3
          by_cases c4 : x8_1 < (l0.length : Int)
          · rw [if_pos c4] at H
            have c4b0 : decide (x8_1 < (l0.length : Int)) = true := decide_eq_true c4
            clear c4
            replace H := Option.bind_eq_some_iff.mp H
            obtain ⟨t168, A50, H⟩ := H
            replace H : (spec_meGreatest.l0 k1 t168 l0 (l0.length : Int) (wrap64 (x8_1 + 1))) = some r := H
            have A5 := Aside0.mk A50
            clear A50
            have H' := Aside0.mk H
            clear H
            have p167 : 0 ≤ (x8_1 : Int) := of_decide_eq_true (by first | (with_reducible assumption) | assumption)
            have q167 : x8_1 < (l0.length : Int) := of_decide_eq_true (by first | (with_reducible assumption) | assumption)
            obtain ⟨ad167, e167, hx167_0⟩ := Kd.at_int HR0.out x8_1 p167 q167
            cases e167
            replace p167 := eq_true p167
            replace q167 := eq_true q167
            go_wp2_with (first | ((with_reducible refine gate_callee (f := 66) rfl ?_); refine goesL_ (some 14) rfl rfl Try.func66 (by kernel_rfl) rfl #[.int .i64 x3_1, .int .i64 (rd l0 x8_1)] rfl (by (try simp only [List.map_toArray, List.map_cons, List.map_nil]); first | done | rfl | (simp only [List.length_drop, List.length_take]; rfl)) ?_; (with_reducible refine (spec_l1Most.calls x3_1 (rd l0 x8_1) t168 _ A5.out).mono ?_); rintro e w' ⟨rfl, ⟨nd, rfl⟩⟩; refine ⟨_, rfl, ?_⟩))
            go_roundg k1
            case measure => have := HK1.out; omega
            case rel => exact ⟨(t168), (wrap64 (x8_1 + 1)), (by first | rfl | (simp; done) | (simp [*]; done)), (by first | rfl | (simp; done) | (simp [*]; done)), H', ⟨by have := HK1.out; omega⟩, by repeat (first | exact Drawn0.refl _ | apply Drawn0.step)⟩
          · rw [if_neg c4] at H
            exact absurd H (by simp)
        · rw [if_neg c3] at H
          exact absurd H (by simp)
      · rw [if_neg c2] at H
        have c2b0 : decide (x8_1 < (l0.length : Int)) = false := decide_eq_false c2
        clear c2
        obtain rfl := Option.some.inj H
        go_wp2
        go_ret
        exact ⟨by first | rfl | (simp; done) | (simp [*]; done), by repeat (first | exact Drawn0.refl _ | apply Drawn0.step)⟩

/-! ### spec_chLength: function 40 -/
def spec_chLength.l0 : Nat → Int → Int → Option (Int)
  | 0, _, _ => none
  | k + 1, x0, x3 => if 0 ≤ x3 then (if (shr .i64 x0 x3) > 0 then (spec_chLength.l0 k x0 (wrap64 (x3 + 1))) else (some x3)) else (none)
def spec_chLength.f (k : Nat) (a0 : Int) : Option (Int) := spec_chLength.l0 k a0 0
theorem spec_chLength.mono_l : ∀ k, (∀ y0 y1, LeO (spec_chLength.l0 k y0 y1) (spec_chLength.l0 (k + 1) y0 y1))
  | 0 => fun _ _ r h => by simp [spec_chLength.l0] at h
  | k + 1 => by
    have ih0 := spec_chLength.mono_l k
    · intro y0 y1
      unfold spec_chLength.l0
      repeat' first
      | (with_reducible exact ih0 _ _)
      | (with_reducible exact LeO.refl _)
      | (with_reducible exact LeO.none _)
      | (with_reducible refine LeO.ite ?_ ?_)
      | (with_reducible refine LeO.bind ?_ (fun _ => ?_))
      | exact ih0 _ _
      | exact LeO.none _
      | refine LeO.ite ?_ ?_
      | refine LeO.bind ?_ (fun _ => ?_)
theorem spec_chLength.mono : ∀ a0 k, LeO (spec_chLength.f k a0) (spec_chLength.f (k + 1) a0) := by
  intro a0 k
  have ih0 := spec_chLength.mono_l k
  unfold spec_chLength.f
  repeat' first
      | (with_reducible exact ih0 _ _)
      | (with_reducible exact LeO.refl _)
      | (with_reducible exact LeO.none _)
      | (with_reducible refine LeO.ite ?_ ?_)
      | (with_reducible refine LeO.bind ?_ (fun _ => ?_))
      | exact ih0 _ _
      | exact LeO.none _
      | refine LeO.ite ?_ ?_
      | refine LeO.bind ?_ (fun _ => ?_)
set_option maxHeartbeats 8000000 in
set_option maxRecDepth 100000 in
theorem spec_chLength.calls (k : Nat) (a0 : Int) (r : Int) (w : World) (h : spec_chLength.f k a0 = some r) :
    Calls Try.prog 40 #[.int .i64 a0] w fun e w' => e = .returned (.int .i64 r) ∧ Drawn0 w w' := by
  have H : (spec_chLength.l0 k a0 0) = some r := h
  clear h
  have H' := Aside0.mk H
  clear H
  go_enter Try.func40, Try.ntmps40
  go_wp2
  go_loopg [3] k (fun kq v3 w' => ∃ (x3_1 : Int), v3 = .int .i64 x3_1 ∧ Aside0 (spec_chLength.l0 kq a0 x3_1 = some r) ∧ Aside0 (kq ≤ k) ∧ Drawn0 w w')
  case atStart => exact ⟨(0), (by first | rfl | (simp; done) | (simp [*]; done)), H', ⟨Nat.le_refl _⟩, by repeat (first | exact Drawn0.refl _ | apply Drawn0.step)⟩
  case round =>
    clear H'
    obtain ⟨x3_1, rfl, HA, HK1, ⟨m1, rfl⟩⟩ := hrel
    cases gk with
    | zero => exact absurd HA.out (by simp [spec_chLength.l0])
    | succ k1 =>
      have H := HA.out
      clear HA
      simp only [spec_chLength.l0] at H
      by_cases c2 : 0 ≤ x3_1
      · rw [if_pos c2] at H
        have c2b0 := eq_true c2
        have c2b1 : decide (0 ≤ x3_1) = true := decide_eq_true c2
        clear c2
        obtain ⟨ji3, hji3⟩ : ∃ j_ : Int, (shr .i64 a0 x3_1) = j_ := ⟨_, rfl⟩
        replace H : (if (ji3) > 0 then (spec_chLength.l0 k1 a0 (wrap64 (x3_1 + 1))) else (some x3_1)) = some r := by first | (rw [hji3] at H; exact H) | (simp only [hji3] at H ⊢; exact H)
        have hji3_ : (a0 / 2 ^ min x3_1.toNat 64) = ji3 := hji3
        have hji3z : x3_1 ≤ 64 → (a0 / 2 ^ x3_1.toNat) = ji3 := shr_small hji3
        by_cases c4 : (ji3) > 0
        · rw [if_pos c4] at H
          have c4b0 : decide (0 < (ji3)) = true := decide_eq_true c4
          clear c4
          have H' := Aside0.mk H
          clear H
          go_wp2
          go_roundg k1
          case measure => have := HK1.out; omega
          case rel => exact ⟨(wrap64 (x3_1 + 1)), (by first | rfl | (simp; done) | (simp [*]; done)), H', ⟨by have := HK1.out; omega⟩, by repeat (first | exact Drawn0.refl _ | apply Drawn0.step)⟩
        · rw [if_neg c4] at H
          have c4b0 : decide (0 < (ji3)) = false := decide_eq_false c4
          clear c4
          obtain rfl := Option.some.inj H
          go_wp2
          go_ret
          exact ⟨by first | rfl | (simp; done) | (simp only [← hji3] <;> (first | rfl | simp)) | (simp [*]; done), by repeat (first | exact Drawn0.refl _ | apply Drawn0.step)⟩
      · rw [if_neg c2] at H
        exact absurd H (by simp)

/-! ### spec_l1Least: function 88 -/
def spec_l1Least.f (a0 : Int) (a1 : Int) : Option (Int) := if a0 < a1 then (some a0) else (some a1)
set_option maxHeartbeats 8000000 in
set_option maxRecDepth 100000 in
theorem spec_l1Least.calls (a0 : Int) (a1 : Int) (r : Int) (w : World) (h : spec_l1Least.f a0 a1 = some r) :
    Calls Try.prog 88 #[.int .i64 a0, .int .i64 a1] w fun e w' => e = .returned (.int .i64 r) ∧ Drawn0 w w' := by
  have H : (if a0 < a1 then (some a0) else (some a1)) = some r := h
  clear h
  by_cases c3 : a0 < a1
  · rw [if_pos c3] at H
    have c3b0 : decide (a0 < a1) = true := decide_eq_true c3
    clear c3
    obtain rfl := Option.some.inj H
    go_enter Try.func88, Try.ntmps88
    go_wp2
    go_ret
    exact ⟨by first | rfl | (simp; done) | (simp [*]; done), by repeat (first | exact Drawn0.refl _ | apply Drawn0.step)⟩
  · rw [if_neg c3] at H
    have c3b0 : decide (a0 < a1) = false := decide_eq_false c3
    clear c3
    obtain rfl := Option.some.inj H
    go_enter Try.func88, Try.ntmps88
    go_wp2
    go_ret
    exact ⟨by first | rfl | (simp; done) | (simp [*]; done), by repeat (first | exact Drawn0.refl _ | apply Drawn0.step)⟩

/-! ### spec_plStep: function 67 -/
def spec_plStep.f (a0 : Int) (a1 : Int) : Option (Int × Int) := (spec_l1Least.f a0 a1).bind fun t170 => ((spec_l1Most.f a0 a1).bind fun t171 => (some (t170, t171)))
set_option maxHeartbeats 8000000 in
set_option maxRecDepth 100000 in
theorem spec_plStep.calls (a0 : Int) (a1 : Int) (r1 : Int) (r2 : Int) (w : World) (h : spec_plStep.f a0 a1 = some (r1, r2)) :
    Calls Try.prog 67 #[.int .i64 a0, .int .i64 a1] w fun e w' => e = .returned (.agg #[.int .i64 r1, .int .i64 r2]) ∧ Below w.heap.size w w' := by
  have hu79 := Try.underlying79
  have HB := Aside0.mk (Below.refl w.heap.size w)
  have H : ((spec_l1Least.f a0 a1).bind fun t170 => ((spec_l1Most.f a0 a1).bind fun t171 => (some (t170, t171)))) = some (r1, r2) := h
  clear h
  replace H := Option.bind_eq_some_iff.mp H
  obtain ⟨t170, A30, H⟩ := H
  replace H : ((spec_l1Most.f a0 a1).bind fun t171 => (some (t170, t171))) = some (r1, r2) := H
  have A3 := Aside0.mk A30
  clear A30
  replace H := Option.bind_eq_some_iff.mp H
  obtain ⟨t171, A40, H⟩ := H
  replace H : (some (t170, t171)) = some (r1, r2) := H
  have A4 := Aside0.mk A40
  clear A40
  simp only [Option.some.injEq, Prod.mk.injEq] at H
  obtain ⟨rfl, rfl⟩ := H
  go_enter Try.func67, Try.ntmps67
  go_wp2_with (first | ((with_reducible refine gate_dst (N := 4) rfl ?_); refine box_event ?hg (N := 4) ?hd (cs := #[.int .i64 0, .int .i64 0]) (t := 79) ?hr ?_; (case hd => rfl); (case hg => rfl); (case hr => first | (go_simp; done) | (go_simp; rfl)); intro gb169 hg w5 hbox hb; have n0_ := Aside0.mk (below_step (by repeat (first | (with_reducible first | exact HB.out | apply below_alloc | apply pw_below_drewN | apply below_drew1) | exact HB.out)) hb); have n1_ := Aside0.mk (hbox); have n2_ := Aside0.mk ((by rw [hg]; exact (below_size (by repeat (first | (with_reducible first | exact HB.out | apply below_alloc | apply pw_below_drewN | apply below_drew1) | exact HB.out))) : w.heap.size ≤ gb169)); have n3_ := Aside0.mk ((by rw [hg]; exact (below_size (by repeat (first | (with_reducible first | exact HB.out | apply below_alloc | apply pw_below_drewN | apply below_drew1) | exact HB.out))) : w.heap.size ≤ gb169)); clear HB; have HB := n0_; have BK169 := n1_; have GW169 := n2_; have GE169 := n3_; clear n0_ n1_ n2_ n3_; clear hb hbox hg) | ((with_reducible refine gate_callee (f := 88) rfl ?_); refine goesL_ (some 7) rfl rfl Try.func88 (by kernel_rfl) rfl #[.int .i64 a0, .int .i64 a1] rfl (by (try simp only [List.map_toArray, List.map_cons, List.map_nil]); first | done | rfl | (simp only [List.length_drop, List.length_take]; rfl)) ?_; (with_reducible refine (spec_l1Least.calls a0 a1 t170 _ A3.out).mono ?_); rintro e w' ⟨rfl, ⟨nd, rfl⟩⟩; refine ⟨_, rfl, ?_⟩; (try (rw [drewN_self w5]; generalize hq_ : World.drewN w5 _ = w5; have n0_ : Aside0 (w5.heap[gb169]? = some (.cells #[.int .i64 0, .int .i64 0] 79 (0, 0))) := ⟨by rw [← hq_]; exact (by (with_reducible repeat (first | refine blk_drewN ?_ _ | refine blk_drew ?_ | refine blk_alloc ?_ _)); exact BK169.out)⟩; have n1_ : Aside0 (Below w.heap.size w w5) := ⟨by rw [← hq_]; exact (by repeat (first | (with_reducible first | exact HB.out | apply below_alloc | apply pw_below_drewN | apply below_drew1 | refine below_set ?_ GE169.out) | exact HB.out))⟩; clear BK169 HB hq_; have BK169 := n0_; have HB := n1_; clear n0_ n1_))) | ((with_reducible refine gate_callee (f := 66) rfl ?_); refine goesL_ (some 10) rfl rfl Try.func66 (by kernel_rfl) rfl #[.int .i64 a0, .int .i64 a1] rfl (by (try simp only [List.map_toArray, List.map_cons, List.map_nil]); first | done | rfl | (simp only [List.length_drop, List.length_take]; rfl)) ?_; (with_reducible refine (spec_l1Most.calls a0 a1 t171 _ A4.out).mono ?_); rintro e w' ⟨rfl, ⟨nd, rfl⟩⟩; refine ⟨_, rfl, ?_⟩; (try (rw [drewN_self w5]; generalize hq_ : World.drewN w5 _ = w5; have n0_ : Aside0 (w5.heap[gb169]? = some (.cells #[.int .i64 0, .int .i64 0] 79 (0, 0))) := ⟨by rw [← hq_]; exact (by (with_reducible repeat (first | refine blk_drewN ?_ _ | refine blk_drew ?_ | refine blk_alloc ?_ _)); exact BK169.out)⟩; have n1_ : Aside0 (Below w.heap.size w w5) := ⟨by rw [← hq_]; exact (by repeat (first | (with_reducible first | exact HB.out | apply below_alloc | apply pw_below_drewN | apply below_drew1 | refine below_set ?_ GE169.out) | exact HB.out))⟩; clear BK169 HB hq_; have BK169 := n0_; have HB := n1_; clear n0_ n1_)); have hcz6_0 : w5.cell? ⟨gb169, 0, none⟩ = some (.int .i64 0) := (blk_cell BK169.out 0).trans rfl; have hcz6_1 : w5.cell? ⟨gb169, 1, none⟩ = some (.int .i64 0) := (blk_cell BK169.out 1).trans rfl; have hfz6_0 := blk_frozen BK169.out 0; have hfz6_1 := blk_frozen BK169.out 1))
  refine bodyPost_ret (results_cell_row rfl _ _ gb169 79 #[.int .i64 t170, .int .i64 t171] (0, 0) _ rfl (by (with_reducible repeat (first | refine blk_drewN ?_ _ | refine blk_drew ?_ | refine blk_alloc ?_ _)); refine blk_put (cs := #[.int .i64 t170, .int .i64 0]) ?_ 1 _ rfl; (with_reducible repeat (first | refine blk_drewN ?_ _ | refine blk_drew ?_ | refine blk_alloc ?_ _)); refine blk_put (cs := #[.int .i64 0, .int .i64 0]) ?_ 0 _ rfl; (with_reducible repeat (first | refine blk_drewN ?_ _ | refine blk_drew ?_ | refine blk_alloc ?_ _)); exact BK169.out) Try.underlying79 rfl (by kernel_rfl)) rfl ?_
  exact ⟨by first | rfl | (simp [errW_none, errW_some] <;> rfl) | (simp [*, errW_none, errW_some] <;> rfl), by repeat (first | (with_reducible first | exact HB.out | apply below_alloc | apply pw_below_drewN | apply below_drew1 | refine below_set ?_ GE169.out) | exact HB.out)⟩

end Go.Proofs.Ytoiamgeaieefmaa.PFnPowersTogether
