-- Of the print's words and parts, pruned by prune.py, a program of this session: what nothing of this claim names is left out.
import Derived.Test.YtoiamgeaieefmaaPFnPowersTogetherx0
import Derived.Test.YtoiamgeaieefmaaPFnPowersTogetherx2
namespace Go.Proofs.Ytoiamgeaieefmaa.PFnPowersTogether
open Go.RowKit Go.Proofs.YtoiamgeaieefmaaW.PrintWords Go.Proofs.YtoiamgeaieefmaaW.PrintLast Go.Proofs.YtoiamgeaieefmaaW.PrintMore
attribute [local go_sem] max2_int min2_int max_two min_two max_three min_three max_four min_four   -- for this text's walks alone
set_option linter.unusedVariables false
set_option linter.unusedSimpArgs false

/-! ### impl_maker_multiply: function 33, the maker of plans -/
/-- What lies of a maker: its box, and the row of steps of its own. -/
def MkAt (base B : Nat) (inp : Int) (os : List S79) (w0 W : World) : Prop := ∃ u, W.heap[B]? = some (.cells #[.int .i64 inp, u, .slice none 0 0] 74 (0, 0)) ∧ Kd.R k79 79 W base (fun _ => True) u os ∧ Below base w0 W ∧ base ≤ B ∧ base ≤ w0.heap.size
/-- What is kept by what is written: all blocks but the maker's box and those of steps. -/
def MkKeep (B : Nat) (W W1 : World) : Prop := (∀ k cs t, 79 ≠ t → k ≠ B → W.heap[k]? = some (.cells cs t (0, 0)) → W1.heap[k]? = some (.cells cs t (0, 0))) ∧ KeepsOthers W W1
theorem mk_keep_trans {B : Nat} {W W1 W2 : World} (h : MkKeep B W W1) (h2 : MkKeep B W1 W2) : MkKeep B W W2 := ⟨fun k cs t ht hk e => h2.1 k cs t ht hk (h.1 k cs t ht hk e), h.2.trans h2.2⟩
theorem mk_keep_below {B n : Nat} {W W1 : World} (h : Below W.heap.size W W1) : MkKeep B W W1 := ⟨fun _ _ _ _ _ e => blk_below e h, KeepsOthers.of_grownBy (grown_of_below h none) (fun j o e => by cases e)⟩
theorem mk_keep_refl (B : Nat) (W : World) : MkKeep B W W := ⟨fun _ _ _ _ _ e => e, KeepsOthers.of_grownBy (grown_of_below (Below.refl _ W) none) (fun j o e => by cases e)⟩
def mkT1 : Bool × List (List Nat × List Nat) := (true, [([], []), ([], []), ([1], [1]), ([2], [2]), ([3], [3]), ([4], [4]), ([], []), ([], []), ([6, 7], [6, 7]), ([8], [8]), ([5, 9, 8], [5, 9]), ([0, 0, 1, 2, 3, 4, 5, 6, 7, 8, 9, 10], [0]), ([11, 0, 1, 2, 3, 4, 5, 6, 7, 8, 9, 10], [11]), ([12, 0, 1, 2, 3, 4, 5, 6, 7, 8, 9, 10], [12]), ([13, 10, 10, 0, 1, 2, 3, 4, 5, 6, 7, 8, 9, 10], [10, 13])])
def mkB1 : List Nat := [0, 0, 2, 6, 14, 30, 0, 0, 192, 448, 1022, 2047, 4095, 8191, 16383]
theorem mk_tab1 : rtab .any (opsOf Try.f33 1) = mkT1 := by kernel_rfl
theorem mk_bits1 : waitsOk mkT1.2 mkB1 = true := by kernel_rfl
theorem mk_own {base : Nat} {W : World} {u : Value} {os : List S79} (h : Kd.R k79 79 W base (fun _ => True) u os) : ∀ (j : Nat) (o : Obj), u.ownBlock = some j → W.heap[j]? = some o → o.isCells = true := by
  intro j o hj ho
  obtain ⟨_, inner, hw, _⟩ := h
  rcases hw.2 with ⟨rfl, _⟩ | ⟨g, cap, cur, rfl, _, hg, _⟩
  · cases hj
  · have : g = j := by simpa [Value.ownBlock] using hj
    subst this
    rw [hg] at ho
    cases ho
    rfl
theorem mk_fin {inp : Int} {n : Nat} (h1 : 0 ≤ inp) (h2 : inp ≤ 100000) (h3 : n ≤ 100000) : wrap64 (wrap64 (inp + ((n + 1 : Nat) : Int)) - 1) = inp + n := by
  have e1 : wrap64 (inp + ((n + 1 : Nat) : Int)) = inp + ((n + 1 : Nat) : Int) := IntWalk.wrap64_in _ (by omega)
  rw [e1]
  have e2 : inp + ((n + 1 : Nat) : Int) - 1 = inp + n := by omega
  rw [e2]
  exact IntWalk.wrap64_in _ (by omega)
section
set_option maxRecDepth 100000
theorem mk_many (g : Nat) (inp : Int) (A1 : Option Addr) (n1 c1 : Nat) (W : World) (h0 : W.cell? ⟨g, 0, none⟩ = some (.int .i64 inp)) (h1 : W.cell? ⟨g, 1, none⟩ = some (.slice A1 n1 c1)) :
    Calls Try.prog 65 #[.pointer (some ⟨g, 0, none⟩)] W fun e w' => e = .returned (.int .i64 (wrap64 (inp + (n1 : Int)))) ∧ ∃ q, w' = W.drewN q := by
  go_enter Try.func65, Try.ntmps65
  go_wp2
  refine wp_region_still_lit (by kernel_rfl) (by kernel_rfl) ?_
  change wpStill _ _ (World.drew _) _ _ _
  repeat still_step
  refine wpStill_nil ?_
  go_wp2
  go_ret
  exact ⟨by rw [IntWalk.i64_left]; rfl, 1, rfl⟩
attribute [local go_sem] Oper.semAt_some in
set_option maxHeartbeats 1000000 in
theorem multiply_in (base B : Nat) (inp : Int) (os : List S79) (w0 W : World) (a b : Int) (h : MkAt base B inp os w0 W) (hi : 0 ≤ inp ∧ inp ≤ 100000) (hl : os.length ≤ 100000) :
    Calls Try.prog 33 #[.pointer (some ⟨B, 0, none⟩), .int .i64 a, .int .i64 b] W fun e W' => e = .returned (.int .i64 (inp + (os.length : Int))) ∧ MkAt base B inp (os ++ [⟨mn a b, mx a b⟩]) w0 W' ∧ MkKeep B W W' := by
  obtain ⟨u, hb, hR, hB, hge, hbw⟩ := h
  obtain ⟨A, c, e⟩ := Kd.R_slice hR
  subst e
  have HF := Aside0.mk (mk_fin hi.1 hi.2 hl)
  have hl16 : (os.length + 1) * 16 ≤ 140737488355328 := by omega
  have BX := Aside0.mk hb
  have OR := Aside0.mk hR
  have BW := Aside0.mk hB
  have HGE := Aside0.mk hge
  have HW0 := Aside0.mk hbw
  have HK := Aside0.mk (mk_keep_refl B W)
  clear hb hR hB hge hbw hi hl
  have s0 : W.cell? ⟨B, 1, none⟩ = some (.slice A os.length c) := (blk_cell BX.out 1).trans rfl
  go_enter Try.func33, Try.ntmps33
  go_wp2
  refine start_ (n := 15) (S := fun w' => w'.cell? ⟨B, 1, none⟩ = some (.slice A os.length c)) (ds := [14]) #[false, false, false, false, false, false, false, false, false, false, false, false, false, false, false] (by kernel_rfl) rfl rfl ((blk_cell BX.out 1).trans rfl) (fun hHeld => ?_)
  refine with_tabW mk_tab1 mk_bits1 (fun HT_ HW_ => ?_)
  have n0_ := Aside0.mk (Kd.R_drew OR.out)
  have n1_ := Aside0.mk (blk_drew BX.out)
  have n2_ := Aside0.mk (below_drew BW.out)
  have n3_ := Aside0.mk (mk_keep_trans HK.out (mk_keep_below (B := B) (n := 0) (below_drew (Below.refl _ W))))
  clear OR BX BW HK s0
  have OR := n0_
  have BX := n1_
  have BW := n2_
  have HK := n3_
  clear n0_ n1_ n2_ n3_
  generalize W.drew = w1 at OR BX BW HK hHeld ⊢
  refine pure_ (i := 0) (N := some 7) (v := ?_) (a' := ?_) #[true, false, false, false, false, false, false, false, false, false, false, false, false, false, false] rfl rfl (any_of HT_.out (by kernel_rfl)) (fun _ _ _ h => h) (Or.inl ⟨by rfl, ?_⟩) ?_ ?_
  rotate_left
  · intro w'
    go_simp
    with_reducible rfl
  rotate_left
  · simp only [Act.put, List.setIfInBounds_toArray, List.set_cons_zero, List.set_cons_succ, i64_w, i32_w]
    rfl
  refine pure_ (i := 1) (N := some 8) (v := ?_) (a' := ?_) #[true, true, false, false, false, false, false, false, false, false, false, false, false, false, false] rfl rfl (any_of HT_.out (by kernel_rfl)) (fun _ _ _ h => h) (Or.inl ⟨by rfl, ?_⟩) ?_ ?_
  rotate_left
  · intro w'
    go_simp
    with_reducible rfl
  rotate_left
  · simp only [Act.put, List.setIfInBounds_toArray, List.set_cons_zero, List.set_cons_succ, i64_w, i32_w]
    rfl
  refine pure_ (i := 2) (N := some 9) (v := ?_) (a' := ?_) #[true, true, true, false, false, false, false, false, false, false, false, false, false, false, false] rfl rfl (any_of HT_.out (by kernel_rfl)) (fun _ _ _ h => h) (Or.inl ⟨by rfl, ?_⟩) ?_ ?_
  rotate_left
  · intro w'
    go_simp
    with_reducible rfl
  rotate_left
  · simp only [Act.put, List.setIfInBounds_toArray, List.set_cons_zero, List.set_cons_succ, i64_w, i32_w]
    rfl
  refine pure_ (i := 3) (N := some 10) (v := ?_) (a' := ?_) #[true, true, true, true, false, false, false, false, false, false, false, false, false, false, false] rfl rfl (any_of HT_.out (by kernel_rfl)) (fun _ _ _ h => h) (Or.inl ⟨by rfl, ?_⟩) ?_ ?_
  rotate_left
  · intro w'
    go_simp
    with_reducible rfl
  rotate_left
  · simp only [Act.put, List.setIfInBounds_toArray, List.set_cons_zero, List.set_cons_succ, i64_w, i32_w]
    rfl
  refine pure_ (i := 4) (N := some 11) (v := ?_) (a' := ?_) #[true, true, true, true, true, false, false, false, false, false, false, false, false, false, false] rfl rfl (any_of HT_.out (by kernel_rfl)) (fun _ _ _ h => h) (Or.inl ⟨by rfl, ?_⟩) ?_ ?_
  rotate_left
  · intro w'
    go_simp
    with_reducible rfl
  rotate_left
  · simp only [Act.put, List.setIfInBounds_toArray, List.set_cons_zero, List.set_cons_succ, i64_w, i32_w]
    rfl
  refine pure_ (i := 6) (N := some 13) (v := ?_) (a' := ?_) #[true, true, true, true, true, false, true, false, false, false, false, false, false, false, false] rfl rfl (any_of HT_.out (by kernel_rfl)) (fun _ _ _ h => h) (Or.inl ⟨by rfl, ?_⟩) ?_ ?_
  rotate_left
  · intro w'
    go_simp
    with_reducible rfl
  rotate_left
  · simp only [Act.put, List.setIfInBounds_toArray, List.set_cons_zero, List.set_cons_succ, i64_w, i32_w]
    rfl
  refine pure_ (i := 7) (N := some 14) (v := ?_) (a' := ?_) #[true, true, true, true, true, false, true, true, false, false, false, false, false, false, false] rfl rfl (any_of HT_.out (by kernel_rfl)) (fun _ _ _ h => h) (Or.inl ⟨by rfl, ?_⟩) ?_ ?_
  rotate_left
  · intro w'
    go_simp
    with_reducible rfl
  rotate_left
  · simp only [Act.put, List.setIfInBounds_toArray, List.set_cons_zero, List.set_cons_succ, i64_w, i32_w]
    rfl
  refine take_ (i := 5) (N := some 12) (v := ?_) (a' := ?_) #[true, true, true, true, true, true, true, true, false, false, false, false, false, false, false] rfl rfl (take_ofW HT_.out HW_.out (by kernel_rfl)) (fun _ _ _ h => h) (Or.inl ⟨by rfl, ?_⟩) hHeld ?_ ?_
  rotate_left
  · rintro w' s0
    go_simp
    with_reducible rfl
  rotate_left
  · simp only [Act.put, List.setIfInBounds_toArray, List.set_cons_zero, List.set_cons_succ, i64_w, i32_w]
    rfl
  refine one_ (i := 8) (N := some 15) #[true, true, true, true, true, true, true, true, true, false, false, false, false, false, false] rfl rfl (one_of HT_.out (by kernel_rfl)) (by decide) (fun K hK => ?_)
  refine goes_ Try.func64 (by kernel_rfl) rfl #[.int .i64 a, .int .i64 b] (by rfl) rfl rfl (by (try simp only [List.map_toArray, List.map_cons, List.map_nil]); first | done | rfl) ?_
  with_reducible refine (impl_step.calls a b (mn a b) (mx a b) _ rfl).mono ?_
  rintro e w2 ⟨rfl, hb⟩
  refine ⟨_, rfl, ?_⟩
  have n0_ := Aside0.mk (Kd.R_below OR.out hb)
  have n1_ := Aside0.mk (blk_below BX.out hb)
  have n2_ := Aside0.mk (BW.out.trans (hb.mono (Nat.le_trans HW0.out BW.out.size)))
  have n3_ := Aside0.mk (mk_keep_trans HK.out (mk_keep_below (B := B) (n := 0) hb))
  clear OR BX BW HK hb
  have OR := n0_
  have BX := n1_
  have BW := n2_
  have HK := n3_
  clear n0_ n1_ n2_ n3_
  refine hK.out _ _ ((blk_cell BX.out 1).trans rfl) (fun hHeld => ?_)
  clear hK K
  refine norm_ (a' := ?_) ?_ ?_
  rotate_left
  · show Act.put _ (some 15) _ = _
    simp only [Act.put, List.setIfInBounds_toArray, List.set_cons_zero, List.set_cons_succ, i64_w, i32_w]
    rfl
  refine one_ (i := 9) (N := some 16) #[true, true, true, true, true, true, true, true, true, true, false, false, false, false, false] rfl rfl (one_of HT_.out (by kernel_rfl)) (by decide) (fun K hK => ?_)
  refine value_ (w1 := ?_) (v := ?_) (by rfl) rfl ?_ ?_
  rotate_left 2
  · go_simp
    constructor
    · rfl
    · rfl
  refine hK.out _ _ ((blk_cell (blk_alloc BX.out _) 1).trans rfl) (fun hHeld => ?_)
  clear hK K
  refine norm_ (a' := ?_) ?_ ?_
  rotate_left
  · show Act.put _ (some 16) _ = _
    simp only [Act.put, List.setIfInBounds_toArray, List.set_cons_zero, List.set_cons_succ, i64_w, i32_w]
    rfl
  refine one_ (i := 10) (N := some 17) #[true, true, true, true, true, true, true, true, true, true, true, false, false, false, false] rfl rfl (one_of HT_.out (by kernel_rfl)) (by decide) (fun K hK => ?_)
  refine Kd.R_append_step k79 (w0 := w0) base (by rfl) (.tmp 12) (.tmp 16) 26 79 (.agg #[(.int .i64 0), (.int .i64 0)]) 16 rfl Try.underlying26 info79 rfl (by decide) (by decide) (.slice A os.length c) os (⟨mn a b, mx a b⟩ : S79) [.int .i64 (mn a b), .int .i64 (mx a b)] (fun _ => True) (fun _ => False) rfl rfl ?aP (fun _ hk => hk.elim) ?aF ?aO ?aB ?aS hl16 ?_
  (case aP => exact k79_mkM _ _ _ (⟨mn a b, mx a b⟩ : S79))
  (case aF => exact fun _ _ => trivial)
  (case aO => exact OR.out)
  (case aB => exact BW.out)
  (case aS => exact Nat.le_trans HW0.out BW.out.size)
  intro v8 w3 ho hb hg hat
  have n0_ := Aside0.mk (ho)
  have n1_ := Aside0.mk (mk_keep_trans HK.out (⟨fun k cs t ht _ e => blk_grown e hg (Kd.R_ne OR.out e ht), KeepsOthers.of_grownBy hg (mk_own OR.out)⟩ : MkKeep B w2 w3))
  have n2_ := Aside0.mk (blk_grown BX.out hg (Kd.R_ne OR.out BX.out (by decide)))
  have n3_ := Aside0.mk (hb)
  clear OR HK BX BW ho hb hg hat
  have OR := n0_
  have HK := n1_
  have BX := n2_
  have BW := n3_
  clear n0_ n1_ n2_ n3_
  obtain ⟨os2, hos2⟩ : ∃ os2, os ++ [(⟨mn a b, mx a b⟩ : S79)] = os2 := ⟨_, rfl⟩
  have HO2 := Aside0.mk hos2
  rw [hos2] at OR
  clear hos2
  obtain ⟨Ao, co, eo⟩ := Kd.R_slice OR.out
  subst eo
  refine hK.out _ _ ((blk_cell BX.out 1).trans rfl) (fun hHeld => ?_)
  clear hK K
  refine norm_ (a' := ?_) ?_ ?_
  rotate_left
  · show Act.put _ (some 17) _ = _
    simp only [Act.put, List.setIfInBounds_toArray, List.set_cons_zero, List.set_cons_succ, i64_w, i32_w]
    rfl
  refine pure_ (i := 11) (N := some 18) (v := ?_) (a' := ?_) #[true, true, true, true, true, true, true, true, true, true, true, true, false, false, false] rfl rfl (any_of HT_.out (by kernel_rfl)) (fun _ _ _ h => h) (Or.inl ⟨by rfl, ?_⟩) ?_ ?_
  rotate_left
  · intro w'
    go_simp
    with_reducible rfl
  rotate_left
  · simp only [Act.put, List.setIfInBounds_toArray, List.set_cons_zero, List.set_cons_succ, i64_w, i32_w]
    rfl
  refine pure_ (i := 12) (N := some 19) (v := ?_) (a' := ?_) #[true, true, true, true, true, true, true, true, true, true, true, true, true, false, false] rfl rfl (any_of HT_.out (by kernel_rfl)) (fun _ _ _ h => h) (Or.inl ⟨by rfl, ?_⟩) ?_ ?_
  rotate_left
  · intro w'
    go_simp
    with_reducible rfl
  rotate_left
  · simp only [Act.put, List.setIfInBounds_toArray, List.set_cons_zero, List.set_cons_succ, i64_w, i32_w]
    rfl
  refine pure_ (i := 13) (N := some 20) (v := ?_) (a' := ?_) #[true, true, true, true, true, true, true, true, true, true, true, true, true, true, false] rfl rfl (any_of HT_.out (by kernel_rfl)) (fun _ _ _ h => h) (Or.inl ⟨by rfl, ?_⟩) ?_ ?_
  rotate_left
  · intro w'
    go_simp
    with_reducible rfl
  rotate_left
  · simp only [Act.put, List.setIfInBounds_toArray, List.set_cons_zero, List.set_cons_succ, i64_w, i32_w]
    rfl
  refine last_ (i := 14) (N := none) #[true, true, true, true, true, true, true, true, true, true, true, true, true, true, true] rfl rfl (one_of HT_.out (by kernel_rfl)) (by decide) (fun K hK => ?_)
  have hs_ : w3.cell? ⟨B, 1, none⟩ = some (.slice A os.length c) := (blk_cell BX.out 1).trans rfl
  have hfs_ := blk_frozen BX.out 1
  refine skip_ (w1 := ?_) (by rfl) rfl ?_ ?_
  rotate_left
  · go_simp
    rfl
  refine hK.out _ _ ?_
  clear hK K
  refine done_ (done_of HT_.out (by kernel_rfl)) ?_
  have n0_ := Aside0.mk (Kd.R_mono (ok' := fun _ => True) (Kd.R_far (p := ⟨B, 1, none⟩) (Kd.R_types OR.out BX.out (by decide)) (fun _ hk => hk.2) (.slice Ao os2.length co)) (fun _ hk => trivial))
  have n1_ := Aside0.mk (mk_keep_trans HK.out (⟨fun k cs t ht hk e => blk_far e hk _, KeepsOthers.setCell _ _ _⟩ : MkKeep B w3 (w3.setCell ⟨B, 1, none⟩ (.slice Ao os2.length co))))
  have n2_ := Aside0.mk (blk_put BX.out 1 (.slice Ao os2.length co) rfl)
  have n3_ := Aside0.mk (BW.out.setCell (p := ⟨B, 1, none⟩) HGE.out (.slice Ao os2.length co))
  clear OR HK BX BW hs_ hfs_ hHeld
  have OR := n0_
  have HK := n1_
  have BX := n2_
  have BW := n3_
  clear n0_ n1_ n2_ n3_
  generalize w3.setCell ⟨B, 1, none⟩ (.slice Ao os2.length co) = w4 at OR BX BW HK ⊢
  have HM := Go.Lib.hid (mk_many B inp Ao os2.length co w4 ((blk_cell BX.out 0).trans rfl) ((blk_cell BX.out 1).trans rfl))
  go_wp2_with (go_at_call 65; refine HM.out.mono ?_; rintro e w5 ⟨rfl, ⟨q, rfl⟩⟩)
  go_ret
  have hbq := pw_below_drewN (Below.refl w4.heap.size w4) q
  refine ⟨?_, ⟨.slice Ao os2.length co, blk_below BX.out hbq, ?_, BW.out.trans (hbq.mono (Nat.le_trans HW0.out BW.out.size)), HGE.out, HW0.out⟩, mk_keep_trans HK.out (mk_keep_below (B := B) (n := 0) hbq)⟩
  · rw [← HO2.out, List.length_append, List.length_singleton]
    refine Eq.trans (b := .returned (.int .i64 (wrap64 (wrap64 (inp + ((os.length + 1 : Nat) : Int)) - 1)))) rfl ?_
    rw [HF.out]
  · rw [HO2.out]
    exact Kd.R_below OR.out hbq
/-- What 'times' leaves: the steps, and the value. -/
def mkTimes (inp : Int) (s : List S79 × Int) (b : Int) : List S79 × Int := if s.2 < 0 then (s.1, b) else (s.1 ++ [⟨mn s.2 b, mx s.2 b⟩], inp + (s.1.length : Int))
set_option maxHeartbeats 1000000 in
theorem times_in (base B : Nat) (inp : Int) (os : List S79) (w0 W : World) (a b : Int) (h : MkAt base B inp os w0 W) (hi : 0 ≤ inp ∧ inp ≤ 100000) (hl : os.length ≤ 100000) (s : List S79 × Int) (hs : mkTimes inp (os, a) b = s) :
    Calls Try.prog 34 #[.pointer (some ⟨B, 0, none⟩), .int .i64 a, .int .i64 b] W fun e W' => e = .returned (.int .i64 s.2) ∧ MkAt base B inp s.1 w0 W' ∧ MkKeep B W W' := by
  subst hs
  unfold mkTimes
  by_cases ha : a < 0
  · have hd : decide (a < 0) = true := decide_eq_true ha
    rw [if_pos (show ((os, a) : List S79 × Int).2 < 0 from ha)]
    have H := Aside0.mk h
    clear h hi hl ha
    go_enter Try.func34, Try.ntmps34
    go_wp2
    go_ret
    exact ⟨rfl, H.out, mk_keep_refl _ _⟩
  · have hd : decide (a < 0) = false := decide_eq_false ha
    rw [if_neg (show ¬ ((os, a) : List S79 × Int).2 < 0 from ha)]
    have H := Aside0.mk (multiply_in base B inp os w0 W a b h hi hl)
    clear h hi hl ha
    go_enter Try.func34, Try.ntmps34
    go_wp2_with (go_at_call 33; refine H.out.mono ?_; rintro e w4 ⟨rfl, hw_, hk_⟩; have HW4 := Aside0.mk hw_; have HK4 := Aside0.mk hk_; clear hw_ hk_)
    go_ret
    exact ⟨rfl, HW4.out, HK4.out⟩
set_option maxHeartbeats 1000000 in
theorem newMaker_in (inp : Int) (W : World) :
    Calls Try.prog 31 #[.int .i64 inp] W fun e W' => e = .returned (.pointer (some ⟨W.heap.size, 0, none⟩)) ∧ W' = W.alloc (.cells #[.int .i64 inp, .slice none 0 0, .slice none 0 0] 74 ) := by
  go_enter Try.func31, Try.ntmps31
  go_wp2
  go_ret
  exact ⟨rfl, rfl⟩
theorem mk_new (base : Nat) (inp : Int) (w0 W : World) (h : Below base w0 W) (hb : base ≤ w0.heap.size) : MkAt base W.heap.size inp [] w0 (W.alloc (.cells #[.int .i64 inp, .slice none 0 0, .slice none 0 0] 74)) := ⟨_, blk_new W _, Kd.R_nil _ _ _ _ _, h.alloc (Nat.le_trans hb h.size) _, Nat.le_trans hb h.size, hb⟩
set_option maxHeartbeats 1000000 in
theorem plan_in (base B : Nat) (inp : Int) (os : List S79) (w0 W : World) (A2 : Option Addr) (n2 c2 : Nat) (h : MkAt base B inp os w0 W) :
    Calls Try.prog 36 #[.pointer (some ⟨B, 0, none⟩), .slice A2 n2 c2] W fun e W' => ∃ u, e = .returned (.agg #[.int .i64 inp, u, .slice A2 n2 c2]) ∧ Kd.R k79 79 W' base (fun _ => True) u os ∧ Below base w0 W' ∧ MkKeep B W W' := by
  obtain ⟨u, hb, hR, hB, hge, hbw⟩ := h
  obtain ⟨A, c, e⟩ := Kd.R_slice hR
  subst e
  have BX := Aside0.mk (blk_alloc hb (.cells #[.int .i64 0, .slice none 0 0, .slice none 0 0] 28))
  have BN := Aside0.mk (blk_new W (.cells #[.int .i64 0, .slice none 0 0, .slice none 0 0] 28))
  have OR := Aside0.mk (Kd.R_alloc hR (.cells #[.int .i64 0, .slice none 0 0, .slice none 0 0] 28))
  have BW := Aside0.mk (hB.alloc (Nat.le_trans hbw hB.size) (.cells #[.int .i64 0, .slice none 0 0, .slice none 0 0] 28))
  have HGE := Aside0.mk hge
  have HGW := Aside0.mk (Nat.le_trans hbw hB.size)
  have HK := Aside0.mk (⟨fun _ _ _ _ _ e => blk_alloc e _, KeepsOthers.of_grownBy (grown_of_below (below_alloc (Below.refl W.heap.size W) _) none) (fun j o e => by cases e)⟩ : MkKeep B W (W.alloc (.cells #[.int .i64 0, .slice none 0 0, .slice none 0 0] 28)))
  have HNE := Aside0.mk (Nat.ne_of_lt (blk_lt hb))
  clear hb hR hB hge hbw
  have k0 : (W.alloc (.cells #[.int .i64 0, .slice none 0 0, .slice none 0 0] 28)).cell? ⟨B, 0, none⟩ = some (.int .i64 inp) := (blk_cell BX.out 0).trans rfl
  have k1 : (W.alloc (.cells #[.int .i64 0, .slice none 0 0, .slice none 0 0] 28)).cell? ⟨B, 1, none⟩ = some (.slice A os.length c) := (blk_cell BX.out 1).trans rfl
  have k2 : (W.alloc (.cells #[.int .i64 0, .slice none 0 0, .slice none 0 0] 28)).cell? ⟨B, 2, none⟩ = some (.slice none 0 0) := (blk_cell BX.out 2).trans rfl
  have f2 := blk_frozen BX.out 2
  have BM := Aside0.mk (blk_far BN.out (p := ⟨B, 2, none⟩) (fun e => HNE.out e.symm) (.slice A2 n2 c2))
  have m0 := blk_frozen BM.out 0
  have m1 := blk_frozen BM.out 1
  have m2 := blk_frozen BM.out 2
  have z0 : ((W.alloc (.cells #[.int .i64 0, .slice none 0 0, .slice none 0 0] 28)).setCell ⟨B, 2, none⟩ (.slice A2 n2 c2)).cell? ⟨W.heap.size, 0, none⟩ = some (.int .i64 0) := (blk_cell BM.out 0).trans rfl
  have z1 : ((W.alloc (.cells #[.int .i64 0, .slice none 0 0, .slice none 0 0] 28)).setCell ⟨B, 2, none⟩ (.slice A2 n2 c2)).cell? ⟨W.heap.size, 1, none⟩ = some (.slice none 0 0) := (blk_cell BM.out 1).trans rfl
  have z2 : ((W.alloc (.cells #[.int .i64 0, .slice none 0 0, .slice none 0 0] 28)).setCell ⟨B, 2, none⟩ (.slice A2 n2 c2)).cell? ⟨W.heap.size, 2, none⟩ = some (.slice none 0 0) := (blk_cell BM.out 2).trans rfl
  go_enter Try.func36, Try.ntmps36
  go_wp2
  have HN := Aside0.mk HGW.out
  have b1 := blk_put (blk_put (blk_put BM.out 0 (.int .i64 inp) rfl) 1 (.slice A os.length c) rfl) 2 (.slice A2 n2 c2) rfl
  refine bodyPost_ret (results_cell_row rfl _ _ W.heap.size 28 #[.int .i64 inp, .slice A os.length c, .slice A2 n2 c2] (0, 0) _ rfl b1 Try.underlying28 rfl (by kernel_rfl)) rfl ?_
  have r1 := Kd.R_mono (ok' := fun _ => True) (Kd.R_far (p := ⟨B, 2, none⟩) (Kd.R_types OR.out BX.out (by decide)) (fun _ hk => hk.2) (.slice A2 n2 c2)) (fun _ _ => trivial)
  have r2 := Kd.R_mono (ok' := fun _ => True) (Kd.R_far (p := ⟨W.heap.size, 0, none⟩) (Kd.R_types r1 BM.out (by decide)) (fun _ hk => hk.2) (.int .i64 inp)) (fun _ _ => trivial)
  have r3 := Kd.R_mono (ok' := fun _ => True) (Kd.R_far (p := ⟨W.heap.size, 1, none⟩) (Kd.R_types r2 (blk_put BM.out 0 (.int .i64 inp) rfl) (by decide)) (fun _ hk => hk.2) (.slice A os.length c)) (fun _ _ => trivial)
  have r4 := Kd.R_mono (ok' := fun _ => True) (Kd.R_far (p := ⟨W.heap.size, 2, none⟩) (Kd.R_types r3 (blk_put (blk_put BM.out 0 (.int .i64 inp) rfl) 1 (.slice A os.length c) rfl) (by decide)) (fun _ hk => hk.2) (.slice A2 n2 c2)) (fun _ _ => trivial)
  refine ⟨_, rfl, r4, (((BW.out.setCell (p := ⟨B, 2, none⟩) HGE.out _).setCell (p := ⟨W.heap.size, 0, none⟩) HN.out _).setCell (p := ⟨W.heap.size, 1, none⟩) HN.out _).setCell (p := ⟨W.heap.size, 2, none⟩) HN.out _, ?_⟩
  refine ⟨fun k cs t ht hk e => ?_, HK.out.2.trans ((KeepsOthers.setCell _ _ _).trans ((KeepsOthers.setCell _ _ _).trans ((KeepsOthers.setCell _ _ _).trans (KeepsOthers.setCell _ _ _))))⟩
  have hne : k ≠ W.heap.size := Nat.ne_of_lt (blk_lt e)
  exact blk_far (blk_far (blk_far (blk_far (HK.out.1 k cs t ht hk e) hk _) (p := ⟨W.heap.size, 0, none⟩) hne _) (p := ⟨W.heap.size, 1, none⟩) hne _) (p := ⟨W.heap.size, 2, none⟩) hne _
end

end Go.Proofs.Ytoiamgeaieefmaa.PFnPowersTogether
