-- Written by gprint.py, a program of this session, out of the translation (a changed print).
import Derived.Test.YtldbcglgfabopaaPFnExactAllSignedx0
import Derived.Test.YtldbcglgfabopaaPFnExactAllSignedx1
namespace Go.Proofs.Ytldbcglgfabopaa.PFnExactAllSigned
open Go.RowKit Go.Proofs.YtldbcglgfabopaaW.PrintWords Go.Proofs.YtldbcglgfabopaaW.PrintLast Go.Proofs.YtldbcglgfabopaaW.PrintMore
attribute [local go_sem] max2_int min2_int max_two min_two max_three min_three max_four min_four   -- for this text's walks alone
set_option linter.unusedVariables false
set_option linter.unusedSimpArgs false

/-! ### impl_AllSigned: function 7 -/
/-- The lists that begin with one of the first so many digits. -/
def accL (f : Int → List (List Int)) (n : Int) : Nat → List (List Int)
  | 0 => []
  | i + 1 => if (n - ((i : Int) - 1)) % 2 = 0 then accL f n i ++ (f ((n - ((i : Int) - 1)) / 2)).map (((i : Int) - 1) :: ·) else accL f n i
/-- All lists of so many digits that stand for a number. -/
def LL : Nat → Int → List (List Int)
  | 0, n => if n = 0 then [[]] else []
  | L + 1, n => if YtldbcglgfabopaaLists.sz n ≥ 2 ^ (L + 1) then [] else accL (LL L) n 3
def impl_AllSigned.f (a0 : Int) (a1 : Int) : Option (List (List Int) × Bool) := (impl_CountSigned.f a0 a1).bind fun p => if p.2 = true ∧ p.1 ≤ 300 then some (LL a1.toNat a0, true) else some ([], false)
theorem accL_len {f : Int → List (List Int)} {g : Int → Int × Int} (h : ∀ x, ((f x).length : Int) = (g x).1) (n : Int) : ∀ i, ((accL f n i).length : Int) = (YtldbcglgfabopaaLists.acc g n i).1
  | 0 => rfl
  | i + 1 => by
    have ih := accL_len h n i
    have hx := h ((n - ((i : Int) - 1)) / 2)
    unfold accL YtldbcglgfabopaaLists.acc
    split
    · unfold YtldbcglgfabopaaLists.put1
      split
      · rw [List.length_append, List.length_map]; omega
      · rw [List.length_append, List.length_map]; show _ = (YtldbcglgfabopaaLists.acc g n i).1 + _; omega
    · exact ih
theorem LL_len : ∀ (L : Nat) (n : Int), ((LL L n).length : Int) = (YtldbcglgfabopaaLists.LV L n).1
  | 0, n => by
    unfold LL YtldbcglgfabopaaLists.LV
    by_cases h : n = 0
    · subst h; rfl
    · rw [if_neg h, if_pos (by unfold YtldbcglgfabopaaLists.sz; split <;> omega)]; rfl
  | L + 1, n => by
    unfold LL YtldbcglgfabopaaLists.LV
    split
    · rfl
    · exact accL_len (LL_len L) n 3
theorem accL_mono (f : Int → List (List Int)) (n : Int) (i : Nat) : (accL f n i).length ≤ (accL f n (i + 1)).length := by
  rw [accL]
  split
  · rw [List.length_append]; omega
  · exact Nat.le_refl _
theorem accL_le (f : Int → List (List Int)) (n : Int) {i : Nat} (h : i ≤ 3) : (accL f n i).length ≤ (accL f n 3).length := by
  have h0 : (accL f n 0).length ≤ (accL f n 1).length := accL_mono f n 0
  have h1 : (accL f n 1).length ≤ (accL f n 2).length := accL_mono f n 1
  have h2 : (accL f n 2).length ≤ (accL f n 3).length := accL_mono f n 2
  rcases (by omega : i = 0 ∨ i = 1 ∨ i = 2 ∨ i = 3) with rfl | rfl | rfl | rfl <;> omega
def AlHold (p : Prop) : Prop := p
theorem al_hold {p : Prop} (h : AlHold p) : p := h
/-- A row of whole numbers that can be read: none, or a block that holds it. -/
def NowR (W : World) (A : Option Addr) (c : Nat) (nn : List Int) : Prop := (A = none ∧ nn = [] ∧ c = 0) ∨ (nn ≠ [] ∧ W.ownsRow 0 3 1 (.slice A nn.length c) nn.length (nums .i64 nn))
theorem now_C {W : World} {A : Option Addr} {c : Nat} {nn : List Int} (h : NowR W A c nn) : Kd.C (Kd.int .i64) W A nn.length nn ∧ nn.length ≤ c := by
  rcases h with ⟨rfl, rfl, rfl⟩ | ⟨_, h⟩
  · have := Kd.R_reads' (Kd.R_nil (Kd.int .i64) 3 W 0 (fun _ => True))
    exact ⟨this.2.2, this.2.1⟩
  · have hR : Kd.R (Kd.int .i64) 3 W 0 (fun _ => True) (.slice A nn.length c) nn := Kd.R_of_own h (fun _ _ => trivial)
    have := Kd.R_reads' hR
    exact ⟨this.2.2, this.2.1⟩
theorem al_nil (w : World) (a : Option Addr) (n c : Nat) : (Go.binOp .eql 34 (.slice a n c) (.slice none 0 0)).run Try.prog w = .ok (.bool a.isNone) w := Go.Lib.run_eql_slice_nil w _ _ a n c 0 0 Try.underlying34
theorem ex_int : (Try.prog.info? 3).map (fun i => (i.zero, i.size, i.bytes)) = some (some (.int .i64 0), 1, 8) := by kernel_rfl
theorem ex_info : (Try.prog.info? 34).map (fun i => (i.zero, i.size, i.bytes)) = some (some (.slice none 0 0), 1, 24) := by kernel_rfl
theorem al_new (W : World) : Kd.R (Kd.int .i64) 3 (W.alloc (.cells #[] 3)) W.heap.size (fun _ => True) (.slice (some ⟨W.heap.size, 0, none⟩) 0 0) [] := by
  have h := World.ownsRow_lit (base := W.heap.size) (e := 3) (size := 1) W #[] 0 (Nat.le_refl _) (by decide) rfl
  have h2 : (W.alloc (.cells #[] 3)).ownsRow W.heap.size 3 1 (.slice (some ⟨W.heap.size, 0, none⟩) 0 0) 0 [] := by simpa using h
  exact Kd.R_of_own h2 (fun _ _ => trivial)
section
set_option maxRecDepth 100000
attribute [local go_sem] al_nil in
set_option maxHeartbeats 1000000 in
theorem clone_in (A : Option Addr) (c : Nat) (nn : List Int) (W : World) (h : NowR W A c nn) (hl : nn.length ≤ 100) :
    Calls Try.prog 31 #[.slice A nn.length c] W fun e w' => ∃ v, e = .returned v ∧ Kd.R (Kd.int .i64) 3 w' W.heap.size (fun _ => True) v nn ∧ Below W.heap.size W w' := by
  obtain ⟨hC, hc⟩ := now_C h
  rcases h with ⟨rfl, rfl, rfl⟩ | ⟨hne, h⟩
  · go_enter Try.func31, Try.ntmps31
    go_wp2
    go_ret
    exact ⟨_, rfl, Kd.R_nil _ _ _ _ _, Below.refl _ _⟩
  · obtain ⟨_, ⟨hv, h0⟩ | ⟨g, cap, cur, hv, _, hb, _, _, _, _⟩⟩ := h
    · exact absurd (List.eq_nil_of_length_eq_zero h0) hne
    · injection hv with hA hn hcc
      subst hA
      subst hcc
      have HC := Go.Lib.hid hC
      have HB := Aside0.mk (Below.refl W.heap.size W)
      have hl8 : nn.length ≤ 100 := hl
      clear hC hb hne hl
      go_enter Try.func31, Try.ntmps31
      go_wp2_with (at_builtin; refine al_hold ?_)
      unfold AlHold
      have hrow := al_new W
      have hbl : Below W.heap.size W (W.alloc (.cells #[] 3)) := below_alloc (Below.refl _ _) _
      have hC2 := Kd.C_alloc HC.out (.cells #[] 3)
      obtain ⟨q, hq⟩ : ∃ q, W.heap.size = q := ⟨_, rfl⟩
      have HQ := Aside0.mk hq
      rw [hq] at hrow hbl ⊢
      obtain ⟨w5, hw5⟩ : ∃ w5, W.alloc (.cells #[] 3) = w5 := ⟨_, rfl⟩
      rw [hw5] at hrow hbl hC2 ⊢
      have hqs : q ≤ w5.heap.size := by rw [← hw5, World.size_alloc]; omega
      clear hw5
      refine Kd.R_append_rows (Kd.int .i64) (w0 := W) q rfl (.tmp 5) (.tmp 6) 34 3 (.int .i64 0) 8 rfl Try.underlying34 ex_int rfl (by decide) (by decide) (.slice (some ⟨q, 0, none⟩) 0 0) [] nn _ _ _ (fun _ => True) (fun _ => False) rfl rfl hrow hC2 (fun _ _ h => h) (fun _ h => h.elim) (fun _ _ => trivial) hbl hqs (by simp only [List.length_nil]; omega) ?_
      intro v1 w1 ho hb _ _
      rw [List.nil_append] at ho
      have HO := Aside0.mk ho
      have HB1 := Aside0.mk hb
      clear ho hb hrow hbl hC2
      go_wp2
      go_ret
      exact ⟨_, rfl, by rw [HQ.out]; exact HO.out, by rw [HQ.out]; exact HB1.out⟩
theorem clip_in (A : Option Addr) (c : Nat) (nn : List Int) (W : World) (h : NowR W A c nn) (hl : nn.length ≤ 100) :
    Calls Try.prog 50 #[.slice A nn.length c] W fun e w' => e = .returned (.slice A nn.length nn.length) ∧ w' = W := by
  have hc := (now_C h).2
  go_enter Try.func50, Try.ntmps50
  go_wp2
  go_ret
  exact ⟨rfl, rfl⟩
/-- What is kept: all blocks but B, m and those of rows of rows. -/
def AlKeep (B m : Nat) (W W1 : World) : Prop := W.heap.size ≤ W1.heap.size ∧ ∀ k, k < W.heap.size → k ≠ B → k ≠ m → (∀ cs fr, W.heap[k]? ≠ some (.cells cs 34 fr)) → W1.heap[k]? = W.heap[k]?
theorem keep_refl (B m : Nat) (W : World) : AlKeep B m W W := ⟨Nat.le_refl _, fun _ _ _ _ _ => rfl⟩
theorem keep_below {B m : Nat} {W W1 W2 : World} (h : AlKeep B m W W1) (hb : Below W1.heap.size W1 W2) : AlKeep B m W W2 :=
  ⟨Nat.le_trans h.1 hb.size, fun k hk h1 h2 h3 => (hb.block k (Nat.lt_of_lt_of_le hk h.1)).trans (h.2 k hk h1 h2 h3)⟩
theorem keep_trans {B m : Nat} {W W1 W2 : World} (h : AlKeep B m W W1) (h' : AlKeep B m W1 W2) : AlKeep B m W W2 :=
  ⟨Nat.le_trans h.1 h'.1, fun k hk h1 h2 h3 => (h'.2 k (Nat.lt_of_lt_of_le hk h.1) h1 h2 (fun cs fr => by rw [h.2 k hk h1 h2 h3]; exact h3 cs fr)).trans (h.2 k hk h1 h2 h3)⟩
theorem keep_weak {B m : Nat} {W W1 : World} (h : AlKeep B B W W1) : AlKeep B m W W1 := ⟨h.1, fun k hk h1 _ h3 => h.2 k hk h1 h1 h3⟩
theorem keep_grown {B m : Nat} {W W1 W2 : World} {v : Value} (h : AlKeep B m W W1) (hg : W1.grownBy W2 v.ownBlock) (hty : ∀ k, v.ownBlock = some k → ∃ cells, W1.heap[k]? = some (.cells cells 34 (0, 0))) : AlKeep B m W W2 :=
  ⟨Nat.le_trans h.1 hg.size, fun k hk h1 h2 h3 => by
    have e := h.2 k hk h1 h2 h3
    refine (hg.block k (Nat.lt_of_lt_of_le hk h.1) (fun hc => ?_)).trans e
    obtain ⟨cs, hcs⟩ := hty k hc.symm
    rw [e] at hcs
    exact h3 _ _ hcs⟩
theorem keep_set {B m : Nat} {W W1 : World} (h : AlKeep B m W W1) (j : Nat) (u : Value) : AlKeep B m W (W1.setCell ⟨B, j, none⟩ u) :=
  ⟨by have := h.1; simpa [World.setCell, World.putObj] using this, fun k hk h1 h2 h3 => (Below.heap_setCell W1 ⟨B, j, none⟩ u k h1).trans (h.2 k hk h1 h2 h3)⟩
theorem now_keep {B m : Nat} {W W1 : World} {A : Option Addr} {c : Nat} {nn : List Int} (h : NowR W A c nn) (hk : AlKeep B m W W1) (hB : ∀ cs, W.heap[B]? ≠ some (.cells cs 3 (0, 0))) (hm : ∀ cs, W.heap[m]? ≠ some (.cells cs 3 (0, 0))) : NowR W1 A c nn := by
  rcases h with h | ⟨hne, hl, h⟩
  · exact Or.inl h
  · refine Or.inr ⟨hne, hl, ?_⟩
    rcases h with h | ⟨g, cap, cur, hv, h0, hb, r⟩
    · exact Or.inl h
    · refine Or.inr ⟨g, cap, cur, hv, h0, ?_, r⟩
      refine (hk.2 g (blk_lt hb) (fun e => ?_) (fun e => ?_) (fun cs fr e => ?_)).trans hb
      · subst e; exact hB _ hb
      · subst e; exact hm _ hb
      · rw [hb] at e; injection e with e; injection e with _ e; exact absurd e (by decide)
/-- What lies of the lists that have been told: the box, and the row of rows. -/
def AlOut (base B : Nat) (P : List (List Int)) (W : World) : Prop := ∃ u, W.heap[B]? = some (.cells #[u] 22 (0, 0)) ∧ Kd.S (Kd.slice 3 (Kd.int .i64)) 34 W base (fun _ => True) u P
theorem al_tab : rtab .any (opsOf Try.f30 0) = (true, [([], []), ([], []), ([1], [1]), ([2], [2]), ([0, 3, 2], [0, 3]), ([4, 4, 0, 1, 2, 3, 4], [4])]) := by kernel_rfl
theorem al_bits : waitsOk [([], []), ([], []), ([1], [1]), ([2], [2]), ([0, 3, 2], [0, 3]), ([4, 4, 0, 1, 2, 3, 4], [4])] [0, 0, 2, 6, 15, 31] = true := by kernel_rfl
set_option maxHeartbeats 2000000 in
theorem do_in (base B : Nat) (A : Option Addr) (c : Nat) (nn : List Int) (P : List (List Int)) (w0 W : World) (h : NowR W A c nn) (hl : nn.length ≤ 100) (ho : AlOut base B P W) (hb : Below base w0 W) (hB : base ≤ B) (hw : base ≤ w0.heap.size) (hP : P.length ≤ 1000) :
    Calls Try.prog 30 #[.slice A nn.length c, .pointer (some ⟨B, 0, none⟩)] W fun e W' => e = .returned (.tuple #[]) ∧ AlOut base B (P ++ [nn]) W' ∧ Below base w0 W' ∧ AlKeep B B W W' := by
  obtain ⟨u, hbx, hS⟩ := ho
  obtain ⟨Au, cu, eu⟩ := Kd.S_slice hS
  subst eu
  have HN := Aside0.mk (fun W1 (hbw : Below W.heap.size W W1) => clone_in A c nn W1 (now_keep h (keep_below (keep_refl B B W) hbw) (fun cs e => by rw [hbx] at e; injection e with e; injection e with _ e; exact absurd e (by decide)) (fun cs e => by rw [hbx] at e; injection e with e; injection e with _ e; exact absurd e (by decide))) hl)
  have BX := Aside0.mk hbx
  have OS := Aside0.mk hS
  have BW := Aside0.mk hb
  have HSZ := Aside0.mk (Nat.le_trans hw hb.size)
  have HGE := Aside0.mk hB
  have hl24 : (P.length + 1) * 24 ≤ 140737488355328 := by omega
  have IN := Aside0.mk (Below.refl W.heap.size W)
  clear h hbx hS hb hB hw hl hP
  go_enter Try.func30, Try.ntmps30
  go_wp2
  refine start_ (n := 6) (S := fun w' => w'.cell? ⟨B, 0, none⟩ = some (.slice Au P.length cu)) (ds := [5]) #[false, false, false, false, false, false] (by kernel_rfl) rfl rfl ((blk_cell BX.out 0).trans rfl) (fun hHeld => ?_); refine with_tabW al_tab al_bits (fun HT_ HW_ => ?_)
  have n1_ := Aside0.mk (Kd.S_drew OS.out)
  have n2_ := Aside0.mk (blk_drew BX.out)
  have n3_ := Aside0.mk (below_drew BW.out)
  have n4_ := Aside0.mk (keep_below (keep_refl B B W) (below_drew (Below.refl _ W)))
  have n5_ := Aside0.mk (below_drew IN.out)
  clear OS BX BW IN
  have OS := n1_
  have BX := n2_
  have BW := n3_
  have KP := n4_
  have IN := n5_
  clear n1_ n2_ n3_ n4_ n5_
  have HS1 := Aside0.mk (Nat.le_trans HSZ.out IN.out.size)
  generalize W.drew = w6 at OS BX BW KP IN HS1 hHeld ⊢
  refine pure_ (i := 1) (N := some 4) (v := ?_) (a' := ?_) #[false, true, false, false, false, false] rfl rfl (any_of HT_.out (by kernel_rfl)) (fun _ _ _ h => h) (Or.inl ⟨by rfl, ?_⟩) ?_ ?_
  rotate_left
  · intro w'
    go_simp
    with_reducible rfl
  rotate_left
  · simp only [Act.put, List.setIfInBounds_toArray, List.set_cons_zero, List.set_cons_succ, i64_w, i32_w]
    rfl
  refine take_ (i := 0) (N := some 3) (v := ?_) (a' := ?_) #[true, true, false, false, false, false] rfl rfl (take_ofW HT_.out HW_.out (by kernel_rfl)) (fun _ _ _ h => h) (Or.inl ⟨by rfl, ?_⟩) hHeld ?_ ?_
  rotate_left
  · rintro w' s0
    go_simp
    with_reducible rfl
  rotate_left
  · simp only [Act.put, List.setIfInBounds_toArray, List.set_cons_zero, List.set_cons_succ, i64_w, i32_w]
    rfl
  refine one_ (i := 2) (N := some 5) #[true, true, true, false, false, false] rfl rfl (one_of HT_.out (by kernel_rfl)) (by decide) (fun K hK => ?_)
  refine goes_ Try.func31 (by kernel_rfl) rfl #[.slice A nn.length c] (by rfl) rfl rfl (by (try simp only [List.map_toArray, List.map_cons, List.map_nil]); first | done | rfl) ?_
  with_reducible refine (HN.out w6 IN.out).mono ?_
  rintro e w7 ⟨v7, rfl, hr7, hb7⟩
  refine ⟨_, rfl, ?_⟩
  obtain ⟨A7, c7, e7⟩ := Kd.R_slice hr7
  subst e7
  have n1_ := Aside0.mk (Kd.S_old OS.out hb7)
  have n2_ := Aside0.mk (blk_below BX.out hb7)
  have n3_ := Aside0.mk (BW.out.trans (hb7.mono HS1.out))
  have n4_ := Aside0.mk (keep_below KP.out hb7)
  have HR7 := Aside0.mk hr7
  have n6_ := Aside0.mk (Nat.le_trans HS1.out hb7.size)
  have HS6 := HS1
  have NW := Aside0.mk (show ∀ k, (Value.slice A7 nn.length c7).ownBlock = some k → w6.heap.size ≤ k from Kd.R_base hr7)
  have NL := Aside0.mk (show ∀ k, (Value.slice Au P.length cu).ownBlock = some k → k < w6.heap.size from Kd.S_lt OS.out)
  clear OS BX BW KP HS1 hb7 hr7
  have OS := n1_
  have BX := n2_
  have BW := n3_
  have KP := n4_
  have HS1 := n6_
  clear n1_ n2_ n3_ n4_ n6_
  refine hK.out _ _ ((blk_cell BX.out 0).trans rfl) (fun hHeld => ?_)
  clear hK K
  refine norm_ (a' := ?_) ?_ ?_
  rotate_left
  · show Act.put _ (some 5) _ = _
    simp only [Act.put, List.setIfInBounds_toArray, List.set_cons_zero, List.set_cons_succ, i64_w, i32_w]
    rfl
  refine one_ (i := 3) (N := some 6) #[true, true, true, true, false, false] rfl rfl (one_of HT_.out (by kernel_rfl)) (by decide) (fun K hK => ?_)
  refine value_ (w1 := ?_) (v := ?_) (by rfl) rfl ?_ ?_
  rotate_left 2
  · go_simp
    constructor
    · rfl
    · rfl
  refine hK.out _ _ ((blk_cell (blk_alloc BX.out _) 0).trans rfl) (fun hHeld => ?_)
  clear hK K
  refine norm_ (a' := ?_) ?_ ?_
  rotate_left
  · show Act.put _ (some 6) _ = _
    simp only [Act.put, List.setIfInBounds_toArray, List.set_cons_zero, List.set_cons_succ, i64_w, i32_w]
    rfl
  refine one_ (i := 4) (N := some 7) #[true, true, true, true, true, false] rfl rfl (one_of HT_.out (by kernel_rfl)) (by decide) (fun K hK => ?_)
  refine Kd.S_append_step (Kd.slice 3 (Kd.int .i64)) (w0 := w0) base (by rfl) (.tmp 3) (.tmp 6) 22 34 (.slice none 0 0) 24 rfl Try.underlying22 ex_info rfl (by decide) (by decide) (.slice Au P.length cu) P nn [.slice A7 nn.length c7] (fun _ => True) (fun k_ => w6.heap.size ≤ k_) rfl rfl ?aP ?aK ?aF ?aO ?aB ?aS hl24 ?_
  (case aP => exact Kd.M_row (Kd.R_lower (Kd.R_mono (Kd.R_bound HR7.out) (fun _ hk => hk.2.1)) HS6.out))
  (case aK => exact fun k_ hk_ => ⟨trivial, fun e_ => by have := NL.out k_ e_.symm; omega⟩)
  (case aF => exact fun _ _ => trivial)
  (case aO => exact Kd.S_mono OS.out (fun k_ hk => ⟨trivial, Nat.not_le.mpr hk.2⟩))
  (case aB => exact BW.out)
  (case aS => exact HS1.out)
  intro v8 w8 ho hb hg hat
  obtain ⟨A8, c8, e8⟩ := Kd.S_slice ho
  rw [List.length_append, List.length_singleton] at e8
  subst e8
  have n1_ := Aside0.mk ho
  have n2_ := Aside0.mk (blk_grown BX.out hg (Kd.S_ne OS.out BX.out (by decide)))
  have n3_ := Aside0.mk hb
  have n4_ := Aside0.mk (keep_grown KP.out hg (Kd.S_typed OS.out))
  clear OS BX BW KP ho hb hg hat
  have OS := n1_
  have BX := n2_
  have BW := n3_
  have KP := n4_
  clear n1_ n2_ n3_ n4_
  refine hK.out _ _ ((blk_cell BX.out 0).trans rfl) (fun hHeld => ?_)
  clear hK K
  refine norm_ (a' := ?_) ?_ ?_
  rotate_left
  · show Act.put _ (some 7) _ = _
    simp only [Act.put, List.setIfInBounds_toArray, List.set_cons_zero, List.set_cons_succ, i64_w, i32_w]
    rfl
  refine last_ (i := 5) (N := none) #[true, true, true, true, true, true] rfl rfl (one_of HT_.out (by kernel_rfl)) (by decide) (fun K hK => ?_)
  have hs_ : w8.cell? ⟨B, 0, none⟩ = some (.slice Au P.length cu) := (blk_cell BX.out 0).trans rfl
  have hfs_ := blk_frozen BX.out 0
  refine skip_ (w1 := ?_) (by rfl) rfl ?_ ?_
  rotate_left
  · go_simp
    rfl
  refine hK.out _ _ ?_
  clear hK K
  refine done_ (done_of HT_.out (by kernel_rfl)) ?_
  refine bodyPost_end (results_none rfl _ _ _) rfl ?_
  refine ⟨rfl, ⟨_, blk_put BX.out 0 _ rfl, Kd.S_mono (Kd.S_far (p := ⟨B, 0, none⟩) (Kd.S_types OS.out BX.out (by decide)) (fun _ hk => hk.2) _) (fun _ _ => trivial)⟩, BW.out.setCell (p := ⟨B, 0, none⟩) HGE.out _, keep_set KP.out 0 _⟩
theorem al_int {base B : Nat} {P : List (List Int)} {W : World} (h : AlOut base B P W) : ∀ cs, W.heap[B]? ≠ some (.cells cs 3 (0, 0)) := fun cs e => by
  obtain ⟨u, hb, _⟩ := h
  rw [hb] at e; injection e with e; injection e with _ e; exact absurd e (by decide)
theorem al_mapne {m : Nat} {W : World} {es : Array MapEntry} {c : Nat} (h : W.heap[m]? = some (.map es c)) : ∀ cs t fr, W.heap[m]? ≠ some (.cells cs t fr) := fun cs t fr e => by
  rw [h] at e; injection e with e; cases e
open Go.Proofs.YtldbcglgfabopaaLists (Far Memo LV Post lists_in) in
theorem far_keep {B m : Nat} {W W1 : World} (h : Far m W W1) : AlKeep B m W W1 := ⟨h.size, fun k hk _ hm _ => h.block k hk hm⟩
theorem out_far {base B m : Nat} {P : List (List Int)} {W W1 : World} (h : AlOut base B P W) (hf : YtldbcglgfabopaaLists.Far m W W1) (hm : ∀ cs t fr, W.heap[m]? ≠ some (.cells cs t fr)) : AlOut base B P W1 := by
  obtain ⟨u, hb, hS⟩ := h
  have hBm : B ≠ m := fun e => by subst e; exact hm _ _ _ hb
  refine ⟨u, (hf.block B (blk_lt hb) hBm).trans hb, Kd.S_mono (Kd.S_step (Kd.S_bound hS) (fun k hk hlt => hf.block k hlt (fun e => ?_))) (fun _ _ => trivial)⟩
  subst e
  obtain ⟨_, _, _, q, _, cells, hc⟩ := hk
  exact hm _ _ _ hc
theorem below_far {base m : Nat} {w0 W W1 : World} (h : Below base w0 W) (hs : base ≤ W.heap.size) (hm : base ≤ m) (hf : YtldbcglgfabopaaLists.Far m W W1) : Below base w0 W1 :=
  ⟨hf.os.trans h.os, hf.tape.trans h.tape, hf.output.trans h.output, Nat.le_trans h.size hf.size, fun k hk => (hf.block k (by omega) (by omega)).trans (h.block k hk)⟩
theorem out_below {base B : Nat} {P : List (List Int)} {W W1 : World} (h : AlOut base B P W) (hb : Below W.heap.size W W1) : AlOut base B P W1 := by
  obtain ⟨u, hx, hS⟩ := h
  exact ⟨u, blk_below hx hb, Kd.S_below hS hb⟩
/-- The table tells the truth. -/
def AlMap (m : Nat) (W : World) : Prop := ∃ es c, W.heap[m]? = some (.map es c) ∧ YtldbcglgfabopaaLists.Memo es
def AlSt (base B m : Nat) (w0 : World) (P : List (List Int)) (W : World) : Prop := AlOut base B P W ∧ AlMap m W ∧ Below base w0 W ∧ (base ≤ B ∧ base ≤ m ∧ base ≤ w0.heap.size)
def AlPost (base B m : Nat) (w0 W : World) (P : List (List Int)) (e : Ending) (W1 : World) : Prop := e = .returned (.tuple #[]) ∧ AlSt base B m w0 P W1 ∧ AlKeep B m W W1
abbrev alDo (B : Nat) : Value := .func (.func 30) #[] #[.pointer (some ⟨B, 0, none⟩)]
/-- What a call of lists leaves to the walk. -/
theorem al_lists {base B m : Nat} {w0 W : World} {P : List (List Int)} (h : AlSt base B m w0 P W) (L : Nat) (hL : L ≤ 24) (n : Int) (h0 : -1099511627000 ≤ n) (h1 : n ≤ 1099511627000) :
    Calls Try.prog 36 #[.int .i64 n, .int .i64 L, .map (some m)] W fun e W1 => e = .returned (.agg #[.int .i64 (YtldbcglgfabopaaLists.LV L n).1, .int .i64 (YtldbcglgfabopaaLists.LV L n).2]) ∧ AlSt base B m w0 P W1 ∧ AlKeep B m W W1 := by
  obtain ⟨ho, ⟨es, c, hm, hM⟩, hb, h2, h3, h4⟩ := h
  refine (YtldbcglgfabopaaLists.lists_in m L hL n W es c hm hM h0 h1).mono ?_
  rintro e W1 ⟨rfl, hf, hm1⟩
  exact ⟨rfl, ⟨out_far ho hf (al_mapne hm), hm1, below_far hb (Nat.le_trans h4 hb.size) h3 hf, h2, h3, h4⟩, far_keep hf⟩
theorem al_now {base B m : Nat} {w0 W W1 : World} {P : List (List Int)} {A : Option Addr} {c : Nat} {nn : List Int} (h : AlSt base B m w0 P W) (hn : NowR W A c nn) (hk : AlKeep B m W W1) : NowR W1 A c nn := by
  obtain ⟨ho, ⟨es, c', hm, hM⟩, _⟩ := h
  exact now_keep hn hk (al_int ho) (fun cs => al_mapne hm _ _ _)
attribute [local go_sem] cs_field in
set_option maxHeartbeats 2000000 in
theorem none_in (base B m : Nat) (w0 : World) (L : Nat) (hL : L ≤ 24) (n : Int) (A : Option Addr) (c k : Nat) (P : List (List Int)) (W : World) (hs : AlSt base B m w0 P W) (h0 : -1099511627000 ≤ n) (h1 : n ≤ 1099511627000) (hz : LL L n = []) :
    Calls Try.prog 29 #[.int .i64 n, .int .i64 L, .slice A k c, .map (some m), alDo B] W (AlPost base B m w0 W P) := by
  have HC := Aside0.mk (al_lists hs L hL n h0 h1)
  have hlv : (YtldbcglgfabopaaLists.LV L n).1 = 0 := by have := LL_len L n; rw [hz] at this; exact this.symm
  obtain ⟨p, hp⟩ : ∃ p, YtldbcglgfabopaaLists.LV L n = p := ⟨_, rfl⟩
  rw [hp] at HC hlv
  rw [hlv] at HC
  clear hs h0 h1 hz hp hlv hL
  go_enter Try.func29, Try.ntmps29
  go_wp2_with (go_at_call 36; refine HC.out.mono ?_; rintro e w1 ⟨rfl, hs_, hk_⟩; have HS := Aside0.mk hs_; have HK := Aside0.mk hk_; clear hs_ hk_)
  refine bodyPost_ret (results_none rfl _ _ _) rfl ?_
  exact ⟨rfl, HS.out, HK.out⟩
theorem st_do {base B m : Nat} {w0 W W1 : World} {P P1 : List (List Int)} (h : AlSt base B m w0 P W) (ho : AlOut base B P1 W1) (hb : Below base w0 W1) (hk : AlKeep B B W W1) : AlSt base B m w0 P1 W1 := by
  obtain ⟨⟨u, hu, _⟩, ⟨es, c, hm, hM⟩, _, h2, h3, h4⟩ := h
  have hne : m ≠ B := fun e => by subst e; exact al_mapne hm _ _ _ hu
  exact ⟨ho, ⟨es, c, (hk.2 m (blk_lt hm) hne hne (fun cs fr => al_mapne hm _ _ _)).trans hm, hM⟩, hb, h2, h3, h4⟩
attribute [local go_sem] cs_field in
set_option maxHeartbeats 2000000 in
theorem leaf_in (base B m : Nat) (w0 : World) (A : Option Addr) (c : Nat) (nn : List Int) (P : List (List Int)) (W : World) (hn : NowR W A c nn) (hl : nn.length ≤ 24) (hs : AlSt base B m w0 P W) (hP : P.length ≤ 1000) :
    Calls Try.prog 29 #[.int .i64 0, .int .i64 0, .slice A nn.length c, .map (some m), alDo B] W (AlPost base B m w0 W (P ++ [nn])) := by
  have HC := Aside0.mk (al_lists hs 0 (by omega) 0 (by omega) (by omega))
  have hlv : YtldbcglgfabopaaLists.LV 0 0 = (1, 0) := by decide
  rw [hlv] at HC
  dsimp only at HC
  have HD := Aside0.mk (fun (W1 : World) (hs1 : AlSt base B m w0 P W1) (hk1 : AlKeep B m W W1) => do_in base B A c nn P w0 W1 (al_now hs hn hk1) (by omega) hs1.1 hs1.2.2.1 hs1.2.2.2.1 hs1.2.2.2.2.2 hP)
  clear hs hn hl hP hlv
  go_enter Try.func29, Try.ntmps29
  go_wp2_with (first
    | (go_at_call 36; refine HC.out.mono ?_; rintro e w1 ⟨rfl, hs_, hk_⟩; have HS := Aside0.mk hs_; have HK := Aside0.mk hk_; clear hs_ hk_)
    | (go_at_call 30; refine (HD.out _ HS.out HK.out).mono ?_; rintro e w2 ⟨rfl, ho_, hb_, hk_⟩; have n1_ := Aside0.mk (st_do HS.out ho_ hb_ hk_); have n2_ := Aside0.mk (keep_trans HK.out (keep_weak hk_)); clear HS HK ho_ hb_ hk_; have HS := n1_; have HK := n2_; clear n1_ n2_))
  refine bodyPost_ret (results_none rfl _ _ _) rfl ?_
  exact ⟨rfl, HS.out, HK.out⟩
theorem now_cells {W : World} {A : Option Addr} {c : Nat} {nn : List Int} (h : NowR W A c nn) : ∀ b, A = some b → ∀ (j : Nat) u, (nums .i64 nn)[j]? = some u → W.cell? (b.add j) = some u := fun b hb j u hu => by
  rcases h with ⟨rfl, _⟩ | ⟨hne, h⟩
  · cases hb
  · subst hb
    rcases h.2 with ⟨hv, h0⟩ | ⟨g, cap, cur, hv, _⟩
    · exact absurd (List.eq_nil_of_length_eq_zero h0) hne
    · injection hv with hA
      injection hA with hA
      subst hA
      exact h.cells rfl j u hu
theorem now_none {W : World} {A : Option Addr} {c : Nat} {nn : List Int} (h : NowR W A c nn) : A = none → nn.length = 0 ∧ nn.length = 0 := fun hA => by
  rcases h with ⟨_, rfl, _⟩ | ⟨hne, h⟩
  · exact ⟨rfl, rfl⟩
  · subst hA
    rcases h.2 with ⟨_, h0⟩ | ⟨g, cap, cur, hv, _⟩
    · exact ⟨h0, h0⟩
    · injection hv with hA; cases hA
theorem now_app {W : World} {b : Nat} {v : Value} {nn : List Int} {d : Int} (h : W.ownsRow b 3 1 v (nn.length + 1) (nums .i64 nn ++ [.int .i64 d])) : ∃ A c, v = .slice A (nn.length + 1) c ∧ NowR W A c (nn ++ [d]) := by
  have e : nums .i64 nn ++ [.int .i64 d] = nums .i64 (nn ++ [d]) := by simp [nums]
  have el : nn.length + 1 = (nn ++ [d]).length := by rw [List.length_append]; rfl
  rcases h with ⟨hl, ⟨_, h0⟩ | ⟨g, cap, cur, hv, _, r⟩⟩
  · cases h0
  · refine ⟨_, _, hv, Or.inr ⟨by simp, ?_⟩⟩
    rw [← el, ← e]
    exact ⟨hl, Or.inr ⟨g, cap, cur, rfl, Nat.zero_le _, r⟩⟩
theorem below_grown0 {W W1 : World} (h : W.grownBy W1 none) : Below W.heap.size W W1 := ⟨h.os, h.tape, h.output, h.size, fun k hk => h.block k hk (by simp)⟩
theorem st_below {base B m : Nat} {w0 W W1 : World} {P : List (List Int)} (h : AlSt base B m w0 P W) (hb : Below W.heap.size W W1) : AlSt base B m w0 P W1 := by
  obtain ⟨ho, ⟨es, c, hm, hM⟩, hb0, h2, h3, h4⟩ := h
  exact ⟨out_below ho hb, ⟨es, c, (hb.block m (blk_lt hm)).trans hm, hM⟩, hb0.trans (hb.mono (Nat.le_trans h4 hb0.size)), h2, h3, h4⟩
theorem al_map (nn : List Int) (d : Int) (P X Y : List (List Int)) : P ++ X.map (nn ++ ·) ++ Y.map ((nn ++ [d]) ++ ·) = P ++ (X ++ Y.map (d :: ·)).map (nn ++ ·) := by
  simp [List.map_append, List.map_map, Function.comp_def, List.append_assoc]
attribute [local go_sem] cs_field in
set_option maxHeartbeats 4000000 in
theorem node_in (base B m : Nat) (w0 : World) (l L : Nat) (hLl : L = l + 1) (hL : L ≤ 24) (n : Int) (A : Option Addr) (c : Nat) (nn : List Int) (P : List (List Int)) (W : World) (hn : NowR W A c nn) (hl : nn.length + L ≤ 24) (hs : AlSt base B m w0 P W) (h0 : -1099511627000 ≤ n) (h1 : n ≤ 1099511627000) (hbig : ¬ YtldbcglgfabopaaLists.sz n ≥ 2 ^ (l + 1)) (hne : LL L n ≠ []) (hP : P.length + (LL L n).length ≤ 1000)
    (IH : ∀ (n' : Int) (A' : Option Addr) (c' : Nat) (nn' : List Int) (P' : List (List Int)) (W' : World), NowR W' A' c' nn' → nn'.length + l ≤ 24 → AlSt base B m w0 P' W' → -1099511627000 ≤ n' → n' ≤ 1099511627000 → P'.length + (LL l n').length ≤ 1000 → Calls Try.prog 29 #[.int .i64 n', .int .i64 l, .slice A' nn'.length c', .map (some m), alDo B] W' (AlPost base B m w0 W' (P' ++ (LL l n').map (nn' ++ ·)))) :
    Calls Try.prog 29 #[.int .i64 n, .int .i64 L, .slice A nn.length c, .map (some m), alDo B] W (AlPost base B m w0 W (P ++ (LL L n).map (nn ++ ·))) := by
  obtain ⟨i0, hin, hz0, hz1, hz2⟩ := info_parts ex_int
  have HC := Aside0.mk (al_lists hs L hL n h0 h1)
  have hLL : LL L n = accL (LL l) n 3 := by subst hLl; rw [LL, if_neg hbig]
  have hlv : (YtldbcglgfabopaaLists.LV L n).1 ≠ 0 := by have := LL_len L n; have := List.length_pos_iff.2 hne; omega
  obtain ⟨p, hp⟩ : ∃ p, YtldbcglgfabopaaLists.LV L n = p := ⟨_, rfl⟩
  rw [hp] at HC hlv
  have hz : (p.1 == 0) = false := beq_eq_false_iff_ne.mpr hlv
  have hL0 : ((L : Int) == 0) = false := beq_eq_false_iff_ne.mpr (by omega)
  have hl1 : wrap64 ((L : Int) - 1) = l := by unfold wrap64; omega
  have HNW := Aside0.mk (fun (W1 : World) (hk : AlKeep B m W W1) => al_now hs hn hk)
  rw [hLL] at hP ⊢
  have HPL := Aside0.mk hP
  have HN := Aside0.mk (And.intro h0 h1)
  have HLN := Aside0.mk (show nn.length + l + 1 ≤ 24 by omega)
  have HI := Aside0.mk IH
  clear hs h0 h1 hp hlv hL hn hl hbig hne hP hLL IH hLl
  go_enter Try.func29, Try.ntmps29
  go_wp2_with (go_at_call 36; refine HC.out.mono ?_; rintro e w1 ⟨rfl, hs_, hk_⟩; have HS := Aside0.mk hs_; have HK := Aside0.mk hk_; clear hs_ hk_)
  clear HC
  go_loopw [10] (fun d wr => ∃ i : Nat, i ≤ 3 ∧ d = .int .i64 ((i : Int) - 1) ∧ Aside0 (AlSt base B m w0 (P ++ (accL (LL l) n i).map (nn ++ ·)) wr) ∧ Aside0 (AlKeep B m W wr)) (fun d _ => (2 - intOf d).toNat)
  case atStart => exact ⟨0, by omega, by simp, ⟨by simpa [accL] using HS.out⟩, HK⟩
  case round =>
    clear HS HK
    obtain ⟨i, hi, rfl, HS, HK⟩ := hrel
    by_cases hlt : i < 3
    · have hstep : accL (LL l) n (i + 1) = (if (n - ((i : Int) - 1)) % 2 = 0 then accL (LL l) n i ++ (LL l ((n - ((i : Int) - 1)) / 2)).map (((i : Int) - 1) :: ·) else accL (LL l) n i) := rfl
      obtain ⟨d, hdi⟩ : ∃ d : Int, d = (i : Int) - 1 := ⟨_, rfl⟩
      have hle := accL_le (LL l) n (i := i + 1) (by omega)
      rw [← hdi] at hstep ⊢
      have hN := HN.out
      have hPL := HPL.out
      have hd1 : decide (d ≤ 1) = true := decide_eq_true (by omega)
      have e3 : wrap64 (d + 1) = d + 1 := by unfold wrap64; omega
      obtain ⟨q, hq⟩ : ∃ q : Int, q = n - d := ⟨_, rfl⟩
      rw [← hq] at hstep
      have e1 : wrap64 (n - d) = q := by unfold wrap64; omega
      by_cases hev : q % 2 = 0
      · rw [if_pos hev] at hstep
        have ht : (Int.tmod q 2 == 0) = true := by rw [Int.tmod_eq_zero_of_dvd (Int.dvd_of_emod_eq_zero hev)]; rfl
        obtain ⟨v, hv⟩ : ∃ v : Int, v = q / 2 := ⟨_, rfl⟩
        have e4 : Int.tdiv q 2 = v := by rw [hv]; exact Int.tdiv_eq_ediv_of_dvd (Int.dvd_of_emod_eq_zero hev)
        have e5 : wrap64 v = v := by unfold wrap64; omega
        rw [← hv] at hstep
        have HV := Aside0.mk (show -1099511627000 ≤ v ∧ v ≤ 1099511627000 by omega)
        rw [hstep, List.length_append, List.length_map] at hle
        have HLE := Aside0.mk (show (P ++ (accL (LL l) n i).map (nn ++ ·)).length + (LL l v).length ≤ 1000 by rw [List.length_append, List.length_map]; omega)
        have HST := Aside0.mk hstep
        have HD3 := Aside0.mk (And.intro hdi hlt)
        clear hstep hle hN hPL hq hv hev hi hlt hdi
        go_wp2_with (first
          | (go_at_call 50; refine (clip_in A c nn _ (HNW.out _ HK.out) (by have := HLN.out; omega)).mono ?_; rintro e w2 ⟨rfl, hw_⟩; obtain rfl := hw_.symm)
          | (at_builtin; refine al_hold ?_))
        unfold AlHold
        have hbl : Below wr.heap.size wr (wr.alloc (.cells #[.int .i64 d] 3)) := below_alloc (Below.refl _ _) _
        have hk2 := keep_below HK.out hbl
        have hnr2 := HNW.out _ hk2
        have hnew := blk_new wr (.cells #[.int .i64 d] 3)
        have hs2 := st_below HS.out hbl
        obtain ⟨q2, hq2⟩ : ∃ q2, wr.heap.size = q2 := ⟨_, rfl⟩
        rw [hq2] at hnew ⊢
        obtain ⟨w5, hw5⟩ : ∃ w5, wr.alloc (.cells #[.int .i64 d] 3) = w5 := ⟨_, rfl⟩
        rw [hw5] at hk2 hnr2 hnew hs2 ⊢
        clear hw5 hbl hq2
        have HS2 := Aside0.mk hs2
        have HK2 := Aside0.mk hk2
        have HLN2 := HLN.out
        refine wpList_append_grows _ rfl (.tmp 38) (.tmp 40) 34 rfl 3 i0 (.int .i64 0) 1 8 Try.underlying34 hin hz0 hz1 hz2 rfl (by decide) A nn.length nn.length (nums .i64 nn) rfl (now_none hnr2) (by simp [nums]) (now_cells hnr2) ⟨q2, 0, none⟩ 1 1 [.int .i64 d] rfl rfl ?aC ?aO (by omega) (by simp only [maxLen]; omega) (by omega) ?_
        (case aC => intro j u hu; cases j with
          | zero => (have e_ := Option.some.inj hu); subst e_; exact (blk_cell hnew 0).trans rfl
          | succ j => simp at hu)
        (case aO => intro u hu; rw [List.mem_singleton] at hu; subst hu; rfl)
        intro v6 w6 ho6 hg6
        obtain ⟨A2, c2, e2, hn2⟩ := now_app ho6
        subst e2
        have hb6 := below_grown0 hg6
        have HS3 := Aside0.mk (st_below HS2.out hb6)
        have HK3 := Aside0.mk (keep_below HK2.out hb6)
        have hc2 := HI.out v A2 c2 (nn ++ [d]) _ w6 hn2 (by rw [List.length_append, List.length_singleton]; omega) HS3.out HV.out.1 HV.out.2 HLE.out
        rw [List.length_append, List.length_singleton, al_map] at hc2
        have HC2 := Aside0.mk hc2
        clear hc2 hb6 hn2 ho6 hg6 hs2 hk2 hnr2 hnew HLN2
        go_wp2_with (go_at_call 29; refine HC2.out.mono ?_; rintro e w7 ⟨rfl, hs_, hk_⟩; have HS4 := Aside0.mk hs_; have HK4 := Aside0.mk (keep_trans HK3.out hk_); clear hs_ hk_)
        go_roundw
        case rel => exact ⟨i + 1, by have := HD3.out; omega, by rw [e3, show d + 1 = ((i + 1 : Nat) : Int) - 1 by have := HD3.out; omega], ⟨by rw [HST.out]; exact HS4.out⟩, HK4⟩
        case measure => (have := HD3.out); simp only [intOf]; rw [e3]; omega
      · rw [if_neg hev] at hstep
        have ht : (Int.tmod q 2 == 0) = false := beq_eq_false_iff_ne.mpr (fun e => hev (Int.emod_eq_zero_of_dvd (Int.dvd_of_tmod_eq_zero e)))
        have HST := Aside0.mk hstep
        have HD3 := Aside0.mk (And.intro hdi hlt)
        clear hstep hle hN hPL hq hev hi hlt hdi
        go_wp2
        go_roundw
        case rel => exact ⟨i + 1, by have := HD3.out; omega, by rw [e3, show d + 1 = ((i + 1 : Nat) : Int) - 1 by have := HD3.out; omega], ⟨by rw [HST.out]; exact HS.out⟩, HK⟩
        case measure => (have := HD3.out); simp only [intOf]; rw [e3]; omega
    · obtain rfl : i = 3 := by omega
      clear hlt hi
      go_wp2
      refine bodyPost_end (results_none rfl _ _ _) rfl ?_
      exact ⟨rfl, HS.out, HK.out⟩
theorem all_in (base B m : Nat) (w0 : World) : ∀ (L : Nat), L ≤ 24 → ∀ (n : Int) (A : Option Addr) (c : Nat) (nn : List Int) (P : List (List Int)) (W : World), NowR W A c nn → nn.length + L ≤ 24 → AlSt base B m w0 P W → -1099511627000 ≤ n → n ≤ 1099511627000 → P.length + (LL L n).length ≤ 1000 →
    Calls Try.prog 29 #[.int .i64 n, .int .i64 L, .slice A nn.length c, .map (some m), alDo B] W (AlPost base B m w0 W (P ++ (LL L n).map (nn ++ ·))) := by
  intro L
  induction L with
  | zero =>
    intro hL n A c nn P W hn hl hs h0 h1 hP
    by_cases h : n = 0
    · subst h
      have e : P ++ (LL 0 0).map (nn ++ ·) = P ++ [nn] := by simp [LL]
      rw [e]
      exact leaf_in base B m w0 A c nn P W hn hl hs (by omega)
    · have hz : LL 0 n = [] := by rw [LL, if_neg h]
      rw [hz, List.map_nil, List.append_nil]
      exact none_in base B m w0 0 hL n A c nn.length P W hs h0 h1 hz
  | succ l ih =>
    intro hL n A c nn P W hn hl hs h0 h1 hP
    by_cases hz : LL (l + 1) n = []
    · rw [hz, List.map_nil, List.append_nil]
      exact none_in base B m w0 (l + 1) hL n A c nn.length P W hs h0 h1 hz
    · have hbig : ¬ YtldbcglgfabopaaLists.sz n ≥ 2 ^ (l + 1) := fun h => hz (by rw [LL, if_pos h])
      exact node_in base B m w0 l (l + 1) rfl hL n A c nn P W hn hl hs h0 h1 hbig hz hP (ih (by omega))
theorem al_start (w w1 : World) (hb : Below w.heap.size w w1) : AlSt w.heap.size (w1.heap.size + 1) (w1.heap.size + 1 + 1) w [] (((w1.alloc (.cells #[] 34)).alloc (.cells #[.slice (some ⟨w1.heap.size, 0, none⟩) 0 0] 22)).alloc (.map #[] 0)) := by
  have hsz := hb.size
  have h2 : (w1.alloc (.cells #[] 34)).ownsRow w.heap.size 34 1 (.slice (some ⟨w1.heap.size, 0, none⟩) 0 0) 0 [] := by
    have h := World.ownsRow_lit (base := w.heap.size) (e := 34) (size := 1) w1 #[] 0 hsz (by decide) rfl
    simpa using h
  have hS : Kd.S (Kd.slice 3 (Kd.int .i64)) 34 (w1.alloc (.cells #[] 34)) w.heap.size (fun _ => True) (.slice (some ⟨w1.heap.size, 0, none⟩) 0 0) [] := ⟨fun _ => 0, fun _ _ => trivial, [], h2, Reps.none _ _⟩
  have hx := blk_new (w1.alloc (.cells #[] 34)) (.cells #[.slice (some ⟨w1.heap.size, 0, none⟩) 0 0] 22)
  rw [World.size_alloc] at hx
  have hm := blk_new ((w1.alloc (.cells #[] 34)).alloc (.cells #[.slice (some ⟨w1.heap.size, 0, none⟩) 0 0] 22)) (.map #[] 0)
  rw [World.size_alloc, World.size_alloc] at hm
  exact ⟨⟨_, blk_alloc hx _, Kd.S_alloc (Kd.S_alloc hS _) _⟩, ⟨_, _, hm, YtldbcglgfabopaaLists.memo_nil⟩, below_alloc (below_alloc (below_alloc hb _) _) _, by omega, by omega, Nat.le_refl _⟩
attribute [local go_sem] run_makeMap in
set_option maxHeartbeats 4000000 in
theorem as_yes (a0 a1 : Int) (c : Int) (w : World) (hc : impl_CountSigned.f a0 a1 = some (c, true)) (h300 : c ≤ 300) (hr : (-1000000 ≤ a0 ∧ a0 ≤ 1000000) ∧ 0 ≤ a1 ∧ a1 ≤ 24) (hlen : (LL a1.toNat a0).length ≤ 1000) :
    Calls Try.prog 7 #[.int .i64 a0, .int .i64 a1] w fun e w' => ∃ v0_ : Value, e = .returned (.tuple #[v0_, .bool true]) ∧ Kd.S (Kd.slice 3 (Kd.int .i64)) 34 w' w.heap.size (fun _ => True) v0_ (LL a1.toNat a0) ∧ Below w.heap.size w w' := by
  have HC := Aside0.mk (impl_CountSigned.calls a0 a1 c true w hc)
  obtain ⟨L, rfl⟩ : ∃ L : Nat, a1 = (L : Int) := ⟨a1.toNat, by omega⟩
  rw [Int.toNat_natCast] at hlen ⊢
  have hgt : decide (300 < c) = false := decide_eq_false (by omega)
  have HAL := Aside0.mk (fun (B m : Nat) (W1 : World) (hs : AlSt w.heap.size B m w [] W1) => all_in w.heap.size B m w L (by omega) a0 none 0 [] [] W1 (Or.inl ⟨rfl, rfl, rfl⟩) (by simp; omega) hs (by omega) (by omega) (by simp; omega))
  clear hc h300 hr hlen
  go_enter Try.func7, Try.ntmps7
  go_wp2_with (first
    | (go_at_call 13; refine HC.out.mono ?_; rintro e w1 ⟨rfl, hb_⟩; have HB := Aside0.mk hb_; clear hb_)
    | (go_at_call 29; refine (HAL.out _ _ _ (al_start w w1 HB.out)).mono ?_; rintro e w2 ⟨rfl, hs_, _⟩; obtain ⟨⟨u, hx_, hS_⟩, _, hb_, _⟩ := hs_; have hu_ : w2.cell? ⟨w1.heap.size + 1, 0, none⟩ = some u := (blk_cell hx_ 0).trans rfl; have HS := Aside0.mk hS_; have HB2 := Aside0.mk hb_; clear hx_ hS_ hb_))
  go_ret2
  refine ⟨_, rfl, ?_, HB2.out⟩
  have e : ([] : List (List Int)) ++ (LL L a0).map (([] : List Int) ++ ·) = LL L a0 := by simp
  rw [← e]
  exact HS.out
set_option maxHeartbeats 4000000 in
theorem as_no (a0 a1 : Int) (c : Int) (b : Bool) (w : World) (hc : impl_CountSigned.f a0 a1 = some (c, b)) (h : b = false ∨ b = true ∧ 300 < c) :
    Calls Try.prog 7 #[.int .i64 a0, .int .i64 a1] w fun e w' => ∃ v0_ : Value, e = .returned (.tuple #[v0_, .bool false]) ∧ Kd.S (Kd.slice 3 (Kd.int .i64)) 34 w' w.heap.size (fun _ => True) v0_ [] ∧ Below w.heap.size w w' := by
  have HC := Aside0.mk (impl_CountSigned.calls a0 a1 c b w hc)
  clear hc
  rcases h with rfl | ⟨rfl, h⟩
  · go_enter Try.func7, Try.ntmps7
    go_wp2_with (go_at_call 13; refine HC.out.mono ?_; rintro e w1 ⟨rfl, hb_⟩; have HB := Aside0.mk hb_; clear hb_)
    go_ret2
    exact ⟨_, rfl, Kd.S_nil _ _ _ _ _, HB.out⟩
  · have hgt : decide (300 < c) = true := decide_eq_true h
    clear h
    go_enter Try.func7, Try.ntmps7
    go_wp2_with (go_at_call 13; refine HC.out.mono ?_; rintro e w1 ⟨rfl, hb_⟩; have HB := Aside0.mk hb_; clear hb_)
    go_ret2
    exact ⟨_, rfl, Kd.S_nil _ _ _ _ _, HB.out⟩
end
theorem impl_AllSigned.calls (a0 : Int) (a1 : Int) (r1 : List (List Int)) (r2 : Bool) (w : World) (h : impl_AllSigned.f a0 a1 = some (r1, r2)) :
    Calls Try.prog 7 #[.int .i64 a0, .int .i64 a1] w fun e w' => ∃ v0_ : Value, e = .returned (.tuple #[v0_, .bool r2]) ∧ Kd.S (Kd.slice 3 (Kd.int .i64)) 34 w' w.heap.size (fun _ => True) v0_ r1 ∧ Below w.heap.size w w' := by
  unfold impl_AllSigned.f at h
  obtain ⟨⟨c, b⟩, hc, hx⟩ := Option.bind_eq_some_iff.mp h
  clear h
  dsimp only at hx
  by_cases hy : b = true ∧ c ≤ 300
  · rw [if_pos hy] at hx
    simp only [Option.some.injEq, Prod.mk.injEq] at hx
    obtain ⟨rfl, rfl⟩ := hx
    obtain ⟨rfl, h3⟩ := hy
    have hr : (-1000000 ≤ a0 ∧ a0 ≤ 1000000) ∧ 0 ≤ a1 ∧ a1 ≤ 24 := by
      unfold impl_CountSigned.f at hc
      by_cases hr : (-1000000 ≤ a0 ∧ a0 ≤ 1000000) ∧ 0 ≤ a1 ∧ a1 ≤ 24
      · exact hr
      · rw [if_neg hr] at hc; injection hc with hc; injection hc with _ hc; cases hc
    refine as_yes a0 a1 c w hc h3 hr ?_
    have hc2 := hc
    unfold impl_CountSigned.f at hc2
    rw [if_pos hr] at hc2
    injection hc2 with hc2
    injection hc2 with hc2 _
    have := LL_len a1.toNat a0
    omega
  · rw [if_neg hy] at hx
    simp only [Option.some.injEq, Prod.mk.injEq] at hx
    obtain ⟨rfl, rfl⟩ := hx
    refine as_no a0 a1 c b w hc ?_
    cases b with
    | false => exact Or.inl rfl
    | true => exact Or.inr ⟨rfl, by have : ¬ c ≤ 300 := fun h => hy ⟨rfl, h⟩; omega⟩

/-! ### laws_eqIntS: function 24 -/
def laws_eqIntS.l0 : Nat → List Int → List Int → Int → Option (Bool)
  | 0, _, _, _ => none
  | k + 1, x0, x1, x5 => if x5 < (x0.length : Int) then (if 0 ≤ x5 then (if x5 < (x1.length : Int) then (if (rd x0 x5) = (rd x1 x5) then (laws_eqIntS.l0 k x0 x1 (wrap64 (x5 + 1))) else (some false)) else (none)) else (none)) else (some true)
def laws_eqIntS.f (k : Nat) (l0 : List Int) (l1 : List Int) : Option (Bool) := if (l0.length : Int) = (l1.length : Int) then (laws_eqIntS.l0 k l0 l1 0) else (some false)
theorem laws_eqIntS.mono_l : ∀ k, (∀ y0 y1 y2, LeO (laws_eqIntS.l0 k y0 y1 y2) (laws_eqIntS.l0 (k + 1) y0 y1 y2))
  | 0 => fun _ _ _ r h => by simp [laws_eqIntS.l0] at h
  | k + 1 => by
    have ih0 := laws_eqIntS.mono_l k
    · intro y0 y1 y2
      unfold laws_eqIntS.l0
      repeat' first
      | (with_reducible exact ih0 _ _ _)
      | (with_reducible exact LeO.refl _)
      | (with_reducible exact LeO.none _)
      | (with_reducible refine LeO.ite ?_ ?_)
      | (with_reducible refine LeO.bind ?_ (fun _ => ?_))
      | exact ih0 _ _ _
      | exact LeO.none _
      | refine LeO.ite ?_ ?_
      | refine LeO.bind ?_ (fun _ => ?_)
theorem laws_eqIntS.mono : ∀ a0 a1 k, LeO (laws_eqIntS.f k a0 a1) (laws_eqIntS.f (k + 1) a0 a1) := by
  intro a0 a1 k
  have ih0 := laws_eqIntS.mono_l k
  unfold laws_eqIntS.f
  repeat' first
      | (with_reducible exact ih0 _ _ _)
      | (with_reducible exact LeO.refl _)
      | (with_reducible exact LeO.none _)
      | (with_reducible refine LeO.ite ?_ ?_)
      | (with_reducible refine LeO.bind ?_ (fun _ => ?_))
      | exact ih0 _ _ _
      | exact LeO.none _
      | refine LeO.ite ?_ ?_
      | refine LeO.bind ?_ (fun _ => ?_)
set_option maxHeartbeats 8000000 in
set_option maxRecDepth 100000 in
theorem laws_eqIntS.calls (k : Nat) (A0 : Option Addr) (c0 : Nat) (l0 : List Int) (A1 : Option Addr) (c1 : Nat) (l1 : List Int) (r : Bool) (w : World) (hr0 : Kd.C (Kd.int .i64) w A0 l0.length l0) (hc0 : l0.length ≤ c0) (hr1 : Kd.C (Kd.int .i64) w A1 l1.length l1) (hc1 : l1.length ≤ c1) (h : laws_eqIntS.f k l0 l1 = some r) :
    Calls Try.prog 24 #[.slice A0 l0.length c0, .slice A1 l1.length c1] w fun e w' => e = .returned (.bool r) ∧ Drawn0 w w' := by
  have HR0 := Aside0.mk hr0
  have HC0 := Aside0.mk hc0
  clear hr0 hc0
  have HR1 := Aside0.mk hr1
  have HC1 := Aside0.mk hc1
  clear hr1 hc1
  have H : (if (l0.length : Int) = (l1.length : Int) then (laws_eqIntS.l0 k l0 l1 0) else (some false)) = some r := h
  clear h
  by_cases c3 : (l0.length : Int) = (l1.length : Int)
  · rw [if_pos c3] at H
    have c3b0 : ((l0.length : Int) == (l1.length : Int)) = true := beq_iff_eq.mpr c3
    have c3b1 : ((l0.length : Int) != (l1.length : Int)) = false := bne_eq_false_iff_eq.mpr c3
    have c3b2 : (l0.length == l1.length) = true := by first | simpa using c3 | (simp at c3 ⊢; omega)
    clear c3
    have H' := Aside0.mk H
    clear H
    go_enter Try.func24, Try.ntmps24
    go_wp2
    repeat (go_quiet (fail); try go_wp2)
    go_loopg [5] k (fun kq v5 w' => ∃ (x5_1 : Int), v5 = .int .i64 x5_1 ∧ Aside0 (laws_eqIntS.l0 kq l0 l1 x5_1 = some r) ∧ Aside0 (kq ≤ k) ∧ Drawn0 w w')
    case atStart => exact ⟨(0), (by first | rfl | (simp; done) | (simp [*]; done)), H', ⟨Nat.le_refl _⟩, by repeat (first | exact Drawn0.refl _ | apply Drawn0.step)⟩
    case round =>
      clear H'
      try clear c1
      try clear c2
      try clear p2
      try clear c3
      try clear c3b0
      try clear c3b1
      try clear c3b2
      obtain ⟨x5_1, rfl, HA, HK1, ⟨m1, rfl⟩⟩ := hrel
      cases gk with
      | zero => exact absurd HA.out (by simp [laws_eqIntS.l0])
      | succ k1 =>
        have H := HA.out
        clear HA
        simp only [laws_eqIntS.l0] at H
        by_cases c4 : x5_1 < (l0.length : Int)
        · rw [if_pos c4] at H
          have c4b0 : decide (x5_1 < (l0.length : Int)) = true := decide_eq_true c4
          clear c4
          by_cases c5 : 0 ≤ x5_1
          · rw [if_pos c5] at H
            have c5b0 : decide (0 ≤ x5_1) = true := decide_eq_true c5
            clear c5
            by_cases c6 : x5_1 < (l1.length : Int)
            · rw [if_pos c6] at H
              have c6b0 : decide (x5_1 < (l1.length : Int)) = true := decide_eq_true c6
              clear c6
              by_cases c7 : (rd l0 x5_1) = (rd l1 x5_1)
              · rw [if_pos c7] at H
                have c7b0 : ((rd l0 x5_1) == (rd l1 x5_1)) = true := beq_iff_eq.mpr c7
                have c7b1 : ((rd l0 x5_1) != (rd l1 x5_1)) = false := bne_eq_false_iff_eq.mpr c7
                clear c7
                have H' := Aside0.mk H
                clear H
                have p127 : 0 ≤ (x5_1 : Int) := of_decide_eq_true (by first | (with_reducible assumption) | assumption)
                have q127 : x5_1 < (l0.length : Int) := of_decide_eq_true (by first | (with_reducible assumption) | assumption)
                obtain ⟨ad127, e127, hx127_0⟩ := Kd.at_int HR0.out x5_1 p127 q127
                cases e127
                replace p127 := eq_true p127
                replace q127 := eq_true q127
                have p128 : 0 ≤ (x5_1 : Int) := of_decide_eq_true (by first | (with_reducible assumption) | assumption)
                have q128 : x5_1 < (l1.length : Int) := of_decide_eq_true (by first | (with_reducible assumption) | assumption)
                obtain ⟨ad128, e128, hx128_0⟩ := Kd.at_int HR1.out x5_1 p128 q128
                cases e128
                replace p128 := eq_true p128
                replace q128 := eq_true q128
                go_wp2
                repeat (go_quiet (fail); try go_wp2)
                go_roundg k1
                case measure => have := HK1.out; omega
                case rel => exact ⟨(wrap64 (x5_1 + 1)), (by first | rfl | (simp; done) | (simp [*]; done)), H', ⟨by have := HK1.out; omega⟩, by repeat (first | exact Drawn0.refl _ | apply Drawn0.step)⟩
              · rw [if_neg c7] at H
                have c7b0 : ((rd l0 x5_1) == (rd l1 x5_1)) = false := beq_eq_false_iff_ne.mpr c7
                have c7b1 : ((rd l0 x5_1) != (rd l1 x5_1)) = true := bne_iff_ne.mpr c7
                obtain rfl := Option.some.inj H
                have p127 : 0 ≤ (x5_1 : Int) := of_decide_eq_true (by first | (with_reducible assumption) | assumption)
                have q127 : x5_1 < (l0.length : Int) := of_decide_eq_true (by first | (with_reducible assumption) | assumption)
                obtain ⟨ad127, e127, hx127_0⟩ := Kd.at_int HR0.out x5_1 p127 q127
                cases e127
                replace p127 := eq_true p127
                replace q127 := eq_true q127
                have p128 : 0 ≤ (x5_1 : Int) := of_decide_eq_true (by first | (with_reducible assumption) | assumption)
                have q128 : x5_1 < (l1.length : Int) := of_decide_eq_true (by first | (with_reducible assumption) | assumption)
                obtain ⟨ad128, e128, hx128_0⟩ := Kd.at_int HR1.out x5_1 p128 q128
                cases e128
                replace p128 := eq_true p128
                replace q128 := eq_true q128
                go_wp2
                repeat (go_quiet (fail); try go_wp2)
                go_ret
                exact ⟨by first | rfl | (simp; done) | (simp [*]; done), by repeat (first | exact Drawn0.refl _ | apply Drawn0.step)⟩
            · rw [if_neg c6] at H
              exact absurd H (by simp)
          · rw [if_neg c5] at H
            exact absurd H (by simp)
        · rw [if_neg c4] at H
          have c4b0 : decide (x5_1 < (l0.length : Int)) = false := decide_eq_false c4
          clear c4
          obtain rfl := Option.some.inj H
          go_wp2
          repeat (go_quiet (fail); try go_wp2)
          go_ret
          exact ⟨by first | rfl | (simp; done) | (simp [*]; done), by repeat (first | exact Drawn0.refl _ | apply Drawn0.step)⟩
  · rw [if_neg c3] at H
    have c3b0 : ((l0.length : Int) == (l1.length : Int)) = false := beq_eq_false_iff_ne.mpr c3
    have c3b1 : ((l0.length : Int) != (l1.length : Int)) = true := bne_iff_ne.mpr c3
    have c3b2 : (l0.length == l1.length) = false := by first | simpa using c3 | (simp at c3 ⊢; omega)
    obtain rfl := Option.some.inj H
    go_enter Try.func24, Try.ntmps24
    go_wp2
    repeat (go_quiet (fail); try go_wp2)
    go_ret
    exact ⟨by first | rfl | (simp; done) | (simp [*]; done), by repeat (first | exact Drawn0.refl _ | apply Drawn0.step)⟩

end Go.Proofs.Ytldbcglgfabopaa.PFnExactAllSigned
