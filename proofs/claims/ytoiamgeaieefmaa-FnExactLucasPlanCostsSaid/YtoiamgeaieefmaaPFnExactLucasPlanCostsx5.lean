-- Written by gprint.py, a program of this session, out of the translation (a changed print).
import Derived.Test.YtoiamgeaieefmaaPFnExactLucasPlanCostsx0
import Derived.Test.YtoiamgeaieefmaaPFnExactLucasPlanCostsx3
import Derived.Test.YtoiamgeaieefmaaPFnExactLucasPlanCostsx4
namespace Go.Proofs.Ytoiamgeaieefmaa.PFnExactLucasPlanCosts
open Go.RowKit Go.Proofs.YtoiamgeaieefmaaW.PrintWords Go.Proofs.YtoiamgeaieefmaaW.PrintLast Go.Proofs.YtoiamgeaieefmaaW.PrintMore
attribute [local go_sem] max2_int min2_int max_two min_two max_three min_three max_four min_four   -- for this text's walks alone
set_option linter.unusedVariables false
set_option linter.unusedSimpArgs false

/-! ### impl_BinaryPlan: function 83 -/
/-- What one digit puts behind. -/
def bnSq (s : List S79 × Int) : List S79 × Int := (s.1 ++ [⟨mn s.2 s.2, mx s.2 s.2⟩], 1 + (s.1.length : Int))
def bnMul (s : List S79 × Int) : List S79 × Int := (s.1 ++ [⟨mn s.2 0, mx s.2 0⟩], 1 + (s.1.length : Int))
def bnStep (s : List S79 × Int) (d : Int) : List S79 × Int := if d = 1 then bnMul (bnSq s) else bnSq s
def bnP (pre : List (Int × Int)) : List S79 × Int := pre.foldl (fun s p => bnStep s p.2) ([], 0)
def bnAll (l : List Int) : List S79 × Int := (l.take (l.length - 1)).reverse.foldl bnStep ([], 0)
theorem bnP_snoc (pre : List (Int × Int)) (x : Int × Int) : bnP (pre ++ [x]) = bnStep (bnP pre) x.2 := by simp [bnP]
theorem bnStep_len (s : List S79 × Int) (n : Int) : (bnStep s n).1.length ≤ s.1.length + 2 := by
  unfold bnStep bnMul bnSq
  split <;> simp
theorem bnP_len (pre : List (Int × Int)) : (bnP pre).1.length ≤ 2 * pre.length := by
  have key : ∀ (pre : List (Int × Int)) (s : List S79 × Int), (pre.foldl (fun s p => bnStep s p.2) s).1.length ≤ s.1.length + 2 * pre.length := by
    intro pre
    induction pre with
    | nil => intro s; simp
    | cons x pre ih =>
      intro s
      rw [List.foldl_cons, List.length_cons]
      have h1 := ih (bnStep s x.2)
      have h2 := bnStep_len s x.2
      omega
  have := key pre ([], 0)
  simpa [bnP] using this
theorem bn_upto (zs : List Int) : ∀ k, k ≤ zs.length → (YtoiamgeaieefmaaBack.upto (YtoiamgeaieefmaaBack.pairAt zs) k).map Prod.snd = (zs.drop (zs.length - k)).reverse := by
  intro k
  induction k with
  | zero => intro _; simp [YtoiamgeaieefmaaBack.upto]
  | succ k ih =>
    intro hk
    rw [YtoiamgeaieefmaaBack.upto_succ, List.map_append, ih (by omega)]
    have e : zs.length - k = (zs.length - (k + 1)) + 1 := by omega
    have hlt : zs.length - (k + 1) < zs.length := by omega
    rw [List.drop_eq_getElem_cons hlt, ← e, List.reverse_cons]
    congr 1
    simp only [List.map_cons, List.map_nil, YtoiamgeaieefmaaBack.pairAt]
    rw [show zs.length - 1 - k = zs.length - (k + 1) by omega, List.getElem?_eq_getElem hlt]; rfl
theorem bnP_all (l : List Int) : bnP (YtoiamgeaieefmaaBack.pairs (l.take (l.length - 1))) = bnAll l := by
  have h := bn_upto (l.take (l.length - 1)) (l.take (l.length - 1)).length (Nat.le_refl _)
  rw [Nat.sub_self, List.drop_zero] at h
  unfold bnP bnAll
  rw [← h]
  unfold YtoiamgeaieefmaaBack.pairs
  rw [List.foldl_map]
/-- What lies ahead of the loop: the maker, its pointer's box, the box of the value. -/
def BnA (n0 B P T : Nat) (w0 : World) (os : List S79) (at_ : Int) (W : World) : Prop :=
  MkAt n0 B 1 os W W ∧ W.heap[P]? = some (.cells #[.pointer (some ⟨B, 0, none⟩)] 52 (0, 0)) ∧ W.heap[T]? = some (.cells #[.int .i64 at_] 3 (0, 0)) ∧ Below n0 w0 W ∧ n0 ≤ T
/-- What lies within the loop: besides, the row of digits and the box of the slice. -/
def BnJ (n0 B P T g Bs : Nat) (cs : Array Value) (sv : Value) (w0 : World) (os : List S79) (at_ : Int) (W : World) : Prop :=
  BnA n0 B P T w0 os at_ W ∧ W.heap[g]? = some (.cells cs 3 (0, 0)) ∧ W.heap[Bs]? = some (.cells #[sv] 24 (0, 0)) ∧ g ≠ T
def BnK (g Bs : Nat) (W W' : World) : Prop := YtoiamgeaieefmaaBack.KeepO g Bs W W' ∧ KeepsOthers W W'
theorem bk_trans {g Bs : Nat} {A B C : World} (h : BnK g Bs A B) (k : BnK g Bs B C) : BnK g Bs A C := ⟨h.1.trans k.1, h.2.trans k.2⟩
theorem keepO_of {g Bs : Nat} {ca cb : Array Value} {ta tb : TypeId} {W W' : World} (h1 : W.heap[g]? = some (.cells ca ta (0, 0))) (h2 : W.heap[Bs]? = some (.cells cb tb (0, 0))) (h3 : W'.heap[g]? = some (.cells ca ta (0, 0))) (h4 : W'.heap[Bs]? = some (.cells cb tb (0, 0))) : YtoiamgeaieefmaaBack.KeepO g Bs W W' := by
  rintro k (rfl | rfl) cs t fr e
  · rw [h1] at e; cases e; exact h3
  · rw [h2] at e; cases e; exact h4
theorem bj_step {n0 B P T g Bs : Nat} {cs : Array Value} {sv : Value} {w0 W W' : World} {os os2 : List S79} {at_ : Int} (h : BnJ n0 B P T g Bs cs sv w0 os at_ W) (hw : MkAt n0 B 1 os2 W W') (hk : MkKeep B W W') : BnJ n0 B P T g Bs cs sv w0 os2 at_ W' ∧ BnK g Bs W W' := by
  obtain ⟨⟨h1, hP, hT, hB, hge⟩, hg, hS, hne⟩ := h
  obtain ⟨u, hbx, hR, hb, hgB, hbw⟩ := hw
  have hBW := h1.choose_spec.1
  have hS2 := hk.1 Bs _ _ (by decide) (blk_ne hS hBW (by decide)) hS
  have hg2 := hk.1 g _ _ (by decide) (blk_ne hg hBW (by decide)) hg
  exact ⟨⟨⟨⟨u, hbx, hR, Below.refl _ _, hgB, Nat.le_trans hbw hb.size⟩, hk.1 P _ _ (by decide) (blk_ne hP hBW (by decide)) hP, hk.1 T _ _ (by decide) (blk_ne hT hBW (by decide)) hT, hB.trans hb, hge⟩, hg2, hS2, hne⟩, keepO_of hg hS hg2 hS2, hk.2⟩
theorem bj_mul {n0 B P T g Bs : Nat} {cs : Array Value} {sv : Value} {w0 W : World} {os : List S79} {at_ : Int} (hl : os.length ≤ 100000) (a b : Int) (h : BnJ n0 B P T g Bs cs sv w0 os at_ W) :
    Calls Try.prog 33 #[.pointer (some ⟨B, 0, none⟩), .int .i64 a, .int .i64 b] W fun e W' => e = .returned (.int .i64 (1 + (os.length : Int))) ∧ BnJ n0 B P T g Bs cs sv w0 (os ++ [⟨mn a b, mx a b⟩]) at_ W' ∧ BnK g Bs W W' := by
  refine (multiply_in n0 B 1 os W W a b h.1.1 (by omega) hl).mono ?_
  rintro e W' ⟨rfl, hw, hk⟩
  exact ⟨rfl, bj_step h hw hk⟩
theorem bj_set {n0 B P T g Bs : Nat} {cs : Array Value} {sv : Value} {w0 W : World} {os : List S79} {at_ : Int} (v : Int) (h : BnJ n0 B P T g Bs cs sv w0 os at_ W) : BnJ n0 B P T g Bs cs sv w0 os v (W.setCell ⟨T, 0, none⟩ (.int .i64 v)) ∧ BnK g Bs W (W.setCell ⟨T, 0, none⟩ (.int .i64 v)) := by
  obtain ⟨⟨⟨u, hbx, hR, _, hgB, hbw⟩, hP, hT, hB, hge⟩, hg, hS, hne⟩ := h
  have hS2 := blk_far hS (p := ⟨T, 0, none⟩) (blk_ne hS hT (by decide)) (.int .i64 v)
  have hg2 := blk_far hg (p := ⟨T, 0, none⟩) hne (.int .i64 v)
  have hb : Below n0 W (W.setCell ⟨T, 0, none⟩ (.int .i64 v)) := (Below.refl n0 W).setCell (p := ⟨T, 0, none⟩) hge _
  exact ⟨⟨⟨⟨u, blk_far hbx (p := ⟨T, 0, none⟩) (blk_ne hbx hT (by decide)) _, Kd.R_mono (ok' := fun _ => True) (Kd.R_far (p := ⟨T, 0, none⟩) (Kd.R_types hR hT (by decide)) (fun _ hk => hk.2) (.int .i64 v)) (fun _ hk => trivial), Below.refl _ _, hgB, Nat.le_trans hbw hb.size⟩, blk_far hP (p := ⟨T, 0, none⟩) (blk_ne hP hT (by decide)) _, blk_put hT 0 _ rfl, hB.trans hb, hge⟩, hg2, hS2, hne⟩, keepO_of hg hS hg2 hS2, KeepsOthers.setCell _ _ _⟩
theorem bj_same {n0 B P T g Bs : Nat} {cs : Array Value} {sv : Value} {w0 W W' : World} {os : List S79} {at_ : Int} (h : BnJ n0 B P T g Bs cs sv w0 os at_ W) (hs : ∀ (k : Nat) cs t, W.heap[k]? = some (.cells cs t (0, 0)) → W'.heap[k]? = some (.cells cs t (0, 0))) (hsz : W.heap.size ≤ W'.heap.size) (hb : Below n0 w0 W') : BnJ n0 B P T g Bs cs sv w0 os at_ W' := by
  obtain ⟨⟨⟨u, hbx, hR, _, hgB, hbw⟩, hP, hT, hB, hge⟩, hg, hS, hne⟩ := h
  refine ⟨⟨⟨u, hs _ _ _ hbx, Kd.R_mono (Kd.R_step (Kd.R_bound hR) (fun k hk1 _ => ?_)) (fun _ _ => trivial), Below.refl _ _, hgB, Nat.le_trans hbw hsz⟩, hs _ _ _ hP, hs _ _ _ hT, hb, hge⟩, hs _ _ _ hg, hs _ _ _ hS, hne⟩
  obtain ⟨_, _, _, q, hq, cells, hc⟩ := hk1
  rw [hs _ _ _ hc, hc]
theorem bj_own {n0 B P T g Bs Bd : Nat} {cs : Array Value} {sv : Value} {w0 : World} {β : Type} (f : β → List S79) (gg : β → Int) (hn : n0 ≤ w0.heap.size) (hBd : n0 ≤ Bd) : OwnFrom Bd (fun (s : β) W => BnJ n0 B P T g Bs cs sv w0 (f s) (gg s) W) := fun s X Y row hs hg hr => by
  refine bj_same hs (fun k cs t e => (hg.block k (blk_lt e) (fun he => ?_)).trans e) hg.size (hs.1.2.2.2.1.grown hg (Nat.le_trans hn hs.1.2.2.2.1.size) (fun k e => Nat.le_trans hBd (hr k e).1))
  obtain ⟨_, o, ho, hc⟩ := hr k he.symm
  rw [e] at ho
  cases ho
  cases hc
theorem bnA_below {n0 B P T : Nat} {w0 W W' : World} {os : List S79} {at_ : Int} (h : BnA n0 B P T w0 os at_ W) (hb : Below W.heap.size W W') : BnA n0 B P T w0 os at_ W' := by
  obtain ⟨⟨u, hbx, hR, _, hgB, hbw⟩, hP, hT, hB, hge⟩ := h
  exact ⟨⟨u, blk_below hbx hb, Kd.R_below hR hb, Below.refl _ _, hgB, Nat.le_trans hbw hb.size⟩, blk_below hP hb, blk_below hT hb, hB.trans (hb.mono hbw), hge⟩
theorem tp_defer {w W : World} {r1 : Int} {r2 : List S79} {r3 : List Int} {r4 : Bool} {e : Ending} {E : Nat} (h : TpPost w r1 r2 r3 r4 e W) (hE : W.heap[E]? = some (.deferred (some []))) (hw : w.heap.size ≤ E) : TpPost w r1 r2 r3 r4 e (W.putObj E (.deferred none)) := by
  obtain ⟨v1, v2, he, h1, h2, hB⟩ := h
  have key : ∀ (k : Nat) (q : TypeId) (cells : Array Value), W.heap[k]? = some (.cells cells q (0, 0)) → (W.putObj E (.deferred none)).heap[k]? = W.heap[k]? := fun k q cells hc => by
    refine (grownBy_putObj' _ E (.deferred none)).block k (blk_lt hc) (fun e => ?_)
    injection e with e
    subst e
    rw [hE] at hc
    cases hc
  refine ⟨v1, v2, he, ?_, ?_, hB.trans (belowK_b (w := w) (Nat.le_refl _) _ E _ _ hw hE rfl rfl)⟩
  · refine Kd.R_mono (Kd.R_step (Kd.R_bound h1) (fun k_ hk_ _ => ?_)) (fun _ _ => trivial)
    obtain ⟨_, _, _, q_, _, cells, hc⟩ := hk_
    exact key k_ _ _ hc
  · refine Kd.R_mono (Kd.R_step (Kd.R_bound h2) (fun k_ hk_ _ => ?_)) (fun _ _ => trivial)
    obtain ⟨_, _, _, q_, _, cells, hc⟩ := hk_
    exact key k_ _ _ hc
theorem bn_not {α : Type} {d : Kd α} {e base E : Nat} {W : World} {v : Value} {xs : List α} (h : Kd.R d e W base (fun _ => True) v xs) (hE : W.heap[E]? = some (.deferred (some []))) : Kd.R d e W base (fun k => k ≠ E) v xs := by
  refine Kd.R_mono (Kd.R_bound h) (fun k hk => ?_)
  obtain ⟨_, _, _, q_, _, cells, hc⟩ := hk
  intro e
  subst e
  rw [hE] at hc
  cases hc
section
set_option maxRecDepth 100000
attribute [local go_sem] Oper.semAt_some in
set_option maxHeartbeats 4000000 in
theorem bn_yes (k : Nat) (a0 : Int) (l : List Int) (r1 : Int) (r2 : List S79) (r3 : List Int) (r4 : Bool) (w : World) (hok : impl_isNumber.f a0 = some true) (hd : impl_digits.f k a0 2 = some l) (hl : 1 ≤ l.length) (hl2 : l.length ≤ 1000) (hf : impl_told.f 1 (bnAll l).1 [(bnAll l).2] = some (r1, r2, r3, r4)) :
    CallsIn Fence.wide 5 Try.prog 83 #[.int .i64 a0] w (TpPost w r1 r2 r3 r4) := by
  obtain ⟨w0, hw0⟩ : ∃ w0, w.alloc (.cells #[.int .i64 0, .slice none 0 0, .slice none 0 0] 28) = w0 := ⟨_, rfl⟩
  have HX := Aside0.mk (show w0.heap[w.heap.size]? = some (.cells #[.int .i64 0, .slice none 0 0, .slice none 0 0] 28 (0, 0)) by rw [← hw0]; exact blk_new w _)
  have HB0 := Aside0.mk (show Below w.heap.size w w0 by rw [← hw0]; exact below_alloc (Below.refl _ w) _)
  have HS0 := Aside0.mk (show w0.heap.size = w.heap.size + 1 by rw [← hw0, World.size_alloc])
  have HW0 := Aside0.mk hw0
  have HOK := Aside0.mk hok
  have HD := Aside0.mk hd
  have HL := Aside0.mk (And.intro hl hl2)
  have HF := Aside0.mk hf
  clear hok hd hl hl2 hf hw0
  refine callsIn_of_wp_marks (F := Fence.wide) Try.func83 rfl trivial ?_ rfl
  refine wpIn_wide.2 ?_
  simp only [Try.ntmps83, List.size_toArray, List.length_cons, List.length_nil, Nat.reduceAdd, Nat.reduceSub, Array.replicate_succ, Array.replicate_zero, List.push_toArray, List.append_toArray, List.nil_append, List.cons_append]
  go_wp2_with (go_at_call 47; rw [HW0.out]; refine (impl_isNumber.calls _ _ _ HOK.out).mono ?_; rintro e w2 ⟨rfl, ⟨⟨q, rfl⟩⟩⟩; obtain ⟨w2, hw2⟩ : ∃ w2, w0.drewN q = w2 := ⟨_, rfl⟩; have HB1 := Aside0.mk (show Below w0.heap.size w0 w2 from hw2 ▸ pw_below_drewN (Below.refl _ w0) q); rw [hw2]; clear hw2)
  refine (newMaker_in 1 w2).mono ?_
  rintro e w3 ⟨rfl, rfl⟩
  have HA := Aside0.mk (show BnA w0.heap.size w2.heap.size (w2.heap.size + 1) (w2.heap.size + 1 + 1) w0 [] 0 (((w2.alloc (.cells #[.int .i64 1, .slice none 0 0, .slice none 0 0] 74)).alloc (.cells #[.pointer (some ⟨w2.heap.size, 0, none⟩)] 52)).alloc (.cells #[.int .i64 0] 3)) from by
    have h1 := mk_new w0.heap.size 1 w0 w2 HB1.out (Nat.le_refl _)
    have hn := blk_new (w2.alloc (.cells #[.int .i64 1, .slice none 0 0, .slice none 0 0] 74)) (.cells #[.pointer (some ⟨w2.heap.size, 0, none⟩)] 52)
    have ht := blk_new ((w2.alloc (.cells #[.int .i64 1, .slice none 0 0, .slice none 0 0] 74)).alloc (.cells #[.pointer (some ⟨w2.heap.size, 0, none⟩)] 52)) (.cells #[.int .i64 0] 3)
    simp only [World.size_alloc] at hn ht
    obtain ⟨u, hbx, hR, hB, hgB, hbw⟩ := mk_alloc (mk_alloc h1 (.cells #[.pointer (some ⟨w2.heap.size, 0, none⟩)] 52)) (.cells #[.int .i64 0] 3)
    exact ⟨⟨u, hbx, hR, Below.refl _ _, hgB, Nat.le_trans hbw hB.size⟩, blk_alloc hn _, ht, hB, Nat.le_trans (Nat.le_trans hgB (Nat.le_succ _)) (Nat.le_succ _)⟩)
  go_wp2_with (fail)
  obtain ⟨w3, hw3⟩ : ∃ w3, (((w2.alloc (.cells #[.int .i64 1, .slice none 0 0, .slice none 0 0] 74)).alloc (.cells #[.pointer (some ⟨w2.heap.size, 0, none⟩)] 52)).alloc (.cells #[.int .i64 0] 3)) = w3 := ⟨_, rfl⟩
  rw [hw3] at HA ⊢
  obtain ⟨B, hB⟩ : ∃ B, w2.heap.size = B := ⟨_, rfl⟩
  rw [hB] at HA ⊢
  have HBN := Aside0.mk (show w0.heap.size ≤ B from hB ▸ HB1.out.size)
  clear hw3 hB HB1
  refine (impl_digits.calls k a0 2 l w3 HD.out).mono ?_
  rintro e w4 ⟨v4, rfl, hr_, hb_⟩
  obtain ⟨g, cap, rfl, hgb, hgl, cs, hrow⟩ := Kd.R_form hr_ (by have := HL.out; omega)
  have HA4 := Aside0.mk (bnA_below HA.out hb_)
  have HROW := Aside0.mk hrow
  have HTL := Aside0.mk (blk_lt HA.out.2.2.1)
  have HGB := Aside0.mk hgb
  have hlc := (Kd.R_reads' hr_).2.1
  have HCC := Aside0.mk (Kd.R_reads' hr_).2.2
  have hl1 := HL.out
  obtain ⟨m, hm⟩ : ∃ m, l.length = m + 1 := ⟨l.length - 1, by omega⟩
  have hw1 : wrap64 ((l.length : Int) - 1) = (m : Int) := by rw [hm]; unfold wrap64; omega
  have hw2 : IntKind.i64.wrap ((l.length : Int) - 1) = (m : Int) := (i64_w _).trans hw1
  have hml : m ≤ l.length := by omega
  have hmc : m ≤ cap := by omega
  have HM := Aside0.mk hm
  clear hr_ hb_ hgb hgl hrow HA hl1 hm
  go_wp2_with (go_at_call 100; refine (callsIn_wide.1 (YtoiamgeaieefmaaBack.back_in Fence.wide 5 trivial rfl _ _ _ _)).mono ?_; rintro e w' ⟨rfl, rfl⟩)
  obtain ⟨zs, hzs⟩ : ∃ zs, l.take m = zs := ⟨_, rfl⟩
  have hzl : zs.length = m := by rw [← hzs, List.length_take]; omega
  have hm1000 : m ≤ 1000 := by have := HL.out; have := HM.out; omega
  have bB := blk_new w4 (.cells #[.slice (some ⟨g, 0, none⟩) m cap] 24)
  have hcell : ∀ j, j < zs.length → (w4.alloc (.cells #[.slice (some ⟨g, 0, none⟩) m cap] 24)).cell? ⟨g, 0 + j, none⟩ = some (.int .i64 (zs[j]?.getD 0)) := by
    intro j hj
    rcases YtoiamgeaieefmaaHand.int_slice (Kd.C_alloc HCC.out (.cells #[.slice (some ⟨g, 0, none⟩) m cap] 24)) with h0 | ⟨b, off, e, _, hcells⟩
    · have := HL.out
      rw [h0] at this
      simp at this
    · injection e with e
      injection e with e1 e2
      subst e1
      subst e2
      have := hcells j (by omega)
      rw [this, ← hzs, List.getElem?_take_of_lt (by omega), List.getD_eq_getElem?_getD]
  have HJ0 : BnJ w0.heap.size B (B + 1) (B + 1 + 1) g w4.heap.size cs (.slice (some ⟨g, 0, none⟩) m cap) w0 [] 0 (w4.alloc (.cells #[.slice (some ⟨g, 0, none⟩) m cap] 24)) := ⟨bnA_below HA4.out (below_alloc (Below.refl _ _) _), blk_alloc HROW.out _, bB, by have := HTL.out; have := HGB.out; omega⟩
  have HZS := Aside0.mk hzs
  have HCE := Aside0.mk (bnP_all l)
  rw [show l.length - 1 = m by have := HM.out; omega, hzs] at HCE
  have hreach : zs.length * 8 ≤ 140737488351232 := by omega
  refine (wpIn_wide (n := 5)).1 ?_
  refine wpIn_rangeFunc_ownG (F := Fence.wide) (n := 5) rfl (by omega) (gf := 106) (lb := #[.pointer (some ⟨w4.heap.size, 0, none⟩)]) rfl trivial (enters_of Try.func106 (by kernel_rfl) rfl)
    (YtoiamgeaieefmaaBack.backo_stops Fence.wide (5 - 1) trivial rfl (by omega) g 0 cap w4.heap.size cs zs hreach _ (by rw [hzl]; exact bB) (blk_alloc HROW.out _) hcell) YtoiamgeaieefmaaBack.KeepO.trans (fun W l o o' _ ho hc _ => YtoiamgeaieefmaaBack.keepO_b W l o o' ho hc) (Below.refl _ _) (fun _ => rfl)
    (fun pre W => BnJ w0.heap.size B (B + 1) (B + 1 + 1) g w4.heap.size cs (.slice (some ⟨g, 0, none⟩) m cap) w0 (bnP pre).1 (bnP pre).2 W)
    (fun _ _ _ => False)
    (bj_own (fun pre => (bnP pre).1) (fun pre => (bnP pre).2) (Nat.le_refl _) (by rw [World.size_alloc]; have := HA4.out.2.2.2.1.size; omega))
    (fun _ _ _ _ _ hs _ _ => hs)
    HJ0
    (fun x => { tmps := #[.int .i64 a0, undef, .pointer (some ⟨w.heap.size, 0, none⟩), .bool false, .pointer (some ⟨B + 1, 0, none⟩), .pointer (some ⟨B + 1 + 1, 0, none⟩), .slice (some ⟨g, 0, none⟩) l.length cap, undef, .int .i64 x.2, .int .i64 a0, .bool true, .bool false, undef, .pointer (some ⟨B, 0, none⟩), .int .i64 a0, .slice (some ⟨g, 0, none⟩) l.length cap, .slice (some ⟨g, 0, none⟩) l.length cap, .slice (some ⟨g, 0, none⟩) l.length cap, .int .i64 (l.length : Int), .int .i64 (m : Int), .slice (some ⟨g, 0, none⟩) m cap, .func (.func 106) #[] #[.pointer (some ⟨w4.heap.size, 0, none⟩)], .int .i64 x.1, .int .i64 x.2, undef, undef, undef, undef, undef, undef, undef, undef, undef, undef, undef, undef, undef, undef, undef, undef], defers := [] }) ?assign ?body ?done ?stop
  case assign =>
    intro lb x W K hK
    gi_wp2
    exact hK
  case body =>
    rintro lb pre x W hJ hlt
    obtain ⟨st, hst⟩ : ∃ st, bnP pre = st := ⟨_, rfl⟩
    have hlen := bnP_len pre
    have hnew := bnP_snoc pre x
    rw [hst] at hJ hlen hnew
    obtain ⟨os, at_⟩ := st
    dsimp only at hJ hlen
    have HNEW := Aside0.mk hnew
    have kP : W.cell? ⟨B + 1, 0, none⟩ = some (.pointer (some ⟨B, 0, none⟩)) := (blk_cell hJ.1.2.1 0).trans rfl
    have kT : W.cell? ⟨B + 1 + 1, 0, none⟩ = some (.int .i64 at_) := (blk_cell hJ.1.2.2.1 0).trans rfl
    have PU := Aside0.mk (bj_mul (by omega) at_ at_ hJ)
    have hos : os.length ≤ 2000 := by omega
    have HOS := Aside0.mk hos
    obtain ⟨xi, xd⟩ := x
    dsimp only
    clear hnew hlen hst hJ hlt HJ0 bB hreach hzl hzs hcell hos hm1000
    gi_wp2
    refine ⟨trivial, CallsIn.inRound _ (callsIn_wide.2 (PU.out.mono ?_))⟩
    rintro e w6 ⟨rfl, hj_, hk_⟩
    have HJ1 := Aside0.mk hj_
    have HK1 := Aside0.mk hk_
    have kT6 : w6.cell? ⟨B + 1 + 1, 0, none⟩ = some (.int .i64 at_) := (blk_cell hj_.1.2.2.1 0).trans rfl
    have kF6 := blk_frozen hj_.1.2.2.1 0
    clear hj_ hk_
    have hn1 := bj_set (1 + (os.length : Int)) HJ1.out
    have kP7 : (w6.setCell ⟨B + 1 + 1, 0, none⟩ (.int .i64 (1 + (os.length : Int)))).cell? ⟨B + 1, 0, none⟩ = some (.pointer (some ⟨B, 0, none⟩)) := (blk_cell hn1.1.1.2.1 0).trans rfl
    have kT7 : (w6.setCell ⟨B + 1 + 1, 0, none⟩ (.int .i64 (1 + (os.length : Int)))).cell? ⟨B + 1 + 1, 0, none⟩ = some (.int .i64 (1 + (os.length : Int))) := (blk_cell hn1.1.1.2.2.1 0).trans rfl
    have HN1 := Aside0.mk hn1
    clear hn1 kP kT
    by_cases hd : xd = 1
    · subst hd
      have hstep : bnStep (os, at_) (1 : Int) = bnMul (bnSq (os, at_)) := by unfold bnStep; rw [if_pos rfl]
      have PU2 := Aside0.mk (bj_mul (os := os ++ [⟨mn at_ at_, mx at_ at_⟩]) (by rw [List.length_append, List.length_singleton]; have := HOS.out; omega) (1 + (os.length : Int)) 0 HN1.out.1)
      have HST := Aside0.mk hstep
      clear hstep
      gi_wp2
      refine ⟨trivial, CallsIn.inRound _ (callsIn_wide.2 (PU2.out.mono ?_))⟩
      rintro e w8 ⟨rfl, hj_, hk_⟩
      have HJ2 := Aside0.mk hj_
      have HK2 := Aside0.mk hk_
      have kT8 : w8.cell? ⟨B + 1 + 1, 0, none⟩ = some (.int .i64 (1 + (os.length : Int))) := (blk_cell hj_.1.2.2.1 0).trans rfl
      have kF8 := blk_frozen hj_.1.2.2.1 0
      clear hj_ hk_ kP7 kT7 kT6 kF6
      gi_wp2
      have hn2 := bj_set (1 + ((os.length : Int) + 1)) HJ2.out
      have hk := bk_trans HK1.out (bk_trans HN1.out.2 (bk_trans HK2.out hn2.2))
      refine ⟨hk.2.from _, hk.1, ?_⟩
      have e2 : (bnMul (bnSq (os, at_))).2 = 1 + ((os.length : Int) + 1) := by
        show 1 + ((os ++ [_]).length : Int) = _
        rw [List.length_append, List.length_singleton]
        rfl
      show BnJ _ _ _ _ _ _ _ _ _ (bnP (pre ++ [(xi, 1)])).1 (bnP (pre ++ [(xi, 1)])).2 _
      rw [HNEW.out]
      rw [HST.out, e2]
      exact hn2.1
    · have hdd : decide (xd = 1) = false := decide_eq_false hd
      have hde : (xd == 1) = false := beq_eq_false_iff_ne.2 hd
      have hstep : bnStep (os, at_) xd = bnSq (os, at_) := by unfold bnStep; rw [if_neg hd]
      have HST := Aside0.mk hstep
      clear hstep hd
      gi_wp2
      have hk := bk_trans HK1.out HN1.out.2
      refine ⟨hk.2.from _, hk.1, ?_⟩
      show BnJ _ _ _ _ _ _ _ _ _ (bnP (pre ++ [(xi, xd)])).1 (bnP (pre ++ [(xi, xd)])).2 _
      rw [HNEW.out]
      rw [HST.out]
      exact HN1.out.1
  case done =>
    rintro E ys W hE rfl hJ hK
    have HE := Aside0.mk hE
    have HCE2 := HCE.out
    have HJW := Aside0.mk (show BnJ w0.heap.size B (B + 1) (B + 1 + 1) g w4.heap.size cs (.slice (some ⟨g, 0, none⟩) m cap) w0 (bnAll l).1 (bnAll l).2 W by rw [← HCE2]; exact hJ)
    clear hJ HCE2
    obtain ⟨os, hos⟩ : ∃ os, (bnAll l).1 = os := ⟨_, rfl⟩
    obtain ⟨at_, hat⟩ : ∃ at_, (bnAll l).2 = at_ := ⟨_, rfl⟩
    rw [hos, hat] at HJW HF
    have kP : W.cell? ⟨B + 1, 0, none⟩ = some (.pointer (some ⟨B, 0, none⟩)) := (blk_cell HJW.out.1.2.1 0).trans rfl
    have kT : W.cell? ⟨B + 1 + 1, 0, none⟩ = some (.int .i64 at_) := (blk_cell HJW.out.1.2.2.1 0).trans rfl
    have HK := Aside0.mk hK
    have HMK := Aside0.mk (show MkAt w0.heap.size B 1 os w0 W from by
      obtain ⟨⟨⟨u, hbx, hR, _, hgB, hbw⟩, _, _, hB, _⟩, _, _, _⟩ := HJW.out
      exact ⟨u, hbx, hR, hB, hgB, Nat.le_refl _⟩)
    have hsz := HMK.out.choose_spec.2.2.1.size
    have hbx := HMK.out.choose_spec.1
    have hOwn : Kd.R (Kd.int .i64) 3 (W.alloc (.cells #[.int .i64 at_] 3)) w0.heap.size (fun _ => True) (.slice (some ⟨W.heap.size, 0, none⟩) 1 1) [at_] := Kd.R_of_own (Go.Proofs.YtoiamgeaieefmaaW.PrintWords.own_lit W w0.heap.size 3 .i64 [at_] hsz (by simp)) (fun _ _ => trivial)
    have HMA := mk_alloc HMK.out (.cells #[.int .i64 at_] 3)
    have HPL := Aside0.mk (plan_in w0.heap.size B 1 os w0 _ (some ⟨W.heap.size, 0, none⟩) 1 1 HMA)
    have HOW := Aside0.mk (fun W1 (hk : MkKeep B (W.alloc (.cells #[.int .i64 at_] 3)) W1) => mk_ints hOwn (blk_alloc hbx _) hk)
    have HEW := Aside0.mk ((Below.heap_alloc W (.cells #[.int .i64 at_] 3) E (Array.getElem?_eq_some_iff.1 hK).1).trans hK)
    have HEB := Aside0.mk (show w4.heap.size ≤ E by rw [World.size_alloc] at hE; omega)
    clear hos hat hK hE hsz hbx hOwn HMA HMK HJ0 bB hreach hzl hzs hcell HCE HZS HE HJW
    go_wp2_with (go_at_call 36; refine HPL.out.mono ?_; rintro e w8 ⟨u8, rfl, hr_, hb_, hk_⟩; have HR8 := Aside0.mk hr_; have HB8 := Aside0.mk hb_; have HO8 := Aside0.mk (HOW.out _ hk_); have HE8 := Aside0.mk (hk_.2.same E _ HEW.out rfl); clear hr_ hb_ hk_)
    refine (impl_told.calls 1 (fun k => k ≠ E) u8 os (fun k => k ≠ E) (.slice (some ⟨W.heap.size, 0, none⟩) 1 1) [at_] r1 r2 r3 r4 w0 w8 HB8.out (bn_not HR8.out HE8.out) (bn_not HO8.out HE8.out) HF.out).mono ?_
    rintro e w9 ⟨v1, v2, rfl, hr1, hr2, hb9, hkp⟩
    have HX9 := Aside0.mk (blk_below HX.out hb9)
    have HE9 := Aside0.mk ((hkp.2 E (Array.getElem?_eq_some_iff.1 HE8.out).1 (fun h => by rcases h with h | h <;> exact h rfl)).trans HE8.out)
    have HB9 := Aside0.mk (HB0.out.trans (hb9.mono HB0.out.size))
    have HR1 := Aside0.mk (Kd.R_lower (Kd.R_mono (ok' := fun _ => True) hr1 (fun _ _ => trivial)) HB0.out.size)
    have HR2 := Aside0.mk (Kd.R_lower (Kd.R_mono (ok' := fun _ => True) hr2 (fun _ _ => trivial)) HB0.out.size)
    clear hr1 hr2 hb9 hkp HR8 HB8 HO8
    obtain ⟨z0, z1, z2, f0, f1, f2⟩ := tp_cells HX9.out
    obtain ⟨A1, c1, rfl⟩ := Kd.R_slice HR1.out
    obtain ⟨A2, c2, rfl⟩ := Kd.R_slice HR2.out
    go_wp2
    have hEn : E ≠ w.heap.size := by have := HEB.out; have := HBN.out; have := HS0.out; have := HTL.out; have := HGB.out; have := (Array.getElem?_eq_some_iff.1 HROW.out).1; omega
    have hEw : w.heap.size ≤ E := by have := HEB.out; have := HBN.out; have := HS0.out; have := HTL.out; have := HGB.out; have := (Array.getElem?_eq_some_iff.1 HROW.out).1; omega
    have HX2 := blk_put (blk_put (blk_put HX9.out 0 (.int .i64 r1) rfl) 1 (.slice A1 r2.length c1) rfl) 2 (.slice A2 r3.length c2) rfl
    have HE4 : (((w9.setCell ⟨w.heap.size, 0, none⟩ (.int .i64 r1)).setCell ⟨w.heap.size, 1, none⟩ (.slice A1 r2.length c1)).setCell ⟨w.heap.size, 2, none⟩ (.slice A2 r3.length c2)).heap[E]? = some (.deferred (some [])) := (Below.heap_setCell _ ⟨w.heap.size, 2, none⟩ _ E hEn).trans ((Below.heap_setCell _ ⟨w.heap.size, 1, none⟩ _ E hEn).trans ((Below.heap_setCell _ ⟨w.heap.size, 0, none⟩ _ E hEn).trans HE9.out))
    refine ⟨by simp, .inl ⟨_, _, rfl, run_takeDeferred HE4, ?_⟩⟩
    refine ⟨_, results_ct rfl _ _ w.heap.size 28 #[.int .i64 r1, .slice A1 r2.length c1, .slice A2 r3.length c2] (0, 0) _ rfl (((grownBy_putObj' _ E (.deferred none)).block _ (blk_lt HX2) (fun e => by injection e with e; exact hEn e.symm)).trans HX2) Try.underlying28 rfl (by kernel_rfl), ?_⟩
    exact tp_defer (tp_end HX9.out HB9.out HR1.out HR2.out) HE4 hEw
  case stop =>
    rintro D c pre W _ _ h _
    exact h.elim
end
theorem bn_no (k : Nat) (a0 : Int) (w : World) (hok : impl_isNumber.f a0 = some false) :
    Calls Try.prog 83 #[.int .i64 a0] w (TpPost w 0 [] [] false) := by
  obtain ⟨w1, hw1⟩ : ∃ w1, w.alloc (.cells #[.int .i64 0, .slice none 0 0, .slice none 0 0] 28) = w1 := ⟨_, rfl⟩
  have HB := Aside0.mk (show Below w.heap.size w w1 from hw1 ▸ below_alloc (Below.refl w.heap.size w) (.cells #[.int .i64 0, .slice none 0 0, .slice none 0 0] 28))
  have HX := Aside0.mk (show w1.heap[w.heap.size]? = some (.cells #[.int .i64 0, .slice none 0 0, .slice none 0 0] 28 (0, 0)) from hw1 ▸ blk_new w _)
  have HW1 := Aside0.mk hw1
  have HOK := Aside0.mk hok
  clear hw1 hok
  go_enter Try.func83, Try.ntmps83
  go_wp2_with (go_at_call 47; rw [HW1.out]; refine (impl_isNumber.calls _ _ _ HOK.out).mono ?_; rintro e w2 ⟨rfl, ⟨⟨q, rfl⟩⟩⟩; obtain ⟨w2, hw2⟩ : ∃ w2, w1.drewN q = w2 := ⟨_, rfl⟩; have HX2 := Aside0.mk (show w2.heap[w.heap.size]? = some (.cells #[.int .i64 0, .slice none 0 0, .slice none 0 0] 28 (0, 0)) from hw2 ▸ blk_drewN HX.out q); have HB2 := Aside0.mk (show Below w.heap.size w w2 from hw2 ▸ pw_below_drewN HB.out q); rw [hw2]; clear hw2; obtain ⟨z0, z1, z2, f0, f1, f2⟩ := tp_cells HX2.out)
  refine bodyPost_ret (results_ct rfl _ _ w.heap.size 28 #[.int .i64 0, .slice none 0 0, .slice none 0 0] (0, 0) _ rfl (blk_put (blk_put (blk_put HX2.out 0 _ rfl) 1 _ rfl) 2 _ rfl) Try.underlying28 rfl (by kernel_rfl)) rfl ?_
  exact tp_zero HX2.out HB2.out
def impl_BinaryPlan.f (k : Nat) (a0 : Int) : Option (Int × List S79 × List Int × Bool) := (impl_isNumber.f a0).bind fun c => if c = true then (impl_digits.f k a0 2).bind fun l => if 1 ≤ l.length ∧ l.length ≤ 1000 then impl_told.f 1 (bnAll l).1 [(bnAll l).2] else none else some (0, [], [], false)
theorem impl_BinaryPlan.mono : ∀ (a0 : Int) (k : Nat), LeO (impl_BinaryPlan.f k a0) (impl_BinaryPlan.f (k + 1) a0) := by
  intro a0 k
  unfold impl_BinaryPlan.f
  exact LeO.bind (LeO.refl _) (fun _ => LeO.ite (LeO.bind (impl_digits.mono _ _ _) (fun _ => LeO.refl _)) (LeO.refl _))
theorem impl_BinaryPlan.calls (k : Nat) (a0 : Int) (r1 : Int) (r2 : List S79) (r3 : List Int) (r4 : Bool) (w : World) (h : impl_BinaryPlan.f k a0 = some (r1, r2, r3, r4)) :
    Calls Try.prog 83 #[.int .i64 a0] w fun e w' => ∃ v0_ v1_ : Value, e = .returned (.tuple #[.agg #[.int .i64 r1, v0_, v1_], .bool r4]) ∧ Kd.R k79 79 w' w.heap.size (fun _ => True) v0_ r2 ∧ Kd.R (Kd.int .i64) 3 w' w.heap.size (fun _ => True) v1_ r3 ∧ Below w.heap.size w w' := by
  unfold impl_BinaryPlan.f at h
  obtain ⟨c, hok, h1⟩ := Option.bind_eq_some_iff.mp h
  clear h
  cases c with
  | true =>
    rw [if_pos rfl] at h1
    obtain ⟨l, hd, h2⟩ := Option.bind_eq_some_iff.mp h1
    by_cases hl : 1 ≤ l.length ∧ l.length ≤ 1000
    · rw [if_pos hl] at h2
      exact callsIn_wide.1 (bn_yes k a0 l r1 r2 r3 r4 w hok hd hl.1 hl.2 h2)
    · rw [if_neg hl] at h2; cases h2
  | false =>
    rw [if_neg (by simp)] at h1
    simp only [Option.some.injEq, Prod.mk.injEq] at h1
    obtain ⟨rfl, rfl, rfl, rfl⟩ := h1
    exact bn_no k a0 w hok

/-! ### impl_BinaryCost: function 57 -/
def impl_BinaryCost.f (k : Nat) (a0 : Int) : Option (Int × Bool) := (impl_BinaryPlan.f k a0).bind fun bt229 => (some ((bt229.2.1.length : Int), bt229.2.2.2))
theorem impl_BinaryCost.mono : ∀ a0 k, LeO (impl_BinaryCost.f k a0) (impl_BinaryCost.f (k + 1) a0) := by
  intro a0 k
  unfold impl_BinaryCost.f
  repeat' first
      | (with_reducible exact impl_BinaryPlan.mono _ _)
      | (with_reducible exact LeO.refl _)
      | (with_reducible exact LeO.none _)
      | (with_reducible refine LeO.ite ?_ ?_)
      | (with_reducible refine LeO.bind ?_ (fun _ => ?_))
      | exact impl_BinaryPlan.mono _ _
      | exact LeO.none _
      | refine LeO.ite ?_ ?_
      | refine LeO.bind ?_ (fun _ => ?_)
set_option maxHeartbeats 8000000 in
set_option maxRecDepth 100000 in
theorem impl_BinaryCost.calls (k : Nat) (a0 : Int) (r1 : Int) (r2 : Bool) (w : World) (h : impl_BinaryCost.f k a0 = some (r1, r2)) :
    Calls Try.prog 57 #[.int .i64 a0] w fun e w' => e = .returned (.tuple #[.int .i64 r1, .bool r2]) ∧ Below w.heap.size w w' := by
  have hu28 := Try.underlying28
  have HB := Aside0.mk (Below.refl w.heap.size w)
  have H : ((impl_BinaryPlan.f k a0).bind fun bt229 => (some ((bt229.2.1.length : Int), bt229.2.2.2))) = some (r1, r2) := h
  clear h
  replace H := Option.bind_eq_some_iff.mp H
  obtain ⟨⟨t229, t230, t233, t236⟩, A20, H⟩ := H
  replace H : (some ((t230.length : Int), t236)) = some (r1, r2) := H
  have A2 := Aside0.mk A20
  clear A20
  simp only [Option.some.injEq, Prod.mk.injEq] at H
  obtain ⟨rfl, rfl⟩ := H
  go_enter Try.func57, Try.ntmps57
  go_wp2_with (first | ((with_reducible refine gate_callee (f := 83) rfl ?_); refine goesL_ (some 8) rfl rfl Try.func83 (by kernel_rfl) rfl #[.int .i64 a0] rfl (by (try simp only [List.map_toArray, List.map_cons, List.map_nil]); first | done | rfl | (simp only [List.length_drop, List.length_take]; rfl)) ?_; (with_reducible refine (impl_BinaryPlan.calls k a0 t229 t230 t233 t236 _ A2.out).mono ?_); rintro e w3 ⟨v231, v234, rfl, ho0, ho1, hb⟩; refine ⟨_, rfl, ?_⟩; have n0_ := Aside0.mk (Kd.R_lower ho0 (below_size (by repeat (first | (with_reducible first | exact HB.out | apply below_alloc | apply pw_below_drewN | apply below_drew1) | exact HB.out)))); have n1_ := Aside0.mk (Kd.R_lower ho1 (below_size (by repeat (first | (with_reducible first | exact HB.out | apply below_alloc | apply pw_below_drewN | apply below_drew1) | exact HB.out)))); have n2_ := Aside0.mk (below_step (by repeat (first | (with_reducible first | exact HB.out | apply below_alloc | apply pw_below_drewN | apply below_drew1) | exact HB.out)) hb); clear HB; have HO232 := n0_; have HO235 := n1_; have HB := n2_; clear n0_ n1_ n2_; (try clear hb); (try clear hb2); (try clear hk); (try clear hi); (try clear ho0); (try clear ho1)) | ((with_reducible refine gate_dst (N := 4) rfl ?_); refine box_event ?hg (N := 4) ?hd (cs := #[.int .i64 0, .slice none 0 0, .slice none 0 0]) (t := 28) ?hr ?_; (case hd => rfl); (case hg => rfl); (case hr => first | (go_simp; done) | (go_simp; rfl)); intro gb237 hg w4 hbox hb; have n0_ := Aside0.mk (Kd.R_below (by (with_reducible repeat (first | apply Kd.R_alloc | apply Kd.R_drewN | apply Kd.R_drew)); exact HO232.out) hb); have n1_ := Aside0.mk (Kd.R_below (by (with_reducible repeat (first | apply Kd.R_alloc | apply Kd.R_drewN | apply Kd.R_drew)); exact HO235.out) hb); have n2_ := Aside0.mk (below_step (by repeat (first | (with_reducible first | exact HB.out | apply below_alloc | apply pw_below_drewN | apply below_drew1) | exact HB.out)) hb); have n3_ := Aside0.mk (hbox); have n4_ := Aside0.mk ((by rw [hg]; exact (below_size (by repeat (first | (with_reducible first | exact HB.out | apply below_alloc | apply pw_below_drewN | apply below_drew1) | exact HB.out))) : w.heap.size ≤ gb237)); have n5_ := Aside0.mk ((by rw [hg]; exact (below_size (by repeat (first | (with_reducible first | exact HB.out | apply below_alloc | apply pw_below_drewN | apply below_drew1) | exact HB.out))) : w.heap.size ≤ gb237)); clear HO232; clear HO235; clear HB; have HO232 := n0_; have HO235 := n1_; have HB := n2_; have BK237 := n3_; have GW237 := n4_; have GE237 := n5_; clear n0_ n1_ n2_ n3_ n4_ n5_; clear hb hbox hg; have hcz5_0 : w4.cell? ⟨gb237, 0, none⟩ = some (.int .i64 0) := (blk_cell BK237.out 0).trans rfl; have hcz5_1 : w4.cell? ⟨gb237, 1, none⟩ = some (.slice none 0 0) := (blk_cell BK237.out 1).trans rfl; have hcz5_2 : w4.cell? ⟨gb237, 2, none⟩ = some (.slice none 0 0) := (blk_cell BK237.out 2).trans rfl; have hfz5_0 := blk_frozen BK237.out 0; have hfz5_1 := blk_frozen BK237.out 1; have hfz5_2 := blk_frozen BK237.out 2; obtain ⟨Ao6, co6, eo6⟩ := Kd.R_slice HO232.out; subst eo6; obtain ⟨Ao7, co7, eo7⟩ := Kd.R_slice HO235.out; subst eo7))
  go_ret2
  exact ⟨by first | rfl | (simp [errW_none, errW_some] <;> rfl) | (simp [*, errW_none, errW_some] <;> rfl), by repeat (first | (with_reducible first | exact HB.out | apply below_alloc | apply pw_below_drewN | apply below_drew1 | refine below_set ?_ GE237.out) | exact HB.out)⟩

/-! ### bits_Len: function 32 -/
def bits_Len.f (a0 : Int) : Option (Int) := if 0 ≤ a0 ∧ a0 ≤ 18446744073709551615 then some (Go.Lib.bitLen a0.toNat : Int) else none
theorem bits_Len.calls (a0 : Int) (r : Int) (w : World) (h : bits_Len.f a0 = some r) :
    Calls Try.prog 32 #[.int .u64 a0] w fun e w' => e = .returned (.int .i64 r) ∧ Drawn0 w w' := by
  unfold bits_Len.f at h
  split at h
  · rename_i hb
    obtain rfl := Option.some.inj h
    exact (Try.bits_Len a0 w hb.1 hb.2).mono fun e w' ⟨he, hw⟩ => ⟨he, by rw [hw]; exact Drawn0.refl _⟩
  · cases h

/-! ### impl_ladderOf: function 84 -/
def impl_ladderOf.l0 : Nat → Int → List Int → Int → Option (List Int)
  | 0, _, _, _ => none
  | k + 1, x0, x3, x4 => if x4 ≥ 0 then (if 0 ≤ x4 then (if x3.length < 17592186044416 then (impl_ladderOf.l0 k x0 (x3 ++ [shr .i64 x0 x4]) (wrap64 (x4 - 1))) else (none)) else (none)) else (some x3)
def impl_ladderOf.f (k : Nat) (a0 : Int) : Option (List Int) := (bits_Len.f (IntKind.u64.wrap (a0))).bind fun t241 => (impl_ladderOf.l0 k a0 (([] : List Int)) (wrap64 (t241 - 1)))
theorem impl_ladderOf.mono_l : ∀ k, (∀ y0 y1 y2, LeO (impl_ladderOf.l0 k y0 y1 y2) (impl_ladderOf.l0 (k + 1) y0 y1 y2))
  | 0 => fun _ _ _ r h => by simp [impl_ladderOf.l0] at h
  | k + 1 => by
    have ih0 := impl_ladderOf.mono_l k
    · intro y0 y1 y2
      unfold impl_ladderOf.l0
      repeat' first
      | (with_reducible exact ih0 _ _ _)
      | (with_reducible exact LeO.refl _)
      | (with_reducible exact LeO.none _)
      | (with_reducible refine LeO.ite ?_ ?_)
      | (with_reducible refine LeO.bind ?_ (fun _ => ?_))
      | exact ih0 _ _ _
      | exact LeO.none _
      | refine LeO.ite ?_ ?_
      | refine LeO.bind ?_ (fun _ => ?_)
theorem impl_ladderOf.mono : ∀ a0 k, LeO (impl_ladderOf.f k a0) (impl_ladderOf.f (k + 1) a0) := by
  intro a0 k
  have ih0 := impl_ladderOf.mono_l k
  unfold impl_ladderOf.f
  repeat' first
      | (with_reducible exact ih0 _ _ _)
      | (with_reducible exact LeO.refl _)
      | (with_reducible exact LeO.none _)
      | (with_reducible refine LeO.ite ?_ ?_)
      | (with_reducible refine LeO.bind ?_ (fun _ => ?_))
      | exact ih0 _ _ _
      | exact LeO.none _
      | refine LeO.ite ?_ ?_
      | refine LeO.bind ?_ (fun _ => ?_)
set_option maxHeartbeats 8000000 in
set_option maxRecDepth 100000 in
theorem impl_ladderOf.calls (k : Nat) (a0 : Int) (r : List Int) (w : World) (h : impl_ladderOf.f k a0 = some r) :
    Calls Try.prog 84 #[.int .i64 a0] w fun e w' => ∃ v0_ : Value, e = .returned (v0_) ∧ Kd.R (Kd.int .i64) 3 w' w.heap.size (fun _ => True) v0_ r ∧ Below w.heap.size w w' := by
  have HB := Aside0.mk (Below.refl w.heap.size w)
  have H : ((bits_Len.f (IntKind.u64.wrap (a0))).bind fun t241 => (impl_ladderOf.l0 k a0 (([] : List Int)) (wrap64 (t241 - 1)))) = some r := h
  clear h
  obtain ⟨y238, hy238⟩ : ∃ y_ : List Int, y_ = (([] : List Int)) := ⟨_, rfl⟩
  replace H : ((bits_Len.f (IntKind.u64.wrap (a0))).bind fun t241 => (impl_ladderOf.l0 k a0 y238 (wrap64 (t241 - 1)))) = some r := by first | (rw [hy238]; with_reducible exact H) | (have H2_ := (Option.bind_some _ _).symm.trans H; rw [hy238]; with_reducible exact H2_) | (have H2_ := (Option.bind_some _ _).symm.trans H; with_reducible exact H2_) | with_reducible exact H | (rw [hy238]; exact H) | exact H
  have Ny238 := Aside0.mk hy238
  clear hy238
  replace H := Option.bind_eq_some_iff.mp H
  obtain ⟨t241, A20, H⟩ := H
  replace H : (impl_ladderOf.l0 k a0 y238 (wrap64 (t241 - 1))) = some r := H
  have A2 := Aside0.mk A20
  clear A20
  have H' := Aside0.mk H
  clear H
  go_enter Try.func84, Try.ntmps84
  go_wp2_with (first | ((with_reducible refine gate_dst (N := 5) rfl ?_); refine Kd.R_lit (Kd.int .i64) _ 3 ?hg (N := 5) ?hd (xs := ([] : List Int)) (inner := []) (ok := fun _ => True) (okp := fun _ => True) ?hr ?hp (fun _ hk => hk) trivial (Below.refl _ _) (Nat.le_refl _) (by simp) ?_; (case hd => rfl); (case hg => rfl); (case hr => first | (go_simp; done) | (go_simp; rfl)); (case hp => exact (Reps.none _ _)); intro v239 w3 ho4 hb hg_ hnew_; clear hg_ hnew_; (first | rw [← Ny238.out] at ho4 | (simp only [Int.reduceToNat] at ho4; rw [← Ny238.out] at ho4)); have n0_ := Aside0.mk (Kd.R_lower ho4 (below_size (by repeat (first | (with_reducible first | exact HB.out | apply below_alloc | apply pw_below_drewN | apply below_drew1) | exact HB.out)))); have n1_ := Aside0.mk (below_step (by repeat (first | (with_reducible first | exact HB.out | apply below_alloc | apply pw_below_drewN | apply below_drew1) | exact HB.out)) hb); clear HB; have HO240 := n0_; have HB := n1_; clear n0_ n1_; clear hb ho4) | ((with_reducible refine gate_callee (f := 32) rfl ?_); refine goesL_ (some 8) rfl rfl Try.func32 (by kernel_rfl) rfl #[.int .u64 (IntKind.u64.wrap (a0))] rfl (by (try simp only [List.map_toArray, List.map_cons, List.map_nil]); first | done | rfl | (simp only [List.length_drop, List.length_take]; rfl)) ?_; (with_reducible refine (bits_Len.calls (IntKind.u64.wrap (a0)) t241 _ A2.out).mono ?_); rintro e w' ⟨rfl, ⟨nd, rfl⟩⟩; refine ⟨_, rfl, ?_⟩))
  go_loopg [3, 4] k (fun kq v3 v4 w' => ∃ (x3_1 : List Int) (x4_1 : Int), v4 = .int .i64 x4_1 ∧ Aside0 (impl_ladderOf.l0 kq a0 x3_1 x4_1 = some r) ∧ Aside0 (kq ≤ k) ∧ Aside0 (Kd.R (Kd.int .i64) 3 w' w.heap.size (fun _ => True) v3 x3_1) ∧ Aside0 (Below w.heap.size w w'))
  case atStart => exact ⟨(y238), (wrap64 (t241 - 1)), (by first | rfl | (simp; done) | (simp [*]; done)), H', ⟨Nat.le_refl _⟩, ⟨by (with_reducible repeat (first | apply Kd.R_alloc | apply Kd.R_drewN | apply Kd.R_drew)); exact HO240.out⟩, ⟨by repeat (first | (with_reducible first | exact HB.out | apply below_alloc | apply pw_below_drewN | apply below_drew1) | exact HB.out)⟩⟩
  case round =>
    clear H'
    try clear p2
    try clear c3
    obtain ⟨x3_1, x4_1, rfl, HA, HK1, HO_3, HB⟩ := hrel
    cases gk with
    | zero => exact absurd HA.out (by simp [impl_ladderOf.l0])
    | succ k1 =>
      have H := HA.out
      clear HA
      simp only [impl_ladderOf.l0] at H
      by_cases c5 : x4_1 ≥ 0
      · rw [if_pos c5] at H
        have c5b0 : decide (0 ≤ x4_1) = true := decide_eq_true c5
        clear c5
        by_cases c6 : 0 ≤ x4_1
        · rw [if_pos c6] at H
          have c6b0 := eq_true c6
          have c6b1 : decide (0 ≤ x4_1) = true := decide_eq_true c6
          clear c6
          obtain ⟨ji7, hji7⟩ : ∃ j_ : Int, (shr .i64 a0 x4_1) = j_ := ⟨_, rfl⟩
          replace H : (if x3_1.length < 17592186044416 then (impl_ladderOf.l0 k1 a0 (x3_1 ++ [ji7]) (wrap64 (x4_1 - 1))) else (none)) = some r := by first | (rw [hji7] at H; exact H) | (simp only [hji7] at H ⊢; exact H)
          have hji7_ : (a0 / 2 ^ min x4_1.toNat 64) = ji7 := hji7
          have hji7z : x4_1 ≤ 64 → (a0 / 2 ^ x4_1.toNat) = ji7 := shr_small hji7
          by_cases c8 : x3_1.length < 17592186044416
          · rw [if_pos c8] at H
            have LMc8 := Aside0.mk c8
            clear c8
            obtain ⟨y242, hy242⟩ : ∃ y_ : List Int, y_ = (x3_1 ++ [ji7]) := ⟨_, rfl⟩
            replace H : (impl_ladderOf.l0 k1 a0 y242 (wrap64 (x4_1 - 1))) = some r := by first | (rw [hy242]; with_reducible exact H) | (have H2_ := (Option.bind_some _ _).symm.trans H; rw [hy242]; with_reducible exact H2_) | (have H2_ := (Option.bind_some _ _).symm.trans H; with_reducible exact H2_) | with_reducible exact H | (rw [hy242]; exact H) | exact H
            have Ny242 := Aside0.mk hy242
            clear hy242
            have H' := Aside0.mk H
            clear H
            go_wp2_with (first | ((with_reducible refine gate_builtin (b := .append) (xs := #[.tmp 14, .tmp 18]) rfl ?_); at_builtin; refine Kd.R_append (Kd.int .i64) (w0 := w) w.heap.size rfl (.tmp 14) (.tmp 18) 24 3 (.int .i64 0) 8 rfl Try.underlying24 info3 rfl (by decide) (by omega) u3 x3_1 ji7 [.int .i64 ji7] (fun _ => True) (fun _ => False) rfl rfl ?aP (fun _ hk => hk.elim) ?aF ?aO ?aB ?aS ?aL ?_; (case aP => exact rfl); (case aB => exact (by repeat (first | (with_reducible first | exact HB.out | apply below_alloc | apply pw_below_drewN | apply below_drew1) | exact HB.out))); (case aF => exact (fun _ _ => trivial)); (case aO => exact (by (with_reducible repeat (first | apply Kd.R_alloc | apply Kd.R_drewN | apply Kd.R_drew)); exact HO_3.out)); (case aS => exact (below_size (by repeat (first | (with_reducible first | exact HB.out | apply below_alloc | apply pw_below_drewN | apply below_drew1) | exact HB.out)))); (case aL => have := LMc8.out; omega); intro v243 w9 ho hb hg hat; rw [← Ny242.out] at ho; have n0_ := Aside0.mk (hb); have n1_ := Aside0.mk (ho); clear HB; clear HO_3; have HB := n0_; have HO244 := n1_; clear n0_ n1_; clear ho hb hg hat))
            go_roundg k1
            case measure => have := HK1.out; omega
            case rel => exact ⟨(y242), (wrap64 (x4_1 - 1)), (by first | rfl | (simp; done) | (simp [*]; done)), H', ⟨by have := HK1.out; omega⟩, ⟨by (with_reducible repeat (first | apply Kd.R_alloc | apply Kd.R_drewN | apply Kd.R_drew)); exact HO244.out⟩, ⟨by repeat (first | (with_reducible first | exact HB.out | apply below_alloc | apply pw_below_drewN | apply below_drew1) | exact HB.out)⟩⟩
          · rw [if_neg c8] at H
            exact absurd H (by simp)
        · rw [if_neg c6] at H
          exact absurd H (by simp)
      · rw [if_neg c5] at H
        have c5b0 : decide (0 ≤ x4_1) = false := decide_eq_false c5
        clear c5
        obtain rfl := Option.some.inj H
        go_wp2
        go_ret
        exact ⟨_, by first | rfl | (simp [errW_none, errW_some] <;> rfl) | (simp [*, errW_none, errW_some] <;> rfl), by (with_reducible repeat (first | apply Kd.R_alloc | apply Kd.R_drewN | apply Kd.R_drew)); exact HO_3.out, by repeat (first | (with_reducible first | exact HB.out | apply below_alloc | apply pw_below_drewN | apply below_drew1) | exact HB.out)⟩

/-! ### impl_ladderChain: function 58 -/
/-- The numbers of a ladder's chain as they are put down. -/
def lcRaw (n : Int) (L : List Int) : List Int := n :: L.flatMap fun k => if k = n then [] else [k, wrap64 (k + 1)]
theorem lcRaw_nil (n : Int) : lcRaw n [] = [n] := rfl
theorem lcRaw_snoc (n : Int) (L : List Int) (k : Int) : lcRaw n (L ++ [k]) = lcRaw n L ++ (if k = n then [] else [k, wrap64 (k + 1)]) := by
  unfold lcRaw
  rw [List.flatMap_append]
  simp
theorem lcRaw_len (n : Int) (L : List Int) : (lcRaw n L).length ≤ 2 * L.length + 1 := by
  unfold lcRaw
  rw [List.length_cons]
  have : ∀ M : List Int, (M.flatMap fun k => if k = n then [] else [k, wrap64 (k + 1)]).length ≤ 2 * M.length := by
    intro M
    induction M with
    | nil => simp
    | cons x M ih =>
      rw [List.flatMap_cons, List.length_append, List.length_cons]
      split
      · rw [List.length_nil]; omega
      · rw [List.length_cons, List.length_cons, List.length_nil]; omega
  have := this L
  omega
theorem lc_info : (Try.prog.info? 3).map (fun i => (i.zero, i.size, i.bytes)) = some (some (.int .i64 0), 1, 8) := by kernel_rfl
theorem lc_two (W : World) (x y : Int) : ReadsInt (W.alloc (.cells #[.int .i64 x, .int .i64 y] 3)) .i64 (some ⟨W.heap.size, 0, none⟩) 2 [x, y] := by
  have := Go.Proofs.YtoiamgeaieefmaaW.PrintWords.own_lit W 0 3 .i64 [x, y] (Nat.zero_le _) (by simp)
  obtain ⟨A, c, e, h⟩ := own_reads this
  cases e
  exact h
set_option maxRecDepth 100000 in
set_option maxHeartbeats 2000000 in
theorem ladderChain_in (a0 : Int) (L : List Int) (hL : L.length ≤ 1000) (w : World)
    (H1 : ∀ W, Calls Try.prog 84 #[.int .i64 a0] W fun e w' => ∃ v0_ : Value, e = .returned (v0_) ∧ Kd.R (Kd.int .i64) 3 w' W.heap.size (fun _ => True) v0_ L ∧ Below W.heap.size W w') :
    Calls Try.prog 58 #[.int .i64 a0] w fun e w' => ∃ v0_ : Value, e = .returned v0_ ∧ Kd.R (Kd.int .i64) 3 w' w.heap.size (fun _ => True) v0_ (YtoiamgeaieefmaaInc.incOf (lcRaw a0 L)) ∧ Below w.heap.size w w' := by
  have H1' := Go.Lib.hid H1
  clear H1
  go_enter Try.func58, Try.ntmps58
  go_wp2_with (go_at_call 84; refine (H1'.out _).mono ?_; rintro e w1 ⟨v0, rfl, hR_, hb_⟩; obtain ⟨A, c, rfl, hc, _⟩ := Kd.R_reads hR_; have HR := Go.Lib.hid hR_; have HB := Go.Lib.hid hb_; clear hR_ hb_)
  have HL := Go.Lib.hid hL
  have hs0 : (w.alloc (.cells #[.int .i64 a0] 3)).heap.size = w.heap.size + 1 := World.size_alloc ..
  have hB1 : Below w.heap.size w w1 := below_then ((Below.refl _ w).alloc (Nat.le_refl _) _) (by rw [hs0]; omega) HB.out
  have hO1 : w1.ownsRow w.heap.size 3 1 (.slice (some ⟨w.heap.size, 0, none⟩) 1 1) 1 (nums .i64 [a0]) := pw_own_below (Go.Proofs.YtoiamgeaieefmaaW.PrintWords.own_lit w w.heap.size 3 .i64 [a0] (Nat.le_refl _) (by simp)) HB.out
  have hR1 : Kd.R (Kd.int .i64) 3 w1 w.heap.size (fun k => some k = (Value.slice A L.length c).ownBlock) (.slice A L.length c) L := Kd.R_lower (Kd.R_tight rfl HR.out) (by rw [hs0]; omega)
  have hN1 : NeRow (.slice (some ⟨w.heap.size, 0, none⟩) 1 1) (.slice A L.length c) := by
    intro k hk hk2
    obtain ⟨_, inner, ho, _⟩ := HR.out
    have := own_base ho k hk2
    simp [Value.ownBlock] at hk
    omega
  have I0 := Go.Lib.hid (And.intro hB1 (And.intro hO1 (And.intro hR1 hN1)))
  have hLen : L.length ≤ 9223372036854775807 := by omega
  clear hB1 hO1 hR1 hN1 hs0 hL
  go_loopw [3, 5, 11] (fun v _ s W => ∃ i : Nat, i ≤ L.length ∧ s = .int .i64 i ∧ Aside0 (Below w.heap.size w W ∧ W.ownsRow w.heap.size 3 1 v (lcRaw a0 (L.take i)).length (nums .i64 (lcRaw a0 (L.take i))) ∧ Kd.R (Kd.int .i64) 3 W w.heap.size (fun k => some k = (Value.slice A L.length c).ownBlock) (.slice A L.length c) L ∧ NeRow v (.slice A L.length c))) (fun _ _ s _ => (L.length - intOf s).toNat)
  case atStart => exact ⟨0, Nat.zero_le _, rfl, ⟨by rw [List.take_zero]; exact I0.out⟩⟩
  case round =>
    obtain ⟨i, hi, rfl, I⟩ := hrel
    by_cases hlt : i < L.length
    · have hltz : (i : Int) < (L.length : Int) := by omega
      obtain ⟨ad, e, hcell⟩ := Kd.at_int (Kd.R_reads' I.out.2.2.1).2.2 (i : Int) (by omega) hltz
      have hst : lcRaw a0 (L.take (i + 1)) = lcRaw a0 (L.take i) ++ (if rd L (i : Int) = a0 then [] else [rd L (i : Int), wrap64 (rd L (i : Int) + 1)]) := by
        rw [List.take_succ_eq_append_getElem hlt, lcRaw_snoc]
        unfold rd
        rw [Int.toNat_natCast, List.getD_eq_getElem?_getD, List.getElem?_eq_getElem hlt]; rfl
      rw [Int.toNat_natCast] at hcell
      obtain ⟨x, hx⟩ : ∃ x, rd L (i : Int) = x := ⟨_, rfl⟩
      rw [hx] at hst hcell
      clear hx
      subst e
      by_cases hk : x = a0
      · rw [if_pos hk, List.append_nil] at hst
        have hne : (x != a0) = false := by simp [hk]
        have HST := Go.Lib.hid hst
        clear hst hk
        go_wp2
        exact ⟨⟨i + 1, by omega, by go_num, ⟨by rw [HST.out]; exact I.out⟩⟩, by simp [intOf]; omega⟩
      · rw [if_neg hk] at hst
        have hne : (x != a0) = true := by simp [hk]
        have HST := Go.Lib.hid hst
        have HLE := Go.Lib.hid (show ((lcRaw a0 (L.take i)).length + 2) * 8 ≤ 140737488355328 by
          have h1 := lcRaw_len a0 (L.take i)
          have h2 := HL.out
          rw [List.length_take] at h1
          omega)
        obtain ⟨inner, hin⟩ := Kd.R_own I.out.2.2.1
        have HIN := Go.Lib.hid hin
        clear hin
        have hB2 := below_alloc I.out.1 (.cells #[.int .i64 x, .int .i64 (wrap64 (x + 1))] 3)
        have HB2 := Go.Lib.hid hB2
        have HS := Go.Lib.hid (show w.heap.size ≤ (wr.alloc (.cells #[.int .i64 x, .int .i64 (wrap64 (x + 1))] 3)).heap.size from hB2.size)
        clear hst hk hB2
        go_wp2_with (at_builtin; refine print_append_row (w0 := w) w.heap.size rfl (.tmp 18) (.tmp 22) 24 3 .i64 8 rfl Try.underlying24 lc_info (by omega) _ (lcRaw a0 (L.take i)) [x, wrap64 (x + 1)] (some ⟨wr.heap.size, 0, none⟩) 2 2 rfl rfl (I.out.2.1.alloc _) (lc_two wr x _) HB2.out HS.out HLE.out ?_; intro v1 w2 hown hb hg hat; have I2 := Aside0.mk (And.intro hb (And.intro hown (And.intro (Kd.R_grown (Kd.R_alloc I.out.2.2.1 _) hg (fun k hk hk2 => I.out.2.2.2 k hk2.symm hk.symm)) (ne_append I.out.2.2.2 (hat.imp id (fun ⟨b, h1, h2⟩ => ⟨b, h1, h2⟩)) (World.ownsRow.alloc HIN.out _))))); clear hown hb hg hat)
        exact ⟨⟨i + 1, by omega, by go_num, ⟨by rw [HST.out]; exact I2.out⟩⟩, by simp [intOf]; omega⟩
    · have hltz : ¬ (i : Int) < (L.length : Int) := by omega
      have e : L.take i = L := List.take_of_length_le (by omega)
      rw [e] at I
      have hlr := lcRaw_len a0 L
      have h2 := HL.out
      have HO := Go.Lib.hid (I.out.2.1)
      have HI := Go.Lib.hid (YtoiamgeaieefmaaInc.increasing_in w.heap.size _ (lcRaw a0 L) wr HO.out (by omega))
      have HBW := Go.Lib.hid I.out.1
      clear I e hlr h2
      go_wp2_with (go_at_call 85; refine HI.out.mono ?_; rintro e w2 ⟨v', rfl, ho, hg, _⟩)
      go_ret
      refine ⟨_, rfl, ?_, ?_⟩
      · exact Kd.R_of_own ho (fun _ _ => trivial)
      · exact HBW.out.grown hg HBW.out.size (own_base HO.out)
def impl_ladderChain.f (k : Nat) (a0 : Int) : Option (List Int) := (impl_ladderOf.f k a0).bind fun L => if L.length ≤ 1000 then some (YtoiamgeaieefmaaInc.incOf (lcRaw a0 L)) else none
theorem impl_ladderChain.calls (k : Nat) (a0 : Int) (r : List Int) (w : World) (h : impl_ladderChain.f k a0 = some r) :
    Calls Try.prog 58 #[.int .i64 a0] w fun e w' => ∃ v0_ : Value, e = .returned (v0_) ∧ Kd.R (Kd.int .i64) 3 w' w.heap.size (fun _ => True) v0_ r ∧ Below w.heap.size w w' := by
  unfold impl_ladderChain.f at h
  obtain ⟨L, hL, h⟩ := Option.bind_eq_some_iff.mp h
  by_cases h2 : L.length ≤ 1000
  · rw [if_pos h2] at h
    cases h
    exact ladderChain_in a0 L h2 w (fun W => impl_ladderOf.calls k a0 L W hL)
  · rw [if_neg h2] at h; cases h
theorem impl_ladderChain.mono : ∀ (a0 : Int) (k : Nat), LeO (impl_ladderChain.f k a0) (impl_ladderChain.f (k + 1) a0) := by
  intro a0 k
  unfold impl_ladderChain.f
  exact LeO.bind (impl_ladderOf.mono _ _) (fun _ => LeO.refl _)

/-! ### impl_LucasPlanCosts: function 25 -/
def impl_LucasPlanCosts.f (k : Nat) (a0 : Int) : Option (Int × Int × Bool) := (impl_BinaryCost.f k a0).bind fun bt245 => ((impl_in.f a0 1 1000000).bind fun t247 => (if t247 = true then (if bt245.2 = true then ((impl_ladderChain.f k a0).bind fun t248 => (some (wrap64 ((t248.length : Int) - 1), bt245.1, true))) else (some (0, 0, false))) else (some (0, 0, false))))
theorem impl_LucasPlanCosts.mono : ∀ a0 k, LeO (impl_LucasPlanCosts.f k a0) (impl_LucasPlanCosts.f (k + 1) a0) := by
  intro a0 k
  unfold impl_LucasPlanCosts.f
  repeat' first
      | (with_reducible exact impl_BinaryCost.mono _ _)
      | (with_reducible exact impl_ladderChain.mono _ _)
      | (with_reducible exact LeO.refl _)
      | (with_reducible exact LeO.none _)
      | (with_reducible refine LeO.ite ?_ ?_)
      | (with_reducible refine LeO.bind ?_ (fun _ => ?_))
      | exact impl_BinaryCost.mono _ _
      | exact impl_ladderChain.mono _ _
      | exact LeO.none _
      | refine LeO.ite ?_ ?_
      | refine LeO.bind ?_ (fun _ => ?_)
set_option maxHeartbeats 8000000 in
set_option maxRecDepth 100000 in
theorem impl_LucasPlanCosts.calls (k : Nat) (a0 : Int) (r1 : Int) (r2 : Int) (r3 : Bool) (w : World) (h : impl_LucasPlanCosts.f k a0 = some (r1, r2, r3)) :
    Calls Try.prog 25 #[.int .i64 a0] w fun e w' => e = .returned (.tuple #[.int .i64 r1, .int .i64 r2, .bool r3]) ∧ Below w.heap.size w w' := by
  have HB := Aside0.mk (Below.refl w.heap.size w)
  have H : ((impl_BinaryCost.f k a0).bind fun bt245 => ((impl_in.f a0 1 1000000).bind fun t247 => (if t247 = true then (if bt245.2 = true then ((impl_ladderChain.f k a0).bind fun t248 => (some (wrap64 ((t248.length : Int) - 1), bt245.1, true))) else (some (0, 0, false))) else (some (0, 0, false))))) = some (r1, r2, r3) := h
  clear h
  replace H := Option.bind_eq_some_iff.mp H
  obtain ⟨⟨t245, t246⟩, A20, H⟩ := H
  replace H : ((impl_in.f a0 1 1000000).bind fun t247 => (if t247 = true then (if t246 = true then ((impl_ladderChain.f k a0).bind fun t248 => (some (wrap64 ((t248.length : Int) - 1), t245, true))) else (some (0, 0, false))) else (some (0, 0, false)))) = some (r1, r2, r3) := H
  have A2 := Aside0.mk A20
  clear A20
  replace H := Option.bind_eq_some_iff.mp H
  obtain ⟨t247, A30, H⟩ := H
  replace H : (if t247 = true then (if t246 = true then ((impl_ladderChain.f k a0).bind fun t248 => (some (wrap64 ((t248.length : Int) - 1), t245, true))) else (some (0, 0, false))) else (some (0, 0, false))) = some (r1, r2, r3) := H
  have A3 := Aside0.mk A30
  clear A30
  by_cases c4 : t247 = true
  · subst c4
    have H1 : (if t246 = true then ((impl_ladderChain.f k a0).bind fun t248 => (some (wrap64 ((t248.length : Int) - 1), t245, true))) else (some (0, 0, false))) = some (r1, r2, r3) := by rw [if_pos rfl] at H; exact H
    clear H
    have H := H1
    clear H1
    by_cases c5 : t246 = true
    · subst c5
      have H1 : ((impl_ladderChain.f k a0).bind fun t248 => (some (wrap64 ((t248.length : Int) - 1), t245, true))) = some (r1, r2, r3) := by rw [if_pos rfl] at H; exact H
      clear H
      have H := H1
      clear H1
      replace H := Option.bind_eq_some_iff.mp H
      obtain ⟨t248, A60, H⟩ := H
      replace H : (some (wrap64 ((t248.length : Int) - 1), t245, true)) = some (r1, r2, r3) := H
      have A6 := Aside0.mk A60
      clear A60
      simp only [Option.some.injEq, Prod.mk.injEq] at H
      obtain ⟨rfl, rfl, rfl⟩ := H
      go_enter Try.func25, Try.ntmps25
      go_wp2_with (first | ((with_reducible refine gate_callee (f := 57) rfl ?_); refine goesL_ (some 9) rfl rfl Try.func57 (by kernel_rfl) rfl #[.int .i64 a0] rfl (by (try simp only [List.map_toArray, List.map_cons, List.map_nil]); first | done | rfl | (simp only [List.length_drop, List.length_take]; rfl)) ?_; (with_reducible refine (impl_BinaryCost.calls k a0 t245 true _ A2.out).mono ?_); rintro e w7 ⟨rfl, hb⟩; refine ⟨_, rfl, ?_⟩; have n0_ := Aside0.mk (below_step (by repeat (first | (with_reducible first | exact HB.out | apply below_alloc | apply pw_below_drewN | apply below_drew1) | exact HB.out)) hb); clear HB; have HB := n0_; clear n0_; (try clear hb); (try clear hb2); (try clear hk); (try clear hi)) | ((with_reducible refine gate_callee (f := 27) rfl ?_); refine goesL_ (some 13) rfl rfl Try.func27 (by kernel_rfl) rfl #[.int .i64 a0, .int .i64 1, .int .i64 1000000] rfl (by (try simp only [List.map_toArray, List.map_cons, List.map_nil]); first | done | rfl | (simp only [List.length_drop, List.length_take]; rfl)) ?_; (with_reducible refine (impl_in.calls a0 1 1000000 true _ A3.out).mono ?_); rintro e w' ⟨rfl, ⟨nd, rfl⟩⟩; refine ⟨_, rfl, ?_⟩) | ((with_reducible refine gate_callee (f := 58) rfl ?_); refine goesL_ (some 20) rfl rfl Try.func58 (by kernel_rfl) rfl #[.int .i64 a0] rfl (by (try simp only [List.map_toArray, List.map_cons, List.map_nil]); first | done | rfl | (simp only [List.length_drop, List.length_take]; rfl)) ?_; (with_reducible refine (impl_ladderChain.calls k a0 t248 _ A6.out).mono ?_); rintro e w8 ⟨v249, rfl, ho0, hb⟩; refine ⟨_, rfl, ?_⟩; have n0_ := Aside0.mk (Kd.R_lower ho0 (below_size (by repeat (first | (with_reducible first | exact HB.out | apply below_alloc | apply pw_below_drewN | apply below_drew1) | exact HB.out)))); have n1_ := Aside0.mk (below_step (by repeat (first | (with_reducible first | exact HB.out | apply below_alloc | apply pw_below_drewN | apply below_drew1) | exact HB.out)) hb); clear HB; have HO250 := n0_; have HB := n1_; clear n0_ n1_; (try clear hb); (try clear hb2); (try clear hk); (try clear hi); (try clear ho0); obtain ⟨Ao9, co9, eo9⟩ := Kd.R_slice HO250.out; subst eo9))
      go_ret3
      exact ⟨by first | rfl | (simp [errW_none, errW_some] <;> rfl) | (simp [*, errW_none, errW_some] <;> rfl), by repeat (first | (with_reducible first | exact HB.out | apply below_alloc | apply pw_below_drewN | apply below_drew1) | exact HB.out)⟩
    · replace c5 := Bool.eq_false_iff.mpr c5
      subst c5
      have H1 : (some (0, 0, false)) = some (r1, r2, r3) := by rw [if_neg (show ¬ (false = true) by decide)] at H; exact H
      clear H
      have H := H1
      clear H1
      simp only [Option.some.injEq, Prod.mk.injEq] at H
      obtain ⟨rfl, rfl, rfl⟩ := H
      go_enter Try.func25, Try.ntmps25
      go_wp2_with (first | ((with_reducible refine gate_callee (f := 57) rfl ?_); refine goesL_ (some 9) rfl rfl Try.func57 (by kernel_rfl) rfl #[.int .i64 a0] rfl (by (try simp only [List.map_toArray, List.map_cons, List.map_nil]); first | done | rfl | (simp only [List.length_drop, List.length_take]; rfl)) ?_; (with_reducible refine (impl_BinaryCost.calls k a0 t245 false _ A2.out).mono ?_); rintro e w10 ⟨rfl, hb⟩; refine ⟨_, rfl, ?_⟩; have n0_ := Aside0.mk (below_step (by repeat (first | (with_reducible first | exact HB.out | apply below_alloc | apply pw_below_drewN | apply below_drew1) | exact HB.out)) hb); clear HB; have HB := n0_; clear n0_; (try clear hb); (try clear hb2); (try clear hk); (try clear hi)) | ((with_reducible refine gate_callee (f := 27) rfl ?_); refine goesL_ (some 13) rfl rfl Try.func27 (by kernel_rfl) rfl #[.int .i64 a0, .int .i64 1, .int .i64 1000000] rfl (by (try simp only [List.map_toArray, List.map_cons, List.map_nil]); first | done | rfl | (simp only [List.length_drop, List.length_take]; rfl)) ?_; (with_reducible refine (impl_in.calls a0 1 1000000 true _ A3.out).mono ?_); rintro e w' ⟨rfl, ⟨nd, rfl⟩⟩; refine ⟨_, rfl, ?_⟩))
      go_ret3
      exact ⟨by first | rfl | (simp [errW_none, errW_some] <;> rfl) | (simp [*, errW_none, errW_some] <;> rfl), by repeat (first | (with_reducible first | exact HB.out | apply below_alloc | apply pw_below_drewN | apply below_drew1) | exact HB.out)⟩
  · replace c4 := Bool.eq_false_iff.mpr c4
    subst c4
    have H1 : (some (0, 0, false)) = some (r1, r2, r3) := by rw [if_neg (show ¬ (false = true) by decide)] at H; exact H
    clear H
    have H := H1
    clear H1
    simp only [Option.some.injEq, Prod.mk.injEq] at H
    obtain ⟨rfl, rfl, rfl⟩ := H
    go_enter Try.func25, Try.ntmps25
    go_wp2_with (first | ((with_reducible refine gate_callee (f := 57) rfl ?_); refine goesL_ (some 9) rfl rfl Try.func57 (by kernel_rfl) rfl #[.int .i64 a0] rfl (by (try simp only [List.map_toArray, List.map_cons, List.map_nil]); first | done | rfl | (simp only [List.length_drop, List.length_take]; rfl)) ?_; (with_reducible refine (impl_BinaryCost.calls k a0 t245 t246 _ A2.out).mono ?_); rintro e w11 ⟨rfl, hb⟩; refine ⟨_, rfl, ?_⟩; have n0_ := Aside0.mk (below_step (by repeat (first | (with_reducible first | exact HB.out | apply below_alloc | apply pw_below_drewN | apply below_drew1) | exact HB.out)) hb); clear HB; have HB := n0_; clear n0_; (try clear hb); (try clear hb2); (try clear hk); (try clear hi)) | ((with_reducible refine gate_callee (f := 27) rfl ?_); refine goesL_ (some 13) rfl rfl Try.func27 (by kernel_rfl) rfl #[.int .i64 a0, .int .i64 1, .int .i64 1000000] rfl (by (try simp only [List.map_toArray, List.map_cons, List.map_nil]); first | done | rfl | (simp only [List.length_drop, List.length_take]; rfl)) ?_; (with_reducible refine (impl_in.calls a0 1 1000000 false _ A3.out).mono ?_); rintro e w' ⟨rfl, ⟨nd, rfl⟩⟩; refine ⟨_, rfl, ?_⟩))
    go_ret3
    exact ⟨by first | rfl | (simp [errW_none, errW_some] <;> rfl) | (simp [*, errW_none, errW_some] <;> rfl), by repeat (first | (with_reducible first | exact HB.out | apply below_alloc | apply pw_below_drewN | apply below_drew1) | exact HB.out)⟩

/-! ### laws_FnExactLucasPlanCosts: function 6 -/
def laws_FnExactLucasPlanCosts.f (k : Nat) (a0 : Int) : Option (Bool) := (spec_LucasPlanCosts.f k a0).bind fun bt251 => ((impl_LucasPlanCosts.f k a0).bind fun bt254 => (if bt254.1 = bt251.1 then (if bt254.2.1 = bt251.2.1 then (if (bt254.2.2 != bt251.2.2) = true then (some false) else (some true)) else (some false)) else (some false)))
theorem laws_FnExactLucasPlanCosts.mono : ∀ a0 k, LeO (laws_FnExactLucasPlanCosts.f k a0) (laws_FnExactLucasPlanCosts.f (k + 1) a0) := by
  intro a0 k
  unfold laws_FnExactLucasPlanCosts.f
  repeat' first
      | (with_reducible exact impl_LucasPlanCosts.mono _ _)
      | (with_reducible exact spec_LucasPlanCosts.mono _ _)
      | (with_reducible exact LeO.refl _)
      | (with_reducible exact LeO.none _)
      | (with_reducible refine LeO.ite ?_ ?_)
      | (with_reducible refine LeO.bind ?_ (fun _ => ?_))
      | exact impl_LucasPlanCosts.mono _ _
      | exact spec_LucasPlanCosts.mono _ _
      | exact LeO.none _
      | refine LeO.ite ?_ ?_
      | refine LeO.bind ?_ (fun _ => ?_)
set_option maxHeartbeats 8000000 in
set_option maxRecDepth 100000 in
theorem laws_FnExactLucasPlanCosts.calls (k : Nat) (a0 : Int) (r : Bool) (w : World) (h : laws_FnExactLucasPlanCosts.f k a0 = some r) :
    Calls Try.prog 6 #[.int .i64 a0] w fun e w' => e = .returned (.bool r) ∧ Below w.heap.size w w' := by
  have HB := Aside0.mk (Below.refl w.heap.size w)
  have H : ((spec_LucasPlanCosts.f k a0).bind fun bt251 => ((impl_LucasPlanCosts.f k a0).bind fun bt254 => (if bt254.1 = bt251.1 then (if bt254.2.1 = bt251.2.1 then (if (bt254.2.2 != bt251.2.2) = true then (some false) else (some true)) else (some false)) else (some false)))) = some r := h
  clear h
  replace H := Option.bind_eq_some_iff.mp H
  obtain ⟨⟨t251, t252, t253⟩, A20, H⟩ := H
  replace H : ((impl_LucasPlanCosts.f k a0).bind fun bt254 => (if bt254.1 = t251 then (if bt254.2.1 = t252 then (if (bt254.2.2 != t253) = true then (some false) else (some true)) else (some false)) else (some false))) = some r := H
  have A2 := Aside0.mk A20
  clear A20
  replace H := Option.bind_eq_some_iff.mp H
  obtain ⟨⟨t254, t255, t256⟩, A30, H⟩ := H
  replace H : (if t254 = t251 then (if t255 = t252 then (if (t256 != t253) = true then (some false) else (some true)) else (some false)) else (some false)) = some r := H
  have A3 := Aside0.mk A30
  clear A30
  by_cases c4 : t254 = t251
  · rw [if_pos c4] at H
    have c4b0 : (t254 == t251) = true := beq_iff_eq.mpr c4
    have c4b1 : (t254 != t251) = false := bne_eq_false_iff_eq.mpr c4
    clear c4
    by_cases c5 : t255 = t252
    · rw [if_pos c5] at H
      have c5b0 : (t255 == t252) = true := beq_iff_eq.mpr c5
      have c5b1 : (t255 != t252) = false := bne_eq_false_iff_eq.mpr c5
      clear c5
      by_cases c6 : (t256 != t253) = true
      · rw [if_pos c6] at H
        have c6b0 : (t256 != t253) = true := c6
        (try (have c6b1 : decide (t256 = t253) = false := by simpa using c6))
        (try (have c6b2 : (t256 == t253) = false := by simpa using c6))
        (try (have c6b3 : ¬ (t256 = t253) := by simpa using c6))
        clear c6
        obtain rfl := Option.some.inj H
        go_enter Try.func6, Try.ntmps6
        go_wp2_with (first | ((with_reducible refine gate_callee (f := 24) rfl ?_); refine goesL_ (some 11) rfl rfl Try.func24 (by kernel_rfl) rfl #[.int .i64 a0] rfl (by (try simp only [List.map_toArray, List.map_cons, List.map_nil]); first | done | rfl | (simp only [List.length_drop, List.length_take]; rfl)) ?_; (with_reducible refine (spec_LucasPlanCosts.calls k a0 t251 t252 t253 _ A2.out).mono ?_); rintro e w7 ⟨rfl, hb⟩; refine ⟨_, rfl, ?_⟩; have n0_ := Aside0.mk (below_step (by repeat (first | (with_reducible first | exact HB.out | apply below_alloc | apply pw_below_drewN | apply below_drew1) | exact HB.out)) hb); clear HB; have HB := n0_; clear n0_; (try clear hb); (try clear hb2); (try clear hk); (try clear hi)) | ((with_reducible refine gate_callee (f := 25) rfl ?_); refine goesL_ (some 17) rfl rfl Try.func25 (by kernel_rfl) rfl #[.int .i64 a0] rfl (by (try simp only [List.map_toArray, List.map_cons, List.map_nil]); first | done | rfl | (simp only [List.length_drop, List.length_take]; rfl)) ?_; (with_reducible refine (impl_LucasPlanCosts.calls k a0 t254 t255 t256 _ A3.out).mono ?_); rintro e w8 ⟨rfl, hb⟩; refine ⟨_, rfl, ?_⟩; have n0_ := Aside0.mk (below_step (by repeat (first | (with_reducible first | exact HB.out | apply below_alloc | apply pw_below_drewN | apply below_drew1) | exact HB.out)) hb); clear HB; have HB := n0_; clear n0_; (try clear hb); (try clear hb2); (try clear hk); (try clear hi)))
        go_ret
        exact ⟨by first | rfl | (simp [errW_none, errW_some] <;> rfl) | (simp [*, errW_none, errW_some] <;> rfl), by repeat (first | (with_reducible first | exact HB.out | apply below_alloc | apply pw_below_drewN | apply below_drew1) | exact HB.out)⟩
      · rw [if_neg c6] at H
        have c6b0 : (t256 != t253) = false := by simpa using c6
        (try (have c6b1 : decide (t256 = t253) = true := by simpa using c6))
        (try (have c6b2 : (t256 == t253) = true := by simpa using c6))
        clear c6
        obtain rfl := Option.some.inj H
        go_enter Try.func6, Try.ntmps6
        go_wp2_with (first | ((with_reducible refine gate_callee (f := 24) rfl ?_); refine goesL_ (some 11) rfl rfl Try.func24 (by kernel_rfl) rfl #[.int .i64 a0] rfl (by (try simp only [List.map_toArray, List.map_cons, List.map_nil]); first | done | rfl | (simp only [List.length_drop, List.length_take]; rfl)) ?_; (with_reducible refine (spec_LucasPlanCosts.calls k a0 t251 t252 t253 _ A2.out).mono ?_); rintro e w9 ⟨rfl, hb⟩; refine ⟨_, rfl, ?_⟩; have n0_ := Aside0.mk (below_step (by repeat (first | (with_reducible first | exact HB.out | apply below_alloc | apply pw_below_drewN | apply below_drew1) | exact HB.out)) hb); clear HB; have HB := n0_; clear n0_; (try clear hb); (try clear hb2); (try clear hk); (try clear hi)) | ((with_reducible refine gate_callee (f := 25) rfl ?_); refine goesL_ (some 17) rfl rfl Try.func25 (by kernel_rfl) rfl #[.int .i64 a0] rfl (by (try simp only [List.map_toArray, List.map_cons, List.map_nil]); first | done | rfl | (simp only [List.length_drop, List.length_take]; rfl)) ?_; (with_reducible refine (impl_LucasPlanCosts.calls k a0 t254 t255 t256 _ A3.out).mono ?_); rintro e w10 ⟨rfl, hb⟩; refine ⟨_, rfl, ?_⟩; have n0_ := Aside0.mk (below_step (by repeat (first | (with_reducible first | exact HB.out | apply below_alloc | apply pw_below_drewN | apply below_drew1) | exact HB.out)) hb); clear HB; have HB := n0_; clear n0_; (try clear hb); (try clear hb2); (try clear hk); (try clear hi)))
        go_ret
        exact ⟨by first | rfl | (simp [errW_none, errW_some] <;> rfl) | (simp [*, errW_none, errW_some] <;> rfl), by repeat (first | (with_reducible first | exact HB.out | apply below_alloc | apply pw_below_drewN | apply below_drew1) | exact HB.out)⟩
    · rw [if_neg c5] at H
      have c5b0 : (t255 == t252) = false := beq_eq_false_iff_ne.mpr c5
      have c5b1 : (t255 != t252) = true := bne_iff_ne.mpr c5
      obtain rfl := Option.some.inj H
      go_enter Try.func6, Try.ntmps6
      go_wp2_with (first | ((with_reducible refine gate_callee (f := 24) rfl ?_); refine goesL_ (some 11) rfl rfl Try.func24 (by kernel_rfl) rfl #[.int .i64 a0] rfl (by (try simp only [List.map_toArray, List.map_cons, List.map_nil]); first | done | rfl | (simp only [List.length_drop, List.length_take]; rfl)) ?_; (with_reducible refine (spec_LucasPlanCosts.calls k a0 t251 t252 t253 _ A2.out).mono ?_); rintro e w11 ⟨rfl, hb⟩; refine ⟨_, rfl, ?_⟩; have n0_ := Aside0.mk (below_step (by repeat (first | (with_reducible first | exact HB.out | apply below_alloc | apply pw_below_drewN | apply below_drew1) | exact HB.out)) hb); clear HB; have HB := n0_; clear n0_; (try clear hb); (try clear hb2); (try clear hk); (try clear hi)) | ((with_reducible refine gate_callee (f := 25) rfl ?_); refine goesL_ (some 17) rfl rfl Try.func25 (by kernel_rfl) rfl #[.int .i64 a0] rfl (by (try simp only [List.map_toArray, List.map_cons, List.map_nil]); first | done | rfl | (simp only [List.length_drop, List.length_take]; rfl)) ?_; (with_reducible refine (impl_LucasPlanCosts.calls k a0 t254 t255 t256 _ A3.out).mono ?_); rintro e w12 ⟨rfl, hb⟩; refine ⟨_, rfl, ?_⟩; have n0_ := Aside0.mk (below_step (by repeat (first | (with_reducible first | exact HB.out | apply below_alloc | apply pw_below_drewN | apply below_drew1) | exact HB.out)) hb); clear HB; have HB := n0_; clear n0_; (try clear hb); (try clear hb2); (try clear hk); (try clear hi)))
      go_ret
      exact ⟨by first | rfl | (simp [errW_none, errW_some] <;> rfl) | (simp [*, errW_none, errW_some] <;> rfl), by repeat (first | (with_reducible first | exact HB.out | apply below_alloc | apply pw_below_drewN | apply below_drew1) | exact HB.out)⟩
  · rw [if_neg c4] at H
    have c4b0 : (t254 == t251) = false := beq_eq_false_iff_ne.mpr c4
    have c4b1 : (t254 != t251) = true := bne_iff_ne.mpr c4
    obtain rfl := Option.some.inj H
    go_enter Try.func6, Try.ntmps6
    go_wp2_with (first | ((with_reducible refine gate_callee (f := 24) rfl ?_); refine goesL_ (some 11) rfl rfl Try.func24 (by kernel_rfl) rfl #[.int .i64 a0] rfl (by (try simp only [List.map_toArray, List.map_cons, List.map_nil]); first | done | rfl | (simp only [List.length_drop, List.length_take]; rfl)) ?_; (with_reducible refine (spec_LucasPlanCosts.calls k a0 t251 t252 t253 _ A2.out).mono ?_); rintro e w13 ⟨rfl, hb⟩; refine ⟨_, rfl, ?_⟩; have n0_ := Aside0.mk (below_step (by repeat (first | (with_reducible first | exact HB.out | apply below_alloc | apply pw_below_drewN | apply below_drew1) | exact HB.out)) hb); clear HB; have HB := n0_; clear n0_; (try clear hb); (try clear hb2); (try clear hk); (try clear hi)) | ((with_reducible refine gate_callee (f := 25) rfl ?_); refine goesL_ (some 17) rfl rfl Try.func25 (by kernel_rfl) rfl #[.int .i64 a0] rfl (by (try simp only [List.map_toArray, List.map_cons, List.map_nil]); first | done | rfl | (simp only [List.length_drop, List.length_take]; rfl)) ?_; (with_reducible refine (impl_LucasPlanCosts.calls k a0 t254 t255 t256 _ A3.out).mono ?_); rintro e w14 ⟨rfl, hb⟩; refine ⟨_, rfl, ?_⟩; have n0_ := Aside0.mk (below_step (by repeat (first | (with_reducible first | exact HB.out | apply below_alloc | apply pw_below_drewN | apply below_drew1) | exact HB.out)) hb); clear HB; have HB := n0_; clear n0_; (try clear hb); (try clear hb2); (try clear hk); (try clear hi)))
    go_ret
    exact ⟨by first | rfl | (simp [errW_none, errW_some] <;> rfl) | (simp [*, errW_none, errW_some] <;> rfl), by repeat (first | (with_reducible first | exact HB.out | apply below_alloc | apply pw_below_drewN | apply below_drew1) | exact HB.out)⟩

/-- THE ONE PURE STATEMENT of laws_FnExactLucasPlanCosts: yours. -/
def laws_FnExactLucasPlanCosts.Pure : Prop := ∀ (a0 : Int), (Lit.int .i64 a0).wf = true → ∃ k, laws_FnExactLucasPlanCosts.f k a0 = some true
theorem laws_FnExactLucasPlanCosts.walk (P : laws_FnExactLucasPlanCosts.Pure) (a0 : Int) (w : World) (w0 : (Lit.int .i64 a0).wf = true) :
    Calls Try.prog 6 #[.int .i64 a0] w fun e w' => e = .returned (.bool true) ∧ Below w.heap.size w w' := by
  obtain ⟨k, h⟩ := P a0 w0
  refine (laws_FnExactLucasPlanCosts.calls k a0 true w h).mono ?_
  rintro e w' ⟨rfl, hd⟩
  exact ⟨rfl, hd⟩

end Go.Proofs.Ytoiamgeaieefmaa.PFnExactLucasPlanCosts
