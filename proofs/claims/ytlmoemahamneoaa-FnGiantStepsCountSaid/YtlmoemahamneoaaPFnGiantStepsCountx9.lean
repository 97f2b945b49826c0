-- Written by gprint.py, a program of this session, out of the translation (a changed print).
import Derived.Test.YtlmoemahamneoaaPFnGiantStepsCountx0
import Derived.Test.YtlmoemahamneoaaPFnGiantStepsCountx1
import Derived.Test.YtlmoemahamneoaaPFnGiantStepsCountx3
import Derived.Test.YtlmoemahamneoaaPFnGiantStepsCountx4
namespace Go.Proofs.Ytlmoemahamneoaa.PFnGiantStepsCount
open Go.RowKit Go.Proofs.YtlmoemahamneoaaW.PrintWords Go.Proofs.YtlmoemahamneoaaW.PrintLast Go.Proofs.YtlmoemahamneoaaW.PrintMore
attribute [local go_sem] max2_int min2_int max_two min_two max_three min_three max_four min_four   -- for this text's walks alone
set_option linter.unusedVariables false
set_option linter.unusedSimpArgs false

/-! ### impl_HornerCode: function 22 -/
/-- What one coefficient puts behind. -/
def hcStep (s : List S109 × Int) (n : Int) : List S109 × Int := (s.1 ++ [⟨3, s.2, 0⟩] ++ [⟨0, n, 0⟩] ++ [⟨1, (s.1.length : Int) + 1, (s.1.length : Int) + 2⟩], (s.1.length : Int) + 3)
def hcP (x0 : Int) (pre : List (Int × Int)) : List S109 × Int := pre.foldl (fun s p => hcStep s p.2) ([⟨0, x0, 0⟩], 1)
def hcAll (l : List Int) : List S109 × Int := (l.take (l.length - 1)).reverse.foldl hcStep ([⟨0, rd l ((l.length : Int) - 1), 0⟩], 1)
theorem hcP_snoc (x0 : Int) (pre : List (Int × Int)) (x : Int × Int) : hcP x0 (pre ++ [x]) = hcStep (hcP x0 pre) x.2 := by simp [hcP]
theorem hcStep_len (s : List S109 × Int) (n : Int) : (hcStep s n).1.length = s.1.length + 3 := by simp [hcStep]
theorem hcP_len (x0 : Int) (pre : List (Int × Int)) : (hcP x0 pre).1.length = 1 + 3 * pre.length := by
  have key : ∀ (pre : List (Int × Int)) (s : List S109 × Int), (pre.foldl (fun s p => hcStep s p.2) s).1.length = s.1.length + 3 * pre.length := by
    intro pre
    induction pre with
    | nil => intro s; simp
    | cons x pre ih =>
      intro s
      rw [List.foldl_cons, ih, hcStep_len, List.length_cons]
      omega
  exact key pre _
theorem hc_upto (zs : List Int) : ∀ k, k ≤ zs.length → (YtlmoemahamneoaaBack.upto (YtlmoemahamneoaaBack.pairAt zs) k).map Prod.snd = (zs.drop (zs.length - k)).reverse := by
  intro k
  induction k with
  | zero => intro _; simp [YtlmoemahamneoaaBack.upto]
  | succ k ih =>
    intro hk
    rw [YtlmoemahamneoaaBack.upto_succ, List.map_append, ih (by omega)]
    have e : zs.length - k = (zs.length - (k + 1)) + 1 := by omega
    have hlt : zs.length - (k + 1) < zs.length := by omega
    rw [List.drop_eq_getElem_cons hlt, ← e, List.reverse_cons]
    congr 1
    simp only [List.map_cons, List.map_nil, YtlmoemahamneoaaBack.pairAt]
    rw [show zs.length - 1 - k = zs.length - (k + 1) by omega, List.getElem?_eq_getElem hlt]; rfl
theorem hcP_all (l : List Int) : hcP (rd l ((l.length : Int) - 1)) (YtlmoemahamneoaaBack.pairs (l.take (l.length - 1))) = hcAll l := by
  have h := hc_upto (l.take (l.length - 1)) (l.take (l.length - 1)).length (Nat.le_refl _)
  rw [Nat.sub_self, List.drop_zero] at h
  unfold hcP hcAll
  rw [← h]
  unfold YtlmoemahamneoaaBack.pairs
  rw [List.foldl_map]
section
set_option maxRecDepth 100000
set_option maxHeartbeats 1000000 in
/-- What put keeps besides: all that is no cells. -/
theorem put_ko (base B : Nat) (os : List S109) (w0 W : World) (kind a b : Int) (h : WrAt base B os w0 W) (hl : os.length ≤ 100000) :
    Calls Try.prog 100 #[.pointer (some ⟨B, 0, none⟩), .int .i64 kind, .int .i64 a, .int .i64 b] W fun e W' => e = .returned (.int .i64 ((os.length + 1 : Nat) : Int)) ∧ WrAt base B (os ++ [⟨kind, a, b⟩]) w0 W' ∧ WrKeep B W W' ∧ KeepsOthers W W' := by
  obtain ⟨u, hb, hR, hB, hge, hbw⟩ := h
  have hcl : ∀ (j : Nat) (o : Obj), u.ownBlock = some j → W.heap[j]? = some o → o.isCells = true := by
    intro j o hj ho
    obtain ⟨_, inner, hw, _⟩ := hR
    rcases hw.2 with ⟨rfl, _⟩ | ⟨g, cap, cur, rfl, _, hg, _⟩
    · cases hj
    · have : g = j := by simpa [Value.ownBlock] using hj
      subst this
      rw [hg] at ho
      cases ho
      rfl
  obtain ⟨A, c, e⟩ := Kd.R_slice hR
  subst e
  have k0 : W.cell? ⟨B, 0, none⟩ = some (.slice A os.length c) := (blk_cell hb 0).trans rfl
  have BX := Aside0.mk hb
  have HR := Aside0.mk hR
  have HB := Aside0.mk hB
  have HGE := Aside0.mk hge
  have HW0 := Aside0.mk hbw
  have HCL := Aside0.mk hcl
  have hl24 : (os.length + 1) * 24 ≤ 140737488355328 := by omega
  clear hb hR hB hge hl hbw hcl
  go_enter Try.func100, Try.ntmps100
  go_wp2_with (at_builtin; refine gc_hold ?_)
  unfold GcHold
  refine Kd.R_append k109 (w0 := w0) base rfl (.tmp 13) (.tmp 18) 30 109 (.agg #[(.int .i64 0), (.int .i64 0), (.int .i64 0)]) 24 rfl Try.underlying30 info109 rfl (by decide) (by decide) (.slice A os.length c) os (⟨kind, a, b⟩ : S109) [.int .i64 kind, .int .i64 a, .int .i64 b] (fun _ => True) (fun _ => False) rfl rfl ?aP (fun _ hk => hk.elim) ?aF ?aO ?aB ?aS hl24 ?_
  (case aP => exact k109_mkM _ _ _ (⟨kind, a, b⟩ : S109))
  (case aF => exact (fun _ _ => trivial))
  (case aO => exact HR.out)
  (case aB => exact HB.out)
  (case aS => exact Nat.le_trans HW0.out HB.out.size)
  intro v1 w1 ho_ hb_ hg_ _
  obtain ⟨os2, hos2⟩ : ∃ os2, os ++ [(⟨kind, a, b⟩ : S109)] = os2 := ⟨_, rfl⟩
  have HO2 := Aside0.mk hos2
  rw [hos2] at ho_
  clear hos2
  obtain ⟨A1, c1, e1⟩ := Kd.R_slice ho_
  subst e1
  have N1 := Aside0.mk ho_
  have N2 := Aside0.mk hb_
  have N5 := Aside0.mk (fun k cs t (ht : 109 ≠ t) (h : W.heap[k]? = some (.cells cs t (0, 0))) => blk_grown h hg_ (Kd.R_ne HR.out h ht))
  have N6 := Aside0.mk (KeepsOthers.of_grownBy hg_ HCL.out)
  have N4 := Aside0.mk (blk_grown BX.out hg_ (Kd.R_ne HR.out BX.out (by decide)))
  have s0 : w1.cell? ⟨B, 0, none⟩ = some (.slice A os.length c) := (blk_cell N4.out 0).trans rfl
  have sf : w1.frozen? ⟨B, 0, none⟩ = false := blk_frozen N4.out 0
  clear ho_ hb_ hg_ k0
  go_wp2
  go_ret
  refine ⟨by rw [← HO2.out, List.length_append]; rfl, ⟨.slice A1 os2.length c1, blk_put N4.out 0 _ rfl, ?_, N2.out.setCell (p := ⟨B, 0, none⟩) HGE.out _, HGE.out, HW0.out⟩, fun k cs t ht hk h => blk_far (N5.out k cs t ht h) hk _, N6.out.trans (KeepsOthers.setCell _ _ _)⟩
  rw [HO2.out]
  exact Kd.R_mono (ok' := fun _ => True) (Kd.R_far (p := ⟨B, 0, none⟩) (Kd.R_types N1.out N4.out (by decide)) (fun _ hk => hk.2) (.slice A1 os2.length c1)) (fun _ hk => trivial)
set_option maxHeartbeats 1000000 in
theorem const_ko (base B : Nat) (os : List S109) (w0 W : World) (n : Int) (h : WrAt base B os w0 W) (hl : os.length ≤ 100000) :
    Calls Try.prog 98 #[.pointer (some ⟨B, 0, none⟩), .int .i64 n] W fun e W' => e = .returned (.int .i64 ((os.length + 1 : Nat) : Int)) ∧ WrAt base B (os ++ [⟨0, n, 0⟩]) w0 W' ∧ WrKeep B W W' ∧ KeepsOthers W W' := by
  have HP := Aside0.mk (put_ko base B os w0 W 0 n 0 h hl)
  clear h hl
  go_enter Try.func98, Try.ntmps98
  go_wp2_with (go_at_call 100; refine HP.out.mono ?_; rintro e w3 ⟨rfl, hw_, hk_, ho_⟩; have HW := Aside0.mk hw_; have HcK := Aside0.mk hk_; have HO := Aside0.mk ho_; clear hw_ hk_ ho_)
  go_ret
  exact ⟨rfl, HW.out, HcK.out, HO.out⟩
/-- What lies within the loop: the writer, its pointer's box, the box of the value, the box of the slice. -/
def HcJ (n0 B P T Bs : Nat) (sv : Value) (w0 : World) (os : List S109) (at_ : Int) (W : World) : Prop :=
  WrAt n0 B os W W ∧ W.heap[P]? = some (.cells #[.pointer (some ⟨B, 0, none⟩)] 103 (0, 0)) ∧ W.heap[T]? = some (.cells #[.int .i64 at_] 3 (0, 0)) ∧ W.heap[Bs]? = some (.cells #[sv] 29 (0, 0)) ∧ Below n0 w0 W ∧ n0 ≤ T
/-- What a step of the loop keeps. -/
def HcK (n0 Bs : Nat) (W W' : World) : Prop := YtlmoemahamneoaaBack.KeepB n0 Bs W W' ∧ KeepsOthers W W'
theorem hk_trans {n0 Bs : Nat} {A B C : World} (h : HcK n0 Bs A B) (k : HcK n0 Bs B C) : HcK n0 Bs A C := ⟨h.1.trans k.1, h.2.trans k.2⟩
theorem keepB_of {n0 Bs : Nat} {sv : Value} {W W' : World} (h : W.heap[Bs]? = some (.cells #[sv] 29 (0, 0))) (h2 : W'.heap[Bs]? = some (.cells #[sv] 29 (0, 0))) (hb : Below n0 W W') : YtlmoemahamneoaaBack.KeepB n0 Bs W W' := ⟨hb, fun cs t fr e => by have e' := e.symm.trans h; cases e'; exact h2⟩
theorem hj_step {n0 B P T Bs : Nat} {sv : Value} {w0 W W' : World} {os os2 : List S109} {at_ : Int} (h : HcJ n0 B P T Bs sv w0 os at_ W) (hw : WrAt n0 B os2 W W') (hk : WrKeep B W W') (ho : KeepsOthers W W') : HcJ n0 B P T Bs sv w0 os2 at_ W' ∧ HcK n0 Bs W W' := by
  obtain ⟨h1, hP, hT, hS, hB, hge⟩ := h
  obtain ⟨u, hbx, hR, hb, hgB, hbw⟩ := hw
  have hBW := h1.choose_spec.1
  have hS2 := hk Bs _ _ (by decide) (blk_ne hS hBW (by decide)) hS
  exact ⟨⟨⟨u, hbx, hR, Below.refl _ _, hgB, Nat.le_trans hbw hb.size⟩, hk P _ _ (by decide) (blk_ne hP hBW (by decide)) hP, hk T _ _ (by decide) (blk_ne hT hBW (by decide)) hT, hS2, hB.trans hb, hge⟩, keepB_of hS hS2 hb, ho⟩
theorem hj_put {n0 B P T Bs : Nat} {sv : Value} {w0 W : World} {os : List S109} {at_ : Int} (m : Nat) (hm : os.length = m) (hl : m ≤ 100000) (kind a b : Int) (h : HcJ n0 B P T Bs sv w0 os at_ W) :
    Calls Try.prog 100 #[.pointer (some ⟨B, 0, none⟩), .int .i64 kind, .int .i64 a, .int .i64 b] W fun e W' => e = .returned (.int .i64 ((m : Int) + 1)) ∧ HcJ n0 B P T Bs sv w0 (os ++ [⟨kind, a, b⟩]) at_ W' ∧ HcK n0 Bs W W' := by
  subst hm
  refine (put_ko n0 B os W W kind a b h.1 hl).mono ?_
  rintro e W' ⟨rfl, hw, hk, ho⟩
  exact ⟨rfl, hj_step h hw hk ho⟩
theorem hj_const {n0 B P T Bs : Nat} {sv : Value} {w0 W : World} {os : List S109} {at_ : Int} (m : Nat) (hm : os.length = m) (hl : m ≤ 100000) (n : Int) (h : HcJ n0 B P T Bs sv w0 os at_ W) :
    Calls Try.prog 98 #[.pointer (some ⟨B, 0, none⟩), .int .i64 n] W fun e W' => e = .returned (.int .i64 ((m : Int) + 1)) ∧ HcJ n0 B P T Bs sv w0 (os ++ [⟨0, n, 0⟩]) at_ W' ∧ HcK n0 Bs W W' := by
  subst hm
  refine (const_ko n0 B os W W n h.1 hl).mono ?_
  rintro e W' ⟨rfl, hw, hk, ho⟩
  exact ⟨rfl, hj_step h hw hk ho⟩
theorem hj_set {n0 B P T Bs : Nat} {sv : Value} {w0 W : World} {os : List S109} {at_ : Int} (v : Int) (h : HcJ n0 B P T Bs sv w0 os at_ W) : HcJ n0 B P T Bs sv w0 os v (W.setCell ⟨T, 0, none⟩ (.int .i64 v)) ∧ HcK n0 Bs W (W.setCell ⟨T, 0, none⟩ (.int .i64 v)) := by
  obtain ⟨⟨u, hbx, hR, _, hgB, hbw⟩, hP, hT, hS, hB, hge⟩ := h
  have hS2 := blk_far hS (p := ⟨T, 0, none⟩) (blk_ne hS hT (by decide)) (.int .i64 v)
  have hb : Below n0 W (W.setCell ⟨T, 0, none⟩ (.int .i64 v)) := (Below.refl n0 W).setCell (p := ⟨T, 0, none⟩) hge _
  exact ⟨⟨⟨u, blk_far hbx (p := ⟨T, 0, none⟩) (blk_ne hbx hT (by decide)) _, Kd.R_mono (ok' := fun _ => True) (Kd.R_far (p := ⟨T, 0, none⟩) (Kd.R_types hR hT (by decide)) (fun _ hk => hk.2) (.int .i64 v)) (fun _ hk => trivial), Below.refl _ _, hgB, Nat.le_trans hbw hb.size⟩, blk_far hP (p := ⟨T, 0, none⟩) (blk_ne hP hT (by decide)) _, blk_put hT 0 _ rfl, hS2, hB.trans hb, hge⟩, keepB_of hS hS2 hb, KeepsOthers.setCell _ _ _⟩
theorem hj_same {n0 B P T Bs : Nat} {sv : Value} {w0 W W' : World} {os : List S109} {at_ : Int} (h : HcJ n0 B P T Bs sv w0 os at_ W) (hs : ∀ (k : Nat) cs t, W.heap[k]? = some (.cells cs t (0, 0)) → W'.heap[k]? = some (.cells cs t (0, 0))) (hsz : W.heap.size ≤ W'.heap.size) (hb : Below n0 w0 W') : HcJ n0 B P T Bs sv w0 os at_ W' := by
  obtain ⟨⟨u, hbx, hR, _, hgB, hbw⟩, hP, hT, hS, hB, hge⟩ := h
  refine ⟨⟨u, hs _ _ _ hbx, Kd.R_mono (Kd.R_step (Kd.R_bound hR) (fun k hk1 _ => ?_)) (fun _ _ => trivial), Below.refl _ _, hgB, Nat.le_trans hbw hsz⟩, hs _ _ _ hP, hs _ _ _ hT, hs _ _ _ hS, hb, hge⟩
  obtain ⟨_, _, _, q, hq, cells, hc⟩ := hk1
  rw [hs _ _ _ hc, hc]
theorem hj_own {n0 B P T Bs Bd : Nat} {sv : Value} {w0 : World} {β : Type} (f : β → List S109) (g : β → Int) (hn : n0 ≤ w0.heap.size) (hBd : n0 ≤ Bd) : OwnFrom Bd (fun (s : β) W => HcJ n0 B P T Bs sv w0 (f s) (g s) W) := fun s X Y row hs hg hr => by
  refine hj_same hs (fun k cs t e => (hg.block k (blk_lt e) (fun he => ?_)).trans e) hg.size (hs.2.2.2.2.1.grown hg (Nat.le_trans hn hs.2.2.2.2.1.size) (fun k e => Nat.le_trans hBd (hr k e).1))
  obtain ⟨_, o, ho, hc⟩ := hr k he.symm
  rw [e] at ho
  cases ho
  cases hc
theorem hj_drew {n0 B P T Bs : Nat} {sv : Value} {w0 W : World} {os : List S109} {at_ : Int} (h : HcJ n0 B P T Bs sv w0 os at_ W) : HcJ n0 B P T Bs sv w0 os at_ W.drew ∧ HcK n0 Bs W W.drew := by
  have hb := below_drew (Below.refl n0 W)
  exact ⟨hj_same h (fun _ _ _ e => e) (Nat.le_refl _) (below_drew h.2.2.2.2.1), keepB_of h.2.2.2.1 h.2.2.2.1 hb, KeepsOthers.drew W⟩
def hcT4 : Bool × List (List Nat × List Nat) := (true, [([], []), ([], []), ([], []), ([2], [2]), ([3], [3]), ([1, 4], [1, 4]), ([5], [5]), ([0, 6], [0, 6]), ([], []), ([8, 7, 7, 0, 1, 2, 3, 4, 5, 6, 7, 8], [7, 8])])
def hcT8 : Bool × List (List Nat × List Nat) := (true, [([], []), ([], []), ([], []), ([], []), ([2, 3], [2, 3]), ([0, 1, 4, 4], [0, 1, 4]), ([5, 5, 0, 1, 2, 3, 4, 5], [5])])
theorem hc_tab4 : rtab .any (opsOf Try.f22 4) = hcT4 := by kernel_rfl
theorem hc_tab8 : rtab .any (opsOf Try.f22 8) = hcT8 := by kernel_rfl
theorem hc_bits4 : waitsOk hcT4.2 [0, 0, 0, 4, 12, 30, 62, 127, 0, 511] = true := by kernel_rfl
theorem hc_bits8 : waitsOk hcT8.2 [0, 0, 0, 0, 12, 31, 63] = true := by kernel_rfl
/-- What lies ahead of the loop: the writer and its pointer's box. -/
def HcA (n0 B P : Nat) (w0 : World) (os : List S109) (W : World) : Prop := WrAt n0 B os W W ∧ W.heap[P]? = some (.cells #[.pointer (some ⟨B, 0, none⟩)] 103 (0, 0)) ∧ Below n0 w0 W
theorem hcA_alloc {n0 B P : Nat} {w0 W : World} {os : List S109} (h : HcA n0 B P w0 os W) (o : Obj) : HcA n0 B P w0 os (W.alloc o) := by
  obtain ⟨⟨u, hbx, hR, _, hgB, hbw⟩, hP, hB⟩ := h
  exact ⟨⟨u, blk_alloc hbx o, Kd.R_alloc hR o, Below.refl _ _, hgB, Nat.le_trans hbw (by rw [World.size_alloc]; omega)⟩, blk_alloc hP o, hB.alloc hbw o⟩
theorem hcA_drew {n0 B P : Nat} {w0 W : World} {os : List S109} (h : HcA n0 B P w0 os W) : HcA n0 B P w0 os W.drew := by
  obtain ⟨⟨u, hbx, hR, _, hgB, hbw⟩, hP, hB⟩ := h
  exact ⟨⟨u, blk_drew hbx, Kd.R_drew hR, Below.refl _ _, hgB, hbw⟩, blk_drew hP, below_drew hB⟩
theorem hcA_const {n0 B P : Nat} {w0 W : World} (x : Int) (h : HcA n0 B P w0 [] W) :
    Calls Try.prog 98 #[.pointer (some ⟨B, 0, none⟩), .int .i64 x] W fun e W' => e = .returned (.int .i64 1) ∧ HcA n0 B P w0 [⟨0, x, 0⟩] W' ∧ WrKeep B W W' ∧ Below n0 W W' := by
  obtain ⟨h1, hP, hB⟩ := h
  have hBW := h1.choose_spec.1
  refine (const_ko n0 B [] W W x h1 (by simp)).mono ?_
  rintro e W' ⟨rfl, ⟨u, hbx, hR, hb, hgB, hbw⟩, hk, _⟩
  exact ⟨rfl, ⟨⟨u, hbx, hR, Below.refl _ _, hgB, Nat.le_trans hbw hb.size⟩, hk P _ _ (by decide) (blk_ne hP hBW (by decide)) hP, hB.trans hb⟩, hk, hb⟩
theorem hcA_set {n0 B P T : Nat} {w0 W : World} {os : List S109} {x : Int} (v : Int) (h : HcA n0 B P w0 os W) (hT : W.heap[T]? = some (.cells #[.int .i64 x] 3 (0, 0))) (hge : n0 ≤ T) : HcA n0 B P w0 os (W.setCell ⟨T, 0, none⟩ (.int .i64 v)) ∧ (W.setCell ⟨T, 0, none⟩ (.int .i64 v)).heap[T]? = some (.cells #[.int .i64 v] 3 (0, 0)) := by
  obtain ⟨⟨u, hbx, hR, _, hgB, hbw⟩, hP, hB⟩ := h
  have hb : Below n0 W (W.setCell ⟨T, 0, none⟩ (.int .i64 v)) := (Below.refl n0 W).setCell (p := ⟨T, 0, none⟩) hge _
  exact ⟨⟨⟨u, blk_far hbx (p := ⟨T, 0, none⟩) (blk_ne hbx hT (by decide)) _, Kd.R_mono (ok' := fun _ => True) (Kd.R_far (p := ⟨T, 0, none⟩) (Kd.R_types hR hT (by decide)) (fun _ hk => hk.2) (.int .i64 v)) (fun _ hk => trivial), Below.refl _ _, hgB, Nat.le_trans hbw hb.size⟩, blk_far hP (p := ⟨T, 0, none⟩) (blk_ne hP hT (by decide)) _, hB.trans hb⟩, blk_put hT 0 _ rfl⟩
theorem hj_of {n0 B P T : Nat} {w0 W : World} {os : List S109} {at_ : Int} (sv : Value) (h : HcA n0 B P w0 os W) (hT : W.heap[T]? = some (.cells #[.int .i64 at_] 3 (0, 0))) (hge : n0 ≤ T) : HcJ n0 B P T W.heap.size sv w0 os at_ (W.alloc (.cells #[sv] 29)) := by
  obtain ⟨h1, h2, h3⟩ := hcA_alloc h (.cells #[sv] 29)
  exact ⟨h1, h2, blk_alloc hT _, blk_new W _, h3, hge⟩
set_option maxHeartbeats 1000000 in
theorem code_inE (E k : Nat) (B : Nat) (os : List S109) (out : Int) (r1 : List S109) (r2 : Int) (r3 : Bool) (X : Nat) (xs : Array Value) (w0 W : World) (h : WrAt w0.heap.size B os w0 W) (hx : W.heap[X]? = some (.cells xs 32 (0, 0))) (hE : W.heap[E]? = some (.deferred (some []))) (hf : impl_toldCode.f k os out = some (r1, r2, r3)) :
    Calls Try.prog 97 #[.pointer (some ⟨B, 0, none⟩), .int .i64 out] W fun e W' => ∃ v, e = .returned (.tuple #[.agg #[v, .int .i64 r2], .bool r3]) ∧ Kd.R k109 109 W' w0.heap.size (fun _ => True) v r1 ∧ Below w0.heap.size w0 W' ∧ W'.heap[X]? = some (.cells xs 32 (0, 0)) ∧ W'.heap[E]? = some (.deferred (some [])) := by
  obtain ⟨u, hb, hR, hB, hge, hbw⟩ := h
  obtain ⟨A, c, e⟩ := Kd.R_slice hR
  subst e
  have k0 : (W.alloc (.cells #[.slice none 0 0, .int .i64 0] 32)).cell? ⟨B, 0, none⟩ = some (.slice A os.length c) := (blk_cell (blk_alloc hb _) 0).trans rfl
  have bo := blk_new W (.cells #[.slice none 0 0, .int .i64 0] 32)
  have hR2 : Kd.R k109 109 (W.alloc (.cells #[.slice none 0 0, .int .i64 0] 32)) w0.heap.size (fun k_ => k_ < W.heap.size ∧ k_ ≠ X ∧ k_ ≠ E) (.slice A os.length c) os := Kd.R_alloc (Kd.R_mono (Kd.R_bound (Kd.R_types hR hx (by decide))) (fun k_ hk_ => ⟨hk_.2.2.1, hk_.1.2, fun e => by obtain ⟨_, _, cells, hc⟩ := hk_.2.2.2; rw [e, hE] at hc; cases hc⟩)) _
  have HT := Go.Lib.hid (impl_toldCode.calls k (fun k_ => k_ < W.heap.size ∧ k_ ≠ X ∧ k_ ≠ E) (.slice A os.length c) os out r1 r2 r3 w0 _ (below_alloc hB (.cells #[.slice none 0 0, .int .i64 0] 32)) hR2 hf)
  have HBO := Aside0.mk bo
  have HXL := Aside0.mk (blk_lt hx)
  have HX0 := Aside0.mk (blk_alloc hx (.cells #[.slice none 0 0, .int .i64 0] 32))
  have HGE := Aside0.mk hB.size
  have HEL := Aside0.mk (blk_lt hE)
  have HE0 := Aside0.mk (blk_alloc hE (.cells #[.slice none 0 0, .int .i64 0] 32))
  clear hb hR hR2 hge hbw bo hB hf hx hE
  go_enter Try.func97, Try.ntmps97
  go_wp2_with (go_at_call 187; refine HT.out.mono ?_; rintro e w1 ⟨v0, rfl, hR1, hB1, hK1⟩; obtain ⟨A1, c1, e1⟩ := Kd.R_slice hR1; subst e1; have HR1 := Aside0.mk hR1; have HB1 := Aside0.mk hB1; have HX := Aside0.mk (blk_kept HBO.out hK1 (fun h_ => Nat.lt_irrefl _ h_.1)); have HXX := Aside0.mk (blk_kept HX0.out hK1 (fun h_ => h_.2.1 rfl)); have HEE := Aside0.mk (blk_kept HE0.out hK1 (fun h_ => h_.2.2 rfl)); clear hR1 hB1 hK1; have s0 : w1.cell? ⟨W.heap.size, 0, none⟩ = some (.slice none 0 0) := (blk_cell HX.out 0).trans rfl; have s1 : w1.cell? ⟨W.heap.size, 1, none⟩ = some (.int .i64 0) := (blk_cell HX.out 1).trans rfl; have f0 : w1.frozen? ⟨W.heap.size, 0, none⟩ = false := blk_frozen HX.out 0; have f1 : w1.frozen? ⟨W.heap.size, 1, none⟩ = false := blk_frozen HX.out 1)
  refine bodyPost_ret (results_ct rfl _ _ W.heap.size 32 #[.slice A1 r1.length c1, .int .i64 r2] (0, 0) _ rfl (blk_put (blk_put HX.out 0 _ rfl) 1 _ rfl) Try.underlying32 rfl (by kernel_rfl)) rfl ?_
  refine ⟨_, rfl, ?_, Below.setCell (Below.setCell HB1.out (p := ⟨W.heap.size, 0, none⟩) HGE.out _) (p := ⟨W.heap.size, 1, none⟩) HGE.out _, blk_far (blk_far HXX.out (p := ⟨W.heap.size, 0, none⟩) (Nat.ne_of_lt HXL.out) _) (p := ⟨W.heap.size, 1, none⟩) (Nat.ne_of_lt HXL.out) _, (Below.heap_setCell _ ⟨W.heap.size, 1, none⟩ _ E (Nat.ne_of_lt HEL.out)).trans ((Below.heap_setCell _ ⟨W.heap.size, 0, none⟩ _ E (Nat.ne_of_lt HEL.out)).trans HEE.out)⟩
  have hX1 := blk_put HX.out 0 (.slice A1 r1.length c1) rfl
  exact Kd.R_mono (ok' := fun _ => True) (Kd.R_far (p := ⟨W.heap.size, 1, none⟩) (Kd.R_types (Kd.R_mono (ok' := fun _ => True) (Kd.R_far (p := ⟨W.heap.size, 0, none⟩) (Kd.R_types HR1.out HX.out (by decide)) (fun _ hk => hk.2) (.slice A1 r1.length c1)) (fun _ _ => trivial)) hX1 (by decide)) (fun _ hk => hk.2) (.int .i64 r2)) (fun _ hk => trivial)
attribute [local go_sem] Oper.semAt_some in
set_option maxHeartbeats 4000000 in
theorem hc_yes (k : Nat) (b off c0 m : Nat) (l : List Int) (r1 : List S109) (r2 : Int) (r3 : Bool) (w : World) (hC : Kd.C (Kd.int .i64) w (some ⟨b, off, none⟩) l.length l) (hcc : l.length ≤ c0) (hcell : ∀ j, j < l.length → w.cell? ⟨b, off + j, none⟩ = some (.int .i64 (l.getD j 0))) (hm : l.length = m + 1) (hl2 : m ≤ 16) (hok : impl_coefsOk.f l = some true) (hf : impl_toldCode.f k (hcAll l).1 (hcAll l).2 = some (r1, r2, r3)) :
    CallsIn Fence.wide 5 Try.prog 22 #[.slice (some ⟨b, off, none⟩) l.length c0] w fun e w' => ∃ v0_ : Value, e = .returned (.tuple #[.agg #[v0_, .int .i64 r2], .bool r3]) ∧ Kd.R k109 109 w' w.heap.size (fun _ => True) v0_ r1 ∧ Below w.heap.size w w' := by
  have hb : b < w.heap.size := World.block_lt_of_cell? _ _ (hcell 0 (by omega))
  obtain ⟨w0, hw0⟩ : ∃ w0, w.alloc (.cells #[.slice none 0 0, .int .i64 0] 32) = w0 := ⟨_, rfl⟩
  have hs0 : w0.heap.size = w.heap.size + 1 := by rw [← hw0, World.size_alloc]
  obtain ⟨x0, hx0⟩ : ∃ x0, rd l (m : Int) = x0 := ⟨_, rfl⟩
  have hxl : rd l ((l.length : Int) - 1) = x0 := by rw [hm, show ((m + 1 : Nat) : Int) - 1 = (m : Int) by omega]; exact hx0
  have hcm : w0.cell? ⟨b, off + m, none⟩ = some (.int .i64 x0) := by
    rw [← hw0, ← hx0]
    refine (World.cell?_alloc_lt _ _ ⟨b, off + m, none⟩ hb).trans ((hcell m (by omega)).trans ?_)
    unfold rd
    rw [Int.toNat_natCast]
  have hw1 : wrap64 ((l.length : Int) - 1) = (m : Int) := by rw [hm]; unfold wrap64; omega
  have HC := Aside0.mk (show Kd.C (Kd.int .i64) w0 (some ⟨b, off, none⟩) l.length l by rw [← hw0]; exact Kd.C_alloc hC _)
  have HX0 := Aside0.mk (show w0.heap[w.heap.size]? = some (.cells #[.slice none 0 0, .int .i64 0] 32 (0, 0)) by rw [← hw0]; exact blk_new w _)
  have HB0 := Aside0.mk (show Below w.heap.size w w0 by rw [← hw0]; exact below_alloc (Below.refl _ w) _)
  have HS0 := Aside0.mk hs0
  have HW0 := Aside0.mk hw0
  have HLC := Aside0.mk hcc
  have HOK := Aside0.mk hok
  have HF := Aside0.mk hf
  have HXL := Aside0.mk hxl
  have HM := Aside0.mk (And.intro hm hl2)
  have HBL := Aside0.mk (show b < w0.heap.size by omega)
  have hmlt : m < l.length := by omega
  have hlc0 : m ≤ c0 := by omega
  clear hC hcc hcell hl2 hok hf hb hw0 hs0 hx0 hxl hm
  refine callsIn_of_wp_marks (F := Fence.wide) Try.func22 rfl trivial ?_ rfl
  refine wpIn_wide.2 ?_
  simp only [Try.ntmps22, List.size_toArray, List.length_cons, List.length_nil, Nat.reduceAdd, Nat.reduceSub, Array.replicate_succ, Array.replicate_zero, List.push_toArray, List.append_toArray, List.nil_append, List.cons_append]
  go_wp2_with (go_at_call 95; rw [HW0.out]; refine (impl_coefsOk.calls _ c0 l true _ HC.out HLC.out HOK.out).mono ?_; rintro e w2 ⟨rfl, hd_⟩; obtain ⟨n2, rfl⟩ := YtlmoemahamneoaaHand.of_drawn hd_; clear hd_)
  have hw2 : IntKind.i64.wrap ((l.length : Int) - 1) = (m : Int) := (i64_w _).trans hw1
  have hz0 : (0 : Int) ≤ (m : Int) := by omega
  have hz1 : (m : Int) < (l.length : Int) := by omega
  have HN2 := Aside0.mk (pw_below_drewN (Below.refl w0.heap.size w0) n2)
  have HA := Aside0.mk (show HcA w0.heap.size w0.heap.size (w0.heap.size + 1) w0 [] (((w0.drewN n2).alloc (.cells #[.slice none 0 0] 107)).alloc (.cells #[.pointer (some ⟨w0.heap.size, 0, none⟩)] 103)) from by
    have h1 := wr_alloc (wr_new w0 (w0.drewN n2) HN2.out) (.cells #[.pointer (some ⟨w0.heap.size, 0, none⟩)] 103)
    obtain ⟨u, hbx, hR, hB, hgB, hbw⟩ := h1
    refine ⟨⟨u, hbx, hR, Below.refl _ _, hgB, Nat.le_trans hbw hB.size⟩, ?_, hB⟩
    have := blk_new ((w0.drewN n2).alloc (.cells #[.slice none 0 0] 107)) (.cells #[.pointer (some ⟨w0.heap.size, 0, none⟩)] 103)
    rw [World.size_alloc] at this
    exact this)
  obtain ⟨W1, hW1⟩ : ∃ W1, ((w0.drewN n2).alloc (.cells #[.slice none 0 0] 107)).alloc (.cells #[.pointer (some ⟨w0.heap.size, 0, none⟩)] 103) = W1 := ⟨_, rfl⟩
  rw [hW1] at HA ⊢
  clear hW1 HN2
  obtain ⟨n0, hn0⟩ : ∃ n0, w0.heap.size = n0 := ⟨_, rfl⟩
  have HNN := Aside0.mk hn0
  have HBX := Aside0.mk (show b < n0 by rw [← hn0]; exact HBL.out)
  have HCM := Aside0.mk hcm
  rw [hn0] at HA ⊢
  clear hn0 hcm HBL
  have KEY := Aside0.mk (fun (W : World) (os : List S109) (h : HcA n0 n0 (n0 + 1) w0 os W) => (And.intro ((blk_cell h.2.1 0).trans rfl) ((h.2.2.cell (p := ⟨b, off + m, none⟩) HBX.out).trans HCM.out) : W.cell? ⟨n0 + 1, 0, none⟩ = some (.pointer (some ⟨n0, 0, none⟩)) ∧ W.cell? ⟨b, off + m, none⟩ = some (.int .i64 x0)))
  refine wp_region_noPanic ?_
  refine start_ (n := 10) (S := fun w' => w'.cell? ⟨n0 + 1, 0, none⟩ = some (.pointer (some ⟨n0, 0, none⟩)) ∧ w'.cell? ⟨b, off + m, none⟩ = some (.int .i64 x0)) (ds := [9]) #[false, false, false, false, false, false, false, false, false, false] (by kernel_rfl) rfl rfl (KEY.out _ _ (hcA_drew HA.out)) (fun hHeld => ?_)
  refine with_tabW hc_tab4 hc_bits4 (fun HT_ HW_ => ?_)
  have n1_ := Aside0.mk (hcA_drew HA.out)
  clear HA
  have HA := n1_
  clear n1_
  generalize W1.drew = W2 at HA hHeld ⊢
  refine pure_ (i := 1) (N := some 15) (v := ?_) (a' := ?_) #[false, true, false, false, false, false, false, false, false, false] rfl rfl (any_of HT_.out (by kernel_rfl)) (fun _ _ _ h => h) (Or.inl ⟨by rfl, ?_⟩) ?_ ?_
  rotate_left
  · intro w'
    go_simp
    with_reducible rfl
  rotate_left
  · simp only [Act.put, List.setIfInBounds_toArray, List.set_cons_zero, List.set_cons_succ, i64_w, i32_w]
    rfl
  refine pure_ (i := 2) (N := some 16) (v := ?_) (a' := ?_) #[false, true, true, false, false, false, false, false, false, false] rfl rfl (any_of HT_.out (by kernel_rfl)) (fun _ _ _ h => h) (Or.inl ⟨by rfl, ?_⟩) ?_ ?_
  rotate_left
  · intro w'
    go_simp
    with_reducible rfl
  rotate_left
  · simp only [Act.put, List.setIfInBounds_toArray, List.set_cons_zero, List.set_cons_succ, i64_w, i32_w]
    rfl
  refine take_ (i := 0) (N := some 14) (v := ?_) (a' := ?_) #[true, true, true, false, false, false, false, false, false, false] rfl rfl (take_ofW HT_.out HW_.out (by kernel_rfl)) (fun _ _ _ h => h) (Or.inl ⟨by rfl, ?_⟩) hHeld ?_ ?_
  rotate_left
  · rintro w' ⟨s0, s1⟩
    go_simp
    with_reducible rfl
  rotate_left
  · simp only [Act.put, List.setIfInBounds_toArray, List.set_cons_zero, List.set_cons_succ, i64_w, i32_w]
    rfl
  refine pure_ (i := 3) (N := some 17) (v := ?_) (a' := ?_) #[true, true, true, true, false, false, false, false, false, false] rfl rfl (any_of HT_.out (by kernel_rfl)) (fun _ _ _ h => h) (Or.inl ⟨by rfl, ?_⟩) ?_ ?_
  rotate_left
  · intro w'
    go_simp
    with_reducible rfl
  rotate_left
  · simp only [Act.put, List.setIfInBounds_toArray, List.set_cons_zero, List.set_cons_succ, i64_w, i32_w]
    rfl
  refine pure_ (i := 4) (N := some 18) (v := ?_) (a' := ?_) #[true, true, true, true, true, false, false, false, false, false] rfl rfl (any_of HT_.out (by kernel_rfl)) (fun _ _ _ h => h) (Or.inl ⟨by rfl, ?_⟩) ?_ ?_
  rotate_left
  · intro w'
    go_simp
    with_reducible rfl
  rotate_left
  · simp only [Act.put, List.setIfInBounds_toArray, List.set_cons_zero, List.set_cons_succ, i64_w, i32_w]
    rfl
  refine pure_ (i := 5) (N := some 19) (v := ?_) (a' := ?_) #[true, true, true, true, true, true, false, false, false, false] rfl rfl (any_of HT_.out (by kernel_rfl)) (fun _ _ _ h => h) (Or.inl ⟨by rfl, ?_⟩) ?_ ?_
  rotate_left
  · intro w'
    go_simp
    with_reducible rfl
  rotate_left
  · simp only [Act.put, List.setIfInBounds_toArray, List.set_cons_zero, List.set_cons_succ, i64_w, i32_w]
    rfl
  refine take_ (i := 6) (N := some 20) (v := ?_) (a' := ?_) #[true, true, true, true, true, true, true, false, false, false] rfl rfl (take_ofW HT_.out HW_.out (by kernel_rfl)) (fun _ _ _ h => h) (Or.inl ⟨by rfl, ?_⟩) hHeld ?_ ?_
  rotate_left
  · rintro w' ⟨s0, s1⟩
    go_simp
    with_reducible rfl
  rotate_left
  · simp only [Act.put, List.setIfInBounds_toArray, List.set_cons_zero, List.set_cons_succ, i64_w, i32_w]
    rfl
  refine join_ (σ := Nat) 1 #[true, true, true, true, true, true, true, true, true, false] (fun s_ => [(21, .int .i64 1), (5, .pointer (some ⟨s_, 0, none⟩))]) (fun s_ w' => (HcA n0 n0 (n0 + 1) w0 [⟨0, x0, 0⟩] w' ∧ w'.heap[s_]? = some (.cells #[.int .i64 0] 3 (0, 0))) ∧ n0 ≤ s_) ?_ ?_
  rotate_left
  · intro hCont
    refine two_ (i := 7) (j := 8) (Ni := some 21) (Nj := some 5) #[true, true, true, true, true, true, true, true, false, false] #[true, true, true, true, true, true, true, false, true, false] rfl rfl rfl rfl (two_of HT_.out (by kernel_rfl)) (by decide) (by decide) (fun K hK => ?_) (fun K hK => ?_)
    · skip
      refine goes_ Try.func98 (by kernel_rfl) rfl #[.pointer (some ⟨n0, 0, none⟩), .int .i64 x0] (by rfl) rfl rfl (by (try simp only [List.map_toArray, List.map_cons, List.map_nil]); first | done | rfl) ?_
      refine (hcA_const x0 HA.out).mono ?_
      rintro e w3 ⟨rfl, ha_, hk_, hb_⟩
      refine ⟨_, rfl, ?_⟩
      refine hK.out _ _ (KEY.out _ _ ha_) (fun hHeld => ?_)
      clear hK K
      refine norm_ (a' := ?_) ?_ ?_
      rotate_left
      · show Act.put _ (some 21) _ = _
        simp only [Act.put, List.setIfInBounds_toArray, List.set_cons_zero, List.set_cons_succ, i64_w, i32_w]
        rfl
      refine one_ (i := 8) (N := some 5) #[true, true, true, true, true, true, true, true, true, false] rfl rfl (one_of HT_.out (by kernel_rfl)) (by decide) (fun K hK => ?_)
      refine value_ (w1 := ?_) (v := ?_) (by rfl) rfl ?_ ?_
      rotate_left 2
      · go_simp
        constructor
        · rfl
        · rfl
      refine hK.out _ _ (KEY.out _ _ (hcA_alloc ha_ _)) (fun hHeld => ?_)
      clear hK K
      refine norm_ (a' := ?_) ?_ ?_
      rotate_left
      · show Act.put _ (some 5) _ = _
        simp only [Act.put, List.setIfInBounds_toArray, List.set_cons_zero, List.set_cons_succ, i64_w, i32_w]
        rfl
      exact norm_ (by simp only [putAll, Act.put, List.setIfInBounds_toArray, List.set_cons_zero, List.set_cons_succ]) (hCont w3.heap.size _ ⟨⟨hcA_alloc ha_ _, blk_new w3 _⟩, ha_.1.choose_spec.2.2.2.2⟩)
    · skip
      refine value_ (w1 := ?_) (v := ?_) (by rfl) rfl ?_ ?_
      rotate_left 2
      · go_simp
        constructor
        · rfl
        · rfl
      have ha0 := hcA_alloc HA.out (.cells #[.int .i64 0] 3)
      have ht0 := blk_new W2 (.cells #[.int .i64 0] 3)
      refine hK.out _ _ (KEY.out _ _ ha0) (fun hHeld => ?_)
      clear hK K
      refine norm_ (a' := ?_) ?_ ?_
      rotate_left
      · show Act.put _ (some 5) _ = _
        simp only [Act.put, List.setIfInBounds_toArray, List.set_cons_zero, List.set_cons_succ, i64_w, i32_w]
        rfl
      refine one_ (i := 7) (N := some 21) #[true, true, true, true, true, true, true, true, true, false] rfl rfl (one_of HT_.out (by kernel_rfl)) (by decide) (fun K hK => ?_)
      refine goes_ Try.func98 (by kernel_rfl) rfl #[.pointer (some ⟨n0, 0, none⟩), .int .i64 x0] (by rfl) rfl rfl (by (try simp only [List.map_toArray, List.map_cons, List.map_nil]); first | done | rfl) ?_
      refine (hcA_const x0 ha0).mono ?_
      rintro e w3 ⟨rfl, ha_, hk_, hb_⟩
      refine ⟨_, rfl, ?_⟩
      refine hK.out _ _ (KEY.out _ _ ha_) (fun hHeld => ?_)
      clear hK K
      refine norm_ (a' := ?_) ?_ ?_
      rotate_left
      · show Act.put _ (some 21) _ = _
        simp only [Act.put, List.setIfInBounds_toArray, List.set_cons_zero, List.set_cons_succ, i64_w, i32_w]
        rfl
      exact norm_ (by simp only [putAll, Act.put, List.setIfInBounds_toArray, List.set_cons_zero, List.set_cons_succ]) (hCont W2.heap.size _ ⟨⟨ha_, hk_ _ _ _ (by decide) (blk_ne ht0 ha0.1.choose_spec.1 (by decide)) ht0⟩, HA.out.1.choose_spec.2.2.2.2⟩)
  rintro T w4 ⟨⟨ha4, ht4⟩, hT⟩
  have HA4 := Aside0.mk ha4
  have HT4 := Aside0.mk ht4
  have HTN := Aside0.mk hT
  clear ha4 ht4 hT HA hHeld
  refine norm_ (a' := ?_) ?_ ?_
  rotate_left
  · simp only [putAll, Act.put, List.setIfInBounds_toArray, List.set_cons_zero, List.set_cons_succ]
    rfl
  refine last_ (i := 9) (N := none) #[true, true, true, true, true, true, true, true, true, true] rfl rfl (one_of HT_.out (by kernel_rfl)) (by decide) (fun K hK => ?_)
  have hs_ : w4.cell? ⟨T, 0, none⟩ = some (.int .i64 0) := (blk_cell HT4.out 0).trans rfl
  have hfs_ := blk_frozen HT4.out 0
  refine skip_ (w1 := ?_) (by rfl) rfl ?_ ?_
  rotate_left
  · go_simp
    rfl
  refine hK.out _ _ ?_
  clear hK K
  refine done_ (done_of HT_.out (by kernel_rfl)) ?_
  refine NoPanic.normal ?_
  have n1_ := Aside0.mk (hcA_set 1 HA4.out HT4.out HTN.out)
  clear HT_ HW_ hs_ hfs_ HA4 HT4
  generalize w4.setCell ⟨T, 0, none⟩ (.int .i64 1) = w5 at n1_ ⊢
  have HA := n1_
  clear n1_
  go_wp2_with (go_at_call 99; refine (callsIn_wide.1 (YtlmoemahamneoaaBack.back_in Fence.wide 5 trivial rfl _ _ _ _)).mono ?_; rintro e w' ⟨rfl, rfl⟩)
  obtain ⟨zs, hzs⟩ : ∃ zs, l.take m = zs := ⟨_, rfl⟩
  have hzl : zs.length = m := by rw [← hzs, List.length_take]; omega
  have hm16 := HM.out.2
  have hI : YtlmoemahamneoaaBack.Ints n0 (w5.alloc (.cells #[.slice (some ⟨b, off, none⟩) m c0] 29)) (.slice (some ⟨b, off, none⟩) m c0) zs := by
    have hk := Kd.C_take (m := m) HC.out (by omega)
    rw [hzs] at hk
    have h1 := YtlmoemahamneoaaBack.ints_of (c := c0) hk (Nat.le_refl w0.heap.size)
    rw [hzl, HNN.out] at h1
    exact h1.below (hcA_alloc HA.out.1 _).2.2
  have HJ0 := hj_of (.slice (some ⟨b, off, none⟩) m c0) HA.out.1 HA.out.2 HTN.out
  have bB := blk_new w5 (.cells #[.slice (some ⟨b, off, none⟩) m c0] 29)
  have hsz5 : n0 ≤ w5.heap.size := by have := HA.out.1.2.2.size; rw [HNN.out] at this; exact this
  have HZS := Aside0.mk hzs
  have HCE := Aside0.mk (hcP_all l)
  rw [show l.length - 1 = m by have := HM.out.1; omega, hzs, HXL.out] at HCE
  have hreach : zs.length * 8 ≤ 140737488351232 := by omega
  refine (wpIn_wide (n := 5)).1 ?_
  refine wpIn_rangeFunc_ownG (F := Fence.wide) (n := 5) rfl (by omega) (gf := 188) (lb := #[.pointer (some ⟨w5.heap.size, 0, none⟩)]) rfl trivial (enters_of Try.func188 (by kernel_rfl) rfl)
    (YtlmoemahamneoaaBack.back_stops Fence.wide (5 - 1) trivial rfl (by omega) w5.heap.size n0 (.slice (some ⟨b, off, none⟩) m c0) zs hreach _ (by rw [World.size_alloc]; omega) (by rw [World.size_alloc]; omega) bB hI) YtlmoemahamneoaaBack.KeepB.trans (YtlmoemahamneoaaBack.keepB_b (by rw [World.size_alloc]; omega)) (Below.refl _ _) (fun _ => rfl)
    (fun pre W => HcJ n0 n0 (n0 + 1) T w5.heap.size (.slice (some ⟨b, off, none⟩) m c0) w0 (hcP x0 pre).1 (hcP x0 pre).2 W)
    (fun _ _ _ => False)
    (hj_own (fun pre => (hcP x0 pre).1) (fun pre => (hcP x0 pre).2) (Nat.le_of_eq HNN.out.symm) (by rw [World.size_alloc]; omega))
    (fun _ _ _ _ _ hs _ _ => hs)
    HJ0
    (fun x => { tmps := #[.slice (some ⟨b, off, none⟩) l.length c0, undef, .pointer (some ⟨w.heap.size, 0, none⟩), .bool false, .pointer (some ⟨n0 + 1, 0, none⟩), .pointer (some ⟨T, 0, none⟩), undef, .int .i64 x.2, .slice (some ⟨b, off, none⟩) l.length c0, .bool true, .bool false, undef, .agg #[.slice none 0 0], .pointer (some ⟨n0, 0, none⟩), .pointer (some ⟨n0, 0, none⟩), .slice (some ⟨b, off, none⟩) l.length c0, .slice (some ⟨b, off, none⟩) l.length c0, .int .i64 (l.length : Int), .int .i64 (m : Int), .pointer (some ⟨b, off + m, none⟩), .int .i64 x0, .int .i64 1, .slice (some ⟨b, off, none⟩) l.length c0, .slice (some ⟨b, off, none⟩) l.length c0, .int .i64 (l.length : Int), .int .i64 (m : Int), .slice (some ⟨b, off, none⟩) m c0, .func (.func 188) #[] #[.pointer (some ⟨w5.heap.size, 0, none⟩)], .int .i64 x.1, .int .i64 x.2, undef, undef, undef, undef, undef, undef, undef, undef, undef, undef, undef, undef, undef, undef], defers := [] }) ?assign ?body ?done ?stop
  case assign =>
    intro lb x W K hK
    gi_wp2
    exact hK
  case body =>
    rintro lb pre x W hJ hlt
    obtain ⟨st, hst⟩ : ∃ st, hcP x0 pre = st := ⟨_, rfl⟩
    have hlen := hcP_len x0 pre
    have hnew := hcP_snoc x0 pre x
    rw [hst] at hJ hlen hnew
    obtain ⟨os, at_⟩ := st
    dsimp only at hJ hlen
    obtain ⟨q, hq⟩ : ∃ q, os.length = q := ⟨_, rfl⟩
    have HNEW := Aside0.mk hnew
    have HQ := Aside0.mk hq
    have hq1 : q ≤ 1000 := by omega
    have HQ1 := Aside0.mk hq1
    have kP : W.cell? ⟨n0 + 1, 0, none⟩ = some (.pointer (some ⟨n0, 0, none⟩)) := (blk_cell hJ.2.1 0).trans rfl
    have kT : W.cell? ⟨T, 0, none⟩ = some (.int .i64 at_) := (blk_cell hJ.2.2.1 0).trans rfl
    have PU := Aside0.mk (hj_put q hq (by omega) 3 at_ 0 hJ)
    obtain ⟨xi, xd⟩ := x
    dsimp only
    clear hnew hq hlen hst hJ hlt hI HJ0 bB hreach hzl hzs hsz5
    gi_wp2
    refine ⟨trivial, CallsIn.inRound _ (callsIn_wide.2 (PU.out.mono ?_))⟩
    rintro e w6 ⟨rfl, hj_, hk_⟩
    have HJ1 := Aside0.mk hj_
    have HK1 := Aside0.mk hk_
    have kT6 : w6.cell? ⟨T, 0, none⟩ = some (.int .i64 at_) := (blk_cell hj_.2.2.1 0).trans rfl
    have kF6 := blk_frozen hj_.2.2.1 0
    clear hj_ hk_
    gi_wp2
    have n1_ := Aside0.mk (hj_set ((q : Int) + 1) HJ1.out)
    clear kT6 kF6 kP kT
    generalize w6.setCell ⟨T, 0, none⟩ (.int .i64 ((q : Int) + 1)) = w7 at n1_ ⊢
    have HJ2 := Aside0.mk n1_.out.1
    have HK2 := Aside0.mk (hk_trans HK1.out n1_.out.2)
    clear n1_ HJ1 HK1
    have KY := Aside0.mk (fun (V : World) (os : List S109) (z : Int) (sv : Value) (h : HcJ n0 n0 (n0 + 1) T w5.heap.size sv w0 os z V) => (And.intro ((blk_cell h.2.1 0).trans rfl) ((blk_cell h.2.2.1 0).trans rfl) : V.cell? ⟨n0 + 1, 0, none⟩ = some (.pointer (some ⟨n0, 0, none⟩)) ∧ V.cell? ⟨T, 0, none⟩ = some (.int .i64 z)))
    refine Ytlmoemahamneoaa.RoundAny.start_in (m := 7) (S := fun w' => w'.cell? ⟨n0 + 1, 0, none⟩ = some (.pointer (some ⟨n0, 0, none⟩)) ∧ w'.cell? ⟨T, 0, none⟩ = some (.int .i64 ((q : Int) + 1))) (ds := [6]) #[false, false, false, false, false, false, false] (by kernel_rfl) (by kernel_rfl) rfl rfl (KY.out _ _ _ _ (hj_drew HJ2.out).1) (fun hHeld => ?_)
    refine with_tabW hc_tab8 hc_bits8 (fun HT_ HW_ => ?_)
    have n1_ := Aside0.mk (hj_drew HJ2.out)
    have HJ3 := Aside0.mk n1_.out.1
    have HK3 := Aside0.mk (hk_trans HK2.out n1_.out.2)
    clear n1_ HJ2 HK2
    generalize w7.drew = w8 at HJ3 HK3 hHeld ⊢
    refine pure_ (i := 3) (N := some 36) (v := ?_) (a' := ?_) #[false, false, false, true, false, false, false] rfl rfl (any_of HT_.out (by kernel_rfl)) (fun _ _ _ h => h) (Or.inl ⟨by rfl, ?_⟩) ?_ ?_
    rotate_left
    · intro w'
      go_simp
      with_reducible rfl
    rotate_left
    · simp only [Act.put, List.setIfInBounds_toArray, List.set_cons_zero, List.set_cons_succ, i64_w, i32_w]
      rfl
    refine take_ (i := 0) (N := some 33) (v := ?_) (a' := ?_) #[true, false, false, true, false, false, false] rfl rfl (take_ofW HT_.out HW_.out (by kernel_rfl)) (fun _ _ _ h => h) (Or.inl ⟨by rfl, ?_⟩) hHeld ?_ ?_
    rotate_left
    · rintro w' ⟨s0, s1⟩
      go_simp
      with_reducible rfl
    rotate_left
    · simp only [Act.put, List.setIfInBounds_toArray, List.set_cons_zero, List.set_cons_succ, i64_w, i32_w]
      rfl
    refine take_ (i := 1) (N := some 34) (v := ?_) (a' := ?_) #[true, true, false, true, false, false, false] rfl rfl (take_ofW HT_.out HW_.out (by kernel_rfl)) (fun _ _ _ h => h) (Or.inl ⟨by rfl, ?_⟩) hHeld ?_ ?_
    rotate_left
    · rintro w' ⟨s0, s1⟩
      go_simp
      with_reducible rfl
    rotate_left
    · simp only [Act.put, List.setIfInBounds_toArray, List.set_cons_zero, List.set_cons_succ, i64_w, i32_w]
      rfl
    refine take_ (i := 2) (N := some 35) (v := ?_) (a' := ?_) #[true, true, true, true, false, false, false] rfl rfl (take_ofW HT_.out HW_.out (by kernel_rfl)) (fun _ _ _ h => h) (Or.inl ⟨by rfl, ?_⟩) hHeld ?_ ?_
    rotate_left
    · rintro w' ⟨s0, s1⟩
      go_simp
      with_reducible rfl
    rotate_left
    · simp only [Act.put, List.setIfInBounds_toArray, List.set_cons_zero, List.set_cons_succ, i64_w, i32_w]
      rfl
    refine one_ (i := 4) (N := some 37) #[true, true, true, true, true, false, false] rfl rfl (one_of HT_.out (by kernel_rfl)) (by decide) (fun K hK => ?_)
    refine goes_ Try.func98 (by kernel_rfl) rfl #[.pointer (some ⟨n0, 0, none⟩), .int .i64 xd] (by rfl) rfl rfl (by (try simp only [List.map_toArray, List.map_cons, List.map_nil]); first | done | rfl) ?_
    refine (hj_const (q + 1) (by rw [List.length_append, HQ.out]; rfl) (by have := HQ1.out; omega) xd HJ3.out).mono ?_
    rintro e w9 ⟨rfl, j_, k_⟩
    refine ⟨_, rfl, ?_⟩
    have HJ4 := Aside0.mk j_
    have HK4 := Aside0.mk (hk_trans HK3.out k_)
    clear j_ k_ HJ3 HK3
    refine hK.out _ _ (KY.out _ _ _ _ HJ4.out) (fun hHeld => ?_)
    clear hK K
    refine norm_ (a' := ?_) ?_ ?_
    rotate_left
    · show Act.put _ (some 37) _ = _
      simp only [Act.put, List.setIfInBounds_toArray, List.set_cons_zero, List.set_cons_succ, i64_w, i32_w]
      rfl
    refine one_ (i := 5) (N := some 38) #[true, true, true, true, true, true, false] rfl rfl (one_of HT_.out (by kernel_rfl)) (by decide) (fun K hK => ?_)
    refine goes_ Try.func100 (by kernel_rfl) rfl #[.pointer (some ⟨n0, 0, none⟩), .int .i64 1, .int .i64 ((q : Int) + 1), .int .i64 (((q + 1 : Nat) : Int) + 1)] (by rfl) rfl rfl (by (try simp only [List.map_toArray, List.map_cons, List.map_nil]); first | done | rfl) ?_
    refine (hj_put (q + 2) (by rw [List.length_append, List.length_append, HQ.out]; rfl) (by have := HQ1.out; omega) 1 ((q : Int) + 1) (((q + 1 : Nat) : Int) + 1) HJ4.out).mono ?_
    rintro e w10 ⟨rfl, j_, k_⟩
    refine ⟨_, rfl, ?_⟩
    have HJ5 := Aside0.mk j_
    have HK5 := Aside0.mk (hk_trans HK4.out k_)
    clear j_ k_ HJ4 HK4
    refine hK.out _ _ (KY.out _ _ _ _ HJ5.out) (fun hHeld => ?_)
    clear hK K
    refine norm_ (a' := ?_) ?_ ?_
    rotate_left
    · show Act.put _ (some 38) _ = _
      simp only [Act.put, List.setIfInBounds_toArray, List.set_cons_zero, List.set_cons_succ, i64_w, i32_w]
      rfl
    refine last_ (i := 6) (N := none) #[true, true, true, true, true, true, true] rfl rfl (one_of HT_.out (by kernel_rfl)) (by decide) (fun K hK => ?_)
    have hs_ : w10.cell? ⟨T, 0, none⟩ = some (.int .i64 ((q : Int) + 1)) := (KY.out _ _ _ _ HJ5.out).2
    have hfs_ := blk_frozen HJ5.out.2.2.1 0
    refine skip_ (w1 := ?_) (by rfl) rfl ?_ ?_
    rotate_left
    · go_simp
      rfl
    refine hK.out _ _ ?_
    clear hK K
    refine done_ (done_of HT_.out (by kernel_rfl)) ?_
    have n1_ := hj_set (((q + 2 : Nat) : Int) + 1) HJ5.out
    have hk6 := hk_trans HK5.out n1_.2
    have hj6 := n1_.1
    have e1 : (hcP x0 (pre ++ [(xi, xd)])).1 = os ++ [⟨3, at_, 0⟩] ++ [⟨0, xd, 0⟩] ++ [⟨1, (q : Int) + 1, ((q + 1 : Nat) : Int) + 1⟩] := by rw [HNEW.out, ← HQ.out]; rfl
    have e2 : (hcP x0 (pre ++ [(xi, xd)])).2 = ((q + 2 : Nat) : Int) + 1 := by rw [HNEW.out, ← HQ.out]; rfl
    have hj7 : HcJ n0 n0 (n0 + 1) T w5.heap.size (.slice (some ⟨b, off, none⟩) m c0) w0 (hcP x0 (pre ++ [(xi, xd)])).1 (hcP x0 (pre ++ [(xi, xd)])).2 (w10.setCell ⟨T, 0, none⟩ (.int .i64 (((q + 2 : Nat) : Int) + 1))) := by
      rw [e1, e2]
      exact n1_.1
    exact ⟨hk6.2.from _, hk6.1, hj7⟩
  case done =>
    rintro E ys W hE rfl hJ hK
    have HE := Aside0.mk hE
    have HCE2 := HCE.out
    have e0 : (fun pre => hcP x0 pre) (YtlmoemahamneoaaBack.pairs zs) = hcAll l := HCE2
    have HJW := Aside0.mk (show HcJ n0 n0 (n0 + 1) T w5.heap.size (.slice (some ⟨b, off, none⟩) m c0) w0 (hcAll l).1 (hcAll l).2 W by rw [← HCE2]; exact hJ)
    clear hJ HCE2 e0
    obtain ⟨os, hos⟩ : ∃ os, (hcAll l).1 = os := ⟨_, rfl⟩
    obtain ⟨at_, hat⟩ : ∃ at_, (hcAll l).2 = at_ := ⟨_, rfl⟩
    rw [hos, hat] at HJW HF
    have kP : W.cell? ⟨n0 + 1, 0, none⟩ = some (.pointer (some ⟨n0, 0, none⟩)) := (blk_cell HJW.out.2.1 0).trans rfl
    have kT : W.cell? ⟨T, 0, none⟩ = some (.int .i64 at_) := (blk_cell HJW.out.2.2.1 0).trans rfl
    have hwl : w.heap.size < n0 := by have := HNN.out; have := HS0.out; omega
    have hx : W.heap[w.heap.size]? = some (.cells #[.slice none 0 0, .int .i64 0] 32 (0, 0)) := (HJW.out.2.2.2.2.1.block _ hwl).trans HX0.out
    have hwr : WrAt w0.heap.size n0 os w0 W := by
      obtain ⟨⟨u, hbx, hR, _, hgB, hbw⟩, _, _, _, hB, _⟩ := HJW.out
      rw [HNN.out]
      exact ⟨u, hbx, hR, hB, hgB, Nat.le_of_eq HNN.out.symm⟩
    have CO := Aside0.mk (code_inE E k n0 os at_ r1 r2 r3 w.heap.size _ w0 W hwr hx hK HF.out)
    have HEN : Aside0 (n0 ≤ E) := ⟨by have := HE.out; rw [World.size_alloc] at this; omega⟩
    have HWL := Aside0.mk hwl
    clear hos hat hx hwr hwl hK hE hsz5 hI HJ0 bB hreach hzl hzs HCE HZS HE
    go_wp2_with (go_at_call 97; refine CO.out.mono ?_; rintro e w9 ⟨v0, rfl, hR1, hB1, hX3, hE3⟩; obtain ⟨A3, c3, e3⟩ := Kd.R_slice hR1; subst e3; have HR1 := Aside0.mk (Kd.R_lower hR1 (show w.heap.size ≤ _ by rw [HS0.out]; omega)); have HB1 := Aside0.mk (below_step HB0.out hB1); have HX := Aside0.mk hX3; have HE3 := Aside0.mk hE3; have s0 : w9.cell? ⟨w.heap.size, 0, none⟩ = some (.slice none 0 0) := (blk_cell hX3 0).trans rfl; have s1 : w9.cell? ⟨w.heap.size, 1, none⟩ = some (.int .i64 0) := (blk_cell hX3 1).trans rfl; have f0 : w9.frozen? ⟨w.heap.size, 0, none⟩ = false := blk_frozen hX3 0; have f1 : w9.frozen? ⟨w.heap.size, 1, none⟩ = false := blk_frozen hX3 1; clear hR1 hB1 hX3 hE3)
    have hEn : E ≠ w.heap.size := by have := HEN.out; have := HWL.out; omega
    have HX2 := blk_put (blk_put HX.out 0 (.slice A3 r1.length c3) rfl) 1 (.int .i64 r2) rfl
    have HE4 : ((w9.setCell ⟨w.heap.size, 0, none⟩ (.slice A3 r1.length c3)).setCell ⟨w.heap.size, 1, none⟩ (.int .i64 r2)).heap[E]? = some (.deferred (some [])) := (Below.heap_setCell _ ⟨w.heap.size, 1, none⟩ _ E hEn).trans ((Below.heap_setCell _ ⟨w.heap.size, 0, none⟩ _ E hEn).trans HE3.out)
    refine ⟨by simp, .inl ⟨_, _, rfl, run_takeDeferred HE4, ?_⟩⟩
    have HB8 := Below.setCell (Below.setCell HB1.out (p := ⟨w.heap.size, 0, none⟩) (Nat.le_refl _) (.slice A3 r1.length c3)) (p := ⟨w.heap.size, 1, none⟩) (Nat.le_refl _) (.int .i64 r2)
    have hX1 := blk_put HX.out 0 (.slice A3 r1.length c3) rfl
    have HRR := Kd.R_mono (ok' := fun _ => True) (Kd.R_far (p := ⟨w.heap.size, 1, none⟩) (Kd.R_types (Kd.R_mono (ok' := fun _ => True) (Kd.R_far (p := ⟨w.heap.size, 0, none⟩) (Kd.R_types HR1.out HX.out (by decide)) (fun _ hk => hk.2) (.slice A3 r1.length c3)) (fun _ _ => trivial)) hX1 (by decide)) (fun _ hk => hk.2) (.int .i64 r2)) (fun _ hk => trivial)
    refine ⟨_, results_ct rfl _ _ w.heap.size 32 #[.slice A3 r1.length c3, .int .i64 r2] (0, 0) _ rfl (((grownBy_putObj' _ E (.deferred none)).block _ (blk_lt HX2) (fun e => by injection e with e; exact hEn e.symm)).trans HX2) Try.underlying32 rfl (by kernel_rfl), .slice A3 r1.length c3, rfl, ?_, HB8.trans (belowK_b (w := w) (Nat.le_refl _) _ E _ _ (by have := HEN.out; have := HWL.out; omega) HE4 rfl rfl)⟩
    refine Kd.R_mono (Kd.R_step (Kd.R_bound HRR) (fun k_ hk_ _ => ?_)) (fun _ _ => trivial)
    obtain ⟨_, _, _, q_, _, cells, hc⟩ := hk_
    refine (grownBy_putObj' _ E (.deferred none)).block k_ (blk_lt hc) (fun e => ?_)
    injection e with e
    subst e
    rw [HE4] at hc
    cases hc
  case stop =>
    rintro D c pre W _ _ h _
    exact h.elim
set_option maxHeartbeats 2000000 in
theorem hc_no (A : Option Addr) (c0 : Nat) (l : List Int) (w : World) (hC : Kd.C (Kd.int .i64) w A l.length l) (hcc : l.length ≤ c0) (hok : impl_coefsOk.f l = some false) :
    Calls Try.prog 22 #[.slice A l.length c0] w fun e w' => ∃ v0_ : Value, e = .returned (.tuple #[.agg #[v0_, .int .i64 0], .bool false]) ∧ Kd.R k109 109 w' w.heap.size (fun _ => True) v0_ [] ∧ Below w.heap.size w w' := by
  have HC := Aside0.mk hC
  have HLC := Aside0.mk hcc
  have HOK := Aside0.mk hok
  clear hC hcc hok
  go_enter Try.func22, Try.ntmps22
  go_wp2_with (go_at_call 95; refine (impl_coefsOk.calls _ c0 l _ _ (Kd.C_alloc HC.out _) HLC.out HOK.out).mono ?_; rintro e w2 ⟨rfl, hd_⟩; obtain ⟨n2, rfl⟩ := YtlmoemahamneoaaHand.of_drawn hd_; clear hd_; have s0 : ((w.alloc (.cells #[.slice none 0 0, .int .i64 0] 32)).drewN n2).cell? ⟨w.heap.size, 0, none⟩ = some (.slice none 0 0) := (blk_cell (blk_drewN (blk_new w _) n2) 0).trans rfl; have s1 : ((w.alloc (.cells #[.slice none 0 0, .int .i64 0] 32)).drewN n2).cell? ⟨w.heap.size, 1, none⟩ = some (.int .i64 0) := (blk_cell (blk_drewN (blk_new w _) n2) 1).trans rfl)
  refine bodyPost_ret (results_ct rfl _ _ w.heap.size 32 #[.slice none 0 0, .int .i64 0] (0, 0) _ rfl (blk_put (blk_put (blk_drewN (blk_new w _) _) 0 _ rfl) 1 _ rfl) Try.underlying32 rfl (by kernel_rfl)) rfl ?_
  exact ⟨_, rfl, Kd.R_nil _ _ _ _ _, Below.setCell (Below.setCell (pw_below_drewN (below_alloc (Below.refl _ _) _) _) (p := ⟨w.heap.size, 0, none⟩) (Nat.le_refl _) _) (p := ⟨w.heap.size, 1, none⟩) (Nat.le_refl _) _⟩
end
def impl_HornerCode.f (k : Nat) (l0 : List Int) : Option (List (S109) × Int × Bool) := (impl_coefsOk.f l0).bind fun c => if c = true then impl_toldCode.f k (hcAll l0).1 (hcAll l0).2 else some ([], 0, false)
theorem impl_HornerCode.mono : ∀ (a0 : List Int) (k : Nat), LeO (impl_HornerCode.f k a0) (impl_HornerCode.f (k + 1) a0) := by
  intro a0 k
  unfold impl_HornerCode.f
  exact LeO.bind (LeO.refl _) (fun _ => LeO.ite (impl_toldCode.mono _ _ _) (LeO.refl _))
theorem impl_HornerCode.calls (k : Nat) (A0 : Option Addr) (c0 : Nat) (l0 : List Int) (r1 : List (S109)) (r2 : Int) (r3 : Bool) (w : World) (hr0 : Kd.C (Kd.int .i64) w A0 l0.length l0) (hc0 : l0.length ≤ c0) (h : impl_HornerCode.f k l0 = some (r1, r2, r3)) :
    Calls Try.prog 22 #[.slice A0 l0.length c0] w fun e w' => ∃ v0_ : Value, e = .returned (.tuple #[.agg #[v0_, .int .i64 r2], .bool r3]) ∧ Kd.R k109 109 w' w.heap.size (fun _ => True) v0_ r1 ∧ Below w.heap.size w w' := by
  unfold impl_HornerCode.f at h
  obtain ⟨c, hok, h1⟩ := Option.bind_eq_some_iff.mp h
  clear h
  cases c with
  | true =>
    rw [if_pos rfl] at h1
    obtain ⟨hl1, hl2⟩ := gc_coefs hok
    rcases YtlmoemahamneoaaHand.int_slice hr0 with h0 | ⟨b, off, rfl, _, hcells⟩
    · subst h0; simp at hl1
    · exact callsIn_wide.1 (hc_yes k b off c0 (l0.length - 1) l0 r1 r2 r3 w hr0 hc0 hcells (by omega) (by omega) hok h1)
  | false =>
    rw [if_neg (by simp)] at h1
    simp only [Option.some.injEq, Prod.mk.injEq] at h1
    obtain ⟨rfl, rfl, rfl⟩ := h1
    exact hc_no A0 c0 l0 w hr0 hc0 hok

/-! ### impl_PowersCode: function 23 -/
def pcGroup (l : List Int) : List S109 × Int := gcGroup (gcPw (l.length - 2)) (l.headD 0) l.tail (gcPops (l.length - 2))
section
set_option maxRecDepth 100000
set_option maxHeartbeats 2000000 in
theorem pc_yes (k : Nat) (b off c0 : Nat) (l : List Int) (r1 : List S109) (r2 : Int) (r3 : Bool) (w : World) (hC : Kd.C (Kd.int .i64) w (some ⟨b, off, none⟩) l.length l) (hcc : l.length ≤ c0) (hcell : ∀ j, j < l.length → w.cell? ⟨b, off + j, none⟩ = some (.int .i64 (l.getD j 0))) (hl1 : 1 ≤ l.length) (hl2 : l.length ≤ 17) (hok : impl_coefsOk.f l = some true) (hf : impl_toldCode.f k (pcGroup l).1 (pcGroup l).2 = some (r1, r2, r3)) :
    Calls Try.prog 23 #[.slice (some ⟨b, off, none⟩) l.length c0] w fun e w' => ∃ v0_ : Value, e = .returned (.tuple #[.agg #[v0_, .int .i64 r2], .bool r3]) ∧ Kd.R k109 109 w' w.heap.size (fun _ => True) v0_ r1 ∧ Below w.heap.size w w' := by
  have hb : b < w.heap.size := World.block_lt_of_cell? _ _ (hcell 0 (by omega))
  obtain ⟨x0, t, hl⟩ : ∃ x0 t, l = x0 :: t := by
    cases l with
    | nil => simp at hl1
    | cons x0 t => exact ⟨x0, t, rfl⟩
  obtain ⟨n, hn⟩ : ∃ n, l.length - 2 = n := ⟨_, rfl⟩
  have htl : l.length = t.length + 1 := by rw [hl]; rfl
  obtain ⟨p, hp⟩ : ∃ p, gcGroup (gcPw n) x0 t (gcPops n) = p := ⟨_, rfl⟩
  have hpg : pcGroup l = p := by unfold pcGroup; rw [hn, hl, List.headD_cons, List.tail_cons]; exact hp
  rw [hpg] at hf
  obtain ⟨w0, hw0⟩ : ∃ w0, w.alloc (.cells #[.slice none 0 0, .int .i64 0] 32) = w0 := ⟨_, rfl⟩
  have hs0 : w0.heap.size = w.heap.size + 1 := by rw [← hw0, World.size_alloc]
  have hal : ∀ j, j < l.length → w0.cell? ⟨b, off + j, none⟩ = some (.int .i64 (l.getD j 0)) := fun j hj => by rw [← hw0]; exact (World.cell?_alloc_lt _ _ ⟨b, off + j, none⟩ hb).trans (hcell j hj)
  have hC0 : w0.cell? ⟨b, off, none⟩ = some (.int .i64 x0) := by have := hal 0 (by omega); rw [hl] at this; exact this
  have hCr : ∀ j, j < t.length → w0.cell? ⟨b, off + 1 + j, none⟩ = some (.int .i64 (t.getD j 0)) := fun j hj => by
    have := hal (j + 1) (by omega)
    rw [hl] at this
    rw [show off + 1 + j = off + (j + 1) by omega]
    exact this
  have hw1 : wrap64 ((l.length : Int) - 1) = (l.length : Int) - 1 := IntWalk.wrap64_in _ (by omega)
  have PO := Aside0.mk (fun (B : Nat) (W : World) (hB : WrAt w0.heap.size B [] w0 W) => powers_in w0.heap.size B w0 W ((l.length : Int) - 1) n (by omega) (by omega) hB (hB.choose_spec.2.2.1.size))
  have GR := Aside0.mk (fun (B : Nat) (W : World) (v : Value) (hB : WrAt w0.heap.size B (gcPops n) w0 W) (hP : PwR w0.heap.size W v (gcPw n)) => group_in w0 W B b off c0 x0 t v (gcPw n) (gcPops n) (by omega) hC0 hCr (by omega) (by omega) (by rw [gcPw_length]; omega) (by rw [gcPw_length]; omega) (by rw [gcPops_length]; omega) hB hP)
  rw [hp] at GR
  rw [← htl] at GR
  have CO := Aside0.mk (fun (B : Nat) (W : World) (hB : WrAt w0.heap.size B p.1 w0 W) (hx : W.heap[w.heap.size]? = some (.cells #[.slice none 0 0, .int .i64 0] 32 (0, 0))) => code_in k B p.1 p.2 r1 r2 r3 w.heap.size _ w0 W hB hx hf)
  have HX0 := Aside0.mk (show w0.heap[w.heap.size]? = some (.cells #[.slice none 0 0, .int .i64 0] 32 (0, 0)) by rw [← hw0]; exact blk_new w _)
  have HS0 := Aside0.mk hs0
  have HB0 := Aside0.mk (show Below w.heap.size w w0 by rw [← hw0]; exact below_alloc (Below.refl _ w) _)
  have HC := Aside0.mk (show Kd.C (Kd.int .i64) w0 (some ⟨b, off, none⟩) l.length l by rw [← hw0]; exact Kd.C_alloc hC _)
  have HW0 := Aside0.mk hw0
  have HLC := Aside0.mk hcc
  have HOK := Aside0.mk hok
  have hl0 : 1 ≤ l.length := hl1
  clear hC hcc hcell hl1 hl2 hok hf hb hal hw0 hs0 hC0 hCr hn hp hpg htl hl
  go_enter Try.func23, Try.ntmps23
  go_wp2_with (first
    | (go_at_call 95; rw [HW0.out]; refine (impl_coefsOk.calls _ c0 l true _ HC.out HLC.out HOK.out).mono ?_; rintro e w2 ⟨rfl, hd_⟩; obtain ⟨n2, rfl⟩ := YtlmoemahamneoaaHand.of_drawn hd_; clear hd_; have HWN := Aside0.mk (wr_new w0 (w0.drewN n2) (pw_below_drewN (Below.refl _ _) _)))
    | (go_at_call 101; refine (PO.out _ _ HWN.out).mono ?_; rintro e w3 ⟨v, rfl, hp_, hw_⟩; have HP := Aside0.mk hp_; have HW := Aside0.mk hw_; clear hp_ hw_)
    | (go_at_call 102; refine (GR.out _ _ _ HW.out HP.out).mono ?_; rintro e w4 ⟨rfl, hw_, -⟩; have HW4 := Aside0.mk hw_; clear hw_)
    | (go_at_call 97; refine (CO.out _ _ HW4.out (blk_below HX0.out (HW4.out.choose_spec.2.2.1))).mono ?_; rintro e w5 ⟨v0, rfl, hR1, hB1, hX3⟩; obtain ⟨A3, c3, e3⟩ := Kd.R_slice hR1; subst e3; have HR1 := Aside0.mk (Kd.R_lower hR1 (show w.heap.size ≤ _ by rw [HS0.out]; omega)); have HB1 := Aside0.mk (below_step HB0.out hB1); have HX := Aside0.mk hX3; have s0 : w5.cell? ⟨w.heap.size, 0, none⟩ = some (.slice none 0 0) := (blk_cell hX3 0).trans rfl; have s1 : w5.cell? ⟨w.heap.size, 1, none⟩ = some (.int .i64 0) := (blk_cell hX3 1).trans rfl; have f0 : w5.frozen? ⟨w.heap.size, 0, none⟩ = false := blk_frozen hX3 0; have f1 : w5.frozen? ⟨w.heap.size, 1, none⟩ = false := blk_frozen hX3 1; clear hR1 hB1 hX3))
  refine bodyPost_ret (results_ct rfl _ _ w.heap.size 32 #[.slice A3 r1.length c3, .int .i64 r2] (0, 0) _ rfl (blk_put (blk_put HX.out 0 _ rfl) 1 _ rfl) Try.underlying32 rfl (by kernel_rfl)) rfl ?_
  refine ⟨_, rfl, ?_, Below.setCell (Below.setCell HB1.out (p := ⟨w.heap.size, 0, none⟩) (Nat.le_refl _) _) (p := ⟨w.heap.size, 1, none⟩) (Nat.le_refl _) _⟩
  have hX1 := blk_put HX.out 0 (.slice A3 r1.length c3) rfl
  exact Kd.R_mono (ok' := fun _ => True) (Kd.R_far (p := ⟨w.heap.size, 1, none⟩) (Kd.R_types (Kd.R_mono (ok' := fun _ => True) (Kd.R_far (p := ⟨w.heap.size, 0, none⟩) (Kd.R_types HR1.out HX.out (by decide)) (fun _ hk => hk.2) (.slice A3 r1.length c3)) (fun _ _ => trivial)) hX1 (by decide)) (fun _ hk => hk.2) (.int .i64 r2)) (fun _ hk => trivial)
set_option maxHeartbeats 2000000 in
theorem pc_no (A : Option Addr) (c0 : Nat) (l : List Int) (w : World) (hC : Kd.C (Kd.int .i64) w A l.length l) (hcc : l.length ≤ c0) (hok : impl_coefsOk.f l = some false) :
    Calls Try.prog 23 #[.slice A l.length c0] w fun e w' => ∃ v0_ : Value, e = .returned (.tuple #[.agg #[v0_, .int .i64 0], .bool false]) ∧ Kd.R k109 109 w' w.heap.size (fun _ => True) v0_ [] ∧ Below w.heap.size w w' := by
  have HC := Aside0.mk hC
  have HLC := Aside0.mk hcc
  have HOK := Aside0.mk hok
  clear hC hcc hok
  go_enter Try.func23, Try.ntmps23
  go_wp2_with (go_at_call 95; refine (impl_coefsOk.calls _ c0 l _ _ (Kd.C_alloc HC.out _) HLC.out HOK.out).mono ?_; rintro e w2 ⟨rfl, hd_⟩; obtain ⟨n2, rfl⟩ := YtlmoemahamneoaaHand.of_drawn hd_; clear hd_; have s0 : ((w.alloc (.cells #[.slice none 0 0, .int .i64 0] 32)).drewN n2).cell? ⟨w.heap.size, 0, none⟩ = some (.slice none 0 0) := (blk_cell (blk_drewN (blk_new w _) n2) 0).trans rfl; have s1 : ((w.alloc (.cells #[.slice none 0 0, .int .i64 0] 32)).drewN n2).cell? ⟨w.heap.size, 1, none⟩ = some (.int .i64 0) := (blk_cell (blk_drewN (blk_new w _) n2) 1).trans rfl)
  refine bodyPost_ret (results_ct rfl _ _ w.heap.size 32 #[.slice none 0 0, .int .i64 0] (0, 0) _ rfl (blk_put (blk_put (blk_drewN (blk_new w _) _) 0 _ rfl) 1 _ rfl) Try.underlying32 rfl (by kernel_rfl)) rfl ?_
  exact ⟨_, rfl, Kd.R_nil _ _ _ _ _, Below.setCell (Below.setCell (pw_below_drewN (below_alloc (Below.refl _ _) _) _) (p := ⟨w.heap.size, 0, none⟩) (Nat.le_refl _) _) (p := ⟨w.heap.size, 1, none⟩) (Nat.le_refl _) _⟩
end
def impl_PowersCode.f (k : Nat) (l0 : List Int) : Option (List (S109) × Int × Bool) := (impl_coefsOk.f l0).bind fun c => if c = true then impl_toldCode.f k (pcGroup l0).1 (pcGroup l0).2 else some ([], 0, false)
theorem impl_PowersCode.mono : ∀ (a0 : List Int) (k : Nat), LeO (impl_PowersCode.f k a0) (impl_PowersCode.f (k + 1) a0) := by
  intro a0 k
  unfold impl_PowersCode.f
  exact LeO.bind (LeO.refl _) (fun _ => LeO.ite (impl_toldCode.mono _ _ _) (LeO.refl _))
theorem impl_PowersCode.calls (k : Nat) (A0 : Option Addr) (c0 : Nat) (l0 : List Int) (r1 : List (S109)) (r2 : Int) (r3 : Bool) (w : World) (hr0 : Kd.C (Kd.int .i64) w A0 l0.length l0) (hc0 : l0.length ≤ c0) (h : impl_PowersCode.f k l0 = some (r1, r2, r3)) :
    Calls Try.prog 23 #[.slice A0 l0.length c0] w fun e w' => ∃ v0_ : Value, e = .returned (.tuple #[.agg #[v0_, .int .i64 r2], .bool r3]) ∧ Kd.R k109 109 w' w.heap.size (fun _ => True) v0_ r1 ∧ Below w.heap.size w w' := by
  unfold impl_PowersCode.f at h
  obtain ⟨c, hok, h1⟩ := Option.bind_eq_some_iff.mp h
  clear h
  cases c with
  | true =>
    rw [if_pos rfl] at h1
    obtain ⟨hl1, hl2⟩ := gc_coefs hok
    rcases YtlmoemahamneoaaHand.int_slice hr0 with h0 | ⟨b, off, rfl, _, hcells⟩
    · subst h0; simp at hl1
    · exact pc_yes k b off c0 l0 r1 r2 r3 w hr0 hc0 hcells hl1 hl2 hok h1
  | false =>
    rw [if_neg (by simp)] at h1
    simp only [Option.some.injEq, Prod.mk.injEq] at h1
    obtain ⟨rfl, rfl, rfl⟩ := h1
    exact pc_no A0 c0 l0 w hr0 hc0 hok

/-! ### impl_Op_values: function 103 -/
def impl_Op_values.f (a0_0 : Int) (a0_1 : Int) (a0_2 : Int) : Option (List Int) := if a0_0 = 0 then (some ([] : List Int)) else (if a0_0 = 2 then (some (([a0_1] : List Int))) else (some (([a0_1, a0_2] : List Int))))
set_option maxHeartbeats 8000000 in
set_option maxRecDepth 100000 in
theorem impl_Op_values.calls (a0_0 : Int) (a0_1 : Int) (a0_2 : Int) (r : List Int) (w : World) (h : impl_Op_values.f a0_0 a0_1 a0_2 = some r) :
    Calls Try.prog 103 #[.agg #[.int .i64 a0_0, .int .i64 a0_1, .int .i64 a0_2]] w fun e w' => ∃ v0_ : Value, e = .returned (v0_) ∧ Kd.R (Kd.int .i64) 3 w' w.heap.size (fun _ => True) v0_ r ∧ Below w.heap.size w w' := by
  have hu109 := Try.underlying109
  have HB := Aside0.mk (Below.refl w.heap.size w)
  have H : (if a0_0 = 0 then (some ([] : List Int)) else (if a0_0 = 2 then (some (([a0_1] : List Int))) else (some (([a0_1, a0_2] : List Int))))) = some r := h
  clear h
  by_cases c2 : a0_0 = 0
  · rw [if_pos c2] at H
    have c2b0 : (a0_0 == 0) = true := beq_iff_eq.mpr c2
    have c2b1 : (a0_0 != 0) = false := bne_eq_false_iff_eq.mpr c2
    clear c2
    obtain rfl := Option.some.inj H
    go_enter Try.func103, Try.ntmps103
    go_wp2_with (first | ((with_reducible refine gate_dst (N := 1) rfl ?_); refine box_event ?hg (N := 1) ?hd (cs := #[.int .i64 a0_0, .int .i64 a0_1, .int .i64 a0_2]) (t := 109) ?hr ?_; (case hd => rfl); (case hg => rfl); (case hr => first | (go_simp; done) | (go_simp; rfl)); intro gb280 hg w3 hbox hb; have n0_ := Aside0.mk (below_step (by repeat (first | (with_reducible first | exact HB.out | apply below_alloc | apply pw_below_drewN | apply below_drew1) | exact HB.out)) hb); have n1_ := Aside0.mk (hbox); have n2_ := Aside0.mk ((by rw [hg]; exact (below_size (by repeat (first | (with_reducible first | exact HB.out | apply below_alloc | apply pw_below_drewN | apply below_drew1) | exact HB.out))) : w.heap.size ≤ gb280)); have n3_ := Aside0.mk ((by rw [hg]; exact (below_size (by repeat (first | (with_reducible first | exact HB.out | apply below_alloc | apply pw_below_drewN | apply below_drew1) | exact HB.out))) : w.heap.size ≤ gb280)); clear HB; have HB := n0_; have BK280 := n1_; have GW280 := n2_; have GE280 := n3_; clear n0_ n1_ n2_ n3_; clear hb hbox hg; have hcz4_0 : w3.cell? ⟨gb280, 0, none⟩ = some (.int .i64 a0_0) := (blk_cell BK280.out 0).trans rfl; have hcz4_1 : w3.cell? ⟨gb280, 1, none⟩ = some (.int .i64 a0_1) := (blk_cell BK280.out 1).trans rfl; have hcz4_2 : w3.cell? ⟨gb280, 2, none⟩ = some (.int .i64 a0_2) := (blk_cell BK280.out 2).trans rfl; have hfz4_0 := blk_frozen BK280.out 0; have hfz4_1 := blk_frozen BK280.out 1; have hfz4_2 := blk_frozen BK280.out 2))
    go_ret
    exact ⟨_, by first | rfl | (simp [errW_none, errW_some] <;> rfl) | (simp [*, errW_none, errW_some] <;> rfl), by first | exact Kd.R_nil _ _ _ _ _ | exact Kd.N_nil _ _ _ _ _ | exact Kd.V_nil _ _ _ _ _ | exact Kd.Q_nil _ _ _ _ _ | exact Kd.S_nil _ _ _ _ _, by repeat (first | (with_reducible first | exact HB.out | apply below_alloc | apply pw_below_drewN | apply below_drew1 | refine below_set ?_ GE280.out) | exact HB.out)⟩
  · rw [if_neg c2] at H
    have c2b0 : (a0_0 == 0) = false := beq_eq_false_iff_ne.mpr c2
    have c2b1 : (a0_0 != 0) = true := bne_iff_ne.mpr c2
    by_cases c5 : a0_0 = 2
    · rw [if_pos c5] at H
      have c5b0 : (a0_0 == 2) = true := beq_iff_eq.mpr c5
      have c5b1 : (a0_0 != 2) = false := bne_eq_false_iff_eq.mpr c5
      clear c5
      obtain ⟨y281, hy281⟩ : ∃ y_ : List Int, y_ = (([a0_1] : List Int)) := ⟨_, rfl⟩
      replace H : (some y281) = some r := by first | (rw [hy281]; with_reducible exact H) | (have H2_ := (Option.bind_some _ _).symm.trans H; rw [hy281]; with_reducible exact H2_) | (have H2_ := (Option.bind_some _ _).symm.trans H; with_reducible exact H2_) | with_reducible exact H | (rw [hy281]; exact H) | exact H
      have Ny281 := Aside0.mk hy281
      clear hy281
      obtain rfl := Option.some.inj H
      go_enter Try.func103, Try.ntmps103
      go_wp2_with (first | ((with_reducible refine gate_dst (N := 1) rfl ?_); refine box_event ?hg (N := 1) ?hd (cs := #[.int .i64 a0_0, .int .i64 a0_1, .int .i64 a0_2]) (t := 109) ?hr ?_; (case hd => rfl); (case hg => rfl); (case hr => first | (go_simp; done) | (go_simp; rfl)); intro gb280 hg w6 hbox hb; have n0_ := Aside0.mk (below_step (by repeat (first | (with_reducible first | exact HB.out | apply below_alloc | apply pw_below_drewN | apply below_drew1) | exact HB.out)) hb); have n1_ := Aside0.mk (hbox); have n2_ := Aside0.mk ((by rw [hg]; exact (below_size (by repeat (first | (with_reducible first | exact HB.out | apply below_alloc | apply pw_below_drewN | apply below_drew1) | exact HB.out))) : w.heap.size ≤ gb280)); have n3_ := Aside0.mk ((by rw [hg]; exact (below_size (by repeat (first | (with_reducible first | exact HB.out | apply below_alloc | apply pw_below_drewN | apply below_drew1) | exact HB.out))) : w.heap.size ≤ gb280)); clear HB; have HB := n0_; have BK280 := n1_; have GW280 := n2_; have GE280 := n3_; clear n0_ n1_ n2_ n3_; clear hb hbox hg; have hcz7_0 : w6.cell? ⟨gb280, 0, none⟩ = some (.int .i64 a0_0) := (blk_cell BK280.out 0).trans rfl; have hcz7_1 : w6.cell? ⟨gb280, 1, none⟩ = some (.int .i64 a0_1) := (blk_cell BK280.out 1).trans rfl; have hcz7_2 : w6.cell? ⟨gb280, 2, none⟩ = some (.int .i64 a0_2) := (blk_cell BK280.out 2).trans rfl; have hfz7_0 := blk_frozen BK280.out 0; have hfz7_1 := blk_frozen BK280.out 1; have hfz7_2 := blk_frozen BK280.out 2) | ((with_reducible refine gate_dst (N := 11) rfl ?_); refine Kd.R_lit (Kd.int .i64) _ 3 ?hg (N := 11) ?hd (xs := ([a0_1] : List Int)) (inner := [.int .i64 a0_1]) (ok := fun _ => True) (okp := fun _ => True) ?hr ?hp (fun _ hk => hk) trivial (Below.refl _ _) (Nat.le_refl _) (by simp) ?_; (case hd => rfl); (case hg => rfl); (case hr => first | (go_simp; done) | (go_simp; rfl)); (case hp => exact (Reps.one (show Kd.M (Kd.int .i64) _ _ _ a0_1 [.int .i64 a0_1] from rfl) (Reps.none _ _))); intro v282 w8 ho9 hb hg_ hnew_; clear hg_ hnew_; (first | rw [← Ny281.out] at ho9 | (simp only [Int.reduceToNat] at ho9; rw [← Ny281.out] at ho9)); have n0_ := Aside0.mk (Kd.R_lower ho9 (below_size (by repeat (first | (with_reducible first | exact HB.out | apply below_alloc | apply pw_below_drewN | apply below_drew1 | refine below_set ?_ GE280.out) | exact HB.out)))); have n1_ := Aside0.mk (blk_below (g := gb280) (o := .cells #[.int .i64 a0_0, .int .i64 a0_1, .int .i64 a0_2] 109 (0, 0)) (by (with_reducible repeat (first | refine blk_drewN ?_ _ | refine blk_drew ?_ | refine blk_alloc ?_ _)); exact BK280.out) hb); have n2_ := Aside0.mk (below_step (by repeat (first | (with_reducible first | exact HB.out | apply below_alloc | apply pw_below_drewN | apply below_drew1 | refine below_set ?_ GE280.out) | exact HB.out)) hb); clear BK280; clear HB; have HO283 := n0_; have BK280 := n1_; have HB := n2_; clear n0_ n1_ n2_; clear hb ho9))
      go_ret
      exact ⟨_, by first | rfl | (simp [errW_none, errW_some] <;> rfl) | (simp [*, errW_none, errW_some] <;> rfl), by (with_reducible repeat (first | apply Kd.R_alloc | apply Kd.R_drewN | apply Kd.R_drew)); exact HO283.out, by repeat (first | (with_reducible first | exact HB.out | apply below_alloc | apply pw_below_drewN | apply below_drew1 | refine below_set ?_ GE280.out) | exact HB.out)⟩
    · rw [if_neg c5] at H
      have c5b0 : (a0_0 == 2) = false := beq_eq_false_iff_ne.mpr c5
      have c5b1 : (a0_0 != 2) = true := bne_iff_ne.mpr c5
      obtain ⟨y284, hy284⟩ : ∃ y_ : List Int, y_ = (([a0_1, a0_2] : List Int)) := ⟨_, rfl⟩
      replace H : (some y284) = some r := by first | (rw [hy284]; with_reducible exact H) | (have H2_ := (Option.bind_some _ _).symm.trans H; rw [hy284]; with_reducible exact H2_) | (have H2_ := (Option.bind_some _ _).symm.trans H; with_reducible exact H2_) | with_reducible exact H | (rw [hy284]; exact H) | exact H
      have Ny284 := Aside0.mk hy284
      clear hy284
      obtain rfl := Option.some.inj H
      go_enter Try.func103, Try.ntmps103
      go_wp2_with (first | ((with_reducible refine gate_dst (N := 1) rfl ?_); refine box_event ?hg (N := 1) ?hd (cs := #[.int .i64 a0_0, .int .i64 a0_1, .int .i64 a0_2]) (t := 109) ?hr ?_; (case hd => rfl); (case hg => rfl); (case hr => first | (go_simp; done) | (go_simp; rfl)); intro gb280 hg w10 hbox hb; have n0_ := Aside0.mk (below_step (by repeat (first | (with_reducible first | exact HB.out | apply below_alloc | apply pw_below_drewN | apply below_drew1) | exact HB.out)) hb); have n1_ := Aside0.mk (hbox); have n2_ := Aside0.mk ((by rw [hg]; exact (below_size (by repeat (first | (with_reducible first | exact HB.out | apply below_alloc | apply pw_below_drewN | apply below_drew1) | exact HB.out))) : w.heap.size ≤ gb280)); have n3_ := Aside0.mk ((by rw [hg]; exact (below_size (by repeat (first | (with_reducible first | exact HB.out | apply below_alloc | apply pw_below_drewN | apply below_drew1) | exact HB.out))) : w.heap.size ≤ gb280)); clear HB; have HB := n0_; have BK280 := n1_; have GW280 := n2_; have GE280 := n3_; clear n0_ n1_ n2_ n3_; clear hb hbox hg; have hcz11_0 : w10.cell? ⟨gb280, 0, none⟩ = some (.int .i64 a0_0) := (blk_cell BK280.out 0).trans rfl; have hcz11_1 : w10.cell? ⟨gb280, 1, none⟩ = some (.int .i64 a0_1) := (blk_cell BK280.out 1).trans rfl; have hcz11_2 : w10.cell? ⟨gb280, 2, none⟩ = some (.int .i64 a0_2) := (blk_cell BK280.out 2).trans rfl; have hfz11_0 := blk_frozen BK280.out 0; have hfz11_1 := blk_frozen BK280.out 1; have hfz11_2 := blk_frozen BK280.out 2) | ((with_reducible refine gate_dst (N := 16) rfl ?_); refine Kd.R_lit (Kd.int .i64) _ 3 ?hg (N := 16) ?hd (xs := ([a0_1, a0_2] : List Int)) (inner := [.int .i64 a0_1, .int .i64 a0_2]) (ok := fun _ => True) (okp := fun _ => True) ?hr ?hp (fun _ hk => hk) trivial (Below.refl _ _) (Nat.le_refl _) (by simp) ?_; (case hd => rfl); (case hg => rfl); (case hr => first | (go_simp; done) | (go_simp; rfl)); (case hp => exact (Reps.one (show Kd.M (Kd.int .i64) _ _ _ a0_1 [.int .i64 a0_1] from rfl) (Reps.one (show Kd.M (Kd.int .i64) _ _ _ a0_2 [.int .i64 a0_2] from rfl) (Reps.none _ _)))); intro v285 w12 ho13 hb hg_ hnew_; clear hg_ hnew_; (first | rw [← Ny284.out] at ho13 | (simp only [Int.reduceToNat] at ho13; rw [← Ny284.out] at ho13)); have n0_ := Aside0.mk (Kd.R_lower ho13 (below_size (by repeat (first | (with_reducible first | exact HB.out | apply below_alloc | apply pw_below_drewN | apply below_drew1 | refine below_set ?_ GE280.out) | exact HB.out)))); have n1_ := Aside0.mk (blk_below (g := gb280) (o := .cells #[.int .i64 a0_0, .int .i64 a0_1, .int .i64 a0_2] 109 (0, 0)) (by (with_reducible repeat (first | refine blk_drewN ?_ _ | refine blk_drew ?_ | refine blk_alloc ?_ _)); exact BK280.out) hb); have n2_ := Aside0.mk (below_step (by repeat (first | (with_reducible first | exact HB.out | apply below_alloc | apply pw_below_drewN | apply below_drew1 | refine below_set ?_ GE280.out) | exact HB.out)) hb); clear BK280; clear HB; have HO286 := n0_; have BK280 := n1_; have HB := n2_; clear n0_ n1_ n2_; clear hb ho13))
      go_ret
      exact ⟨_, by first | rfl | (simp [errW_none, errW_some] <;> rfl) | (simp [*, errW_none, errW_some] <;> rfl), by (with_reducible repeat (first | apply Kd.R_alloc | apply Kd.R_drewN | apply Kd.R_drew)); exact HO286.out, by repeat (first | (with_reducible first | exact HB.out | apply below_alloc | apply pw_below_drewN | apply below_drew1 | refine below_set ?_ GE280.out) | exact HB.out)⟩

end Go.Proofs.Ytlmoemahamneoaa.PFnGiantStepsCount
