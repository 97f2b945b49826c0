-- Written by gprint.py, a program of this session, out of the translation (a changed print).
import Derived.Test.YtlmoemahamneoaaPFnSchemesAgreex0
import Derived.Test.YtlmoemahamneoaaPFnSchemesAgreex2
import Derived.Test.YtlmoemahamneoaaPFnSchemesAgreex3
import Derived.Test.YtlmoemahamneoaaPFnSchemesAgreex4
namespace Go.Proofs.Ytlmoemahamneoaa.PFnSchemesAgree
open Go.RowKit Go.Proofs.YtlmoemahamneoaaW.PrintWords Go.Proofs.YtlmoemahamneoaaW.PrintLast Go.Proofs.YtlmoemahamneoaaW.PrintMore
open Go.Proofs.YtlmoemahamneoaaW.PrintWords.Aside0 renaming mk → zz
open Go.Proofs.YtlmoemahamneoaaW.PrintWords renaming pw_below_drewN → zq, below_alloc → zj, blk_alloc → zw, blk_drewN → zx, blk_cell → zk, blk_frozen → zv, blk_put → qz
open List renaming setIfInBounds_toArray → qq, set_cons_zero → qx, set_cons_succ → qk, map_toArray → qv, length_drop → jz, length_take → jq
open Go.World renaming block_lt_of_cell? → qj
open Go.Proofs.YtlmoemahamneoaaW.PrintWords.Kd renaming C_alloc → qw, R_mono → jj, R_bound → jw, R_slice → jx
open Go.Proofs.YtlmoemahamneoaaW.PrintWords.LeO renaming bind → jk, refl → jv
open Go.Proofs.YtlmoemahamneoaaW.PrintLast renaming any_of → yz, take_ofW → yq, one_of → yj, norm_ → yw, i64_w → yx, i32_w → yk
attribute [local go_sem] max2_int min2_int max_two min_two max_three min_three max_four min_four
set_option linter.unusedVariables false
set_option linter.unusedSimpArgs false
def hcStep (s : List S109 × Int) (n : Int) : List S109 × Int := (s.1 ++ [⟨3, s.2, 0⟩] ++ [⟨0, n, 0⟩] ++ [⟨1, (s.1.length : Int) + 1, (s.1.length : Int) + 2⟩], (s.1.length : Int) + 3)
def hcP (x0 : Int) (pre : List (Int × Int)) : List S109 × Int := pre.foldl (fun s p => hcStep s p.2) ([⟨0, x0, 0⟩], 1)
def hcAll (l : List Int) : List S109 × Int := (l.take (l.length - 1)).reverse.foldl hcStep ([⟨0, rd l ((l.length : Int) - 1), 0⟩], 1)
theorem hcP_snoc (x0 : Int) (pre : List (Int × Int)) (x : Int × Int) : hcP x0 (pre ++ [x]) = hcStep (hcP x0 pre) x.2 := by simp [hcP]
theorem hcStep_len (s : List S109 × Int) (n : Int) : (hcStep s n).1.length = s.1.length + 3 := by simp [hcStep]
theorem hcP_len (x0 : Int) (pre : List (Int × Int)) : (hcP x0 pre).1.length = 1 + 3 * pre.length := by
 have key : ∀ (pre : List (Int × Int)) (s : List S109 × Int), (pre.foldl (fun s p => hcStep s p.2) s).1.length = s.1.length + 3 * pre.length := by
  intro pre
  induction pre with
  | nil => intro s; simp
  | cons x pre ih =>
   intro s
   rw [List.foldl_cons, ih, hcStep_len, List.length_cons]
   omega
 exact key pre _
theorem hc_upto (zs : List Int) : ∀ k, k ≤ zs.length → (YtlmoemahamneoaaBack.upto (YtlmoemahamneoaaBack.pairAt zs) k).map Prod.snd = (zs.drop (zs.length - k)).reverse := by
 intro k
 induction k with
 | zero => intro _; simp [YtlmoemahamneoaaBack.upto]
 | succ k ih =>
  intro hk
  rw [YtlmoemahamneoaaBack.upto_succ, List.map_append, ih (by omega)]
  have e : zs.length - k = (zs.length - (k + 1)) + 1 := by omega
  have hlt : zs.length - (k + 1) < zs.length := by omega
  rw [List.drop_eq_getElem_cons hlt, ← e, List.reverse_cons]
  congr 1
  simp only [List.map_cons, List.map_nil, YtlmoemahamneoaaBack.pairAt]
  rw [show zs.length - 1 - k = zs.length - (k + 1) by omega, List.getElem?_eq_getElem hlt]; rfl
theorem hcP_all (l : List Int) : hcP (rd l ((l.length : Int) - 1)) (YtlmoemahamneoaaBack.pairs (l.take (l.length - 1))) = hcAll l := by
 have h := hc_upto (l.take (l.length - 1)) (l.take (l.length - 1)).length (Nat.le_refl _)
 rw [Nat.sub_self, List.drop_zero] at h
 unfold hcP hcAll
 rw [← h]
 unfold YtlmoemahamneoaaBack.pairs
 rw [List.foldl_map]
section
set_option maxRecDepth 100000
set_option maxHeartbeats 1000000 in
theorem put_ko (base B : Nat) (os : List S109) (w0 W : World) (kind a b : Int) (h : WrAt base B os w0 W) (hl : os.length ≤ 100000) :
  Calls Try.prog 100 #[.pointer (some ⟨B, 0, none⟩), .int .i64 kind, .int .i64 a, .int .i64 b] W fun e W' => e = .returned (.int .i64 ((os.length + 1 : Nat) : Int)) ∧ WrAt base B (os ++ [⟨kind, a, b⟩]) w0 W' ∧ WrKeep B W W' ∧ KeepsOthers W W' := by
 obtain ⟨u, hb, hR, hB, hge, hbw⟩ := h
 have hcl : ∀ (j : Nat) (o : Obj), u.ownBlock = some j → W.heap[j]? = some o → o.isCells = true := by
  intro j o hj ho
  obtain ⟨_, inner, hw, _⟩ := hR
  rcases hw.2 with ⟨rfl, _⟩ | ⟨g, cap, cur, rfl, _, hg, _⟩
  ·cases hj
  ·have : g = j := by simpa [Value.ownBlock] using hj
   subst this
   rw [hg] at ho
   cases ho
   rfl
 obtain ⟨A, c, e⟩ := jx hR
 subst e
 have k0 : W.cell? ⟨B, 0, none⟩ = some (.slice A os.length c) := (zk hb 0).trans rfl
 have BX := zz hb
 have HR := zz hR
 have HB := zz hB
 have HGE := zz hge
 have HW0 := zz hbw
 have HCL := zz hcl
 have hl24 : (os.length + 1) * 24 ≤ 140737488355328 := by omega
 clear hb hR hB hge hl hbw hcl
 go_enter Try.func100, Try.ntmps100
 go_wp2_with (at_builtin; refine gc_hold ?_)
 unfold GcHold
 refine Kd.R_append k109 (w0 := w0) base rfl (.tmp 13) (.tmp 18) 30 109 (.agg #[(.int .i64 0), (.int .i64 0), (.int .i64 0)]) 24 rfl Try.underlying30 info109 rfl (by decide) (by decide) (.slice A os.length c) os (⟨kind, a, b⟩ : S109) [.int .i64 kind, .int .i64 a, .int .i64 b] (fun _ => True) (fun _ => False) rfl rfl ?aP (fun _ hk => hk.elim) ?aF ?aO ?aB ?aS hl24 ?_
 (case aP => exact k109_mkM _ _ _ (⟨kind, a, b⟩ : S109))
 (case aF => exact (fun _ _ => trivial))
 (case aO => exact HR.out)
 (case aB => exact HB.out)
 (case aS => exact Nat.le_trans HW0.out HB.out.size)
 intro v1 w1 ho_ hb_ hg_ _
 obtain ⟨os2, hos2⟩ : ∃ os2, os ++ [(⟨kind, a, b⟩ : S109)] = os2 := ⟨_, rfl⟩
 have HO2 := zz hos2
 rw [hos2] at ho_
 clear hos2
 obtain ⟨A1, c1, e1⟩ := jx ho_
 subst e1
 have N1 := zz ho_
 have N2 := zz hb_
 have N5 := zz (fun k cs t (ht : 109 ≠ t) (h : W.heap[k]? = some (.cells cs t (0, 0))) => blk_grown h hg_ (Kd.R_ne HR.out h ht))
 have N6 := zz (KeepsOthers.of_grownBy hg_ HCL.out)
 have N4 := zz (blk_grown BX.out hg_ (Kd.R_ne HR.out BX.out (by decide)))
 have s0 : w1.cell? ⟨B, 0, none⟩ = some (.slice A os.length c) := (zk N4.out 0).trans rfl
 have sf : w1.frozen? ⟨B, 0, none⟩ = false := zv N4.out 0
 clear ho_ hb_ hg_ k0
 go_wp2
 go_ret
 refine ⟨by rw [← HO2.out, List.length_append]; rfl, ⟨.slice A1 os2.length c1, qz N4.out 0 _ rfl, ?_, N2.out.setCell (p := ⟨B, 0, none⟩) HGE.out _, HGE.out, HW0.out⟩, fun k cs t ht hk h => blk_far (N5.out k cs t ht h) hk _, N6.out.trans (KeepsOthers.setCell _ _ _)⟩
 rw [HO2.out]
 exact jj (ok' := fun _ => True) (Kd.R_far (p := ⟨B, 0, none⟩) (Kd.R_types N1.out N4.out (by decide)) (fun _ hk => hk.2) (.slice A1 os2.length c1)) (fun _ hk => trivial)
set_option maxHeartbeats 1000000 in
theorem const_ko (base B : Nat) (os : List S109) (w0 W : World) (n : Int) (h : WrAt base B os w0 W) (hl : os.length ≤ 100000) :
  Calls Try.prog 98 #[.pointer (some ⟨B, 0, none⟩), .int .i64 n] W fun e W' => e = .returned (.int .i64 ((os.length + 1 : Nat) : Int)) ∧ WrAt base B (os ++ [⟨0, n, 0⟩]) w0 W' ∧ WrKeep B W W' ∧ KeepsOthers W W' := by
 have HP := zz (put_ko base B os w0 W 0 n 0 h hl)
 clear h hl
 go_enter Try.func98, Try.ntmps98
 go_wp2_with (go_at_call 100; refine HP.out.mono ?_; rintro e w3 ⟨rfl, hw_, hk_, ho_⟩; have HW := zz hw_; have HcK := zz hk_; have HO := zz ho_; clear hw_ hk_ ho_)
 go_ret
 exact ⟨rfl, HW.out, HcK.out, HO.out⟩
def HcJ (n0 B P T Bs : Nat) (sv : Value) (w0 : World) (os : List S109) (at_ : Int) (W : World) : Prop :=
 WrAt n0 B os W W ∧ W.heap[P]? = some (.cells #[.pointer (some ⟨B, 0, none⟩)] 103 (0, 0)) ∧ W.heap[T]? = some (.cells #[.int .i64 at_] 3 (0, 0)) ∧ W.heap[Bs]? = some (.cells #[sv] 29 (0, 0)) ∧ Below n0 w0 W ∧ n0 ≤ T
def HcK (n0 Bs : Nat) (W W' : World) : Prop := YtlmoemahamneoaaBack.KeepB n0 Bs W W' ∧ KeepsOthers W W'
theorem hk_trans {n0 Bs : Nat} {A B C : World} (h : HcK n0 Bs A B) (k : HcK n0 Bs B C) : HcK n0 Bs A C := ⟨h.1.trans k.1, h.2.trans k.2⟩
theorem keepB_of {n0 Bs : Nat} {sv : Value} {W W' : World} (h : W.heap[Bs]? = some (.cells #[sv] 29 (0, 0))) (h2 : W'.heap[Bs]? = some (.cells #[sv] 29 (0, 0))) (hb : Below n0 W W') : YtlmoemahamneoaaBack.KeepB n0 Bs W W' := ⟨hb, fun cs t fr e => by have e' := e.symm.trans h; cases e'; exact h2⟩
theorem hj_step {n0 B P T Bs : Nat} {sv : Value} {w0 W W' : World} {os os2 : List S109} {at_ : Int} (h : HcJ n0 B P T Bs sv w0 os at_ W) (hw : WrAt n0 B os2 W W') (hk : WrKeep B W W') (ho : KeepsOthers W W') : HcJ n0 B P T Bs sv w0 os2 at_ W' ∧ HcK n0 Bs W W' := by
 obtain ⟨h1, hP, hT, hS, hB, hge⟩ := h
 obtain ⟨u, hbx, hR, hb, hgB, hbw⟩ := hw
 have hBW := h1.choose_spec.1
 have hS2 := hk Bs _ _ (by decide) (blk_ne hS hBW (by decide)) hS
 exact ⟨⟨⟨u, hbx, hR, Below.refl _ _, hgB, Nat.le_trans hbw hb.size⟩, hk P _ _ (by decide) (blk_ne hP hBW (by decide)) hP, hk T _ _ (by decide) (blk_ne hT hBW (by decide)) hT, hS2, hB.trans hb, hge⟩, keepB_of hS hS2 hb, ho⟩
theorem hj_put {n0 B P T Bs : Nat} {sv : Value} {w0 W : World} {os : List S109} {at_ : Int} (m : Nat) (hm : os.length = m) (hl : m ≤ 100000) (kind a b : Int) (h : HcJ n0 B P T Bs sv w0 os at_ W) :
  Calls Try.prog 100 #[.pointer (some ⟨B, 0, none⟩), .int .i64 kind, .int .i64 a, .int .i64 b] W fun e W' => e = .returned (.int .i64 ((m : Int) + 1)) ∧ HcJ n0 B P T Bs sv w0 (os ++ [⟨kind, a, b⟩]) at_ W' ∧ HcK n0 Bs W W' := by
 subst hm
 refine (put_ko n0 B os W W kind a b h.1 hl).mono ?_
 rintro e W' ⟨rfl, hw, hk, ho⟩
 exact ⟨rfl, hj_step h hw hk ho⟩
theorem hj_const {n0 B P T Bs : Nat} {sv : Value} {w0 W : World} {os : List S109} {at_ : Int} (m : Nat) (hm : os.length = m) (hl : m ≤ 100000) (n : Int) (h : HcJ n0 B P T Bs sv w0 os at_ W) :
  Calls Try.prog 98 #[.pointer (some ⟨B, 0, none⟩), .int .i64 n] W fun e W' => e = .returned (.int .i64 ((m : Int) + 1)) ∧ HcJ n0 B P T Bs sv w0 (os ++ [⟨0, n, 0⟩]) at_ W' ∧ HcK n0 Bs W W' := by
 subst hm
 refine (const_ko n0 B os W W n h.1 hl).mono ?_
 rintro e W' ⟨rfl, hw, hk, ho⟩
 exact ⟨rfl, hj_step h hw hk ho⟩
theorem hj_set {n0 B P T Bs : Nat} {sv : Value} {w0 W : World} {os : List S109} {at_ : Int} (v : Int) (h : HcJ n0 B P T Bs sv w0 os at_ W) : HcJ n0 B P T Bs sv w0 os v (W.setCell ⟨T, 0, none⟩ (.int .i64 v)) ∧ HcK n0 Bs W (W.setCell ⟨T, 0, none⟩ (.int .i64 v)) := by
 obtain ⟨⟨u, hbx, hR, _, hgB, hbw⟩, hP, hT, hS, hB, hge⟩ := h
 have hS2 := blk_far hS (p := ⟨T, 0, none⟩) (blk_ne hS hT (by decide)) (.int .i64 v)
 have hb : Below n0 W (W.setCell ⟨T, 0, none⟩ (.int .i64 v)) := (Below.refl n0 W).setCell (p := ⟨T, 0, none⟩) hge _
 exact ⟨⟨⟨u, blk_far hbx (p := ⟨T, 0, none⟩) (blk_ne hbx hT (by decide)) _, jj (ok' := fun _ => True) (Kd.R_far (p := ⟨T, 0, none⟩) (Kd.R_types hR hT (by decide)) (fun _ hk => hk.2) (.int .i64 v)) (fun _ hk => trivial), Below.refl _ _, hgB, Nat.le_trans hbw hb.size⟩, blk_far hP (p := ⟨T, 0, none⟩) (blk_ne hP hT (by decide)) _, qz hT 0 _ rfl, hS2, hB.trans hb, hge⟩, keepB_of hS hS2 hb, KeepsOthers.setCell _ _ _⟩
theorem hj_same {n0 B P T Bs : Nat} {sv : Value} {w0 W W' : World} {os : List S109} {at_ : Int} (h : HcJ n0 B P T Bs sv w0 os at_ W) (hs : ∀ (k : Nat) cs t, W.heap[k]? = some (.cells cs t (0, 0)) → W'.heap[k]? = some (.cells cs t (0, 0))) (hsz : W.heap.size ≤ W'.heap.size) (hb : Below n0 w0 W') : HcJ n0 B P T Bs sv w0 os at_ W' := by
 obtain ⟨⟨u, hbx, hR, _, hgB, hbw⟩, hP, hT, hS, hB, hge⟩ := h
 refine ⟨⟨u, hs _ _ _ hbx, jj (Kd.R_step (jw hR) (fun k hk1 _ => ?_)) (fun _ _ => trivial), Below.refl _ _, hgB, Nat.le_trans hbw hsz⟩, hs _ _ _ hP, hs _ _ _ hT, hs _ _ _ hS, hb, hge⟩
 obtain ⟨_, _, _, q, hq, cells, hc⟩ := hk1
 rw [hs _ _ _ hc, hc]
theorem hj_own {n0 B P T Bs Bd : Nat} {sv : Value} {w0 : World} {β : Type} (f : β → List S109) (g : β → Int) (hn : n0 ≤ w0.heap.size) (hBd : n0 ≤ Bd) : OwnFrom Bd (fun (s : β) W => HcJ n0 B P T Bs sv w0 (f s) (g s) W) := fun s X Y row hs hg hr => by
 refine hj_same hs (fun k cs t e => (hg.block k (blk_lt e) (fun he => ?_)).trans e) hg.size (hs.2.2.2.2.1.grown hg (Nat.le_trans hn hs.2.2.2.2.1.size) (fun k e => Nat.le_trans hBd (hr k e).1))
 obtain ⟨_, o, ho, hc⟩ := hr k he.symm
 rw [e] at ho
 cases ho
 cases hc
theorem hj_drew {n0 B P T Bs : Nat} {sv : Value} {w0 W : World} {os : List S109} {at_ : Int} (h : HcJ n0 B P T Bs sv w0 os at_ W) : HcJ n0 B P T Bs sv w0 os at_ W.drew ∧ HcK n0 Bs W W.drew := by
 have hb := below_drew (Below.refl n0 W)
 exact ⟨hj_same h (fun _ _ _ e => e) (Nat.le_refl _) (below_drew h.2.2.2.2.1), keepB_of h.2.2.2.1 h.2.2.2.1 hb, KeepsOthers.drew W⟩
def hcT4 : Bool × List (List Nat × List Nat) := (true, [([], []), ([], []), ([], []), ([2], [2]), ([3], [3]), ([1, 4], [1, 4]), ([5], [5]), ([0, 6], [0, 6]), ([], []), ([8, 7, 7, 0, 1, 2, 3, 4, 5, 6, 7, 8], [7, 8])])
def hcT8 : Bool × List (List Nat × List Nat) := (true, [([], []), ([], []), ([], []), ([], []), ([2, 3], [2, 3]), ([0, 1, 4, 4], [0, 1, 4]), ([5, 5, 0, 1, 2, 3, 4, 5], [5])])
theorem hc_tab4 : rtab .any (opsOf Try.f22 4) = hcT4 := by kernel_rfl
theorem hc_tab8 : rtab .any (opsOf Try.f22 8) = hcT8 := by kernel_rfl
theorem hc_bits4 : waitsOk hcT4.2 [0, 0, 0, 4, 12, 30, 62, 127, 0, 511] = true := by kernel_rfl
theorem hc_bits8 : waitsOk hcT8.2 [0, 0, 0, 0, 12, 31, 63] = true := by kernel_rfl
def HcA (n0 B P : Nat) (w0 : World) (os : List S109) (W : World) : Prop := WrAt n0 B os W W ∧ W.heap[P]? = some (.cells #[.pointer (some ⟨B, 0, none⟩)] 103 (0, 0)) ∧ Below n0 w0 W
theorem hcA_alloc {n0 B P : Nat} {w0 W : World} {os : List S109} (h : HcA n0 B P w0 os W) (o : Obj) : HcA n0 B P w0 os (W.alloc o) := by
 obtain ⟨⟨u, hbx, hR, _, hgB, hbw⟩, hP, hB⟩ := h
 exact ⟨⟨u, zw hbx o, Kd.R_alloc hR o, Below.refl _ _, hgB, Nat.le_trans hbw (by rw [World.size_alloc]; omega)⟩, zw hP o, hB.alloc hbw o⟩
theorem hcA_drew {n0 B P : Nat} {w0 W : World} {os : List S109} (h : HcA n0 B P w0 os W) : HcA n0 B P w0 os W.drew := by
 obtain ⟨⟨u, hbx, hR, _, hgB, hbw⟩, hP, hB⟩ := h
 exact ⟨⟨u, blk_drew hbx, Kd.R_drew hR, Below.refl _ _, hgB, hbw⟩, blk_drew hP, below_drew hB⟩
theorem hcA_const {n0 B P : Nat} {w0 W : World} (x : Int) (h : HcA n0 B P w0 [] W) :
  Calls Try.prog 98 #[.pointer (some ⟨B, 0, none⟩), .int .i64 x] W fun e W' => e = .returned (.int .i64 1) ∧ HcA n0 B P w0 [⟨0, x, 0⟩] W' ∧ WrKeep B W W' ∧ Below n0 W W' := by
 obtain ⟨h1, hP, hB⟩ := h
 have hBW := h1.choose_spec.1
 refine (const_ko n0 B [] W W x h1 (by simp)).mono ?_
 rintro e W' ⟨rfl, ⟨u, hbx, hR, hb, hgB, hbw⟩, hk, _⟩
 exact ⟨rfl, ⟨⟨u, hbx, hR, Below.refl _ _, hgB, Nat.le_trans hbw hb.size⟩, hk P _ _ (by decide) (blk_ne hP hBW (by decide)) hP, hB.trans hb⟩, hk, hb⟩
theorem hcA_set {n0 B P T : Nat} {w0 W : World} {os : List S109} {x : Int} (v : Int) (h : HcA n0 B P w0 os W) (hT : W.heap[T]? = some (.cells #[.int .i64 x] 3 (0, 0))) (hge : n0 ≤ T) : HcA n0 B P w0 os (W.setCell ⟨T, 0, none⟩ (.int .i64 v)) ∧ (W.setCell ⟨T, 0, none⟩ (.int .i64 v)).heap[T]? = some (.cells #[.int .i64 v] 3 (0, 0)) := by
 obtain ⟨⟨u, hbx, hR, _, hgB, hbw⟩, hP, hB⟩ := h
 have hb : Below n0 W (W.setCell ⟨T, 0, none⟩ (.int .i64 v)) := (Below.refl n0 W).setCell (p := ⟨T, 0, none⟩) hge _
 exact ⟨⟨⟨u, blk_far hbx (p := ⟨T, 0, none⟩) (blk_ne hbx hT (by decide)) _, jj (ok' := fun _ => True) (Kd.R_far (p := ⟨T, 0, none⟩) (Kd.R_types hR hT (by decide)) (fun _ hk => hk.2) (.int .i64 v)) (fun _ hk => trivial), Below.refl _ _, hgB, Nat.le_trans hbw hb.size⟩, blk_far hP (p := ⟨T, 0, none⟩) (blk_ne hP hT (by decide)) _, hB.trans hb⟩, qz hT 0 _ rfl⟩
theorem hj_of {n0 B P T : Nat} {w0 W : World} {os : List S109} {at_ : Int} (sv : Value) (h : HcA n0 B P w0 os W) (hT : W.heap[T]? = some (.cells #[.int .i64 at_] 3 (0, 0))) (hge : n0 ≤ T) : HcJ n0 B P T W.heap.size sv w0 os at_ (W.alloc (.cells #[sv] 29)) := by
 obtain ⟨h1, h2, h3⟩ := hcA_alloc h (.cells #[sv] 29)
 exact ⟨h1, h2, zw hT _, blk_new W _, h3, hge⟩
set_option maxHeartbeats 1000000 in
theorem code_inE (E k : Nat) (B : Nat) (os : List S109) (out : Int) (r1 : List S109) (r2 : Int) (r3 : Bool) (X : Nat) (xs : Array Value) (w0 W : World) (h : WrAt w0.heap.size B os w0 W) (hx : W.heap[X]? = some (.cells xs 32 (0, 0))) (hE : W.heap[E]? = some (.deferred (some []))) (hf : impl_toldCode.f k os out = some (r1, r2, r3)) :
  Calls Try.prog 97 #[.pointer (some ⟨B, 0, none⟩), .int .i64 out] W fun e W' => ∃ v, e = .returned (.tuple #[.agg #[v, .int .i64 r2], .bool r3]) ∧ Kd.R k109 109 W' w0.heap.size (fun _ => True) v r1 ∧ Below w0.heap.size w0 W' ∧ W'.heap[X]? = some (.cells xs 32 (0, 0)) ∧ W'.heap[E]? = some (.deferred (some [])) := by
 obtain ⟨u, hb, hR, hB, hge, hbw⟩ := h
 obtain ⟨A, c, e⟩ := jx hR
 subst e
 have k0 : (W.alloc (.cells #[.slice none 0 0, .int .i64 0] 32)).cell? ⟨B, 0, none⟩ = some (.slice A os.length c) := (zk (zw hb _) 0).trans rfl
 have bo := blk_new W (.cells #[.slice none 0 0, .int .i64 0] 32)
 have hR2 : Kd.R k109 109 (W.alloc (.cells #[.slice none 0 0, .int .i64 0] 32)) w0.heap.size (fun k_ => k_ < W.heap.size ∧ k_ ≠ X ∧ k_ ≠ E) (.slice A os.length c) os := Kd.R_alloc (jj (jw (Kd.R_types hR hx (by decide))) (fun k_ hk_ => ⟨hk_.2.2.1, hk_.1.2, fun e => by obtain ⟨_, _, cells, hc⟩ := hk_.2.2.2; rw [e, hE] at hc; cases hc⟩)) _
 have HT := Go.Lib.hid (impl_toldCode.calls k (fun k_ => k_ < W.heap.size ∧ k_ ≠ X ∧ k_ ≠ E) (.slice A os.length c) os out r1 r2 r3 w0 _ (zj hB (.cells #[.slice none 0 0, .int .i64 0] 32)) hR2 hf)
 have HBO := zz bo
 have HXL := zz (blk_lt hx)
 have HX0 := zz (zw hx (.cells #[.slice none 0 0, .int .i64 0] 32))
 have HGE := zz hB.size
 have HEL := zz (blk_lt hE)
 have HE0 := zz (zw hE (.cells #[.slice none 0 0, .int .i64 0] 32))
 clear hb hR hR2 hge hbw bo hB hf hx hE
 go_enter Try.func97, Try.ntmps97
 go_wp2_with (go_at_call 187; refine HT.out.mono ?_; rintro e w1 ⟨v0, rfl, hR1, hB1, hK1⟩; obtain ⟨A1, c1, e1⟩ := jx hR1; subst e1; have HR1 := zz hR1; have HB1 := zz hB1; have HX := zz (blk_kept HBO.out hK1 (fun h_ => Nat.lt_irrefl _ h_.1)); have HXX := zz (blk_kept HX0.out hK1 (fun h_ => h_.2.1 rfl)); have HEE := zz (blk_kept HE0.out hK1 (fun h_ => h_.2.2 rfl)); clear hR1 hB1 hK1; have s0 : w1.cell? ⟨W.heap.size, 0, none⟩ = some (.slice none 0 0) := (zk HX.out 0).trans rfl; have s1 : w1.cell? ⟨W.heap.size, 1, none⟩ = some (.int .i64 0) := (zk HX.out 1).trans rfl; have f0 : w1.frozen? ⟨W.heap.size, 0, none⟩ = false := zv HX.out 0; have f1 : w1.frozen? ⟨W.heap.size, 1, none⟩ = false := zv HX.out 1)
 refine bodyPost_ret (results_ct rfl _ _ W.heap.size 32 #[.slice A1 r1.length c1, .int .i64 r2] (0, 0) _ rfl (qz (qz HX.out 0 _ rfl) 1 _ rfl) Try.underlying32 rfl (by kernel_rfl)) rfl ?_
 refine ⟨_, rfl, ?_, Below.setCell (Below.setCell HB1.out (p := ⟨W.heap.size, 0, none⟩) HGE.out _) (p := ⟨W.heap.size, 1, none⟩) HGE.out _, blk_far (blk_far HXX.out (p := ⟨W.heap.size, 0, none⟩) (Nat.ne_of_lt HXL.out) _) (p := ⟨W.heap.size, 1, none⟩) (Nat.ne_of_lt HXL.out) _, (Below.heap_setCell _ ⟨W.heap.size, 1, none⟩ _ E (Nat.ne_of_lt HEL.out)).trans ((Below.heap_setCell _ ⟨W.heap.size, 0, none⟩ _ E (Nat.ne_of_lt HEL.out)).trans HEE.out)⟩
 have hX1 := qz HX.out 0 (.slice A1 r1.length c1) rfl
 exact jj (ok' := fun _ => True) (Kd.R_far (p := ⟨W.heap.size, 1, none⟩) (Kd.R_types (jj (ok' := fun _ => True) (Kd.R_far (p := ⟨W.heap.size, 0, none⟩) (Kd.R_types HR1.out HX.out (by decide)) (fun _ hk => hk.2) (.slice A1 r1.length c1)) (fun _ _ => trivial)) hX1 (by decide)) (fun _ hk => hk.2) (.int .i64 r2)) (fun _ hk => trivial)
attribute [local go_sem] Oper.semAt_some in
set_option maxHeartbeats 4000000 in
theorem hc_yes (k : Nat) (b off c0 m : Nat) (l : List Int) (r1 : List S109) (r2 : Int) (r3 : Bool) (w : World) (hC : Kd.C (Kd.int .i64) w (some ⟨b, off, none⟩) l.length l) (hcc : l.length ≤ c0) (hcell : ∀ j, j < l.length → w.cell? ⟨b, off + j, none⟩ = some (.int .i64 (l.getD j 0))) (hm : l.length = m + 1) (hl2 : m ≤ 16) (hok : impl_coefsOk.f l = some true) (hf : impl_toldCode.f k (hcAll l).1 (hcAll l).2 = some (r1, r2, r3)) :
  CallsIn Fence.wide 5 Try.prog 22 #[.slice (some ⟨b, off, none⟩) l.length c0] w fun e w' => ∃ v0_ : Value, e = .returned (.tuple #[.agg #[v0_, .int .i64 r2], .bool r3]) ∧ Kd.R k109 109 w' w.heap.size (fun _ => True) v0_ r1 ∧ Below w.heap.size w w' := by
 have hb : b < w.heap.size := qj _ _ (hcell 0 (by omega))
 obtain ⟨w0, hw0⟩ : ∃ w0, w.alloc (.cells #[.slice none 0 0, .int .i64 0] 32) = w0 := ⟨_, rfl⟩
 have hs0 : w0.heap.size = w.heap.size + 1 := by rw [← hw0, World.size_alloc]
 obtain ⟨x0, hx0⟩ : ∃ x0, rd l (m : Int) = x0 := ⟨_, rfl⟩
 have hxl : rd l ((l.length : Int) - 1) = x0 := by rw [hm, show ((m + 1 : Nat) : Int) - 1 = (m : Int) by omega]; exact hx0
 have hcm : w0.cell? ⟨b, off + m, none⟩ = some (.int .i64 x0) := by
  rw [← hw0, ← hx0]
  refine (World.cell?_alloc_lt _ _ ⟨b, off + m, none⟩ hb).trans ((hcell m (by omega)).trans ?_)
  unfold rd
  rw [Int.toNat_natCast]
 have hw1 : wrap64 ((l.length : Int) - 1) = (m : Int) := by rw [hm]; unfold wrap64; omega
 have HC := zz (show Kd.C (Kd.int .i64) w0 (some ⟨b, off, none⟩) l.length l by rw [← hw0]; exact qw hC _)
 have HX0 := zz (show w0.heap[w.heap.size]? = some (.cells #[.slice none 0 0, .int .i64 0] 32 (0, 0)) by rw [← hw0]; exact blk_new w _)
 have HB0 := zz (show Below w.heap.size w w0 by rw [← hw0]; exact zj (Below.refl _ w) _)
 have HS0 := zz hs0
 have HW0 := zz hw0
 have HLC := zz hcc
 have HOK := zz hok
 have HF := zz hf
 have HXL := zz hxl
 have HM := zz (And.intro hm hl2)
 have HBL := zz (show b < w0.heap.size by omega)
 have hmlt : m < l.length := by omega
 have hlc0 : m ≤ c0 := by omega
 clear hC hcc hcell hl2 hok hf hb hw0 hs0 hx0 hxl hm
 refine callsIn_of_wp_marks (F := Fence.wide) Try.func22 rfl trivial ?_ rfl
 refine wpIn_wide.2 ?_
 simp only [Try.ntmps22, List.size_toArray, List.length_cons, List.length_nil, Nat.reduceAdd, Nat.reduceSub, Array.replicate_succ, Array.replicate_zero, List.push_toArray, List.append_toArray, List.nil_append, List.cons_append]
 go_wp2_with (go_at_call 95; rw [HW0.out]; refine (impl_coefsOk.calls _ c0 l true _ HC.out HLC.out HOK.out).mono ?_; rintro e w2 ⟨rfl, hd_⟩; obtain ⟨n2, rfl⟩ := YtlmoemahamneoaaHand.of_drawn hd_; clear hd_)
 have hw2 : IntKind.i64.wrap ((l.length : Int) - 1) = (m : Int) := (yx _).trans hw1
 have hz0 : (0 : Int) ≤ (m : Int) := by omega
 have hz1 : (m : Int) < (l.length : Int) := by omega
 have HN2 := zz (zq (Below.refl w0.heap.size w0) n2)
 have HA := zz (show HcA w0.heap.size w0.heap.size (w0.heap.size + 1) w0 [] (((w0.drewN n2).alloc (.cells #[.slice none 0 0] 107)).alloc (.cells #[.pointer (some ⟨w0.heap.size, 0, none⟩)] 103)) from by
  have h1 := wr_alloc (wr_new w0 (w0.drewN n2) HN2.out) (.cells #[.pointer (some ⟨w0.heap.size, 0, none⟩)] 103)
  obtain ⟨u, hbx, hR, hB, hgB, hbw⟩ := h1
  refine ⟨⟨u, hbx, hR, Below.refl _ _, hgB, Nat.le_trans hbw hB.size⟩, ?_, hB⟩
  have := blk_new ((w0.drewN n2).alloc (.cells #[.slice none 0 0] 107)) (.cells #[.pointer (some ⟨w0.heap.size, 0, none⟩)] 103)
  rw [World.size_alloc] at this
  exact this)
 obtain ⟨W1, hW1⟩ : ∃ W1, ((w0.drewN n2).alloc (.cells #[.slice none 0 0] 107)).alloc (.cells #[.pointer (some ⟨w0.heap.size, 0, none⟩)] 103) = W1 := ⟨_, rfl⟩
 rw [hW1] at HA ⊢
 clear hW1 HN2
 obtain ⟨n0, hn0⟩ : ∃ n0, w0.heap.size = n0 := ⟨_, rfl⟩
 have HNN := zz hn0
 have HBX := zz (show b < n0 by rw [← hn0]; exact HBL.out)
 have HCM := zz hcm
 rw [hn0] at HA ⊢
 clear hn0 hcm HBL
 have KEY := zz (fun (W : World) (os : List S109) (h : HcA n0 n0 (n0 + 1) w0 os W) => (And.intro ((zk h.2.1 0).trans rfl) ((h.2.2.cell (p := ⟨b, off + m, none⟩) HBX.out).trans HCM.out) : W.cell? ⟨n0 + 1, 0, none⟩ = some (.pointer (some ⟨n0, 0, none⟩)) ∧ W.cell? ⟨b, off + m, none⟩ = some (.int .i64 x0)))
 refine wp_region_noPanic ?_
 refine start_ (n := 10) (S := fun w' => w'.cell? ⟨n0 + 1, 0, none⟩ = some (.pointer (some ⟨n0, 0, none⟩)) ∧ w'.cell? ⟨b, off + m, none⟩ = some (.int .i64 x0)) (ds := [9]) #[false, false, false, false, false, false, false, false, false, false] (by kernel_rfl) rfl rfl (KEY.out _ _ (hcA_drew HA.out)) (fun hHeld => ?_)
 refine with_tabW hc_tab4 hc_bits4 (fun HT_ HW_ => ?_)
 have n1_ := zz (hcA_drew HA.out)
 clear HA
 have HA := n1_
 clear n1_
 generalize W1.drew = W2 at HA hHeld ⊢
 refine pure_ (i := 1) (N := some 15) (v := ?_) (a' := ?_) #[false, true, false, false, false, false, false, false, false, false] rfl rfl (yz HT_.out (by kernel_rfl)) (fun _ _ _ h => h) (Or.inl ⟨by rfl, ?_⟩) ?_ ?_
 rotate_left
 ·intro w'
  go_simp
  with_reducible rfl
 rotate_left
 ·simp only [Act.put, qq, qx, qk, yx, yk]
  rfl
 refine pure_ (i := 2) (N := some 16) (v := ?_) (a' := ?_) #[false, true, true, false, false, false, false, false, false, false] rfl rfl (yz HT_.out (by kernel_rfl)) (fun _ _ _ h => h) (Or.inl ⟨by rfl, ?_⟩) ?_ ?_
 rotate_left
 ·intro w'
  go_simp
  with_reducible rfl
 rotate_left
 ·simp only [Act.put, qq, qx, qk, yx, yk]
  rfl
 refine take_ (i := 0) (N := some 14) (v := ?_) (a' := ?_) #[true, true, true, false, false, false, false, false, false, false] rfl rfl (yq HT_.out HW_.out (by kernel_rfl)) (fun _ _ _ h => h) (Or.inl ⟨by rfl, ?_⟩) hHeld ?_ ?_
 rotate_left
 ·rintro w' ⟨s0, s1⟩
  go_simp
  with_reducible rfl
 rotate_left
 ·simp only [Act.put, qq, qx, qk, yx, yk]
  rfl
 refine pure_ (i := 3) (N := some 17) (v := ?_) (a' := ?_) #[true, true, true, true, false, false, false, false, false, false] rfl rfl (yz HT_.out (by kernel_rfl)) (fun _ _ _ h => h) (Or.inl ⟨by rfl, ?_⟩) ?_ ?_
 rotate_left
 ·intro w'
  go_simp
  with_reducible rfl
 rotate_left
 ·simp only [Act.put, qq, qx, qk, yx, yk]
  rfl
 refine pure_ (i := 4) (N := some 18) (v := ?_) (a' := ?_) #[true, true, true, true, true, false, false, false, false, false] rfl rfl (yz HT_.out (by kernel_rfl)) (fun _ _ _ h => h) (Or.inl ⟨by rfl, ?_⟩) ?_ ?_
 rotate_left
 ·intro w'
  go_simp
  with_reducible rfl
 rotate_left
 ·simp only [Act.put, qq, qx, qk, yx, yk]
  rfl
 refine pure_ (i := 5) (N := some 19) (v := ?_) (a' := ?_) #[true, true, true, true, true, true, false, false, false, false] rfl rfl (yz HT_.out (by kernel_rfl)) (fun _ _ _ h => h) (Or.inl ⟨by rfl, ?_⟩) ?_ ?_
 rotate_left
 ·intro w'
  go_simp
  with_reducible rfl
 rotate_left
 ·simp only [Act.put, qq, qx, qk, yx, yk]
  rfl
 refine take_ (i := 6) (N := some 20) (v := ?_) (a' := ?_) #[true, true, true, true, true, true, true, false, false, false] rfl rfl (yq HT_.out HW_.out (by kernel_rfl)) (fun _ _ _ h => h) (Or.inl ⟨by rfl, ?_⟩) hHeld ?_ ?_
 rotate_left
 ·rintro w' ⟨s0, s1⟩
  go_simp
  with_reducible rfl
 rotate_left
 ·simp only [Act.put, qq, qx, qk, yx, yk]
  rfl
 refine join_ (σ := Nat) 1 #[true, true, true, true, true, true, true, true, true, false] (fun s_ => [(21, .int .i64 1), (5, .pointer (some ⟨s_, 0, none⟩))]) (fun s_ w' => (HcA n0 n0 (n0 + 1) w0 [⟨0, x0, 0⟩] w' ∧ w'.heap[s_]? = some (.cells #[.int .i64 0] 3 (0, 0))) ∧ n0 ≤ s_) ?_ ?_
 rotate_left
 ·intro hCont
  refine two_ (i := 7) (j := 8) (Ni := some 21) (Nj := some 5) #[true, true, true, true, true, true, true, true, false, false] #[true, true, true, true, true, true, true, false, true, false] rfl rfl rfl rfl (two_of HT_.out (by kernel_rfl)) (by decide) (by decide) (fun K hK => ?_) (fun K hK => ?_)
  ·skip
   refine goes_ Try.func98 (by kernel_rfl) rfl #[.pointer (some ⟨n0, 0, none⟩), .int .i64 x0] (by rfl) rfl rfl (by (try simp only [qv, List.map_cons, List.map_nil]); first | done | rfl) ?_
   refine (hcA_const x0 HA.out).mono ?_
   rintro e w3 ⟨rfl, ha_, hk_, hb_⟩
   refine ⟨_, rfl, ?_⟩
   refine hK.out _ _ (KEY.out _ _ ha_) (fun hHeld => ?_)
   clear hK K
   refine yw (a' := ?_) ?_ ?_
   rotate_left
   ·show Act.put _ (some 21) _ = _
    simp only [Act.put, qq, qx, qk, yx, yk]
    rfl
   refine one_ (i := 8) (N := some 5) #[true, true, true, true, true, true, true, true, true, false] rfl rfl (yj HT_.out (by kernel_rfl)) (by decide) (fun K hK => ?_)
   refine value_ (w1 := ?_) (v := ?_) (by rfl) rfl ?_ ?_
   rotate_left 2
   ·go_simp
    constructor
    ·rfl
    ·rfl
   refine hK.out _ _ (KEY.out _ _ (hcA_alloc ha_ _)) (fun hHeld => ?_)
   clear hK K
   refine yw (a' := ?_) ?_ ?_
   rotate_left
   ·show Act.put _ (some 5) _ = _
    simp only [Act.put, qq, qx, qk, yx, yk]
    rfl
   exact yw (by simp only [putAll, Act.put, qq, qx, qk]) (hCont w3.heap.size _ ⟨⟨hcA_alloc ha_ _, blk_new w3 _⟩, ha_.1.choose_spec.2.2.2.2⟩)
  ·skip
   refine value_ (w1 := ?_) (v := ?_) (by rfl) rfl ?_ ?_
   rotate_left 2
   ·go_simp
    constructor
    ·rfl
    ·rfl
   have ha0 := hcA_alloc HA.out (.cells #[.int .i64 0] 3)
   have ht0 := blk_new W2 (.cells #[.int .i64 0] 3)
   refine hK.out _ _ (KEY.out _ _ ha0) (fun hHeld => ?_)
   clear hK K
   refine yw (a' := ?_) ?_ ?_
   rotate_left
   ·show Act.put _ (some 5) _ = _
    simp only [Act.put, qq, qx, qk, yx, yk]
    rfl
   refine one_ (i := 7) (N := some 21) #[true, true, true, true, true, true, true, true, true, false] rfl rfl (yj HT_.out (by kernel_rfl)) (by decide) (fun K hK => ?_)
   refine goes_ Try.func98 (by kernel_rfl) rfl #[.pointer (some ⟨n0, 0, none⟩), .int .i64 x0] (by rfl) rfl rfl (by (try simp only [qv, List.map_cons, List.map_nil]); first | done | rfl) ?_
   refine (hcA_const x0 ha0).mono ?_
   rintro e w3 ⟨rfl, ha_, hk_, hb_⟩
   refine ⟨_, rfl, ?_⟩
   refine hK.out _ _ (KEY.out _ _ ha_) (fun hHeld => ?_)
   clear hK K
   refine yw (a' := ?_) ?_ ?_
   rotate_left
   ·show Act.put _ (some 21) _ = _
    simp only [Act.put, qq, qx, qk, yx, yk]
    rfl
   exact yw (by simp only [putAll, Act.put, qq, qx, qk]) (hCont W2.heap.size _ ⟨⟨ha_, hk_ _ _ _ (by decide) (blk_ne ht0 ha0.1.choose_spec.1 (by decide)) ht0⟩, HA.out.1.choose_spec.2.2.2.2⟩)
 rintro T w4 ⟨⟨ha4, ht4⟩, hT⟩
 have HA4 := zz ha4
 have HT4 := zz ht4
 have HTN := zz hT
 clear ha4 ht4 hT HA hHeld
 refine yw (a' := ?_) ?_ ?_
 rotate_left
 ·simp only [putAll, Act.put, qq, qx, qk]
  rfl
 refine last_ (i := 9) (N := none) #[true, true, true, true, true, true, true, true, true, true] rfl rfl (yj HT_.out (by kernel_rfl)) (by decide) (fun K hK => ?_)
 have hs_ : w4.cell? ⟨T, 0, none⟩ = some (.int .i64 0) := (zk HT4.out 0).trans rfl
 have hfs_ := zv HT4.out 0
 refine skip_ (w1 := ?_) (by rfl) rfl ?_ ?_
 rotate_left
 ·go_simp
  rfl
 refine hK.out _ _ ?_
 clear hK K
 refine done_ (done_of HT_.out (by kernel_rfl)) ?_
 refine NoPanic.normal ?_
 have n1_ := zz (hcA_set 1 HA4.out HT4.out HTN.out)
 clear HT_ HW_ hs_ hfs_ HA4 HT4
 generalize w4.setCell ⟨T, 0, none⟩ (.int .i64 1) = w5 at n1_ ⊢
 have HA := n1_
 clear n1_
 go_wp2_with (go_at_call 99; refine (callsIn_wide.1 (YtlmoemahamneoaaBack.back_in Fence.wide 5 trivial rfl _ _ _ _)).mono ?_; rintro e w' ⟨rfl, rfl⟩)
 obtain ⟨zs, hzs⟩ : ∃ zs, l.take m = zs := ⟨_, rfl⟩
 have hzl : zs.length = m := by rw [← hzs, jq]; omega
 have hm16 := HM.out.2
 have hI : YtlmoemahamneoaaBack.Ints n0 (w5.alloc (.cells #[.slice (some ⟨b, off, none⟩) m c0] 29)) (.slice (some ⟨b, off, none⟩) m c0) zs := by
  have hk := Kd.C_take (m := m) HC.out (by omega)
  rw [hzs] at hk
  have h1 := YtlmoemahamneoaaBack.ints_of (c := c0) hk (Nat.le_refl w0.heap.size)
  rw [hzl, HNN.out] at h1
  exact h1.below (hcA_alloc HA.out.1 _).2.2
 have HJ0 := hj_of (.slice (some ⟨b, off, none⟩) m c0) HA.out.1 HA.out.2 HTN.out
 have bB := blk_new w5 (.cells #[.slice (some ⟨b, off, none⟩) m c0] 29)
 have hsz5 : n0 ≤ w5.heap.size := by have := HA.out.1.2.2.size; rw [HNN.out] at this; exact this
 have HZS := zz hzs
 have HCE := zz (hcP_all l)
 rw [show l.length - 1 = m by have := HM.out.1; omega, hzs, HXL.out] at HCE
 have hreach : zs.length * 8 ≤ 140737488351232 := by omega
 refine (wpIn_wide (n := 5)).1 ?_
 refine wpIn_rangeFunc_ownG (F := Fence.wide) (n := 5) rfl (by omega) (gf := 188) (lb := #[.pointer (some ⟨w5.heap.size, 0, none⟩)]) rfl trivial (enters_of Try.func188 (by kernel_rfl) rfl)
  (YtlmoemahamneoaaBack.back_stops Fence.wide (5 - 1) trivial rfl (by omega) w5.heap.size n0 (.slice (some ⟨b, off, none⟩) m c0) zs hreach _ (by rw [World.size_alloc]; omega) (by rw [World.size_alloc]; omega) bB hI) YtlmoemahamneoaaBack.KeepB.trans (YtlmoemahamneoaaBack.keepB_b (by rw [World.size_alloc]; omega)) (Below.refl _ _) (fun _ => rfl)
  (fun pre W => HcJ n0 n0 (n0 + 1) T w5.heap.size (.slice (some ⟨b, off, none⟩) m c0) w0 (hcP x0 pre).1 (hcP x0 pre).2 W)
  (fun _ _ _ => False)
  (hj_own (fun pre => (hcP x0 pre).1) (fun pre => (hcP x0 pre).2) (Nat.le_of_eq HNN.out.symm) (by rw [World.size_alloc]; omega))
  (fun _ _ _ _ _ hs _ _ => hs)
  HJ0
  (fun x => { tmps := #[.slice (some ⟨b, off, none⟩) l.length c0, undef, .pointer (some ⟨w.heap.size, 0, none⟩), .bool false, .pointer (some ⟨n0 + 1, 0, none⟩), .pointer (some ⟨T, 0, none⟩), undef, .int .i64 x.2, .slice (some ⟨b, off, none⟩) l.length c0, .bool true, .bool false, undef, .agg #[.slice none 0 0], .pointer (some ⟨n0, 0, none⟩), .pointer (some ⟨n0, 0, none⟩), .slice (some ⟨b, off, none⟩) l.length c0, .slice (some ⟨b, off, none⟩) l.length c0, .int .i64 (l.length : Int), .int .i64 (m : Int), .pointer (some ⟨b, off + m, none⟩), .int .i64 x0, .int .i64 1, .slice (some ⟨b, off, none⟩) l.length c0, .slice (some ⟨b, off, none⟩) l.length c0, .int .i64 (l.length : Int), .int .i64 (m : Int), .slice (some ⟨b, off, none⟩) m c0, .func (.func 188) #[] #[.pointer (some ⟨w5.heap.size, 0, none⟩)], .int .i64 x.1, .int .i64 x.2, undef, undef, undef, undef, undef, undef, undef, undef, undef, undef, undef, undef, undef, undef], defers := [] }) ?assign ?body ?done ?stop
 case assign =>
  intro lb x W K hK
  gi_wp2
  exact hK
 case body =>
  rintro lb pre x W hJ hlt
  obtain ⟨st, hst⟩ : ∃ st, hcP x0 pre = st := ⟨_, rfl⟩
  have hlen := hcP_len x0 pre
  have hnew := hcP_snoc x0 pre x
  rw [hst] at hJ hlen hnew
  obtain ⟨os, at_⟩ := st
  dsimp only at hJ hlen
  obtain ⟨q, hq⟩ : ∃ q, os.length = q := ⟨_, rfl⟩
  have HNEW := zz hnew
  have HQ := zz hq
  have hq1 : q ≤ 1000 := by omega
  have HQ1 := zz hq1
  have kP : W.cell? ⟨n0 + 1, 0, none⟩ = some (.pointer (some ⟨n0, 0, none⟩)) := (zk hJ.2.1 0).trans rfl
  have kT : W.cell? ⟨T, 0, none⟩ = some (.int .i64 at_) := (zk hJ.2.2.1 0).trans rfl
  have PU := zz (hj_put q hq (by omega) 3 at_ 0 hJ)
  obtain ⟨xi, xd⟩ := x
  dsimp only
  clear hnew hq hlen hst hJ hlt hI HJ0 bB hreach hzl hzs hsz5
  gi_wp2
  refine ⟨trivial, CallsIn.inRound _ (callsIn_wide.2 (PU.out.mono ?_))⟩
  rintro e w6 ⟨rfl, hj_, hk_⟩
  have HJ1 := zz hj_
  have HK1 := zz hk_
  have kT6 : w6.cell? ⟨T, 0, none⟩ = some (.int .i64 at_) := (zk hj_.2.2.1 0).trans rfl
  have kF6 := zv hj_.2.2.1 0
  clear hj_ hk_
  gi_wp2
  have n1_ := zz (hj_set ((q : Int) + 1) HJ1.out)
  clear kT6 kF6 kP kT
  generalize w6.setCell ⟨T, 0, none⟩ (.int .i64 ((q : Int) + 1)) = w7 at n1_ ⊢
  have HJ2 := zz n1_.out.1
  have HK2 := zz (hk_trans HK1.out n1_.out.2)
  clear n1_ HJ1 HK1
  have KY := zz (fun (V : World) (os : List S109) (z : Int) (sv : Value) (h : HcJ n0 n0 (n0 + 1) T w5.heap.size sv w0 os z V) => (And.intro ((zk h.2.1 0).trans rfl) ((zk h.2.2.1 0).trans rfl) : V.cell? ⟨n0 + 1, 0, none⟩ = some (.pointer (some ⟨n0, 0, none⟩)) ∧ V.cell? ⟨T, 0, none⟩ = some (.int .i64 z)))
  refine Ytlmoemahamneoaa.RoundAny.start_in (m := 7) (S := fun w' => w'.cell? ⟨n0 + 1, 0, none⟩ = some (.pointer (some ⟨n0, 0, none⟩)) ∧ w'.cell? ⟨T, 0, none⟩ = some (.int .i64 ((q : Int) + 1))) (ds := [6]) #[false, false, false, false, false, false, false] (by kernel_rfl) (by kernel_rfl) rfl rfl (KY.out _ _ _ _ (hj_drew HJ2.out).1) (fun hHeld => ?_)
  refine with_tabW hc_tab8 hc_bits8 (fun HT_ HW_ => ?_)
  have n1_ := zz (hj_drew HJ2.out)
  have HJ3 := zz n1_.out.1
  have HK3 := zz (hk_trans HK2.out n1_.out.2)
  clear n1_ HJ2 HK2
  generalize w7.drew = w8 at HJ3 HK3 hHeld ⊢
  refine pure_ (i := 3) (N := some 36) (v := ?_) (a' := ?_) #[false, false, false, true, false, false, false] rfl rfl (yz HT_.out (by kernel_rfl)) (fun _ _ _ h => h) (Or.inl ⟨by rfl, ?_⟩) ?_ ?_
  rotate_left
  ·intro w'
   go_simp
   with_reducible rfl
  rotate_left
  ·simp only [Act.put, qq, qx, qk, yx, yk]
   rfl
  refine take_ (i := 0) (N := some 33) (v := ?_) (a' := ?_) #[true, false, false, true, false, false, false] rfl rfl (yq HT_.out HW_.out (by kernel_rfl)) (fun _ _ _ h => h) (Or.inl ⟨by rfl, ?_⟩) hHeld ?_ ?_
  rotate_left
  ·rintro w' ⟨s0, s1⟩
   go_simp
   with_reducible rfl
  rotate_left
  ·simp only [Act.put, qq, qx, qk, yx, yk]
   rfl
  refine take_ (i := 1) (N := some 34) (v := ?_) (a' := ?_) #[true, true, false, true, false, false, false] rfl rfl (yq HT_.out HW_.out (by kernel_rfl)) (fun _ _ _ h => h) (Or.inl ⟨by rfl, ?_⟩) hHeld ?_ ?_
  rotate_left
  ·rintro w' ⟨s0, s1⟩
   go_simp
   with_reducible rfl
  rotate_left
  ·simp only [Act.put, qq, qx, qk, yx, yk]
   rfl
  refine take_ (i := 2) (N := some 35) (v := ?_) (a' := ?_) #[true, true, true, true, false, false, false] rfl rfl (yq HT_.out HW_.out (by kernel_rfl)) (fun _ _ _ h => h) (Or.inl ⟨by rfl, ?_⟩) hHeld ?_ ?_
  rotate_left
  ·rintro w' ⟨s0, s1⟩
   go_simp
   with_reducible rfl
  rotate_left
  ·simp only [Act.put, qq, qx, qk, yx, yk]
   rfl
  refine one_ (i := 4) (N := some 37) #[true, true, true, true, true, false, false] rfl rfl (yj HT_.out (by kernel_rfl)) (by decide) (fun K hK => ?_)
  refine goes_ Try.func98 (by kernel_rfl) rfl #[.pointer (some ⟨n0, 0, none⟩), .int .i64 xd] (by rfl) rfl rfl (by (try simp only [qv, List.map_cons, List.map_nil]); first | done | rfl) ?_
  refine (hj_const (q + 1) (by rw [List.length_append, HQ.out]; rfl) (by have := HQ1.out; omega) xd HJ3.out).mono ?_
  rintro e w9 ⟨rfl, j_, k_⟩
  refine ⟨_, rfl, ?_⟩
  have HJ4 := zz j_
  have HK4 := zz (hk_trans HK3.out k_)
  clear j_ k_ HJ3 HK3
  refine hK.out _ _ (KY.out _ _ _ _ HJ4.out) (fun hHeld => ?_)
  clear hK K
  refine yw (a' := ?_) ?_ ?_
  rotate_left
  ·show Act.put _ (some 37) _ = _
   simp only [Act.put, qq, qx, qk, yx, yk]
   rfl
  refine one_ (i := 5) (N := some 38) #[true, true, true, true, true, true, false] rfl rfl (yj HT_.out (by kernel_rfl)) (by decide) (fun K hK => ?_)
  refine goes_ Try.func100 (by kernel_rfl) rfl #[.pointer (some ⟨n0, 0, none⟩), .int .i64 1, .int .i64 ((q : Int) + 1), .int .i64 (((q + 1 : Nat) : Int) + 1)] (by rfl) rfl rfl (by (try simp only [qv, List.map_cons, List.map_nil]); first | done | rfl) ?_
  refine (hj_put (q + 2) (by rw [List.length_append, List.length_append, HQ.out]; rfl) (by have := HQ1.out; omega) 1 ((q : Int) + 1) (((q + 1 : Nat) : Int) + 1) HJ4.out).mono ?_
  rintro e w10 ⟨rfl, j_, k_⟩
  refine ⟨_, rfl, ?_⟩
  have HJ5 := zz j_
  have HK5 := zz (hk_trans HK4.out k_)
  clear j_ k_ HJ4 HK4
  refine hK.out _ _ (KY.out _ _ _ _ HJ5.out) (fun hHeld => ?_)
  clear hK K
  refine yw (a' := ?_) ?_ ?_
  rotate_left
  ·show Act.put _ (some 38) _ = _
   simp only [Act.put, qq, qx, qk, yx, yk]
   rfl
  refine last_ (i := 6) (N := none) #[true, true, true, true, true, true, true] rfl rfl (yj HT_.out (by kernel_rfl)) (by decide) (fun K hK => ?_)
  have hs_ : w10.cell? ⟨T, 0, none⟩ = some (.int .i64 ((q : Int) + 1)) := (KY.out _ _ _ _ HJ5.out).2
  have hfs_ := zv HJ5.out.2.2.1 0
  refine skip_ (w1 := ?_) (by rfl) rfl ?_ ?_
  rotate_left
  ·go_simp
   rfl
  refine hK.out _ _ ?_
  clear hK K
  refine done_ (done_of HT_.out (by kernel_rfl)) ?_
  have n1_ := hj_set (((q + 2 : Nat) : Int) + 1) HJ5.out
  have hk6 := hk_trans HK5.out n1_.2
  have hj6 := n1_.1
  have e1 : (hcP x0 (pre ++ [(xi, xd)])).1 = os ++ [⟨3, at_, 0⟩] ++ [⟨0, xd, 0⟩] ++ [⟨1, (q : Int) + 1, ((q + 1 : Nat) : Int) + 1⟩] := by rw [HNEW.out, ← HQ.out]; rfl
  have e2 : (hcP x0 (pre ++ [(xi, xd)])).2 = ((q + 2 : Nat) : Int) + 1 := by rw [HNEW.out, ← HQ.out]; rfl
  have hj7 : HcJ n0 n0 (n0 + 1) T w5.heap.size (.slice (some ⟨b, off, none⟩) m c0) w0 (hcP x0 (pre ++ [(xi, xd)])).1 (hcP x0 (pre ++ [(xi, xd)])).2 (w10.setCell ⟨T, 0, none⟩ (.int .i64 (((q + 2 : Nat) : Int) + 1))) := by
   rw [e1, e2]
   exact n1_.1
  exact ⟨hk6.2.from _, hk6.1, hj7⟩
 case done =>
  rintro E ys W hE rfl hJ hK
  have HE := zz hE
  have HCE2 := HCE.out
  have e0 : (fun pre => hcP x0 pre) (YtlmoemahamneoaaBack.pairs zs) = hcAll l := HCE2
  have HJW := zz (show HcJ n0 n0 (n0 + 1) T w5.heap.size (.slice (some ⟨b, off, none⟩) m c0) w0 (hcAll l).1 (hcAll l).2 W by rw [← HCE2]; exact hJ)
  clear hJ HCE2 e0
  obtain ⟨os, hos⟩ : ∃ os, (hcAll l).1 = os := ⟨_, rfl⟩
  obtain ⟨at_, hat⟩ : ∃ at_, (hcAll l).2 = at_ := ⟨_, rfl⟩
  rw [hos, hat] at HJW HF
  have kP : W.cell? ⟨n0 + 1, 0, none⟩ = some (.pointer (some ⟨n0, 0, none⟩)) := (zk HJW.out.2.1 0).trans rfl
  have kT : W.cell? ⟨T, 0, none⟩ = some (.int .i64 at_) := (zk HJW.out.2.2.1 0).trans rfl
  have hwl : w.heap.size < n0 := by have := HNN.out; have := HS0.out; omega
  have hx : W.heap[w.heap.size]? = some (.cells #[.slice none 0 0, .int .i64 0] 32 (0, 0)) := (HJW.out.2.2.2.2.1.block _ hwl).trans HX0.out
  have hwr : WrAt w0.heap.size n0 os w0 W := by
   obtain ⟨⟨u, hbx, hR, _, hgB, hbw⟩, _, _, _, hB, _⟩ := HJW.out
   rw [HNN.out]
   exact ⟨u, hbx, hR, hB, hgB, Nat.le_of_eq HNN.out.symm⟩
  have CO := zz (code_inE E k n0 os at_ r1 r2 r3 w.heap.size _ w0 W hwr hx hK HF.out)
  have HEN : Aside0 (n0 ≤ E) := ⟨by have := HE.out; rw [World.size_alloc] at this; omega⟩
  have HWL := zz hwl
  clear hos hat hx hwr hwl hK hE hsz5 hI HJ0 bB hreach hzl hzs HCE HZS HE
  go_wp2_with (go_at_call 97; refine CO.out.mono ?_; rintro e w9 ⟨v0, rfl, hR1, hB1, hX3, hE3⟩; obtain ⟨A3, c3, e3⟩ := jx hR1; subst e3; have HR1 := zz (Kd.R_lower hR1 (show w.heap.size ≤ _ by rw [HS0.out]; omega)); have HB1 := zz (below_step HB0.out hB1); have HX := zz hX3; have HE3 := zz hE3; have s0 : w9.cell? ⟨w.heap.size, 0, none⟩ = some (.slice none 0 0) := (zk hX3 0).trans rfl; have s1 : w9.cell? ⟨w.heap.size, 1, none⟩ = some (.int .i64 0) := (zk hX3 1).trans rfl; have f0 : w9.frozen? ⟨w.heap.size, 0, none⟩ = false := zv hX3 0; have f1 : w9.frozen? ⟨w.heap.size, 1, none⟩ = false := zv hX3 1; clear hR1 hB1 hX3 hE3)
  have hEn : E ≠ w.heap.size := by have := HEN.out; have := HWL.out; omega
  have HX2 := qz (qz HX.out 0 (.slice A3 r1.length c3) rfl) 1 (.int .i64 r2) rfl
  have HE4 : ((w9.setCell ⟨w.heap.size, 0, none⟩ (.slice A3 r1.length c3)).setCell ⟨w.heap.size, 1, none⟩ (.int .i64 r2)).heap[E]? = some (.deferred (some [])) := (Below.heap_setCell _ ⟨w.heap.size, 1, none⟩ _ E hEn).trans ((Below.heap_setCell _ ⟨w.heap.size, 0, none⟩ _ E hEn).trans HE3.out)
  refine ⟨by simp, .inl ⟨_, _, rfl, run_takeDeferred HE4, ?_⟩⟩
  have HB8 := Below.setCell (Below.setCell HB1.out (p := ⟨w.heap.size, 0, none⟩) (Nat.le_refl _) (.slice A3 r1.length c3)) (p := ⟨w.heap.size, 1, none⟩) (Nat.le_refl _) (.int .i64 r2)
  have hX1 := qz HX.out 0 (.slice A3 r1.length c3) rfl
  have HRR := jj (ok' := fun _ => True) (Kd.R_far (p := ⟨w.heap.size, 1, none⟩) (Kd.R_types (jj (ok' := fun _ => True) (Kd.R_far (p := ⟨w.heap.size, 0, none⟩) (Kd.R_types HR1.out HX.out (by decide)) (fun _ hk => hk.2) (.slice A3 r1.length c3)) (fun _ _ => trivial)) hX1 (by decide)) (fun _ hk => hk.2) (.int .i64 r2)) (fun _ hk => trivial)
  refine ⟨_, results_ct rfl _ _ w.heap.size 32 #[.slice A3 r1.length c3, .int .i64 r2] (0, 0) _ rfl (((grownBy_putObj' _ E (.deferred none)).block _ (blk_lt HX2) (fun e => by injection e with e; exact hEn e.symm)).trans HX2) Try.underlying32 rfl (by kernel_rfl), .slice A3 r1.length c3, rfl, ?_, HB8.trans (belowK_b (w := w) (Nat.le_refl _) _ E _ _ (by have := HEN.out; have := HWL.out; omega) HE4 rfl rfl)⟩
  refine jj (Kd.R_step (jw HRR) (fun k_ hk_ _ => ?_)) (fun _ _ => trivial)
  obtain ⟨_, _, _, q_, _, cells, hc⟩ := hk_
  refine (grownBy_putObj' _ E (.deferred none)).block k_ (blk_lt hc) (fun e => ?_)
  injection e with e
  subst e
  rw [HE4] at hc
  cases hc
 case stop =>
  rintro D c pre W _ _ h _
  exact h.elim
set_option maxHeartbeats 2000000 in
theorem hc_no (A : Option Addr) (c0 : Nat) (l : List Int) (w : World) (hC : Kd.C (Kd.int .i64) w A l.length l) (hcc : l.length ≤ c0) (hok : impl_coefsOk.f l = some false) :
  Calls Try.prog 22 #[.slice A l.length c0] w fun e w' => ∃ v0_ : Value, e = .returned (.tuple #[.agg #[v0_, .int .i64 0], .bool false]) ∧ Kd.R k109 109 w' w.heap.size (fun _ => True) v0_ [] ∧ Below w.heap.size w w' := by
 have HC := zz hC
 have HLC := zz hcc
 have HOK := zz hok
 clear hC hcc hok
 go_enter Try.func22, Try.ntmps22
 go_wp2_with (go_at_call 95; refine (impl_coefsOk.calls _ c0 l _ _ (qw HC.out _) HLC.out HOK.out).mono ?_; rintro e w2 ⟨rfl, hd_⟩; obtain ⟨n2, rfl⟩ := YtlmoemahamneoaaHand.of_drawn hd_; clear hd_; have s0 : ((w.alloc (.cells #[.slice none 0 0, .int .i64 0] 32)).drewN n2).cell? ⟨w.heap.size, 0, none⟩ = some (.slice none 0 0) := (zk (zx (blk_new w _) n2) 0).trans rfl; have s1 : ((w.alloc (.cells #[.slice none 0 0, .int .i64 0] 32)).drewN n2).cell? ⟨w.heap.size, 1, none⟩ = some (.int .i64 0) := (zk (zx (blk_new w _) n2) 1).trans rfl)
 refine bodyPost_ret (results_ct rfl _ _ w.heap.size 32 #[.slice none 0 0, .int .i64 0] (0, 0) _ rfl (qz (qz (zx (blk_new w _) _) 0 _ rfl) 1 _ rfl) Try.underlying32 rfl (by kernel_rfl)) rfl ?_
 exact ⟨_, rfl, Kd.R_nil _ _ _ _ _, Below.setCell (Below.setCell (zq (zj (Below.refl _ _) _) _) (p := ⟨w.heap.size, 0, none⟩) (Nat.le_refl _) _) (p := ⟨w.heap.size, 1, none⟩) (Nat.le_refl _) _⟩
end
def impl_HornerCode.f (k : Nat) (l0 : List Int) : Option (List (S109) × Int × Bool) := (impl_coefsOk.f l0).bind fun c => if c = true then impl_toldCode.f k (hcAll l0).1 (hcAll l0).2 else some ([], 0, false)
theorem impl_HornerCode.mono : ∀ (a0 : List Int) (k : Nat), LeO (impl_HornerCode.f k a0) (impl_HornerCode.f (k + 1) a0) := by
 intro a0 k
 unfold impl_HornerCode.f
 exact jk (jv _) (fun _ => LeO.ite (impl_toldCode.mono _ _ _) (jv _))
theorem impl_HornerCode.calls (k : Nat) (A0 : Option Addr) (c0 : Nat) (l0 : List Int) (r1 : List (S109)) (r2 : Int) (r3 : Bool) (w : World) (hr0 : Kd.C (Kd.int .i64) w A0 l0.length l0) (hc0 : l0.length ≤ c0) (h : impl_HornerCode.f k l0 = some (r1, r2, r3)) :
  Calls Try.prog 22 #[.slice A0 l0.length c0] w fun e w' => ∃ v0_ : Value, e = .returned (.tuple #[.agg #[v0_, .int .i64 r2], .bool r3]) ∧ Kd.R k109 109 w' w.heap.size (fun _ => True) v0_ r1 ∧ Below w.heap.size w w' := by
 unfold impl_HornerCode.f at h
 obtain ⟨c, hok, h1⟩ := Option.bind_eq_some_iff.mp h
 clear h
 cases c with
 | true =>
  rw [if_pos rfl] at h1
  obtain ⟨hl1, hl2⟩ := gc_coefs hok
  rcases YtlmoemahamneoaaHand.int_slice hr0 with h0 | ⟨b, off, rfl, _, hcells⟩
  ·subst h0; simp at hl1
  ·exact callsIn_wide.1 (hc_yes k b off c0 (l0.length - 1) l0 r1 r2 r3 w hr0 hc0 hcells (by omega) (by omega) hok h1)
 | false =>
  rw [if_neg (by simp)] at h1
  simp only [Option.some.injEq, Prod.mk.injEq] at h1
  obtain ⟨rfl, rfl, rfl⟩ := h1
  exact hc_no A0 c0 l0 w hr0 hc0 hok
def pcGroup (l : List Int) : List S109 × Int := gcGroup (gcPw (l.length - 2)) (l.headD 0) l.tail (gcPops (l.length - 2))
section
set_option maxRecDepth 100000
set_option maxHeartbeats 2000000 in
theorem pc_yes (k : Nat) (b off c0 : Nat) (l : List Int) (r1 : List S109) (r2 : Int) (r3 : Bool) (w : World) (hC : Kd.C (Kd.int .i64) w (some ⟨b, off, none⟩) l.length l) (hcc : l.length ≤ c0) (hcell : ∀ j, j < l.length → w.cell? ⟨b, off + j, none⟩ = some (.int .i64 (l.getD j 0))) (hl1 : 1 ≤ l.length) (hl2 : l.length ≤ 17) (hok : impl_coefsOk.f l = some true) (hf : impl_toldCode.f k (pcGroup l).1 (pcGroup l).2 = some (r1, r2, r3)) :
  Calls Try.prog 23 #[.slice (some ⟨b, off, none⟩) l.length c0] w fun e w' => ∃ v0_ : Value, e = .returned (.tuple #[.agg #[v0_, .int .i64 r2], .bool r3]) ∧ Kd.R k109 109 w' w.heap.size (fun _ => True) v0_ r1 ∧ Below w.heap.size w w' := by
 have hb : b < w.heap.size := qj _ _ (hcell 0 (by omega))
 obtain ⟨x0, t, hl⟩ : ∃ x0 t, l = x0 :: t := by
  cases l with
  | nil => simp at hl1
  | cons x0 t => exact ⟨x0, t, rfl⟩
 obtain ⟨n, hn⟩ : ∃ n, l.length - 2 = n := ⟨_, rfl⟩
 have htl : l.length = t.length + 1 := by rw [hl]; rfl
 obtain ⟨p, hp⟩ : ∃ p, gcGroup (gcPw n) x0 t (gcPops n) = p := ⟨_, rfl⟩
 have hpg : pcGroup l = p := by unfold pcGroup; rw [hn, hl, List.headD_cons, List.tail_cons]; exact hp
 rw [hpg] at hf
 obtain ⟨w0, hw0⟩ : ∃ w0, w.alloc (.cells #[.slice none 0 0, .int .i64 0] 32) = w0 := ⟨_, rfl⟩
 have hs0 : w0.heap.size = w.heap.size + 1 := by rw [← hw0, World.size_alloc]
 have hal : ∀ j, j < l.length → w0.cell? ⟨b, off + j, none⟩ = some (.int .i64 (l.getD j 0)) := fun j hj => by rw [← hw0]; exact (World.cell?_alloc_lt _ _ ⟨b, off + j, none⟩ hb).trans (hcell j hj)
 have hC0 : w0.cell? ⟨b, off, none⟩ = some (.int .i64 x0) := by have := hal 0 (by omega); rw [hl] at this; exact this
 have hCr : ∀ j, j < t.length → w0.cell? ⟨b, off + 1 + j, none⟩ = some (.int .i64 (t.getD j 0)) := fun j hj => by
  have := hal (j + 1) (by omega)
  rw [hl] at this
  rw [show off + 1 + j = off + (j + 1) by omega]
  exact this
 have hw1 : wrap64 ((l.length : Int) - 1) = (l.length : Int) - 1 := IntWalk.wrap64_in _ (by omega)
 have PO := zz (fun (B : Nat) (W : World) (hB : WrAt w0.heap.size B [] w0 W) => powers_in w0.heap.size B w0 W ((l.length : Int) - 1) n (by omega) (by omega) hB (hB.choose_spec.2.2.1.size))
 have GR := zz (fun (B : Nat) (W : World) (v : Value) (hB : WrAt w0.heap.size B (gcPops n) w0 W) (hP : PwR w0.heap.size W v (gcPw n)) => group_in w0 W B b off c0 x0 t v (gcPw n) (gcPops n) (by omega) hC0 hCr (by omega) (by omega) (by rw [gcPw_length]; omega) (by rw [gcPw_length]; omega) (by rw [gcPops_length]; omega) hB hP)
 rw [hp] at GR
 rw [← htl] at GR
 have CO := zz (fun (B : Nat) (W : World) (hB : WrAt w0.heap.size B p.1 w0 W) (hx : W.heap[w.heap.size]? = some (.cells #[.slice none 0 0, .int .i64 0] 32 (0, 0))) => code_in k B p.1 p.2 r1 r2 r3 w.heap.size _ w0 W hB hx hf)
 have HX0 := zz (show w0.heap[w.heap.size]? = some (.cells #[.slice none 0 0, .int .i64 0] 32 (0, 0)) by rw [← hw0]; exact blk_new w _)
 have HS0 := zz hs0
 have HB0 := zz (show Below w.heap.size w w0 by rw [← hw0]; exact zj (Below.refl _ w) _)
 have HC := zz (show Kd.C (Kd.int .i64) w0 (some ⟨b, off, none⟩) l.length l by rw [← hw0]; exact qw hC _)
 have HW0 := zz hw0
 have HLC := zz hcc
 have HOK := zz hok
 have hl0 : 1 ≤ l.length := hl1
 clear hC hcc hcell hl1 hl2 hok hf hb hal hw0 hs0 hC0 hCr hn hp hpg htl hl
 go_enter Try.func23, Try.ntmps23
 go_wp2_with (first
  | (go_at_call 95; rw [HW0.out]; refine (impl_coefsOk.calls _ c0 l true _ HC.out HLC.out HOK.out).mono ?_; rintro e w2 ⟨rfl, hd_⟩; obtain ⟨n2, rfl⟩ := YtlmoemahamneoaaHand.of_drawn hd_; clear hd_; have HWN := zz (wr_new w0 (w0.drewN n2) (zq (Below.refl _ _) _)))
  | (go_at_call 101; refine (PO.out _ _ HWN.out).mono ?_; rintro e w3 ⟨v, rfl, hp_, hw_⟩; have HP := zz hp_; have HW := zz hw_; clear hp_ hw_)
  | (go_at_call 102; refine (GR.out _ _ _ HW.out HP.out).mono ?_; rintro e w4 ⟨rfl, hw_, -⟩; have HW4 := zz hw_; clear hw_)
  | (go_at_call 97; refine (CO.out _ _ HW4.out (blk_below HX0.out (HW4.out.choose_spec.2.2.1))).mono ?_; rintro e w5 ⟨v0, rfl, hR1, hB1, hX3⟩; obtain ⟨A3, c3, e3⟩ := jx hR1; subst e3; have HR1 := zz (Kd.R_lower hR1 (show w.heap.size ≤ _ by rw [HS0.out]; omega)); have HB1 := zz (below_step HB0.out hB1); have HX := zz hX3; have s0 : w5.cell? ⟨w.heap.size, 0, none⟩ = some (.slice none 0 0) := (zk hX3 0).trans rfl; have s1 : w5.cell? ⟨w.heap.size, 1, none⟩ = some (.int .i64 0) := (zk hX3 1).trans rfl; have f0 : w5.frozen? ⟨w.heap.size, 0, none⟩ = false := zv hX3 0; have f1 : w5.frozen? ⟨w.heap.size, 1, none⟩ = false := zv hX3 1; clear hR1 hB1 hX3))
 refine bodyPost_ret (results_ct rfl _ _ w.heap.size 32 #[.slice A3 r1.length c3, .int .i64 r2] (0, 0) _ rfl (qz (qz HX.out 0 _ rfl) 1 _ rfl) Try.underlying32 rfl (by kernel_rfl)) rfl ?_
 refine ⟨_, rfl, ?_, Below.setCell (Below.setCell HB1.out (p := ⟨w.heap.size, 0, none⟩) (Nat.le_refl _) _) (p := ⟨w.heap.size, 1, none⟩) (Nat.le_refl _) _⟩
 have hX1 := qz HX.out 0 (.slice A3 r1.length c3) rfl
 exact jj (ok' := fun _ => True) (Kd.R_far (p := ⟨w.heap.size, 1, none⟩) (Kd.R_types (jj (ok' := fun _ => True) (Kd.R_far (p := ⟨w.heap.size, 0, none⟩) (Kd.R_types HR1.out HX.out (by decide)) (fun _ hk => hk.2) (.slice A3 r1.length c3)) (fun _ _ => trivial)) hX1 (by decide)) (fun _ hk => hk.2) (.int .i64 r2)) (fun _ hk => trivial)
set_option maxHeartbeats 2000000 in
theorem pc_no (A : Option Addr) (c0 : Nat) (l : List Int) (w : World) (hC : Kd.C (Kd.int .i64) w A l.length l) (hcc : l.length ≤ c0) (hok : impl_coefsOk.f l = some false) :
  Calls Try.prog 23 #[.slice A l.length c0] w fun e w' => ∃ v0_ : Value, e = .returned (.tuple #[.agg #[v0_, .int .i64 0], .bool false]) ∧ Kd.R k109 109 w' w.heap.size (fun _ => True) v0_ [] ∧ Below w.heap.size w w' := by
 have HC := zz hC
 have HLC := zz hcc
 have HOK := zz hok
 clear hC hcc hok
 go_enter Try.func23, Try.ntmps23
 go_wp2_with (go_at_call 95; refine (impl_coefsOk.calls _ c0 l _ _ (qw HC.out _) HLC.out HOK.out).mono ?_; rintro e w2 ⟨rfl, hd_⟩; obtain ⟨n2, rfl⟩ := YtlmoemahamneoaaHand.of_drawn hd_; clear hd_; have s0 : ((w.alloc (.cells #[.slice none 0 0, .int .i64 0] 32)).drewN n2).cell? ⟨w.heap.size, 0, none⟩ = some (.slice none 0 0) := (zk (zx (blk_new w _) n2) 0).trans rfl; have s1 : ((w.alloc (.cells #[.slice none 0 0, .int .i64 0] 32)).drewN n2).cell? ⟨w.heap.size, 1, none⟩ = some (.int .i64 0) := (zk (zx (blk_new w _) n2) 1).trans rfl)
 refine bodyPost_ret (results_ct rfl _ _ w.heap.size 32 #[.slice none 0 0, .int .i64 0] (0, 0) _ rfl (qz (qz (zx (blk_new w _) _) 0 _ rfl) 1 _ rfl) Try.underlying32 rfl (by kernel_rfl)) rfl ?_
 exact ⟨_, rfl, Kd.R_nil _ _ _ _ _, Below.setCell (Below.setCell (zq (zj (Below.refl _ _) _) _) (p := ⟨w.heap.size, 0, none⟩) (Nat.le_refl _) _) (p := ⟨w.heap.size, 1, none⟩) (Nat.le_refl _) _⟩
end
def impl_PowersCode.f (k : Nat) (l0 : List Int) : Option (List (S109) × Int × Bool) := (impl_coefsOk.f l0).bind fun c => if c = true then impl_toldCode.f k (pcGroup l0).1 (pcGroup l0).2 else some ([], 0, false)
theorem impl_PowersCode.mono : ∀ (a0 : List Int) (k : Nat), LeO (impl_PowersCode.f k a0) (impl_PowersCode.f (k + 1) a0) := by
 intro a0 k
 unfold impl_PowersCode.f
 exact jk (jv _) (fun _ => LeO.ite (impl_toldCode.mono _ _ _) (jv _))
theorem impl_PowersCode.calls (k : Nat) (A0 : Option Addr) (c0 : Nat) (l0 : List Int) (r1 : List (S109)) (r2 : Int) (r3 : Bool) (w : World) (hr0 : Kd.C (Kd.int .i64) w A0 l0.length l0) (hc0 : l0.length ≤ c0) (h : impl_PowersCode.f k l0 = some (r1, r2, r3)) :
  Calls Try.prog 23 #[.slice A0 l0.length c0] w fun e w' => ∃ v0_ : Value, e = .returned (.tuple #[.agg #[v0_, .int .i64 r2], .bool r3]) ∧ Kd.R k109 109 w' w.heap.size (fun _ => True) v0_ r1 ∧ Below w.heap.size w w' := by
 unfold impl_PowersCode.f at h
 obtain ⟨c, hok, h1⟩ := Option.bind_eq_some_iff.mp h
 clear h
 cases c with
 | true =>
  rw [if_pos rfl] at h1
  obtain ⟨hl1, hl2⟩ := gc_coefs hok
  rcases YtlmoemahamneoaaHand.int_slice hr0 with h0 | ⟨b, off, rfl, _, hcells⟩
  ·subst h0; simp at hl1
  ·exact pc_yes k b off c0 l0 r1 r2 r3 w hr0 hc0 hcells hl1 hl2 hok h1
 | false =>
  rw [if_neg (by simp)] at h1
  simp only [Option.some.injEq, Prod.mk.injEq] at h1
  obtain ⟨rfl, rfl, rfl⟩ := h1
  exact pc_no A0 c0 l0 w hr0 hc0 hok
def spec_l1In.f (a0 : Int) (a1 : Int) (a2 : Int) : Option (Bool) := if a0 ≥ a1 then (some (decide (a0 ≤ a2))) else (some false)
set_option maxHeartbeats 8000000 in
set_option maxRecDepth 100000 in
theorem spec_l1In.calls (a0 : Int) (a1 : Int) (a2 : Int) (r : Bool) (w : World) (h : spec_l1In.f a0 a1 a2 = some r) :
  Calls Try.prog 93 #[.int .i64 a0, .int .i64 a1, .int .i64 a2] w fun e w' => e = .returned (.bool r) ∧ Drawn0 w w' := by
 have H : (if a0 ≥ a1 then (some (decide (a0 ≤ a2))) else (some false)) = some r := h
 clear h
 by_cases c4 : a0 ≥ a1
 ·rw [if_pos c4] at H
  have c4b0 : decide (a1 ≤ a0) = true := decide_eq_true c4
  clear c4
  obtain rfl := Option.some.inj H
  go_enter Try.func93, Try.ntmps93
  go_wp2
  go_ret
  exact ⟨by first | rfl | (simp; done) | (simp [*]; done), by repeat (first | exact Drawn0.refl _ | apply Drawn0.step)⟩
 ·rw [if_neg c4] at H
  have c4b0 : decide (a1 ≤ a0) = false := decide_eq_false c4
  clear c4
  obtain rfl := Option.some.inj H
  go_enter Try.func93, Try.ntmps93
  go_wp2
  go_ret
  exact ⟨by first | rfl | (simp; done) | (simp [*]; done), by repeat (first | exact Drawn0.refl _ | apply Drawn0.step)⟩
def spec_l1All.l0 : Nat → Int → Int → List Int → Int → Int → Option (Bool)
 | 0, _, _, _, _, _ => none
 | k + 1, x1, x2, x9, x10, x11 => if x11 < x10 then (if 0 ≤ x11 then (if x11 < (x9.length : Int) then ((spec_l1In.f (rd x9 x11) x1 x2).bind fun t143 => (if t143 = true then (spec_l1All.l0 k x1 x2 x9 x10 (wrap64 (x11 + 1))) else (some false))) else (none)) else (none)) else (some true)
def spec_l1All.f (k : Nat) (l0 : List Int) (a1 : Int) (a2 : Int) : Option (Bool) := spec_l1All.l0 k a1 a2 l0 (l0.length : Int) 0
theorem spec_l1All.mono_l : ∀ k, (∀ y0 y1 y2 y3 y4, LeO (spec_l1All.l0 k y0 y1 y2 y3 y4) (spec_l1All.l0 (k + 1) y0 y1 y2 y3 y4))
 | 0 => fun _ _ _ _ _ r h => by simp [spec_l1All.l0] at h
 | k + 1 => by
  have ih0 := spec_l1All.mono_l k
  ·intro y0 y1 y2 y3 y4
   unfold spec_l1All.l0
   repeat' with_reducible first
   | exact ih0 _ _ _ _ _
   | exact jv _
   | exact LeO.none _
   | refine LeO.ite ?_ ?_
   | refine jk ?_ (fun _ => ?_)
theorem spec_l1All.mono : ∀ a0 a1 a2 k, LeO (spec_l1All.f k a0 a1 a2) (spec_l1All.f (k + 1) a0 a1 a2) := by
 intro a0 a1 a2 k
 have ih0 := spec_l1All.mono_l k
 unfold spec_l1All.f
 repeat' with_reducible first
   | exact ih0 _ _ _ _ _
   | exact jv _
   | exact LeO.none _
   | refine LeO.ite ?_ ?_
   | refine jk ?_ (fun _ => ?_)
set_option maxHeartbeats 8000000 in
set_option maxRecDepth 100000 in
theorem spec_l1All.calls (k : Nat) (A0 : Option Addr) (c0 : Nat) (l0 : List Int) (a1 : Int) (a2 : Int) (r : Bool) (w : World) (hr0 : Kd.C (Kd.int .i64) w A0 l0.length l0) (hc0 : l0.length ≤ c0) (h : spec_l1All.f k l0 a1 a2 = some r) :
  Calls Try.prog 156 #[.slice A0 l0.length c0, .int .i64 a1, .int .i64 a2] w fun e w' => e = .returned (.bool r) ∧ Drawn0 w w' := by
 have HR0 := zz hr0
 have HC0 := zz hc0
 clear hr0 hc0
 have H : (spec_l1All.l0 k a1 a2 l0 (l0.length : Int) 0) = some r := h
 clear h
 have H' := zz H
 clear H
 go_enter Try.func156, Try.ntmps156
 go_wp2
 go_loopg [11] k (fun kq v11 w' => ∃ (x11_1 : Int), v11 = .int .i64 x11_1 ∧ Aside0 (spec_l1All.l0 kq a1 a2 l0 (l0.length : Int) x11_1 = some r) ∧ Aside0 (kq ≤ k) ∧ Drawn0 w w')
 case atStart => exact ⟨(0), (by first | rfl | (simp; done) | (simp [*]; done)), H', ⟨Nat.le_refl _⟩, by repeat (first | exact Drawn0.refl _ | apply Drawn0.step)⟩
 case round =>
  clear H'
  try clear c1
  try clear p2
  obtain ⟨x11_1, rfl, HA, HK1, ⟨m1, rfl⟩⟩ := hrel
  cases gk with
  | zero => exact absurd HA.out (by simp [spec_l1All.l0])
  | succ k1 =>
   have H := HA.out
   clear HA
   simp only [spec_l1All.l0] at H
   by_cases c4 : x11_1 < (l0.length : Int)
   ·rw [if_pos c4] at H
    have c4b0 : decide (x11_1 < (l0.length : Int)) = true := decide_eq_true c4
    clear c4
    by_cases c5 : 0 ≤ x11_1
    ·rw [if_pos c5] at H
     have c5b0 : decide (0 ≤ x11_1) = true := decide_eq_true c5
     clear c5
     by_cases c6 : x11_1 < (l0.length : Int)
     ·rw [if_pos c6] at H
      have c6b0 : decide (x11_1 < (l0.length : Int)) = true := decide_eq_true c6
      clear c6
      replace H := Option.bind_eq_some_iff.mp H
      obtain ⟨t143, A70, H⟩ := H
      replace H : (if t143 = true then (spec_l1All.l0 k1 a1 a2 l0 (l0.length : Int) (wrap64 (x11_1 + 1))) else (some false)) = some r := H
      have A7 := zz A70
      clear A70
      by_cases c8 : t143 = true
      ·subst c8
       have H1 : (spec_l1All.l0 k1 a1 a2 l0 (l0.length : Int) (wrap64 (x11_1 + 1))) = some r := by rw [if_pos rfl] at H; exact H
       clear H
       have H := H1
       clear H1
       have H' := zz H
       clear H
       have p142 : 0 ≤ (x11_1 : Int) := of_decide_eq_true (by with_reducible assumption)
       have q142 : x11_1 < (l0.length : Int) := of_decide_eq_true (by with_reducible assumption)
       obtain ⟨ad142, e142, hx142_0⟩ := Kd.at_int HR0.out x11_1 p142 q142
       cases e142
       replace p142 := eq_true p142
       replace q142 := eq_true q142
       go_wp2_with (first | ((with_reducible refine gate_callee (f := 93) rfl ?_); refine goesL_ (some 18) rfl rfl Try.func93 (by kernel_rfl) rfl #[.int .i64 (rd l0 x11_1), .int .i64 a1, .int .i64 a2] rfl (by (try simp only [qv, List.map_cons, List.map_nil]); first | done | rfl) ?_; (with_reducible refine (spec_l1In.calls (rd l0 x11_1) a1 a2 true _ A7.out).mono ?_); rintro e w' ⟨rfl, ⟨nd, rfl⟩⟩; refine ⟨_, rfl, ?_⟩))
       go_roundg k1
       case measure => have := HK1.out; omega
       case rel => exact ⟨(wrap64 (x11_1 + 1)), (by first | rfl | (simp; done) | (simp [*]; done)), H', ⟨by have := HK1.out; omega⟩, by repeat (first | exact Drawn0.refl _ | apply Drawn0.step)⟩
      ·replace c8 := Bool.eq_false_iff.mpr c8
       subst c8
       have H1 : (some false) = some r := by rw [if_neg (show ¬ (false = true) by decide)] at H; exact H
       clear H
       have H := H1
       clear H1
       obtain rfl := Option.some.inj H
       have p142 : 0 ≤ (x11_1 : Int) := of_decide_eq_true (by with_reducible assumption)
       have q142 : x11_1 < (l0.length : Int) := of_decide_eq_true (by with_reducible assumption)
       obtain ⟨ad142, e142, hx142_0⟩ := Kd.at_int HR0.out x11_1 p142 q142
       cases e142
       replace p142 := eq_true p142
       replace q142 := eq_true q142
       go_wp2_with (first | ((with_reducible refine gate_callee (f := 93) rfl ?_); refine goesL_ (some 18) rfl rfl Try.func93 (by kernel_rfl) rfl #[.int .i64 (rd l0 x11_1), .int .i64 a1, .int .i64 a2] rfl (by (try simp only [qv, List.map_cons, List.map_nil]); first | done | rfl) ?_; (with_reducible refine (spec_l1In.calls (rd l0 x11_1) a1 a2 false _ A7.out).mono ?_); rintro e w' ⟨rfl, ⟨nd, rfl⟩⟩; refine ⟨_, rfl, ?_⟩))
       go_ret
       exact ⟨by first | rfl | (simp; done) | (simp [*]; done), by repeat (first | exact Drawn0.refl _ | apply Drawn0.step)⟩
     ·rw [if_neg c6] at H
      exact absurd H (by simp)
    ·rw [if_neg c5] at H
     exact absurd H (by simp)
   ·rw [if_neg c4] at H
    have c4b0 : decide (x11_1 < (l0.length : Int)) = false := decide_eq_false c4
    clear c4
    obtain rfl := Option.some.inj H
    go_wp2
    go_ret
    exact ⟨by first | rfl | (simp; done) | (simp [*]; done), by repeat (first | exact Drawn0.refl _ | apply Drawn0.step)⟩
end Go.Proofs.Ytlmoemahamneoaa.PFnSchemesAgree
