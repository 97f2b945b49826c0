-- Written by gprint.py, a program of this session, out of the translation (a changed print).
import Derived.Test.YtlmoemahamneoaaPFnSchemesAgreex0
import Derived.Test.YtlmoemahamneoaaPFnSchemesAgreex2
import Derived.Test.YtlmoemahamneoaaPFnSchemesAgreex3
import Derived.Test.YtlmoemahamneoaaPFnSchemesAgreex4
namespace Go.Proofs.Ytlmoemahamneoaa.PFnSchemesAgree
open Go.RowKit Go.Proofs.YtlmoemahamneoaaW.PrintWords Go.Proofs.YtlmoemahamneoaaW.PrintLast Go.Proofs.YtlmoemahamneoaaW.PrintMore
open Go.Proofs.YtlmoemahamneoaaW.PrintWords.Aside0 renaming mk → zz
open Go.Proofs.YtlmoemahamneoaaW.PrintWords renaming pw_below_drewN → zq, below_alloc → zj, below_step → zw, blk_drewN → zx, blk_cell → zk, blk_put → zv
open List renaming setIfInBounds_toArray → qz, set_cons_zero → qx, set_cons_succ → qk, map_toArray → qv
open Go.Proofs.YtlmoemahamneoaaW.PrintWords.Kd renaming R_alloc → qq, R_drew → qj, C_alloc → qw, R_mono → jz, R_bound → jq, R_slice → jj
open Go.Proofs.YtlmoemahamneoaaW.PrintWords.LeO renaming bind → jw, refl → jx
open Go.Proofs.YtlmoemahamneoaaW.PrintLast renaming any_of → jk, one_of → jv, i64_w → yz, i32_w → yq
attribute [local go_sem] max2_int min2_int max_two min_two max_three min_three max_four min_four
set_option linter.unusedVariables false
set_option linter.unusedSimpArgs false
def esRow (y : Int) : List Int → List S109 → List Int → List S109 × List Int
 | a :: b :: r, os, nx => esRow y r (os ++ [⟨3, b, y⟩] ++ [⟨1, a, (os.length : Int) + 1⟩]) (nx ++ [(os.length : Int) + 2])
 | [a], os, nx => (os, nx ++ [a])
 | [], os, nx => (os, nx)
def esAll : Nat → Int → List Int → List S109 → List S109 × Int
 | 0, _, l, os => (os, l.headD 0)
 | k + 1, y, l, os => if 1 < l.length then (if 1 < (esRow y l os []).2.length then esAll k (((esRow y l os []).1.length : Int) + 1) (esRow y l os []).2 ((esRow y l os []).1 ++ [⟨3, y, y⟩]) else esAll k y (esRow y l os []).2 (esRow y l os []).1) else (os, l.headD 0)
def esOnes (n : Nat) : List Int := (List.range n).map fun i => ((i : Nat) : Int) + 1
def esStart (l : List Int) : List S109 := l.map fun n => ⟨0, n, 0⟩
def esCode (l : List Int) : List S109 × Int := esAll 20 0 (esOnes l.length) (esStart l)
theorem esOnes_length (n : Nat) : (esOnes n).length = n := by simp [esOnes]
theorem esOnes_succ (n : Nat) : esOnes (n + 1) = esOnes n ++ [(n : Int) + 1] := by simp [esOnes, List.range_succ]
theorem esStart_length (l : List Int) : (esStart l).length = l.length := by simp [esStart]
theorem esStart_snoc (l : List Int) (x : Int) : esStart (l ++ [x]) = esStart l ++ [⟨0, x, 0⟩] := by simp [esStart]
theorem esRow_len (y : Int) : ∀ (n : Nat) (l : List Int) (os : List S109) (nx : List Int), l.length ≤ n → (esRow y l os nx).2.length = nx.length + (l.length + 1) / 2 ∧ (esRow y l os nx).1.length ≤ os.length + l.length
 | _, [], os, nx, _ => ⟨by simp [esRow], by simp [esRow]⟩
 | _, [a], os, nx, _ => ⟨by simp [esRow], by simp [esRow]⟩
 | n + 1, a :: b :: r, os, nx, h => by
  obtain ⟨h1, h2⟩ := esRow_len y n r (os ++ [⟨3, b, y⟩] ++ [⟨1, a, (os.length : Int) + 1⟩]) (nx ++ [(os.length : Int) + 2]) (by simp only [List.length_cons] at h; omega)
  rw [esRow, h1]
  refine ⟨?_, Nat.le_trans h2 ?_⟩ <;> simp only [List.length_append, List.length_cons, List.length_nil] <;> omega
 | 0, a :: b :: r, _, _, h => by simp at h
theorem pw_keepG {base B : Nat} {ok : Nat → Prop} {W W1 : World} {v : Value} {xs : List Int} {bx : Array Value} (h : Kd.R (Kd.int .i64) 3 W base ok v xs) (hB : W.heap[B]? = some (.cells bx 107 (0, 0))) (hk : WrKeep B W W1) : Kd.R (Kd.int .i64) 3 W1 base ok v xs := by
 refine jz (Kd.R_step (jq h) (fun k hk1 _ => ?_)) (fun _ hk => hk.1)
 obtain ⟨_, _, _, q, hq, cells, hc⟩ := hk1
 have hq3 : q = 3 := by simpa [Kd.int, Kd.scalar] using hq
 subst hq3
 have hne : k ≠ B := fun e => by subst e; rw [hB] at hc; injection hc with hc; injection hc with _ hc; exact absurd hc (by decide)
 rw [hk k cells _ (by decide) hne hc, hc]
theorem es_low {base n : Nat} {W W1 : World} {v : Value} {xs : List Int} (h : Kd.R (Kd.int .i64) 3 W base (fun k => k < n) v xs) (hb : Below n W W1) : Kd.R (Kd.int .i64) 3 W1 base (fun k => k < n) v xs :=
 jz (Kd.R_step (jq h) (fun k hk _ => hb.block k hk.1)) (fun _ hk => hk.1)
theorem es_new (W : World) : Kd.R (Kd.int .i64) 3 (W.alloc (.cells #[] 3)) W.heap.size (fun _ => True) (.slice (some ⟨W.heap.size, 0, none⟩) 0 0) [] := by
 have h := World.ownsRow_lit (base := W.heap.size) (e := 3) (size := 1) W #[] 0 (Nat.le_refl _) (by decide) rfl
 have h2 : (W.alloc (.cells #[] 3)).ownsRow W.heap.size 3 1 (.slice (some ⟨W.heap.size, 0, none⟩) 0 0) 0 [] := by simpa using h
 exact Kd.R_of_own h2 (fun _ _ => trivial)
theorem es_cell {base : Nat} {ok : Nat → Prop} {W : World} {A : Option Addr} {c : Nat} {l : List Int} (h : Kd.R (Kd.int .i64) 3 W base ok (.slice A l.length c) l) (h0 : 1 ≤ l.length) : ∃ g, A = some ⟨g, 0, none⟩ ∧ ∀ j, j < l.length → W.cell? ⟨g, j, none⟩ = some (.int .i64 (l.getD j 0)) := by
 obtain ⟨g, cp, e, _⟩ := Kd.R_form h h0
 injection e with e _ _
 subst e
 refine ⟨g, rfl, fun j hj => ?_⟩
 obtain ⟨ad, e, hx⟩ := Kd.at_int (Kd.R_reads' h).2.2 (j : Int) (by omega) (by omega)
 injection e with e
 subst e
 have e2 : rd l (j : Int) = l.getD j 0 := by unfold rd; rw [Int.toNat_natCast]
 rw [Int.toNat_natCast, e2] at hx
 have ea : (⟨g, 0, none⟩ : Addr).add j = ⟨g, j, none⟩ := by by_cases h0 : j = 0 <;> simp [Addr.add, h0]
 rw [ea] at hx
 exact hx
def EsJ (base n0 B : Nat) (v5 v9 : Value) (list nx : List Int) (os : List S109) (w0 W : World) : Prop :=
 WrAt base B os w0 W ∧ Kd.R (Kd.int .i64) 3 W base (fun k => k < n0) v5 list ∧ Kd.R (Kd.int .i64) 3 W n0 (fun _ => True) v9 nx ∧ (base ≤ n0 ∧ n0 ≤ W.heap.size)
theorem esj_put {base n0 B : Nat} {v5 v9 : Value} {list nx : List Int} {os : List S109} {w0 W : World} (m : Nat) (kind a b : Int) (h : EsJ base n0 B v5 v9 list nx os w0 W) (hm : os.length = m) (hl : m ≤ 100000) :
  Calls Try.prog 100 #[.pointer (some ⟨B, 0, none⟩), .int .i64 kind, .int .i64 a, .int .i64 b] W fun e W' => e = .returned (.int .i64 ((m : Int) + 1)) ∧ EsJ base n0 B v5 v9 list nx (os ++ [⟨kind, a, b⟩]) w0 W' := by
 obtain ⟨h1, h2, h3, h4, h5⟩ := h
 have hB := h1.choose_spec.1
 have hbx : base ≤ w0.heap.size := h1.choose_spec.2.2.2.2
 obtain ⟨u, hx, hR, hBl, hge, hbw⟩ := h1
 have hW : WrAt base B os W W := ⟨u, hx, hR, Below.refl _ _, hge, Nat.le_trans hbw hBl.size⟩
 refine (put_at base B m os W W kind a b hW hm hl).mono ?_
 rintro e W' ⟨rfl, ⟨u2, hx2, hR2, hB2, hge2, hbw2⟩, hk⟩
 exact ⟨rfl, ⟨u2, hx2, hR2, hBl.trans hB2, hge, hbw⟩, pw_keepG h2 hB hk, pw_keepG h3 hB hk, h4, Nat.le_trans h5 hB2.size⟩
theorem esj_alloc {base n0 B : Nat} {v5 v9 : Value} {list nx : List Int} {os : List S109} {w0 W : World} (h : EsJ base n0 B v5 v9 list nx os w0 W) (o : Obj) : EsJ base n0 B v5 v9 list nx os w0 (W.alloc o) := by
 obtain ⟨h1, h2, h3, h4, h5⟩ := h
 exact ⟨wr_alloc h1 o, qq h2 o, qq h3 o, h4, Nat.le_trans h5 (by rw [World.size_alloc]; omega)⟩
theorem esj_drew {base n0 B : Nat} {v5 v9 : Value} {list nx : List Int} {os : List S109} {w0 W : World} (h : EsJ base n0 B v5 v9 list nx os w0 W) : EsJ base n0 B v5 v9 list nx os w0 W.drew := by
 obtain ⟨⟨u, hx, hR, hBl, hge, hbw⟩, h2, h3, h4, h5⟩ := h
 exact ⟨⟨u, blk_drew hx, qj hR, below_drew hBl, hge, hbw⟩, qj h2, qj h3, h4, h5⟩
theorem esj_grown {base n0 B : Nat} {v5 v9 v1 : Value} {list nx nx1 : List Int} {os : List S109} {w0 W w1 : World} (h : EsJ base n0 B v5 v9 list nx os w0 W) (hg : W.grownBy w1 v9.ownBlock) (hb : Below n0 W w1) (hr : Kd.R (Kd.int .i64) 3 w1 n0 (fun _ => True) v1 nx1) : EsJ base n0 B v5 v1 list nx1 os w0 w1 := by
 obtain ⟨⟨u, hx, hR, hBl, hge, hbw⟩, h2, h3, h4, h5⟩ := h
 exact ⟨⟨u, blk_grown hx hg (Kd.R_ne h3 hx (by decide)), Kd.R_over' hR (Kd.R_typed h3) (by decide) hg, hBl.trans (hb.mono h4), hge, hbw⟩, es_low h2 hb, hr, h4, Nat.le_trans h5 hb.size⟩
theorem es_meas {i L : Nat} (hi : i < L) (hL : L ≤ 40) : L + 5 - (intOf (Value.int .i64 (wrap64 ((i : Int) + 2)))).toNat < L + 5 - (intOf (Value.int .i64 (i : Int))).toNat := by
 have : wrap64 ((i : Int) + 2) = (i : Int) + 2 := IntWalk.wrap64_in _ (by omega)
 rw [this]
 simp only [intOf]
 omega
theorem es_up2 {i L : Nat} (hi : i < L) (hL : L ≤ 40) : Value.int .i64 (wrap64 ((i : Int) + 2)) = Value.int .i64 ((i + 2 : Nat) : Int) := by
 have : wrap64 ((i : Int) + 2) = (i : Int) + 2 := IntWalk.wrap64_in _ (by omega)
 rw [this]
 rfl
section
set_option maxRecDepth 100000
def esT : Bool × List (List Nat × List Nat) := (true, [([], []), ([], []), ([], []), ([], []), ([2, 3], [2, 3]), ([4], [4]), ([], []), ([], []), ([], []), ([8], [8]), ([7, 9], [7, 9]), ([10], [10]), ([], []), ([6, 11, 12], [6, 11, 12]), ([1, 5, 13, 13], [1, 5, 13]), ([14], [14]), ([0, 15, 14], [0, 15]), ([16, 16, 0, 1, 2, 3, 4, 5, 6, 7, 8, 9, 10, 11, 12, 13, 14, 15, 16], [0, 16])])
theorem es_tab : rtab .any (opsOf Try.f46 16) = esT := by kernel_rfl
theorem es_bits : waitsOk esT.2 [0, 0, 0, 0, 12, 28, 0, 0, 0, 256, 896, 1920, 0, 8128, 16382, 32766, 65535, 131071] = true := by kernel_rfl
set_option maxHeartbeats 4000000 in
theorem es_yes (k : Nat) (b off c0 : Nat) (l : List Int) (r1 : List S109) (r2 : Int) (r3 : Bool) (w : World) (hC : Kd.C (Kd.int .i64) w (some ⟨b, off, none⟩) l.length l) (hcc : l.length ≤ c0) (hcell : ∀ j, j < l.length → w.cell? ⟨b, off + j, none⟩ = some (.int .i64 (l.getD j 0))) (hl1 : 1 ≤ l.length) (hl2 : l.length ≤ 17) (hok : impl_coefsOk.f l = some true) (hf : impl_toldCode.f k (esCode l).1 (esCode l).2 = some (r1, r2, r3)) :
  Calls Try.prog 46 #[.slice (some ⟨b, off, none⟩) l.length c0] w fun e w' => ∃ v0_ : Value, e = .returned (.tuple #[.agg #[v0_, .int .i64 r2], .bool r3]) ∧ Kd.R k109 109 w' w.heap.size (fun _ => True) v0_ r1 ∧ Below w.heap.size w w' := by
 have hb : b < w.heap.size := World.block_lt_of_cell? _ _ (hcell 0 (by omega))
 obtain ⟨w0, hw0⟩ : ∃ w0, w.alloc (.cells #[.slice none 0 0, .int .i64 0] 32) = w0 := ⟨_, rfl⟩
 have hs0 : w0.heap.size = w.heap.size + 1 := by rw [← hw0, World.size_alloc]
 have hal : ∀ j, j < l.length → w0.cell? ⟨b, off + j, none⟩ = some (.int .i64 (l.getD j 0)) := fun j hj => by rw [← hw0]; exact (World.cell?_alloc_lt _ _ ⟨b, off + j, none⟩ hb).trans (hcell j hj)
 have HCL := zz hal
 have HX0 := zz (show w0.heap[w.heap.size]? = some (.cells #[.slice none 0 0, .int .i64 0] 32 (0, 0)) by rw [← hw0]; exact blk_new w _)
 have HS0 := zz hs0
 have HB0 := zz (show Below w.heap.size w w0 by rw [← hw0]; exact zj (Below.refl _ w) _)
 have HC := zz (show Kd.C (Kd.int .i64) w0 (some ⟨b, off, none⟩) l.length l by rw [← hw0]; exact qw hC _)
 have HW0 := zz hw0
 have HLC := zz hcc
 have HOK := zz hok
 have HBL := zz (show b < w0.heap.size by omega)
 have HF := zz hf
 have HL2 := zz (And.intro hl1 hl2)
 clear hC hcc hcell hok hf hb hal hw0 hs0
 go_enter Try.func46, Try.ntmps46
 go_wp2_with (go_at_call 95; rw [HW0.out]; refine (impl_coefsOk.calls _ c0 l true _ HC.out HLC.out HOK.out).mono ?_; rintro e w2 ⟨rfl, hd_⟩; obtain ⟨n2, rfl⟩ := YtlmoemahamneoaaHand.of_drawn hd_; clear hd_)
 have hbd := zq (Below.refl w0.heap.size w0) n2
 have HWR := zz (wr_alloc (wr_new w0 (w0.drewN n2) hbd) (.cells #[] 3))
 have HPW := zz (show PwR w0.heap.size (((w0.drewN n2).alloc (.cells #[.slice none 0 0] 107)).alloc (.cells #[] 3)) (.slice (some ⟨w0.heap.size + 1, 0, none⟩) 0 0) [] by
  have h := es_new ((w0.drewN n2).alloc (.cells #[.slice none 0 0] 107))
  rw [World.size_alloc] at h
  exact Kd.R_lower h (Nat.le_succ _))
 clear hbd
 go_loopw [5, 20] (fun v5 v20 wr => ∃ i : Nat, v20 = .int .i64 (i : Int) ∧ i ≤ l.length ∧ Aside0 (PwR w0.heap.size wr v5 (esOnes i)) ∧ Aside0 (WrAt w0.heap.size w0.heap.size (esStart (l.take i)) w0 wr)) (fun _ s _ => l.length - (intOf s).toNat)
 case atStart => exact ⟨0, rfl, Nat.zero_le _, HPW, HWR⟩
 case round =>
  clear HPW HWR
  obtain ⟨i, rfl, hi, HP, HW⟩ := hrel
  by_cases hlt : i < l.length
  ·have hltz : (i : Int) < (l.length : Int) := by omega
   obtain ⟨x, hx⟩ : ∃ x, l[i] = x := ⟨_, rfl⟩
   obtain ⟨A, c, e⟩ := jj HP.out
   rw [esOnes_length] at e
   subst e
   obtain ⟨u0, hbx, -, hb0, -, hb00⟩ := id HW.out
   have k1 : wr.cell? ⟨b, off + i, none⟩ = some (.int .i64 x) := by
    refine (hb0.cell (p := ⟨b, off + i, none⟩) HBL.out).trans ((HCL.out i hlt).trans ?_)
    rw [List.getD_eq_getElem?_getD, List.getElem?_eq_getElem hlt, hx]; rfl
   have htl : (l.take i).length = i := by rw [List.length_take]; omega
   have hsn : esStart (l.take (i + 1)) = esStart (l.take i) ++ [⟨0, x, 0⟩] := by rw [List.take_succ_eq_append_getElem hlt, hx, esStart_snoc]
   have hco := const_in w0.heap.size w0.heap.size (esStart (l.take i)) w0 wr x HW.out (by rw [esStart_length, htl]; omega)
   rw [← hsn, esStart_length, htl] at hco
   have HCO := zz hco
   have HBX := zz hbx
   have HI := zz hlt
   have hl8 : ((esOnes i).length + 1) * 8 ≤ 140737488355328 := by rw [esOnes_length]; omega
   clear hlt hi hx hco hbx hb0 hb00 htl hsn
   go_wp2_with (first
    | (go_at_call 98; refine HCO.out.mono ?_; rintro e w3 ⟨rfl, hw_, hk_⟩; have HW3 := zz hw_; have HP3 := zz (pw_keep HP.out HBX.out hk_); have HB3 := zz hw_.choose_spec.2.2.1; have HS3 := zz (Nat.le_trans hw_.choose_spec.2.2.2.2 hw_.choose_spec.2.2.1.size); clear hw_ hk_)
    | (at_builtin; refine Kd.R_append (Kd.int .i64) (w0 := w0) w0.heap.size rfl (.tmp 24) (.tmp 28) 29 3 (.int .i64 0) 8 rfl Try.underlying29 gc_int rfl (by decide) (by decide) (.slice A i c) (esOnes i) ((i + 1 : Nat) : Int) [.int .i64 ((i + 1 : Nat) : Int)] (fun _ => True) (fun _ => False) rfl rfl ?aP (fun _ hk => hk.elim) ?aF ?aO ?aB ?aS hl8 ?_; (case aP => exact rfl); (case aF => exact (fun _ _ => trivial)); (case aO => exact HP3.out); (case aB => exact HB3.out); (case aS => exact HS3.out); intro v1 w4 ho_ hb_ hg_ _; have N1 := zz ho_; have N2 := zz (wr_grown HW3.out HP3.out hg_ hb_); clear ho_ hb_ hg_))
   go_roundw
   case rel => exact ⟨i + 1, rfl, HI.out, ⟨by rw [esOnes_succ]; exact N1.out⟩, N2⟩
   case measure => have := HI.out; simp only [intOf]; omega
  ·obtain rfl : i = l.length := by omega
   rw [List.take_length] at HW
   have hltz : ¬ ((l.length : Int) < (l.length : Int)) := by omega
   clear hlt hi hltz
   have HP1 := HP
   have HW1 := HW
   clear HP HW
   go_wp2
   go_loopw [5, 6] (fun v5 v6 wq => ∃ (kf : Nat) (y : Int) (list : List Int) (os : List S109), v6 = .int .i64 y ∧ Aside0 (esAll kf y list os = esCode l) ∧ Aside0 ((list.length ≤ kf + 1 ∧ 1 ≤ list.length) ∧ list.length ≤ 17 ∧ os.length + 6 * list.length ≤ 500) ∧ Aside0 (PwR w0.heap.size wq v5 list) ∧ Aside0 (WrAt w0.heap.size w0.heap.size os w0 wq)) (fun v _ _ => lenV v)
   case atStart => exact ⟨20, 0, _, _, rfl, ⟨rfl⟩, ⟨by rw [esOnes_length, esStart_length]; have := HL2.out; omega⟩, HP1, HW1⟩
   case round =>
    clear HP1 HW1
    obtain ⟨wq, rfl⟩ : ∃ wq, wq = wr := ⟨_, rfl⟩
    obtain ⟨kf, y, list, os, rfl, HE, HN, HP, HW⟩ := hrel
    obtain ⟨A, c, e⟩ := jj HP.out
    subst e
    by_cases h1 : 1 < list.length
    ·obtain ⟨k', rfl⟩ : ∃ k', kf = k' + 1 := ⟨kf - 1, by have := HN.out; omega⟩
     have he := HE.out
     rw [esAll, if_pos h1] at he
     obtain ⟨g, rfl, -⟩ := es_cell HP.out (by omega)
     obtain ⟨E, hEE⟩ : ∃ E, esRow y list os [] = E := ⟨_, rfl⟩
     rw [hEE] at he
     have HE2 := zz he
     have HEE := zz hEE
     have HEL := zz (show E.2.length = (list.length + 1) / 2 ∧ E.1.length ≤ os.length + list.length by
      have := esRow_len y list.length list os [] (Nat.le_refl _)
      rw [hEE, List.length_nil, Nat.zero_add] at this
      exact this)
     have H1 := zz h1
     have hlz : (1 : Int) < (list.length : Int) := by omega
     have HJ0 := zz (show EsJ w0.heap.size wq.heap.size w0.heap.size (.slice (some ⟨g, 0, none⟩) list.length c) (.slice (some ⟨wq.heap.size, 0, none⟩) 0 0) list [] os w0 (wq.alloc (.cells #[] 3)) from
      ⟨wr_alloc HW.out _, qq (jz (jq HP.out) (fun k hk => hk.2.2.1)) _, es_new wq, by obtain ⟨u, _, _, hB, _, hw⟩ := HW.out; exact Nat.le_trans hw hB.size, by rw [World.size_alloc]; omega⟩)
     obtain ⟨N0, hN0⟩ : ∃ N0, wq.heap.size = N0 := ⟨_, rfl⟩
     have HN0 := zz hN0
     rw [hN0] at HJ0
     clear he hEE HE HP HW h1
     go_wp2
     go_loopw [9, 10] (fun v9 v10 wz => ∃ (i : Nat) (nx : List Int) (os1 : List S109), v10 = .int .i64 (i : Int) ∧ Aside0 (esRow y (list.drop i) os1 nx = E) ∧ Aside0 (i ≤ list.length + 1 ∧ os1.length ≤ os.length + i ∧ nx.length ≤ i) ∧ Aside0 (EsJ w0.heap.size N0 w0.heap.size (.slice (some ⟨g, 0, none⟩) list.length c) v9 list nx os1 w0 wz)) (fun _ s _ => list.length + 5 - (intOf s).toNat)
     case atStart => exact ⟨0, [], os, rfl, ⟨by rw [List.drop_zero]; exact HEE.out⟩, ⟨by omega, by omega, by simp⟩, HJ0⟩
     case round =>
      clear HJ0
      obtain ⟨wz, rfl⟩ : ∃ wz, wz = wr := ⟨_, rfl⟩
      obtain ⟨i, nx, os1, rfl, HR, HI, HJ⟩ := hrel
      obtain ⟨A9, c9, e9⟩ := jj HJ.out.2.2.1
      subst e9
      obtain ⟨g', hg', hcells⟩ := es_cell HJ.out.2.1 (by omega)
      injection hg' with hg'
      injection hg' with hg'
      subst hg'
      have HCE := zz hcells
      have hL17 : list.length ≤ 17 := by have := HN.out; omega
      by_cases hlt : i < list.length
      ·have hr := HR.out
       obtain ⟨a, ha⟩ : ∃ a, list[i] = a := ⟨_, rfl⟩
       have q1 : wz.cell? ⟨g, i, none⟩ = some (.int .i64 a) := by
        refine (hcells i hlt).trans ?_
        rw [List.getD_eq_getElem?_getD, List.getElem?_eq_getElem hlt, ha]; rfl
       rw [List.drop_eq_getElem_cons hlt, ha] at hr
       have hz1 : (i : Int) < (list.length : Int) := by omega
       have HLT := zz hlt
       have hl8 : (nx.length + 1) * 8 ≤ 140737488355328 := by have := HI.out; omega
       by_cases hp : i + 1 < list.length
       ·obtain ⟨b2, hb2⟩ : ∃ b2, list[i + 1] = b2 := ⟨_, rfl⟩
        rw [List.drop_eq_getElem_cons hp, hb2, esRow] at hr
        have q2 : wz.cell? ⟨g, i + 1, none⟩ = some (.int .i64 b2) := by
         refine (hcells (i + 1) hp).trans ?_
         rw [List.getD_eq_getElem?_getD, List.getElem?_eq_getElem hp, hb2]; rfl
        have HRR := zz hr
        have hw1 : IntKind.i64.wrap ((i : Int) + 1) = (i : Int) + 1 := IntWalk.i64_in _ (by omega)
        have hz2 : (0 : Int) ≤ (i : Int) + 1 := by omega
        have hz3 : (i : Int) + 1 < (list.length : Int) := by omega
        have hz4 : ((i : Int) + 1).toNat = i + 1 := by omega
        have hz5 : ((i : Int) + 1 == (list.length : Int)) = false := beq_eq_false_iff_ne.mpr (by omega)
        obtain ⟨m, hm⟩ : ∃ m, os1.length = m := ⟨_, rfl⟩
        have HM := zz hm
        have HMB := zz (show m ≤ 600 by have := HI.out; have := HN.out; omega)
        have KY := zz (fun (V : World) (nx1 : List Int) (v9 : Value) (os2 : List S109) (h : EsJ w0.heap.size N0 w0.heap.size (.slice (some ⟨g, 0, none⟩) list.length c) v9 list nx1 os2 w0 V) => (by
         obtain ⟨g', hg', hc⟩ := es_cell h.2.1 (by omega)
         injection hg' with hg'
         injection hg' with hg'
         subst hg'
         refine ⟨(hc i hlt).trans ?_, (hc (i + 1) hp).trans ?_⟩
         ·rw [List.getD_eq_getElem?_getD, List.getElem?_eq_getElem hlt, ha]; rfl
         ·rw [List.getD_eq_getElem?_getD, List.getElem?_eq_getElem hp, hb2]; rfl : V.cell? ⟨g, i, none⟩ = some (.int .i64 a) ∧ V.cell? ⟨g, i + 1, none⟩ = some (.int .i64 b2)))
        clear hr ha hb2 hcells hm hlt hp HCE
        go_wp2
        refine start_ (n := 18) (S := fun w' => w'.cell? ⟨g, i, none⟩ = some (.int .i64 a) ∧ w'.cell? ⟨g, i + 1, none⟩ = some (.int .i64 b2)) (ds := []) #[false, false, false, false, false, false, false, false, false, false, false, false, false, false, false, false, false, false] (by kernel_rfl) rfl rfl (KY.out _ _ _ _ (esj_drew HJ.out)) (fun hHeld => ?_)
        refine with_tabW es_tab es_bits (fun HT_ HW_ => ?_)
        have HJ2 := zz (esj_drew HJ.out)
        clear HJ q1 q2
        generalize wz.drew = V2 at HJ2 hHeld ⊢
        refine pure_ (i := 0) (N := some 53) (v := ?_) (a' := ?_) #[true, false, false, false, false, false, false, false, false, false, false, false, false, false, false, false, false, false] rfl rfl (jk HT_.out (by kernel_rfl)) (fun _ _ _ h => h) (Or.inl ⟨by rfl, ?_⟩) ?_ ?_
        rotate_left
        ·intro w'
         go_simp
         with_reducible rfl
        rotate_left
        ·simp only [Act.put, qz, qx, qk, yz, yq]
         rfl
        refine pure_ (i := 1) (N := some 54) (v := ?_) (a' := ?_) #[true, true, false, false, false, false, false, false, false, false, false, false, false, false, false, false, false, false] rfl rfl (jk HT_.out (by kernel_rfl)) (fun _ _ _ h => h) (Or.inl ⟨by rfl, ?_⟩) ?_ ?_
        rotate_left
        ·intro w'
         go_simp
         with_reducible rfl
        rotate_left
        ·simp only [Act.put, qz, qx, qk, yz, yq]
         rfl
        refine pure_ (i := 2) (N := some 55) (v := ?_) (a' := ?_) #[true, true, true, false, false, false, false, false, false, false, false, false, false, false, false, false, false, false] rfl rfl (jk HT_.out (by kernel_rfl)) (fun _ _ _ h => h) (Or.inl ⟨by rfl, ?_⟩) ?_ ?_
        rotate_left
        ·intro w'
         go_simp
         with_reducible rfl
        rotate_left
        ·simp only [Act.put, qz, qx, qk, yz, yq]
         rfl
        refine pure_ (i := 3) (N := some 56) (v := ?_) (a' := ?_) #[true, true, true, true, false, false, false, false, false, false, false, false, false, false, false, false, false, false] rfl rfl (jk HT_.out (by kernel_rfl)) (fun _ _ _ h => h) (Or.inl ⟨by rfl, ?_⟩) ?_ ?_
        rotate_left
        ·intro w'
         go_simp
         with_reducible rfl
        rotate_left
        ·simp only [Act.put, qz, qx, qk, yz, yq]
         rfl
        refine pure_ (i := 6) (N := some 59) (v := ?_) (a' := ?_) #[true, true, true, true, false, false, true, false, false, false, false, false, false, false, false, false, false, false] rfl rfl (jk HT_.out (by kernel_rfl)) (fun _ _ _ h => h) (Or.inl ⟨by rfl, ?_⟩) ?_ ?_
        rotate_left
        ·intro w'
         go_simp
         with_reducible rfl
        rotate_left
        ·simp only [Act.put, qz, qx, qk, yz, yq]
         rfl
        refine pure_ (i := 7) (N := some 60) (v := ?_) (a' := ?_) #[true, true, true, true, false, false, true, true, false, false, false, false, false, false, false, false, false, false] rfl rfl (jk HT_.out (by kernel_rfl)) (fun _ _ _ h => h) (Or.inl ⟨by rfl, ?_⟩) ?_ ?_
        rotate_left
        ·intro w'
         go_simp
         with_reducible rfl
        rotate_left
        ·simp only [Act.put, qz, qx, qk, yz, yq]
         rfl
        refine pure_ (i := 8) (N := some 61) (v := ?_) (a' := ?_) #[true, true, true, true, false, false, true, true, true, false, false, false, false, false, false, false, false, false] rfl rfl (jk HT_.out (by kernel_rfl)) (fun _ _ _ h => h) (Or.inl ⟨by rfl, ?_⟩) ?_ ?_
        rotate_left
        ·intro w'
         go_simp
         with_reducible rfl
        rotate_left
        ·simp only [Act.put, qz, qx, qk, yz, yq]
         rfl
        refine pure_ (i := 12) (N := some 65) (v := ?_) (a' := ?_) #[true, true, true, true, false, false, true, true, true, false, false, false, true, false, false, false, false, false] rfl rfl (jk HT_.out (by kernel_rfl)) (fun _ _ _ h => h) (Or.inl ⟨by rfl, ?_⟩) ?_ ?_
        rotate_left
        ·intro w'
         go_simp
         with_reducible rfl
        rotate_left
        ·simp only [Act.put, qz, qx, qk, yz, yq]
         rfl
        refine pure_ (i := 4) (N := some 57) (v := ?_) (a' := ?_) #[true, true, true, true, true, false, true, true, true, false, false, false, true, false, false, false, false, false] rfl rfl (jk HT_.out (by kernel_rfl)) (fun _ _ _ h => h) (Or.inl ⟨by rfl, ?_⟩) ?_ ?_
        rotate_left
        ·intro w'
         go_simp
         with_reducible rfl
        rotate_left
        ·simp only [Act.put, qz, qx, qk, yz, yq]
         rfl
        refine pure_ (i := 9) (N := some 62) (v := ?_) (a' := ?_) #[true, true, true, true, true, false, true, true, true, true, false, false, true, false, false, false, false, false] rfl rfl (jk HT_.out (by kernel_rfl)) (fun _ _ _ h => h) (Or.inl ⟨by rfl, ?_⟩) ?_ ?_
        rotate_left
        ·intro w'
         go_simp
         with_reducible rfl
        rotate_left
        ·simp only [Act.put, qz, qx, qk, yz, yq]
         rfl
        refine pure_ (i := 10) (N := some 63) (v := ?_) (a' := ?_) #[true, true, true, true, true, false, true, true, true, true, true, false, true, false, false, false, false, false] rfl rfl (jk HT_.out (by kernel_rfl)) (fun _ _ _ h => h) (Or.inl ⟨by rfl, ?_⟩) ?_ ?_
        rotate_left
        ·intro w'
         go_simp
         with_reducible rfl
        rotate_left
        ·simp only [Act.put, qz, qx, qk, yz, yq]
         rfl
        refine take_ (i := 5) (N := some 58) (v := ?_) (a' := ?_) #[true, true, true, true, true, true, true, true, true, true, true, false, true, false, false, false, false, false] rfl rfl (take_ofW HT_.out HW_.out (by kernel_rfl)) (fun _ _ _ h => h) (Or.inl ⟨by rfl, ?_⟩) hHeld ?_ ?_
        rotate_left
        ·rintro w' ⟨s0, s1⟩
         go_simp
         with_reducible rfl
        rotate_left
        ·simp only [Act.put, qz, qx, qk, yz, yq]
         rfl
        refine take_ (i := 11) (N := some 64) (v := ?_) (a' := ?_) #[true, true, true, true, true, true, true, true, true, true, true, true, true, false, false, false, false, false] rfl rfl (take_ofW HT_.out HW_.out (by kernel_rfl)) (fun _ _ _ h => h) (Or.inl ⟨by rfl, ?_⟩) hHeld ?_ ?_
        rotate_left
        ·rintro w' ⟨s0, s1⟩
         go_simp
         with_reducible rfl
        rotate_left
        ·simp only [Act.put, qz, qx, qk, yz, yq]
         rfl
        refine one_ (i := 13) (N := some 66) #[true, true, true, true, true, true, true, true, true, true, true, true, true, true, false, false, false, false] rfl rfl (jv HT_.out (by kernel_rfl)) (by decide) (fun K hK => ?_)
        refine goes_ Try.func100 (by kernel_rfl) rfl #[.pointer (some ⟨w0.heap.size, 0, none⟩), .int .i64 3, .int .i64 b2, .int .i64 y] (by rfl) rfl rfl (by (try simp only [qv, List.map_cons, List.map_nil]); first | done | rfl) ?_
        refine (esj_put m 3 b2 y HJ2.out HM.out (by have := HMB.out; omega)).mono ?_
        rintro e V3 ⟨rfl, j_⟩
        refine ⟨_, rfl, ?_⟩
        have HJ3 := zz j_
        clear j_ HJ2
        refine hK.out _ _ (KY.out _ _ _ _ HJ3.out) (fun hHeld => ?_)
        clear hK K
        refine norm_ (a' := ?_) ?_ ?_
        rotate_left
        ·show Act.put _ (some 66) _ = _
         simp only [Act.put, qz, qx, qk, yz, yq]
         rfl
        refine one_ (i := 14) (N := some 67) #[true, true, true, true, true, true, true, true, true, true, true, true, true, true, true, false, false, false] rfl rfl (jv HT_.out (by kernel_rfl)) (by decide) (fun K hK => ?_)
        refine goes_ Try.func100 (by kernel_rfl) rfl #[.pointer (some ⟨w0.heap.size, 0, none⟩), .int .i64 1, .int .i64 a, .int .i64 ((m : Int) + 1)] (by rfl) rfl rfl (by (try simp only [qv, List.map_cons, List.map_nil]); first | done | rfl) ?_
        refine (esj_put (m + 1) 1 a ((m : Int) + 1) HJ3.out (by rw [List.length_append, HM.out]; rfl) (by have := HMB.out; omega)).mono ?_
        rintro e V4 ⟨rfl, j_⟩
        refine ⟨_, rfl, ?_⟩
        have HJ4 := zz j_
        clear j_ HJ3
        refine hK.out _ _ (KY.out _ _ _ _ HJ4.out) (fun hHeld => ?_)
        clear hK K
        refine norm_ (a' := ?_) ?_ ?_
        rotate_left
        ·show Act.put _ (some 67) _ = _
         simp only [Act.put, qz, qx, qk, yz, yq]
         rfl
        refine one_ (i := 15) (N := some 68) #[true, true, true, true, true, true, true, true, true, true, true, true, true, true, true, true, false, false] rfl rfl (jv HT_.out (by kernel_rfl)) (by decide) (fun K hK => ?_)
        refine value_ (w1 := ?_) (v := ?_) (by rfl) rfl ?_ ?_
        rotate_left 2
        ·go_simp
         constructor
         ·rfl
         ·rfl
        refine hK.out _ _ (KY.out _ _ _ _ (esj_alloc HJ4.out _)) (fun hHeld => ?_)
        clear hK K
        refine norm_ (a' := ?_) ?_ ?_
        rotate_left
        ·show Act.put _ (some 68) _ = _
         simp only [Act.put, qz, qx, qk, yz, yq]
         rfl
        refine one_ (i := 16) (N := some 69) #[true, true, true, true, true, true, true, true, true, true, true, true, true, true, true, true, true, false] rfl rfl (jv HT_.out (by kernel_rfl)) (by decide) (fun K hK => ?_)
        refine Kd.R_append_step (Kd.int .i64) (w0 := V4) N0 (by rfl) (.tmp 53) (.tmp 68) 29 3 (.int .i64 0) 8 rfl Try.underlying29 gc_int rfl (by decide) (by decide) (.slice A9 nx.length c9) nx (((m + 1 : Nat) : Int) + 1) [.int .i64 (((m + 1 : Nat) : Int) + 1)] (fun _ => True) (fun _ => False) rfl rfl ?aP (fun _ hk => hk.elim) ?aF ?aO ?aB ?aS hl8 ?_
        (case aP => exact rfl)
        (case aF => exact fun _ _ => trivial)
        (case aO => exact HJ4.out.2.2.1)
        (case aB => exact Below.refl _ _)
        (case aS => exact HJ4.out.2.2.2.2)
        intro v8 w8 ho hb hg hat
        have HJ5 := zz (esj_grown HJ4.out hg hb ho)
        clear ho hb hg hat HJ4
        refine hK.out _ _ (KY.out _ _ _ _ HJ5.out) (fun hHeld => ?_)
        clear hK K
        refine norm_ (a' := ?_) ?_ ?_
        rotate_left
        ·show Act.put _ (some 69) _ = _
         simp only [Act.put, qz, qx, qk, yz, yq]
         rfl
        refine pure_ (i := 17) (N := some 9) (v := ?_) (a' := ?_) #[true, true, true, true, true, true, true, true, true, true, true, true, true, true, true, true, true, true] rfl rfl (jk HT_.out (by kernel_rfl)) (fun _ _ _ h => h) (Or.inl ⟨by rfl, ?_⟩) ?_ ?_
        rotate_left
        ·intro w'
         go_simp
         with_reducible rfl
        rotate_left
        ·simp only [Act.put, qz, qx, qk, yz, yq]
         rfl
        refine done_ (done_of HT_.out (by kernel_rfl)) ?_
        clear HT_ HW_ hHeld
        go_wp2
        go_roundw
        case rel => exact ⟨i + 2, nx ++ [((m + 1 : Nat) : Int) + 1], os1 ++ [⟨3, b2, y⟩] ++ [⟨1, a, (m : Int) + 1⟩], by first | rfl | exact es_up2 HLT.out (by omega), ⟨by have h := HRR.out; rw [HM.out] at h; exact h⟩, ⟨by have := HI.out; have := HLT.out; omega, by have := HI.out; simp only [List.length_append, List.length_cons, List.length_nil]; omega, by have := HI.out; simp only [List.length_append, List.length_cons, List.length_nil]; omega⟩, HJ5⟩
        case measure => first | exact es_meas HLT.out (by omega) | (have := HLT.out; simp only [intOf]; omega)
       ·have hi1 : i + 1 = list.length := by omega
        rw [List.drop_of_length_le (by omega), esRow] at hr
        have HRR := zz hr
        have hz5 : ((i : Int) + 1 == (list.length : Int)) = true := beq_iff_eq.mpr (by omega)
        have hw1 : wrap64 ((i : Int) + 1) = (i : Int) + 1 := by unfold wrap64; omega
        have HI1 := zz hi1
        clear hr ha hcells hlt hp HCE hi1
        go_wp2_with (at_builtin; refine Kd.R_append (Kd.int .i64) (w0 := wz) N0 rfl (.tmp 46) (.tmp 51) 29 3 (.int .i64 0) 8 rfl Try.underlying29 gc_int rfl (by decide) (by decide) (.slice A9 nx.length c9) nx a [.int .i64 a] (fun _ => True) (fun _ => False) rfl rfl ?aP (fun _ hk => hk.elim) ?aF ?aO ?aB ?aS hl8 ?_; (case aP => exact rfl); (case aF => exact (fun _ _ => trivial)); (case aO => exact HJ.out.2.2.1); (case aB => exact Below.refl _ _); (case aS => exact HJ.out.2.2.2.2); intro v1 w4 ho_ hb_ hg_ _; have HJ5 := zz (esj_grown HJ.out hg_ hb_ ho_); clear ho_ hb_ hg_)
        go_roundw
        case rel => exact ⟨i + 2, nx ++ [a], os1, by first | rfl | exact es_up2 HLT.out (by omega), ⟨by rw [List.drop_of_length_le (by have := HI1.out; omega), esRow]; exact HRR.out⟩, ⟨by have := HI1.out; omega, by have := HI.out; omega, by have := HI.out; simp only [List.length_append, List.length_cons, List.length_nil]; omega⟩, HJ5⟩
        case measure => first | exact es_meas HLT.out (by omega) | (have := HLT.out; simp only [intOf]; omega)
      ·have hr := HR.out
       rw [List.drop_of_length_le (by omega), esRow] at hr
       subst hr
       have hz1 : ¬ ((i : Int) < (list.length : Int)) := by omega
       dsimp only at HE2 HEL
       clear hlt hcells HCE
       by_cases h2 : 1 < nx.length
       ·have he := HE2.out
        rw [if_pos h2] at he
        have HE3 := zz he
        have h2z : (1 : Int) < (nx.length : Int) := by omega
        have H2 := zz h2
        have HPU := zz (esj_put os1.length 3 y y HJ.out rfl (by have := HN.out; have := HEL.out; omega))
        clear he h2
        go_wp2_with (go_at_call 100; refine HPU.out.mono ?_; rintro e w4 ⟨rfl, j_⟩; have HJ6 := zz j_; clear j_)
        go_roundw
        case rel => exact ⟨k', _, nx, os1 ++ [⟨3, y, y⟩], rfl, HE3, ⟨by have := HN.out; have := HEL.out; have := H1.out; rw [List.length_append, List.length_singleton]; omega⟩, ⟨Kd.R_lower HJ6.out.2.2.1 HJ6.out.2.2.2.1⟩, ⟨HJ6.out.1⟩⟩
        case measure => have := HEL.out; have := H1.out; simp only [lenV]; omega
       ·have he := HE2.out
        rw [if_neg h2] at he
        have HE3 := zz he
        have h2z : ¬ (1 : Int) < (nx.length : Int) := by omega
        clear he h2
        go_wp2
        go_roundw
        case rel => exact ⟨k', y, nx, os1, rfl, HE3, ⟨by have := HN.out; have := HEL.out; have := H1.out; omega⟩, ⟨Kd.R_lower HJ.out.2.2.1 HJ.out.2.2.2.1⟩, ⟨HJ.out.1⟩⟩
        case measure => have := HEL.out; have := H1.out; simp only [lenV]; omega
    ·have hend : list.length = 1 := by have := HN.out; omega
     obtain ⟨g, rfl, hcells⟩ := es_cell HP.out (by omega)
     have he := HE.out
     have hval : esAll kf y list os = (os, list.headD 0) := by
      cases kf with
      | zero => rfl
      | succ k' => rw [esAll, if_neg h1]
     rw [hval] at he
     obtain ⟨o0, ho0⟩ : ∃ o0, list.headD 0 = o0 := ⟨_, rfl⟩
     rw [ho0] at he
     have hx0 : wq.cell? ⟨g, 0, none⟩ = some (.int .i64 o0) := by
      refine (hcells 0 (by omega)).trans ?_
      rw [← ho0]
      cases list with
      | nil => simp at hend
      | cons z t => rfl
     have h1z : ¬ (1 : Int) < (list.length : Int) := by omega
     have hl0 : (0 : Int) < (list.length : Int) := by omega
     have hl0n : 0 < list.length := by omega
     have hX : wq.heap[w.heap.size]? = some (.cells #[.slice none 0 0, .int .i64 0] 32 (0, 0)) := by
      obtain ⟨u, _, _, hB, _, _⟩ := HW.out
      exact (hB.block _ (by have := HS0.out; omega)).trans HX0.out
     have hf := HF.out
     rw [← he] at hf
     have CO := zz (code_in k w0.heap.size os o0 r1 r2 r3 w.heap.size _ w0 wq HW.out hX hf)
     clear he hval ho0 hX hf hcells hend h1 HE
     go_wp2_with (go_at_call 97; refine CO.out.mono ?_; rintro e w5 ⟨v0, rfl, hR1, hB1, hX3⟩; obtain ⟨A3, c3, e3⟩ := jj hR1; subst e3; have HR1 := zz (Kd.R_lower hR1 (show w.heap.size ≤ _ by rw [HS0.out]; omega)); have HB1 := zz (zw HB0.out hB1); have HX := zz hX3; have s0 : w5.cell? ⟨w.heap.size, 0, none⟩ = some (.slice none 0 0) := (zk hX3 0).trans rfl; have s1 : w5.cell? ⟨w.heap.size, 1, none⟩ = some (.int .i64 0) := (zk hX3 1).trans rfl; have f0 : w5.frozen? ⟨w.heap.size, 0, none⟩ = false := blk_frozen hX3 0; have f1 : w5.frozen? ⟨w.heap.size, 1, none⟩ = false := blk_frozen hX3 1; clear hR1 hB1 hX3)
     refine bodyPost_ret (results_ct rfl _ _ w.heap.size 32 #[.slice A3 r1.length c3, .int .i64 r2] (0, 0) _ rfl (zv (zv HX.out 0 _ rfl) 1 _ rfl) Try.underlying32 rfl (by kernel_rfl)) rfl ?_
     refine ⟨_, rfl, ?_, Below.setCell (Below.setCell HB1.out (p := ⟨w.heap.size, 0, none⟩) (Nat.le_refl _) _) (p := ⟨w.heap.size, 1, none⟩) (Nat.le_refl _) _⟩
     have hX1 := zv HX.out 0 (.slice A3 r1.length c3) rfl
     exact jz (ok' := fun _ => True) (Kd.R_far (p := ⟨w.heap.size, 1, none⟩) (Kd.R_types (jz (ok' := fun _ => True) (Kd.R_far (p := ⟨w.heap.size, 0, none⟩) (Kd.R_types HR1.out HX.out (by decide)) (fun _ hk => hk.2) (.slice A3 r1.length c3)) (fun _ _ => trivial)) hX1 (by decide)) (fun _ hk => hk.2) (.int .i64 r2)) (fun _ hk => trivial)
set_option maxHeartbeats 2000000 in
theorem es_no (A : Option Addr) (c0 : Nat) (l : List Int) (w : World) (hC : Kd.C (Kd.int .i64) w A l.length l) (hcc : l.length ≤ c0) (hok : impl_coefsOk.f l = some false) :
  Calls Try.prog 46 #[.slice A l.length c0] w fun e w' => ∃ v0_ : Value, e = .returned (.tuple #[.agg #[v0_, .int .i64 0], .bool false]) ∧ Kd.R k109 109 w' w.heap.size (fun _ => True) v0_ [] ∧ Below w.heap.size w w' := by
 have HC := zz hC
 have HLC := zz hcc
 have HOK := zz hok
 clear hC hcc hok
 go_enter Try.func46, Try.ntmps46
 go_wp2_with (go_at_call 95; refine (impl_coefsOk.calls _ c0 l _ _ (qw HC.out _) HLC.out HOK.out).mono ?_; rintro e w2 ⟨rfl, hd_⟩; obtain ⟨n2, rfl⟩ := YtlmoemahamneoaaHand.of_drawn hd_; clear hd_; have s0 : ((w.alloc (.cells #[.slice none 0 0, .int .i64 0] 32)).drewN n2).cell? ⟨w.heap.size, 0, none⟩ = some (.slice none 0 0) := (zk (zx (blk_new w _) n2) 0).trans rfl; have s1 : ((w.alloc (.cells #[.slice none 0 0, .int .i64 0] 32)).drewN n2).cell? ⟨w.heap.size, 1, none⟩ = some (.int .i64 0) := (zk (zx (blk_new w _) n2) 1).trans rfl)
 refine bodyPost_ret (results_ct rfl _ _ w.heap.size 32 #[.slice none 0 0, .int .i64 0] (0, 0) _ rfl (zv (zv (zx (blk_new w _) _) 0 _ rfl) 1 _ rfl) Try.underlying32 rfl (by kernel_rfl)) rfl ?_
 exact ⟨_, rfl, Kd.R_nil _ _ _ _ _, Below.setCell (Below.setCell (zq (zj (Below.refl _ _) _) _) (p := ⟨w.heap.size, 0, none⟩) (Nat.le_refl _) _) (p := ⟨w.heap.size, 1, none⟩) (Nat.le_refl _) _⟩
end
def impl_EstrinCode.f (k : Nat) (l0 : List Int) : Option (List (S109) × Int × Bool) := (impl_coefsOk.f l0).bind fun c => if c = true then impl_toldCode.f k (esCode l0).1 (esCode l0).2 else some ([], 0, false)
theorem impl_EstrinCode.mono : ∀ (a0 : List Int) (k : Nat), LeO (impl_EstrinCode.f k a0) (impl_EstrinCode.f (k + 1) a0) := by
 intro a0 k
 unfold impl_EstrinCode.f
 exact jw (jx _) (fun _ => LeO.ite (impl_toldCode.mono _ _ _) (jx _))
theorem impl_EstrinCode.calls (k : Nat) (A0 : Option Addr) (c0 : Nat) (l0 : List Int) (r1 : List (S109)) (r2 : Int) (r3 : Bool) (w : World) (hr0 : Kd.C (Kd.int .i64) w A0 l0.length l0) (hc0 : l0.length ≤ c0) (h : impl_EstrinCode.f k l0 = some (r1, r2, r3)) :
  Calls Try.prog 46 #[.slice A0 l0.length c0] w fun e w' => ∃ v0_ : Value, e = .returned (.tuple #[.agg #[v0_, .int .i64 r2], .bool r3]) ∧ Kd.R k109 109 w' w.heap.size (fun _ => True) v0_ r1 ∧ Below w.heap.size w w' := by
 unfold impl_EstrinCode.f at h
 obtain ⟨c, hok, h1⟩ := Option.bind_eq_some_iff.mp h
 clear h
 cases c with
 | true =>
  rw [if_pos rfl] at h1
  obtain ⟨hl1, hl2⟩ := gc_coefs hok
  rcases YtlmoemahamneoaaHand.int_slice hr0 with h0 | ⟨b, off, rfl, _, hcells⟩
  ·subst h0; simp at hl1
  ·exact es_yes k b off c0 l0 r1 r2 r3 w hr0 hc0 hcells hl1 hl2 hok h1
 | false =>
  rw [if_neg (by simp)] at h1
  simp only [Option.some.injEq, Prod.mk.injEq] at h1
  obtain ⟨rfl, rfl, rfl⟩ := h1
  exact es_no A0 c0 l0 w hr0 hc0 hok
theorem po_clone (A : Option Addr) (c : Nat) (zs : List Int) (W : World) (hC : Kd.C (Kd.int .i64) W A zs.length zs) (hl : zs.length ≤ 1000) :
  Calls Try.prog 132 #[.slice A zs.length c] W fun e w' => ∃ v, e = .returned v ∧ Kd.R (Kd.int .i64) 3 w' W.heap.size (fun _ => True) v zs ∧ Below W.heap.size W w' := by
 rcases YtlmoemahamneoaaHand.int_slice hC with h0 | ⟨b, off, rfl, hpos, hcells⟩
 ·subst h0
  cases A with
  | none => exact (Try.slices_Clone_int_nil 0 c W).mono fun e w' ⟨he, hw⟩ => ⟨_, he, Kd.R_nil _ _ _ _ _, by subst hw; exact Below.refl _ _⟩
  | some a => exact (Try.slices_Clone_int_zero a c W).mono fun e w' ⟨v, he, ho, _, hb⟩ => ⟨v, he, Kd.R_of_own (xs := []) ho (fun _ _ => trivial), hb⟩
 ·exact (Try.slices_Clone_int b off zs.length c zs W (Nat.le_refl _) (by omega) hcells).mono fun e w' ⟨v, he, ho, _, hb⟩ => ⟨v, he, by rw [List.take_length] at ho; exact Kd.R_of_own ho (fun _ _ => trivial), hb⟩
def impl_PolynomialOf.f (k : Nat) (l0_0 : List (S109)) (a0_1 : Int) : Option (List Int × Bool) := (polysF k l0_0 a0_1).bind fun p => if p.2 = true then (if (0 ≤ a0_1 ∧ a0_1 < (p.1.length : Int)) ∧ (rdLL p.1 a0_1).length ≤ 1000 then some (rdLL p.1 a0_1, true) else none) else some ([], false)
theorem impl_PolynomialOf.mono : ∀ (l0_0 : List (S109)) (a0_1 : Int) (k : Nat), LeO (impl_PolynomialOf.f k l0_0 a0_1) (impl_PolynomialOf.f (k + 1) l0_0 a0_1) := by
 intro l a k
 unfold impl_PolynomialOf.f
 exact jw (polysF_mono l a k) (fun _ => jx _)
section
set_option maxRecDepth 100000
set_option maxHeartbeats 1000000 in
theorem po_no (k : Nat) (A0 : Option Addr) (c0 : Nat) (ops : List S109) (out : Int) (R : List (List Int)) (w : World) (hC : Kd.C k109 w A0 ops.length ops) (H : polysF k ops out = some (R, false)) :
  Calls Try.prog 47 #[.agg #[.slice A0 ops.length c0, .int .i64 out]] w fun e w' => ∃ v0_ : Value, e = .returned (.tuple #[v0_, .bool false]) ∧ Kd.R (Kd.int .i64) 3 w' w.heap.size (fun _ => True) v0_ [] ∧ Below w.heap.size w w' := by
 have PL := zz (polys_in k w.heap.size A0 c0 ops out R false (w.alloc (.cells #[.slice A0 ops.length c0, .int .i64 out] 32)) (qw hC _) (blk_new w _) H)
 clear hC H
 go_enter Try.func47, Try.ntmps47
 go_wp2_with (go_at_call 131; refine PL.out.mono ?_; rintro e w1 ⟨v, rfl, -, hb_⟩; have HB := zz (zw (zj (Below.refl _ w) _) hb_); clear hb_)
 go_ret2
 exact ⟨_, rfl, Kd.R_nil _ _ _ _ _, HB.out⟩
set_option maxHeartbeats 1000000 in
theorem po_yes (k : Nat) (A0 : Option Addr) (c0 : Nat) (ops : List S109) (out : Int) (R : List (List Int)) (w : World) (hC : Kd.C k109 w A0 ops.length ops) (H : polysF k ops out = some (R, true)) (h0 : 0 ≤ out) (h1 : out < (R.length : Int)) (hl : (rdLL R out).length ≤ 1000) :
  Calls Try.prog 47 #[.agg #[.slice A0 ops.length c0, .int .i64 out]] w fun e w' => ∃ v0_ : Value, e = .returned (.tuple #[v0_, .bool true]) ∧ Kd.R (Kd.int .i64) 3 w' w.heap.size (fun _ => True) v0_ (rdLL R out) ∧ Below w.heap.size w w' := by
 have PL := zz (polys_in k w.heap.size A0 c0 ops out R true (w.alloc (.cells #[.slice A0 ops.length c0, .int .i64 out] 32)) (qw hC _) (blk_new w _) H)
 have HL := zz hl
 have HX := zz (blk_new w (.cells #[.slice A0 ops.length c0, .int .i64 out] 32))
 clear hC H hl
 go_enter Try.func47, Try.ntmps47
 go_wp2_with (first
  | (go_at_call 131; refine PL.out.mono ?_; rintro e w1 ⟨v, rfl, hr_, hb_⟩; obtain ⟨g, cap, A, c, rfl, hc_, hl_, hC_⟩ := rowsAt_get hr_ out h0 h1; have hx_ : w1.cell? ⟨w.heap.size, 1, none⟩ = some (.int .i64 out) := (zk (blk_below HX.out hb_) 1).trans rfl; have CL := zz (po_clone A c (rdLL R out) w1 hC_ HL.out); have HB := zz (zw (zj (Below.refl _ w) _) hb_); clear hr_ hb_ hC_)
  | (go_at_call 132; refine CL.out.mono ?_; rintro e w2 ⟨v2, rfl, hr2_, hb2_⟩; have HR := zz (Kd.R_lower hr2_ HB.out.size); have HB2 := zz (zw HB.out hb2_); clear hr2_ hb2_))
 go_ret2
 exact ⟨_, rfl, HR.out, HB2.out⟩
end
theorem impl_PolynomialOf.calls (k : Nat) (A0_0 : Option Addr) (c0_0 : Nat) (l0_0 : List (S109)) (a0_1 : Int) (r1 : List Int) (r2 : Bool) (w : World) (hr0_0 : Kd.C k109 w A0_0 l0_0.length l0_0) (hc0_0 : l0_0.length ≤ c0_0) (h : impl_PolynomialOf.f k l0_0 a0_1 = some (r1, r2)) :
  Calls Try.prog 47 #[.agg #[.slice A0_0 l0_0.length c0_0, .int .i64 a0_1]] w fun e w' => ∃ v0_ : Value, e = .returned (.tuple #[v0_, .bool r2]) ∧ Kd.R (Kd.int .i64) 3 w' w.heap.size (fun _ => True) v0_ r1 ∧ Below w.heap.size w w' := by
 unfold impl_PolynomialOf.f at h
 obtain ⟨⟨R, b⟩, hp, h1⟩ := Option.bind_eq_some_iff.mp h
 clear h
 cases b with
 | true =>
  rw [if_pos rfl] at h1
  by_cases hy : (0 ≤ a0_1 ∧ a0_1 < (R.length : Int)) ∧ (rdLL R a0_1).length ≤ 1000
  ·rw [if_pos hy] at h1
   simp only [Option.some.injEq, Prod.mk.injEq] at h1
   obtain ⟨rfl, rfl⟩ := h1
   exact po_yes k A0_0 c0_0 l0_0 a0_1 R w hr0_0 hp hy.1.1 hy.1.2 hy.2
  ·rw [if_neg hy] at h1; cases h1
 | false =>
  rw [if_neg (by simp)] at h1
  simp only [Option.some.injEq, Prod.mk.injEq] at h1
  obtain ⟨rfl, rfl⟩ := h1
  exact po_no k A0_0 c0_0 l0_0 a0_1 R w hr0_0 hp
def laws_pSameInts.l0 : Nat → List Int → List Int → Int → Int → Option (Bool)
 | 0, _, _, _, _ => none
 | k + 1, x0, x1, x12, x13 => if x13 < x12 then (if 0 ≤ x13 then (if x13 < (x0.length : Int) then (if x13 < (x1.length : Int) then (if (rd x0 x13) = (rd x1 x13) then (laws_pSameInts.l0 k x0 x1 x12 (wrap64 (x13 + 1))) else (some false)) else (none)) else (none)) else (none)) else (some true)
def laws_pSameInts.f (k : Nat) (l0 : List Int) (l1 : List Int) : Option (Bool) := if (l0.length : Int) = (l1.length : Int) then (laws_pSameInts.l0 k l0 l1 (l0.length : Int) 0) else (some false)
theorem laws_pSameInts.mono_l : ∀ k, (∀ y0 y1 y2 y3, LeO (laws_pSameInts.l0 k y0 y1 y2 y3) (laws_pSameInts.l0 (k + 1) y0 y1 y2 y3))
 | 0 => fun _ _ _ _ r h => by simp [laws_pSameInts.l0] at h
 | k + 1 => by
  have ih0 := laws_pSameInts.mono_l k
  ·intro y0 y1 y2 y3
   unfold laws_pSameInts.l0
   repeat' with_reducible first
   | exact ih0 _ _ _ _
   | exact jx _
   | exact LeO.none _
   | refine LeO.ite ?_ ?_
   | refine jw ?_ (fun _ => ?_)
theorem laws_pSameInts.mono : ∀ a0 a1 k, LeO (laws_pSameInts.f k a0 a1) (laws_pSameInts.f (k + 1) a0 a1) := by
 intro a0 a1 k
 have ih0 := laws_pSameInts.mono_l k
 unfold laws_pSameInts.f
 repeat' with_reducible first
   | exact ih0 _ _ _ _
   | exact jx _
   | exact LeO.none _
   | refine LeO.ite ?_ ?_
   | refine jw ?_ (fun _ => ?_)
set_option maxHeartbeats 8000000 in
set_option maxRecDepth 100000 in
theorem laws_pSameInts.calls (k : Nat) (A0 : Option Addr) (c0 : Nat) (l0 : List Int) (A1 : Option Addr) (c1 : Nat) (l1 : List Int) (r : Bool) (w : World) (hr0 : Kd.C (Kd.int .i64) w A0 l0.length l0) (hc0 : l0.length ≤ c0) (hr1 : Kd.C (Kd.int .i64) w A1 l1.length l1) (hc1 : l1.length ≤ c1) (h : laws_pSameInts.f k l0 l1 = some r) :
  Calls Try.prog 48 #[.slice A0 l0.length c0, .slice A1 l1.length c1] w fun e w' => e = .returned (.bool r) ∧ Drawn0 w w' := by
 have HR0 := zz hr0
 have HC0 := zz hc0
 clear hr0 hc0
 have HR1 := zz hr1
 have HC1 := zz hc1
 clear hr1 hc1
 have H : (if (l0.length : Int) = (l1.length : Int) then (laws_pSameInts.l0 k l0 l1 (l0.length : Int) 0) else (some false)) = some r := h
 clear h
 by_cases c3 : (l0.length : Int) = (l1.length : Int)
 ·rw [if_pos c3] at H
  have c3b0 : ((l0.length : Int) == (l1.length : Int)) = true := beq_iff_eq.mpr c3
  have c3b1 : ((l0.length : Int) != (l1.length : Int)) = false := bne_eq_false_iff_eq.mpr c3
  have c3b2 : (l0.length == l1.length) = true := by first | simpa using c3 | (simp at c3 ⊢; omega)
  clear c3
  have H' := zz H
  clear H
  go_enter Try.func48, Try.ntmps48
  go_wp2
  repeat (go_quiet (fail); try go_wp2)
  go_loopg [13] k (fun kq v13 w' => ∃ (x13_1 : Int), v13 = .int .i64 x13_1 ∧ Aside0 (laws_pSameInts.l0 kq l0 l1 (l0.length : Int) x13_1 = some r) ∧ Aside0 (kq ≤ k) ∧ Drawn0 w w')
  case atStart => exact ⟨(0), (by first | rfl | (simp; done) | (simp [*]; done)), H', ⟨Nat.le_refl _⟩, by repeat (first | exact Drawn0.refl _ | apply Drawn0.step)⟩
  case round =>
   clear H'
   try clear c1
   try clear p2
   try clear c3
   try clear c3b0
   try clear c3b1
   try clear c3b2
   obtain ⟨x13_1, rfl, HA, HK1, ⟨m1, rfl⟩⟩ := hrel
   cases gk with
   | zero => exact absurd HA.out (by simp [laws_pSameInts.l0])
   | succ k1 =>
    have H := HA.out
    clear HA
    simp only [laws_pSameInts.l0] at H
    by_cases c4 : x13_1 < (l0.length : Int)
    ·rw [if_pos c4] at H
     have c4b0 : decide (x13_1 < (l0.length : Int)) = true := decide_eq_true c4
     clear c4
     by_cases c5 : 0 ≤ x13_1
     ·rw [if_pos c5] at H
      have c5b0 : decide (0 ≤ x13_1) = true := decide_eq_true c5
      clear c5
      by_cases c6 : x13_1 < (l0.length : Int)
      ·rw [if_pos c6] at H
       have c6b0 : decide (x13_1 < (l0.length : Int)) = true := decide_eq_true c6
       clear c6
       by_cases c7 : x13_1 < (l1.length : Int)
       ·rw [if_pos c7] at H
        have c7b0 : decide (x13_1 < (l1.length : Int)) = true := decide_eq_true c7
        clear c7
        by_cases c8 : (rd l0 x13_1) = (rd l1 x13_1)
        ·rw [if_pos c8] at H
         have c8b0 : ((rd l0 x13_1) == (rd l1 x13_1)) = true := beq_iff_eq.mpr c8
         have c8b1 : ((rd l0 x13_1) != (rd l1 x13_1)) = false := bne_eq_false_iff_eq.mpr c8
         clear c8
         have H' := zz H
         clear H
         have p457 : 0 ≤ (x13_1 : Int) := of_decide_eq_true (by with_reducible assumption)
         have q457 : x13_1 < (l0.length : Int) := of_decide_eq_true (by with_reducible assumption)
         obtain ⟨ad457, e457, hx457_0⟩ := Kd.at_int HR0.out x13_1 p457 q457
         cases e457
         replace p457 := eq_true p457
         replace q457 := eq_true q457
         have p458 : 0 ≤ (x13_1 : Int) := of_decide_eq_true (by with_reducible assumption)
         have q458 : x13_1 < (l1.length : Int) := of_decide_eq_true (by with_reducible assumption)
         obtain ⟨ad458, e458, hx458_0⟩ := Kd.at_int HR1.out x13_1 p458 q458
         cases e458
         replace p458 := eq_true p458
         replace q458 := eq_true q458
         go_wp2
         repeat (go_quiet (fail); try go_wp2)
         go_roundg k1
         case measure => have := HK1.out; omega
         case rel => exact ⟨(wrap64 (x13_1 + 1)), (by first | rfl | (simp; done) | (simp [*]; done)), H', ⟨by have := HK1.out; omega⟩, by repeat (first | exact Drawn0.refl _ | apply Drawn0.step)⟩
        ·rw [if_neg c8] at H
         have c8b0 : ((rd l0 x13_1) == (rd l1 x13_1)) = false := beq_eq_false_iff_ne.mpr c8
         have c8b1 : ((rd l0 x13_1) != (rd l1 x13_1)) = true := bne_iff_ne.mpr c8
         obtain rfl := Option.some.inj H
         have p457 : 0 ≤ (x13_1 : Int) := of_decide_eq_true (by with_reducible assumption)
         have q457 : x13_1 < (l0.length : Int) := of_decide_eq_true (by with_reducible assumption)
         obtain ⟨ad457, e457, hx457_0⟩ := Kd.at_int HR0.out x13_1 p457 q457
         cases e457
         replace p457 := eq_true p457
         replace q457 := eq_true q457
         have p458 : 0 ≤ (x13_1 : Int) := of_decide_eq_true (by with_reducible assumption)
         have q458 : x13_1 < (l1.length : Int) := of_decide_eq_true (by with_reducible assumption)
         obtain ⟨ad458, e458, hx458_0⟩ := Kd.at_int HR1.out x13_1 p458 q458
         cases e458
         replace p458 := eq_true p458
         replace q458 := eq_true q458
         go_wp2
         repeat (go_quiet (fail); try go_wp2)
         go_ret
         exact ⟨by first | rfl | (simp; done) | (simp [*]; done), by repeat (first | exact Drawn0.refl _ | apply Drawn0.step)⟩
       ·rw [if_neg c7] at H
        exact absurd H (by simp)
      ·rw [if_neg c6] at H
       exact absurd H (by simp)
     ·rw [if_neg c5] at H
      exact absurd H (by simp)
    ·rw [if_neg c4] at H
     have c4b0 : decide (x13_1 < (l0.length : Int)) = false := decide_eq_false c4
     clear c4
     obtain rfl := Option.some.inj H
     go_wp2
     repeat (go_quiet (fail); try go_wp2)
     go_ret
     exact ⟨by first | rfl | (simp; done) | (simp [*]; done), by repeat (first | exact Drawn0.refl _ | apply Drawn0.step)⟩
 ·rw [if_neg c3] at H
  have c3b0 : ((l0.length : Int) == (l1.length : Int)) = false := beq_eq_false_iff_ne.mpr c3
  have c3b1 : ((l0.length : Int) != (l1.length : Int)) = true := bne_iff_ne.mpr c3
  have c3b2 : (l0.length == l1.length) = false := by first | simpa using c3 | (simp at c3 ⊢; omega)
  obtain rfl := Option.some.inj H
  go_enter Try.func48, Try.ntmps48
  go_wp2
  repeat (go_quiet (fail); try go_wp2)
  go_ret
  exact ⟨by first | rfl | (simp; done) | (simp [*]; done), by repeat (first | exact Drawn0.refl _ | apply Drawn0.step)⟩
def slices_Equal_int_int.l0 : Nat → List Int → List Int → Int → Int → Option (Bool)
 | 0, _, _, _, _ => none
 | k + 1, x0, x1, x12, x13 => if x13 < x12 then (if 0 ≤ x13 then (if x13 < (x0.length : Int) then (if x13 < (x1.length : Int) then (if (rd x0 x13) = (rd x1 x13) then (slices_Equal_int_int.l0 k x0 x1 x12 (wrap64 (x13 + 1))) else (some false)) else (none)) else (none)) else (none)) else (some true)
def slices_Equal_int_int.f (k : Nat) (l0 : List Int) (l1 : List Int) : Option (Bool) := if (l0.length : Int) = (l1.length : Int) then (slices_Equal_int_int.l0 k l0 l1 (l0.length : Int) 0) else (some false)
theorem slices_Equal_int_int.mono_l : ∀ k, (∀ y0 y1 y2 y3, LeO (slices_Equal_int_int.l0 k y0 y1 y2 y3) (slices_Equal_int_int.l0 (k + 1) y0 y1 y2 y3))
 | 0 => fun _ _ _ _ r h => by simp [slices_Equal_int_int.l0] at h
 | k + 1 => by
  have ih0 := slices_Equal_int_int.mono_l k
  ·intro y0 y1 y2 y3
   unfold slices_Equal_int_int.l0
   repeat' with_reducible first
   | exact ih0 _ _ _ _
   | exact jx _
   | exact LeO.none _
   | refine LeO.ite ?_ ?_
   | refine jw ?_ (fun _ => ?_)
theorem slices_Equal_int_int.mono : ∀ a0 a1 k, LeO (slices_Equal_int_int.f k a0 a1) (slices_Equal_int_int.f (k + 1) a0 a1) := by
 intro a0 a1 k
 have ih0 := slices_Equal_int_int.mono_l k
 unfold slices_Equal_int_int.f
 repeat' with_reducible first
   | exact ih0 _ _ _ _
   | exact jx _
   | exact LeO.none _
   | refine LeO.ite ?_ ?_
   | refine jw ?_ (fun _ => ?_)
set_option maxHeartbeats 8000000 in
set_option maxRecDepth 100000 in
theorem slices_Equal_int_int.calls (k : Nat) (A0 : Option Addr) (c0 : Nat) (l0 : List Int) (A1 : Option Addr) (c1 : Nat) (l1 : List Int) (r : Bool) (w : World) (hr0 : Kd.C (Kd.int .i64) w A0 l0.length l0) (hc0 : l0.length ≤ c0) (hr1 : Kd.C (Kd.int .i64) w A1 l1.length l1) (hc1 : l1.length ≤ c1) (h : slices_Equal_int_int.f k l0 l1 = some r) :
  Calls Try.prog 133 #[.slice A0 l0.length c0, .slice A1 l1.length c1] w fun e w' => e = .returned (.bool r) ∧ Drawn0 w w' := by
 have HR0 := zz hr0
 have HC0 := zz hc0
 clear hr0 hc0
 have HR1 := zz hr1
 have HC1 := zz hc1
 clear hr1 hc1
 have H : (if (l0.length : Int) = (l1.length : Int) then (slices_Equal_int_int.l0 k l0 l1 (l0.length : Int) 0) else (some false)) = some r := h
 clear h
 by_cases c3 : (l0.length : Int) = (l1.length : Int)
 ·rw [if_pos c3] at H
  have c3b0 : ((l0.length : Int) == (l1.length : Int)) = true := beq_iff_eq.mpr c3
  have c3b1 : ((l0.length : Int) != (l1.length : Int)) = false := bne_eq_false_iff_eq.mpr c3
  have c3b2 : (l0.length == l1.length) = true := by first | simpa using c3 | (simp at c3 ⊢; omega)
  clear c3
  have H' := zz H
  clear H
  go_enter Try.func133, Try.ntmps133
  go_wp2
  repeat (go_quiet (fail); try go_wp2)
  go_loopg [13] k (fun kq v13 w' => ∃ (x13_1 : Int), v13 = .int .i64 x13_1 ∧ Aside0 (slices_Equal_int_int.l0 kq l0 l1 (l0.length : Int) x13_1 = some r) ∧ Aside0 (kq ≤ k) ∧ Drawn0 w w')
  case atStart => exact ⟨(0), (by first | rfl | (simp; done) | (simp [*]; done)), H', ⟨Nat.le_refl _⟩, by repeat (first | exact Drawn0.refl _ | apply Drawn0.step)⟩
  case round =>
   clear H'
   try clear c1
   try clear p2
   try clear c3
   try clear c3b0
   try clear c3b1
   try clear c3b2
   obtain ⟨x13_1, rfl, HA, HK1, ⟨m1, rfl⟩⟩ := hrel
   cases gk with
   | zero => exact absurd HA.out (by simp [slices_Equal_int_int.l0])
   | succ k1 =>
    have H := HA.out
    clear HA
    simp only [slices_Equal_int_int.l0] at H
    by_cases c4 : x13_1 < (l0.length : Int)
    ·rw [if_pos c4] at H
     have c4b0 : decide (x13_1 < (l0.length : Int)) = true := decide_eq_true c4
     clear c4
     by_cases c5 : 0 ≤ x13_1
     ·rw [if_pos c5] at H
      have c5b0 : decide (0 ≤ x13_1) = true := decide_eq_true c5
      clear c5
      by_cases c6 : x13_1 < (l0.length : Int)
      ·rw [if_pos c6] at H
       have c6b0 : decide (x13_1 < (l0.length : Int)) = true := decide_eq_true c6
       clear c6
       by_cases c7 : x13_1 < (l1.length : Int)
       ·rw [if_pos c7] at H
        have c7b0 : decide (x13_1 < (l1.length : Int)) = true := decide_eq_true c7
        clear c7
        by_cases c8 : (rd l0 x13_1) = (rd l1 x13_1)
        ·rw [if_pos c8] at H
         have c8b0 : ((rd l0 x13_1) == (rd l1 x13_1)) = true := beq_iff_eq.mpr c8
         have c8b1 : ((rd l0 x13_1) != (rd l1 x13_1)) = false := bne_eq_false_iff_eq.mpr c8
         clear c8
         have H' := zz H
         clear H
         have p459 : 0 ≤ (x13_1 : Int) := of_decide_eq_true (by with_reducible assumption)
         have q459 : x13_1 < (l0.length : Int) := of_decide_eq_true (by with_reducible assumption)
         obtain ⟨ad459, e459, hx459_0⟩ := Kd.at_int HR0.out x13_1 p459 q459
         cases e459
         replace p459 := eq_true p459
         replace q459 := eq_true q459
         have p460 : 0 ≤ (x13_1 : Int) := of_decide_eq_true (by with_reducible assumption)
         have q460 : x13_1 < (l1.length : Int) := of_decide_eq_true (by with_reducible assumption)
         obtain ⟨ad460, e460, hx460_0⟩ := Kd.at_int HR1.out x13_1 p460 q460
         cases e460
         replace p460 := eq_true p460
         replace q460 := eq_true q460
         go_wp2
         repeat (go_quiet (fail); try go_wp2)
         go_roundg k1
         case measure => have := HK1.out; omega
         case rel => exact ⟨(wrap64 (x13_1 + 1)), (by first | rfl | (simp; done) | (simp [*]; done)), H', ⟨by have := HK1.out; omega⟩, by repeat (first | exact Drawn0.refl _ | apply Drawn0.step)⟩
        ·rw [if_neg c8] at H
         have c8b0 : ((rd l0 x13_1) == (rd l1 x13_1)) = false := beq_eq_false_iff_ne.mpr c8
         have c8b1 : ((rd l0 x13_1) != (rd l1 x13_1)) = true := bne_iff_ne.mpr c8
         obtain rfl := Option.some.inj H
         have p459 : 0 ≤ (x13_1 : Int) := of_decide_eq_true (by with_reducible assumption)
         have q459 : x13_1 < (l0.length : Int) := of_decide_eq_true (by with_reducible assumption)
         obtain ⟨ad459, e459, hx459_0⟩ := Kd.at_int HR0.out x13_1 p459 q459
         cases e459
         replace p459 := eq_true p459
         replace q459 := eq_true q459
         have p460 : 0 ≤ (x13_1 : Int) := of_decide_eq_true (by with_reducible assumption)
         have q460 : x13_1 < (l1.length : Int) := of_decide_eq_true (by with_reducible assumption)
         obtain ⟨ad460, e460, hx460_0⟩ := Kd.at_int HR1.out x13_1 p460 q460
         cases e460
         replace p460 := eq_true p460
         replace q460 := eq_true q460
         go_wp2
         repeat (go_quiet (fail); try go_wp2)
         go_ret
         exact ⟨by first | rfl | (simp; done) | (simp [*]; done), by repeat (first | exact Drawn0.refl _ | apply Drawn0.step)⟩
       ·rw [if_neg c7] at H
        exact absurd H (by simp)
      ·rw [if_neg c6] at H
       exact absurd H (by simp)
     ·rw [if_neg c5] at H
      exact absurd H (by simp)
    ·rw [if_neg c4] at H
     have c4b0 : decide (x13_1 < (l0.length : Int)) = false := decide_eq_false c4
     clear c4
     obtain rfl := Option.some.inj H
     go_wp2
     repeat (go_quiet (fail); try go_wp2)
     go_ret
     exact ⟨by first | rfl | (simp; done) | (simp [*]; done), by repeat (first | exact Drawn0.refl _ | apply Drawn0.step)⟩
 ·rw [if_neg c3] at H
  have c3b0 : ((l0.length : Int) == (l1.length : Int)) = false := beq_eq_false_iff_ne.mpr c3
  have c3b1 : ((l0.length : Int) != (l1.length : Int)) = true := bne_iff_ne.mpr c3
  have c3b2 : (l0.length == l1.length) = false := by first | simpa using c3 | (simp at c3 ⊢; omega)
  obtain rfl := Option.some.inj H
  go_enter Try.func133, Try.ntmps133
  go_wp2
  repeat (go_quiet (fail); try go_wp2)
  go_ret
  exact ⟨by first | rfl | (simp; done) | (simp [*]; done), by repeat (first | exact Drawn0.refl _ | apply Drawn0.step)⟩
end Go.Proofs.Ytlmoemahamneoaa.PFnSchemesAgree
