-- Of the print's words and parts, pruned by prune.py, a program of this session: what nothing of this claim names is left out.
import Derived.Test.YtlmoemahamneoaaPFnSchemesAgreex0
import Derived.Test.YtlmoemahamneoaaPFnSchemesAgreex2
import Derived.Test.YtlmoemahamneoaaPFnSchemesAgreex3
namespace Go.Proofs.Ytlmoemahamneoaa.PFnSchemesAgree
open Go.RowKit Go.Proofs.YtlmoemahamneoaaW.PrintWords Go.Proofs.YtlmoemahamneoaaW.PrintLast Go.Proofs.YtlmoemahamneoaaW.PrintMore
open Go.Proofs.YtlmoemahamneoaaW.PrintWords.Aside0 renaming mk → zz
open Go.Proofs.YtlmoemahamneoaaW.PrintWords renaming pw_below_drewN → zq, below_alloc → zj, blk_alloc → zw, blk_drewN → zx, blk_cell → zk, blk_frozen → zv, blk_put → qz
open Go.Proofs.YtlmoemahamneoaaW.PrintWords.Kd renaming R_mono → qq, R_reads' → qj, R_slice → qw
open Go.Proofs.YtlmoemahamneoaaW.PrintWords.LeO renaming refl → qx
attribute [local go_sem] max2_int min2_int max_two min_two max_three min_three max_four min_four
set_option linter.unusedVariables false
set_option linter.unusedSimpArgs false
def WrAt (base B : Nat) (os : List S109) (w0 W : World) : Prop := ∃ u, W.heap[B]? = some (.cells #[u] 107 (0, 0)) ∧ Kd.R k109 109 W base (fun _ => True) u os ∧ Below base w0 W ∧ base ≤ B ∧ base ≤ w0.heap.size
def GcHold (p : Prop) : Prop := p
theorem gc_hold {p : Prop} (h : GcHold p) : p := h
section
set_option maxRecDepth 100000
set_option maxHeartbeats 1000000 in
theorem put_in (base B : Nat) (os : List S109) (w0 W : World) (kind a b : Int) (h : WrAt base B os w0 W) (hl : os.length ≤ 100000) :
    Calls Try.prog 100 #[.pointer (some ⟨B, 0, none⟩), .int .i64 kind, .int .i64 a, .int .i64 b] W fun e W' => e = .returned (.int .i64 ((os.length + 1 : Nat) : Int)) ∧ WrAt base B (os ++ [⟨kind, a, b⟩]) w0 W' ∧ ∀ k cs t, 109 ≠ t → k ≠ B → W.heap[k]? = some (.cells cs t (0, 0)) → W'.heap[k]? = some (.cells cs t (0, 0)) := by
  obtain ⟨u, hb, hR, hB, hge, hbw⟩ := h
  obtain ⟨A, c, e⟩ := qw hR
  subst e
  have k0 : W.cell? ⟨B, 0, none⟩ = some (.slice A os.length c) := (zk hb 0).trans rfl
  have BX := zz hb
  have HR := zz hR
  have HB := zz hB
  have HGE := zz hge
  have HW0 := zz hbw
  have hl24 : (os.length + 1) * 24 ≤ 140737488355328 := by omega
  clear hb hR hB hge hl hbw
  go_enter Try.func100, Try.ntmps100
  go_wp2_with (at_builtin; refine gc_hold ?_)
  unfold GcHold
  refine Kd.R_append k109 (w0 := w0) base rfl (.tmp 13) (.tmp 18) 30 109 (.agg #[(.int .i64 0), (.int .i64 0), (.int .i64 0)]) 24 rfl Try.underlying30 info109 rfl (by decide) (by decide) (.slice A os.length c) os (⟨kind, a, b⟩ : S109) [.int .i64 kind, .int .i64 a, .int .i64 b] (fun _ => True) (fun _ => False) rfl rfl ?aP (fun _ hk => hk.elim) ?aF ?aO ?aB ?aS hl24 ?_
  (case aP => exact k109_mkM _ _ _ (⟨kind, a, b⟩ : S109))
  (case aF => exact (fun _ _ => trivial))
  (case aO => exact HR.out)
  (case aB => exact HB.out)
  (case aS => exact Nat.le_trans HW0.out HB.out.size)
  intro v1 w1 ho_ hb_ hg_ _
  obtain ⟨os2, hos2⟩ : ∃ os2, os ++ [(⟨kind, a, b⟩ : S109)] = os2 := ⟨_, rfl⟩
  have HO2 := zz hos2
  rw [hos2] at ho_
  clear hos2
  obtain ⟨A1, c1, e1⟩ := qw ho_
  subst e1
  have N1 := zz ho_
  have N2 := zz hb_
  have N5 := zz (fun k cs t (ht : 109 ≠ t) (h : W.heap[k]? = some (.cells cs t (0, 0))) => blk_grown h hg_ (Kd.R_ne HR.out h ht))
  have N4 := zz (blk_grown BX.out hg_ (Kd.R_ne HR.out BX.out (by decide)))
  have s0 : w1.cell? ⟨B, 0, none⟩ = some (.slice A os.length c) := (zk N4.out 0).trans rfl
  have sf : w1.frozen? ⟨B, 0, none⟩ = false := zv N4.out 0
  clear ho_ hb_ hg_ k0
  go_wp2
  go_ret
  refine ⟨by rw [← HO2.out, List.length_append]; rfl, ⟨.slice A1 os2.length c1, qz N4.out 0 _ rfl, ?_, N2.out.setCell (p := ⟨B, 0, none⟩) HGE.out _, HGE.out, HW0.out⟩, fun k cs t ht hk h => blk_far (N5.out k cs t ht h) hk _⟩
  rw [HO2.out]
  exact qq (ok' := fun _ => True) (Kd.R_far (p := ⟨B, 0, none⟩) (Kd.R_types N1.out N4.out (by decide)) (fun _ hk => hk.2) (.slice A1 os2.length c1)) (fun _ hk => trivial)
set_option maxHeartbeats 1000000 in
theorem code_in (k : Nat) (B : Nat) (os : List S109) (out : Int) (r1 : List S109) (r2 : Int) (r3 : Bool) (X : Nat) (xs : Array Value) (w0 W : World) (h : WrAt w0.heap.size B os w0 W) (hx : W.heap[X]? = some (.cells xs 32 (0, 0))) (hf : impl_toldCode.f k os out = some (r1, r2, r3)) :
    Calls Try.prog 97 #[.pointer (some ⟨B, 0, none⟩), .int .i64 out] W fun e W' => ∃ v, e = .returned (.tuple #[.agg #[v, .int .i64 r2], .bool r3]) ∧ Kd.R k109 109 W' w0.heap.size (fun _ => True) v r1 ∧ Below w0.heap.size w0 W' ∧ W'.heap[X]? = some (.cells xs 32 (0, 0)) := by
  obtain ⟨u, hb, hR, hB, hge, hbw⟩ := h
  obtain ⟨A, c, e⟩ := qw hR
  subst e
  have k0 : (W.alloc (.cells #[.slice none 0 0, .int .i64 0] 32)).cell? ⟨B, 0, none⟩ = some (.slice A os.length c) := (zk (zw hb _) 0).trans rfl
  have bo := blk_new W (.cells #[.slice none 0 0, .int .i64 0] 32)
  have hR2 : Kd.R k109 109 (W.alloc (.cells #[.slice none 0 0, .int .i64 0] 32)) w0.heap.size (fun k_ => k_ < W.heap.size ∧ k_ ≠ X) (.slice A os.length c) os := Kd.R_alloc (qq (Kd.R_bound (Kd.R_types hR hx (by decide))) (fun k_ hk_ => ⟨hk_.2.2.1, hk_.1.2⟩)) _
  have HT := Go.Lib.hid (impl_toldCode.calls k (fun k_ => k_ < W.heap.size ∧ k_ ≠ X) (.slice A os.length c) os out r1 r2 r3 w0 _ (zj hB (.cells #[.slice none 0 0, .int .i64 0] 32)) hR2 hf)
  have HBO := zz bo
  have HXL := zz (blk_lt hx)
  have HX0 := zz (zw hx (.cells #[.slice none 0 0, .int .i64 0] 32))
  have HGE := zz hB.size
  clear hb hR hR2 hge hbw bo hB hf hx
  go_enter Try.func97, Try.ntmps97
  go_wp2_with (go_at_call 187; refine HT.out.mono ?_; rintro e w1 ⟨v0, rfl, hR1, hB1, hK1⟩; obtain ⟨A1, c1, e1⟩ := qw hR1; subst e1; have HR1 := zz hR1; have HB1 := zz hB1; have HX := zz (blk_kept HBO.out hK1 (fun h_ => Nat.lt_irrefl _ h_.1)); have HXX := zz (blk_kept HX0.out hK1 (fun h_ => h_.2 rfl)); clear hR1 hB1 hK1; have s0 : w1.cell? ⟨W.heap.size, 0, none⟩ = some (.slice none 0 0) := (zk HX.out 0).trans rfl; have s1 : w1.cell? ⟨W.heap.size, 1, none⟩ = some (.int .i64 0) := (zk HX.out 1).trans rfl; have f0 : w1.frozen? ⟨W.heap.size, 0, none⟩ = false := zv HX.out 0; have f1 : w1.frozen? ⟨W.heap.size, 1, none⟩ = false := zv HX.out 1)
  refine bodyPost_ret (results_ct rfl _ _ W.heap.size 32 #[.slice A1 r1.length c1, .int .i64 r2] (0, 0) _ rfl (qz (qz HX.out 0 _ rfl) 1 _ rfl) Try.underlying32 rfl (by kernel_rfl)) rfl ?_
  refine ⟨_, rfl, ?_, Below.setCell (Below.setCell HB1.out (p := ⟨W.heap.size, 0, none⟩) HGE.out _) (p := ⟨W.heap.size, 1, none⟩) HGE.out _, blk_far (blk_far HXX.out (p := ⟨W.heap.size, 0, none⟩) (Nat.ne_of_lt HXL.out) _) (p := ⟨W.heap.size, 1, none⟩) (Nat.ne_of_lt HXL.out) _⟩
  have hX1 := qz HX.out 0 (.slice A1 r1.length c1) rfl
  exact qq (ok' := fun _ => True) (Kd.R_far (p := ⟨W.heap.size, 1, none⟩) (Kd.R_types (qq (ok' := fun _ => True) (Kd.R_far (p := ⟨W.heap.size, 0, none⟩) (Kd.R_types HR1.out HX.out (by decide)) (fun _ hk => hk.2) (.slice A1 r1.length c1)) (fun _ _ => trivial)) hX1 (by decide)) (fun _ hk => hk.2) (.int .i64 r2)) (fun _ hk => trivial)
end
theorem wr_alloc {base B : Nat} {os : List S109} {w0 W : World} (h : WrAt base B os w0 W) (o : Obj) : WrAt base B os w0 (W.alloc o) := by
  obtain ⟨u, hb, hR, hB, hge, hbw⟩ := h
  exact ⟨u, zw hb o, Kd.R_alloc hR o, hB.alloc (Nat.le_trans hbw hB.size) o, hge, hbw⟩
def WrKeep (B : Nat) (W W1 : World) : Prop := ∀ k cs t, 109 ≠ t → k ≠ B → W.heap[k]? = some (.cells cs t (0, 0)) → W1.heap[k]? = some (.cells cs t (0, 0))
def gcPw (n : Nat) : List Int := (-1) :: (List.range (n + 1)).map fun i => ((i : Nat) : Int)
def gcPops (n : Nat) : List S109 := (List.range n).map fun i => ⟨3, ((i : Nat) : Int), 0⟩
theorem gcPw_length (n : Nat) : (gcPw n).length = n + 2 := by simp [gcPw]
theorem gcPops_length (n : Nat) : (gcPops n).length = n := by simp [gcPops]
theorem gcPw_succ (n : Nat) : gcPw (n + 1) = gcPw n ++ [(n : Int) + 1] := by simp [gcPw, List.range_succ]
theorem gcPops_succ (n : Nat) : gcPops (n + 1) = gcPops n ++ [⟨3, (n : Int), 0⟩] := by simp [gcPops, List.range_succ]
theorem gcPw_at (n j : Nat) (h : j ≤ n) : rd (gcPw n) ((j + 1 : Nat) : Int) = (j : Int) := by
  unfold rd gcPw
  rw [Int.toNat_natCast, List.getD_eq_getElem?_getD, List.getElem?_cons_succ, List.getElem?_map, List.getElem?_range (by omega)]
  rfl
def PwR (base : Nat) (W : World) (v : Value) (xs : List Int) : Prop := Kd.R (Kd.int .i64) 3 W base (fun _ => True) v xs
theorem pw_keep {base B : Nat} {W W1 : World} {v : Value} {xs : List Int} {bx : Array Value} (h : PwR base W v xs) (hB : W.heap[B]? = some (.cells bx 107 (0, 0))) (hk : WrKeep B W W1) : PwR base W1 v xs := by
  refine qq (Kd.R_step (Kd.R_bound h) (fun k hk1 _ => ?_)) (fun _ _ => trivial)
  obtain ⟨_, _, _, q, hq, cells, hc⟩ := hk1
  have hq3 : q = 3 := by simpa [Kd.int, Kd.scalar] using hq
  subst hq3
  have hne : k ≠ B := fun e => by subst e; rw [hB] at hc; injection hc with hc; injection hc with _ hc; exact absurd hc (by decide)
  rw [hk k cells _ (by decide) hne hc, hc]
theorem keep_trans {B : Nat} {W W1 W2 : World} (h : WrKeep B W W1) (h2 : WrKeep B W1 W2) : WrKeep B W W2 := fun k cs t ht hk e => h2 k cs t ht hk (h k cs t ht hk e)
theorem wr_grown {base B : Nat} {os : List S109} {w0 W w1 : World} {v : Value} {xs : List Int} (h : WrAt base B os w0 W) (PR : PwR base W v xs) (hg : W.grownBy w1 v.ownBlock) (hb : Below base w0 w1) : WrAt base B os w0 w1 := by
  obtain ⟨u, hx, hR, _, hge, hbw⟩ := h
  exact ⟨u, blk_grown hx hg (Kd.R_ne PR hx (by decide)), Kd.R_over' hR (Kd.R_typed PR) (by decide) hg, hb, hge, hbw⟩
theorem gc_int : (Try.prog.info? 3).map (fun i => (i.zero, i.size, i.bytes)) = some (some (.int .i64 0), 1, 8) := by kernel_rfl
theorem gc_wrap {j L : Nat} (hj : j < L) (hL : L ≤ 40) : Value.int .i64 (wrap64 ((j : Int) + 1)) = Value.int .i64 ((j + 1 : Nat) : Int) := by
  have : wrap64 ((j : Int) + 1) = (j : Int) + 1 := IntWalk.wrap64_in _ (by omega)
  rw [this]
  rfl
theorem gc_meas {j L : Nat} (hj : j < L) (hL : L ≤ 40) : L - (intOf (Value.int .i64 (wrap64 ((j : Int) + 1)))).toNat < L - (intOf (Value.int .i64 (j : Int))).toNat := by
  rw [gc_wrap hj hL]
  simp only [intOf]
  omega
def lenV : Value → Nat
  | .slice _ n _ => n
  | _ => 0
section
set_option maxRecDepth 100000
set_option maxHeartbeats 2000000 in
theorem powers_in (base B : Nat) (w0 W : World) (most : Int) (n : Nat) (hn : (n : Int) = most - 1 ∨ n = 0 ∧ most ≤ 1) (hn2 : n ≤ 100) (h : WrAt base B [] w0 W) (hbs : base ≤ W.heap.size) :
    Calls Try.prog 101 #[.pointer (some ⟨B, 0, none⟩), .int .i64 most] W fun e W' => ∃ v, e = .returned v ∧ PwR base W' v (gcPw n) ∧ WrAt base B (gcPops n) w0 W' := by
  have hnew : PwR base (W.alloc (.cells #[.int .i64 (-1), .int .i64 0] 3)) (.slice (some ⟨W.heap.size, 0, none⟩) 2 2) (gcPw 0) := by
    have h := Go.Proofs.YtlmoemahamneoaaW.PrintWords.own_lit W base 3 .i64 [-1, 0] hbs (by decide)
    exact Kd.R_of_own h (fun _ _ => trivial)
  have HN := zz hn
  have HW := zz (wr_alloc h (.cells #[.int .i64 (-1), .int .i64 0] 3))
  have HP := zz hnew
  clear h hnew hn
  go_enter Try.func101, Try.ntmps101
  go_wp2
  go_loopw [5] (fun v wr => ∃ i : Nat, i ≤ n ∧ Aside0 (PwR base wr v (gcPw i)) ∧ Aside0 (WrAt base B (gcPops i) w0 wr)) (fun v _ => n + 5 - lenV v)
  case atStart => exact ⟨0, Nat.zero_le _, HP, HW⟩
  case round =>
    clear HP HW
    obtain ⟨i, hi, HP, HW⟩ := hrel
    obtain ⟨g, c, e, -⟩ := Kd.R_form HP.out (by rw [gcPw_length]; omega)
    rw [gcPw_length] at e
    subst e
    by_cases hlt : i < n
    · have hd : decide ((i : Int) + 2 ≤ most) = true := decide_eq_true (by have := HN.out; omega)
      obtain ⟨ad, e, hx⟩ := Kd.at_int (qj HP.out).2.2 ((i + 1 : Nat) : Int) (by omega) (by rw [gcPw_length]; omega)
      injection e with e
      subst e
      rw [gcPw_at i i (Nat.le_refl _), Int.toNat_natCast] at hx
      have hx2 : wr.cell? ⟨g, i + 1, none⟩ = some (.int .i64 (i : Int)) := by simpa [Addr.add] using hx
      have hw1 : wrap64 ((i : Int) + 2 - 1) = (i : Int) + 1 := by unfold wrap64; omega
      have HI := zz hlt
      have hp := put_in base B (gcPops i) w0 wr 3 (i : Int) 0 HW.out (by rw [gcPops_length]; omega)
      rw [gcPops_length, ← gcPops_succ] at hp
      have HPUT := zz hp
      obtain ⟨u0, hbx, -, hb0, -, hb00⟩ := id HW.out
      have HBX := zz hbx
      have hl8 : ((gcPw i).length + 1) * 8 ≤ 140737488355328 := by rw [gcPw_length]; omega
      clear hlt hi hx hp hbx hb0 hb00
      go_wp2_with (first
        | (go_at_call 100; refine HPUT.out.mono ?_; rintro e w3 ⟨rfl, hw_, hk_⟩; have HW3 := zz hw_; have HP3 := zz (pw_keep HP.out HBX.out hk_); have HB3 := zz hw_.choose_spec.2.2.1; have HS3 := zz (Nat.le_trans hw_.choose_spec.2.2.2.2 hw_.choose_spec.2.2.1.size); clear hw_ hk_)
        | (at_builtin; refine Kd.R_append (Kd.int .i64) (w0 := w0) base rfl (.tmp 11) (.tmp 20) 29 3 (.int .i64 0) 8 rfl Try.underlying29 gc_int rfl (by decide) (by decide) (.slice (some ⟨g, 0, none⟩) (i + 2) c) (gcPw i) ((i : Int) + 1) [.int .i64 ((i : Int) + 1)] (fun _ => True) (fun _ => False) rfl rfl ?aP (fun _ hk => hk.elim) ?aF ?aO ?aB ?aS hl8 ?_; (case aP => exact rfl); (case aF => exact (fun _ _ => trivial)); (case aO => exact HP3.out); (case aB => exact HB3.out); (case aS => exact HS3.out); intro v1 w4 ho_ hb_ hg_ _; have N1 := zz ho_; have N2 := zz (wr_grown HW3.out HP3.out hg_ hb_); clear ho_ hb_ hg_))
      go_roundw
      case rel => exact ⟨i + 1, HI.out, ⟨by rw [gcPw_succ]; exact N1.out⟩, N2⟩
      case measure => (have := HI.out); obtain ⟨A1, c1, e1⟩ := qw N1.out; rw [e1, List.length_append, List.length_singleton, gcPw_length]; simp only [lenV]; omega
    · obtain rfl : i = n := by omega
      have hd : decide ((i : Int) + 2 ≤ most) = false := decide_eq_false (by have := HN.out; omega)
      clear hlt hi
      go_wp2
      go_ret
      exact ⟨_, rfl, HP.out, HW.out⟩
theorem put_at (base B m : Nat) (os : List S109) (w0 W : World) (kind a b : Int) (h : WrAt base B os w0 W) (hm : os.length = m) (hl : m ≤ 100000) :
    Calls Try.prog 100 #[.pointer (some ⟨B, 0, none⟩), .int .i64 kind, .int .i64 a, .int .i64 b] W fun e W' => e = .returned (.int .i64 ((m : Int) + 1)) ∧ WrAt base B (os ++ [⟨kind, a, b⟩]) w0 W' ∧ WrKeep B W W' := by
  subst hm
  exact (put_in base B os w0 W kind a b h hl).mono (by rintro e w ⟨rfl, h1, h2⟩; exact ⟨rfl, h1, h2⟩)
set_option maxHeartbeats 1000000 in
theorem const_in (base B : Nat) (os : List S109) (w0 W : World) (n : Int) (h : WrAt base B os w0 W) (hl : os.length ≤ 100000) :
    Calls Try.prog 98 #[.pointer (some ⟨B, 0, none⟩), .int .i64 n] W fun e W' => e = .returned (.int .i64 ((os.length + 1 : Nat) : Int)) ∧ WrAt base B (os ++ [⟨0, n, 0⟩]) w0 W' ∧ WrKeep B W W' := by
  have HP := zz (put_in base B os w0 W 0 n 0 h hl)
  clear h hl
  go_enter Try.func98, Try.ntmps98
  go_wp2_with (go_at_call 100; refine HP.out.mono ?_; rintro e w3 ⟨rfl, hw_, hk_⟩; have HW := zz hw_; have HK := zz hk_; clear hw_ hk_)
  go_ret
  exact ⟨rfl, HW.out, HK.out⟩
def gcGrp (pw : List Int) : List Int → Nat → List S109 → Int → List S109 × Int
  | [], _, os, at_ => (os, at_)
  | n :: r, i, os, at_ => gcGrp pw r (i + 1) (os ++ [⟨2, rd pw ((i : Int) + 1), n⟩] ++ [⟨1, at_, (os.length : Int) + 1⟩]) ((os.length : Int) + 1 + 1)
def gcGroup (pw : List Int) (c0 : Int) (r : List Int) (os : List S109) : List S109 × Int := gcGrp pw r 0 (os ++ [⟨0, c0, 0⟩]) ((os.length : Int) + 1)
set_option maxHeartbeats 2000000 in
theorem group_in (w0 W : World) (B b off cc : Nat) (c0 : Int) (r : List Int) (v : Value) (pw : List Int) (os : List S109) (hb : b < w0.heap.size) (hC0 : w0.cell? ⟨b, off, none⟩ = some (.int .i64 c0)) (hC : ∀ j, j < r.length → w0.cell? ⟨b, off + 1 + j, none⟩ = some (.int .i64 (r.getD j 0))) (hcc : r.length + 1 ≤ cc) (hl : r.length ≤ 17) (hp : r.length + 1 ≤ pw.length) (hpl : pw.length ≤ 1000) (hos : os.length ≤ 50000) (h : WrAt w0.heap.size B os w0 W) (PR : PwR w0.heap.size W v pw) :
    Calls Try.prog 102 #[.pointer (some ⟨B, 0, none⟩), .slice (some ⟨b, off, none⟩) (r.length + 1) cc, v] W fun e W' => e = .returned (.int .i64 (gcGroup pw c0 r os).2) ∧ WrAt w0.heap.size B (gcGroup pw c0 r os).1 w0 W' ∧ PwR w0.heap.size W' v pw := by
  obtain ⟨g, cp, e, -⟩ := Kd.R_form PR (by omega)
  subst e
  obtain ⟨u0, hbx, -, hbw, -, -⟩ := id h
  have k0 : W.cell? ⟨b, off, none⟩ = some (.int .i64 c0) := (hbw.cell (p := ⟨b, off, none⟩) hb).trans hC0
  have HPW := zz (fun W1 (hk : WrKeep B W W1) => pw_keep PR hbx hk)
  have HCO := zz (const_in w0.heap.size B os w0 W c0 h (by omega))
  have HCL := zz hC
  have HB0 := zz hb
  have HPL := zz hp
  have HPL2 := zz hpl
  have HL := zz hl
  have HOS := zz hos
  have hcc1 : 1 ≤ cc := by omega
  clear h PR hbx hbw hC0 hC hb hp hl hos hpl
  go_enter Try.func102, Try.ntmps102
  go_wp2_with (go_at_call 98; refine HCO.out.mono ?_; rintro e w3 ⟨rfl, hw_, hk_⟩; have HW := zz hw_; have HP := zz (HPW.out _ hk_); clear hw_ hk_)
  case' inl =>
    go_loopw [7, 18] (fun v7 v18 wr => ∃ (i : Nat) (os1 : List S109) (at1 : Int), v7 = .int .i64 at1 ∧ v18 = .int .i64 (i : Int) ∧ i ≤ r.length ∧ Aside0 (os1.length ≤ os.length + 1 + 2 * i ∧ gcGrp pw (r.drop i) i os1 at1 = gcGroup pw c0 r os) ∧ Aside0 (WrAt w0.heap.size B os1 w0 wr) ∧ Aside0 (PwR w0.heap.size wr (.slice (some ⟨g, 0, none⟩) pw.length cp) pw)) (fun _ s _ => r.length - (intOf s).toNat)
    case atStart => exact ⟨0, os ++ [⟨0, c0, 0⟩], _, rfl, rfl, Nat.zero_le _, ⟨by rw [List.length_append, List.length_singleton]; omega, rfl⟩, HW, HP⟩
    case round =>
      clear HW HP
      obtain ⟨i, os1, at1, rfl, rfl, hi, HG, HW, HP⟩ := hrel
      by_cases hlt : i < r.length
      · exfalso; omega
      · obtain rfl : i = r.length := by omega
        have hg := HG.out.2
        rw [List.drop_length] at hg
        unfold gcGrp at hg
        have HGG := zz hg
        clear hlt hi hg
        go_wp2
        go_ret
        exact ⟨by rw [← HGG.out]; rfl, by rw [← HGG.out]; exact HW.out, HP.out⟩
  case' inr =>
    go_loopw [7, 18] (fun v7 v18 wr => ∃ (i : Nat) (os1 : List S109) (at1 : Int), v7 = .int .i64 at1 ∧ v18 = .int .i64 (i : Int) ∧ i ≤ r.length ∧ Aside0 (os1.length ≤ os.length + 1 + 2 * i ∧ gcGrp pw (r.drop i) i os1 at1 = gcGroup pw c0 r os) ∧ Aside0 (WrAt w0.heap.size B os1 w0 wr) ∧ Aside0 (PwR w0.heap.size wr (.slice (some ⟨g, 0, none⟩) pw.length cp) pw)) (fun _ s _ => r.length - (intOf s).toNat)
    case atStart => exact ⟨0, os ++ [⟨0, c0, 0⟩], _, rfl, rfl, Nat.zero_le _, ⟨by rw [List.length_append, List.length_singleton]; omega, rfl⟩, HW, HP⟩
    case round =>
      clear HW HP
      obtain ⟨i, os1, at1, rfl, rfl, hi, HG, HW, HP⟩ := hrel
      by_cases hlt : i < r.length
      · have hltz : (i : Int) < (r.length : Int) := by omega
        obtain ⟨x, hx⟩ : ∃ x, r[i] = x := ⟨_, rfl⟩
        have hg := HG.out.2
        rw [List.drop_eq_getElem_cons hlt, hx] at hg
        unfold gcGrp at hg
        obtain ⟨u1, hbx1, -, hbw1, -, -⟩ := id HW.out
        have k1 : wr.cell? ⟨b, off + 1 + i, none⟩ = some (.int .i64 x) := by
         as_aux_lemma =>
          refine (hbw1.cell (p := ⟨b, off + 1 + i, none⟩) HB0.out).trans ((HCL.out i hlt).trans ?_)
          rw [List.getD_eq_getElem?_getD, List.getElem?_eq_getElem hlt, hx]; rfl
        obtain ⟨ad, e, hy⟩ := Kd.at_int (qj HP.out).2.2 ((i + 1 : Nat) : Int) (by omega) (by have := HPL.out; omega)
        injection e with e
        subst e
        obtain ⟨y, hyv⟩ : ∃ y, rd pw ((i : Int) + 1) = y := ⟨_, rfl⟩
        rw [show ((i + 1 : Nat) : Int) = (i : Int) + 1 from rfl] at hy
        rw [hyv] at hy hg
        have k2 : wr.cell? ⟨g, i + 1, none⟩ = some (.int .i64 y) := by
         as_aux_lemma =>
          have e1 : ((i : Int) + 1).toNat = i + 1 := by omega
          rw [e1] at hy
          simpa [Addr.add] using hy
        have hw1 : wrap64 ((i : Int) + 1) = (i : Int) + 1 := IntWalk.wrap64_in _ (by have := HL.out; omega)
        have hin : (i : Int) + 1 < (pw.length : Int) := by have := HPL.out; omega
        have hin0 : (0 : Int) ≤ (i : Int) + 1 := by omega
        obtain ⟨m1, hm1⟩ : ∃ m1, os1.length = m1 := ⟨_, rfl⟩
        have HM := zz hm1
        have HMB := zz (show m1 ≤ os.length + 1 + 2 * i by rw [← hm1]; exact HG.out.1)
        rw [hm1] at hg
        have HPU1 := zz (put_at w0.heap.size B m1 os1 w0 wr 2 y x HW.out hm1 (by have := HMB.out; have := HOS.out; have := HL.out; omega))
        have HPU2 := zz (fun (W3 : World) (h3 : WrAt w0.heap.size B (os1 ++ [⟨2, y, x⟩]) w0 W3) => put_at w0.heap.size B (m1 + 1) (os1 ++ [⟨2, y, x⟩]) w0 W3 1 at1 ((m1 : Int) + 1) h3 (by rw [List.length_append, List.length_singleton, hm1]) (by have := HMB.out; have := HOS.out; have := HL.out; omega))
        have HPK := zz (fun (W3 : World) (hk : WrKeep B wr W3) => pw_keep HP.out hbx1 hk)
        have HI := zz hlt
        have HGN := zz hg
        clear hlt hi hx hg hbx1 hbw1 hy hyv hm1
        go_wp2_with (first
          | (go_at_call 100; (with_reducible refine HPU1.out.mono ?_); rintro e w4 ⟨rfl, hw_, hk_⟩; have HW4 := zz hw_; have HK4 := zz hk_; clear hw_ hk_)
          | (go_at_call 100; (with_reducible refine (HPU2.out _ HW4.out).mono ?_); rintro e w5 ⟨rfl, hw_, hk_⟩; have HW5 := zz hw_; have HP5 := zz (HPK.out _ (keep_trans HK4.out hk_)); clear hw_ hk_))
        go_roundw
        case rel =>
          have q1 : Value.int .i64 (wrap64 ((i : Int) + 1)) = Value.int .i64 ((i + 1 : Nat) : Int) := by
            as_aux_lemma =>
              rw [hw1]
              exact congrArg _ (Int.natCast_succ i).symm
          have q2 : (os1 ++ [(⟨2, y, x⟩ : S109)] ++ [(⟨1, at1, (m1 : Int) + 1⟩ : S109)]).length ≤ os.length + 1 + 2 * (i + 1) := by
            as_aux_lemma =>
              have := HMB.out
              have := HM.out
              simp only [List.length_append, List.length_singleton]
              omega
          have q3 := HGN.out
          exact ⟨i + 1, os1 ++ [(⟨2, y, x⟩ : S109)] ++ [⟨1, at1, (m1 : Int) + 1⟩], _, rfl, q1, HI.out, ⟨q2, q3⟩, HW5, HP5⟩
        case measure => exact gc_meas HI.out (by have := HL.out; omega)
      · obtain rfl : i = r.length := by omega
        have hg := HG.out.2
        rw [List.drop_length] at hg
        unfold gcGrp at hg
        have HGG := zz hg
        clear hlt hi hg
        go_wp2
        go_ret
        exact ⟨by rw [← HGG.out]; rfl, by rw [← HGG.out]; exact HW.out, HP.out⟩
def gcGiant (l : List Int) (k : Nat) (pw : List Int) : Nat → List S109 → Int → List S109 × Int
  | 0, os, at_ => (os, at_)
  | j + 1, os, at_ =>
    let os1 := if 0 ≤ at_ then os ++ [⟨3, at_, rd pw (k : Int)⟩] else os
    let a1 := if 0 ≤ at_ then (os.length : Int) + 1 else at_
    let cs := (l.drop (j * k)).take k
    let p := gcGroup pw (cs.headD 0) cs.tail os1
    if 0 ≤ a1 then gcGiant l k pw j (p.1 ++ [⟨1, a1, p.2⟩]) ((p.1.length : Int) + 1) else gcGiant l k pw j p.1 p.2
def gcN (l : List Int) (k : Nat) : Nat := min k (l.length - 1) - 1
def gcOps (l : List Int) (k : Nat) : List S109 := (gcGiant l k (gcPw (gcN l k)) ((l.length - 1) / k + 1) (gcPops (gcN l k)) (-1)).1
theorem wr_new (w0 W : World) (h : Below w0.heap.size w0 W) : WrAt w0.heap.size W.heap.size [] w0 (W.alloc (.cells #[.slice none 0 0] 107)) := ⟨_, blk_new W _, Kd.R_nil _ _ _ _ _, zj h _, h.size, Nat.le_refl _⟩
theorem pw_form {base n : Nat} {W : World} {v : Value} (h : PwR base W v (gcPw n)) : ∃ g cp, v = .slice (some ⟨g, 0, none⟩) (n + 2) cp ∧ ∀ j, j < n + 2 → W.cell? ⟨g, j, none⟩ = some (.int .i64 (rd (gcPw n) (j : Int))) := by
  obtain ⟨g, cp, e, _⟩ := Kd.R_form h (by rw [gcPw_length]; omega)
  subst e
  refine ⟨g, cp, by rw [gcPw_length], fun j hj => ?_⟩
  obtain ⟨ad, e, hx⟩ := Kd.at_int (qj h).2.2 (j : Int) (by omega) (by rw [gcPw_length]; omega)
  injection e with e
  subst e
  rw [Int.toNat_natCast] at hx
  have ea : (⟨g, 0, none⟩ : Addr).add j = ⟨g, j, none⟩ := by by_cases h0 : j = 0 <;> simp [Addr.add, h0]
  rw [ea] at hx
  exact hx
theorem pw_cell {base n g cp j : Nat} {W : World} (h : PwR base W (.slice (some ⟨g, 0, none⟩) (n + 2) cp) (gcPw n)) (hj : j < n + 2) : W.cell? ⟨g, j, none⟩ = some (.int .i64 (rd (gcPw n) (j : Int))) := by
  obtain ⟨g2, cp2, e, hc⟩ := pw_form h
  injection e with e _ _
  injection e with e
  injection e with e
  rw [e]
  exact hc j hj
theorem gcGrp_length (pw : List Int) : ∀ (r : List Int) (i : Nat) (os : List S109) (a : Int), (gcGrp pw r i os a).1.length = os.length + 2 * r.length
  | [], _, _, _ => rfl
  | n :: r, i, os, a => by
    rw [gcGrp, gcGrp_length pw r]
    simp only [List.length_append, List.length_cons, List.length_nil]
    omega
theorem gcGroup_length (pw : List Int) (c0 : Int) (r : List Int) (os : List S109) : (gcGroup pw c0 r os).1.length = os.length + 1 + 2 * r.length := by
  rw [gcGroup, gcGrp_length, List.length_append]; rfl
theorem gcGiant_pos {l : List Int} {k j : Nat} {pw : List Int} {os : List S109} {a c0 : Int} {r : List Int} (h : 0 ≤ a) (hcs : (l.drop (j * k)).take k = c0 :: r) : gcGiant l k pw (j + 1) os a = gcGiant l k pw j ((gcGroup pw c0 r (os ++ [⟨3, a, rd pw (k : Int)⟩])).1 ++ [⟨1, (os.length : Int) + 1, (gcGroup pw c0 r (os ++ [⟨3, a, rd pw (k : Int)⟩])).2⟩]) (((gcGroup pw c0 r (os ++ [⟨3, a, rd pw (k : Int)⟩])).1.length : Int) + 1) := by
  rw [gcGiant]
  simp only [hcs, if_pos h, List.headD_cons, List.tail_cons]
  rw [if_pos (by omega)]
theorem gcGiant_neg {l : List Int} {k j : Nat} {pw : List Int} {os : List S109} {a c0 : Int} {r : List Int} (h : ¬ 0 ≤ a) (hcs : (l.drop (j * k)).take k = c0 :: r) : gcGiant l k pw (j + 1) os a = gcGiant l k pw j (gcGroup pw c0 r os).1 (gcGroup pw c0 r os).2 := by
  rw [gcGiant]
  simp only [hcs, if_neg h, List.headD_cons, List.tail_cons]
theorem gc_cut {w0 : World} {b off : Nat} {l : List Int} (hC : ∀ j, j < l.length → w0.cell? ⟨b, off + j, none⟩ = some (.int .i64 (l.getD j 0))) {fn k : Nat} (hf : fn < l.length) (hk : 1 ≤ k) : ∃ c0 r, (l.drop fn).take k = c0 :: r ∧ r.length + 1 = min k (l.length - fn) ∧ w0.cell? ⟨b, off + fn, none⟩ = some (.int .i64 c0) ∧ ∀ i, i < r.length → w0.cell? ⟨b, off + fn + 1 + i, none⟩ = some (.int .i64 (r.getD i 0)) := by
  have hlen : ((l.drop fn).take k).length = min k (l.length - fn) := by rw [List.length_take, List.length_drop]
  obtain ⟨c0, r, hcs⟩ : ∃ c0 r, (l.drop fn).take k = c0 :: r := by
    cases h : (l.drop fn).take k with
    | nil => rw [h] at hlen; simp at hlen; omega
    | cons c0 r => exact ⟨c0, r, rfl⟩
  have hat : ∀ i, i < r.length + 1 → (c0 :: r)[i]? = l[fn + i]? := fun i hi => by
    rw [hcs, List.length_cons] at hlen
    rw [← hcs, List.getElem?_take, if_pos (by omega), List.getElem?_drop]
  rw [hcs, List.length_cons] at hlen
  refine ⟨c0, r, hcs, hlen, ?_, fun i hi => ?_⟩
  · have h0 := hat 0 (by omega)
    rw [hC fn hf, List.getD_eq_getElem?_getD, ← Nat.add_zero fn, ← h0]
    rfl
  · have h1 := hat (i + 1) (by omega)
    rw [show off + fn + 1 + i = off + (fn + (i + 1)) by omega, hC (fn + (i + 1)) (by omega), List.getD_eq_getElem?_getD, ← h1, List.getD_eq_getElem?_getD]
    rfl
theorem gc_sub {fn k : Nat} (h1 : fn ≤ 1000) (h2 : k ≤ 17) : wrap64 ((fn : Int) - (k : Int)) = (fn : Int) - (k : Int) := IntWalk.wrap64_in _ (by omega)
theorem gc_add {fn k : Nat} (h1 : fn ≤ 1000) (h2 : k ≤ 17) : wrap64 ((fn : Int) + (k : Int)) = (fn : Int) + (k : Int) := IntWalk.wrap64_in _ (by omega)
theorem gc_meas2 {fn k : Nat} (h1 : fn ≤ 1000) (hk : 1 ≤ k) (hk2 : k ≤ 17) : (intOf (Value.int .i64 (wrap64 ((fn : Int) - (k : Int)))) + (k : Int)).toNat < (intOf (Value.int .i64 (fn : Int)) + (k : Int)).toNat := by
  have : wrap64 ((fn : Int) - (k : Int)) = (fn : Int) - (k : Int) := IntWalk.wrap64_in _ (by omega)
  rw [this]
  simp only [intOf]
  omega
set_option maxHeartbeats 4000000 in
theorem giant_in (w0 W : World) (b off cc : Nat) (l : List Int) (kk n J : Nat) (mo : Int) (hm : (kk : Int) ≤ (l.length : Int) - 1 ∧ mo = kk ∨ (l.length : Int) - 1 < (kk : Int) ∧ mo = (l.length : Int) - 1) (hn : gcN l kk = n) (hJ : (l.length - 1) / kk = J) (hb : b < w0.heap.size) (hC : ∀ j, j < l.length → w0.cell? ⟨b, off + j, none⟩ = some (.int .i64 (l.getD j 0))) (hcc : l.length ≤ cc) (hl1 : 1 ≤ l.length) (hl2 : l.length ≤ 17) (hk1 : 1 ≤ kk) (hk2 : kk ≤ 17) (hB : Below w0.heap.size w0 W) (G : List S109 × Int) (hG : gcGiant l kk (gcPw n) (J + 1) (gcPops n) (-1) = G) :
    Calls Try.prog 96 #[.slice (some ⟨b, off, none⟩) l.length cc, .int .i64 (kk : Int)] W fun e W' => ∃ B, e = .returned (.pointer (some ⟨B, 0, none⟩)) ∧ WrAt w0.heap.size B G.1 w0 W' := by
  have hw1 : wrap64 ((l.length : Int) - 1) = (l.length : Int) - 1 := IntWalk.wrap64_in _ (by omega)
  have HPW := zz (powers_in w0.heap.size W.heap.size w0 _ mo n (by unfold gcN at hn; omega) (by unfold gcN at hn; omega) (wr_new w0 W hB) (by have := hB.size; simp; omega))
  have hJq : Int.tdiv ((l.length : Int) - 1) (kk : Int) = (J : Int) := by
    rw [show (l.length : Int) - 1 = ((l.length - 1 : Nat) : Int) by omega, Int.tdiv_eq_ediv_of_nonneg (by omega), ← Int.natCast_ediv, hJ]
  have hJ17 : J ≤ 17 := by rw [← hJ]; exact Nat.le_trans (Nat.div_le_self _ _) (by omega)
  have hJk : J * kk ≤ l.length - 1 := by rw [← hJ]; exact Nat.div_mul_le_self _ _
  have hwJ : wrap64 (J : Int) = (J : Int) := IntWalk.wrap64_in _ (by omega)
  obtain ⟨F, hF⟩ : ∃ F : Int, (J : Int) * (kk : Int) = F := ⟨_, rfl⟩
  have hFv : F = ((J * kk : Nat) : Int) := by rw [← hF]; simp
  have hwF : wrap64 F = F := IntWalk.wrap64_in _ (by omega)
  have hk0 : ((kk : Int) == 0) = false := beq_eq_false_iff_ne.mpr (by omega)
  have hk00 : ¬ (kk : Int) = 0 := by omega
  have HC := zz hC
  have HBB := zz hb
  have HN := zz hn
  have HFV := zz hFv
  have HGG := zz hG
  have HKN := zz (show 1 ≤ J → kk < n + 2 from fun h => by have := Nat.le_mul_of_pos_left kk h; unfold gcN at hn; omega)
  have HNR := zz (show n ≤ 16 ∧ min kk l.length ≤ n + 2 by unfold gcN at hn; omega)
  have HJK := zz hJk
  have HJ17 := zz hJ17
  have HL := zz (show (1 ≤ l.length ∧ l.length ≤ 17) ∧ 1 ≤ kk ∧ kk ≤ 17 ∧ l.length ≤ cc from ⟨⟨hl1, hl2⟩, hk1, hk2, hcc⟩)
  clear hB hC hb hn hJ hFv hJk hJ17 hl1 hl2 hk1 hk2 hG
  rcases hm with ⟨hc, rfl⟩ | ⟨hc, rfl⟩
  · go_enter Try.func96, Try.ntmps96
    go_wp2_with (go_at_call 101; refine HPW.out.mono ?_; rintro e w3 ⟨v, rfl, hp_, hw_⟩; obtain ⟨g, cp, e3, -⟩ := pw_form hp_; subst e3; have HP := zz hp_; have HW := zz hw_; clear hp_ hw_)
    go_loopw [7, 8] (fun v7 v8 wr => ∃ (j : Nat) (os1 : List S109) (at1 f : Int), v7 = .int .i64 at1 ∧ v8 = .int .i64 f ∧ j ≤ J + 1 ∧ Aside0 (f = (j : Int) * (kk : Int) - (kk : Int) ∧ (0 ≤ at1 → j ≤ J) ∧ os1.length ≤ 20 + 100 * (J + 1 - j) ∧ gcGiant l kk (gcPw n) j os1 at1 = G) ∧ Aside0 (WrAt w0.heap.size W.heap.size os1 w0 wr) ∧ Aside0 (PwR w0.heap.size wr (.slice (some ⟨g, 0, none⟩) (n + 2) cp) (gcPw n))) (fun _ s _ => (intOf s + (kk : Int)).toNat)
    case atStart => exact ⟨J + 1, gcPops n, -1, F, rfl, by rw [hwF], Nat.le_refl _, ⟨by rw [Int.natCast_add, Int.add_mul, hF]; simp, fun h => absurd h (by decide), by rw [gcPops_length]; have := HNR.out; omega, HGG.out⟩, HW, HP⟩
    case round =>
      clear HP HW hJq hwJ hw1 hF hwF
      obtain ⟨j, os1, at1, f, rfl, rfl, hj, HG, HW, HP⟩ := hrel
      cases j with
      | zero =>
        have hfl : f < 0 := by have := HG.out.1; have := HL.out; omega
        have hge : decide (0 ≤ f) = false := decide_eq_false (by omega)
        have HGZ := zz HG.out.2.2.2
        clear hfl hj
        go_wp2
        go_ret
        exact ⟨_, rfl, by rw [← HGZ.out]; exact HW.out⟩
      | succ j =>
        obtain ⟨fn, hfn⟩ : ∃ fn : Nat, j * kk = fn := ⟨_, rfl⟩
        have hf : f = (fn : Int) := by have := HG.out.1; rw [← hfn]; rw [this, Int.natCast_add, Int.add_mul]; simp
        subst hf
        have hjk : j * kk ≤ J * kk := Nat.mul_le_mul_right _ (by omega)
        have hfl : fn < l.length := by have := HJK.out; have := HL.out; omega
        have HFL := zz hfl
        have HJJ := zz (show j ≤ J by omega)
        have hgn := HG.out.2.2.2
        obtain ⟨c0, r, hcs, hrm, hC0, hCr⟩ := gc_cut HC.out hfl (k := kk) (by have := HL.out; omega)
        rw [← hfn] at hcs
        have hwf1 : wrap64 ((fn : Int) + (kk : Int)) = (fn : Int) + (kk : Int) := gc_add (Nat.le_trans (Nat.le_of_lt hfl) (Nat.le_trans HL.out.1.2 (by decide))) HL.out.2.2.1
        have hwf2 : wrap64 ((fn : Int) - (kk : Int)) = (fn : Int) - (kk : Int) := gc_sub (Nat.le_trans (Nat.le_of_lt hfl) (Nat.le_trans HL.out.1.2 (by decide))) HL.out.2.2.1
        have HFN := zz (show wrap64 ((fn : Int) - (kk : Int)) = (j : Int) * (kk : Int) - (kk : Int) by rw [hwf2, ← hfn]; simp)
        have hge : decide (0 ≤ (fn : Int)) = true := decide_eq_true (by omega)
        clear hjk
        have hlo : fn ≤ l.length := by omega
        have hnc : ¬ cc ≤ fn := by have := HL.out; omega
        have hlc : l.length ≤ cc := HL.out.2.2.2
        by_cases h3 : fn + kk ≤ l.length
        · have h3i : (fn : Int) + (kk : Int) ≤ (l.length : Int) := by omega
          have hrl : r.length + 1 = kk := by omega
          have GRP := fun (W3 : World) (os3 : List S109) (h5 : os3.length ≤ 50000) (h6 : WrAt w0.heap.size W.heap.size os3 w0 W3) (h7 : PwR w0.heap.size W3 (.slice (some ⟨g, 0, none⟩) (n + 2) cp) (gcPw n)) => group_in w0 W3 W.heap.size b (off + fn) (cc - fn) c0 r _ (gcPw n) os3 HBB.out hC0 hCr (by have := HL.out; omega) (by have := HL.out; omega) (by rw [gcPw_length]; have := HNR.out; omega) (by rw [gcPw_length]; have := HNR.out; omega) h5 h6 h7
          rw [hrl] at GRP
          by_cases hat : 0 ≤ at1
          · obtain ⟨m1, hm1⟩ : ∃ m1, os1.length = m1 := ⟨_, rfl⟩
            have HM := zz hm1
            have hmb : m1 ≤ 20 + 100 * (J - j) := by rw [← hm1]; have := HG.out.2.2.1; omega
            have HMB := zz hmb
            have hki := HKN.out (by have := HG.out.2.1 hat; omega)
            have hkin : (kk : Int) < (n : Int) + 2 := by omega
            have hkin0 : (0 : Int) ≤ (kk : Int) := by omega
            obtain ⟨y, hy⟩ : ∃ y, rd (gcPw n) (kk : Int) = y := ⟨_, rfl⟩
            have k2 : wr.cell? ⟨g, kk, none⟩ = some (.int .i64 y) := by rw [← hy]; exact pw_cell HP.out hki
            rw [gcGiant_pos hat hcs, hy, hm1] at hgn
            have hat1 : decide (0 ≤ at1) = true := decide_eq_true hat
            have hat2 : decide (0 ≤ (m1 : Int) + 1) = true := decide_eq_true (by omega)
            have HPU1 := zz (put_at w0.heap.size W.heap.size m1 os1 w0 wr 3 at1 y HW.out hm1 (by have := HJ17.out; have := HL.out; omega))
            obtain ⟨p, hp⟩ : ∃ p, gcGroup (gcPw n) c0 r (os1 ++ [⟨3, at1, y⟩]) = p := ⟨_, rfl⟩
            have hpl : p.1.length = m1 + 1 + 1 + 2 * r.length := by rw [← hp, gcGroup_length, List.length_append, List.length_singleton, hm1]
            rw [hp, hpl] at hgn
            have hgr := (fun (W3 : World) h1 h2 => by have h3 := GRP W3 (os1 ++ [⟨3, at1, y⟩]) (by rw [List.length_append, List.length_singleton, hm1]; have := HJ17.out; have := HL.out; omega) h1 h2; rw [hp] at h3; exact h3)
            obtain ⟨p1, p2⟩ := p
            dsimp only at hpl hgn hgr
            have HGR := zz hgr
            have HPU2 := zz (fun (W3 : World) (h3 : WrAt w0.heap.size W.heap.size p1 w0 W3) => put_at w0.heap.size W.heap.size (m1 + 1 + 1 + 2 * r.length) p1 w0 W3 1 ((m1 : Int) + 1) p2 h3 hpl (by have := HJ17.out; have := HL.out; omega))
            obtain ⟨u1, hbx1, -, -, -, -⟩ := id HW.out
            have HPK := zz (fun (W3 : World) (os3 : List S109) (hw3 : WrAt w0.heap.size W.heap.size os3 w0 wr) (hk : WrKeep W.heap.size wr W3) => pw_keep HP.out hbx1 hk)
            have HPP := zz (fun (W3 W4 : World) (os3 : List S109) (hw3 : WrAt w0.heap.size W.heap.size os3 w0 W3) (hp3 : PwR w0.heap.size W3 (.slice (some ⟨g, 0, none⟩) (n + 2) cp) (gcPw n)) (hk : WrKeep W.heap.size W3 W4) => pw_keep hp3 hw3.choose_spec.1 hk)
            obtain ⟨m2, hm2⟩ : ∃ m2 : Nat, m1 + 1 + 1 + 2 * r.length = m2 := ⟨_, rfl⟩
            rw [hm2] at HPU2 hgn
            have HM2 := zz (show m2 + 1 ≤ 20 + 100 * (J + 1 - j) by have := HMB.out; have := HL.out; have := HJJ.out; omega)
            have HPL := zz (show p1.length = m2 by omega)
            have HGN := zz hgn
            clear hgn hy hcs hm1 hmb hp hpl hbx1 hki hm2 hj hfn hrl hat GRP hgr
            go_wp2_with (first
              | (go_at_call 100; (with_reducible refine HPU1.out.mono ?_); rintro e w4 ⟨rfl, hw_, hk_⟩; have HW4 := zz hw_; have HP4 := zz (HPK.out _ _ HW.out hk_); clear hw_ hk_)
              | (go_at_call 102; (with_reducible refine (HGR.out _ HW4.out HP4.out).mono ?_); rintro e w5 ⟨rfl, hw_, hp_⟩; have HW5 := zz hw_; have HP5 := zz hp_; clear hw_ hp_)
              | (go_at_call 100; (with_reducible refine (HPU2.out _ HW5.out).mono ?_); rintro e w6 ⟨rfl, hw_, hk_⟩; have HW6 := zz hw_; have HP6 := zz (HPP.out _ _ _ HW5.out HP5.out hk_); clear hw_ hk_))
            go_roundw
            case rel =>
              have q1 : (p1 ++ [(⟨1, (m1 : Int) + 1, p2⟩ : S109)]).length ≤ 20 + 100 * (J + 1 - j) := by
                rw [List.length_append, List.length_singleton, HPL.out]
                exact HM2.out
              exact ⟨j, p1 ++ [(⟨1, (m1 : Int) + 1, p2⟩ : S109)], _, _, rfl, rfl, by have := HJJ.out; omega, ⟨HFN.out, fun _ => HJJ.out, q1, HGN.out⟩, HW6, HP6⟩
            case measure => exact gc_meas2 (by have := HFL.out; have := HL.out; omega) (by have := HL.out; omega) (by have := HL.out; omega)
          · obtain ⟨m1, hm1⟩ : ∃ m1, os1.length = m1 := ⟨_, rfl⟩
            have HM := zz hm1
            have hmb : m1 ≤ 20 + 100 * (J - j) := by rw [← hm1]; have := HG.out.2.2.1; omega
            have HMB := zz hmb
            rw [gcGiant_neg hat hcs] at hgn
            have hat1 : decide (0 ≤ at1) = false := decide_eq_false hat
            obtain ⟨p, hp⟩ : ∃ p, gcGroup (gcPw n) c0 r os1 = p := ⟨_, rfl⟩
            have hpl : p.1.length = m1 + 1 + 2 * r.length := by rw [← hp, gcGroup_length, hm1]
            rw [hp] at hgn
            have hgr := (fun (W3 : World) h1 h2 => by have h3 := GRP W3 os1 (by rw [hm1]; have := HJ17.out; have := HL.out; omega) h1 h2; rw [hp] at h3; exact h3)
            obtain ⟨p1, p2⟩ := p
            dsimp only at hpl hgn hgr
            have HGR := zz hgr
            have HPL := zz (show p1.length ≤ 20 + 100 * (J + 1 - j) by have := HMB.out; have := HL.out; have := HJJ.out; omega)
            have HGN := zz hgn
            clear hgn hcs hm1 hmb hp hpl hj hfn hrl hat GRP hgr
            go_wp2_with (go_at_call 102; (with_reducible refine (HGR.out _ HW.out HP.out).mono ?_); rintro e w5 ⟨rfl, hw_, hp_⟩; have HW5 := zz hw_; have HP5 := zz hp_; clear hw_ hp_)
            go_roundw
            case rel => exact ⟨j, p1, _, _, rfl, rfl, by have := HJJ.out; omega, ⟨HFN.out, fun _ => HJJ.out, HPL.out, HGN.out⟩, HW5, HP5⟩
            case measure => exact gc_meas2 (by have := HFL.out; have := HL.out; omega) (by have := HL.out; omega) (by have := HL.out; omega)
        · have h3i : (l.length : Int) < (fn : Int) + (kk : Int) := by omega
          have hrl : r.length + 1 = l.length - fn := by omega
          have GRP := fun (W3 : World) (os3 : List S109) (h5 : os3.length ≤ 50000) (h6 : WrAt w0.heap.size W.heap.size os3 w0 W3) (h7 : PwR w0.heap.size W3 (.slice (some ⟨g, 0, none⟩) (n + 2) cp) (gcPw n)) => group_in w0 W3 W.heap.size b (off + fn) (cc - fn) c0 r _ (gcPw n) os3 HBB.out hC0 hCr (by have := HL.out; omega) (by have := HL.out; omega) (by rw [gcPw_length]; have := HNR.out; omega) (by rw [gcPw_length]; have := HNR.out; omega) h5 h6 h7
          rw [hrl] at GRP
          by_cases hat : 0 ≤ at1
          · obtain ⟨m1, hm1⟩ : ∃ m1, os1.length = m1 := ⟨_, rfl⟩
            have HM := zz hm1
            have hmb : m1 ≤ 20 + 100 * (J - j) := by rw [← hm1]; have := HG.out.2.2.1; omega
            have HMB := zz hmb
            have hki := HKN.out (by have := HG.out.2.1 hat; omega)
            have hkin : (kk : Int) < (n : Int) + 2 := by omega
            have hkin0 : (0 : Int) ≤ (kk : Int) := by omega
            obtain ⟨y, hy⟩ : ∃ y, rd (gcPw n) (kk : Int) = y := ⟨_, rfl⟩
            have k2 : wr.cell? ⟨g, kk, none⟩ = some (.int .i64 y) := by rw [← hy]; exact pw_cell HP.out hki
            rw [gcGiant_pos hat hcs, hy, hm1] at hgn
            have hat1 : decide (0 ≤ at1) = true := decide_eq_true hat
            have hat2 : decide (0 ≤ (m1 : Int) + 1) = true := decide_eq_true (by omega)
            have HPU1 := zz (put_at w0.heap.size W.heap.size m1 os1 w0 wr 3 at1 y HW.out hm1 (by have := HJ17.out; have := HL.out; omega))
            obtain ⟨p, hp⟩ : ∃ p, gcGroup (gcPw n) c0 r (os1 ++ [⟨3, at1, y⟩]) = p := ⟨_, rfl⟩
            have hpl : p.1.length = m1 + 1 + 1 + 2 * r.length := by rw [← hp, gcGroup_length, List.length_append, List.length_singleton, hm1]
            rw [hp, hpl] at hgn
            have hgr := (fun (W3 : World) h1 h2 => by have h3 := GRP W3 (os1 ++ [⟨3, at1, y⟩]) (by rw [List.length_append, List.length_singleton, hm1]; have := HJ17.out; have := HL.out; omega) h1 h2; rw [hp] at h3; exact h3)
            obtain ⟨p1, p2⟩ := p
            dsimp only at hpl hgn hgr
            have HGR := zz hgr
            have HPU2 := zz (fun (W3 : World) (h3 : WrAt w0.heap.size W.heap.size p1 w0 W3) => put_at w0.heap.size W.heap.size (m1 + 1 + 1 + 2 * r.length) p1 w0 W3 1 ((m1 : Int) + 1) p2 h3 hpl (by have := HJ17.out; have := HL.out; omega))
            obtain ⟨u1, hbx1, -, -, -, -⟩ := id HW.out
            have HPK := zz (fun (W3 : World) (os3 : List S109) (hw3 : WrAt w0.heap.size W.heap.size os3 w0 wr) (hk : WrKeep W.heap.size wr W3) => pw_keep HP.out hbx1 hk)
            have HPP := zz (fun (W3 W4 : World) (os3 : List S109) (hw3 : WrAt w0.heap.size W.heap.size os3 w0 W3) (hp3 : PwR w0.heap.size W3 (.slice (some ⟨g, 0, none⟩) (n + 2) cp) (gcPw n)) (hk : WrKeep W.heap.size W3 W4) => pw_keep hp3 hw3.choose_spec.1 hk)
            obtain ⟨m2, hm2⟩ : ∃ m2 : Nat, m1 + 1 + 1 + 2 * r.length = m2 := ⟨_, rfl⟩
            rw [hm2] at HPU2 hgn
            have HM2 := zz (show m2 + 1 ≤ 20 + 100 * (J + 1 - j) by have := HMB.out; have := HL.out; have := HJJ.out; omega)
            have HPL := zz (show p1.length = m2 by omega)
            have HGN := zz hgn
            clear hgn hy hcs hm1 hmb hp hpl hbx1 hki hm2 hj hfn hrl hat GRP hgr
            go_wp2_with (first
              | (go_at_call 100; (with_reducible refine HPU1.out.mono ?_); rintro e w4 ⟨rfl, hw_, hk_⟩; have HW4 := zz hw_; have HP4 := zz (HPK.out _ _ HW.out hk_); clear hw_ hk_)
              | (go_at_call 102; (with_reducible refine (HGR.out _ HW4.out HP4.out).mono ?_); rintro e w5 ⟨rfl, hw_, hp_⟩; have HW5 := zz hw_; have HP5 := zz hp_; clear hw_ hp_)
              | (go_at_call 100; (with_reducible refine (HPU2.out _ HW5.out).mono ?_); rintro e w6 ⟨rfl, hw_, hk_⟩; have HW6 := zz hw_; have HP6 := zz (HPP.out _ _ _ HW5.out HP5.out hk_); clear hw_ hk_))
            go_roundw
            case rel =>
              have q1 : (p1 ++ [(⟨1, (m1 : Int) + 1, p2⟩ : S109)]).length ≤ 20 + 100 * (J + 1 - j) := by
                rw [List.length_append, List.length_singleton, HPL.out]
                exact HM2.out
              exact ⟨j, p1 ++ [(⟨1, (m1 : Int) + 1, p2⟩ : S109)], _, _, rfl, rfl, by have := HJJ.out; omega, ⟨HFN.out, fun _ => HJJ.out, q1, HGN.out⟩, HW6, HP6⟩
            case measure => exact gc_meas2 (by have := HFL.out; have := HL.out; omega) (by have := HL.out; omega) (by have := HL.out; omega)
          · obtain ⟨m1, hm1⟩ : ∃ m1, os1.length = m1 := ⟨_, rfl⟩
            have HM := zz hm1
            have hmb : m1 ≤ 20 + 100 * (J - j) := by rw [← hm1]; have := HG.out.2.2.1; omega
            have HMB := zz hmb
            rw [gcGiant_neg hat hcs] at hgn
            have hat1 : decide (0 ≤ at1) = false := decide_eq_false hat
            obtain ⟨p, hp⟩ : ∃ p, gcGroup (gcPw n) c0 r os1 = p := ⟨_, rfl⟩
            have hpl : p.1.length = m1 + 1 + 2 * r.length := by rw [← hp, gcGroup_length, hm1]
            rw [hp] at hgn
            have hgr := (fun (W3 : World) h1 h2 => by have h3 := GRP W3 os1 (by rw [hm1]; have := HJ17.out; have := HL.out; omega) h1 h2; rw [hp] at h3; exact h3)
            obtain ⟨p1, p2⟩ := p
            dsimp only at hpl hgn hgr
            have HGR := zz hgr
            have HPL := zz (show p1.length ≤ 20 + 100 * (J + 1 - j) by have := HMB.out; have := HL.out; have := HJJ.out; omega)
            have HGN := zz hgn
            clear hgn hcs hm1 hmb hp hpl hj hfn hrl hat GRP hgr
            go_wp2_with (go_at_call 102; (with_reducible refine (HGR.out _ HW.out HP.out).mono ?_); rintro e w5 ⟨rfl, hw_, hp_⟩; have HW5 := zz hw_; have HP5 := zz hp_; clear hw_ hp_)
            go_roundw
            case rel => exact ⟨j, p1, _, _, rfl, rfl, by have := HJJ.out; omega, ⟨HFN.out, fun _ => HJJ.out, HPL.out, HGN.out⟩, HW5, HP5⟩
            case measure => exact gc_meas2 (by have := HFL.out; have := HL.out; omega) (by have := HL.out; omega) (by have := HL.out; omega)
  · go_enter Try.func96, Try.ntmps96
    go_wp2_with (go_at_call 101; refine HPW.out.mono ?_; rintro e w3 ⟨v, rfl, hp_, hw_⟩; obtain ⟨g, cp, e3, -⟩ := pw_form hp_; subst e3; have HP := zz hp_; have HW := zz hw_; clear hp_ hw_)
    go_loopw [7, 8] (fun v7 v8 wr => ∃ (j : Nat) (os1 : List S109) (at1 f : Int), v7 = .int .i64 at1 ∧ v8 = .int .i64 f ∧ j ≤ J + 1 ∧ Aside0 (f = (j : Int) * (kk : Int) - (kk : Int) ∧ (0 ≤ at1 → j ≤ J) ∧ os1.length ≤ 20 + 100 * (J + 1 - j) ∧ gcGiant l kk (gcPw n) j os1 at1 = G) ∧ Aside0 (WrAt w0.heap.size W.heap.size os1 w0 wr) ∧ Aside0 (PwR w0.heap.size wr (.slice (some ⟨g, 0, none⟩) (n + 2) cp) (gcPw n))) (fun _ s _ => (intOf s + (kk : Int)).toNat)
    case atStart => exact ⟨J + 1, gcPops n, -1, F, rfl, by rw [hwF], Nat.le_refl _, ⟨by rw [Int.natCast_add, Int.add_mul, hF]; simp, fun h => absurd h (by decide), by rw [gcPops_length]; have := HNR.out; omega, HGG.out⟩, HW, HP⟩
    case round =>
      clear HP HW hJq hwJ hw1 hF hwF
      obtain ⟨j, os1, at1, f, rfl, rfl, hj, HG, HW, HP⟩ := hrel
      cases j with
      | zero =>
        have hfl : f < 0 := by have := HG.out.1; have := HL.out; omega
        have hge : decide (0 ≤ f) = false := decide_eq_false (by omega)
        have HGZ := zz HG.out.2.2.2
        clear hfl hj
        go_wp2
        go_ret
        exact ⟨_, rfl, by rw [← HGZ.out]; exact HW.out⟩
      | succ j =>
        obtain ⟨fn, hfn⟩ : ∃ fn : Nat, j * kk = fn := ⟨_, rfl⟩
        have hf : f = (fn : Int) := by have := HG.out.1; rw [← hfn]; rw [this, Int.natCast_add, Int.add_mul]; simp
        subst hf
        have hjk : j * kk ≤ J * kk := Nat.mul_le_mul_right _ (by omega)
        have hfl : fn < l.length := by have := HJK.out; have := HL.out; omega
        have HFL := zz hfl
        have HJJ := zz (show j ≤ J by omega)
        have hgn := HG.out.2.2.2
        obtain ⟨c0, r, hcs, hrm, hC0, hCr⟩ := gc_cut HC.out hfl (k := kk) (by have := HL.out; omega)
        rw [← hfn] at hcs
        have hwf1 : wrap64 ((fn : Int) + (kk : Int)) = (fn : Int) + (kk : Int) := gc_add (Nat.le_trans (Nat.le_of_lt hfl) (Nat.le_trans HL.out.1.2 (by decide))) HL.out.2.2.1
        have hwf2 : wrap64 ((fn : Int) - (kk : Int)) = (fn : Int) - (kk : Int) := gc_sub (Nat.le_trans (Nat.le_of_lt hfl) (Nat.le_trans HL.out.1.2 (by decide))) HL.out.2.2.1
        have HFN := zz (show wrap64 ((fn : Int) - (kk : Int)) = (j : Int) * (kk : Int) - (kk : Int) by rw [hwf2, ← hfn]; simp)
        have hge : decide (0 ≤ (fn : Int)) = true := decide_eq_true (by omega)
        clear hjk
        have hlo : fn ≤ l.length := by omega
        have hnc : ¬ cc ≤ fn := by have := HL.out; omega
        have hlc : l.length ≤ cc := HL.out.2.2.2
        by_cases h3 : fn + kk ≤ l.length
        · have h3i : (fn : Int) + (kk : Int) ≤ (l.length : Int) := by omega
          have hrl : r.length + 1 = kk := by omega
          have GRP := fun (W3 : World) (os3 : List S109) (h5 : os3.length ≤ 50000) (h6 : WrAt w0.heap.size W.heap.size os3 w0 W3) (h7 : PwR w0.heap.size W3 (.slice (some ⟨g, 0, none⟩) (n + 2) cp) (gcPw n)) => group_in w0 W3 W.heap.size b (off + fn) (cc - fn) c0 r _ (gcPw n) os3 HBB.out hC0 hCr (by have := HL.out; omega) (by have := HL.out; omega) (by rw [gcPw_length]; have := HNR.out; omega) (by rw [gcPw_length]; have := HNR.out; omega) h5 h6 h7
          rw [hrl] at GRP
          by_cases hat : 0 ≤ at1
          · obtain ⟨m1, hm1⟩ : ∃ m1, os1.length = m1 := ⟨_, rfl⟩
            have HM := zz hm1
            have hmb : m1 ≤ 20 + 100 * (J - j) := by rw [← hm1]; have := HG.out.2.2.1; omega
            have HMB := zz hmb
            have hki := HKN.out (by have := HG.out.2.1 hat; omega)
            have hkin : (kk : Int) < (n : Int) + 2 := by omega
            have hkin0 : (0 : Int) ≤ (kk : Int) := by omega
            obtain ⟨y, hy⟩ : ∃ y, rd (gcPw n) (kk : Int) = y := ⟨_, rfl⟩
            have k2 : wr.cell? ⟨g, kk, none⟩ = some (.int .i64 y) := by rw [← hy]; exact pw_cell HP.out hki
            rw [gcGiant_pos hat hcs, hy, hm1] at hgn
            have hat1 : decide (0 ≤ at1) = true := decide_eq_true hat
            have hat2 : decide (0 ≤ (m1 : Int) + 1) = true := decide_eq_true (by omega)
            have HPU1 := zz (put_at w0.heap.size W.heap.size m1 os1 w0 wr 3 at1 y HW.out hm1 (by have := HJ17.out; have := HL.out; omega))
            obtain ⟨p, hp⟩ : ∃ p, gcGroup (gcPw n) c0 r (os1 ++ [⟨3, at1, y⟩]) = p := ⟨_, rfl⟩
            have hpl : p.1.length = m1 + 1 + 1 + 2 * r.length := by rw [← hp, gcGroup_length, List.length_append, List.length_singleton, hm1]
            rw [hp, hpl] at hgn
            have hgr := (fun (W3 : World) h1 h2 => by have h3 := GRP W3 (os1 ++ [⟨3, at1, y⟩]) (by rw [List.length_append, List.length_singleton, hm1]; have := HJ17.out; have := HL.out; omega) h1 h2; rw [hp] at h3; exact h3)
            obtain ⟨p1, p2⟩ := p
            dsimp only at hpl hgn hgr
            have HGR := zz hgr
            have HPU2 := zz (fun (W3 : World) (h3 : WrAt w0.heap.size W.heap.size p1 w0 W3) => put_at w0.heap.size W.heap.size (m1 + 1 + 1 + 2 * r.length) p1 w0 W3 1 ((m1 : Int) + 1) p2 h3 hpl (by have := HJ17.out; have := HL.out; omega))
            obtain ⟨u1, hbx1, -, -, -, -⟩ := id HW.out
            have HPK := zz (fun (W3 : World) (os3 : List S109) (hw3 : WrAt w0.heap.size W.heap.size os3 w0 wr) (hk : WrKeep W.heap.size wr W3) => pw_keep HP.out hbx1 hk)
            have HPP := zz (fun (W3 W4 : World) (os3 : List S109) (hw3 : WrAt w0.heap.size W.heap.size os3 w0 W3) (hp3 : PwR w0.heap.size W3 (.slice (some ⟨g, 0, none⟩) (n + 2) cp) (gcPw n)) (hk : WrKeep W.heap.size W3 W4) => pw_keep hp3 hw3.choose_spec.1 hk)
            obtain ⟨m2, hm2⟩ : ∃ m2 : Nat, m1 + 1 + 1 + 2 * r.length = m2 := ⟨_, rfl⟩
            rw [hm2] at HPU2 hgn
            have HM2 := zz (show m2 + 1 ≤ 20 + 100 * (J + 1 - j) by have := HMB.out; have := HL.out; have := HJJ.out; omega)
            have HPL := zz (show p1.length = m2 by omega)
            have HGN := zz hgn
            clear hgn hy hcs hm1 hmb hp hpl hbx1 hki hm2 hj hfn hrl hat GRP hgr
            go_wp2_with (first
              | (go_at_call 100; (with_reducible refine HPU1.out.mono ?_); rintro e w4 ⟨rfl, hw_, hk_⟩; have HW4 := zz hw_; have HP4 := zz (HPK.out _ _ HW.out hk_); clear hw_ hk_)
              | (go_at_call 102; (with_reducible refine (HGR.out _ HW4.out HP4.out).mono ?_); rintro e w5 ⟨rfl, hw_, hp_⟩; have HW5 := zz hw_; have HP5 := zz hp_; clear hw_ hp_)
              | (go_at_call 100; (with_reducible refine (HPU2.out _ HW5.out).mono ?_); rintro e w6 ⟨rfl, hw_, hk_⟩; have HW6 := zz hw_; have HP6 := zz (HPP.out _ _ _ HW5.out HP5.out hk_); clear hw_ hk_))
            go_roundw
            case rel =>
              have q1 : (p1 ++ [(⟨1, (m1 : Int) + 1, p2⟩ : S109)]).length ≤ 20 + 100 * (J + 1 - j) := by
                rw [List.length_append, List.length_singleton, HPL.out]
                exact HM2.out
              exact ⟨j, p1 ++ [(⟨1, (m1 : Int) + 1, p2⟩ : S109)], _, _, rfl, rfl, by have := HJJ.out; omega, ⟨HFN.out, fun _ => HJJ.out, q1, HGN.out⟩, HW6, HP6⟩
            case measure => exact gc_meas2 (by have := HFL.out; have := HL.out; omega) (by have := HL.out; omega) (by have := HL.out; omega)
          · obtain ⟨m1, hm1⟩ : ∃ m1, os1.length = m1 := ⟨_, rfl⟩
            have HM := zz hm1
            have hmb : m1 ≤ 20 + 100 * (J - j) := by rw [← hm1]; have := HG.out.2.2.1; omega
            have HMB := zz hmb
            rw [gcGiant_neg hat hcs] at hgn
            have hat1 : decide (0 ≤ at1) = false := decide_eq_false hat
            obtain ⟨p, hp⟩ : ∃ p, gcGroup (gcPw n) c0 r os1 = p := ⟨_, rfl⟩
            have hpl : p.1.length = m1 + 1 + 2 * r.length := by rw [← hp, gcGroup_length, hm1]
            rw [hp] at hgn
            have hgr := (fun (W3 : World) h1 h2 => by have h3 := GRP W3 os1 (by rw [hm1]; have := HJ17.out; have := HL.out; omega) h1 h2; rw [hp] at h3; exact h3)
            obtain ⟨p1, p2⟩ := p
            dsimp only at hpl hgn hgr
            have HGR := zz hgr
            have HPL := zz (show p1.length ≤ 20 + 100 * (J + 1 - j) by have := HMB.out; have := HL.out; have := HJJ.out; omega)
            have HGN := zz hgn
            clear hgn hcs hm1 hmb hp hpl hj hfn hrl hat GRP hgr
            go_wp2_with (go_at_call 102; (with_reducible refine (HGR.out _ HW.out HP.out).mono ?_); rintro e w5 ⟨rfl, hw_, hp_⟩; have HW5 := zz hw_; have HP5 := zz hp_; clear hw_ hp_)
            go_roundw
            case rel => exact ⟨j, p1, _, _, rfl, rfl, by have := HJJ.out; omega, ⟨HFN.out, fun _ => HJJ.out, HPL.out, HGN.out⟩, HW5, HP5⟩
            case measure => exact gc_meas2 (by have := HFL.out; have := HL.out; omega) (by have := HL.out; omega) (by have := HL.out; omega)
        · have h3i : (l.length : Int) < (fn : Int) + (kk : Int) := by omega
          have hrl : r.length + 1 = l.length - fn := by omega
          have GRP := fun (W3 : World) (os3 : List S109) (h5 : os3.length ≤ 50000) (h6 : WrAt w0.heap.size W.heap.size os3 w0 W3) (h7 : PwR w0.heap.size W3 (.slice (some ⟨g, 0, none⟩) (n + 2) cp) (gcPw n)) => group_in w0 W3 W.heap.size b (off + fn) (cc - fn) c0 r _ (gcPw n) os3 HBB.out hC0 hCr (by have := HL.out; omega) (by have := HL.out; omega) (by rw [gcPw_length]; have := HNR.out; omega) (by rw [gcPw_length]; have := HNR.out; omega) h5 h6 h7
          rw [hrl] at GRP
          by_cases hat : 0 ≤ at1
          · obtain ⟨m1, hm1⟩ : ∃ m1, os1.length = m1 := ⟨_, rfl⟩
            have HM := zz hm1
            have hmb : m1 ≤ 20 + 100 * (J - j) := by rw [← hm1]; have := HG.out.2.2.1; omega
            have HMB := zz hmb
            have hki := HKN.out (by have := HG.out.2.1 hat; omega)
            have hkin : (kk : Int) < (n : Int) + 2 := by omega
            have hkin0 : (0 : Int) ≤ (kk : Int) := by omega
            obtain ⟨y, hy⟩ : ∃ y, rd (gcPw n) (kk : Int) = y := ⟨_, rfl⟩
            have k2 : wr.cell? ⟨g, kk, none⟩ = some (.int .i64 y) := by rw [← hy]; exact pw_cell HP.out hki
            rw [gcGiant_pos hat hcs, hy, hm1] at hgn
            have hat1 : decide (0 ≤ at1) = true := decide_eq_true hat
            have hat2 : decide (0 ≤ (m1 : Int) + 1) = true := decide_eq_true (by omega)
            have HPU1 := zz (put_at w0.heap.size W.heap.size m1 os1 w0 wr 3 at1 y HW.out hm1 (by have := HJ17.out; have := HL.out; omega))
            obtain ⟨p, hp⟩ : ∃ p, gcGroup (gcPw n) c0 r (os1 ++ [⟨3, at1, y⟩]) = p := ⟨_, rfl⟩
            have hpl : p.1.length = m1 + 1 + 1 + 2 * r.length := by rw [← hp, gcGroup_length, List.length_append, List.length_singleton, hm1]
            rw [hp, hpl] at hgn
            have hgr := (fun (W3 : World) h1 h2 => by have h3 := GRP W3 (os1 ++ [⟨3, at1, y⟩]) (by rw [List.length_append, List.length_singleton, hm1]; have := HJ17.out; have := HL.out; omega) h1 h2; rw [hp] at h3; exact h3)
            obtain ⟨p1, p2⟩ := p
            dsimp only at hpl hgn hgr
            have HGR := zz hgr
            have HPU2 := zz (fun (W3 : World) (h3 : WrAt w0.heap.size W.heap.size p1 w0 W3) => put_at w0.heap.size W.heap.size (m1 + 1 + 1 + 2 * r.length) p1 w0 W3 1 ((m1 : Int) + 1) p2 h3 hpl (by have := HJ17.out; have := HL.out; omega))
            obtain ⟨u1, hbx1, -, -, -, -⟩ := id HW.out
            have HPK := zz (fun (W3 : World) (os3 : List S109) (hw3 : WrAt w0.heap.size W.heap.size os3 w0 wr) (hk : WrKeep W.heap.size wr W3) => pw_keep HP.out hbx1 hk)
            have HPP := zz (fun (W3 W4 : World) (os3 : List S109) (hw3 : WrAt w0.heap.size W.heap.size os3 w0 W3) (hp3 : PwR w0.heap.size W3 (.slice (some ⟨g, 0, none⟩) (n + 2) cp) (gcPw n)) (hk : WrKeep W.heap.size W3 W4) => pw_keep hp3 hw3.choose_spec.1 hk)
            obtain ⟨m2, hm2⟩ : ∃ m2 : Nat, m1 + 1 + 1 + 2 * r.length = m2 := ⟨_, rfl⟩
            rw [hm2] at HPU2 hgn
            have HM2 := zz (show m2 + 1 ≤ 20 + 100 * (J + 1 - j) by have := HMB.out; have := HL.out; have := HJJ.out; omega)
            have HPL := zz (show p1.length = m2 by omega)
            have HGN := zz hgn
            clear hgn hy hcs hm1 hmb hp hpl hbx1 hki hm2 hj hfn hrl hat GRP hgr
            go_wp2_with (first
              | (go_at_call 100; (with_reducible refine HPU1.out.mono ?_); rintro e w4 ⟨rfl, hw_, hk_⟩; have HW4 := zz hw_; have HP4 := zz (HPK.out _ _ HW.out hk_); clear hw_ hk_)
              | (go_at_call 102; (with_reducible refine (HGR.out _ HW4.out HP4.out).mono ?_); rintro e w5 ⟨rfl, hw_, hp_⟩; have HW5 := zz hw_; have HP5 := zz hp_; clear hw_ hp_)
              | (go_at_call 100; (with_reducible refine (HPU2.out _ HW5.out).mono ?_); rintro e w6 ⟨rfl, hw_, hk_⟩; have HW6 := zz hw_; have HP6 := zz (HPP.out _ _ _ HW5.out HP5.out hk_); clear hw_ hk_))
            go_roundw
            case rel =>
              have q1 : (p1 ++ [(⟨1, (m1 : Int) + 1, p2⟩ : S109)]).length ≤ 20 + 100 * (J + 1 - j) := by
                rw [List.length_append, List.length_singleton, HPL.out]
                exact HM2.out
              exact ⟨j, p1 ++ [(⟨1, (m1 : Int) + 1, p2⟩ : S109)], _, _, rfl, rfl, by have := HJJ.out; omega, ⟨HFN.out, fun _ => HJJ.out, q1, HGN.out⟩, HW6, HP6⟩
            case measure => exact gc_meas2 (by have := HFL.out; have := HL.out; omega) (by have := HL.out; omega) (by have := HL.out; omega)
          · obtain ⟨m1, hm1⟩ : ∃ m1, os1.length = m1 := ⟨_, rfl⟩
            have HM := zz hm1
            have hmb : m1 ≤ 20 + 100 * (J - j) := by rw [← hm1]; have := HG.out.2.2.1; omega
            have HMB := zz hmb
            rw [gcGiant_neg hat hcs] at hgn
            have hat1 : decide (0 ≤ at1) = false := decide_eq_false hat
            obtain ⟨p, hp⟩ : ∃ p, gcGroup (gcPw n) c0 r os1 = p := ⟨_, rfl⟩
            have hpl : p.1.length = m1 + 1 + 2 * r.length := by rw [← hp, gcGroup_length, hm1]
            rw [hp] at hgn
            have hgr := (fun (W3 : World) h1 h2 => by have h3 := GRP W3 os1 (by rw [hm1]; have := HJ17.out; have := HL.out; omega) h1 h2; rw [hp] at h3; exact h3)
            obtain ⟨p1, p2⟩ := p
            dsimp only at hpl hgn hgr
            have HGR := zz hgr
            have HPL := zz (show p1.length ≤ 20 + 100 * (J + 1 - j) by have := HMB.out; have := HL.out; have := HJJ.out; omega)
            have HGN := zz hgn
            clear hgn hcs hm1 hmb hp hpl hj hfn hrl hat GRP hgr
            go_wp2_with (go_at_call 102; (with_reducible refine (HGR.out _ HW.out HP.out).mono ?_); rintro e w5 ⟨rfl, hw_, hp_⟩; have HW5 := zz hw_; have HP5 := zz hp_; clear hw_ hp_)
            go_roundw
            case rel => exact ⟨j, p1, _, _, rfl, rfl, by have := HJJ.out; omega, ⟨HFN.out, fun _ => HJJ.out, HPL.out, HGN.out⟩, HW5, HP5⟩
            case measure => exact gc_meas2 (by have := HFL.out; have := HL.out; omega) (by have := HL.out; omega) (by have := HL.out; omega)
set_option maxHeartbeats 2000000 in
theorem gc_yes (k : Nat) (b off c0 : Nat) (l : List Int) (kk : Nat) (r1 : List S109) (r2 : Int) (r3 : Bool) (w : World) (hC : Kd.C (Kd.int .i64) w (some ⟨b, off, none⟩) l.length l) (hcc : l.length ≤ c0) (hcell : ∀ j, j < l.length → w.cell? ⟨b, off + j, none⟩ = some (.int .i64 (l.getD j 0))) (hl1 : 1 ≤ l.length) (hl2 : l.length ≤ 17) (hk1 : 1 ≤ kk) (hk2 : kk ≤ 17) (hok : impl_coefsOk.f l = some true) (hg : impl_giantOk.f (kk : Int) = some true) (hf : impl_toldCode.f k (gcOps l kk) ((gcOps l kk).length : Int) = some (r1, r2, r3)) :
    Calls Try.prog 20 #[.slice (some ⟨b, off, none⟩) l.length c0, .int .i64 (kk : Int)] w fun e w' => ∃ v0_ : Value, e = .returned (.tuple #[.agg #[v0_, .int .i64 r2], .bool r3]) ∧ Kd.R k109 109 w' w.heap.size (fun _ => True) v0_ r1 ∧ Below w.heap.size w w' := by
  have hb : b < w.heap.size := World.block_lt_of_cell? _ _ (hcell 0 (by omega))
  obtain ⟨mo, hm⟩ : ∃ mo : Int, (kk : Int) ≤ (l.length : Int) - 1 ∧ mo = kk ∨ (l.length : Int) - 1 < (kk : Int) ∧ mo = (l.length : Int) - 1 := by
    by_cases h : (kk : Int) ≤ (l.length : Int) - 1
    · exact ⟨_, Or.inl ⟨h, rfl⟩⟩
    · exact ⟨_, Or.inr ⟨by omega, rfl⟩⟩
  obtain ⟨ops, hops⟩ : ∃ ops, gcOps l kk = ops := ⟨_, rfl⟩
  have hal : ∀ j, j < l.length → (w.alloc (.cells #[.slice none 0 0, .int .i64 0] 32)).cell? ⟨b, off + j, none⟩ = some (.int .i64 (l.getD j 0)) := fun j hj => (World.cell?_alloc_lt _ _ ⟨b, off + j, none⟩ hb).trans (hcell j hj)
  have GI := zz (fun (W : World) (hB : Below (w.alloc (.cells #[.slice none 0 0, .int .i64 0] 32)).heap.size (w.alloc (.cells #[.slice none 0 0, .int .i64 0] 32)) W) => giant_in (w.alloc (.cells #[.slice none 0 0, .int .i64 0] 32)) W b off c0 l kk _ _ mo hm rfl rfl (by rw [World.size_alloc]; omega) hal hcc hl1 hl2 hk1 hk2 hB (gcGiant l kk (gcPw (gcN l kk)) ((l.length - 1) / kk + 1) (gcPops (gcN l kk)) (-1)) rfl)
  have HOPS := zz (show (gcGiant l kk (gcPw (gcN l kk)) ((l.length - 1) / kk + 1) (gcPops (gcN l kk)) (-1)).1 = ops from hops)
  rw [hops] at hf
  have HC := zz hC
  have HLC := zz hcc
  have HOK := zz hok
  have HGO := zz hg
  have HF := zz hf
  clear hC hcc hcell hl1 hl2 hk1 hk2 hok hg hf hb hm hal hops
  go_enter Try.func20, Try.ntmps20
  go_wp2_with (first
    | (go_at_call 95; refine (impl_coefsOk.calls _ c0 l true _ (Kd.C_alloc HC.out _) HLC.out HOK.out).mono ?_; rintro e w2 ⟨rfl, hd_⟩; obtain ⟨n2, rfl⟩ := YtlmoemahamneoaaHand.of_drawn hd_; clear hd_)
    | (go_at_call 91; refine (impl_giantOk.calls _ true _ HGO.out).mono ?_; rintro e w3 ⟨rfl, hd_⟩; obtain ⟨n3, rfl⟩ := YtlmoemahamneoaaHand.of_drawn hd_; clear hd_)
    | (go_at_call 96; refine (GI.out _ (by repeat (first | exact Below.refl _ _ | apply zq))).mono ?_; rintro e w4 ⟨B, rfl, hw_⟩; rw [HOPS.out] at hw_; obtain ⟨u, hbx_, hR_, hB_, -, -⟩ := id hw_; obtain ⟨Au, cu, eu⟩ := qw hR_; subst eu; have HBO := zz (blk_below (blk_new w (.cells #[.slice none 0 0, .int .i64 0] 32)) hB_); have HWR := zz hw_; have k0 : w4.cell? ⟨B, 0, none⟩ = some (.slice Au ops.length cu) := (zk hbx_ 0).trans rfl; clear hw_ hbx_ hR_ hB_)
    | (go_at_call 97; refine (code_in k B ops (ops.length : Int) r1 r2 r3 w.heap.size _ (w.alloc (.cells #[.slice none 0 0, .int .i64 0] 32)) w4 HWR.out HBO.out HF.out).mono ?_; rintro e w5 ⟨v0, rfl, hR1, hB1, hX3⟩; obtain ⟨A3, c3, e3⟩ := qw hR1; subst e3; have HR1 := zz (Kd.R_lower hR1 (show w.heap.size ≤ _ by rw [World.size_alloc]; omega)); have HB1 := zz (below_step (zj (Below.refl _ w) _) hB1); have HX := zz hX3; have s0 : w5.cell? ⟨w.heap.size, 0, none⟩ = some (.slice none 0 0) := (zk hX3 0).trans rfl; have s1 : w5.cell? ⟨w.heap.size, 1, none⟩ = some (.int .i64 0) := (zk hX3 1).trans rfl; have f0 : w5.frozen? ⟨w.heap.size, 0, none⟩ = false := zv hX3 0; have f1 : w5.frozen? ⟨w.heap.size, 1, none⟩ = false := zv hX3 1; clear hR1 hB1 hX3))
  refine bodyPost_ret (results_ct rfl _ _ w.heap.size 32 #[.slice A3 r1.length c3, .int .i64 r2] (0, 0) _ rfl (qz (qz HX.out 0 _ rfl) 1 _ rfl) Try.underlying32 rfl (by kernel_rfl)) rfl ?_
  refine ⟨_, rfl, ?_, Below.setCell (Below.setCell HB1.out (p := ⟨w.heap.size, 0, none⟩) (Nat.le_refl _) _) (p := ⟨w.heap.size, 1, none⟩) (Nat.le_refl _) _⟩
  have hX1 := qz HX.out 0 (.slice A3 r1.length c3) rfl
  exact qq (ok' := fun _ => True) (Kd.R_far (p := ⟨w.heap.size, 1, none⟩) (Kd.R_types (qq (ok' := fun _ => True) (Kd.R_far (p := ⟨w.heap.size, 0, none⟩) (Kd.R_types HR1.out HX.out (by decide)) (fun _ hk => hk.2) (.slice A3 r1.length c3)) (fun _ _ => trivial)) hX1 (by decide)) (fun _ hk => hk.2) (.int .i64 r2)) (fun _ hk => trivial)
set_option maxHeartbeats 2000000 in
theorem gc_no (A : Option Addr) (c0 : Nat) (l : List Int) (a1 : Int) (c d : Bool) (w : World) (hC : Kd.C (Kd.int .i64) w A l.length l) (hcc : l.length ≤ c0) (hok : impl_coefsOk.f l = some c) (hg : impl_giantOk.f a1 = some d) (hcd : c = false ∨ c = true ∧ d = false) :
    Calls Try.prog 20 #[.slice A l.length c0, .int .i64 a1] w fun e w' => ∃ v0_ : Value, e = .returned (.tuple #[.agg #[v0_, .int .i64 0], .bool false]) ∧ Kd.R k109 109 w' w.heap.size (fun _ => True) v0_ [] ∧ Below w.heap.size w w' := by
  have HC := zz hC
  have HLC := zz hcc
  have HOK := zz hok
  have HGO := zz hg
  clear hC hcc hok hg
  rcases hcd with rfl | ⟨rfl, rfl⟩
  all_goals go_enter Try.func20, Try.ntmps20
  all_goals go_wp2_with (first
    | (go_at_call 95; refine (impl_coefsOk.calls _ c0 l _ _ (Kd.C_alloc HC.out _) HLC.out HOK.out).mono ?_; rintro e w2 ⟨rfl, hd_⟩; obtain ⟨n2, rfl⟩ := YtlmoemahamneoaaHand.of_drawn hd_; clear hd_; have s0 : ((w.alloc (.cells #[.slice none 0 0, .int .i64 0] 32)).drewN n2).cell? ⟨w.heap.size, 0, none⟩ = some (.slice none 0 0) := (zk (zx (blk_new w _) n2) 0).trans rfl; have s1 : ((w.alloc (.cells #[.slice none 0 0, .int .i64 0] 32)).drewN n2).cell? ⟨w.heap.size, 1, none⟩ = some (.int .i64 0) := (zk (zx (blk_new w _) n2) 1).trans rfl)
    | (go_at_call 91; refine (impl_giantOk.calls _ _ _ HGO.out).mono ?_; rintro e w3 ⟨rfl, hd_⟩; obtain ⟨n3, rfl⟩ := YtlmoemahamneoaaHand.of_drawn hd_; clear hd_))
  all_goals refine bodyPost_ret (results_ct rfl _ _ w.heap.size 32 #[.slice none 0 0, .int .i64 0] (0, 0) _ rfl (qz (qz (zx (blk_new w _) _) 0 _ rfl) 1 _ rfl) Try.underlying32 rfl (by kernel_rfl)) rfl ?_
  all_goals exact ⟨_, rfl, Kd.R_nil _ _ _ _ _, Below.setCell (Below.setCell (zq (zj (Below.refl _ _) _) _) (p := ⟨w.heap.size, 0, none⟩) (Nat.le_refl _) _) (p := ⟨w.heap.size, 1, none⟩) (Nat.le_refl _) _⟩
end
def impl_GiantCode.f (k : Nat) (l0 : List Int) (a1 : Int) : Option (List (S109) × Int × Bool) := (impl_coefsOk.f l0).bind fun c => (impl_giantOk.f a1).bind fun d => if c = true ∧ d = true then impl_toldCode.f k (gcOps l0 a1.toNat) ((gcOps l0 a1.toNat).length : Int) else some ([], 0, false)
theorem impl_GiantCode.mono : ∀ (a0 : List Int) (a1 : Int) (k : Nat), LeO (impl_GiantCode.f k a0 a1) (impl_GiantCode.f (k + 1) a0 a1) := by
  intro a0 a1 k
  unfold impl_GiantCode.f
  exact LeO.bind (qx _) (fun _ => LeO.bind (qx _) (fun _ => LeO.ite (impl_toldCode.mono _ _ _) (qx _)))
theorem gc_coefs {l : List Int} (h : impl_coefsOk.f l = some true) : 1 ≤ l.length ∧ l.length ≤ 17 := by
  unfold impl_coefsOk.f at h
  by_cases h0 : (l.length : Int) > 0
  · rw [if_pos h0] at h
    unfold impl_polynomialOk.f polyB at h
    simp only [Option.bind_some, Option.some.injEq, Bool.and_eq_true, decide_eq_true_eq] at h
    exact ⟨by omega, h.1⟩
  · rw [if_neg h0] at h; injection h with h; cases h
theorem gc_k {a : Int} (h : impl_giantOk.f a = some true) : 1 ≤ a ∧ a ≤ 17 := by
  unfold impl_giantOk.f impl_in.f at h
  by_cases h0 : a ≥ 1
  · rw [if_pos h0] at h
    simp only [Option.bind_some, Option.some.injEq, decide_eq_true_eq] at h
    exact ⟨h0, h⟩
  · rw [if_neg h0] at h; injection h with h; cases h
theorem impl_GiantCode.calls (k : Nat) (A0 : Option Addr) (c0 : Nat) (l0 : List Int) (a1 : Int) (r1 : List (S109)) (r2 : Int) (r3 : Bool) (w : World) (hr0 : Kd.C (Kd.int .i64) w A0 l0.length l0) (hc0 : l0.length ≤ c0) (h : impl_GiantCode.f k l0 a1 = some (r1, r2, r3)) :
    Calls Try.prog 20 #[.slice A0 l0.length c0, .int .i64 a1] w fun e w' => ∃ v0_ : Value, e = .returned (.tuple #[.agg #[v0_, .int .i64 r2], .bool r3]) ∧ Kd.R k109 109 w' w.heap.size (fun _ => True) v0_ r1 ∧ Below w.heap.size w w' := by
  unfold impl_GiantCode.f at h
  obtain ⟨c, hok, h1⟩ := Option.bind_eq_some_iff.mp h
  obtain ⟨d, hg, h2⟩ := Option.bind_eq_some_iff.mp h1
  clear h h1
  by_cases hy : c = true ∧ d = true
  · rw [if_pos hy] at h2
    obtain ⟨rfl, rfl⟩ := hy
    obtain ⟨hl1, hl2⟩ := gc_coefs hok
    obtain ⟨hk1, hk2⟩ := gc_k hg
    obtain ⟨kk, rfl⟩ : ∃ kk : Nat, a1 = (kk : Int) := ⟨a1.toNat, by omega⟩
    rw [Int.toNat_natCast] at h2
    rcases YtlmoemahamneoaaHand.int_slice hr0 with h0 | ⟨b, off, rfl, _, hcells⟩
    · subst h0; simp at hl1
    · exact gc_yes k b off c0 l0 kk r1 r2 r3 w hr0 hc0 hcells hl1 hl2 (by omega) (by omega) hok hg h2
  · rw [if_neg hy] at h2
    simp only [Option.some.injEq, Prod.mk.injEq] at h2
    obtain ⟨rfl, rfl, rfl⟩ := h2
    refine gc_no A0 c0 l0 a1 c d w hr0 hc0 hok hg ?_
    cases c with
    | false => exact Or.inl rfl
    | true => cases d with
      | false => exact Or.inr ⟨rfl, rfl⟩
      | true => exact absurd ⟨rfl, rfl⟩ hy
end Go.Proofs.Ytlmoemahamneoaa.PFnSchemesAgree
