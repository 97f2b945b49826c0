-- Written by gprint.py, a program of this session, out of the translation (a changed print).
import Derived.Test.YtlmoemahamneoaaPFnExactCodeOfPlanx0
import Derived.Test.YtlmoemahamneoaaPFnExactCodeOfPlanx9
import Derived.Test.YtlmoemahamneoaaPFnExactCodeOfPlanx11
namespace Go.Proofs.Ytlmoemahamneoaa.PFnExactCodeOfPlan
open Go.RowKit Go.Proofs.YtlmoemahamneoaaW.PrintWords Go.Proofs.YtlmoemahamneoaaW.PrintLast Go.Proofs.YtlmoemahamneoaaW.PrintMore
-- shrunk
open Go.Proofs.YtlmoemahamneoaaW.PrintWords.Aside0 renaming mk → zz
open Go.Proofs.YtlmoemahamneoaaW.PrintWords renaming pw_below_drewN → zq, below_alloc → zj, below_drew1 → zw, below_set → zx, below_step → zk, below_size → zv, blk_alloc → qz, blk_drewN → qq, blk_drew → qj, blk_cell → qw, blk_frozen → qx, blk_put → qk, blk_below → qv, gate_callee → yx, gate_dst → yk, box_event → yv
open List renaming setIfInBounds_toArray → jz, set_cons_zero → jv, set_cons_succ → yz, map_toArray → yq, length_drop → yj, length_take → yw
open Go.World renaming block_lt_of_cell? → jq
open Go.Proofs.YtlmoemahamneoaaW.PrintWords.Kd renaming C_alloc → jj, C_drewN → jw, C_drew → jx, C_below → jk, R_mono → vz, R_slice → vq
open Go.Proofs.YtlmoemahamneoaaW.PrintWords.LeO renaming bind → vj, refl → vw
open Go.Proofs.YtlmoemahamneoaaW.PrintLast renaming goesL_ → vx, any_of → vk, take_ofW → vv, i64_w → kz, i32_w → kj
attribute [local go_sem] max2_int min2_int max_two min_two max_three min_three max_four min_four   -- for this text's walks alone
set_option linter.unusedVariables false
set_option linter.unusedSimpArgs false

/-! ### impl_CodeOfPlan: function 39 -/
/-- What lies of a writer: its box, and the row of its own. -/
def WrAt (base B : Nat) (os : List S109) (w0 W : World) : Prop := ∃ u, W.heap[B]? = some (.cells #[u] 107 (0, 0)) ∧ Kd.R k109 109 W base (fun _ => True) u os ∧ Below base w0 W ∧ base ≤ B ∧ base ≤ w0.heap.size
def CpHold (p : Prop) : Prop := p
theorem cp_hold {p : Prop} (h : CpHold p) : p := h
section
set_option maxRecDepth 100000
set_option maxHeartbeats 1000000 in
theorem put_in (base B : Nat) (os : List S109) (w0 W : World) (kind a b : Int) (h : WrAt base B os w0 W) (hl : os.length ≤ 100000) :
    Calls Try.prog 100 #[.pointer (some ⟨B, 0, none⟩), .int .i64 kind, .int .i64 a, .int .i64 b] W fun e W' => e = .returned (.int .i64 ((os.length + 1 : Nat) : Int)) ∧ WrAt base B (os ++ [⟨kind, a, b⟩]) w0 W' ∧ ∀ k cs t, 109 ≠ t → k ≠ B → W.heap[k]? = some (.cells cs t (0, 0)) → W'.heap[k]? = some (.cells cs t (0, 0)) := by
  obtain ⟨u, hb, hR, hB, hge, hbw⟩ := h
  obtain ⟨A, c, e⟩ := vq hR
  subst e
  have k0 : W.cell? ⟨B, 0, none⟩ = some (.slice A os.length c) := (qw hb 0).trans rfl
  have BX := zz hb
  have HR := zz hR
  have HB := zz hB
  have HGE := zz hge
  have HW0 := zz hbw
  have hl24 : (os.length + 1) * 24 ≤ 140737488355328 := by omega
  clear hb hR hB hge hl hbw
  go_enter Try.func100, Try.ntmps100
  go_wp2_with (at_builtin; refine cp_hold ?_)
  unfold CpHold
  refine Kd.R_append k109 (w0 := w0) base rfl (.tmp 13) (.tmp 18) 30 109 (.agg #[(.int .i64 0), (.int .i64 0), (.int .i64 0)]) 24 rfl Try.underlying30 info109 rfl (by decide) (by decide) (.slice A os.length c) os (⟨kind, a, b⟩ : S109) [.int .i64 kind, .int .i64 a, .int .i64 b] (fun _ => True) (fun _ => False) rfl rfl ?aP (fun _ hk => hk.elim) ?aF ?aO ?aB ?aS hl24 ?_
  (case aP => exact k109_mkM _ _ _ (⟨kind, a, b⟩ : S109))
  (case aF => exact (fun _ _ => trivial))
  (case aO => exact HR.out)
  (case aB => exact HB.out)
  (case aS => exact Nat.le_trans HW0.out HB.out.size)
  intro v1 w1 ho_ hb_ hg_ _
  obtain ⟨os2, hos2⟩ : ∃ os2, os ++ [(⟨kind, a, b⟩ : S109)] = os2 := ⟨_, rfl⟩
  have HO2 := zz hos2
  rw [hos2] at ho_
  clear hos2
  obtain ⟨A1, c1, e1⟩ := vq ho_
  subst e1
  have N1 := zz ho_
  have N2 := zz hb_
  have N5 := zz (fun k cs t (ht : 109 ≠ t) (h : W.heap[k]? = some (.cells cs t (0, 0))) => blk_grown h hg_ (Kd.R_ne HR.out h ht))
  have N4 := zz (blk_grown BX.out hg_ (Kd.R_ne HR.out BX.out (by decide)))
  have s0 : w1.cell? ⟨B, 0, none⟩ = some (.slice A os.length c) := (qw N4.out 0).trans rfl
  have sf : w1.frozen? ⟨B, 0, none⟩ = false := qx N4.out 0
  clear ho_ hb_ hg_ k0
  go_wp2
  go_ret
  refine ⟨by rw [← HO2.out, List.length_append]; rfl, ⟨.slice A1 os2.length c1, qk N4.out 0 _ rfl, ?_, N2.out.setCell (p := ⟨B, 0, none⟩) HGE.out _, HGE.out, HW0.out⟩, fun k cs t ht hk h => blk_far (N5.out k cs t ht h) hk _⟩
  rw [HO2.out]
  exact vz (ok' := fun _ => True) (Kd.R_far (p := ⟨B, 0, none⟩) (Kd.R_types N1.out N4.out (by decide)) (fun _ hk => hk.2) (.slice A1 os2.length c1)) (fun _ hk => trivial)
set_option maxHeartbeats 1000000 in
theorem code_in (k : Nat) (B : Nat) (os : List S109) (out : Int) (r1 : List S109) (r2 : Int) (r3 : Bool) (X : Nat) (xs : Array Value) (w0 W : World) (h : WrAt w0.heap.size B os w0 W) (hx : W.heap[X]? = some (.cells xs 32 (0, 0))) (hf : impl_toldCode.f k os out = some (r1, r2, r3)) :
    Calls Try.prog 97 #[.pointer (some ⟨B, 0, none⟩), .int .i64 out] W fun e W' => ∃ v, e = .returned (.tuple #[.agg #[v, .int .i64 r2], .bool r3]) ∧ Kd.R k109 109 W' w0.heap.size (fun _ => True) v r1 ∧ Below w0.heap.size w0 W' ∧ W'.heap[X]? = some (.cells xs 32 (0, 0)) := by
  obtain ⟨u, hb, hR, hB, hge, hbw⟩ := h
  obtain ⟨A, c, e⟩ := vq hR
  subst e
  have k0 : (W.alloc (.cells #[.slice none 0 0, .int .i64 0] 32)).cell? ⟨B, 0, none⟩ = some (.slice A os.length c) := (qw (qz hb _) 0).trans rfl
  have bo := blk_new W (.cells #[.slice none 0 0, .int .i64 0] 32)
  have hR2 : Kd.R k109 109 (W.alloc (.cells #[.slice none 0 0, .int .i64 0] 32)) w0.heap.size (fun k_ => k_ < W.heap.size ∧ k_ ≠ X) (.slice A os.length c) os := Kd.R_alloc (vz (Kd.R_bound (Kd.R_types hR hx (by decide))) (fun k_ hk_ => ⟨hk_.2.2.1, hk_.1.2⟩)) _
  have HT := Go.Lib.hid (impl_toldCode.calls k (fun k_ => k_ < W.heap.size ∧ k_ ≠ X) (.slice A os.length c) os out r1 r2 r3 w0 _ (zj hB (.cells #[.slice none 0 0, .int .i64 0] 32)) hR2 hf)
  have HBO := zz bo
  have HXL := zz (blk_lt hx)
  have HX0 := zz (qz hx (.cells #[.slice none 0 0, .int .i64 0] 32))
  have HGE := zz hB.size
  clear hb hR hR2 hge hbw bo hB hf hx
  go_enter Try.func97, Try.ntmps97
  go_wp2_with (go_at_call 187; refine HT.out.mono ?_; rintro e w1 ⟨v0, rfl, hR1, hB1, hK1⟩; obtain ⟨A1, c1, e1⟩ := vq hR1; subst e1; have HR1 := zz hR1; have HB1 := zz hB1; have HX := zz (blk_kept HBO.out hK1 (fun h_ => Nat.lt_irrefl _ h_.1)); have HXX := zz (blk_kept HX0.out hK1 (fun h_ => h_.2 rfl)); clear hR1 hB1 hK1; have s0 : w1.cell? ⟨W.heap.size, 0, none⟩ = some (.slice none 0 0) := (qw HX.out 0).trans rfl; have s1 : w1.cell? ⟨W.heap.size, 1, none⟩ = some (.int .i64 0) := (qw HX.out 1).trans rfl; have f0 : w1.frozen? ⟨W.heap.size, 0, none⟩ = false := qx HX.out 0; have f1 : w1.frozen? ⟨W.heap.size, 1, none⟩ = false := qx HX.out 1)
  refine bodyPost_ret (results_ct rfl _ _ W.heap.size 32 #[.slice A1 r1.length c1, .int .i64 r2] (0, 0) _ rfl (qk (qk HX.out 0 _ rfl) 1 _ rfl) Try.underlying32 rfl (by kernel_rfl)) rfl ?_
  refine ⟨_, rfl, ?_, Below.setCell (Below.setCell HB1.out (p := ⟨W.heap.size, 0, none⟩) HGE.out _) (p := ⟨W.heap.size, 1, none⟩) HGE.out _, blk_far (blk_far HXX.out (p := ⟨W.heap.size, 0, none⟩) (Nat.ne_of_lt HXL.out) _) (p := ⟨W.heap.size, 1, none⟩) (Nat.ne_of_lt HXL.out) _⟩
  have hX1 := qk HX.out 0 (.slice A1 r1.length c1) rfl
  exact vz (ok' := fun _ => True) (Kd.R_far (p := ⟨W.heap.size, 1, none⟩) (Kd.R_types (vz (ok' := fun _ => True) (Kd.R_far (p := ⟨W.heap.size, 0, none⟩) (Kd.R_types HR1.out HX.out (by decide)) (fun _ hk => hk.2) (.slice A1 r1.length c1)) (fun _ _ => trivial)) hX1 (by decide)) (fun _ hk => hk.2) (.int .i64 r2)) (fun _ hk => trivial)
end
theorem wr_alloc {base B : Nat} {os : List S109} {w0 W : World} (h : WrAt base B os w0 W) (o : Obj) : WrAt base B os w0 (W.alloc o) := by
  obtain ⟨u, hb, hR, hB, hge, hbw⟩ := h
  exact ⟨u, qz hb o, Kd.R_alloc hR o, hB.alloc (Nat.le_trans hbw hB.size) o, hge, hbw⟩
def cpOps (steps : List S133) : List S109 := steps.map fun s => ⟨3, s.f0, s.f1⟩
def impl_CodeOfPlan.f (k : Nat) (a0_0 : Int) (l0_1 : List (S133)) (l0_2 : List Int) : Option (List (S109) × Int × Bool) := (impl_IsPlan.f a0_0 l0_1 l0_2).bind fun b => if b = true ∧ a0_0 = 1 ∧ l0_2.length = 1 then impl_toldCode.f k (cpOps l0_1) (rd l0_2 0) else some ([], 0, false)
theorem impl_CodeOfPlan.mono : ∀ (a0 : Int) (a1 : List (S133)) (a2 : List Int) (k : Nat), LeO (impl_CodeOfPlan.f k a0 a1 a2) (impl_CodeOfPlan.f (k + 1) a0 a1 a2) := by
  intro a0 a1 a2 k
  unfold impl_CodeOfPlan.f
  exact vj (vw _) (fun _ => LeO.ite (impl_toldCode.mono _ _ _) (vw _))
section
set_option maxRecDepth 100000
set_option maxHeartbeats 2000000 in
theorem cp_yes (k : Nat) (A1 : Option Addr) (c1 : Nat) (steps : List S133) (A2 : Option Addr) (c2 : Nat) (outs : List Int) (r1 : List S109) (r2 : Int) (r3 : Bool) (w : World) (hC1 : Kd.C k133 w A1 steps.length steps) (hl1 : steps.length ≤ c1) (hC2 : Kd.C (Kd.int .i64) w A2 outs.length outs) (hl2 : outs.length ≤ c2) (hP : impl_IsPlan.f 1 steps outs = some true) (h40 : steps.length ≤ 40) (ho : outs.length = 1) (hf : impl_toldCode.f k (cpOps steps) (rd outs 0) = some (r1, r2, r3)) :
    Calls Try.prog 39 #[.agg #[.int .i64 1, .slice A1 steps.length c1, .slice A2 outs.length c2]] w fun e w' => ∃ v0_ : Value, e = .returned (.tuple #[.agg #[v0_, .int .i64 r2], .bool r3]) ∧ Kd.R k109 109 w' w.heap.size (fun _ => True) v0_ r1 ∧ Below w.heap.size w w' := by
  have HC1 := Go.Lib.hid hC1
  have HC2 := Go.Lib.hid hC2
  have HL1 := Go.Lib.hid hl1
  have HL2 := Go.Lib.hid hl2
  have HP := Go.Lib.hid hP
  have HF := Go.Lib.hid hf
  have H40 := Go.Lib.hid h40
  have HO1 := Go.Lib.hid ho
  clear hC1 hC2 hl1 hl2 hP hf h40 ho
  go_enter Try.func39, Try.ntmps39
  go_wp2_with (go_at_call 124; refine (impl_IsPlan.calls 1 A1 c1 steps A2 c2 outs true _ (jj (jj HC1.out _) _) HL1.out (jj (jj HC2.out _) _) HL2.out HP.out).mono ?_; rintro e w2 ⟨rfl, hb_⟩; have hbp := qv (qz (blk_new w (.cells #[.int .i64 1, .slice A1 steps.length c1, .slice A2 outs.length c2] 59)) (.cells #[.slice none 0 0, .int .i64 0] 32)) hb_; have hbo : w2.heap[w.heap.size + 1]? = some (.cells #[.slice none 0 0, .int .i64 0] 32 (0, 0)) := qv (by have := blk_new (w.alloc (.cells #[.int .i64 1, .slice A1 steps.length c1, .slice A2 outs.length c2] 59)) (.cells #[.slice none 0 0, .int .i64 0] 32); rw [World.size_alloc] at this; exact this) hb_; have HB2 := Go.Lib.hid (zk (zj (zj (Below.refl _ w) _) _) hb_); clear hb_; have p0 : w2.cell? ⟨w.heap.size, 0, none⟩ = some (.int .i64 1) := (qw hbp 0).trans rfl; have p1 : w2.cell? ⟨w.heap.size, 1, none⟩ = some (.slice A1 steps.length c1) := (qw hbp 1).trans rfl; have p2 : w2.cell? ⟨w.heap.size, 2, none⟩ = some (.slice A2 outs.length c2) := (qw hbp 2).trans rfl; have p1a : (w2.alloc (.cells #[.slice none 0 0] 107)).cell? ⟨w.heap.size, 1, none⟩ = some (.slice A1 steps.length c1) := (qw (qz hbp _) 1).trans rfl; have ho_ := HO1.out)
  have hw2 : w.heap.size ≤ w2.heap.size := HB2.out.size
  have hW0 : WrAt w.heap.size w2.heap.size [] w (w2.alloc (.cells #[.slice none 0 0] 107)) := ⟨_, blk_new w2 _, Kd.R_nil _ _ _ _ _, zj HB2.out _, hw2, Nat.le_refl _⟩
  have HW0 := zz hW0
  have HBP := zz (qz hbp (.cells #[.slice none 0 0] 107))
  have HBO := zz (qz hbo (.cells #[.slice none 0 0] 107))
  have HLT := zz (blk_lt hbo)
  clear hW0 hbp hbo p0 p1 p2 p1a
  go_loopw [27] (fun s wr => ∃ i : Nat, s = .int .i64 (i : Int) ∧ i ≤ steps.length ∧ Aside0 (WrAt w.heap.size w2.heap.size (cpOps (steps.take i)) w wr) ∧ Aside0 (wr.heap[w.heap.size]? = some (.cells #[.int .i64 1, .slice A1 steps.length c1, .slice A2 outs.length c2] 59 (0, 0))) ∧ Aside0 (wr.heap[w.heap.size + 1]? = some (.cells #[.slice none 0 0, .int .i64 0] 32 (0, 0)))) (fun s _ => steps.length - (intOf s).toNat)
  case atStart => exact ⟨0, rfl, Nat.zero_le _, HW0, HBP, HBO⟩
  case round =>
    clear HW0 HBP HBO
    obtain ⟨i, rfl, hi, HW, HBP, HBO⟩ := hrel
    by_cases hlt : i < steps.length
    · have hltz : (i : Int) < (steps.length : Int) := by omega
      obtain ⟨s, hs⟩ : ∃ s, steps[i] = s := ⟨_, rfl⟩
      obtain ⟨_, _, _, hBw, _, _⟩ := id HW.out
      obtain ⟨ad, e, hx0, hx1⟩ := at_T133 (jk HC1.out hBw) (i : Int) (by omega) hltz
      have hrd : rd_T133 steps (i : Int) = s := by
        unfold rd_T133
        rw [Int.toNat_natCast, List.getD_eq_getElem?_getD, List.getElem?_eq_getElem hlt]; exact hs
      rw [hrd, Int.toNat_natCast] at hx0 hx1
      subst e
      obtain ⟨a, b⟩ := s
      dsimp only at hx0 hx1
      have HTK := zz (show cpOps (steps.take (i + 1)) = cpOps (steps.take i) ++ [⟨3, a, b⟩] by unfold cpOps; rw [List.take_succ_eq_append_getElem hlt, hs, List.map_append]; rfl)
      have HPUT := zz (put_in w.heap.size w2.heap.size (cpOps (steps.take i)) w _ 3 a b (wr_alloc HW.out (.cells #[.int .i64 a, .int .i64 b] 133)) (by unfold cpOps; rw [List.length_map, yw]; have := H40.out; omega))
      have HBP2 := zz (qz HBP.out (.cells #[.int .i64 a, .int .i64 b] 133))
      have HBO2 := zz (qz HBO.out (.cells #[.int .i64 a, .int .i64 b] 133))
      have HI := Go.Lib.hid hlt
      clear hrd hs hBw hlt hi
      go_wp2_with (go_at_call 100; refine HPUT.out.mono ?_; rintro e w3 ⟨rfl, hw_, hk_⟩; have N1 := zz hw_; have N2 := zz (hk_ _ _ _ (by decide) (by have := HLT.out; omega) HBP2.out); have N3 := zz (hk_ _ _ _ (by decide) (by have := HLT.out; omega) HBO2.out); clear hw_ hk_)
      go_roundw
      case rel => exact ⟨i + 1, ip_wrap HI.out H40.out, HI.out, ⟨by rw [HTK.out]; exact N1.out⟩, N2, N3⟩
      case measure => exact ip_meas HI.out H40.out
    · obtain rfl : i = steps.length := by omega
      rw [List.take_length] at HW
      obtain ⟨_, _, _, hBw, _, _⟩ := id HW.out
      obtain ⟨ad, e, hx0⟩ := Kd.at_int (jk HC2.out hBw) 0 (by omega) (by omega)
      subst e
      have hx1 : wr.cell? ad = some (.int .i64 (rd outs 0)) := by simpa [Addr.add] using hx0
      have p2 : wr.cell? ⟨w.heap.size, 2, none⟩ = some (.slice (some ad) outs.length c2) := (qw HBP.out 2).trans rfl
      have HCO := zz (code_in k w2.heap.size (cpOps steps) (rd outs 0) r1 r2 r3 (w.heap.size + 1) _ w wr HW.out HBO.out HF.out)
      clear hBw hlt hi
      go_wp2_with (go_at_call 97; refine HCO.out.mono ?_; rintro e w3 ⟨v0, rfl, hR1, hB1, hX3⟩; obtain ⟨A3, c3, e3⟩ := vq hR1; subst e3; have HR1 := zz hR1; have HB1 := zz hB1; have HX := zz hX3; have s0 : w3.cell? ⟨w.heap.size + 1, 0, none⟩ = some (.slice none 0 0) := (qw hX3 0).trans rfl; have s1 : w3.cell? ⟨w.heap.size + 1, 1, none⟩ = some (.int .i64 0) := (qw hX3 1).trans rfl; have f0 : w3.frozen? ⟨w.heap.size + 1, 0, none⟩ = false := qx hX3 0; have f1 : w3.frozen? ⟨w.heap.size + 1, 1, none⟩ = false := qx hX3 1; clear hR1 hB1 hX3)
      refine bodyPost_ret (results_ct rfl _ _ (w.heap.size + 1) 32 #[.slice A3 r1.length c3, .int .i64 r2] (0, 0) _ rfl (qk (qk HX.out 0 _ rfl) 1 _ rfl) Try.underlying32 rfl (by kernel_rfl)) rfl ?_
      refine ⟨_, rfl, ?_, Below.setCell (Below.setCell HB1.out (p := ⟨w.heap.size + 1, 0, none⟩) (Nat.le_succ _) _) (p := ⟨w.heap.size + 1, 1, none⟩) (Nat.le_succ _) _⟩
      have hX1 := qk HX.out 0 (.slice A3 r1.length c3) rfl
      exact vz (ok' := fun _ => True) (Kd.R_far (p := ⟨w.heap.size + 1, 1, none⟩) (Kd.R_types (vz (ok' := fun _ => True) (Kd.R_far (p := ⟨w.heap.size + 1, 0, none⟩) (Kd.R_types HR1.out HX.out (by decide)) (fun _ hk => hk.2) (.slice A3 r1.length c3)) (fun _ _ => trivial)) hX1 (by decide)) (fun _ hk => hk.2) (.int .i64 r2)) (fun _ hk => trivial)
def CpNo (b : Bool) (a : Int) (n : Nat) : Prop := (b = false) ∨ (b = true ∧ a ≠ 1) ∨ (b = true ∧ a = 1 ∧ (n : Int) ≠ 1)
set_option maxHeartbeats 2000000 in
theorem cp_no (k : Nat) (a0 : Int) (A1 : Option Addr) (c1 : Nat) (steps : List S133) (A2 : Option Addr) (c2 : Nat) (outs : List Int) (b : Bool) (w : World) (hC1 : Kd.C k133 w A1 steps.length steps) (hl1 : steps.length ≤ c1) (hC2 : Kd.C (Kd.int .i64) w A2 outs.length outs) (hl2 : outs.length ≤ c2) (hP : impl_IsPlan.f a0 steps outs = some b) (hn : CpNo b a0 outs.length) :
    Calls Try.prog 39 #[.agg #[.int .i64 a0, .slice A1 steps.length c1, .slice A2 outs.length c2]] w fun e w' => ∃ v0_ : Value, e = .returned (.tuple #[.agg #[v0_, .int .i64 0], .bool false]) ∧ Kd.R k109 109 w' w.heap.size (fun _ => True) v0_ [] ∧ Below w.heap.size w w' := by
  have HC1 := Go.Lib.hid hC1
  have HC2 := Go.Lib.hid hC2
  have HL1 := Go.Lib.hid hl1
  have HL2 := Go.Lib.hid hl2
  have HP := Go.Lib.hid hP
  clear hC1 hC2 hl1 hl2 hP
  unfold CpNo at hn
  obtain rfl | ⟨rfl, hn⟩ | ⟨rfl, rfl, hn⟩ := hn
  all_goals go_enter Try.func39, Try.ntmps39
  all_goals go_wp2_with (first
    | (go_at_call 124; refine (impl_IsPlan.calls a0 A1 c1 steps A2 c2 outs _ _ (jj (jj HC1.out _) _) HL1.out (jj (jj HC2.out _) _) HL2.out HP.out).mono ?_; rintro e w2 ⟨rfl, hb_⟩
       have hbp := qv (qz (blk_new w (.cells #[.int .i64 a0, .slice A1 steps.length c1, .slice A2 outs.length c2] 59)) (.cells #[.slice none 0 0, .int .i64 0] 32)) hb_
       have hbo : w2.heap[w.heap.size + 1]? = some (.cells #[.slice none 0 0, .int .i64 0] 32 (0, 0)) := qv (by have := blk_new (w.alloc (.cells #[.int .i64 a0, .slice A1 steps.length c1, .slice A2 outs.length c2] 59)) (.cells #[.slice none 0 0, .int .i64 0] 32); rw [World.size_alloc] at this; exact this) hb_
       have HB2 := Go.Lib.hid (zk (zj (zj (Below.refl _ w) _) _) hb_)
       clear hb_
       have HBO := Go.Lib.hid hbo
       have p0 : w2.cell? ⟨w.heap.size, 0, none⟩ = some (.int .i64 a0) := (qw hbp 0).trans rfl
       have p2 : w2.cell? ⟨w.heap.size, 2, none⟩ = some (.slice A2 outs.length c2) := (qw hbp 2).trans rfl
       have hs0 : w2.cell? ⟨w.heap.size + 1, 0, none⟩ = some (.slice none 0 0) := (qw hbo 0).trans rfl
       have hs1 : w2.cell? ⟨w.heap.size + 1, 1, none⟩ = some (.int .i64 0) := (qw hbo 1).trans rfl
       have hf0 : w2.frozen? ⟨w.heap.size + 1, 0, none⟩ = false := qx hbo 0
       have hf1 : w2.frozen? ⟨w.heap.size + 1, 1, none⟩ = false := qx hbo 1)
    | (go_at_call 124; refine (impl_IsPlan.calls 1 A1 c1 steps A2 c2 outs _ _ (jj (jj HC1.out _) _) HL1.out (jj (jj HC2.out _) _) HL2.out HP.out).mono ?_; rintro e w2 ⟨rfl, hb_⟩
       have hbp := qv (qz (blk_new w (.cells #[.int .i64 1, .slice A1 steps.length c1, .slice A2 outs.length c2] 59)) (.cells #[.slice none 0 0, .int .i64 0] 32)) hb_
       have hbo : w2.heap[w.heap.size + 1]? = some (.cells #[.slice none 0 0, .int .i64 0] 32 (0, 0)) := qv (by have := blk_new (w.alloc (.cells #[.int .i64 1, .slice A1 steps.length c1, .slice A2 outs.length c2] 59)) (.cells #[.slice none 0 0, .int .i64 0] 32); rw [World.size_alloc] at this; exact this) hb_
       have HB2 := Go.Lib.hid (zk (zj (zj (Below.refl _ w) _) _) hb_)
       clear hb_
       have HBO := Go.Lib.hid hbo
       have p0 : w2.cell? ⟨w.heap.size, 0, none⟩ = some (.int .i64 1) := (qw hbp 0).trans rfl
       have p2 : w2.cell? ⟨w.heap.size, 2, none⟩ = some (.slice A2 outs.length c2) := (qw hbp 2).trans rfl
       have hs0 : w2.cell? ⟨w.heap.size + 1, 0, none⟩ = some (.slice none 0 0) := (qw hbo 0).trans rfl
       have hs1 : w2.cell? ⟨w.heap.size + 1, 1, none⟩ = some (.int .i64 0) := (qw hbo 1).trans rfl
       have hf0 : w2.frozen? ⟨w.heap.size + 1, 0, none⟩ = false := qx hbo 0
       have hf1 : w2.frozen? ⟨w.heap.size + 1, 1, none⟩ = false := qx hbo 1))
  all_goals refine bodyPost_ret (results_ct rfl _ _ (w.heap.size + 1) 32 #[.slice none 0 0, .int .i64 0] (0, 0) _ rfl (qk (qk HBO.out 0 _ rfl) 1 _ rfl) Try.underlying32 rfl (by kernel_rfl)) rfl ?_
  all_goals exact ⟨_, rfl, Kd.R_nil _ _ _ _ _, Below.setCell (Below.setCell HB2.out (p := ⟨w.heap.size + 1, 0, none⟩) (Nat.le_succ _) _) (p := ⟨w.heap.size + 1, 1, none⟩) (Nat.le_succ _) _⟩
end
theorem impl_CodeOfPlan.calls (k : Nat) (a0_0 : Int) (A0_1 : Option Addr) (c0_1 : Nat) (l0_1 : List (S133)) (A0_2 : Option Addr) (c0_2 : Nat) (l0_2 : List Int) (r1 : List (S109)) (r2 : Int) (r3 : Bool) (w : World) (hr0_1 : Kd.C k133 w A0_1 l0_1.length l0_1) (hc0_1 : l0_1.length ≤ c0_1) (hr0_2 : Kd.C (Kd.int .i64) w A0_2 l0_2.length l0_2) (hc0_2 : l0_2.length ≤ c0_2) (h : impl_CodeOfPlan.f k a0_0 l0_1 l0_2 = some (r1, r2, r3)) :
    Calls Try.prog 39 #[.agg #[.int .i64 a0_0, .slice A0_1 l0_1.length c0_1, .slice A0_2 l0_2.length c0_2]] w fun e w' => ∃ v0_ : Value, e = .returned (.tuple #[.agg #[v0_, .int .i64 r2], .bool r3]) ∧ Kd.R k109 109 w' w.heap.size (fun _ => True) v0_ r1 ∧ Below w.heap.size w w' := by
  unfold impl_CodeOfPlan.f at h
  obtain ⟨b, hb, hx⟩ := Option.bind_eq_some_iff.mp h
  clear h
  by_cases hy : b = true ∧ a0_0 = 1 ∧ l0_2.length = 1
  · rw [if_pos hy] at hx
    obtain ⟨rfl, rfl, ho⟩ := hy
    have h40 : l0_1.length ≤ 40 := by
      unfold impl_IsPlan.f at hb
      have hb2 := Option.some.inj hb
      rw [Bool.and_eq_true] at hb2
      exact (formedB_parts hb2.1).2.1
    exact cp_yes k A0_1 c0_1 l0_1 A0_2 c0_2 l0_2 r1 r2 r3 w hr0_1 hc0_1 hr0_2 hc0_2 hb h40 ho hx
  · rw [if_neg hy] at hx
    simp only [Option.some.injEq, Prod.mk.injEq] at hx
    obtain ⟨rfl, rfl, rfl⟩ := hx
    refine cp_no k a0_0 A0_1 c0_1 l0_1 A0_2 c0_2 l0_2 b w hr0_1 hc0_1 hr0_2 hc0_2 hb ?_
    unfold CpNo
    cases b with
    | false => exact Or.inl rfl
    | true =>
      by_cases h1 : a0_0 = 1
      · exact Or.inr (Or.inr ⟨rfl, h1, fun h2 => hy ⟨rfl, h1, by omega⟩⟩)
      · exact Or.inr (Or.inl ⟨rfl, h1⟩)

/-! ### laws_eqIntS: function 28 -/
def laws_eqIntS.l0 : Nat → List Int → List Int → Int → Option (Bool)
 | 0, _, _, _ => none
 | k + 1, x0, x1, x5 => if x5 < (x0.length : Int) then (if 0 ≤ x5 then (if x5 < (x1.length : Int) then (if (rd x0 x5) = (rd x1 x5) then (laws_eqIntS.l0 k x0 x1 (wrap64 (x5 + 1))) else (some false)) else (none)) else (none)) else (some true)
def laws_eqIntS.f (k : Nat) (l0 : List Int) (l1 : List Int) : Option (Bool) := if (l0.length : Int) = (l1.length : Int) then (laws_eqIntS.l0 k l0 l1 0) else (some false)
theorem laws_eqIntS.mono_l : ∀ k, (∀ y0 y1 y2, LeO (laws_eqIntS.l0 k y0 y1 y2) (laws_eqIntS.l0 (k + 1) y0 y1 y2))
 | 0 => fun _ _ _ r h => by simp [laws_eqIntS.l0] at h
 | k + 1 => by
  have ih0 := laws_eqIntS.mono_l k
  ·intro y0 y1 y2
   unfold laws_eqIntS.l0
   repeat' first
   | (with_reducible exact ih0 _ _ _)
   | (with_reducible exact vw _)
   | (with_reducible exact LeO.none _)
   | (with_reducible refine LeO.ite ?_ ?_)
   | (with_reducible refine vj ?_ (fun _ => ?_))
   | exact ih0 _ _ _
   | exact LeO.none _
   | refine LeO.ite ?_ ?_
   | refine vj ?_ (fun _ => ?_)
theorem laws_eqIntS.mono : ∀ a0 a1 k, LeO (laws_eqIntS.f k a0 a1) (laws_eqIntS.f (k + 1) a0 a1) := by
 intro a0 a1 k
 have ih0 := laws_eqIntS.mono_l k
 unfold laws_eqIntS.f
 repeat' first
   | (with_reducible exact ih0 _ _ _)
   | (with_reducible exact vw _)
   | (with_reducible exact LeO.none _)
   | (with_reducible refine LeO.ite ?_ ?_)
   | (with_reducible refine vj ?_ (fun _ => ?_))
   | exact ih0 _ _ _
   | exact LeO.none _
   | refine LeO.ite ?_ ?_
   | refine vj ?_ (fun _ => ?_)
set_option maxHeartbeats 8000000 in
set_option maxRecDepth 100000 in
theorem laws_eqIntS.calls (k : Nat) (A0 : Option Addr) (c0 : Nat) (l0 : List Int) (A1 : Option Addr) (c1 : Nat) (l1 : List Int) (r : Bool) (w : World) (hr0 : Kd.C (Kd.int .i64) w A0 l0.length l0) (hc0 : l0.length ≤ c0) (hr1 : Kd.C (Kd.int .i64) w A1 l1.length l1) (hc1 : l1.length ≤ c1) (h : laws_eqIntS.f k l0 l1 = some r) :
  Calls Try.prog 28 #[.slice A0 l0.length c0, .slice A1 l1.length c1] w fun e w' => e = .returned (.bool r) ∧ Drawn0 w w' := by
 have HR0 := zz hr0
 have HC0 := zz hc0
 clear hr0 hc0
 have HR1 := zz hr1
 have HC1 := zz hc1
 clear hr1 hc1
 have H : (if (l0.length : Int) = (l1.length : Int) then (laws_eqIntS.l0 k l0 l1 0) else (some false)) = some r := h
 clear h
 by_cases c3 : (l0.length : Int) = (l1.length : Int)
 ·rw [if_pos c3] at H
  have c3b0 : ((l0.length : Int) == (l1.length : Int)) = true := beq_iff_eq.mpr c3
  have c3b1 : ((l0.length : Int) != (l1.length : Int)) = false := bne_eq_false_iff_eq.mpr c3
  have c3b2 : (l0.length == l1.length) = true := by first | simpa using c3 | (simp at c3 ⊢; omega)
  clear c3
  have H' := zz H
  clear H
  go_enter Try.func28, Try.ntmps28
  go_wp2
  repeat (go_quiet (fail); try go_wp2)
  go_loopg [5] k (fun kq v5 w' => ∃ (x5_1 : Int), v5 = .int .i64 x5_1 ∧ Aside0 (laws_eqIntS.l0 kq l0 l1 x5_1 = some r) ∧ Aside0 (kq ≤ k) ∧ Drawn0 w w')
  case atStart => exact ⟨(0), (by first | rfl | (simp; done) | (simp [*]; done)), H', ⟨Nat.le_refl _⟩, by repeat (first | exact Drawn0.refl _ | apply Drawn0.step)⟩
  case round =>
   clear H'
   try clear c1
   try clear c2
   try clear p2
   try clear c3
   try clear c3b0
   try clear c3b1
   try clear c3b2
   obtain ⟨x5_1, rfl, HA, HK1, ⟨m1, rfl⟩⟩ := hrel
   cases gk with
   | zero => exact absurd HA.out (by simp [laws_eqIntS.l0])
   | succ k1 =>
    have H := HA.out
    clear HA
    simp only [laws_eqIntS.l0] at H
    by_cases c4 : x5_1 < (l0.length : Int)
    ·rw [if_pos c4] at H
     have c4b0 : decide (x5_1 < (l0.length : Int)) = true := decide_eq_true c4
     clear c4
     by_cases c5 : 0 ≤ x5_1
     ·rw [if_pos c5] at H
      have c5b0 : decide (0 ≤ x5_1) = true := decide_eq_true c5
      clear c5
      by_cases c6 : x5_1 < (l1.length : Int)
      ·rw [if_pos c6] at H
       have c6b0 : decide (x5_1 < (l1.length : Int)) = true := decide_eq_true c6
       clear c6
       by_cases c7 : (rd l0 x5_1) = (rd l1 x5_1)
       ·rw [if_pos c7] at H
        have c7b0 : ((rd l0 x5_1) == (rd l1 x5_1)) = true := beq_iff_eq.mpr c7
        have c7b1 : ((rd l0 x5_1) != (rd l1 x5_1)) = false := bne_eq_false_iff_eq.mpr c7
        clear c7
        have H' := zz H
        clear H
        have p334 : 0 ≤ (x5_1 : Int) := of_decide_eq_true (by first | (with_reducible assumption) | assumption)
        have q334 : x5_1 < (l0.length : Int) := of_decide_eq_true (by first | (with_reducible assumption) | assumption)
        obtain ⟨ad334, e334, hx334_0⟩ := Kd.at_int HR0.out x5_1 p334 q334
        cases e334
        replace p334 := eq_true p334
        replace q334 := eq_true q334
        have p335 : 0 ≤ (x5_1 : Int) := of_decide_eq_true (by first | (with_reducible assumption) | assumption)
        have q335 : x5_1 < (l1.length : Int) := of_decide_eq_true (by first | (with_reducible assumption) | assumption)
        obtain ⟨ad335, e335, hx335_0⟩ := Kd.at_int HR1.out x5_1 p335 q335
        cases e335
        replace p335 := eq_true p335
        replace q335 := eq_true q335
        go_wp2
        repeat (go_quiet (fail); try go_wp2)
        go_roundg k1
        case measure => have := HK1.out; omega
        case rel => exact ⟨(wrap64 (x5_1 + 1)), (by first | rfl | (simp; done) | (simp [*]; done)), H', ⟨by have := HK1.out; omega⟩, by repeat (first | exact Drawn0.refl _ | apply Drawn0.step)⟩
       ·rw [if_neg c7] at H
        have c7b0 : ((rd l0 x5_1) == (rd l1 x5_1)) = false := beq_eq_false_iff_ne.mpr c7
        have c7b1 : ((rd l0 x5_1) != (rd l1 x5_1)) = true := bne_iff_ne.mpr c7
        obtain rfl := Option.some.inj H
        have p334 : 0 ≤ (x5_1 : Int) := of_decide_eq_true (by first | (with_reducible assumption) | assumption)
        have q334 : x5_1 < (l0.length : Int) := of_decide_eq_true (by first | (with_reducible assumption) | assumption)
        obtain ⟨ad334, e334, hx334_0⟩ := Kd.at_int HR0.out x5_1 p334 q334
        cases e334
        replace p334 := eq_true p334
        replace q334 := eq_true q334
        have p335 : 0 ≤ (x5_1 : Int) := of_decide_eq_true (by first | (with_reducible assumption) | assumption)
        have q335 : x5_1 < (l1.length : Int) := of_decide_eq_true (by first | (with_reducible assumption) | assumption)
        obtain ⟨ad335, e335, hx335_0⟩ := Kd.at_int HR1.out x5_1 p335 q335
        cases e335
        replace p335 := eq_true p335
        replace q335 := eq_true q335
        go_wp2
        repeat (go_quiet (fail); try go_wp2)
        go_ret
        exact ⟨by first | rfl | (simp; done) | (simp [*]; done), by repeat (first | exact Drawn0.refl _ | apply Drawn0.step)⟩
      ·rw [if_neg c6] at H
       exact absurd H (by simp)
     ·rw [if_neg c5] at H
      exact absurd H (by simp)
    ·rw [if_neg c4] at H
     have c4b0 : decide (x5_1 < (l0.length : Int)) = false := decide_eq_false c4
     clear c4
     obtain rfl := Option.some.inj H
     go_wp2
     repeat (go_quiet (fail); try go_wp2)
     go_ret
     exact ⟨by first | rfl | (simp; done) | (simp [*]; done), by repeat (first | exact Drawn0.refl _ | apply Drawn0.step)⟩
 ·rw [if_neg c3] at H
  have c3b0 : ((l0.length : Int) == (l1.length : Int)) = false := beq_eq_false_iff_ne.mpr c3
  have c3b1 : ((l0.length : Int) != (l1.length : Int)) = true := bne_iff_ne.mpr c3
  have c3b2 : (l0.length == l1.length) = false := by first | simpa using c3 | (simp at c3 ⊢; omega)
  obtain rfl := Option.some.inj H
  go_enter Try.func28, Try.ntmps28
  go_wp2
  repeat (go_quiet (fail); try go_wp2)
  go_ret
  exact ⟨by first | rfl | (simp; done) | (simp [*]; done), by repeat (first | exact Drawn0.refl _ | apply Drawn0.step)⟩

/-! ### laws_eqStep: function 204 -/
def laws_eqStep.f (a0_0 : Int) (a0_1 : Int) (a1_0 : Int) (a1_1 : Int) : Option (Bool) := if a0_0 = a1_0 then (if a0_1 = a1_1 then (some true) else (some false)) else (some false)
set_option maxHeartbeats 8000000 in
set_option maxRecDepth 100000 in
theorem laws_eqStep.calls (a0_0 : Int) (a0_1 : Int) (a1_0 : Int) (a1_1 : Int) (r : Bool) (w : World) (h : laws_eqStep.f a0_0 a0_1 a1_0 a1_1 = some r) :
  Calls Try.prog 204 #[.agg #[.int .i64 a0_0, .int .i64 a0_1], .agg #[.int .i64 a1_0, .int .i64 a1_1]] w fun e w' => e = .returned (.bool r) ∧ Below w.heap.size w w' := by
 have hu133 := Try.underlying133
 have HB := zz (Below.refl w.heap.size w)
 have H : (if a0_0 = a1_0 then (if a0_1 = a1_1 then (some true) else (some false)) else (some false)) = some r := h
 clear h
 by_cases c3 : a0_0 = a1_0
 ·rw [if_pos c3] at H
  have c3b0 : (a0_0 == a1_0) = true := beq_iff_eq.mpr c3
  have c3b1 : (a0_0 != a1_0) = false := bne_eq_false_iff_eq.mpr c3
  clear c3
  by_cases c4 : a0_1 = a1_1
  ·rw [if_pos c4] at H
   have c4b0 : (a0_1 == a1_1) = true := beq_iff_eq.mpr c4
   have c4b1 : (a0_1 != a1_1) = false := bne_eq_false_iff_eq.mpr c4
   clear c4
   obtain rfl := Option.some.inj H
   go_enter Try.func204, Try.ntmps204
   go_wp2_with (first | ((with_reducible refine yk (N := 2) rfl ?_); refine yv ?hg (N := 2) ?hd (cs := #[.int .i64 a0_0, .int .i64 a0_1]) (t := 133) ?hr ?_; (case hd => rfl); (case hg => rfl); (case hr => first | (go_simp; done) | (go_simp; rfl)); intro gb336 hg w5 hbox hb; have n0_ := zz (zk (by repeat (first | (with_reducible first | exact HB.out | apply zj | apply zq | apply zw) | exact HB.out)) hb); have n1_ := zz (hbox); have n2_ := zz ((by rw [hg]; exact (zv (by repeat (first | (with_reducible first | exact HB.out | apply zj | apply zq | apply zw) | exact HB.out))) : w.heap.size ≤ gb336)); have n3_ := zz ((by rw [hg]; exact (zv (by repeat (first | (with_reducible first | exact HB.out | apply zj | apply zq | apply zw) | exact HB.out))) : w.heap.size ≤ gb336)); clear HB; have HB := n0_; have BK336 := n1_; have GW336 := n2_; have GE336 := n3_; clear n0_ n1_ n2_ n3_; clear hb hbox hg) | ((with_reducible refine yk (N := 3) rfl ?_); refine yv ?hg (N := 3) ?hd (cs := #[.int .i64 a1_0, .int .i64 a1_1]) (t := 133) ?hr ?_; (case hd => rfl); (case hg => rfl); (case hr => first | (go_simp; done) | (go_simp; rfl)); intro gb337 hg w6 hbox hb; have n0_ := zz (qv (g := gb336) (o := .cells #[.int .i64 a0_0, .int .i64 a0_1] 133 (0, 0)) (by (with_reducible repeat (first | refine qq ?_ _ | refine qj ?_ | refine qz ?_ _)); exact BK336.out) hb); have n1_ := zz (zk (by repeat (first | (with_reducible first | exact HB.out | apply zj | apply zq | apply zw | refine zx ?_ GE336.out) | exact HB.out)) hb); have n2_ := zz (hbox); have n3_ := zz ((by rw [hg]; exact (zv (by repeat (first | (with_reducible first | exact HB.out | apply zj | apply zq | apply zw | refine zx ?_ GE336.out) | exact HB.out))) : w.heap.size ≤ gb337)); have n4_ := zz ((by rw [hg]; exact (zv (by repeat (first | (with_reducible first | exact HB.out | apply zj | apply zq | apply zw | refine zx ?_ GE336.out) | exact HB.out))) : w.heap.size ≤ gb337)); have n5_ := zz ((by rw [hg]; exact Nat.ne_of_lt (blk_lt (g := gb336) (o := .cells #[.int .i64 a0_0, .int .i64 a0_1] 133 (0, 0)) (by (with_reducible repeat (first | refine qq ?_ _ | refine qj ?_ | refine qz ?_ _)); exact BK336.out)) : gb336 ≠ gb337)); have n6_ := zz ((by rw [hg]; exact Nat.ne_of_gt (blk_lt (g := gb336) (o := .cells #[.int .i64 a0_0, .int .i64 a0_1] 133 (0, 0)) (by (with_reducible repeat (first | refine qq ?_ _ | refine qj ?_ | refine qz ?_ _)); exact BK336.out)) : gb337 ≠ gb336)); clear BK336; clear HB; have BK336 := n0_; have HB := n1_; have BK337 := n2_; have GW337 := n3_; have GE337 := n4_; have NB336_337 := n5_; have NB337_336 := n6_; clear n0_ n1_ n2_ n3_ n4_ n5_ n6_; clear hb hbox hg; have hnb7 := NB336_337.out; have hnc7 := NB337_336.out; have hcz8_0 : w6.cell? ⟨gb336, 0, none⟩ = some (.int .i64 a0_0) := (qw BK336.out 0).trans rfl; have hcz8_1 : w6.cell? ⟨gb336, 1, none⟩ = some (.int .i64 a0_1) := (qw BK336.out 1).trans rfl; have hfz8_0 := qx BK336.out 0; have hfz8_1 := qx BK336.out 1; have hcz9_0 : w6.cell? ⟨gb337, 0, none⟩ = some (.int .i64 a1_0) := (qw BK337.out 0).trans rfl; have hcz9_1 : w6.cell? ⟨gb337, 1, none⟩ = some (.int .i64 a1_1) := (qw BK337.out 1).trans rfl; have hfz9_0 := qx BK337.out 0; have hfz9_1 := qx BK337.out 1))
   go_ret
   exact ⟨by first | rfl | (simp [errW_none, errW_some] <;> rfl) | (simp [*, errW_none, errW_some] <;> rfl), by repeat (first | (with_reducible first | exact HB.out | apply zj | apply zq | apply zw | refine zx ?_ GE336.out | refine zx ?_ GE337.out) | exact HB.out)⟩
  ·rw [if_neg c4] at H
   have c4b0 : (a0_1 == a1_1) = false := beq_eq_false_iff_ne.mpr c4
   have c4b1 : (a0_1 != a1_1) = true := bne_iff_ne.mpr c4
   obtain rfl := Option.some.inj H
   go_enter Try.func204, Try.ntmps204
   go_wp2_with (first | ((with_reducible refine yk (N := 2) rfl ?_); refine yv ?hg (N := 2) ?hd (cs := #[.int .i64 a0_0, .int .i64 a0_1]) (t := 133) ?hr ?_; (case hd => rfl); (case hg => rfl); (case hr => first | (go_simp; done) | (go_simp; rfl)); intro gb336 hg w10 hbox hb; have n0_ := zz (zk (by repeat (first | (with_reducible first | exact HB.out | apply zj | apply zq | apply zw) | exact HB.out)) hb); have n1_ := zz (hbox); have n2_ := zz ((by rw [hg]; exact (zv (by repeat (first | (with_reducible first | exact HB.out | apply zj | apply zq | apply zw) | exact HB.out))) : w.heap.size ≤ gb336)); have n3_ := zz ((by rw [hg]; exact (zv (by repeat (first | (with_reducible first | exact HB.out | apply zj | apply zq | apply zw) | exact HB.out))) : w.heap.size ≤ gb336)); clear HB; have HB := n0_; have BK336 := n1_; have GW336 := n2_; have GE336 := n3_; clear n0_ n1_ n2_ n3_; clear hb hbox hg) | ((with_reducible refine yk (N := 3) rfl ?_); refine yv ?hg (N := 3) ?hd (cs := #[.int .i64 a1_0, .int .i64 a1_1]) (t := 133) ?hr ?_; (case hd => rfl); (case hg => rfl); (case hr => first | (go_simp; done) | (go_simp; rfl)); intro gb337 hg w11 hbox hb; have n0_ := zz (qv (g := gb336) (o := .cells #[.int .i64 a0_0, .int .i64 a0_1] 133 (0, 0)) (by (with_reducible repeat (first | refine qq ?_ _ | refine qj ?_ | refine qz ?_ _)); exact BK336.out) hb); have n1_ := zz (zk (by repeat (first | (with_reducible first | exact HB.out | apply zj | apply zq | apply zw | refine zx ?_ GE336.out) | exact HB.out)) hb); have n2_ := zz (hbox); have n3_ := zz ((by rw [hg]; exact (zv (by repeat (first | (with_reducible first | exact HB.out | apply zj | apply zq | apply zw | refine zx ?_ GE336.out) | exact HB.out))) : w.heap.size ≤ gb337)); have n4_ := zz ((by rw [hg]; exact (zv (by repeat (first | (with_reducible first | exact HB.out | apply zj | apply zq | apply zw | refine zx ?_ GE336.out) | exact HB.out))) : w.heap.size ≤ gb337)); have n5_ := zz ((by rw [hg]; exact Nat.ne_of_lt (blk_lt (g := gb336) (o := .cells #[.int .i64 a0_0, .int .i64 a0_1] 133 (0, 0)) (by (with_reducible repeat (first | refine qq ?_ _ | refine qj ?_ | refine qz ?_ _)); exact BK336.out)) : gb336 ≠ gb337)); have n6_ := zz ((by rw [hg]; exact Nat.ne_of_gt (blk_lt (g := gb336) (o := .cells #[.int .i64 a0_0, .int .i64 a0_1] 133 (0, 0)) (by (with_reducible repeat (first | refine qq ?_ _ | refine qj ?_ | refine qz ?_ _)); exact BK336.out)) : gb337 ≠ gb336)); clear BK336; clear HB; have BK336 := n0_; have HB := n1_; have BK337 := n2_; have GW337 := n3_; have GE337 := n4_; have NB336_337 := n5_; have NB337_336 := n6_; clear n0_ n1_ n2_ n3_ n4_ n5_ n6_; clear hb hbox hg; have hnb12 := NB336_337.out; have hnc12 := NB337_336.out; have hcz13_0 : w11.cell? ⟨gb336, 0, none⟩ = some (.int .i64 a0_0) := (qw BK336.out 0).trans rfl; have hcz13_1 : w11.cell? ⟨gb336, 1, none⟩ = some (.int .i64 a0_1) := (qw BK336.out 1).trans rfl; have hfz13_0 := qx BK336.out 0; have hfz13_1 := qx BK336.out 1; have hcz14_0 : w11.cell? ⟨gb337, 0, none⟩ = some (.int .i64 a1_0) := (qw BK337.out 0).trans rfl; have hcz14_1 : w11.cell? ⟨gb337, 1, none⟩ = some (.int .i64 a1_1) := (qw BK337.out 1).trans rfl; have hfz14_0 := qx BK337.out 0; have hfz14_1 := qx BK337.out 1))
   go_ret
   exact ⟨by first | rfl | (simp [errW_none, errW_some] <;> rfl) | (simp [*, errW_none, errW_some] <;> rfl), by repeat (first | (with_reducible first | exact HB.out | apply zj | apply zq | apply zw | refine zx ?_ GE336.out | refine zx ?_ GE337.out) | exact HB.out)⟩
 ·rw [if_neg c3] at H
  have c3b0 : (a0_0 == a1_0) = false := beq_eq_false_iff_ne.mpr c3
  have c3b1 : (a0_0 != a1_0) = true := bne_iff_ne.mpr c3
  obtain rfl := Option.some.inj H
  go_enter Try.func204, Try.ntmps204
  go_wp2_with (first | ((with_reducible refine yk (N := 2) rfl ?_); refine yv ?hg (N := 2) ?hd (cs := #[.int .i64 a0_0, .int .i64 a0_1]) (t := 133) ?hr ?_; (case hd => rfl); (case hg => rfl); (case hr => first | (go_simp; done) | (go_simp; rfl)); intro gb336 hg w15 hbox hb; have n0_ := zz (zk (by repeat (first | (with_reducible first | exact HB.out | apply zj | apply zq | apply zw) | exact HB.out)) hb); have n1_ := zz (hbox); have n2_ := zz ((by rw [hg]; exact (zv (by repeat (first | (with_reducible first | exact HB.out | apply zj | apply zq | apply zw) | exact HB.out))) : w.heap.size ≤ gb336)); have n3_ := zz ((by rw [hg]; exact (zv (by repeat (first | (with_reducible first | exact HB.out | apply zj | apply zq | apply zw) | exact HB.out))) : w.heap.size ≤ gb336)); clear HB; have HB := n0_; have BK336 := n1_; have GW336 := n2_; have GE336 := n3_; clear n0_ n1_ n2_ n3_; clear hb hbox hg) | ((with_reducible refine yk (N := 3) rfl ?_); refine yv ?hg (N := 3) ?hd (cs := #[.int .i64 a1_0, .int .i64 a1_1]) (t := 133) ?hr ?_; (case hd => rfl); (case hg => rfl); (case hr => first | (go_simp; done) | (go_simp; rfl)); intro gb337 hg w16 hbox hb; have n0_ := zz (qv (g := gb336) (o := .cells #[.int .i64 a0_0, .int .i64 a0_1] 133 (0, 0)) (by (with_reducible repeat (first | refine qq ?_ _ | refine qj ?_ | refine qz ?_ _)); exact BK336.out) hb); have n1_ := zz (zk (by repeat (first | (with_reducible first | exact HB.out | apply zj | apply zq | apply zw | refine zx ?_ GE336.out) | exact HB.out)) hb); have n2_ := zz (hbox); have n3_ := zz ((by rw [hg]; exact (zv (by repeat (first | (with_reducible first | exact HB.out | apply zj | apply zq | apply zw | refine zx ?_ GE336.out) | exact HB.out))) : w.heap.size ≤ gb337)); have n4_ := zz ((by rw [hg]; exact (zv (by repeat (first | (with_reducible first | exact HB.out | apply zj | apply zq | apply zw | refine zx ?_ GE336.out) | exact HB.out))) : w.heap.size ≤ gb337)); have n5_ := zz ((by rw [hg]; exact Nat.ne_of_lt (blk_lt (g := gb336) (o := .cells #[.int .i64 a0_0, .int .i64 a0_1] 133 (0, 0)) (by (with_reducible repeat (first | refine qq ?_ _ | refine qj ?_ | refine qz ?_ _)); exact BK336.out)) : gb336 ≠ gb337)); have n6_ := zz ((by rw [hg]; exact Nat.ne_of_gt (blk_lt (g := gb336) (o := .cells #[.int .i64 a0_0, .int .i64 a0_1] 133 (0, 0)) (by (with_reducible repeat (first | refine qq ?_ _ | refine qj ?_ | refine qz ?_ _)); exact BK336.out)) : gb337 ≠ gb336)); clear BK336; clear HB; have BK336 := n0_; have HB := n1_; have BK337 := n2_; have GW337 := n3_; have GE337 := n4_; have NB336_337 := n5_; have NB337_336 := n6_; clear n0_ n1_ n2_ n3_ n4_ n5_ n6_; clear hb hbox hg; have hnb17 := NB336_337.out; have hnc17 := NB337_336.out; have hcz18_0 : w16.cell? ⟨gb336, 0, none⟩ = some (.int .i64 a0_0) := (qw BK336.out 0).trans rfl; have hcz18_1 : w16.cell? ⟨gb336, 1, none⟩ = some (.int .i64 a0_1) := (qw BK336.out 1).trans rfl; have hfz18_0 := qx BK336.out 0; have hfz18_1 := qx BK336.out 1; have hcz19_0 : w16.cell? ⟨gb337, 0, none⟩ = some (.int .i64 a1_0) := (qw BK337.out 0).trans rfl; have hcz19_1 : w16.cell? ⟨gb337, 1, none⟩ = some (.int .i64 a1_1) := (qw BK337.out 1).trans rfl; have hfz19_0 := qx BK337.out 0; have hfz19_1 := qx BK337.out 1))
  go_ret
  exact ⟨by first | rfl | (simp [errW_none, errW_some] <;> rfl) | (simp [*, errW_none, errW_some] <;> rfl), by repeat (first | (with_reducible first | exact HB.out | apply zj | apply zq | apply zw | refine zx ?_ GE336.out | refine zx ?_ GE337.out) | exact HB.out)⟩

/-! ### laws_eqStepS: function 125 -/
def laws_eqStepS.l0 : Nat → List (S133) → List (S133) → Int → Option (Bool)
 | 0, _, _, _ => none
 | k + 1, x0, x1, x5 => if x5 < (x0.length : Int) then (if 0 ≤ x5 then (if x5 < (x1.length : Int) then ((laws_eqStep.f ((rd_T133 x0 x5).f0) ((rd_T133 x0 x5).f1) ((rd_T133 x1 x5).f0) ((rd_T133 x1 x5).f1)).bind fun t340 => (if t340 = true then (laws_eqStepS.l0 k x0 x1 (wrap64 (x5 + 1))) else (some false))) else (none)) else (none)) else (some true)
def laws_eqStepS.f (k : Nat) (l0 : List (S133)) (l1 : List (S133)) : Option (Bool) := if (l0.length : Int) = (l1.length : Int) then (laws_eqStepS.l0 k l0 l1 0) else (some false)
theorem laws_eqStepS.mono_l : ∀ k, (∀ y0 y1 y2, LeO (laws_eqStepS.l0 k y0 y1 y2) (laws_eqStepS.l0 (k + 1) y0 y1 y2))
 | 0 => fun _ _ _ r h => by simp [laws_eqStepS.l0] at h
 | k + 1 => by
  have ih0 := laws_eqStepS.mono_l k
  ·intro y0 y1 y2
   unfold laws_eqStepS.l0
   repeat' first
   | (with_reducible exact ih0 _ _ _)
   | (with_reducible exact vw _)
   | (with_reducible exact LeO.none _)
   | (with_reducible refine LeO.ite ?_ ?_)
   | (with_reducible refine vj ?_ (fun _ => ?_))
   | exact ih0 _ _ _
   | exact LeO.none _
   | refine LeO.ite ?_ ?_
   | refine vj ?_ (fun _ => ?_)
theorem laws_eqStepS.mono : ∀ a0 a1 k, LeO (laws_eqStepS.f k a0 a1) (laws_eqStepS.f (k + 1) a0 a1) := by
 intro a0 a1 k
 have ih0 := laws_eqStepS.mono_l k
 unfold laws_eqStepS.f
 repeat' first
   | (with_reducible exact ih0 _ _ _)
   | (with_reducible exact vw _)
   | (with_reducible exact LeO.none _)
   | (with_reducible refine LeO.ite ?_ ?_)
   | (with_reducible refine vj ?_ (fun _ => ?_))
   | exact ih0 _ _ _
   | exact LeO.none _
   | refine LeO.ite ?_ ?_
   | refine vj ?_ (fun _ => ?_)
def laws_eqStepS.T6 : Bool × List (List Nat × List Nat) := (true, [([], []), ([], []), ([0, 1], [0, 1]), ([2], [2]), ([], []), ([], []), ([4, 5], [4, 5]), ([6], [6]), ([3, 7], [3, 7]), ([8], [8])])
def laws_eqStepS.B6 : List Nat := [0, 0, 3, 7, 0, 0, 48, 112, 255, 511]
theorem laws_eqStepS.tab6 : rtab .any (opsOf Try.f125 6) = laws_eqStepS.T6 := by kernel_rfl
theorem laws_eqStepS.bits6 : waitsOk laws_eqStepS.T6.2 laws_eqStepS.B6 = true := by kernel_rfl
set_option maxHeartbeats 8000000 in
set_option maxRecDepth 100000 in
theorem laws_eqStepS.calls (k : Nat) (A0 : Option Addr) (c0 : Nat) (l0 : List (S133)) (A1 : Option Addr) (c1 : Nat) (l1 : List (S133)) (r : Bool) (w : World) (hr0 : Kd.C k133 w A0 l0.length l0) (hc0 : l0.length ≤ c0) (hr1 : Kd.C k133 w A1 l1.length l1) (hc1 : l1.length ≤ c1) (h : laws_eqStepS.f k l0 l1 = some r) :
  Calls Try.prog 125 #[.slice A0 l0.length c0, .slice A1 l1.length c1] w fun e w' => e = .returned (.bool r) ∧ Below w.heap.size w w' := by
 have hu133 := Try.underlying133
 have HR0 := zz hr0
 have HC0 := zz hc0
 clear hr0 hc0
 have HR1 := zz hr1
 have HC1 := zz hc1
 clear hr1 hc1
 have HB := zz (Below.refl w.heap.size w)
 have H : (if (l0.length : Int) = (l1.length : Int) then (laws_eqStepS.l0 k l0 l1 0) else (some false)) = some r := h
 clear h
 by_cases c3 : (l0.length : Int) = (l1.length : Int)
 ·rw [if_pos c3] at H
  have c3b0 : ((l0.length : Int) == (l1.length : Int)) = true := beq_iff_eq.mpr c3
  have c3b1 : ((l0.length : Int) != (l1.length : Int)) = false := bne_eq_false_iff_eq.mpr c3
  have c3b2 : (l0.length == l1.length) = true := by first | simpa using c3 | (simp at c3 ⊢; omega)
  clear c3
  have H' := zz H
  clear H
  go_enter Try.func125, Try.ntmps125
  go_wp2
  go_loopg [5] k (fun kq v5 w' => ∃ (x5_1 : Int), v5 = .int .i64 x5_1 ∧ Aside0 (laws_eqStepS.l0 kq l0 l1 x5_1 = some r) ∧ Aside0 (kq ≤ k) ∧ Aside0 (Below w.heap.size w w'))
  case atStart => exact ⟨(0), (by first | rfl | (simp; done) | (simp [*]; done)), H', ⟨Nat.le_refl _⟩, ⟨by repeat (first | (with_reducible first | exact HB.out | apply zj | apply zq | apply zw) | exact HB.out)⟩⟩
  case round =>
   clear H'
   try clear c1
   try clear p2
   try clear c3
   try clear c3b0
   try clear c3b1
   try clear c3b2
   obtain ⟨x5_1, rfl, HA, HK1, HB⟩ := hrel
   cases gk with
   | zero => exact absurd HA.out (by simp [laws_eqStepS.l0])
   | succ k1 =>
    have H := HA.out
    clear HA
    simp only [laws_eqStepS.l0] at H
    by_cases c4 : x5_1 < (l0.length : Int)
    ·rw [if_pos c4] at H
     have c4b0 : decide (x5_1 < (l0.length : Int)) = true := decide_eq_true c4
     clear c4
     by_cases c5 : 0 ≤ x5_1
     ·rw [if_pos c5] at H
      have c5b0 : decide (0 ≤ x5_1) = true := decide_eq_true c5
      clear c5
      by_cases c6 : x5_1 < (l1.length : Int)
      ·rw [if_pos c6] at H
       have c6b0 : decide (x5_1 < (l1.length : Int)) = true := decide_eq_true c6
       clear c6
       replace H := Option.bind_eq_some_iff.mp H
       obtain ⟨t340, A70, H⟩ := H
       replace H : (if t340 = true then (laws_eqStepS.l0 k1 l0 l1 (wrap64 (x5_1 + 1))) else (some false)) = some r := H
       have A7 := zz A70
       clear A70
       by_cases c8 : t340 = true
       ·subst c8
        have H1 : (laws_eqStepS.l0 k1 l0 l1 (wrap64 (x5_1 + 1))) = some r := by rw [if_pos rfl] at H; exact H
        clear H
        have H := H1
        clear H1
        have H' := zz H
        clear H
        try go_wp2
        have n0_ := zz (zw HB.out)
        clear HB
        have HB := n0_
        clear n0_
        have p338 : 0 ≤ (x5_1 : Int) := of_decide_eq_true (by first | (with_reducible assumption) | assumption)
        have q338 : x5_1 < (l0.length : Int) := of_decide_eq_true (by first | (with_reducible assumption) | assumption)
        obtain ⟨ad338, e338, hx338_0, hx338_1⟩ := at_T133 HR0.out x5_1 p338 q338
        have hw338_1 := hx338_1
        have hw338_0 := hx338_0
        cases e338
        replace hx338_0 := (HB.out.cell (jq w _ hx338_0)).trans hx338_0
        replace hx338_1 := (HB.out.cell (jq w _ hx338_1)).trans hx338_1
        replace p338 := eq_true p338
        replace q338 := eq_true q338
        have p339 : 0 ≤ (x5_1 : Int) := of_decide_eq_true (by first | (with_reducible assumption) | assumption)
        have q339 : x5_1 < (l1.length : Int) := of_decide_eq_true (by first | (with_reducible assumption) | assumption)
        obtain ⟨ad339, e339, hx339_0, hx339_1⟩ := at_T133 HR1.out x5_1 p339 q339
        have hw339_1 := hx339_1
        have hw339_0 := hx339_0
        cases e339
        replace hx339_0 := (HB.out.cell (jq w _ hx339_0)).trans hx339_0
        replace hx339_1 := (HB.out.cell (jq w _ hx339_1)).trans hx339_1
        replace p339 := eq_true p339
        replace q339 := eq_true q339
        refine start_ (n := 10) (S := fun w' => w'.cell? (ad338.add ((x5_1).toNat * 2)) = some (.int .i64 ((rd_T133 l0 x5_1).f0)) ∧ w'.cell? ⟨(ad338.add ((x5_1).toNat * 2)).block, (ad338.add ((x5_1).toNat * 2)).off + 1, none⟩ = some (.int .i64 ((rd_T133 l0 x5_1).f1)) ∧ w'.cell? (ad339.add ((x5_1).toNat * 2)) = some (.int .i64 ((rd_T133 l1 x5_1).f0)) ∧ w'.cell? ⟨(ad339.add ((x5_1).toNat * 2)).block, (ad339.add ((x5_1).toNat * 2)).off + 1, none⟩ = some (.int .i64 ((rd_T133 l1 x5_1).f1))) (ds := []) #[false, false, false, false, false, false, false, false, false, false] (by kernel_rfl) rfl rfl ⟨((HB.out.cell (jq w _ hw338_0)).trans hw338_0), ((HB.out.cell (jq w _ hw338_1)).trans hw338_1), ((HB.out.cell (jq w _ hw339_0)).trans hw339_0), ((HB.out.cell (jq w _ hw339_1)).trans hw339_1)⟩ (fun hHeld => ?_); refine with_tabW laws_eqStepS.tab6 laws_eqStepS.bits6 (fun HT_ HW_ => ?_)
        generalize wr.drew = w9 at HB hx338_0 hx338_1 hx339_0 hx339_1 hHeld ⊢
        refine pure_ (i := 0) (N := some 17) (v := ?_) (a' := ?_) #[true, false, false, false, false, false, false, false, false, false] rfl rfl (vk HT_.out (by kernel_rfl)) (fun _ _ _ h => h) (Or.inl ⟨by rfl, ?_⟩) ?_ ?_
        rotate_left
        ·intro w'
         go_simp
         with_reducible rfl
        rotate_left
        ·simp only [Act.put, jz, jv, yz, kz, kj]
         rfl
        refine pure_ (i := 1) (N := some 18) (v := ?_) (a' := ?_) #[true, true, false, false, false, false, false, false, false, false] rfl rfl (vk HT_.out (by kernel_rfl)) (fun _ _ _ h => h) (Or.inl ⟨by rfl, ?_⟩) ?_ ?_
        rotate_left
        ·intro w'
         go_simp
         with_reducible rfl
        rotate_left
        ·simp only [Act.put, jz, jv, yz, kz, kj]
         rfl
        refine pure_ (i := 2) (N := some 19) (v := ?_) (a' := ?_) #[true, true, true, false, false, false, false, false, false, false] rfl rfl (vk HT_.out (by kernel_rfl)) (fun _ _ _ h => h) (Or.inl ⟨by rfl, ?_⟩) ?_ ?_
        rotate_left
        ·intro w'
         go_simp
         with_reducible rfl
        rotate_left
        ·simp only [Act.put, jz, jv, yz, kz, kj]
         rfl
        refine pure_ (i := 4) (N := some 21) (v := ?_) (a' := ?_) #[true, true, true, false, true, false, false, false, false, false] rfl rfl (vk HT_.out (by kernel_rfl)) (fun _ _ _ h => h) (Or.inl ⟨by rfl, ?_⟩) ?_ ?_
        rotate_left
        ·intro w'
         go_simp
         with_reducible rfl
        rotate_left
        ·simp only [Act.put, jz, jv, yz, kz, kj]
         rfl
        refine pure_ (i := 5) (N := some 22) (v := ?_) (a' := ?_) #[true, true, true, false, true, true, false, false, false, false] rfl rfl (vk HT_.out (by kernel_rfl)) (fun _ _ _ h => h) (Or.inl ⟨by rfl, ?_⟩) ?_ ?_
        rotate_left
        ·intro w'
         go_simp
         with_reducible rfl
        rotate_left
        ·simp only [Act.put, jz, jv, yz, kz, kj]
         rfl
        refine pure_ (i := 6) (N := some 23) (v := ?_) (a' := ?_) #[true, true, true, false, true, true, true, false, false, false] rfl rfl (vk HT_.out (by kernel_rfl)) (fun _ _ _ h => h) (Or.inl ⟨by rfl, ?_⟩) ?_ ?_
        rotate_left
        ·intro w'
         go_simp
         with_reducible rfl
        rotate_left
        ·simp only [Act.put, jz, jv, yz, kz, kj]
         rfl
        refine take_ (i := 3) (N := some 20) (v := ?_) (a' := ?_) #[true, true, true, true, true, true, true, false, false, false] rfl rfl (vv HT_.out HW_.out (by kernel_rfl)) (fun _ _ _ h => h) (Or.inl ⟨by rfl, ?_⟩) hHeld ?_ ?_
        rotate_left
        ·rintro w' ⟨s0, s1, s2, s3⟩
         go_simp
         with_reducible rfl
        rotate_left
        ·simp only [Act.put, jz, jv, yz, kz, kj]
         rfl
        refine take_ (i := 7) (N := some 24) (v := ?_) (a' := ?_) #[true, true, true, true, true, true, true, true, false, false] rfl rfl (vv HT_.out HW_.out (by kernel_rfl)) (fun _ _ _ h => h) (Or.inl ⟨by rfl, ?_⟩) hHeld ?_ ?_
        rotate_left
        ·rintro w' ⟨s0, s1, s2, s3⟩
         go_simp
         with_reducible rfl
        rotate_left
        ·simp only [Act.put, jz, jv, yz, kz, kj]
         rfl
        refine one_ (i := 8) (N := some 25) #[true, true, true, true, true, true, true, true, true, false] rfl rfl (one_of HT_.out (by kernel_rfl)) (by decide) (fun K hK => ?_)
        refine goes_ Try.func204 (by kernel_rfl) rfl #[.agg #[.int .i64 ((rd_T133 l0 x5_1).f0), .int .i64 ((rd_T133 l0 x5_1).f1)], .agg #[.int .i64 ((rd_T133 l1 x5_1).f0), .int .i64 ((rd_T133 l1 x5_1).f1)]] (by rfl) rfl rfl (by (try simp only [yq, List.map_cons, List.map_nil]); first | done | rfl | (simp only [yj, yw]; rfl)) ?_
        with_reducible refine (laws_eqStep.calls ((rd_T133 l0 x5_1).f0) ((rd_T133 l0 x5_1).f1) ((rd_T133 l1 x5_1).f0) ((rd_T133 l1 x5_1).f1) true _ A7.out).mono ?_
        rintro e w10 ⟨rfl, hb⟩
        refine ⟨_, rfl, ?_⟩
        have n0_ := zz (zk (by repeat (first | (with_reducible first | exact HB.out | apply zj | apply zq | apply zw) | exact HB.out)) hb)
        clear HB
        have HB := n0_
        clear n0_
        (try clear hb)
        (try clear hb2)
        (try clear hk)
        (try clear hi)
        refine hK.out _ _ ⟨((HB.out.cell (jq w _ hw338_0)).trans hw338_0), ((HB.out.cell (jq w _ hw338_1)).trans hw338_1), ((HB.out.cell (jq w _ hw339_0)).trans hw339_0), ((HB.out.cell (jq w _ hw339_1)).trans hw339_1)⟩ (fun hHeld => ?_)
        clear hK K
        refine norm_ (a' := ?_) ?_ ?_
        rotate_left
        ·show Act.put _ (some 25) _ = _
         simp only [Act.put, jz, jv, yz, kz, kj]
         rfl
        refine pure_ (i := 9) (N := some 26) (v := ?_) (a' := ?_) #[true, true, true, true, true, true, true, true, true, true] rfl rfl (vk HT_.out (by kernel_rfl)) (fun _ _ _ h => h) (Or.inl ⟨by rfl, ?_⟩) ?_ ?_
        rotate_left
        ·intro w'
         go_simp
         with_reducible rfl
        rotate_left
        ·simp only [Act.put, jz, jv, yz, kz, kj]
         rfl
        refine done_ (done_of HT_.out (by kernel_rfl)) ?_
        try go_wp2
        go_roundg k1
        case measure => have := HK1.out; omega
        case rel => exact ⟨(wrap64 (x5_1 + 1)), (by first | rfl | (simp; done) | (simp [*]; done)), H', ⟨by have := HK1.out; omega⟩, ⟨by repeat (first | (with_reducible first | exact HB.out | apply zj | apply zq | apply zw) | exact HB.out)⟩⟩
       ·replace c8 := Bool.eq_false_iff.mpr c8
        subst c8
        have H1 : (some false) = some r := by rw [if_neg (show ¬ (false = true) by decide)] at H; exact H
        clear H
        have H := H1
        clear H1
        obtain rfl := Option.some.inj H
        try go_wp2
        have n0_ := zz (zw HB.out)
        clear HB
        have HB := n0_
        clear n0_
        have p338 : 0 ≤ (x5_1 : Int) := of_decide_eq_true (by first | (with_reducible assumption) | assumption)
        have q338 : x5_1 < (l0.length : Int) := of_decide_eq_true (by first | (with_reducible assumption) | assumption)
        obtain ⟨ad338, e338, hx338_0, hx338_1⟩ := at_T133 HR0.out x5_1 p338 q338
        have hw338_1 := hx338_1
        have hw338_0 := hx338_0
        cases e338
        replace hx338_0 := (HB.out.cell (jq w _ hx338_0)).trans hx338_0
        replace hx338_1 := (HB.out.cell (jq w _ hx338_1)).trans hx338_1
        replace p338 := eq_true p338
        replace q338 := eq_true q338
        have p339 : 0 ≤ (x5_1 : Int) := of_decide_eq_true (by first | (with_reducible assumption) | assumption)
        have q339 : x5_1 < (l1.length : Int) := of_decide_eq_true (by first | (with_reducible assumption) | assumption)
        obtain ⟨ad339, e339, hx339_0, hx339_1⟩ := at_T133 HR1.out x5_1 p339 q339
        have hw339_1 := hx339_1
        have hw339_0 := hx339_0
        cases e339
        replace hx339_0 := (HB.out.cell (jq w _ hx339_0)).trans hx339_0
        replace hx339_1 := (HB.out.cell (jq w _ hx339_1)).trans hx339_1
        replace p339 := eq_true p339
        replace q339 := eq_true q339
        refine start_ (n := 10) (S := fun w' => w'.cell? (ad338.add ((x5_1).toNat * 2)) = some (.int .i64 ((rd_T133 l0 x5_1).f0)) ∧ w'.cell? ⟨(ad338.add ((x5_1).toNat * 2)).block, (ad338.add ((x5_1).toNat * 2)).off + 1, none⟩ = some (.int .i64 ((rd_T133 l0 x5_1).f1)) ∧ w'.cell? (ad339.add ((x5_1).toNat * 2)) = some (.int .i64 ((rd_T133 l1 x5_1).f0)) ∧ w'.cell? ⟨(ad339.add ((x5_1).toNat * 2)).block, (ad339.add ((x5_1).toNat * 2)).off + 1, none⟩ = some (.int .i64 ((rd_T133 l1 x5_1).f1))) (ds := []) #[false, false, false, false, false, false, false, false, false, false] (by kernel_rfl) rfl rfl ⟨((HB.out.cell (jq w _ hw338_0)).trans hw338_0), ((HB.out.cell (jq w _ hw338_1)).trans hw338_1), ((HB.out.cell (jq w _ hw339_0)).trans hw339_0), ((HB.out.cell (jq w _ hw339_1)).trans hw339_1)⟩ (fun hHeld => ?_); refine with_tabW laws_eqStepS.tab6 laws_eqStepS.bits6 (fun HT_ HW_ => ?_)
        generalize wr.drew = w11 at HB hx338_0 hx338_1 hx339_0 hx339_1 hHeld ⊢
        refine pure_ (i := 0) (N := some 17) (v := ?_) (a' := ?_) #[true, false, false, false, false, false, false, false, false, false] rfl rfl (vk HT_.out (by kernel_rfl)) (fun _ _ _ h => h) (Or.inl ⟨by rfl, ?_⟩) ?_ ?_
        rotate_left
        ·intro w'
         go_simp
         with_reducible rfl
        rotate_left
        ·simp only [Act.put, jz, jv, yz, kz, kj]
         rfl
        refine pure_ (i := 1) (N := some 18) (v := ?_) (a' := ?_) #[true, true, false, false, false, false, false, false, false, false] rfl rfl (vk HT_.out (by kernel_rfl)) (fun _ _ _ h => h) (Or.inl ⟨by rfl, ?_⟩) ?_ ?_
        rotate_left
        ·intro w'
         go_simp
         with_reducible rfl
        rotate_left
        ·simp only [Act.put, jz, jv, yz, kz, kj]
         rfl
        refine pure_ (i := 2) (N := some 19) (v := ?_) (a' := ?_) #[true, true, true, false, false, false, false, false, false, false] rfl rfl (vk HT_.out (by kernel_rfl)) (fun _ _ _ h => h) (Or.inl ⟨by rfl, ?_⟩) ?_ ?_
        rotate_left
        ·intro w'
         go_simp
         with_reducible rfl
        rotate_left
        ·simp only [Act.put, jz, jv, yz, kz, kj]
         rfl
        refine pure_ (i := 4) (N := some 21) (v := ?_) (a' := ?_) #[true, true, true, false, true, false, false, false, false, false] rfl rfl (vk HT_.out (by kernel_rfl)) (fun _ _ _ h => h) (Or.inl ⟨by rfl, ?_⟩) ?_ ?_
        rotate_left
        ·intro w'
         go_simp
         with_reducible rfl
        rotate_left
        ·simp only [Act.put, jz, jv, yz, kz, kj]
         rfl
        refine pure_ (i := 5) (N := some 22) (v := ?_) (a' := ?_) #[true, true, true, false, true, true, false, false, false, false] rfl rfl (vk HT_.out (by kernel_rfl)) (fun _ _ _ h => h) (Or.inl ⟨by rfl, ?_⟩) ?_ ?_
        rotate_left
        ·intro w'
         go_simp
         with_reducible rfl
        rotate_left
        ·simp only [Act.put, jz, jv, yz, kz, kj]
         rfl
        refine pure_ (i := 6) (N := some 23) (v := ?_) (a' := ?_) #[true, true, true, false, true, true, true, false, false, false] rfl rfl (vk HT_.out (by kernel_rfl)) (fun _ _ _ h => h) (Or.inl ⟨by rfl, ?_⟩) ?_ ?_
        rotate_left
        ·intro w'
         go_simp
         with_reducible rfl
        rotate_left
        ·simp only [Act.put, jz, jv, yz, kz, kj]
         rfl
        refine take_ (i := 3) (N := some 20) (v := ?_) (a' := ?_) #[true, true, true, true, true, true, true, false, false, false] rfl rfl (vv HT_.out HW_.out (by kernel_rfl)) (fun _ _ _ h => h) (Or.inl ⟨by rfl, ?_⟩) hHeld ?_ ?_
        rotate_left
        ·rintro w' ⟨s0, s1, s2, s3⟩
         go_simp
         with_reducible rfl
        rotate_left
        ·simp only [Act.put, jz, jv, yz, kz, kj]
         rfl
        refine take_ (i := 7) (N := some 24) (v := ?_) (a' := ?_) #[true, true, true, true, true, true, true, true, false, false] rfl rfl (vv HT_.out HW_.out (by kernel_rfl)) (fun _ _ _ h => h) (Or.inl ⟨by rfl, ?_⟩) hHeld ?_ ?_
        rotate_left
        ·rintro w' ⟨s0, s1, s2, s3⟩
         go_simp
         with_reducible rfl
        rotate_left
        ·simp only [Act.put, jz, jv, yz, kz, kj]
         rfl
        refine one_ (i := 8) (N := some 25) #[true, true, true, true, true, true, true, true, true, false] rfl rfl (one_of HT_.out (by kernel_rfl)) (by decide) (fun K hK => ?_)
        refine goes_ Try.func204 (by kernel_rfl) rfl #[.agg #[.int .i64 ((rd_T133 l0 x5_1).f0), .int .i64 ((rd_T133 l0 x5_1).f1)], .agg #[.int .i64 ((rd_T133 l1 x5_1).f0), .int .i64 ((rd_T133 l1 x5_1).f1)]] (by rfl) rfl rfl (by (try simp only [yq, List.map_cons, List.map_nil]); first | done | rfl | (simp only [yj, yw]; rfl)) ?_
        with_reducible refine (laws_eqStep.calls ((rd_T133 l0 x5_1).f0) ((rd_T133 l0 x5_1).f1) ((rd_T133 l1 x5_1).f0) ((rd_T133 l1 x5_1).f1) false _ A7.out).mono ?_
        rintro e w12 ⟨rfl, hb⟩
        refine ⟨_, rfl, ?_⟩
        have n0_ := zz (zk (by repeat (first | (with_reducible first | exact HB.out | apply zj | apply zq | apply zw) | exact HB.out)) hb)
        clear HB
        have HB := n0_
        clear n0_
        (try clear hb)
        (try clear hb2)
        (try clear hk)
        (try clear hi)
        refine hK.out _ _ ⟨((HB.out.cell (jq w _ hw338_0)).trans hw338_0), ((HB.out.cell (jq w _ hw338_1)).trans hw338_1), ((HB.out.cell (jq w _ hw339_0)).trans hw339_0), ((HB.out.cell (jq w _ hw339_1)).trans hw339_1)⟩ (fun hHeld => ?_)
        clear hK K
        refine norm_ (a' := ?_) ?_ ?_
        rotate_left
        ·show Act.put _ (some 25) _ = _
         simp only [Act.put, jz, jv, yz, kz, kj]
         rfl
        refine pure_ (i := 9) (N := some 26) (v := ?_) (a' := ?_) #[true, true, true, true, true, true, true, true, true, true] rfl rfl (vk HT_.out (by kernel_rfl)) (fun _ _ _ h => h) (Or.inl ⟨by rfl, ?_⟩) ?_ ?_
        rotate_left
        ·intro w'
         go_simp
         with_reducible rfl
        rotate_left
        ·simp only [Act.put, jz, jv, yz, kz, kj]
         rfl
        refine done_ (done_of HT_.out (by kernel_rfl)) ?_
        try go_wp2
        go_ret
        exact ⟨by first | rfl | (simp [errW_none, errW_some] <;> rfl) | (simp [*, errW_none, errW_some] <;> rfl), by repeat (first | (with_reducible first | exact HB.out | apply zj | apply zq | apply zw) | exact HB.out)⟩
      ·rw [if_neg c6] at H
       exact absurd H (by simp)
     ·rw [if_neg c5] at H
      exact absurd H (by simp)
    ·rw [if_neg c4] at H
     have c4b0 : decide (x5_1 < (l0.length : Int)) = false := decide_eq_false c4
     clear c4
     obtain rfl := Option.some.inj H
     go_wp2
     go_ret
     exact ⟨by first | rfl | (simp [errW_none, errW_some] <;> rfl) | (simp [*, errW_none, errW_some] <;> rfl), by repeat (first | (with_reducible first | exact HB.out | apply zj | apply zq | apply zw) | exact HB.out)⟩
 ·rw [if_neg c3] at H
  have c3b0 : ((l0.length : Int) == (l1.length : Int)) = false := beq_eq_false_iff_ne.mpr c3
  have c3b1 : ((l0.length : Int) != (l1.length : Int)) = true := bne_iff_ne.mpr c3
  have c3b2 : (l0.length == l1.length) = false := by first | simpa using c3 | (simp at c3 ⊢; omega)
  obtain rfl := Option.some.inj H
  go_enter Try.func125, Try.ntmps125
  go_wp2
  go_ret
  exact ⟨by first | rfl | (simp [errW_none, errW_some] <;> rfl) | (simp [*, errW_none, errW_some] <;> rfl), by repeat (first | (with_reducible first | exact HB.out | apply zj | apply zq | apply zw) | exact HB.out)⟩

/-! ### laws_eqPlan: function 40 -/
def laws_eqPlan.f (k : Nat) (a0_0 : Int) (l0_1 : List (S133)) (l0_2 : List Int) (a1_0 : Int) (l1_1 : List (S133)) (l1_2 : List Int) : Option (Bool) := if a0_0 = a1_0 then ((laws_eqStepS.f k l0_1 l1_1).bind fun t343 => (if t343 = true then ((laws_eqIntS.f k l0_2 l1_2).bind fun t344 => (if t344 = true then (some true) else (some false))) else (some false))) else (some false)
theorem laws_eqPlan.mono : ∀ a0 a1 a2 a3 a4 a5 k, LeO (laws_eqPlan.f k a0 a1 a2 a3 a4 a5) (laws_eqPlan.f (k + 1) a0 a1 a2 a3 a4 a5) := by
 intro a0 a1 a2 a3 a4 a5 k
 unfold laws_eqPlan.f
 repeat' first
   | (with_reducible exact laws_eqIntS.mono _ _ _)
   | (with_reducible exact laws_eqStepS.mono _ _ _)
   | (with_reducible exact vw _)
   | (with_reducible exact LeO.none _)
   | (with_reducible refine LeO.ite ?_ ?_)
   | (with_reducible refine vj ?_ (fun _ => ?_))
   | exact laws_eqIntS.mono _ _ _
   | exact laws_eqStepS.mono _ _ _
   | exact LeO.none _
   | refine LeO.ite ?_ ?_
   | refine vj ?_ (fun _ => ?_)
set_option maxHeartbeats 8000000 in
set_option maxRecDepth 100000 in
theorem laws_eqPlan.calls (k : Nat) (a0_0 : Int) (A0_1 : Option Addr) (c0_1 : Nat) (l0_1 : List (S133)) (A0_2 : Option Addr) (c0_2 : Nat) (l0_2 : List Int) (a1_0 : Int) (A1_1 : Option Addr) (c1_1 : Nat) (l1_1 : List (S133)) (A1_2 : Option Addr) (c1_2 : Nat) (l1_2 : List Int) (r : Bool) (w : World) (hr0_1 : Kd.C k133 w A0_1 l0_1.length l0_1) (hc0_1 : l0_1.length ≤ c0_1) (hr0_2 : Kd.C (Kd.int .i64) w A0_2 l0_2.length l0_2) (hc0_2 : l0_2.length ≤ c0_2) (hr1_1 : Kd.C k133 w A1_1 l1_1.length l1_1) (hc1_1 : l1_1.length ≤ c1_1) (hr1_2 : Kd.C (Kd.int .i64) w A1_2 l1_2.length l1_2) (hc1_2 : l1_2.length ≤ c1_2) (h : laws_eqPlan.f k a0_0 l0_1 l0_2 a1_0 l1_1 l1_2 = some r) :
  Calls Try.prog 40 #[.agg #[.int .i64 a0_0, .slice A0_1 l0_1.length c0_1, .slice A0_2 l0_2.length c0_2], .agg #[.int .i64 a1_0, .slice A1_1 l1_1.length c1_1, .slice A1_2 l1_2.length c1_2]] w fun e w' => e = .returned (.bool r) ∧ Below w.heap.size w w' := by
 have hu59 := Try.underlying59
 have HR0_1 := zz hr0_1
 have HC0_1 := zz hc0_1
 clear hr0_1 hc0_1
 have HR0_2 := zz hr0_2
 have HC0_2 := zz hc0_2
 clear hr0_2 hc0_2
 have HR1_1 := zz hr1_1
 have HC1_1 := zz hc1_1
 clear hr1_1 hc1_1
 have HR1_2 := zz hr1_2
 have HC1_2 := zz hc1_2
 clear hr1_2 hc1_2
 have HB := zz (Below.refl w.heap.size w)
 have H : (if a0_0 = a1_0 then ((laws_eqStepS.f k l0_1 l1_1).bind fun t343 => (if t343 = true then ((laws_eqIntS.f k l0_2 l1_2).bind fun t344 => (if t344 = true then (some true) else (some false))) else (some false))) else (some false)) = some r := h
 clear h
 by_cases c3 : a0_0 = a1_0
 ·rw [if_pos c3] at H
  have c3b0 : (a0_0 == a1_0) = true := beq_iff_eq.mpr c3
  have c3b1 : (a0_0 != a1_0) = false := bne_eq_false_iff_eq.mpr c3
  clear c3
  replace H := Option.bind_eq_some_iff.mp H
  obtain ⟨t343, A40, H⟩ := H
  replace H : (if t343 = true then ((laws_eqIntS.f k l0_2 l1_2).bind fun t344 => (if t344 = true then (some true) else (some false))) else (some false)) = some r := H
  have A4 := zz A40
  clear A40
  by_cases c5 : t343 = true
  ·subst c5
   have H1 : ((laws_eqIntS.f k l0_2 l1_2).bind fun t344 => (if t344 = true then (some true) else (some false))) = some r := by rw [if_pos rfl] at H; exact H
   clear H
   have H := H1
   clear H1
   replace H := Option.bind_eq_some_iff.mp H
   obtain ⟨t344, A60, H⟩ := H
   replace H : (if t344 = true then (some true) else (some false)) = some r := H
   have A6 := zz A60
   clear A60
   by_cases c7 : t344 = true
   ·subst c7
    have H1 : (some true) = some r := by rw [if_pos rfl] at H; exact H
    clear H
    have H := H1
    clear H1
    obtain rfl := Option.some.inj H
    go_enter Try.func40, Try.ntmps40
    go_wp2_with (first | ((with_reducible refine yk (N := 2) rfl ?_); refine yv ?hg (N := 2) ?hd (cs := #[.int .i64 a0_0, .slice A0_1 l0_1.length c0_1, .slice A0_2 l0_2.length c0_2]) (t := 59) ?hr ?_; (case hd => rfl); (case hg => rfl); (case hr => first | (go_simp; done) | (go_simp; rfl)); intro gb341 hg w8 hbox hb; have n0_ := zz (zk (by repeat (first | (with_reducible first | exact HB.out | apply zj | apply zq | apply zw) | exact HB.out)) hb); have n1_ := zz (hbox); have n2_ := zz ((by rw [hg]; exact (zv (by repeat (first | (with_reducible first | exact HB.out | apply zj | apply zq | apply zw) | exact HB.out))) : w.heap.size ≤ gb341)); have n3_ := zz ((by rw [hg]; exact (zv (by repeat (first | (with_reducible first | exact HB.out | apply zj | apply zq | apply zw) | exact HB.out))) : w.heap.size ≤ gb341)); clear HB; have HB := n0_; have BK341 := n1_; have GW341 := n2_; have GE341 := n3_; clear n0_ n1_ n2_ n3_; clear hb hbox hg) | ((with_reducible refine yk (N := 3) rfl ?_); refine yv ?hg (N := 3) ?hd (cs := #[.int .i64 a1_0, .slice A1_1 l1_1.length c1_1, .slice A1_2 l1_2.length c1_2]) (t := 59) ?hr ?_; (case hd => rfl); (case hg => rfl); (case hr => first | (go_simp; done) | (go_simp; rfl)); intro gb342 hg w9 hbox hb; have n0_ := zz (qv (g := gb341) (o := .cells #[.int .i64 a0_0, .slice A0_1 l0_1.length c0_1, .slice A0_2 l0_2.length c0_2] 59 (0, 0)) (by (with_reducible repeat (first | refine qq ?_ _ | refine qj ?_ | refine qz ?_ _)); exact BK341.out) hb); have n1_ := zz (zk (by repeat (first | (with_reducible first | exact HB.out | apply zj | apply zq | apply zw | refine zx ?_ GE341.out) | exact HB.out)) hb); have n2_ := zz (hbox); have n3_ := zz ((by rw [hg]; exact (zv (by repeat (first | (with_reducible first | exact HB.out | apply zj | apply zq | apply zw | refine zx ?_ GE341.out) | exact HB.out))) : w.heap.size ≤ gb342)); have n4_ := zz ((by rw [hg]; exact (zv (by repeat (first | (with_reducible first | exact HB.out | apply zj | apply zq | apply zw | refine zx ?_ GE341.out) | exact HB.out))) : w.heap.size ≤ gb342)); have n5_ := zz ((by rw [hg]; exact Nat.ne_of_lt (blk_lt (g := gb341) (o := .cells #[.int .i64 a0_0, .slice A0_1 l0_1.length c0_1, .slice A0_2 l0_2.length c0_2] 59 (0, 0)) (by (with_reducible repeat (first | refine qq ?_ _ | refine qj ?_ | refine qz ?_ _)); exact BK341.out)) : gb341 ≠ gb342)); have n6_ := zz ((by rw [hg]; exact Nat.ne_of_gt (blk_lt (g := gb341) (o := .cells #[.int .i64 a0_0, .slice A0_1 l0_1.length c0_1, .slice A0_2 l0_2.length c0_2] 59 (0, 0)) (by (with_reducible repeat (first | refine qq ?_ _ | refine qj ?_ | refine qz ?_ _)); exact BK341.out)) : gb342 ≠ gb341)); clear BK341; clear HB; have BK341 := n0_; have HB := n1_; have BK342 := n2_; have GW342 := n3_; have GE342 := n4_; have NB341_342 := n5_; have NB342_341 := n6_; clear n0_ n1_ n2_ n3_ n4_ n5_ n6_; clear hb hbox hg; have hnb10 := NB341_342.out; have hnc10 := NB342_341.out; have hcz11_0 : w9.cell? ⟨gb341, 0, none⟩ = some (.int .i64 a0_0) := (qw BK341.out 0).trans rfl; have hcz11_1 : w9.cell? ⟨gb341, 1, none⟩ = some (.slice A0_1 l0_1.length c0_1) := (qw BK341.out 1).trans rfl; have hcz11_2 : w9.cell? ⟨gb341, 2, none⟩ = some (.slice A0_2 l0_2.length c0_2) := (qw BK341.out 2).trans rfl; have hfz11_0 := qx BK341.out 0; have hfz11_1 := qx BK341.out 1; have hfz11_2 := qx BK341.out 2; have hcz12_0 : w9.cell? ⟨gb342, 0, none⟩ = some (.int .i64 a1_0) := (qw BK342.out 0).trans rfl; have hcz12_1 : w9.cell? ⟨gb342, 1, none⟩ = some (.slice A1_1 l1_1.length c1_1) := (qw BK342.out 1).trans rfl; have hcz12_2 : w9.cell? ⟨gb342, 2, none⟩ = some (.slice A1_2 l1_2.length c1_2) := (qw BK342.out 2).trans rfl; have hfz12_0 := qx BK342.out 0; have hfz12_1 := qx BK342.out 1; have hfz12_2 := qx BK342.out 2) | ((with_reducible refine yx (f := 125) rfl ?_); refine vx (some 14) rfl rfl Try.func125 (by kernel_rfl) rfl #[.slice A0_1 l0_1.length c0_1, .slice A1_1 l1_1.length c1_1] rfl (by (try simp only [yq, List.map_cons, List.map_nil]); first | done | rfl | (simp only [yj, yw]; rfl)) ?_; (with_reducible refine (laws_eqStepS.calls k _ _ l0_1 _ _ l1_1 true _ ?side1 ?side2 ?side3 ?side4 A4.out).mono ?_); (case side1 => repeat (first | exact (jk HR0_1.out HB.out) | (with_reducible refine jj ?_ _) | (with_reducible refine jw ?_ _) | (with_reducible refine jx ?_))); (case side2 => exact HC0_1.out); (case side3 => repeat (first | exact (jk HR1_1.out HB.out) | (with_reducible refine jj ?_ _) | (with_reducible refine jw ?_ _) | (with_reducible refine jx ?_))); (case side4 => exact HC1_1.out); rintro e w13 ⟨rfl, hb⟩; refine ⟨_, rfl, ?_⟩; have n0_ := zz (qv (g := gb341) (o := .cells #[.int .i64 a0_0, .slice A0_1 l0_1.length c0_1, .slice A0_2 l0_2.length c0_2] 59 (0, 0)) (by (with_reducible repeat (first | refine qq ?_ _ | refine qj ?_ | refine qz ?_ _)); exact BK341.out) hb); have n1_ := zz (qv (g := gb342) (o := .cells #[.int .i64 a1_0, .slice A1_1 l1_1.length c1_1, .slice A1_2 l1_2.length c1_2] 59 (0, 0)) (by (with_reducible repeat (first | refine qq ?_ _ | refine qj ?_ | refine qz ?_ _)); exact BK342.out) hb); have n2_ := zz (zk (by repeat (first | (with_reducible first | exact HB.out | apply zj | apply zq | apply zw | refine zx ?_ GE341.out | refine zx ?_ GE342.out) | exact HB.out)) hb); clear BK341; clear BK342; clear HB; have BK341 := n0_; have BK342 := n1_; have HB := n2_; clear n0_ n1_ n2_; (try clear hb); (try clear hb2); (try clear hk); (try clear hi); have hcz14_0 : w13.cell? ⟨gb341, 0, none⟩ = some (.int .i64 a0_0) := (qw BK341.out 0).trans rfl; have hcz14_1 : w13.cell? ⟨gb341, 1, none⟩ = some (.slice A0_1 l0_1.length c0_1) := (qw BK341.out 1).trans rfl; have hcz14_2 : w13.cell? ⟨gb341, 2, none⟩ = some (.slice A0_2 l0_2.length c0_2) := (qw BK341.out 2).trans rfl; have hfz14_0 := qx BK341.out 0; have hfz14_1 := qx BK341.out 1; have hfz14_2 := qx BK341.out 2; have hcz15_0 : w13.cell? ⟨gb342, 0, none⟩ = some (.int .i64 a1_0) := (qw BK342.out 0).trans rfl; have hcz15_1 : w13.cell? ⟨gb342, 1, none⟩ = some (.slice A1_1 l1_1.length c1_1) := (qw BK342.out 1).trans rfl; have hcz15_2 : w13.cell? ⟨gb342, 2, none⟩ = some (.slice A1_2 l1_2.length c1_2) := (qw BK342.out 2).trans rfl; have hfz15_0 := qx BK342.out 0; have hfz15_1 := qx BK342.out 1; have hfz15_2 := qx BK342.out 2) | ((with_reducible refine yx (f := 28) rfl ?_); refine vx (some 20) rfl rfl Try.func28 (by kernel_rfl) rfl #[.slice A0_2 l0_2.length c0_2, .slice A1_2 l1_2.length c1_2] rfl (by (try simp only [yq, List.map_cons, List.map_nil]); first | done | rfl | (simp only [yj, yw]; rfl)) ?_; (with_reducible refine (laws_eqIntS.calls k _ _ l0_2 _ _ l1_2 true _ ?side1 ?side2 ?side3 ?side4 A6.out).mono ?_); (case side1 => repeat (first | exact (jk HR0_2.out HB.out) | (with_reducible refine jj ?_ _) | (with_reducible refine jw ?_ _) | (with_reducible refine jx ?_))); (case side2 => exact HC0_2.out); (case side3 => repeat (first | exact (jk HR1_2.out HB.out) | (with_reducible refine jj ?_ _) | (with_reducible refine jw ?_ _) | (with_reducible refine jx ?_))); (case side4 => exact HC1_2.out); rintro e w' ⟨rfl, ⟨nd, rfl⟩⟩; refine ⟨_, rfl, ?_⟩))
    go_ret
    exact ⟨by first | rfl | (simp [errW_none, errW_some] <;> rfl) | (simp [*, errW_none, errW_some] <;> rfl), by repeat (first | (with_reducible first | exact HB.out | apply zj | apply zq | apply zw | refine zx ?_ GE341.out | refine zx ?_ GE342.out) | exact HB.out)⟩
   ·replace c7 := Bool.eq_false_iff.mpr c7
    subst c7
    have H1 : (some false) = some r := by rw [if_neg (show ¬ (false = true) by decide)] at H; exact H
    clear H
    have H := H1
    clear H1
    obtain rfl := Option.some.inj H
    go_enter Try.func40, Try.ntmps40
    go_wp2_with (first | ((with_reducible refine yk (N := 2) rfl ?_); refine yv ?hg (N := 2) ?hd (cs := #[.int .i64 a0_0, .slice A0_1 l0_1.length c0_1, .slice A0_2 l0_2.length c0_2]) (t := 59) ?hr ?_; (case hd => rfl); (case hg => rfl); (case hr => first | (go_simp; done) | (go_simp; rfl)); intro gb341 hg w16 hbox hb; have n0_ := zz (zk (by repeat (first | (with_reducible first | exact HB.out | apply zj | apply zq | apply zw) | exact HB.out)) hb); have n1_ := zz (hbox); have n2_ := zz ((by rw [hg]; exact (zv (by repeat (first | (with_reducible first | exact HB.out | apply zj | apply zq | apply zw) | exact HB.out))) : w.heap.size ≤ gb341)); have n3_ := zz ((by rw [hg]; exact (zv (by repeat (first | (with_reducible first | exact HB.out | apply zj | apply zq | apply zw) | exact HB.out))) : w.heap.size ≤ gb341)); clear HB; have HB := n0_; have BK341 := n1_; have GW341 := n2_; have GE341 := n3_; clear n0_ n1_ n2_ n3_; clear hb hbox hg) | ((with_reducible refine yk (N := 3) rfl ?_); refine yv ?hg (N := 3) ?hd (cs := #[.int .i64 a1_0, .slice A1_1 l1_1.length c1_1, .slice A1_2 l1_2.length c1_2]) (t := 59) ?hr ?_; (case hd => rfl); (case hg => rfl); (case hr => first | (go_simp; done) | (go_simp; rfl)); intro gb342 hg w17 hbox hb; have n0_ := zz (qv (g := gb341) (o := .cells #[.int .i64 a0_0, .slice A0_1 l0_1.length c0_1, .slice A0_2 l0_2.length c0_2] 59 (0, 0)) (by (with_reducible repeat (first | refine qq ?_ _ | refine qj ?_ | refine qz ?_ _)); exact BK341.out) hb); have n1_ := zz (zk (by repeat (first | (with_reducible first | exact HB.out | apply zj | apply zq | apply zw | refine zx ?_ GE341.out) | exact HB.out)) hb); have n2_ := zz (hbox); have n3_ := zz ((by rw [hg]; exact (zv (by repeat (first | (with_reducible first | exact HB.out | apply zj | apply zq | apply zw | refine zx ?_ GE341.out) | exact HB.out))) : w.heap.size ≤ gb342)); have n4_ := zz ((by rw [hg]; exact (zv (by repeat (first | (with_reducible first | exact HB.out | apply zj | apply zq | apply zw | refine zx ?_ GE341.out) | exact HB.out))) : w.heap.size ≤ gb342)); have n5_ := zz ((by rw [hg]; exact Nat.ne_of_lt (blk_lt (g := gb341) (o := .cells #[.int .i64 a0_0, .slice A0_1 l0_1.length c0_1, .slice A0_2 l0_2.length c0_2] 59 (0, 0)) (by (with_reducible repeat (first | refine qq ?_ _ | refine qj ?_ | refine qz ?_ _)); exact BK341.out)) : gb341 ≠ gb342)); have n6_ := zz ((by rw [hg]; exact Nat.ne_of_gt (blk_lt (g := gb341) (o := .cells #[.int .i64 a0_0, .slice A0_1 l0_1.length c0_1, .slice A0_2 l0_2.length c0_2] 59 (0, 0)) (by (with_reducible repeat (first | refine qq ?_ _ | refine qj ?_ | refine qz ?_ _)); exact BK341.out)) : gb342 ≠ gb341)); clear BK341; clear HB; have BK341 := n0_; have HB := n1_; have BK342 := n2_; have GW342 := n3_; have GE342 := n4_; have NB341_342 := n5_; have NB342_341 := n6_; clear n0_ n1_ n2_ n3_ n4_ n5_ n6_; clear hb hbox hg; have hnb18 := NB341_342.out; have hnc18 := NB342_341.out; have hcz19_0 : w17.cell? ⟨gb341, 0, none⟩ = some (.int .i64 a0_0) := (qw BK341.out 0).trans rfl; have hcz19_1 : w17.cell? ⟨gb341, 1, none⟩ = some (.slice A0_1 l0_1.length c0_1) := (qw BK341.out 1).trans rfl; have hcz19_2 : w17.cell? ⟨gb341, 2, none⟩ = some (.slice A0_2 l0_2.length c0_2) := (qw BK341.out 2).trans rfl; have hfz19_0 := qx BK341.out 0; have hfz19_1 := qx BK341.out 1; have hfz19_2 := qx BK341.out 2; have hcz20_0 : w17.cell? ⟨gb342, 0, none⟩ = some (.int .i64 a1_0) := (qw BK342.out 0).trans rfl; have hcz20_1 : w17.cell? ⟨gb342, 1, none⟩ = some (.slice A1_1 l1_1.length c1_1) := (qw BK342.out 1).trans rfl; have hcz20_2 : w17.cell? ⟨gb342, 2, none⟩ = some (.slice A1_2 l1_2.length c1_2) := (qw BK342.out 2).trans rfl; have hfz20_0 := qx BK342.out 0; have hfz20_1 := qx BK342.out 1; have hfz20_2 := qx BK342.out 2) | ((with_reducible refine yx (f := 125) rfl ?_); refine vx (some 14) rfl rfl Try.func125 (by kernel_rfl) rfl #[.slice A0_1 l0_1.length c0_1, .slice A1_1 l1_1.length c1_1] rfl (by (try simp only [yq, List.map_cons, List.map_nil]); first | done | rfl | (simp only [yj, yw]; rfl)) ?_; (with_reducible refine (laws_eqStepS.calls k _ _ l0_1 _ _ l1_1 true _ ?side1 ?side2 ?side3 ?side4 A4.out).mono ?_); (case side1 => repeat (first | exact (jk HR0_1.out HB.out) | (with_reducible refine jj ?_ _) | (with_reducible refine jw ?_ _) | (with_reducible refine jx ?_))); (case side2 => exact HC0_1.out); (case side3 => repeat (first | exact (jk HR1_1.out HB.out) | (with_reducible refine jj ?_ _) | (with_reducible refine jw ?_ _) | (with_reducible refine jx ?_))); (case side4 => exact HC1_1.out); rintro e w21 ⟨rfl, hb⟩; refine ⟨_, rfl, ?_⟩; have n0_ := zz (qv (g := gb341) (o := .cells #[.int .i64 a0_0, .slice A0_1 l0_1.length c0_1, .slice A0_2 l0_2.length c0_2] 59 (0, 0)) (by (with_reducible repeat (first | refine qq ?_ _ | refine qj ?_ | refine qz ?_ _)); exact BK341.out) hb); have n1_ := zz (qv (g := gb342) (o := .cells #[.int .i64 a1_0, .slice A1_1 l1_1.length c1_1, .slice A1_2 l1_2.length c1_2] 59 (0, 0)) (by (with_reducible repeat (first | refine qq ?_ _ | refine qj ?_ | refine qz ?_ _)); exact BK342.out) hb); have n2_ := zz (zk (by repeat (first | (with_reducible first | exact HB.out | apply zj | apply zq | apply zw | refine zx ?_ GE341.out | refine zx ?_ GE342.out) | exact HB.out)) hb); clear BK341; clear BK342; clear HB; have BK341 := n0_; have BK342 := n1_; have HB := n2_; clear n0_ n1_ n2_; (try clear hb); (try clear hb2); (try clear hk); (try clear hi); have hcz22_0 : w21.cell? ⟨gb341, 0, none⟩ = some (.int .i64 a0_0) := (qw BK341.out 0).trans rfl; have hcz22_1 : w21.cell? ⟨gb341, 1, none⟩ = some (.slice A0_1 l0_1.length c0_1) := (qw BK341.out 1).trans rfl; have hcz22_2 : w21.cell? ⟨gb341, 2, none⟩ = some (.slice A0_2 l0_2.length c0_2) := (qw BK341.out 2).trans rfl; have hfz22_0 := qx BK341.out 0; have hfz22_1 := qx BK341.out 1; have hfz22_2 := qx BK341.out 2; have hcz23_0 : w21.cell? ⟨gb342, 0, none⟩ = some (.int .i64 a1_0) := (qw BK342.out 0).trans rfl; have hcz23_1 : w21.cell? ⟨gb342, 1, none⟩ = some (.slice A1_1 l1_1.length c1_1) := (qw BK342.out 1).trans rfl; have hcz23_2 : w21.cell? ⟨gb342, 2, none⟩ = some (.slice A1_2 l1_2.length c1_2) := (qw BK342.out 2).trans rfl; have hfz23_0 := qx BK342.out 0; have hfz23_1 := qx BK342.out 1; have hfz23_2 := qx BK342.out 2) | ((with_reducible refine yx (f := 28) rfl ?_); refine vx (some 20) rfl rfl Try.func28 (by kernel_rfl) rfl #[.slice A0_2 l0_2.length c0_2, .slice A1_2 l1_2.length c1_2] rfl (by (try simp only [yq, List.map_cons, List.map_nil]); first | done | rfl | (simp only [yj, yw]; rfl)) ?_; (with_reducible refine (laws_eqIntS.calls k _ _ l0_2 _ _ l1_2 false _ ?side1 ?side2 ?side3 ?side4 A6.out).mono ?_); (case side1 => repeat (first | exact (jk HR0_2.out HB.out) | (with_reducible refine jj ?_ _) | (with_reducible refine jw ?_ _) | (with_reducible refine jx ?_))); (case side2 => exact HC0_2.out); (case side3 => repeat (first | exact (jk HR1_2.out HB.out) | (with_reducible refine jj ?_ _) | (with_reducible refine jw ?_ _) | (with_reducible refine jx ?_))); (case side4 => exact HC1_2.out); rintro e w' ⟨rfl, ⟨nd, rfl⟩⟩; refine ⟨_, rfl, ?_⟩))
    go_ret
    exact ⟨by first | rfl | (simp [errW_none, errW_some] <;> rfl) | (simp [*, errW_none, errW_some] <;> rfl), by repeat (first | (with_reducible first | exact HB.out | apply zj | apply zq | apply zw | refine zx ?_ GE341.out | refine zx ?_ GE342.out) | exact HB.out)⟩
  ·replace c5 := Bool.eq_false_iff.mpr c5
   subst c5
   have H1 : (some false) = some r := by rw [if_neg (show ¬ (false = true) by decide)] at H; exact H
   clear H
   have H := H1
   clear H1
   obtain rfl := Option.some.inj H
   go_enter Try.func40, Try.ntmps40
   go_wp2_with (first | ((with_reducible refine yk (N := 2) rfl ?_); refine yv ?hg (N := 2) ?hd (cs := #[.int .i64 a0_0, .slice A0_1 l0_1.length c0_1, .slice A0_2 l0_2.length c0_2]) (t := 59) ?hr ?_; (case hd => rfl); (case hg => rfl); (case hr => first | (go_simp; done) | (go_simp; rfl)); intro gb341 hg w24 hbox hb; have n0_ := zz (zk (by repeat (first | (with_reducible first | exact HB.out | apply zj | apply zq | apply zw) | exact HB.out)) hb); have n1_ := zz (hbox); have n2_ := zz ((by rw [hg]; exact (zv (by repeat (first | (with_reducible first | exact HB.out | apply zj | apply zq | apply zw) | exact HB.out))) : w.heap.size ≤ gb341)); have n3_ := zz ((by rw [hg]; exact (zv (by repeat (first | (with_reducible first | exact HB.out | apply zj | apply zq | apply zw) | exact HB.out))) : w.heap.size ≤ gb341)); clear HB; have HB := n0_; have BK341 := n1_; have GW341 := n2_; have GE341 := n3_; clear n0_ n1_ n2_ n3_; clear hb hbox hg) | ((with_reducible refine yk (N := 3) rfl ?_); refine yv ?hg (N := 3) ?hd (cs := #[.int .i64 a1_0, .slice A1_1 l1_1.length c1_1, .slice A1_2 l1_2.length c1_2]) (t := 59) ?hr ?_; (case hd => rfl); (case hg => rfl); (case hr => first | (go_simp; done) | (go_simp; rfl)); intro gb342 hg w25 hbox hb; have n0_ := zz (qv (g := gb341) (o := .cells #[.int .i64 a0_0, .slice A0_1 l0_1.length c0_1, .slice A0_2 l0_2.length c0_2] 59 (0, 0)) (by (with_reducible repeat (first | refine qq ?_ _ | refine qj ?_ | refine qz ?_ _)); exact BK341.out) hb); have n1_ := zz (zk (by repeat (first | (with_reducible first | exact HB.out | apply zj | apply zq | apply zw | refine zx ?_ GE341.out) | exact HB.out)) hb); have n2_ := zz (hbox); have n3_ := zz ((by rw [hg]; exact (zv (by repeat (first | (with_reducible first | exact HB.out | apply zj | apply zq | apply zw | refine zx ?_ GE341.out) | exact HB.out))) : w.heap.size ≤ gb342)); have n4_ := zz ((by rw [hg]; exact (zv (by repeat (first | (with_reducible first | exact HB.out | apply zj | apply zq | apply zw | refine zx ?_ GE341.out) | exact HB.out))) : w.heap.size ≤ gb342)); have n5_ := zz ((by rw [hg]; exact Nat.ne_of_lt (blk_lt (g := gb341) (o := .cells #[.int .i64 a0_0, .slice A0_1 l0_1.length c0_1, .slice A0_2 l0_2.length c0_2] 59 (0, 0)) (by (with_reducible repeat (first | refine qq ?_ _ | refine qj ?_ | refine qz ?_ _)); exact BK341.out)) : gb341 ≠ gb342)); have n6_ := zz ((by rw [hg]; exact Nat.ne_of_gt (blk_lt (g := gb341) (o := .cells #[.int .i64 a0_0, .slice A0_1 l0_1.length c0_1, .slice A0_2 l0_2.length c0_2] 59 (0, 0)) (by (with_reducible repeat (first | refine qq ?_ _ | refine qj ?_ | refine qz ?_ _)); exact BK341.out)) : gb342 ≠ gb341)); clear BK341; clear HB; have BK341 := n0_; have HB := n1_; have BK342 := n2_; have GW342 := n3_; have GE342 := n4_; have NB341_342 := n5_; have NB342_341 := n6_; clear n0_ n1_ n2_ n3_ n4_ n5_ n6_; clear hb hbox hg; have hnb26 := NB341_342.out; have hnc26 := NB342_341.out; have hcz27_0 : w25.cell? ⟨gb341, 0, none⟩ = some (.int .i64 a0_0) := (qw BK341.out 0).trans rfl; have hcz27_1 : w25.cell? ⟨gb341, 1, none⟩ = some (.slice A0_1 l0_1.length c0_1) := (qw BK341.out 1).trans rfl; have hcz27_2 : w25.cell? ⟨gb341, 2, none⟩ = some (.slice A0_2 l0_2.length c0_2) := (qw BK341.out 2).trans rfl; have hfz27_0 := qx BK341.out 0; have hfz27_1 := qx BK341.out 1; have hfz27_2 := qx BK341.out 2; have hcz28_0 : w25.cell? ⟨gb342, 0, none⟩ = some (.int .i64 a1_0) := (qw BK342.out 0).trans rfl; have hcz28_1 : w25.cell? ⟨gb342, 1, none⟩ = some (.slice A1_1 l1_1.length c1_1) := (qw BK342.out 1).trans rfl; have hcz28_2 : w25.cell? ⟨gb342, 2, none⟩ = some (.slice A1_2 l1_2.length c1_2) := (qw BK342.out 2).trans rfl; have hfz28_0 := qx BK342.out 0; have hfz28_1 := qx BK342.out 1; have hfz28_2 := qx BK342.out 2) | ((with_reducible refine yx (f := 125) rfl ?_); refine vx (some 14) rfl rfl Try.func125 (by kernel_rfl) rfl #[.slice A0_1 l0_1.length c0_1, .slice A1_1 l1_1.length c1_1] rfl (by (try simp only [yq, List.map_cons, List.map_nil]); first | done | rfl | (simp only [yj, yw]; rfl)) ?_; (with_reducible refine (laws_eqStepS.calls k _ _ l0_1 _ _ l1_1 false _ ?side1 ?side2 ?side3 ?side4 A4.out).mono ?_); (case side1 => repeat (first | exact (jk HR0_1.out HB.out) | (with_reducible refine jj ?_ _) | (with_reducible refine jw ?_ _) | (with_reducible refine jx ?_))); (case side2 => exact HC0_1.out); (case side3 => repeat (first | exact (jk HR1_1.out HB.out) | (with_reducible refine jj ?_ _) | (with_reducible refine jw ?_ _) | (with_reducible refine jx ?_))); (case side4 => exact HC1_1.out); rintro e w29 ⟨rfl, hb⟩; refine ⟨_, rfl, ?_⟩; have n0_ := zz (qv (g := gb341) (o := .cells #[.int .i64 a0_0, .slice A0_1 l0_1.length c0_1, .slice A0_2 l0_2.length c0_2] 59 (0, 0)) (by (with_reducible repeat (first | refine qq ?_ _ | refine qj ?_ | refine qz ?_ _)); exact BK341.out) hb); have n1_ := zz (qv (g := gb342) (o := .cells #[.int .i64 a1_0, .slice A1_1 l1_1.length c1_1, .slice A1_2 l1_2.length c1_2] 59 (0, 0)) (by (with_reducible repeat (first | refine qq ?_ _ | refine qj ?_ | refine qz ?_ _)); exact BK342.out) hb); have n2_ := zz (zk (by repeat (first | (with_reducible first | exact HB.out | apply zj | apply zq | apply zw | refine zx ?_ GE341.out | refine zx ?_ GE342.out) | exact HB.out)) hb); clear BK341; clear BK342; clear HB; have BK341 := n0_; have BK342 := n1_; have HB := n2_; clear n0_ n1_ n2_; (try clear hb); (try clear hb2); (try clear hk); (try clear hi)))
   go_ret
   exact ⟨by first | rfl | (simp [errW_none, errW_some] <;> rfl) | (simp [*, errW_none, errW_some] <;> rfl), by repeat (first | (with_reducible first | exact HB.out | apply zj | apply zq | apply zw | refine zx ?_ GE341.out | refine zx ?_ GE342.out) | exact HB.out)⟩
 ·rw [if_neg c3] at H
  have c3b0 : (a0_0 == a1_0) = false := beq_eq_false_iff_ne.mpr c3
  have c3b1 : (a0_0 != a1_0) = true := bne_iff_ne.mpr c3
  obtain rfl := Option.some.inj H
  go_enter Try.func40, Try.ntmps40
  go_wp2_with (first | ((with_reducible refine yk (N := 2) rfl ?_); refine yv ?hg (N := 2) ?hd (cs := #[.int .i64 a0_0, .slice A0_1 l0_1.length c0_1, .slice A0_2 l0_2.length c0_2]) (t := 59) ?hr ?_; (case hd => rfl); (case hg => rfl); (case hr => first | (go_simp; done) | (go_simp; rfl)); intro gb341 hg w30 hbox hb; have n0_ := zz (zk (by repeat (first | (with_reducible first | exact HB.out | apply zj | apply zq | apply zw) | exact HB.out)) hb); have n1_ := zz (hbox); have n2_ := zz ((by rw [hg]; exact (zv (by repeat (first | (with_reducible first | exact HB.out | apply zj | apply zq | apply zw) | exact HB.out))) : w.heap.size ≤ gb341)); have n3_ := zz ((by rw [hg]; exact (zv (by repeat (first | (with_reducible first | exact HB.out | apply zj | apply zq | apply zw) | exact HB.out))) : w.heap.size ≤ gb341)); clear HB; have HB := n0_; have BK341 := n1_; have GW341 := n2_; have GE341 := n3_; clear n0_ n1_ n2_ n3_; clear hb hbox hg) | ((with_reducible refine yk (N := 3) rfl ?_); refine yv ?hg (N := 3) ?hd (cs := #[.int .i64 a1_0, .slice A1_1 l1_1.length c1_1, .slice A1_2 l1_2.length c1_2]) (t := 59) ?hr ?_; (case hd => rfl); (case hg => rfl); (case hr => first | (go_simp; done) | (go_simp; rfl)); intro gb342 hg w31 hbox hb; have n0_ := zz (qv (g := gb341) (o := .cells #[.int .i64 a0_0, .slice A0_1 l0_1.length c0_1, .slice A0_2 l0_2.length c0_2] 59 (0, 0)) (by (with_reducible repeat (first | refine qq ?_ _ | refine qj ?_ | refine qz ?_ _)); exact BK341.out) hb); have n1_ := zz (zk (by repeat (first | (with_reducible first | exact HB.out | apply zj | apply zq | apply zw | refine zx ?_ GE341.out) | exact HB.out)) hb); have n2_ := zz (hbox); have n3_ := zz ((by rw [hg]; exact (zv (by repeat (first | (with_reducible first | exact HB.out | apply zj | apply zq | apply zw | refine zx ?_ GE341.out) | exact HB.out))) : w.heap.size ≤ gb342)); have n4_ := zz ((by rw [hg]; exact (zv (by repeat (first | (with_reducible first | exact HB.out | apply zj | apply zq | apply zw | refine zx ?_ GE341.out) | exact HB.out))) : w.heap.size ≤ gb342)); have n5_ := zz ((by rw [hg]; exact Nat.ne_of_lt (blk_lt (g := gb341) (o := .cells #[.int .i64 a0_0, .slice A0_1 l0_1.length c0_1, .slice A0_2 l0_2.length c0_2] 59 (0, 0)) (by (with_reducible repeat (first | refine qq ?_ _ | refine qj ?_ | refine qz ?_ _)); exact BK341.out)) : gb341 ≠ gb342)); have n6_ := zz ((by rw [hg]; exact Nat.ne_of_gt (blk_lt (g := gb341) (o := .cells #[.int .i64 a0_0, .slice A0_1 l0_1.length c0_1, .slice A0_2 l0_2.length c0_2] 59 (0, 0)) (by (with_reducible repeat (first | refine qq ?_ _ | refine qj ?_ | refine qz ?_ _)); exact BK341.out)) : gb342 ≠ gb341)); clear BK341; clear HB; have BK341 := n0_; have HB := n1_; have BK342 := n2_; have GW342 := n3_; have GE342 := n4_; have NB341_342 := n5_; have NB342_341 := n6_; clear n0_ n1_ n2_ n3_ n4_ n5_ n6_; clear hb hbox hg; have hnb32 := NB341_342.out; have hnc32 := NB342_341.out; have hcz33_0 : w31.cell? ⟨gb341, 0, none⟩ = some (.int .i64 a0_0) := (qw BK341.out 0).trans rfl; have hcz33_1 : w31.cell? ⟨gb341, 1, none⟩ = some (.slice A0_1 l0_1.length c0_1) := (qw BK341.out 1).trans rfl; have hcz33_2 : w31.cell? ⟨gb341, 2, none⟩ = some (.slice A0_2 l0_2.length c0_2) := (qw BK341.out 2).trans rfl; have hfz33_0 := qx BK341.out 0; have hfz33_1 := qx BK341.out 1; have hfz33_2 := qx BK341.out 2; have hcz34_0 : w31.cell? ⟨gb342, 0, none⟩ = some (.int .i64 a1_0) := (qw BK342.out 0).trans rfl; have hcz34_1 : w31.cell? ⟨gb342, 1, none⟩ = some (.slice A1_1 l1_1.length c1_1) := (qw BK342.out 1).trans rfl; have hcz34_2 : w31.cell? ⟨gb342, 2, none⟩ = some (.slice A1_2 l1_2.length c1_2) := (qw BK342.out 2).trans rfl; have hfz34_0 := qx BK342.out 0; have hfz34_1 := qx BK342.out 1; have hfz34_2 := qx BK342.out 2))
  go_ret
  exact ⟨by first | rfl | (simp [errW_none, errW_some] <;> rfl) | (simp [*, errW_none, errW_some] <;> rfl), by repeat (first | (with_reducible first | exact HB.out | apply zj | apply zq | apply zw | refine zx ?_ GE341.out | refine zx ?_ GE342.out) | exact HB.out)⟩

end Go.Proofs.Ytlmoemahamneoaa.PFnExactCodeOfPlan
