-- Written by gprint.py, a program of this session, out of the translation (a changed print).
import Derived.Test.YtlmoemahamneoaaPFnExactTrimCodex0
import Derived.Test.YtlmoemahamneoaaPFnExactTrimCodex8
namespace Go.Proofs.Ytlmoemahamneoaa.PFnExactTrimCode
open Go.RowKit Go.Proofs.YtlmoemahamneoaaW.PrintWords Go.Proofs.YtlmoemahamneoaaW.PrintLast Go.Proofs.YtlmoemahamneoaaW.PrintMore
attribute [local go_sem] max2_int min2_int max_two min_two max_three min_three max_four min_four   -- for this text's walks alone
set_option linter.unusedVariables false
set_option linter.unusedSimpArgs false

/-! ### impl_TrimCode: function 35 -/
def tcVals (o : S109) : List Int := if o.f0 = 0 then [] else if o.f0 = 2 then [o.f1] else [o.f1, o.f2]
def tcOr (i : Nat) (nd : List Bool) (v : Int) : List Bool := nd.set v.toNat (nd.getD v.toNat false || nd.getD (i + 1) false)
def tcMark (nd : List Bool) (p : Int × S109) : List Bool := (tcVals p.2).foldl (tcOr p.1.toNat) nd
def tcAt (ops : List S109) (k : Nat) : Int × S109 := (((ops.length - 1 - k : Nat) : Int), rd_T109 ops ((ops.length - 1 - k : Nat) : Int))
def tcNd0 (ops : List S109) (out : Int) : List Bool := (List.replicate (ops.length + 1) false).set out.toNat true
def tcNeed (ops : List S109) (out : Int) : List Bool := (YtlmoemahamneoaaBack.upto (tcAt ops) ops.length).foldl tcMark (tcNd0 ops out)
def tcBuild (nd : List Bool) : List S109 → Nat → List S109 → List Int → Option (List S109 × List Int)
  | [], _, os, pl => some (os, pl)
  | o :: r, i, os, pl => if nd.getD (i + 1) false = true then (impl_Op_moved.f o.f0 o.f1 o.f2 pl).bind fun m => tcBuild nd r (i + 1) (os ++ [⟨m.1, m.2.1, m.2.2⟩]) (pl ++ [((os.length + 1 : Nat) : Int)])
    else tcBuild nd r (i + 1) os (pl ++ [(os.length : Int)])
def tcFit (ops : List S109) (out : Int) : Prop := ops.length ≤ 120 ∧ 0 ≤ out ∧ out ≤ (ops.length : Int) ∧ ∀ i, i < ops.length → ∀ v ∈ tcVals (rd_T109 ops (i : Int)), 0 ≤ v ∧ v ≤ (i : Int)
instance (ops : List S109) (out : Int) : Decidable (tcFit ops out) := by unfold tcFit; exact inferInstance
def impl_TrimCode.f (k : Nat) (l0_0 : List (S109)) (a0_1 : Int) : Option (List (S109) × Int × Bool) := (impl_IsCode.f k l0_0 a0_1).bind fun ok => if ok = true then
  (if tcFit l0_0 a0_1 then (tcBuild (tcNeed l0_0 a0_1) l0_0 0 [] [0]).bind fun p => if a0_1 < (p.2.length : Int) then some (p.1, rd p.2 a0_1, true) else none else none) else some ([], 0, false)
theorem impl_TrimCode.mono : ∀ (a0 : List (S109)) (a1 : Int) (k : Nat), LeO (impl_TrimCode.f k a0 a1) (impl_TrimCode.f (k + 1) a0 a1) := by
  intro a0 a1 k
  unfold impl_TrimCode.f
  exact LeO.bind (impl_IsCode.mono _ _ _) (fun _ => LeO.refl _)
abbrev TcP (n : Nat) := {p : Int × S109 // 0 ≤ p.1 ∧ ∀ v ∈ tcVals p.2, 0 ≤ v ∧ v ≤ p.1 ∧ p.1 < (n : Int)}
theorem tc_ok {ops : List S109} {out : Int} (h : tcFit ops out) (k : Nat) : 0 ≤ (tcAt ops k).1 ∧ ∀ v ∈ tcVals (tcAt ops k).2, 0 ≤ v ∧ v ≤ (tcAt ops k).1 ∧ (tcAt ops k).1 < (ops.length : Int) := by
  refine ⟨Int.natCast_nonneg _, fun v hv => ?_⟩
  unfold tcAt at hv ⊢
  dsimp only at hv ⊢
  by_cases hn : ops.length = 0
  · have : ops = [] := List.length_eq_zero_iff.mp hn
    subst this
    simp [rd_T109, z109, tcVals] at hv
  · have hlt : ops.length - 1 - k < ops.length := by omega
    have := h.2.2.2 _ hlt v hv
    omega
theorem tcOr_length (i : Nat) (nd : List Bool) (v : Int) : (tcOr i nd v).length = nd.length := by simp [tcOr]
theorem tcFold_length (i : Nat) : ∀ (l : List Int) (nd : List Bool), (l.foldl (tcOr i) nd).length = nd.length
  | [], _ => rfl
  | v :: l, nd => by rw [List.foldl_cons, tcFold_length i l, tcOr_length]
theorem tcMark_length (nd : List Bool) (p : Int × S109) : (tcMark nd p).length = nd.length := tcFold_length _ _ _
theorem tcPre_length {n : Nat} : ∀ (l : List (TcP n)) (nd : List Bool), (l.foldl (fun nd p => tcMark nd p.1) nd).length = nd.length
  | [], _ => rfl
  | p :: l, nd => by rw [List.foldl_cons, tcPre_length l, tcMark_length]
section
set_option maxRecDepth 100000
theorem backO_in (a : Option Addr) (len cap : Nat) (w : World) : Calls Try.prog 118 #[.slice a len cap] w fun e w' => e = .returned (.func (.func 197) #[] #[.pointer (some ⟨w.heap.size, 0, none⟩)]) ∧ w' = w.alloc (.cells #[.slice a len cap] 30) := by
  go_enter Try.func118, Try.ntmps118
  go_wp2
  go_ret
  exact ⟨rfl, rfl⟩
open Go.Shelf in
attribute [local go_sem] Oper.semAt_some in
set_option maxHeartbeats 4000000 in
theorem backO1_in (F : Fence) (n : Nat) (h7 : F.fn 197) (hro : F.round = none) (hn : 1 ≤ n) {α : Type} (dec : α → Int × S109) (g : Nat → α) (l Bs cap : Nat) (A : Option Addr) (ops : List S109) (hg : ∀ k, dec (g k) = tcAt ops k) (hreach : ops.length ≤ 120) (J Jx : List α → World → Prop)
    (w2 : World) (HC : Kd.C k109 w2 A ops.length ops)
    (hY : ∀ pre x W, J pre W → pre.length < ops.length → YieldAt F (n - 1) Try.prog l #[.int .i64 (dec x).1, .agg #[.int .i64 (dec x).2.f0, .int .i64 (dec x).2.f1, .int .i64 (dec x).2.f2]] W fun e W' =>
      (e = .returned (.bool true) ∧ J (pre ++ [x]) W' ∧ YtlmoemahamneoaaBack.KeepB w2.heap.size Bs W W') ∨ (e = .returned (.bool false) ∧ Jx (pre ++ [x]) W'))
    (W : World) (hW : Below w2.heap.size w2 W) (hBl : W.heap[Bs]? = some (.cells #[.slice A ops.length cap] 30 (0, 0))) (h0 : J [] W) :
    CallsIn F n Try.prog 197 #[.func (.yield l) #[] #[], .pointer (some ⟨Bs, 0, none⟩)] W fun e W' => (∃ v, e = .returned v) ∧
      ((∃ ys, ys = YtlmoemahamneoaaBack.upto g ops.length ∧ J ys W') ∨ (∃ pre, (∃ k, k ≤ ops.length ∧ pre = YtlmoemahamneoaaBack.upto g k) ∧ Jx pre W')) := by
  have hBs : W.cell? ⟨Bs, 0, none⟩ = some (.slice A ops.length cap) := (YtlmoemahamneoaaBack.KeepB.refl w2.heap.size Bs W).cell hBl
  have HCH := Go.Lib.hid HC
  have HW := Go.Lib.hid hW
  clear HC hW
  refine callsIn_of_wp Try.func197 rfl h7 ?_ hro
  simp only [Try.ntmps197, List.size_toArray, List.length_cons, List.length_nil, Nat.reduceAdd, Nat.reduceSub, Array.replicate_succ, Array.replicate_zero, List.push_toArray, List.append_toArray, List.nil_append, List.cons_append]
  gi_wp2
  gi_loopw [3] (fun i wr => ∃ m : Nat, m ≤ ops.length ∧ i = .int .i64 ((m : Int) - 1) ∧ J (YtlmoemahamneoaaBack.upto g (ops.length - m)) wr ∧ YtlmoemahamneoaaBack.KeepB w2.heap.size Bs W wr)
    (fun i _ => ((intOf i) + 1).toNat)
  case atStart => exact ⟨ops.length, Nat.le_refl _, rfl, by rw [Nat.sub_self]; exact h0, YtlmoemahamneoaaBack.KeepB.refl _ _ _⟩
  case round =>
    obtain ⟨m, hm, rfl, hJs, hnx⟩ := hrel
    rcases m with _ | q
    · have e1 : ((0 : Nat) : Int) - 1 = -1 := rfl
      rw [e1]
      rw [Nat.sub_zero] at hJs
      have HJ := Go.Lib.hid hJs
      clear hJs
      gi_wp2
      go_end0
      exact ⟨⟨_, rfl⟩, .inl ⟨_, rfl, HJ.out⟩⟩
    · have e1 : ((q + 1 : Nat) : Int) - 1 = (q : Int) := by omega
      rw [e1]
      have hBs' : wr.cell? ⟨Bs, 0, none⟩ = some (.slice A ops.length cap) := hnx.cell hBl
      obtain ⟨ad, e, hx0, hx1, hx2⟩ := at_T109 (Kd.C_below HCH.out (HW.out.trans hnx.1)) (q : Int) (by omega) (by omega)
      rw [Int.toNat_natCast] at hx0 hx1 hx2
      subst e
      have hk : ops.length - (q + 1) < ops.length := by omega
      have hat : dec (g (ops.length - (q + 1))) = ((q : Int), rd_T109 ops (q : Int)) := by
        rw [hg]
        unfold tcAt
        rw [show ops.length - 1 - (ops.length - (q + 1)) = q by omega]
      obtain ⟨fn, tmps, assign, body, hy, hR⟩ := hY _ (g (ops.length - (q + 1))) wr hJs (by rw [YtlmoemahamneoaaBack.upto_length]; exact hk)
      rw [hat] at hy
      dsimp only at hy
      have e3 : (q : Int) < (ops.length : Int) := by omega
      have HM := Go.Lib.hid hm
      have HNX := Go.Lib.hid hnx
      clear hJs hnx hat hk hm
      gi_wp2
      refine hR.mono ?_
      rintro e W3 (⟨rfl, hJ3, hk3⟩ | ⟨rfl, hJx3⟩)
      · have hm := HM.out
        have HJ3 := Go.Lib.hid hJ3
        have HK3 := Go.Lib.hid hk3
        clear hJ3 hk3
        gi_wp2
        go_roundw
        case rel => exact ⟨q, by omega, by first | rfl | (congr 1; omega), by rw [show ops.length - q = ops.length - (q + 1) + 1 by omega, YtlmoemahamneoaaBack.upto_succ]; exact HJ3.out, HNX.out.trans HK3.out⟩
        case measure => simp [intOf] <;> omega
      · gi_wp2
        refine bodyPost_ret (results_none rfl _ _ _) rfl ?_
        have hm := HM.out
        exact ⟨⟨_, rfl⟩, .inr ⟨_, ⟨ops.length - q, by omega, by rw [show ops.length - q = ops.length - (q + 1) + 1 by omega, YtlmoemahamneoaaBack.upto_succ]⟩, hJx3⟩⟩
open Go.Shelf in
theorem backO_stops (F : Fence) (n : Nat) (h7 : F.fn 197) (hro : F.round = none) (hn : 1 ≤ n) {α : Type} (dec : α → Int × S109) (g : Nat → α) (Bs cap : Nat) (A : Option Addr) (ops : List S109) (hg : ∀ k, dec (g k) = tcAt ops k) (hreach : ops.length ≤ 120)
    (w2 : World) (HC : Kd.C k109 w2 A ops.length ops) (w : World) (hw : Below w2.heap.size w2 w) (hbx : w.heap[Bs]? = some (.cells #[.slice A ops.length cap] 30 (0, 0))) :
    SeqStopsK F n Try.prog 197 #[.pointer (some ⟨Bs, 0, none⟩)] (fun x : α => #[Value.int .i64 (dec x).1, .agg #[.int .i64 (dec x).2.f0, .int .i64 (dec x).2.f1, .int .i64 (dec x).2.f2]]) (YtlmoemahamneoaaBack.KeepB w2.heap.size Bs) (fun ys => ys = YtlmoemahamneoaaBack.upto g ops.length)
      (fun pre => ∃ k, k ≤ ops.length ∧ pre = YtlmoemahamneoaaBack.upto g k) ops.length w := fun l J Jx W hW _ _ hY h0 =>
  backO1_in F n h7 hro hn dec g l Bs cap A ops hg hreach J Jx w2 HC hY W (hw.trans (hW.mono hw.size)) (blk_below hbx hW) h0
theorem tc_blk_own {β : Type} (B : Nat) (cs : Array Value) (t : TypeId) : Own (fun (_ : β) W => W.heap[B]? = some (.cells cs t (0, 0))) := fun s X Y row hs hg hr => (hg.block B (blk_lt hs) (fun e => by
  obtain ⟨o, ho, hc⟩ := hr B e.symm
  rw [hs] at ho
  cases ho
  cases hc)).trans hs
theorem tc_blkf_own {β : Type} (B : Nat) (cs : β → Array Value) (t : TypeId) : Own (fun (s : β) W => W.heap[B]? = some (.cells (cs s) t (0, 0))) := fun s X Y row hs hg hr => (hg.block B (blk_lt hs) (fun e => by
  obtain ⟨o, ho, hc⟩ := hr B e.symm
  rw [hs] at ho
  cases ho
  cases hc)).trans hs
theorem tc_cells (n : Nat) : madeCells #[.bool false] n = ((List.replicate n false).map Value.bool).toArray := by
  apply Array.ext
  · simp [madeCells]
  · intro i h1 h2
    simp [madeCells]
    rw [Nat.mod_one]
    rfl
theorem tc_made {n j : Nat} (h : j < n) : (madeCells #[.bool false] n)[j]? = some (.bool false) := by
  rw [tc_cells]
  simp [h]
theorem tc_get (d : List Bool) (j : Nat) (h : j < d.length) : ((d.map Value.bool).toArray)[j]? = some (.bool (d.getD j false)) := by
  simp [h]
theorem tc_step {w2 W wr : World} {n0 N x L c : Nat} {A Av : Option Addr} {cv : Nat} {d : List Bool} {V : List Int} (hn0 : w2.heap.size = n0) (hWs : n0 + 1 + 1 < W.heap.size) (b : Bool) (c0 : wr.heap[n0]? = some (.cells (d.map Value.bool).toArray 4 (0, 0))) (c1 : wr.heap[n0 + 1]? = some (.cells #[.slice (some ⟨n0, 0, none⟩) N N] 125 (0, 0)))
    (HQ : wr.heap[n0 + 1 + 1]? = some (.cells #[.slice A L c] 30 (0, 0)) ∧ Below n0 w2 wr ∧ KeepsOthers W wr ∧ YtlmoemahamneoaaBack.KeepB n0 (n0 + 1 + 1) W wr) (HR : wr.ownsRow W.heap.size 3 1 (.slice Av V.length cv) V.length (V.map (Value.int .i64))) :
    ((wr.setCell ⟨n0, x, none⟩ (.bool b)).drew).heap[n0]? = some (.cells ((d.set x b).map Value.bool).toArray 4 (0, 0)) ∧ ((wr.setCell ⟨n0, x, none⟩ (.bool b)).drew).heap[n0 + 1]? = some (.cells #[.slice (some ⟨n0, 0, none⟩) N N] 125 (0, 0)) ∧
    (((wr.setCell ⟨n0, x, none⟩ (.bool b)).drew).heap[n0 + 1 + 1]? = some (.cells #[.slice A L c] 30 (0, 0)) ∧ Below n0 w2 ((wr.setCell ⟨n0, x, none⟩ (.bool b)).drew) ∧ KeepsOthers W ((wr.setCell ⟨n0, x, none⟩ (.bool b)).drew) ∧ YtlmoemahamneoaaBack.KeepB n0 (n0 + 1 + 1) W ((wr.setCell ⟨n0, x, none⟩ (.bool b)).drew)) ∧
    ((wr.setCell ⟨n0, x, none⟩ (.bool b)).drew).ownsRow W.heap.size 3 1 (.slice Av V.length cv) V.length (V.map (Value.int .i64)) := by
  have hs := YtlmoemahamneoaaBack.KeepB.set (n₀ := n0) (Bs := n0 + 1 + 1) (W := wr) (p := ⟨n0, x, none⟩) (Nat.le_refl _) (by show n0 + 1 + 1 ≠ n0; omega) (.bool b)
  refine ⟨blk_drew (blk_put c0 _ _ (Array.ext' (by simp [List.map_set]))), blk_drew (blk_far c1 (by simp) _), ⟨blk_drew (blk_far HQ.1 (by show n0 + 1 + 1 ≠ n0; omega) _), below_drew (HQ.2.1.trans hs.1), (HQ.2.2.1.trans (KeepsOthers.setCell _ _ _)).trans (KeepsOthers.drew _), below_drew (HQ.2.2.2.1.trans hs.1), fun cs t fr e => hs.2 cs t fr (HQ.2.2.2.2 cs t fr e)⟩, ?_⟩
  exact pw_own_below (ownsRow_setCell_below HR (by show n0 < W.heap.size; omega) _) (below_drew (Below.refl _ _))
theorem tcVals_le (o : S109) : (tcVals o).length ≤ 2 := by
  unfold tcVals
  split
  · simp
  · split <;> simp
theorem tc_wrap {j L : Nat} (hj : j < L) (hL : L ≤ 2) : Value.int .i64 (wrap64 ((j : Int) + 1)) = Value.int .i64 ((j + 1 : Nat) : Int) := by
  have : wrap64 ((j : Int) + 1) = (j : Int) + 1 := IntWalk.wrap64_in _ (by omega)
  rw [this]
  rfl
theorem tc_meas {j L : Nat} (hj : j < L) (hL : L ≤ 2) : L - (intOf (Value.int .i64 (wrap64 ((j : Int) + 1)))).toNat < L - (intOf (Value.int .i64 (j : Int))).toNat := by
  rw [tc_wrap hj hL]
  simp only [intOf]
  omega
theorem tcNeed_length (ops : List S109) (out : Int) : (tcNeed ops out).length = ops.length + 1 := by
  have : ∀ (l : List (Int × S109)) (nd : List Bool), (l.foldl tcMark nd).length = nd.length := by
    intro l
    induction l with
    | nil => intro _; rfl
    | cons p l ih => intro nd; rw [List.foldl_cons, ih, tcMark_length]
  unfold tcNeed
  rw [this]
  simp [tcNd0]
theorem tc_need {ops : List S109} {out : Int} (h : tcFit ops out) : (YtlmoemahamneoaaBack.upto (fun k => (⟨tcAt ops k, tc_ok h k⟩ : TcP ops.length)) ops.length).foldl (fun nd p => tcMark nd p.1) (tcNd0 ops out) = tcNeed ops out := by
  unfold tcNeed YtlmoemahamneoaaBack.upto
  rw [List.foldl_map, List.foldl_map]
theorem tc_lit (W : World) : Kd.R (Kd.int .i64) 3 (W.alloc (.cells #[.int .i64 0] 3)) W.heap.size (fun _ => True) (.slice (some ⟨W.heap.size, 0, none⟩) 1 1) [0] := by
  have h := Go.Proofs.YtlmoemahamneoaaW.PrintWords.own_lit W W.heap.size 3 .i64 [0] (Nat.le_refl _) (by simp)
  exact Kd.R_of_own h (fun _ _ => trivial)
theorem tc_R {w1 w2 : World} {b b' : Nat} {v : Value} {xs : List S109} (h : Kd.R k109 109 w1 b (fun _ => True) v xs) (hb : b' ≤ b) (hs : ∀ k, b ≤ k → (∃ cells q, w1.heap[k]? = some (.cells cells q (0, 0))) → w2.heap[k]? = w1.heap[k]?) : Kd.R k109 109 w2 b' (fun _ => True) v xs := by
  have h2 := Kd.R_mono (ok' := fun _ => True) (Kd.R_move (Kd.R_bound h) (fun k hk => hs k hk.2.1 (by obtain ⟨_, _, _, q, _, cells, hc⟩ := hk; exact ⟨cells, q, hc⟩))) (fun _ _ => trivial)
  obtain ⟨h0, inner, ho, hr⟩ := h2
  exact ⟨h0, inner, own_weaken ho hb, hr.imp_ (fun p c hp => by rw [k109_openM hp]; exact k109_mkM _ _ _ p)⟩
def tcT18 : Bool × List (List Nat × List Nat) := (true, [([], []), ([0], [0]), ([], []), ([], []), ([2, 3], [2, 3]), ([4], [4]), ([1, 5, 4], [1, 5]), ([0, 1, 2, 3, 4, 5, 6], []), ([7, 6, 6, 0, 1, 2, 3, 4, 5, 6], [6, 7])])
def tcB18 : List Nat := [0, 1, 0, 0, 12, 28, 63, 127, 255]
theorem tc_tab18 : rtab .any (opsOf Try.f35 18) = tcT18 := by kernel_rfl
theorem tc_bits18 : waitsOk tcT18.2 tcB18 = true := by kernel_rfl
def TcHold (p : Prop) : Prop := p
theorem tc_hold {p : Prop} (h : TcHold p) : p := h
theorem tc_info : (Try.prog.info? 4).map (fun i => (i.zero, i.size, i.bytes)) = some (some (.bool false), 1, 1) := by kernel_rfl
open Go.Shelf in
attribute [local go_sem] Oper.semAt_some in
set_option maxHeartbeats 4000000 in
theorem trim_in (k : Nat) (A : Option Addr) (c : Nat) (ops : List S109) (out : Int) (R : List S109) (P : List Int) (w : World) (hC : Kd.C k109 w A ops.length ops) (hc : ops.length ≤ c) (hok : impl_IsCode.f k ops out = some true) (hf : tcFit ops out) (hbd : tcBuild (tcNeed ops out) ops 0 [] [0] = some (R, P)) (hP : out < (P.length : Int)) :
    CallsIn Fence.wide 5 Try.prog 35 #[.agg #[.slice A ops.length c, .int .i64 out]] w fun e W' => ∃ v, e = .returned (.tuple #[.agg #[v, .int .i64 (rd P out)], .bool true]) ∧ Kd.R k109 109 W' w.heap.size (fun _ => True) v R ∧ Below w.heap.size w W' := by
  obtain ⟨i0, hi, hz0, hz1, hz2⟩ := info_parts tc_info
  have HOK := Go.Lib.hid hok
  have HCW := Go.Lib.hid hC
  have HLC := Go.Lib.hid hc
  have HF := Go.Lib.hid hf
  have HBD := Go.Lib.hid hbd
  have HPL := Go.Lib.hid hP
  have h120 : ops.length ≤ 120 := hf.1
  have ho0 : 0 ≤ out := hf.2.1
  have ho1 : out ≤ (ops.length : Int) := hf.2.2.1
  have ho2 : out < ((ops.length + 1 : Nat) : Int) := by omega
  have hwr : IntKind.i64.wrap ((ops.length : Int) + 1) = ((ops.length + 1 : Nat) : Int) := by rw [IntWalk.i64_in _ (by omega)]; omega
  clear hok hC hc hf hbd hP
  refine callsIn_of_wp_marks (F := Fence.wide) Try.func35 rfl trivial ?_ rfl
  refine wpIn_wide.2 ?_
  simp only [Try.ntmps35, List.size_toArray, List.length_cons, List.length_nil, Nat.reduceAdd, Nat.reduceSub, Array.replicate_succ, Array.replicate_zero, List.push_toArray, List.append_toArray, List.nil_append, List.cons_append]
  go_wp2_with (first
    | (go_at_call 54; refine (impl_IsCode.calls k A c ops out true _ (Kd.C_alloc (Kd.C_alloc HCW.out _) _) HLC.out HOK.out).mono ?_; rintro e w2 ⟨rfl, hb_⟩
       have hb2_ : Below w.heap.size w w2 := below_step (below_alloc (below_alloc (Below.refl _ w) _) _) hb_
       have hbc : w2.heap[w.heap.size]? = some (.cells #[.slice A ops.length c, .int .i64 out] 32 (0, 0)) := blk_below (blk_alloc (blk_new w _) _) hb_
       have hbo : w2.heap[w.heap.size + 1]? = some (.cells #[.slice none 0 0, .int .i64 0] 32 (0, 0)) := blk_below (by have := blk_new (w.alloc (.cells #[.slice A ops.length c, .int .i64 out] 32)) (.cells #[.slice none 0 0, .int .i64 0] 32); rw [World.size_alloc] at this; exact this) hb_
       have HB2 := Go.Lib.hid hb2_
       clear hb_ hb2_
       have hc0 : w2.cell? ⟨w.heap.size, 0, none⟩ = some (.slice A ops.length c) := (blk_cell hbc 0).trans rfl
       have hlt := blk_lt hbc
       have hb3 := blk_alloc (blk_new w2 (.cells (madeCells #[.bool false] (ops.length + 1)) 4)) (.cells #[.slice (some ⟨w2.heap.size, 0, none⟩) (ops.length + 1) (ops.length + 1)] 125)
       have hr_ : ((w2.alloc (.cells (madeCells #[.bool false] (ops.length + 1)) 4)).alloc (.cells #[.slice (some ⟨w2.heap.size, 0, none⟩) (ops.length + 1) (ops.length + 1)] 125)).cell? ⟨w2.heap.size, out.toNat, none⟩ = some (.bool false) := (blk_cell hb3 _).trans (tc_made (by omega))
       have hrf_ := blk_frozen hb3 out.toNat
       have hx1_ : ((w2.alloc (.cells (madeCells #[.bool false] (ops.length + 1)) 4)).alloc (.cells #[.slice (some ⟨w2.heap.size, 0, none⟩) (ops.length + 1) (ops.length + 1)] 125)).cell? ⟨w.heap.size, 1, none⟩ = some (.int .i64 out) := (blk_cell (blk_alloc (blk_alloc hbc _) _) 1).trans rfl
       have hx0_ : (((w2.alloc (.cells (madeCells #[.bool false] (ops.length + 1)) 4)).alloc (.cells #[.slice (some ⟨w2.heap.size, 0, none⟩) (ops.length + 1) (ops.length + 1)] 125)).setCell ⟨w2.heap.size, out.toNat, none⟩ (.bool true)).cell? ⟨w.heap.size, 0, none⟩ = some (.slice A ops.length c) := (blk_cell (blk_far (blk_alloc (blk_alloc hbc _) _) (Nat.ne_of_lt hlt) _) 0).trans rfl
       clear hb3)
    | (refine wpList_make_row _ rfl (.tmp 20) (.tmp 20) 125 rfl 4 i0 (.bool false) Try.underlying125 hi hz0 hz1 rfl .i64 .i64 (ops.length + 1) rfl rfl (by rw [hz2]; omega) (by omega) ?_)
    | (go_at_call 118; refine (backO_in _ _ _ _).mono ?_; rintro e w' ⟨rfl, rfl⟩))
  obtain ⟨W3, hW3⟩ : ∃ W3, (((w2.alloc (.cells ((madeCells #[.bool false] (ops.length + 1)).setIfInBounds out.toNat (.bool true)) 4)).alloc (.cells #[.slice (some ⟨w2.heap.size, 0, none⟩) (ops.length + 1) (ops.length + 1)] 125)).alloc (.cells #[.slice A ops.length c] 30)) = W3 := ⟨_, rfl⟩
  have hnd : (madeCells #[.bool false] (ops.length + 1)).setIfInBounds out.toNat (.bool true) = ((tcNd0 ops out).map Value.bool).toArray := by
    rw [tc_cells]
    refine Array.ext' ?_
    simp [tcNd0, List.map_set]
  have g0 : W3.heap[w2.heap.size]? = some (.cells ((tcNd0 ops out).map Value.bool).toArray 4 (0, 0)) := by
    rw [← hW3, ← hnd]
    exact blk_alloc (blk_alloc (blk_new w2 _) _) _
  have g1 : W3.heap[w2.heap.size + 1]? = some (.cells #[.slice (some ⟨w2.heap.size, 0, none⟩) (ops.length + 1) (ops.length + 1)] 125 (0, 0)) := by
    rw [← hW3]
    have := blk_new (w2.alloc (.cells ((madeCells #[.bool false] (ops.length + 1)).setIfInBounds out.toNat (.bool true)) 4)) (.cells #[.slice (some ⟨w2.heap.size, 0, none⟩) (ops.length + 1) (ops.length + 1)] 125)
    rw [World.size_alloc] at this
    exact blk_alloc this _
  have g2 : W3.heap[w2.heap.size + 1 + 1]? = some (.cells #[.slice A ops.length c] 30 (0, 0)) := by
    rw [← hW3]
    have := blk_new ((w2.alloc (.cells ((madeCells #[.bool false] (ops.length + 1)).setIfInBounds out.toNat (.bool true)) 4)).alloc (.cells #[.slice (some ⟨w2.heap.size, 0, none⟩) (ops.length + 1) (ops.length + 1)] 125)) (.cells #[.slice A ops.length c] 30)
    rw [World.size_alloc, World.size_alloc] at this
    exact this
  have gB : Below w2.heap.size w2 W3 := by
    rw [← hW3]
    exact (((Below.refl _ w2).alloc (Nat.le_refl _) _).alloc (by simp) _).alloc (by simp; omega) _
  have gs : W3.heap.size = w2.heap.size + 3 := by
    rw [← hW3]
    simp
  rw [hW3]
  clear hW3 hr_ hrf_ hx1_ hx0_ hnd
  refine (wpIn_wide (n := 5)).1 ?_
  refine wpIn_rangeFunc_ownH (F := Fence.wide) (n := 5) rfl (by omega) (gf := 197) (lb := #[.pointer (some ⟨w2.heap.size + 1 + 1, 0, none⟩)]) rfl trivial (enters_of Try.func197 (by kernel_rfl) rfl)
    (backO_stops Fence.wide (5 - 1) trivial rfl (by omega) (Subtype.val : TcP ops.length → Int × S109) (fun k => ⟨tcAt ops k, tc_ok HF.out k⟩) (w2.heap.size + 1 + 1) c A ops (fun _ => rfl) h120 w2 (Kd.C_below HCW.out HB2.out) W3 gB g2) YtlmoemahamneoaaBack.KeepB.trans (YtlmoemahamneoaaBack.keepB_b (by omega)) (Below.refl _ _) (fun _ => rfl)
    (fun pre W => (W.heap[w2.heap.size]? = some (.cells ((pre.foldl (fun nd p => tcMark nd p.1) (tcNd0 ops out)).map Value.bool).toArray 4 (0, 0)) ∧ W.heap[w2.heap.size + 1]? = some (.cells #[.slice (some ⟨w2.heap.size, 0, none⟩) (ops.length + 1) (ops.length + 1)] 125 (0, 0)) ∧ W.heap[w2.heap.size + 1 + 1]? = some (.cells #[.slice A ops.length c] 30 (0, 0))) ∧ Below w2.heap.size w2 W)
    (fun _ _ _ => False)
    (OwnFrom.and (OwnFrom.and (Own.from (tc_blkf_own _ (fun pre : List (TcP ops.length) => _) _) _) (OwnFrom.and (Own.from (tc_blk_own _ _ _) _) (Own.from (tc_blk_own _ _ _) _))) (ownFrom_below (Nat.le_refl _) (by omega)))
    (fun _ _ _ _ _ hs _ _ => hs)
    ⟨⟨g0, g1, g2⟩, gB⟩
    (fun x a' W => ∃ q, (w2.heap.size + 2 < q ∧ a' = { tmps := #[.agg #[.slice A ops.length c, .int .i64 out], .pointer (some ⟨w.heap.size, 0, none⟩), .pointer (some ⟨w.heap.size + 1, 0, none⟩), .bool false, .pointer (some ⟨w2.heap.size + 1, 0, none⟩), .int .i64 x.1.1, .pointer (some ⟨q, 0, none⟩), undef, undef, undef, undef, undef, undef, .agg #[.slice A ops.length c, .int .i64 out], .bool true, .bool false, undef, .pointer (some ⟨w.heap.size, 0, none⟩), .slice A ops.length c, .int .i64 (ops.length : Int), .int .i64 ((ops.length : Int) + 1), .slice (some ⟨w2.heap.size, 0, none⟩) (ops.length + 1) (ops.length + 1), .slice (some ⟨w2.heap.size, 0, none⟩) (ops.length + 1) (ops.length + 1), .pointer (some ⟨w.heap.size, 1, none⟩), .int .i64 out, .pointer (some ⟨w2.heap.size, out.toNat, none⟩), .pointer (some ⟨w.heap.size, 0, none⟩), .slice A ops.length c, .func (.func 197) #[] #[.pointer (some ⟨w2.heap.size + 1 + 1, 0, none⟩)], .int .i64 x.1.1, .agg #[.int .i64 x.1.2.f0, .int .i64 x.1.2.f1, .int .i64 x.1.2.f2], undef, undef, undef, undef, undef, undef, undef, undef, undef, undef, undef, undef, undef, undef, undef, undef, undef, undef, undef, undef, undef, undef, undef, undef, undef, undef, undef, undef, undef, undef, undef, undef, undef, undef, undef, undef, undef, undef, undef, undef, undef, undef, undef, undef, undef, undef, undef, undef, undef, undef, undef, undef, undef, undef, undef, undef, undef, undef, undef], defers := [] }) ∧ W.heap[q]? = some (.cells #[.int .i64 x.1.2.f0, .int .i64 x.1.2.f1, .int .i64 x.1.2.f2] 109 (0, 0)))
    (fun x a' s X Y row hs hg hr => by obtain ⟨q, h1, h2⟩ := hs; exact ⟨q, h1, tc_blk_own (β := Unit) q _ _ () X Y row h2 hg (fun r e => (hr r e).2)⟩) ?assign ?body ?done ?stop
  case assign =>
    intro l pre x W K hI hK
    have HK := Go.Lib.hid hK
    have HI := Go.Lib.hid hI
    clear hK hI
    gi_wp2
    exact HK.out _ _ ((KeepsOthers.alloc W _).from _) ⟨(Below.refl _ W).alloc HI.out.2.size _, fun _ _ _ e => blk_alloc e _⟩ ⟨⟨blk_alloc HI.out.1.1 _, blk_alloc HI.out.1.2.1 _, blk_alloc HI.out.1.2.2 _⟩, HI.out.2.alloc HI.out.2.size _⟩ ⟨W.heap.size, ⟨blk_lt HI.out.1.2.2, rfl⟩, blk_new W _⟩
  case body =>
    rintro l pre x a' W hl hl2 ⟨⟨i0_, i1_, i2_⟩, hB⟩ ⟨q, ⟨hq, rfl⟩, hbq⟩ hlt
    obtain ⟨⟨xi, f0, f1, f2⟩, hx0, hx⟩ := x
    dsimp only at hx0 hx hbq ⊢
    obtain ⟨i, rfl⟩ : ∃ i : Nat, xi = (i : Int) := ⟨xi.toNat, by omega⟩
    obtain ⟨nd, hnd⟩ : ∃ nd, pre.foldl (fun nd p => tcMark nd p.1) (tcNd0 ops out) = nd := ⟨_, rfl⟩
    have hnl : nd.length = ops.length + 1 := by rw [← hnd, tcPre_length]; simp [tcNd0]
    obtain ⟨V, hV⟩ : ∃ V, tcVals ⟨f0, f1, f2⟩ = V := ⟨_, rfl⟩
    have hval : impl_Op_values.f f0 f1 f2 = some V := by
      rw [← hV]
      unfold impl_Op_values.f tcVals
      by_cases h0 : f0 = 0
      · simp [h0]
      · by_cases h2 : f0 = 2
        · simp [h2]
        · simp [h0, h2]
    have HNEW := Go.Lib.hid (show (pre ++ [(⟨((i : Int), ⟨f0, f1, f2⟩), hx0, hx⟩ : TcP ops.length)]).foldl (fun nd p => tcMark nd p.1) (tcNd0 ops out) = V.foldl (tcOr i) nd by
      rw [List.foldl_append, hnd, List.foldl_cons, List.foldl_nil]
      show (tcVals ⟨f0, f1, f2⟩).foldl (tcOr (i : Int).toNat) nd = _
      rw [hV, Int.toNat_natCast])
    have HX := Go.Lib.hid (show ∀ v ∈ V, 0 ≤ v ∧ v ≤ (i : Int) ∧ (i : Int) < (ops.length : Int) by rw [← hV]; exact hx)
    have HV2 := Go.Lib.hid (show V.length ≤ 2 by rw [← hV]; exact tcVals_le _)
    rw [hnd] at i0_
    have hWs := blk_lt i2_
    have hb0 : W.cell? ⟨q, 0, none⟩ = some (.int .i64 f0) := (blk_cell hbq 0).trans rfl
    have hb1 : W.cell? ⟨q, 1, none⟩ = some (.int .i64 f1) := (blk_cell hbq 1).trans rfl
    have hb2 : W.cell? ⟨q, 2, none⟩ = some (.int .i64 f2) := (blk_cell hbq 2).trans rfl
    have I0 := Go.Lib.hid i0_
    have I1 := Go.Lib.hid i1_
    have I2 := Go.Lib.hid i2_
    have IB := Go.Lib.hid hB
    have HVAL := Go.Lib.hid hval
    have HNL := Go.Lib.hid hnl
    have hd1 : 1 ≤ 5 - 1 - 1 := by omega
    have hfn : Fence.wide.fn 103 := trivial
    clear hV hnd i0_ i1_ i2_ hB hval hl hl2 hlt hnl
    gi_wp2_with (gi_at_call 103; refine (CallsIn.inRound l (callsIn_wide.2 (impl_Op_values.calls f0 f1 f2 V _ HVAL.out))).mono ?_; rintro e w4 ⟨v, rfl, hR_, hb_⟩; have hown_ := Kd.own_of_R hR_; obtain ⟨Av, cv, rfl⟩ := Kd.R_slice hR_; have HO := Go.Lib.hid hown_; have HB4 := Go.Lib.hid hb_; clear hR_ hb_ hown_)
    gi_loopw [34] (fun s wr => ∃ j : Nat, s = .int .i64 (j : Int) ∧ j ≤ V.length ∧ wr.heap[w2.heap.size]? = some (.cells (((V.take j).foldl (tcOr i) nd).map Value.bool).toArray 4 (0, 0)) ∧ wr.heap[w2.heap.size + 1]? = some (.cells #[.slice (some ⟨w2.heap.size, 0, none⟩) (ops.length + 1) (ops.length + 1)] 125 (0, 0)) ∧ Aside0 (wr.heap[w2.heap.size + 1 + 1]? = some (.cells #[.slice A ops.length c] 30 (0, 0)) ∧ Below w2.heap.size w2 wr ∧ KeepsOthers W wr ∧ YtlmoemahamneoaaBack.KeepB w2.heap.size (w2.heap.size + 1 + 1) W wr) ∧ Aside0 (wr.ownsRow W.heap.size 3 1 (.slice Av V.length cv) V.length (V.map (Value.int .i64))))
      (fun s _ => V.length - (intOf s).toNat)
    case atStart =>
      exact ⟨0, rfl, Nat.zero_le _, by rw [List.take_zero]; exact blk_below I0.out HB4.out, blk_below I1.out HB4.out, ⟨⟨blk_below I2.out HB4.out, IB.out.trans (HB4.out.mono IB.out.size), KeepsOthers.of_grownBy (grown_of_below HB4.out none) (fun j o e => by cases e), HB4.out.mono IB.out.size, fun cs t fr e => blk_below e HB4.out⟩⟩, ⟨HO.out⟩⟩
    case round =>
      obtain ⟨j, rfl, hj, c0, c1, HQ, HR⟩ := hrel
      by_cases hlt : j < V.length
      · have hltz : (j : Int) < (V.length : Int) := by omega
        obtain ⟨r, hr⟩ : ∃ r, V.length = r + 1 := ⟨V.length - 1, by omega⟩
        obtain ⟨g, cap, hvf⟩ := ownsRow_succ (k := r) (by rw [← hr]; exact HR.out)
        rw [← hr] at hvf
        obtain ⟨rfl, rfl⟩ : Av = some ⟨g, 0, none⟩ ∧ cv = cap := by injection hvf with e1 _ e2; exact ⟨e1, e2⟩
        obtain ⟨x, hx_⟩ : ∃ x, V[j] = x := ⟨_, rfl⟩
        have hcx : wr.cell? ⟨g, j, none⟩ = some (.int .i64 x) := by
          rw [HR.out.cellAt j (by omega), List.getElem?_map, List.getElem?_eq_getElem hlt, hx_]; rfl
        obtain ⟨x0, x1, x2⟩ := HX.out x (by rw [← hx_]; exact List.getElem_mem hlt)
        obtain ⟨d, hd⟩ : ∃ d, (V.take j).foldl (tcOr i) nd = d := ⟨_, rfl⟩
        have hdl : d.length = ops.length + 1 := by rw [← hd, tcFold_length, HNL.out]
        have HND := Go.Lib.hid (show (V.take (j + 1)).foldl (tcOr i) nd = tcOr i d x by
          rw [List.take_succ_eq_append_getElem hlt, List.foldl_append, hd, hx_]; rfl)
        rw [hd] at c0
        obtain ⟨b1, hb1_⟩ : ∃ b, d.getD x.toNat false = b := ⟨_, rfl⟩
        obtain ⟨b2, hb2_⟩ : ∃ b, d.getD (i + 1) false = b := ⟨_, rfl⟩
        have hq1 : wr.cell? ⟨w2.heap.size + 1, 0, none⟩ = some (.slice (some ⟨w2.heap.size, 0, none⟩) (ops.length + 1) (ops.length + 1)) := (blk_cell c1 0).trans rfl
        have hq2 : wr.cell? ⟨w2.heap.size, x.toNat, none⟩ = some (.bool b1) := by rw [blk_cell c0, ← hb1_]; exact tc_get d _ (by omega)
        have hq3 : wr.cell? ⟨w2.heap.size, i + 1, none⟩ = some (.bool b2) := by rw [blk_cell c0, ← hb2_]; exact tc_get d _ (by omega)
        have hqf : wr.frozen? ⟨w2.heap.size, x.toNat, none⟩ = false := blk_frozen c0 _
        have HOR := Go.Lib.hid (show tcOr i d x = d.set x.toNat (b1 || b2) by rw [← hb1_, ← hb2_]; rfl)
        have C0 := Go.Lib.hid c0
        have C1 := Go.Lib.hid c1
        have HLT := Go.Lib.hid hlt
        have hi2 : IntKind.i64.wrap ((i : Int) + 1) = (i : Int) + 1 := IntWalk.i64_in _ (by omega)
        have hx5 : x < (ops.length : Int) + 1 := by omega
        have hx6 : (i : Int) + 1 < (ops.length : Int) + 1 := by omega
        have hx7 : (0 : Int) ≤ (i : Int) + 1 := by omega
        have hx8 : (i : Int) < (ops.length : Int) := by omega
        have hx9 : ((i : Int) + 1).toNat = i + 1 := by omega
        clear hd hdl hb1_ hb2_ c0 c1 hr hlt hx_ hvf
        gi_wp2
        refine Go.Proofs.Ytlmoemahamneoaa.StillIn.wpIn_region_still_tail 14 (by kernel_rfl) (by kernel_rfl) (by kernel_rfl) ?_
        simp only [List.take_succ_cons, List.take_zero, List.drop_succ_cons, List.drop_zero]
        change wpStill _ _ (World.drew _) _ _ _
        cases b1
        all_goals repeat still_step
        all_goals refine wpStill_nil ?_
        all_goals change wpListIn _ _ _ _ _ _ _ (World.drew _)
        all_goals gi_wp2
        · have T := tc_step rfl hWs b2 (x := x.toNat) C0.out C1.out HQ.out HR.out
          exact ⟨⟨j + 1, tc_wrap HLT.out HV2.out, HLT.out, by rw [HND.out, HOR.out, Bool.false_or]; exact T.1, T.2.1, ⟨T.2.2.1⟩, ⟨T.2.2.2⟩⟩, tc_meas HLT.out HV2.out⟩
        · have T := tc_step rfl hWs true (x := x.toNat) C0.out C1.out HQ.out HR.out
          exact ⟨⟨j + 1, tc_wrap HLT.out HV2.out, HLT.out, by rw [HND.out, HOR.out, Bool.true_or]; exact T.1, T.2.1, ⟨T.2.2.1⟩, ⟨T.2.2.2⟩⟩, tc_meas HLT.out HV2.out⟩
      · obtain rfl : j = V.length := by omega
        rw [List.take_length] at c0
        have C0 := Go.Lib.hid c0
        have C1 := Go.Lib.hid c1
        clear hlt c0 c1 hj
        gi_wp2
        exact ⟨HQ.out.2.2.1.from _, HQ.out.2.2.2, ⟨by rw [HNEW.out]; exact C0.out, C1.out, HQ.out.1⟩, HQ.out.2.1⟩
  case done =>
    rintro D ys W hD rfl ⟨⟨i0_, i1_, i2_⟩, hB⟩ hK
    rw [tc_need HF.out] at i0_
    obtain ⟨nd, hnd⟩ : ∃ nd, tcNeed ops out = nd := ⟨_, rfl⟩
    have HND := Go.Lib.hid hnd
    rw [hnd] at i0_
    have hnl : nd.length = ops.length + 1 := by rw [← hnd]; exact tcNeed_length _ _
    have bcW := blk_below hbc hB
    have boW := blk_below hbo hB
    have hx0 : ((W.alloc (.cells #[.int .i64 0] 3)).alloc (.cells #[.slice none 0 0, .int .i64 0] 32)).cell? ⟨w.heap.size, 0, none⟩ = some (.slice A ops.length c) := (blk_cell (blk_alloc (blk_alloc bcW _) _) 0).trans rfl
    have H0 := Go.Lib.hid i0_
    have H1 := Go.Lib.hid i1_
    have H2 := Go.Lib.hid hB
    have HK := Go.Lib.hid hK
    have HD := Go.Lib.hid hD
    have HBC := Go.Lib.hid bcW
    have HBO := Go.Lib.hid boW
    have HNL := Go.Lib.hid hnl
    have HN0 := Go.Lib.hid (show w2.heap.size + 2 < W.heap.size by have := blk_lt i2_; omega)
    have HWN := Go.Lib.hid (show w.heap.size + 1 < w2.heap.size from blk_lt hbo)
    clear i0_ i1_ i2_ hB hK hD bcW boW hbc hbo hnd hnl g0 g1 g2
    go_wp2
    go_loopw [10, 58] (fun v s wr => ∃ (i : Nat) (os : List S109) (pl : List Int) (u : Value), s = .int .i64 (i : Int) ∧ i ≤ ops.length ∧ wr.heap[W.heap.size + 1]? = some (.cells #[u, .int .i64 0] 32 (0, 0)) ∧ Aside0 (tcBuild nd (ops.drop i) i os pl = some (R, P)) ∧ Aside0 (os.length ≤ i ∧ pl.length = i + 1) ∧ Aside0 (Kd.R (Kd.int .i64) 3 wr W.heap.size (fun _ => True) v pl) ∧ Aside0 (Kd.R k109 109 wr W.heap.size (fun _ => True) u os) ∧ Aside0 (Below W.heap.size W wr))
      (fun _ s _ => ops.length - (intOf s).toNat)
    case atStart =>
      refine ⟨0, [], [0], _, rfl, Nat.zero_le _, (by have := blk_new (W.alloc (.cells #[.int .i64 0] 3)) (.cells #[.slice none 0 0, .int .i64 0] 32); rw [World.size_alloc] at this; exact this), ⟨by rw [HND.out.symm]; exact HBD.out⟩, ⟨Nat.le_refl _, rfl⟩, ⟨Kd.R_alloc (tc_lit W) _⟩, ⟨Kd.R_nil _ _ _ _ _⟩, ⟨((Below.refl _ W).alloc (Nat.le_refl _) _).alloc (by simp) _⟩⟩
    case round =>
      obtain ⟨i, os, pl, u, rfl, hi, hbx, HBU, HLN, HPR, HOR, HBW⟩ := hrel
      by_cases hlt : i < ops.length
      · obtain ⟨o, ho⟩ : ∃ o, ops[i] = o := ⟨_, rfl⟩
        have hbu := HBU.out
        rw [List.drop_eq_getElem_cons hlt, ho] at hbu
        unfold tcBuild at hbu
        have hltz : (i : Int) < (ops.length : Int) := by omega
        have hB2 : Below w2.heap.size w2 wr := below_step H2.out HBW.out
        obtain ⟨ad, e, hx0, hx1, hx2⟩ := at_T109 (Kd.C_below HCW.out (below_step HB2.out hB2)) (i : Int) (by omega) hltz
        have hrd : rd_T109 ops (i : Int) = o := by
          unfold rd_T109
          rw [Int.toNat_natCast, List.getD_eq_getElem?_getD, List.getElem?_eq_getElem hlt]; exact ho
        rw [hrd, Int.toNat_natCast] at hx0 hx1 hx2
        subst e
        obtain ⟨f0, f1, f2⟩ := o
        dsimp only at hx0 hx1 hx2 hbu
        obtain ⟨b, hb⟩ : ∃ b, nd.getD (i + 1) false = b := ⟨_, rfl⟩
        rw [hb] at hbu
        have c0 := blk_below H0.out HBW.out
        have c1 := blk_below H1.out HBW.out
        have hq1 : (wr.alloc (.cells #[.int .i64 f0, .int .i64 f1, .int .i64 f2] 109)).cell? ⟨w2.heap.size + 1, 0, none⟩ = some (.slice (some ⟨w2.heap.size, 0, none⟩) (ops.length + 1) (ops.length + 1)) := (blk_cell (blk_alloc c1 _) 0).trans rfl
        have hq2 : (wr.alloc (.cells #[.int .i64 f0, .int .i64 f1, .int .i64 f2] 109)).cell? ⟨w2.heap.size, i + 1, none⟩ = some (.bool b) := by rw [blk_cell (blk_alloc c0 _), ← hb]; exact tc_get nd _ (by rw [HNL.out]; omega)
        have hi2 : IntKind.i64.wrap ((i : Int) + 1) = (i : Int) + 1 := IntWalk.i64_in _ (by omega)
        have hx6 : (i : Int) + 1 < (ops.length : Int) + 1 := by omega
        have hx7 : (0 : Int) ≤ (i : Int) + 1 := by omega
        have hx9 : ((i : Int) + 1).toNat = i + 1 := by omega
        have HBX := Go.Lib.hid hbx
        have HI := Go.Lib.hid hlt
        obtain ⟨Au, cu, eu⟩ := Kd.R_slice HOR.out
        subst eu
        have hq5 : (wr.alloc (.cells #[.int .i64 f0, .int .i64 f1, .int .i64 f2] 109)).cell? ⟨W.heap.size + 1, 0, none⟩ = some (.slice Au os.length cu) := (blk_cell (blk_alloc hbx _) 0).trans rfl
        have hsz : W.heap.size ≤ wr.heap.size := HBW.out.size
        have hl8 : (pl.length + 1) * 8 ≤ 140737488355328 := by have := HLN.out; omega
        clear hbx hb c0 c1 HBU hB2 hrd ho hi hlt
        go_wp2_with ((with_reducible refine gate_dst (N := 63) rfl ?_); refine tc_hold ?_)
        unfold TcHold
        have hbl : Below wr.heap.size wr (wr.alloc (.cells #[.int .i64 f0, .int .i64 f1, .int .i64 f2] 109)) := below_alloc (Below.refl _ _) _
        have hbo := blk_new wr (.cells #[.int .i64 f0, .int .i64 f1, .int .i64 f2] 109)
        have hbx5 := blk_alloc HBX.out (.cells #[.int .i64 f0, .int .i64 f1, .int .i64 f2] 109)
        obtain ⟨w5, hw5⟩ : ∃ w5, wr.alloc (.cells #[.int .i64 f0, .int .i64 f1, .int .i64 f2] 109) = w5 := ⟨_, rfl⟩
        rw [hw5] at hq1 hq2 hq5 hbl hbo hbx5 ⊢
        clear hw5
        obtain ⟨q, hqq⟩ : ∃ q, wr.heap.size = q := ⟨_, rfl⟩
        have HQL := Go.Lib.hid hqq
        rw [hqq] at hbo ⊢
        have BW := Aside0.mk (HBW.out.trans (hbl.mono hsz))
        have OR := Aside0.mk (Kd.R_below HOR.out hbl)
        have PR := Aside0.mk (Kd.R_below HPR.out hbl)
        have BX := Aside0.mk hbx5
        have BO := Aside0.mk hbo
        clear hbl hbo hbx5 hqq HBX HBW HPR
        cases b with
        | false =>
          rw [if_neg (by decide)] at hbu
          have HBU := Go.Lib.hid hbu
          clear hbu
          go_wp2_with (at_builtin; refine Kd.R_append (Kd.int .i64) (w0 := W) W.heap.size rfl (.tmp 76) (.tmp 80) 29 3 (.int .i64 0) 8 rfl Try.underlying29 info3 rfl (by decide) (by decide) u10 pl ((os.length : Int)) [.int .i64 ((os.length : Int))] (fun _ => True) (fun _ => False) rfl rfl ?aP (fun _ hk => hk.elim) ?aF ?aO ?aB ?aS hl8 ?_; (case aP => exact rfl); (case aF => exact (fun _ _ => trivial)); (case aO => exact PR.out); (case aB => exact BW.out); (case aS => exact BW.out.size); intro v1 w1 ho_ hb_ hg_ hat_; have N1 := Aside0.mk ho_; have N2 := Aside0.mk hb_; have N3 := Aside0.mk (Kd.R_over' OR.out (Kd.R_typed PR.out) (by decide) hg_); have N4 := Aside0.mk (blk_grown BX.out hg_ (Kd.R_ne PR.out BX.out (by decide))); clear ho_ hb_ hg_ hat_)
          go_roundw
          case rel => exact ⟨i + 1, os, _, _, by go_num, HI.out, N4.out, ⟨HBU.out⟩, ⟨by have := HLN.out; omega, by have := HLN.out; rw [List.length_append]; simp; omega⟩, ⟨N1.out⟩, ⟨N3.out⟩, ⟨N2.out⟩⟩
          case measure => have := HI.out; simp only [intOf]; first | (go_num; done) | (go_num; omega)
        | true =>
          rw [if_pos rfl] at hbu
          obtain ⟨⟨r1, r2, r3⟩, hm, hbu⟩ := Option.bind_eq_some_iff.mp hbu
          dsimp only at hbu
          have HM := Go.Lib.hid hm
          have HBU := Go.Lib.hid hbu
          obtain ⟨Ap, cp, ep⟩ := Kd.R_slice PR.out
          subst ep
          clear hbu hm
          have hl24 : (os.length + 1) * 24 ≤ 140737488355328 := by have := HLN.out; have := HI.out; omega
          have HNE := Aside0.mk (show some q ≠ (Value.slice Au os.length cu).ownBlock from fun e => by obtain ⟨_, ho⟩ := Kd.R_own HOR.out; have := own_lt ho q e.symm; have := HQL.out; omega)
          go_wp2
          refine wp_region_noPanic ?_
          refine start_ (n := 9) (S := fun w' => w'.cell? ⟨W.heap.size + 1, 0, none⟩ = some (.slice Au os.length cu) ∧ w'.cell? ⟨q, 0, none⟩ = some (.int .i64 f0) ∧ w'.cell? ⟨q, 1, none⟩ = some (.int .i64 f1) ∧ w'.cell? ⟨q, 2, none⟩ = some (.int .i64 f2)) (ds := [8]) #[false, false, false, false, false, false, false, false, false] (by kernel_rfl) rfl rfl ⟨(blk_cell BX.out 0).trans rfl, (blk_cell BO.out 0).trans rfl, (blk_cell BO.out 1).trans rfl, (blk_cell BO.out 2).trans rfl⟩ (fun hHeld => ?_); refine with_tabW tc_tab18 tc_bits18 (fun HT_ HW_ => ?_)
          have n1_ := Aside0.mk (Kd.R_drew OR.out)
          have n2_ := Aside0.mk (Kd.R_drew PR.out)
          have n3_ := Aside0.mk (blk_drew BX.out)
          have n4_ := Aside0.mk (blk_drew BO.out)
          have n5_ := Aside0.mk (below_drew BW.out)
          clear OR PR BX BO BW
          have OR := n1_
          have PR := n2_
          have BX := n3_
          have BO := n4_
          have BW := n5_
          clear n1_ n2_ n3_ n4_ n5_
          generalize w5.drew = w6 at OR PR BX BO BW hHeld ⊢
          refine pure_ (i := 0) (N := some 68) (v := ?_) (a' := ?_) #[true, false, false, false, false, false, false, false, false] rfl rfl (any_of HT_.out (by kernel_rfl)) (fun _ _ _ h => h) (Or.inl ⟨by rfl, ?_⟩) ?_ ?_
          rotate_left
          · intro w'
            go_simp
            with_reducible rfl
          rotate_left
          · simp only [Act.put, List.setIfInBounds_toArray, List.set_cons_zero, List.set_cons_succ, i64_w, i32_w]
            rfl
          refine pure_ (i := 3) (N := some 71) (v := ?_) (a' := ?_) #[true, false, false, true, false, false, false, false, false] rfl rfl (any_of HT_.out (by kernel_rfl)) (fun _ _ _ h => h) (Or.inl ⟨by rfl, ?_⟩) ?_ ?_
          rotate_left
          · intro w'
            go_simp
            with_reducible rfl
          rotate_left
          · simp only [Act.put, List.setIfInBounds_toArray, List.set_cons_zero, List.set_cons_succ, i64_w, i32_w]
            rfl
          refine take_ (i := 1) (N := some 69) (v := ?_) (a' := ?_) #[true, true, false, true, false, false, false, false, false] rfl rfl (take_ofW HT_.out HW_.out (by kernel_rfl)) (fun _ _ _ h => h) (Or.inl ⟨by rfl, ?_⟩) hHeld ?_ ?_
          rotate_left
          · rintro w' ⟨s0, s2, s3, s4⟩
            go_simp
            with_reducible rfl
          rotate_left
          · simp only [Act.put, List.setIfInBounds_toArray, List.set_cons_zero, List.set_cons_succ, i64_w, i32_w]
            rfl
          refine take_ (i := 2) (N := some 70) (v := ?_) (a' := ?_) #[true, true, true, true, false, false, false, false, false] rfl rfl (take_ofW HT_.out HW_.out (by kernel_rfl)) (fun _ _ _ h => h) (Or.inl ⟨by rfl, ?_⟩) hHeld ?_ ?_
          rotate_left
          · rintro w' ⟨s0, s2, s3, s4⟩
            go_simp
            with_reducible rfl
          rotate_left
          · simp only [Act.put, List.setIfInBounds_toArray, List.set_cons_zero, List.set_cons_succ, i64_w, i32_w]
            rfl
          refine one_ (i := 4) (N := some 72) #[true, true, true, true, true, false, false, false, false] rfl rfl (one_of HT_.out (by kernel_rfl)) (by decide) (fun K hK => ?_)
          refine goes_ Try.func119 (by kernel_rfl) rfl #[.agg #[.int .i64 f0, .int .i64 f1, .int .i64 f2], .slice Ap pl.length cp] (by rfl) rfl rfl (by (try simp only [List.map_toArray, List.map_cons, List.map_nil]); first | done | rfl) ?_
          with_reducible refine (impl_Op_moved.calls f0 f1 f2 _ _ pl r1 r2 r3 _ (Kd.R_reads' PR.out).2.2 (Kd.R_reads' PR.out).2.1 HM.out).mono ?_
          rintro e w7 ⟨rfl, hb⟩
          refine ⟨_, rfl, ?_⟩
          have n1_ := Aside0.mk (Kd.R_below OR.out hb)
          have n2_ := Aside0.mk (Kd.R_below PR.out hb)
          have n3_ := Aside0.mk (blk_below BX.out hb)
          have n4_ := Aside0.mk (blk_below BO.out hb)
          have n5_ := Aside0.mk (BW.out.trans (hb.mono BW.out.size))
          clear OR PR BX BO BW hb
          have OR := n1_
          have PR := n2_
          have BX := n3_
          have BO := n4_
          have BW := n5_
          clear n1_ n2_ n3_ n4_ n5_
          refine hK.out _ _ ⟨(blk_cell BX.out 0).trans rfl, (blk_cell BO.out 0).trans rfl, (blk_cell BO.out 1).trans rfl, (blk_cell BO.out 2).trans rfl⟩ (fun hHeld => ?_)
          clear hK K
          refine norm_ (a' := ?_) ?_ ?_
          rotate_left
          · show Act.put _ (some 72) _ = _
            simp only [Act.put, List.setIfInBounds_toArray, List.set_cons_zero, List.set_cons_succ, i64_w, i32_w]
            rfl
          refine one_ (i := 5) (N := some 73) #[true, true, true, true, true, true, false, false, false] rfl rfl (one_of HT_.out (by kernel_rfl)) (by decide) (fun K hK => ?_)
          refine value_ (w1 := ?_) (v := ?_) (by rfl) rfl ?_ ?_
          rotate_left 2
          · go_simp
            constructor
            · rfl
            · rfl
          refine hK.out _ _ ⟨(blk_cell (blk_alloc BX.out _) 0).trans rfl, (blk_cell (blk_alloc BO.out _) 0).trans rfl, (blk_cell (blk_alloc BO.out _) 1).trans rfl, (blk_cell (blk_alloc BO.out _) 2).trans rfl⟩ (fun hHeld => ?_)
          clear hK K
          refine norm_ (a' := ?_) ?_ ?_
          rotate_left
          · show Act.put _ (some 73) _ = _
            simp only [Act.put, List.setIfInBounds_toArray, List.set_cons_zero, List.set_cons_succ, i64_w, i32_w]
            rfl
          refine one_ (i := 6) (N := some 74) #[true, true, true, true, true, true, true, false, false] rfl rfl (one_of HT_.out (by kernel_rfl)) (by decide) (fun K hK => ?_)
          refine Kd.R_append_step k109 (w0 := W) W.heap.size (by rfl) (.tmp 69) (.tmp 73) 30 109 (.agg #[(.int .i64 0), (.int .i64 0), (.int .i64 0)]) 24 rfl Try.underlying30 info109 rfl (by decide) (by decide) (.slice Au os.length cu) os (⟨r1, r2, r3⟩ : S109) [.int .i64 r1, .int .i64 r2, .int .i64 r3] (fun _ => True) (fun _ => False) rfl rfl ?aP (fun _ hk => hk.elim) ?aF ?aO ?aB ?aS hl24 ?_
          (case aP => exact k109_mkM _ _ _ (⟨r1, r2, r3⟩ : S109))
          (case aF => exact fun _ _ => trivial)
          (case aO => exact OR.out)
          (case aB => exact BW.out)
          (case aS => exact BW.out.size)
          intro v8 w8 ho hb hg hat
          have n1_ := Aside0.mk ho
          have n2_ := Aside0.mk (Kd.R_over' PR.out (Kd.R_typed OR.out) (by decide) hg)
          have n3_ := Aside0.mk (blk_grown BX.out hg (Kd.R_ne OR.out BX.out (by decide)))
          have n4_ := Aside0.mk (blk_grown BO.out hg HNE.out)
          have n5_ := Aside0.mk hb
          clear OR PR BX BO BW ho hb hg hat
          have OR := n1_
          have PR := n2_
          have BX := n3_
          have BO := n4_
          have BW := n5_
          clear n1_ n2_ n3_ n4_ n5_
          obtain ⟨os2, hos2⟩ : ∃ os2, os ++ [(⟨r1, r2, r3⟩ : S109)] = os2 := ⟨_, rfl⟩
          have HO2 := Go.Lib.hid hos2
          rw [hos2] at OR
          clear hos2
          obtain ⟨Ao, co, eo⟩ := Kd.R_slice OR.out
          subst eo
          refine hK.out _ _ ⟨(blk_cell BX.out 0).trans rfl, (blk_cell BO.out 0).trans rfl, (blk_cell BO.out 1).trans rfl, (blk_cell BO.out 2).trans rfl⟩ (fun hHeld => ?_)
          clear hK K
          refine norm_ (a' := ?_) ?_ ?_
          rotate_left
          · show Act.put _ (some 74) _ = _
            simp only [Act.put, List.setIfInBounds_toArray, List.set_cons_zero, List.set_cons_succ, i64_w, i32_w]
            rfl
          refine pure_ (i := 7) (N := some 75) (v := ?_) (a' := ?_) #[true, true, true, true, true, true, true, true, false] rfl rfl (any_of HT_.out (by kernel_rfl)) (fun _ _ _ h => h) (Or.inl ⟨by rfl, ?_⟩) ?_ ?_
          rotate_left
          · intro w'
            go_simp
            with_reducible rfl
          rotate_left
          · simp only [Act.put, List.setIfInBounds_toArray, List.set_cons_zero, List.set_cons_succ, i64_w, i32_w]
            rfl
          refine last_ (i := 8) (N := none) #[true, true, true, true, true, true, true, true, true] rfl rfl (one_of HT_.out (by kernel_rfl)) (by decide) (fun K hK => ?_)
          have hs_ : w8.cell? ⟨W.heap.size + 1, 0, none⟩ = some (.slice Au os.length cu) := (blk_cell BX.out 0).trans rfl
          have hfs_ := blk_frozen BX.out 0
          refine skip_ (w1 := ?_) (by rfl) rfl ?_ ?_
          rotate_left
          · go_simp
            rfl
          refine hK.out _ _ ?_
          clear hK K
          refine done_ (done_of HT_.out (by kernel_rfl)) ?_
          refine NoPanic.normal ?_
          have n1_ := Aside0.mk (Kd.R_mono (ok' := fun _ => True) (Kd.R_far (p := ⟨W.heap.size + 1, 0, none⟩) (Kd.R_types OR.out BX.out (by decide)) (fun _ hk => hk.2) (.slice Ao os2.length co)) (fun _ hk => trivial))
          have n2_ := Aside0.mk (Kd.R_mono (ok' := fun _ => True) (Kd.R_far (p := ⟨W.heap.size + 1, 0, none⟩) (Kd.R_types PR.out BX.out (by decide)) (fun _ hk => hk.2) (.slice Ao os2.length co)) (fun _ hk => trivial))
          have n3_ := Aside0.mk (blk_put BX.out 0 (.slice Ao os2.length co) rfl)
          have n5_ := Aside0.mk (BW.out.setCell (p := ⟨W.heap.size + 1, 0, none⟩) (Nat.le_succ _) (.slice Ao os2.length co))
          clear OR PR BX BO BW hs_ hfs_ hHeld
          have OR := n1_
          have PR := n2_
          have BX := n3_
          have BW := n5_
          clear n1_ n2_ n3_ n5_ hq1 hq2 hq5
          generalize w8.setCell ⟨W.heap.size + 1, 0, none⟩ (.slice Ao os2.length co) = w9 at OR PR BX BW ⊢
          have hq6 : w9.cell? ⟨W.heap.size + 1, 0, none⟩ = some (.slice Ao os2.length co) := (blk_cell BX.out 0).trans rfl
          go_wp2_with (at_builtin; refine Kd.R_append (Kd.int .i64) (w0 := W) W.heap.size rfl (.tmp 76) (.tmp 80) 29 3 (.int .i64 0) 8 rfl Try.underlying29 info3 rfl (by decide) (by decide) (.slice Ap pl.length cp) pl (os2.length : Int) [.int .i64 (os2.length : Int)] (fun _ => True) (fun _ => False) rfl rfl ?aP (fun _ hk => hk.elim) ?aF ?aO ?aB ?aS hl8 ?_; (case aP => exact rfl); (case aF => exact (fun _ _ => trivial)); (case aO => exact PR.out); (case aB => exact BW.out); (case aS => exact BW.out.size); intro v1 w1 ho_ hb_ hg_ hat_; have N1 := Aside0.mk ho_; have N2 := Aside0.mk hb_; have N3 := Aside0.mk (Kd.R_over' OR.out (Kd.R_typed PR.out) (by decide) hg_); have N4 := Aside0.mk (blk_grown BX.out hg_ (Kd.R_ne PR.out BX.out (by decide))); clear ho_ hb_ hg_ hat_)
          go_roundw
          case rel => exact ⟨i + 1, os2, _, _, by go_num, HI.out, N4.out, ⟨by rw [← HO2.out, List.length_append]; exact HBU.out⟩, ⟨by have := HLN.out; rw [← HO2.out, List.length_append]; simp; omega, by have := HLN.out; rw [List.length_append]; simp; omega⟩, ⟨N1.out⟩, ⟨N3.out⟩, ⟨N2.out⟩⟩
          case measure => have := HI.out; simp only [intOf]; first | (go_num; done) | (go_num; omega)
      · obtain rfl : i = ops.length := by omega
        have hbu := HBU.out
        rw [List.drop_length] at hbu
        unfold tcBuild at hbu
        simp only [Option.some.injEq, Prod.mk.injEq] at hbu
        obtain ⟨rfl, rfl⟩ := hbu
        obtain ⟨Ap, cp, ep⟩ := Kd.R_slice HPR.out
        subst ep
        obtain ⟨Ao, co, eo⟩ := Kd.R_slice HOR.out
        subst eo
        have hp1 := HPL.out
        obtain ⟨ad, e, hpc⟩ := Kd.at_int (Kd.R_reads' HPR.out).2.2 out ho0 hp1
        subst e
        have bcW := blk_below HBC.out HBW.out
        have boW := blk_below HBO.out HBW.out
        have hq1 : wr.cell? ⟨w.heap.size, 1, none⟩ = some (.int .i64 out) := (blk_cell bcW 1).trans rfl
        have hq2 : wr.cell? ⟨W.heap.size + 1, 0, none⟩ = some (.slice Ao os.length co) := (blk_cell hbx 0).trans rfl
        have hq3 : wr.cell? ⟨W.heap.size + 1, 1, none⟩ = some (.int .i64 0) := (blk_cell hbx 1).trans rfl
        have hf3 : wr.frozen? ⟨W.heap.size + 1, 1, none⟩ = false := blk_frozen hbx 1
        have bx2 := blk_put hbx 1 (.int .i64 (rd pl out)) rfl
        have hne1 : W.heap.size + 1 ≠ w.heap.size + 1 := by have := HN0.out; have := HWN.out; omega
        have bo2 := blk_far (p := ⟨W.heap.size + 1, 1, none⟩) boW (fun e => hne1 e.symm) (.int .i64 (rd pl out))
        have HBX := Go.Lib.hid hbx
        have HBU2 := Go.Lib.hid bx2
        have HBO2 := Go.Lib.hid bo2
        clear hbx bcW boW bx2 bo2 HBU
        go_wp2_with ((with_reducible refine gate_dst (N := 89) rfl ?_); refine tc_hold ?_)
        unfold TcHold
        have RR := Aside0.mk (Kd.R_mono (ok' := fun _ => True) (Kd.R_far (p := ⟨W.heap.size + 1, 1, none⟩) (Kd.R_types HOR.out HBX.out (by decide)) (fun _ hk => hk.2) (.int .i64 (rd pl out))) (fun _ hk => trivial))
        have BW := Aside0.mk (HBW.out.setCell (p := ⟨W.heap.size + 1, 1, none⟩) (Nat.le_succ _) (.int .i64 (rd pl out)))
        have hDlt : D < W.heap.size := (Array.getElem?_eq_some_iff.1 HK.out).1
        have hD1 : D ≠ w.heap.size + 1 := by have := HD.out; have := HWN.out; omega
        have HDW := Go.Lib.hid (show (wr.setCell ⟨W.heap.size + 1, 1, none⟩ (.int .i64 (rd pl out))).heap[D]? = some (.deferred (some [])) from (Below.heap_setCell _ ⟨W.heap.size + 1, 1, none⟩ _ D (by show D ≠ W.heap.size + 1; omega)).trans (blk_below HK.out HBW.out))
        clear HBW HOR hq1 hq2 hq3 hf3 hx0 HPR hpc
        obtain ⟨w6, hw6⟩ : ∃ w6, wr.setCell ⟨W.heap.size + 1, 1, none⟩ (.int .i64 (rd pl out)) = w6 := ⟨_, rfl⟩
        rw [hw6] at HBU2 HBO2 RR BW HDW ⊢
        clear hw6
        have hq2 : w6.cell? ⟨W.heap.size + 1, 0, none⟩ = some (.slice Ao os.length co) := (blk_cell HBU2.out 0).trans rfl
        have hq3 : w6.cell? ⟨W.heap.size + 1, 1, none⟩ = some (.int .i64 (rd pl out)) := (blk_cell HBU2.out 1).trans rfl
        have hs0 : w6.cell? ⟨w.heap.size + 1, 0, none⟩ = some (.slice none 0 0) := (blk_cell HBO2.out 0).trans rfl
        have hs1 : w6.cell? ⟨w.heap.size + 1, 1, none⟩ = some (.int .i64 0) := (blk_cell HBO2.out 1).trans rfl
        have hf0 : w6.frozen? ⟨w.heap.size + 1, 0, none⟩ = false := blk_frozen HBO2.out 0
        have hf1 : w6.frozen? ⟨w.heap.size + 1, 1, none⟩ = false := blk_frozen HBO2.out 1
        have HBS := Go.Lib.hid (blk_put (blk_put HBO2.out 0 (.slice Ao os.length co) rfl) 1 (.int .i64 (rd pl out)) rfl)
        have HKD := Go.Lib.hid (show ((w6.setCell ⟨w.heap.size + 1, 0, none⟩ (.slice Ao os.length co)).setCell ⟨w.heap.size + 1, 1, none⟩ (.int .i64 (rd pl out))).heap[D]? = some (.deferred (some [])) from (Below.heap_setCell _ ⟨w.heap.size + 1, 1, none⟩ _ D hD1).trans ((Below.heap_setCell _ ⟨w.heap.size + 1, 0, none⟩ _ D hD1).trans HDW.out))
        go_wp2
        refine ⟨by simp, .inl ⟨_, _, rfl, run_takeDeferred HKD.out, ?_⟩⟩
        have HB8 := Below.setCell (Below.setCell (below_step HB2.out (below_step H2.out BW.out)) (p := ⟨w.heap.size + 1, 0, none⟩) (Nat.le_succ _) (.slice Ao os.length co)) (p := ⟨w.heap.size + 1, 1, none⟩) (Nat.le_succ _) (.int .i64 (rd pl out))
        have hDg : w.heap.size ≤ D := by have := HD.out; have := HWN.out; omega
        refine ⟨_, results_ct rfl _ _ (w.heap.size + 1) 32 #[.slice Ao os.length co, .int .i64 (rd pl out)] (0, 0) _ rfl (((grownBy_putObj' _ D (.deferred none)).block _ (blk_lt HBS.out) (fun e => by injection e with e; exact hD1 e.symm)).trans HBS.out) Try.underlying32 rfl (by kernel_rfl), .slice Ao os.length co, rfl, ?_, HB8.trans (belowK_b (w := w) (Nat.le_refl _) _ D _ _ hDg HKD.out rfl rfl)⟩
        refine tc_R RR.out (by have := HN0.out; have := HWN.out; omega) (fun k hk hks => ?_)
        refine ((grownBy_putObj' _ D (.deferred none)).block k ?_ ?_).trans ((Below.heap_setCell _ ⟨w.heap.size + 1, 1, none⟩ _ k ?_).trans (Below.heap_setCell _ ⟨w.heap.size + 1, 0, none⟩ _ k ?_))
        · obtain ⟨cells, q, hc⟩ := hks
          have := blk_lt hc
          simpa using this
        · intro e
          injection e with e
          subst e
          obtain ⟨cells, q, hc⟩ := hks
          rw [HDW.out] at hc
          cases hc
        · show k ≠ w.heap.size + 1
          have := HN0.out; have := HWN.out; omega
        · show k ≠ w.heap.size + 1
          have := HN0.out; have := HWN.out; omega
  case stop =>
    rintro D c pre W _ _ h _
    exact h.elim
set_option maxHeartbeats 4000000 in
theorem trim_no (k : Nat) (A : Option Addr) (c : Nat) (ops : List S109) (out : Int) (w : World) (hC : Kd.C k109 w A ops.length ops) (hc : ops.length ≤ c) (hok : impl_IsCode.f k ops out = some false) :
    Calls Try.prog 35 #[.agg #[.slice A ops.length c, .int .i64 out]] w fun e W' => ∃ v, e = .returned (.tuple #[.agg #[v, .int .i64 0], .bool false]) ∧ Kd.R k109 109 W' w.heap.size (fun _ => True) v [] ∧ Below w.heap.size w W' := by
  have HOK := Go.Lib.hid hok
  have HCW := Go.Lib.hid hC
  have HLC := Go.Lib.hid hc
  clear hok hC hc
  go_enter Try.func35, Try.ntmps35
  go_wp2_with (first
    | (go_at_call 54; refine (impl_IsCode.calls k A c ops out false _ (Kd.C_alloc (Kd.C_alloc HCW.out _) _) HLC.out HOK.out).mono ?_; rintro e w2 ⟨rfl, hb_⟩
       have hb2_ : Below w.heap.size w w2 := below_step (below_alloc (below_alloc (Below.refl _ w) _) _) hb_
       have hbc : w2.heap[w.heap.size]? = some (.cells #[.slice A ops.length c, .int .i64 out] 32 (0, 0)) := blk_below (blk_alloc (blk_new w _) _) hb_
       have hbo : w2.heap[w.heap.size + 1]? = some (.cells #[.slice none 0 0, .int .i64 0] 32 (0, 0)) := blk_below (by have := blk_new (w.alloc (.cells #[.slice A ops.length c, .int .i64 out] 32)) (.cells #[.slice none 0 0, .int .i64 0] 32); rw [World.size_alloc] at this; exact this) hb_
       have HB2 := Go.Lib.hid hb2_
       have HBO := Go.Lib.hid hbo
       clear hb_ hb2_ hbc
       have hs0 : w2.cell? ⟨w.heap.size + 1, 0, none⟩ = some (.slice none 0 0) := (blk_cell hbo 0).trans rfl
       have hs1 : w2.cell? ⟨w.heap.size + 1, 1, none⟩ = some (.int .i64 0) := (blk_cell hbo 1).trans rfl
       have hf0 : w2.frozen? ⟨w.heap.size + 1, 0, none⟩ = false := blk_frozen hbo 0
       have hf1 : w2.frozen? ⟨w.heap.size + 1, 1, none⟩ = false := blk_frozen hbo 1))
  refine bodyPost_ret (results_ct rfl _ _ (w.heap.size + 1) 32 #[.slice none 0 0, .int .i64 0] (0, 0) _ rfl (blk_put (blk_put HBO.out 0 _ rfl) 1 _ rfl) Try.underlying32 rfl (by kernel_rfl)) rfl ?_
  exact ⟨_, rfl, Kd.R_nil _ _ _ _ _, Below.setCell (Below.setCell HB2.out (p := ⟨w.heap.size + 1, 0, none⟩) (Nat.le_succ _) _) (p := ⟨w.heap.size + 1, 1, none⟩) (Nat.le_succ _) _⟩
end
theorem impl_TrimCode.calls (k : Nat) (A0_0 : Option Addr) (c0_0 : Nat) (l0_0 : List (S109)) (a0_1 : Int) (r1 : List (S109)) (r2 : Int) (r3 : Bool) (w : World) (hr0_0 : Kd.C k109 w A0_0 l0_0.length l0_0) (hc0_0 : l0_0.length ≤ c0_0) (h : impl_TrimCode.f k l0_0 a0_1 = some (r1, r2, r3)) :
    Calls Try.prog 35 #[.agg #[.slice A0_0 l0_0.length c0_0, .int .i64 a0_1]] w fun e w' => ∃ v0_ : Value, e = .returned (.tuple #[.agg #[v0_, .int .i64 r2], .bool r3]) ∧ Kd.R k109 109 w' w.heap.size (fun _ => True) v0_ r1 ∧ Below w.heap.size w w' := by
  unfold impl_TrimCode.f at h
  obtain ⟨ok, hok, h⟩ := Option.bind_eq_some_iff.mp h
  cases ok with
  | false =>
    rw [if_neg (by decide)] at h
    simp only [Option.some.injEq, Prod.mk.injEq] at h
    obtain ⟨rfl, rfl, rfl⟩ := h
    exact trim_no k A0_0 c0_0 l0_0 a0_1 w hr0_0 hc0_0 hok
  | true =>
    rw [if_pos rfl] at h
    by_cases hf : tcFit l0_0 a0_1
    · rw [if_pos hf] at h
      obtain ⟨⟨R, P⟩, hbd, h⟩ := Option.bind_eq_some_iff.mp h
      by_cases hp : a0_1 < (P.length : Int)
      · rw [if_pos hp] at h
        simp only [Option.some.injEq, Prod.mk.injEq] at h
        obtain ⟨rfl, rfl, rfl⟩ := h
        exact callsIn_wide.1 (trim_in k A0_0 c0_0 l0_0 a0_1 _ P w hr0_0 hc0_0 hok hf hbd hp)
      · rw [if_neg hp] at h; cases h
    · rw [if_neg hf] at h; cases h

end Go.Proofs.Ytlmoemahamneoaa.PFnExactTrimCode
