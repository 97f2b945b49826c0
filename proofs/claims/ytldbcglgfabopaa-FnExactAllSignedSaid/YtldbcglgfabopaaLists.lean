/- impl.lists: how many lists of digits stand for a number, and the least weight of one: what the program's function answers, and that it leaves all but its table as it was. -/
import Derived.Test.YtldbcglgfabopaaHand
import Derived.Deep.QuietTactic
import Derived.BigQuiet
import Derived.StillTailTactics
import Derived.DeepKeys3
import Derived.Maps.Keyed
import Derived.MapFrom
import Derived.MapKept
import Derived.RangeFuncRecord
import Derived.Maps.Own
import Derived.Maps.OwnOps
import Derived.Maps.OwnSet
namespace Go.Proofs.YtldbcglgfabopaaLists
open Go.RowKit Go.Shelf Go.Proofs.YtldbcglgfabopaaW.PrintWords Go.Proofs.YtldbcglgfabopaaW.PrintLast Go.Proofs.YtldbcglgfabopaaW.PrintMore
def sz (x : Int) : Int := if 0 ≤ x then x else -x
/-- One digit more: A is what was told before, o what is told behind this digit. -/
def put1 (d : Int) (A o : Int × Int) : Int × Int := if o.1 = 0 then A else (A.1 + o.1, if A.1 = 0 ∨ o.2 + sz d < A.2 then o.2 + sz d else A.2)
def acc (f : Int → Int × Int) (n : Int) : Nat → Int × Int
  | 0 => (0, 0)
  | i + 1 => if (n - ((i : Int) - 1)) % 2 = 0 then put1 ((i : Int) - 1) (acc f n i) (f ((n - ((i : Int) - 1)) / 2)) else acc f n i
/-- How many lists of so many digits stand for a number, and the least weight of one. -/
def LV : Nat → Int → Int × Int
  | 0, n => if sz n ≥ 1 then (0, 0) else (1, 0)
  | L + 1, n => if sz n ≥ 2 ^ (L + 1) then (0, 0) else acc (LV L) n 3
theorem sz_nonneg (x : Int) : 0 ≤ sz x := by unfold sz; split <;> omega
def okP (L : Nat) (p : Int × Int) : Prop := 0 ≤ p.1 ∧ p.1 ≤ 3 ^ L ∧ 0 ≤ p.2 ∧ p.2 ≤ L
theorem three_pos (L : Nat) : (1 : Int) ≤ 3 ^ L := by
  induction L with
  | zero => decide
  | succ L ih => rw [Int.pow_succ]; omega
theorem put1_ok {L : Nat} {d : Int} {A o : Int × Int} {c : Int} (hd : sz d ≤ 1) (hA0 : 0 ≤ A.1) (hA1 : A.1 ≤ c) (hA2 : 0 ≤ A.2) (hA3 : A.2 ≤ L + 1) (ho : okP L o) : 0 ≤ (put1 d A o).1 ∧ (put1 d A o).1 ≤ c + 3 ^ L ∧ 0 ≤ (put1 d A o).2 ∧ (put1 d A o).2 ≤ L + 1 := by
  obtain ⟨h0, h1, h2, h3⟩ := ho
  have hs := sz_nonneg d
  have hp := three_pos L
  unfold put1
  split
  · exact ⟨hA0, by omega, hA2, hA3⟩
  · refine ⟨by show 0 ≤ A.1 + o.1; omega, by show A.1 + o.1 ≤ _; omega, ?_, ?_⟩
    · show 0 ≤ (if A.1 = 0 ∨ o.2 + sz d < A.2 then o.2 + sz d else A.2)
      split <;> omega
    · show (if A.1 = 0 ∨ o.2 + sz d < A.2 then o.2 + sz d else A.2) ≤ _
      split <;> omega
theorem acc_ok {L : Nat} {f : Int → Int × Int} (hf : ∀ x, okP L (f x)) (n : Int) : ∀ i, i ≤ 3 → 0 ≤ (acc f n i).1 ∧ (acc f n i).1 ≤ i * 3 ^ L ∧ 0 ≤ (acc f n i).2 ∧ (acc f n i).2 ≤ L + 1
  | 0, _ => by simp [acc]; omega
  | i + 1, hi => by
    have ih := acc_ok hf n i (by omega)
    have hp := three_pos L
    have e : ((i + 1 : Nat) : Int) * 3 ^ L = i * 3 ^ L + 3 ^ L := by rw [Int.natCast_add, Int.add_mul]; simp
    unfold acc
    rw [e]
    split
    · have hd : sz ((i : Int) - 1) ≤ 1 := by unfold sz; split <;> omega
      exact put1_ok hd ih.1 ih.2.1 ih.2.2.1 ih.2.2.2 (hf _)
    · exact ⟨ih.1, by omega, ih.2.2.1, ih.2.2.2⟩
theorem LV_ok : ∀ (L : Nat) (n : Int), okP L (LV L n)
  | 0, n => by unfold LV okP; split <;> simp
  | L + 1, n => by
    have hp := three_pos (L + 1)
    unfold LV okP
    split
    · exact ⟨by simp, by show (0 : Int) ≤ _; omega, by simp, by show (0 : Int) ≤ _; omega⟩
    · have h := acc_ok (LV_ok L) n 3 (by omega)
      have e : (3 : Int) ^ (L + 1) = 3 * 3 ^ L := by rw [Int.pow_succ]; omega
      refine ⟨h.1, ?_, h.2.2.1, by have := h.2.2.2; omega⟩
      rw [e]
      exact h.2.1
theorem acc_le {L : Nat} {f : Int → Int × Int} (hf : ∀ x, okP L (f x)) (n : Int) {i : Nat} (hi : i ≤ 3) : (acc f n i).1 ≤ 3 * 3 ^ L := by
  have h1 := (acc_ok hf n i hi).2.1
  have hp := three_pos L
  have h2 : (i : Int) * 3 ^ L ≤ 3 * 3 ^ L := Int.mul_le_mul_of_nonneg_right (by omega) (by omega)
  omega
theorem three_le {L : Nat} (h : L ≤ 24) : (3 : Int) ^ L ≤ 282429536481 := by
  have h := Nat.pow_le_pow_right (n := 3) (by omega) h
  have e : ((3 ^ L : Nat) : Int) = (3 : Int) ^ L := by simp
  omega
def key (n L : Int) : Value := .agg #[.int .i64 n, .int .i64 L]
def out (p : Int × Int) : Value := .agg #[.int .i64 p.1, .int .i64 p.2]
theorem key_inj {a b c d : Int} (h : key a b = key c d) : a = c ∧ b = d := by
  unfold key at h
  injection h with h
  have h := congrArg Array.toList h
  simp at h
  exact h
/-- The table tells the truth. -/
def Memo (es : Array MapEntry) : Prop := ∀ e ∈ es.toList, ∃ (n : Int) (L : Nat), L ≤ 24 ∧ -1099511627776 ≤ n ∧ n ≤ 1099511627776 ∧ e.key = key n L ∧ e.val = out (LV L n)
theorem memo_nil : Memo #[] := fun e he => by simp at he
theorem keyed : Maps.Keyed Try.prog 62 := Maps.Keyed.of_law (deep_law (m := 3) (by decide) (by kernel_rfl) (by kernel_rfl) (by rw [Try.underlying62]))
theorem wf64 {x : Int} (h0 : -9223372036854775808 ≤ x) (h1 : x ≤ 9223372036854775807) : (Lit.int .i64 x).wf = true := by
  simp only [Lit.wf, Bool.and_eq_true, decide_eq_true_eq]
  exact ⟨h0, h1⟩
theorem cells_int : Program.cellsOf Try.prog 3 = 1 := by kernel_rfl
theorem cells_key : Program.cellsOf Try.prog 62 = 2 := by kernel_rfl
theorem keyLits_int (d : Nat) {x : Int} (h : (Lit.int .i64 x).wf = true) : Program.keyLits Try.prog (d + 1) 3 [.int .i64 x] = some [.int .i64 x] := by
  unfold Program.keyLits
  simp [Try.underlying3, h]
theorem keyLits_key (d : Nat) {a b : Int} (ha : (Lit.int .i64 a).wf = true) (hb : (Lit.int .i64 b).wf = true) : Program.keyLits Try.prog (d + 1 + 1) 62 [.int .i64 a, .int .i64 b] = some [.int .i64 a, .int .i64 b] := by
  have h1 := keyLits_int d ha
  have h2 := keyLits_int d hb
  unfold Program.keyLits
  simp only [Try.underlying62, cells_key, cells_int, List.length_cons, List.length_nil, Nat.zero_add, if_true, Nat.reduceAdd]
  rw [show List.range 2 = [0, 1] from rfl]
  simp [h1, h2]
theorem keyLit {a b : Int} (ha : (Lit.int .i64 a).wf = true) (hb : (Lit.int .i64 b).wf = true) : ∃ l, keyOf Try.prog 62 (key a b) = some l := by
  obtain ⟨d, hd⟩ : ∃ d, (Try.prog).types.size + 1 = d + 1 + 1 := ⟨(Try.prog).types.size - 1, by
    have h0 : decide (0 < (Try.prog).types.size) = true := by kernel_rfl
    have := of_decide_eq_true h0
    omega⟩
  have hk : Program.keyType Try.prog 62 = true := by kernel_rfl
  have hf : Value.formed Try.prog 62 (.agg #[.int .i64 a, .int .i64 b]) = true := by
    unfold Value.formed
    simp [Try.underlying62, cells_key]
  unfold key keyOf
  rw [Try.underlying62]
  simp only [hk, hf, Bool.and_self, if_true, hd]
  have hc : (Value.agg #[.int .i64 a, .int .i64 b]).cells.toList = [.int .i64 a, .int .i64 b] := by simp [Value.cells]
  rw [hc, keyLits_key d ha hb]
  exact ⟨_, rfl⟩
theorem memo_keys {es : Array MapEntry} (h : Memo es) : ∀ e ∈ es.toList, ∃ l, keyOf Try.prog 62 e.key = some l := fun e he => by
  obtain ⟨n, L, hL, h0, h1, hk, _⟩ := h e he
  rw [hk]
  exact keyLit (wf64 (by omega) (by omega)) (wf64 (by omega) (by omega))
/-- What the table answers: nothing, or the truth. -/
theorem look_hit {m : Nat} {es : Array MapEntry} {clock : Nat} (hM : Memo es) {n : Int} {L : Nat} (hL : L ≤ 24) (h0 : -1099511627776 ≤ n) (h1 : n ≤ 1099511627776) (hit : ∃ e ∈ es.toList, e.key = key n L) (w : World) (hb : w.heap[m]? = some (.map es clock)) :
    (Instr.lookup 42 (.map (some m)) (key n L) true).run Try.prog w = .ok (.tuple #[out (LV L n), .bool true]) w := by
  obtain ⟨l, hl⟩ := keyLit (a := n) (b := L) (wf64 (by omega) (by omega)) (wf64 (by omega) (by omega))
  rcases keyed.find w hl es.toList (memo_keys hM) with ⟨_, hno⟩ | ⟨j, e, hf, hj, he⟩
  · obtain ⟨e, he, hk⟩ := hit
    exact absurd hk (hno e he)
  · obtain ⟨n', L', _, _, _, hk, hv⟩ := hM e (List.mem_of_getElem? hj)
    obtain ⟨rfl, e2⟩ := key_inj (hk.symm.trans he)
    have : L' = L := by omega
    subst this
    simp [Instr.lookup, run_underlying Try.underlying42, MapKept.run_getObj_map hb, keyed.check w _ hl, hf, hv, Result.andThen]
theorem look_miss {m : Nat} {es : Array MapEntry} {clock : Nat} (hM : Memo es) {n : Int} {L : Nat} (hL : L ≤ 24) (h0 : -1099511627776 ≤ n) (h1 : n ≤ 1099511627776) (miss : ¬ ∃ e ∈ es.toList, e.key = key n L) (w : World) (hb : w.heap[m]? = some (.map es clock)) :
    (Instr.lookup 42 (.map (some m)) (key n L) true).run Try.prog w = .ok (.tuple #[out (0, 0), .bool false]) w := by
  obtain ⟨l, hl⟩ := keyLit (a := n) (b := L) (wf64 (by omega) (by omega)) (wf64 (by omega) (by omega))
  have hz : (zeroValue 52).run Try.prog w = .ok (out (0, 0)) w := by kernel_rfl
  rcases keyed.find w hl es.toList (memo_keys hM) with ⟨hf, _⟩ | ⟨j, e, hf, hj, he⟩
  · simp [Instr.lookup, run_underlying Try.underlying42, MapKept.run_getObj_map hb, keyed.check w _ hl, hf, hz, Result.andThen]
  · exact absurd ⟨e, List.mem_of_getElem? hj, he⟩ miss
/-- The truth is written into the table. -/
theorem update {w : World} {m : Nat} {es : Array MapEntry} {clock : Nat} (hb : w.heap[m]? = some (.map es clock)) (hM : Memo es) {n : Int} {L : Nat} (hL : L ≤ 24) (h0 : -1099511627776 ≤ n) (h1 : n ≤ 1099511627776) :
    ∃ es' clock', (Instr.mapUpdate 42 (.map (some m)) (key n L) (out (LV L n))).run Try.prog w = .ok () (w.putObj m (.map es' clock')) ∧ Memo es' := by
  obtain ⟨l, hl⟩ := keyLit (a := n) (b := L) (wf64 (by omega) (by omega)) (wf64 (by omega) (by omega))
  rcases keyed.find w hl es.toList (memo_keys hM) with ⟨hf, _⟩ | ⟨j, e, hf, hj, he⟩
  · refine ⟨es.push ⟨key n L, out (LV L n), clock⟩, clock + 1, ?_, fun x hx => ?_⟩
    · simp [Instr.mapUpdate, run_underlying Try.underlying42, MapKept.run_getObj_map hb, keyed.check w _ hl, hf, MapKept.run_setObj_map _ hb, Result.andThen]
      rfl
    · simp only [Array.toList_push, List.mem_append, List.mem_singleton] at hx
      rcases hx with hx | rfl
      · exact hM x hx
      · exact ⟨n, L, hL, h0, h1, rfl, rfl⟩
  · have hj2 : es[j]? = some e := by simpa using hj
    refine ⟨es.modify j fun e => { e with key := key n L, val := out (LV L n) }, clock, ?_, fun x hx => ?_⟩
    · have hst := keyed.stays w hl
      simp [Instr.mapUpdate, run_underlying Try.underlying42, MapKept.run_getObj_map hb, keyed.check w _ hl, hf, hj2, he, hst, MapKept.run_setObj_map _ hb, Result.andThen]
      rfl
    · rcases MapFrom.mem_modify hx with hx | ⟨e', _, rfl⟩
      · exact hM x hx
      · exact ⟨n, L, hL, h0, h1, rfl, rfl⟩
/-- Nothing but the table m and what is new has turned. -/
structure Far (m : Nat) (w W : World) : Prop where
  os : W.os = w.os
  tape : W.tape = w.tape
  output : W.output = w.output
  size : w.heap.size ≤ W.heap.size
  block : ∀ k, k < w.heap.size → k ≠ m → W.heap[k]? = w.heap[k]?
theorem Far.refl (m : Nat) (w : World) : Far m w w := ⟨rfl, rfl, rfl, Nat.le_refl _, fun _ _ _ => rfl⟩
theorem Far.below {m : Nat} {w W W' : World} (h : Far m w W) (k : Below w.heap.size W W') : Far m w W' :=
  ⟨k.os.trans h.os, k.tape.trans h.tape, k.output.trans h.output, Nat.le_trans h.size k.size, fun j hj hm => (k.block j hj).trans (h.block j hj hm)⟩
theorem Far.then {m : Nat} {w W W' : World} (h : Far m w W) (k : Far m W W') : Far m w W' :=
  ⟨k.os.trans h.os, k.tape.trans h.tape, k.output.trans h.output, Nat.le_trans h.size k.size, fun j hj hm => (k.block j (Nat.lt_of_lt_of_le hj h.size) hm).trans (h.block j hj hm)⟩
theorem Far.alloc {m : Nat} {w W : World} (h : Far m w W) (o : Obj) : Far m w (W.alloc o) := h.below ((Below.refl _ W).alloc h.size o)
theorem Far.drewN {m : Nat} {w W : World} (h : Far m w W) (n : Nat) : Far m w (W.drewN n) := ⟨h.os, h.tape, h.output, h.size, h.block⟩
theorem Far.set {m : Nat} {w W : World} (h : Far m w W) {p : Addr} (hp : w.heap.size ≤ p.block) (v : Value) : Far m w (W.setCell p v) := h.below ((Below.refl _ W).setCell hp v)
theorem Far.put {m : Nat} {w W : World} (h : Far m w W) (o : Obj) : Far m w (W.putObj m o) := by
  refine ⟨h.os, h.tape, h.output, ?_, fun j hj hm => ?_⟩
  · show w.heap.size ≤ (W.heap.setIfInBounds m o).size
    rw [Array.size_setIfInBounds]; exact h.size
  · show (W.heap.setIfInBounds m o)[j]? = _
    rw [Array.getElem?_setIfInBounds_ne (fun e => hm e.symm)]; exact h.block j hj hm
theorem put_same {W : World} {m : Nat} {o : Obj} (h : m < W.heap.size) : (W.putObj m o).heap[m]? = some o := by
  simp [World.putObj, h]
section
variable {P : Program} (w : World) {ops : Array Oper} {rest : List Oper} {o : Oper} {a : Act} {Q : Exit → Act → World → Prop}
theorem wpList_lookup_run (hg : o.guard = none) (m x : Operand) (t : TypeId) (hop : o.op = Op.lookup t m x true) {mv xv v : Value} (hm : a.eval m = mv) (hx : a.eval x = xv) (hr : (Instr.lookup t mv xv true).run P w = .ok v w) (h : wpList P ops Q rest (a.put o.dst v) w) : wpList P ops Q (o :: rest) a w := by
  refine wpList_plain hg fun K' hK' => ?_
  unfold Oper.wp
  simp [execOp, hop, hm, hx, hr, Result.andThen]
  exact hK' _ _ h
theorem wpList_update_run (hg : o.guard = none) (m x u : Operand) (t : TypeId) (hop : o.op = Op.mapUpdate t m x u) {mv xv uv : Value} {w1 : World} (hm : a.eval m = mv) (hx : a.eval x = xv) (hu : a.eval u = uv) (hr : (Instr.mapUpdate t mv xv uv).run P w = .ok () w1) (h : wpList P ops Q rest (a.put o.dst undef) w1) : wpList P ops Q (o :: rest) a w := by
  refine wpList_plain hg fun K' hK' => ?_
  unfold Oper.wp
  simp [execOp, hop, hm, hx, hu, hr, Result.andThen]
  exact hK' _ _ h
end
theorem info_out : (Try.prog.info? 52).map (·.size) = some 2 := by kernel_rfl
attribute [local go_sem] max2_int min2_int max_two min_two
set_option maxRecDepth 100000
set_option maxHeartbeats 2000000
theorem size_in (x : Int) (w : World) (h0 : -1099511627776 ≤ x) (h1 : x ≤ 1099511627776) : Calls Try.prog 52 #[.int .i64 x] w fun e w' => e = .returned (.int .i64 (sz x)) ∧ w' = w := by
  have e1 : wrap64 (-x) = -x := by unfold wrap64; omega
  unfold sz
  by_cases h : 0 ≤ x
  · rw [if_pos h]
    go_enter Try.func52, Try.ntmps52
    go_wp2
    all_goals go_ret
    all_goals (first | exact ⟨rfl, rfl⟩ | (exfalso; omega))
  · rw [if_neg h]
    go_enter Try.func52, Try.ntmps52
    go_wp2
    all_goals go_ret
    all_goals (first | exact ⟨rfl, rfl⟩ | (exfalso; omega))
/-- What a call of lists leaves. -/
def Post (L : Nat) (n : Int) (m : Nat) (w : World) (e : Ending) (w' : World) : Prop :=
  e = .returned (out (LV L n)) ∧ Far m w w' ∧ ∃ es c, w'.heap[m]? = some (.map es c) ∧ Memo es
theorem LV_big {L : Nat} {n : Int} (h : (2 : Int) ^ L ≤ sz n) : LV L n = (0, 0) := by
  cases L with
  | zero => unfold LV; rw [if_pos (by simpa using h)]
  | succ L => unfold LV; rw [if_pos h]
theorem two_le {L : Nat} (h : L ≤ 24) : (1 : Int) ≤ 2 ^ L ∧ (2 : Int) ^ L ≤ 16777216 := by
  have h1 := Nat.pow_le_pow_right (n := 2) (by omega) h
  have h2 : 1 ≤ 2 ^ L := Nat.one_le_two_pow
  have e : ((2 ^ L : Nat) : Int) = (2 : Int) ^ L := by simp
  omega
theorem map_at {w W : World} {m : Nat} {es : Array MapEntry} {c : Nat} (hb : w.heap[m]? = some (.map es c)) (h : W.heap[m]? = w.heap[m]?) : W.heap[m]? = some (.map es c) := h.trans hb
theorem cell_ret {W : World} {g : Nat} {x y : Int} {tmps : Array Value} {R : Ending → World → Prop} (hp : tmps.getD 6 undef = .pointer (some ⟨g, 0, none⟩)) (hg : W.heap[g]? = some (.cells #[.int .i64 x, .int .i64 y] 52 (0, 0))) (h : R (.returned (out (x, y))) W) :
    bodyPost Try.prog Try.f36 R Exit.ret { tmps := tmps, defers := [] } W :=
  bodyPost_ret (results_cell_row rfl tmps W g 52 #[.int .i64 x, .int .i64 y] (0, 0) _ hp hg Try.underlying52 rfl info_out) rfl h
theorem shift_in {L : Nat} (h : L ≤ 24) : wrap64 ((2 : Int) ^ min L 64) = 2 ^ L := by
  have hp := two_le h
  rw [Nat.min_eq_left (by omega)]
  unfold wrap64
  omega
theorem zero_in (n : Int) (L m : Nat) (w : World) (es : Array MapEntry) (c : Nat) (hb : w.heap[m]? = some (.map es c)) (hM : Memo es) (hl : L ≤ 24) (h : (2 : Int) ^ L ≤ sz n) (h0 : -1099511627776 ≤ n) (h1 : n ≤ 1099511627776) : Calls Try.prog 36 #[.int .i64 n, .int .i64 L, .map (some m)] w (Post L n m w) := by
  have S := Go.Lib.hid fun w => size_in n w h0 h1
  have hsh := shift_in hl
  have hd : decide ((2 : Int) ^ L ≤ sz n) = true := decide_eq_true h
  have hlen : decide ((0 : Int) ≤ (L : Int)) = true := decide_eq_true (by omega)
  have hv := Go.Lib.hid (LV_big h)
  have HB := Go.Lib.hid hb
  have HM := Go.Lib.hid hM
  clear h hl h0 h1 hb hM
  go_enter Try.func36, Try.ntmps36
  go_wp2
  go_quiet ((go_at_call 52; exact Calls.quiet_of_same (S.out _)))
  go_wp2
  refine cell_ret (x := 0) (y := 0) rfl (blk_put (cs := #[.int .i64 0, .int .i64 0]) (blk_put (cs := #[.int .i64 0, .int .i64 0]) (blk_drewN (blk_new _ _) _) 0 _ rfl) 1 _ rfl) ⟨by rw [hv.out], ?_, es, c, ?_, HM.out⟩
  · exact (((((Far.refl m w).alloc _).drewN _).set (Nat.le_refl _) _).set (Nat.le_refl _) _)
  · have hlt := blk_lt HB.out
    refine map_at HB.out ?_
    rw [Below.heap_setCell _ _ _ _ (by dsimp only; omega), Below.heap_setCell _ _ _ _ (by dsimp only; omega)]
    exact Below.heap_alloc _ _ _ hlt
theorem one_in (m : Nat) (w : World) (es : Array MapEntry) (c : Nat) (hb : w.heap[m]? = some (.map es c)) (hM : Memo es) : Calls Try.prog 36 #[.int .i64 0, .int .i64 0, .map (some m)] w (Post 0 0 m w) := by
  have S := Go.Lib.hid fun w => size_in 0 w (by decide) (by decide)
  have hsz : sz 0 = 0 := by decide
  have HB := Go.Lib.hid hb
  have HM := Go.Lib.hid hM
  clear hb hM
  go_enter Try.func36, Try.ntmps36
  go_wp2
  go_quiet ((go_at_call 52; exact Calls.quiet_of_same (S.out _)))
  go_wp2
  refine cell_ret (x := 1) (y := 0) rfl (blk_put (cs := #[.int .i64 1, .int .i64 0]) (blk_put (cs := #[.int .i64 0, .int .i64 0]) (blk_drewN (blk_new _ _) _) 0 _ rfl) 1 _ rfl) ⟨by rw [show LV 0 0 = (1, 0) by decide], ?_, es, c, ?_, HM.out⟩
  · exact (((((Far.refl m w).alloc _).drewN _).set (Nat.le_refl _) _).set (Nat.le_refl _) _)
  · have hlt := blk_lt HB.out
    refine map_at HB.out ?_
    rw [Below.heap_setCell _ _ _ _ (by dsimp only; omega), Below.heap_setCell _ _ _ _ (by dsimp only; omega)]
    exact Below.heap_alloc _ _ _ hlt
theorem hit_in (n : Int) (L m : Nat) (w : World) (es : Array MapEntry) (c : Nat) (hb : w.heap[m]? = some (.map es c)) (hM : Memo es) (hl : L ≤ 24) (hpos : 0 < L) (h : ¬ (2 : Int) ^ L ≤ sz n) (h0 : -1099511627776 ≤ n) (h1 : n ≤ 1099511627776) (hit : ∃ e ∈ es.toList, e.key = key n L) : Calls Try.prog 36 #[.int .i64 n, .int .i64 L, .map (some m)] w (Post L n m w) := by
  have S := Go.Lib.hid fun w => size_in n w h0 h1
  have hsh := shift_in hl
  have hd : decide ((2 : Int) ^ L ≤ sz n) = false := decide_eq_false h
  have hlen : decide ((0 : Int) ≤ (L : Int)) = true := decide_eq_true (by omega)
  have hne : ((L : Int) == 0) = false := beq_eq_false_iff_ne.mpr (by omega)
  have HK := Go.Lib.hid (look_hit (m := m) (clock := c) hM hl h0 h1 hit)
  have HB := Go.Lib.hid hb
  have HM := Go.Lib.hid hM
  unfold key out at HK
  obtain ⟨r, hr⟩ : ∃ r, LV L n = r := ⟨_, rfl⟩
  rw [hr] at HK
  have HR := Go.Lib.hid hr
  clear h hl h0 h1 hb hM hit hr hpos
  go_enter Try.func36, Try.ntmps36
  go_wp2
  go_quiet ((go_at_call 52; exact Calls.quiet_of_same (S.out _)))
  go_wp2_with (at_lookup; refine wpList_lookup_run _ rfl _ _ _ rfl rfl rfl (HK.out _ (blk_drewN (blk_alloc HB.out _) _)) ?_)
  refine cell_ret (x := r.1) (y := r.2) rfl (blk_alloc (blk_put (cs := #[.int .i64 r.1, .int .i64 0]) (blk_put (cs := #[.int .i64 0, .int .i64 0]) (blk_drewN (blk_new _ _) _) 0 _ rfl) 1 _ rfl) _) ⟨by rw [HR.out], ?_, es, c, ?_, HM.out⟩
  · exact ((((((Far.refl m w).alloc _).drewN _).set (Nat.le_refl _) _).set (Nat.le_refl _) _).alloc _)
  · have hlt := blk_lt HB.out
    refine blk_alloc ?_ _
    refine map_at HB.out ?_
    rw [Below.heap_setCell _ _ _ _ (by dsimp only; omega), Below.heap_setCell _ _ _ _ (by dsimp only; omega)]
    exact Below.heap_alloc _ _ _ hlt
/-- What holds at the head of a round: the table tells the truth, the two boxes lie there. -/
def St (m g6 g9 : Nat) (w : World) (p : Int × Int) (W : World) : Prop :=
  Far m w W ∧ (∃ es c, W.heap[m]? = some (.map es c) ∧ Memo es) ∧ (∃ x y, W.heap[g6]? = some (.cells #[.int .i64 x, .int .i64 y] 52 (0, 0))) ∧ W.heap[g9]? = some (.cells #[.int .i64 p.1, .int .i64 p.2] 52 (0, 0))
theorem St.alloc {m g6 g9 : Nat} {w W : World} {p : Int × Int} (h : St m g6 g9 w p W) (o : Obj) : St m g6 g9 w p (W.alloc o) := by
  obtain ⟨h1, ⟨es, c, h2, h3⟩, ⟨x, y, h4⟩, h5⟩ := h
  exact ⟨h1.alloc o, ⟨es, c, blk_alloc h2 o, h3⟩, ⟨x, y, blk_alloc h4 o⟩, blk_alloc h5 o⟩
theorem St.drewN {m g6 g9 : Nat} {w W : World} {p : Int × Int} (h : St m g6 g9 w p W) (n : Nat) : St m g6 g9 w p (W.drewN n) := by
  obtain ⟨h1, ⟨es, c, h2, h3⟩, ⟨x, y, h4⟩, h5⟩ := h
  exact ⟨h1.drewN n, ⟨es, c, blk_drewN h2 n, h3⟩, ⟨x, y, blk_drewN h4 n⟩, blk_drewN h5 n⟩
theorem St.set {m g6 g9 : Nat} {w W : World} {p : Int × Int} (h : St m g6 g9 w p W) {a : Addr} (h0 : w.heap.size ≤ a.block) (hm : m ≠ a.block) (h6 : g6 ≠ a.block) (h9 : g9 ≠ a.block) (v : Value) : St m g6 g9 w p (W.setCell a v) := by
  obtain ⟨h1, ⟨es, c, h2, h3⟩, ⟨x, y, h4⟩, h5⟩ := h
  exact ⟨h1.set h0 v, ⟨es, c, (Below.heap_setCell W a v m hm).trans h2, h3⟩, ⟨x, y, blk_far h4 h6 v⟩, blk_far h5 h9 v⟩
theorem St.drew {m g6 g9 : Nat} {w W : World} {p : Int × Int} (h : St m g6 g9 w p W) : St m g6 g9 w p W.drew := h.drewN 1
theorem St.many {m g6 g9 : Nat} {w W : World} {p : Int × Int} (h : St m g6 g9 w p W) (h0 : w.heap.size ≤ g9) (hm : m ≠ g9) (h6 : g6 ≠ g9) (x : Int) : St m g6 g9 w (x, p.2) (W.setCell ⟨g9, 0, none⟩ (.int .i64 x)) := by
  obtain ⟨h1, ⟨es, c, h2, h3⟩, ⟨a, b, h4⟩, h5⟩ := h
  exact ⟨h1.set h0 _, ⟨es, c, (Below.heap_setCell W ⟨g9, 0, none⟩ _ m hm).trans h2, h3⟩, ⟨a, b, blk_far h4 h6 _⟩, blk_put h5 0 _ rfl⟩
theorem St.least {m g6 g9 : Nat} {w W : World} {p : Int × Int} (h : St m g6 g9 w p W) (h0 : w.heap.size ≤ g9) (hm : m ≠ g9) (h6 : g6 ≠ g9) (x : Int) : St m g6 g9 w (p.1, x) (W.setCell ⟨g9, 1, none⟩ (.int .i64 x)) := by
  obtain ⟨h1, ⟨es, c, h2, h3⟩, ⟨a, b, h4⟩, h5⟩ := h
  exact ⟨h1.set h0 _, ⟨es, c, (Below.heap_setCell W ⟨g9, 1, none⟩ _ m hm).trans h2, h3⟩, ⟨a, b, blk_far h4 h6 _⟩, blk_put h5 1 _ rfl⟩
theorem St.put {m g6 g9 : Nat} {w W : World} {p : Int × Int} (h : St m g6 g9 w p W) (hm6 : g6 ≠ m) (hm9 : g9 ≠ m) {es : Array MapEntry} {c : Nat} (hM : Memo es) : St m g6 g9 w p (W.putObj m (.map es c)) := by
  obtain ⟨h1, ⟨es0, c0, h2, h3⟩, ⟨a, b, h4⟩, h5⟩ := h
  have e : ∀ g, g ≠ m → (W.putObj m (.map es c)).heap[g]? = W.heap[g]? := fun g hg => by
    show (W.heap.setIfInBounds m _)[g]? = _
    rw [Array.getElem?_setIfInBounds_ne (fun e => hg e.symm)]
  exact ⟨h1.put _, ⟨es, c, put_same (blk_lt h2), hM⟩, ⟨a, b, (e g6 hm6).trans h4⟩, (e g9 hm9).trans h5⟩
theorem miss_in (n : Int) (l m : Nat) (L : Nat) (hLl : L = l + 1) (w : World) (es : Array MapEntry) (c : Nat) (hb : w.heap[m]? = some (.map es c)) (hM : Memo es) (hl : L ≤ 24) (h : ¬ (2 : Int) ^ L ≤ sz n) (h0 : -1099511627000 ≤ n) (h1 : n ≤ 1099511627000) (miss : ¬ ∃ e ∈ es.toList, e.key = key n L)
    (IH : ∀ (n' : Int) (W : World) (es' : Array MapEntry) (c' : Nat), W.heap[m]? = some (.map es' c') → Memo es' → -1099511627000 ≤ n' → n' ≤ 1099511627000 → Calls Try.prog 36 #[.int .i64 n', .int .i64 l, .map (some m)] W (Post l n' m W)) :
    Calls Try.prog 36 #[.int .i64 n, .int .i64 L, .map (some m)] w (Post L n m w) := by
  have S := Go.Lib.hid fun w => size_in n w (by omega) (by omega)
  have hsh := shift_in hl
  have hd : decide ((2 : Int) ^ L ≤ sz n) = false := decide_eq_false h
  have hlen : decide ((0 : Int) ≤ (L : Int)) = true := decide_eq_true (by omega)
  have hne : ((L : Int) == 0) = false := beq_eq_false_iff_ne.mpr (by omega)
  have hl1 : wrap64 ((L : Int) - 1) = l := by unfold wrap64; omega
  have HK := Go.Lib.hid (look_miss (m := m) (clock := c) hM hl (by omega) (by omega) miss)
  have HB := Go.Lib.hid hb
  have HM := Go.Lib.hid hM
  unfold key out at HK
  have hlv : LV L n = acc (LV l) n 3 := by subst hLl; unfold LV; rw [if_neg h]
  have HLV := Go.Lib.hid hlv
  have HN := Go.Lib.hid (And.intro h0 h1)
  have HL := Go.Lib.hid hl
  have HI := Go.Lib.hid IH
  clear h hl h0 h1 hb hM miss hlv IH hLl
  go_enter Try.func36, Try.ntmps36
  go_wp2
  go_quiet ((go_at_call 52; exact Calls.quiet_of_same (S.out _)))
  go_wp2_with (at_lookup; refine wpList_lookup_run _ rfl _ _ _ rfl rfl rfl (HK.out _ (blk_drewN (blk_alloc HB.out _) _)) ?_)
  go_loopw [10] (fun d W => ∃ i : Nat, i ≤ 3 ∧ d = .int .i64 ((i : Int) - 1) ∧ St m w.heap.size (w.heap.size + 1 + 1) w (acc (LV l) n i) W) (fun d _ => (2 - intOf d).toNat)
  case atStart =>
    refine ⟨0, by omega, by simp, ?_, ⟨es, c, ?_, HM.out⟩, ⟨0, 0, ?_⟩, ?_⟩
    · exact ((((Far.refl m w).alloc _).drewN _).alloc _).alloc _
    · exact blk_alloc (blk_alloc (blk_drewN (blk_alloc HB.out _) _) _) _
    · exact blk_alloc (blk_alloc (blk_drewN (blk_new _ _) _) _) _
    · have := blk_new (((w.alloc (Obj.cells #[Value.int IntKind.i64 0, Value.int IntKind.i64 0] 52)).drewN nq).alloc (Obj.cells #[Value.int IntKind.i64 0, Value.int IntKind.i64 0] 52)) (Obj.cells #[Value.int IntKind.i64 0, Value.int IntKind.i64 0] 52)
      simpa [acc] using this
  case round =>
    obtain ⟨i, hi, rfl, hfar, ⟨es1, c1, hm1, hM1⟩, ⟨x6, y6, hb6⟩, hb9⟩ := hrel
    have hmlt := blk_lt HB.out
    by_cases hlt : i < 3
    · have hstep : acc (LV l) n (i + 1) = (if (n - ((i : Int) - 1)) % 2 = 0 then put1 ((i : Int) - 1) (acc (LV l) n i) (LV l ((n - ((i : Int) - 1)) / 2)) else acc (LV l) n i) := rfl
      have hl24 := HL.out
      have hA := acc_ok (LV_ok l) n i (by omega)
      have h3 := three_le (L := l) (by unfold wrap64 at hl1; omega)
      have hA3 := acc_le (LV_ok l) n (i := i) (by omega)
      have hp3 := three_pos l
      obtain ⟨d, hdi⟩ : ∃ d : Int, d = (i : Int) - 1 := ⟨_, rfl⟩
      rw [← hdi] at hstep ⊢
      have hN := HN.out
      have hd1 : decide (d ≤ 1) = true := decide_eq_true (by omega)
      have e3 : wrap64 (d + 1) = d + 1 := by unfold wrap64; omega
      obtain ⟨q, hq⟩ : ∃ q : Int, q = n - d := ⟨_, rfl⟩
      rw [← hq] at hstep
      have e1 : wrap64 (n - d) = q := by unfold wrap64; omega
      by_cases hev : q % 2 = 0
      · rw [if_pos hev] at hstep
        have ht : (Int.tmod q 2 != 0) = false := by rw [Int.tmod_eq_zero_of_dvd (Int.dvd_of_emod_eq_zero hev)]; rfl
        obtain ⟨v, hv⟩ : ∃ v : Int, v = q / 2 := ⟨_, rfl⟩
        have e4 : Int.tdiv q 2 = v := by rw [hv]; exact Int.tdiv_eq_ediv_of_dvd (Int.dvd_of_emod_eq_zero hev)
        have e5 : wrap64 v = v := by unfold wrap64; omega
        rw [← hv] at hstep
        obtain ⟨o, ho⟩ : ∃ o, LV l v = o := ⟨_, rfl⟩
        have hok := LV_ok l v
        rw [ho] at hstep hok
        have HC := Go.Lib.hid ((HI.out v wr es1 c1 hm1 hM1 (by omega) (by omega)).mono (R' := fun e w' => e = .returned (.agg #[.int .i64 o.1, .int .i64 o.2]) ∧ St m w.heap.size (w.heap.size + 1 + 1) w (acc (LV l) n i) w' ∧ w.heap.size + 1 + 1 < w'.heap.size) fun e w' hp => by
          obtain ⟨he, hf, hm⟩ := hp
          rw [ho] at he
          refine ⟨he, ⟨hfar.then ⟨hf.os, hf.tape, hf.output, hf.size, hf.block⟩, hm, ⟨x6, y6, (hf.block _ (blk_lt hb6) (by omega)).trans hb6⟩, (hf.block _ (blk_lt hb9) (by omega)).trans hb9⟩, Nat.lt_of_lt_of_le (blk_lt hb9) hf.size⟩)
        clear hfar hm1 hM1 hb6 hb9
        by_cases hz : o.1 = 0
        · have hoz : (o.1 == 0) = true := beq_iff_eq.mpr hz
          have hst : acc (LV l) n (i + 1) = acc (LV l) n i := by rw [hstep]; unfold put1; rw [if_pos hz]
          have hd3 := Go.Lib.hid (And.intro hdi hlt)
          have HST := Go.Lib.hid hst
          clear hstep hst hA hA3 hp3 h3 hN hq hev hi hlt hl24 hdi hok ho hz hv
          go_wp2_with (go_at_call 36; refine HC.out.mono ?_; rintro e w' ⟨rfl, hs', hlt'⟩; have HS := Go.Lib.hid hs'; clear hs')
          exact ⟨⟨i + 1, hd3.out.2, by rw [e3, show d + 1 = ((i + 1 : Nat) : Int) - 1 by have := hd3.out; omega], by rw [HST.out]; exact HS.out.alloc _⟩, by show (2 - wrap64 (d + 1)).toNat < (2 - d).toNat; rw [e3]; have := of_decide_eq_true hd1; omega⟩
        · have hoz : (o.1 == 0) = false := beq_eq_false_iff_ne.mpr hz
          have hsd : sz d ≤ 1 := by unfold sz; split <;> omega
          have hsd0 := sz_nonneg d
          have Sd := Go.Lib.hid fun w => size_in d w (by omega) (by omega)
          have h3l : (l : Int) ≤ 24 := by unfold wrap64 at hl1; omega
          obtain ⟨hk0, hk1, hk2, hk3⟩ := hok
          have e6 : wrap64 (o.2 + sz d) = o.2 + sz d := by unfold wrap64; omega
          have e7 : wrap64 ((acc (LV l) n i).1 + o.1) = (acc (LV l) n i).1 + o.1 := by unfold wrap64; omega
          obtain ⟨A, hAe⟩ : ∃ A, acc (LV l) n i = A := ⟨_, rfl⟩
          rw [hAe] at hstep hA hA3 e7 HC
          have hd3 := Go.Lib.hid (And.intro hdi hlt)
          have hst : acc (LV l) n (i + 1) = (A.1 + o.1, if A.1 = 0 ∨ o.2 + sz d < A.2 then o.2 + sz d else A.2) := by rw [hstep]; unfold put1; rw [if_neg hz]
          have HST := Go.Lib.hid hst
          have hc3 : ((A.1 == 0) = true ∨ (A.1 == 0) = false ∧ decide (o.2 + sz d < A.2) = true) ∧ acc (LV l) n (i + 1) = (A.1 + o.1, o.2 + sz d) ∨ (A.1 == 0) = false ∧ decide (o.2 + sz d < A.2) = false ∧ acc (LV l) n (i + 1) = (A.1 + o.1, A.2) := by
            by_cases hA0 : A.1 = 0
            · exact .inl ⟨.inl (beq_iff_eq.mpr hA0), by rw [hst, if_pos (.inl hA0)]⟩
            · by_cases hlt2 : o.2 + sz d < A.2
              · exact .inl ⟨.inr ⟨beq_eq_false_iff_ne.mpr hA0, decide_eq_true hlt2⟩, by rw [hst, if_pos (.inr hlt2)]⟩
              · exact .inr ⟨beq_eq_false_iff_ne.mpr hA0, decide_eq_false hlt2, by rw [hst, if_neg (fun h => h.elim hA0 hlt2)]⟩
          clear hstep hst hA hA3 hp3 h3 hN hq hev hi hlt hl24 hdi ho hz hv hsd hsd0 h3l hk0 hk1 hk2 hk3 hAe HST
          have fin : ∀ W, St m w.heap.size (w.heap.size + 1 + 1) w (acc (LV l) n (i + 1)) W → (∃ i : Nat, i ≤ 3 ∧ Value.int .i64 (wrap64 (d + 1)) = Value.int .i64 ((i : Int) - 1) ∧ St m w.heap.size (w.heap.size + 1 + 1) w (acc (LV l) n i) W) ∧ (2 - intOf (Value.int .i64 (wrap64 (d + 1)))).toNat < (2 - intOf (Value.int .i64 d)).toNat := fun W hW => by
            refine ⟨⟨i + 1, hd3.out.2, by rw [e3, show d + 1 = ((i + 1 : Nat) : Int) - 1 by have := hd3.out; omega], hW⟩, ?_⟩
            show (2 - wrap64 (d + 1)).toNat < (2 - d).toNat
            rw [e3]
            have := of_decide_eq_true hd1
            omega
          have FIN := Go.Lib.hid fin
          clear fin
          rcases hc3 with ⟨hc | ⟨hc, hc2⟩, hst⟩ | ⟨hc, hc2, hst⟩
          all_goals
            have HST := Go.Lib.hid hst
            clear hst
            go_wp2_with (go_at_call 36; refine HC.out.mono ?_; rintro e w' ⟨rfl, hs', hlt'⟩; have HS := Go.Lib.hid hs'; obtain ⟨_, _, _, hb9⟩ := hs'; have hc90 := (blk_cell hb9 0); have hc91 := (blk_cell hb9 1); have hf90 := blk_frozen hb9 0; have hf91 := blk_frozen hb9 1; clear hb9; simp only [List.getElem?_toArray, List.getElem?_cons_zero, List.getElem?_cons_succ] at hc90 hc91)
            refine wp_region_still_tail 5 (by kernel_rfl) (by kernel_rfl) ?_
            simp only [List.take_succ_cons, List.take_zero, List.drop_succ_cons, List.drop_zero]
            change wpStill _ _ (World.drew _) _ _ _
            still_step
            still_step
            still_step
            still_call (Sd.out _)
            still_step
            refine wpStill_nil ?_
            change wpList _ _ _ _ _ (World.drew _)
            have hS2 := (HS.out.alloc (.cells #[.int .i64 o.1, .int .i64 o.2] 52)).drew
            have hb11 := blk_drew (blk_new w' (.cells #[.int .i64 o.1, .int .i64 o.2] 52))
            clear hc90 hc91 hf90 hf91
            generalize World.drew _ = W2 at hS2 hb11 ⊢
            have HS2 := Go.Lib.hid hS2
            obtain ⟨_, _, _, hb9⟩ := hS2
            have hc90 := (blk_cell hb9 0)
            have hc91 := (blk_cell hb9 1)
            have hf90 := blk_frozen hb9 0
            have hf91 := blk_frozen hb9 1
            have hc110 := (blk_cell hb11 0)
            have hc111 := (blk_cell hb11 1)
            have hf110 := blk_frozen hb11 0
            have hf111 := blk_frozen hb11 1
            clear hb9 hb11
            simp only [List.getElem?_toArray, List.getElem?_cons_zero, List.getElem?_cons_succ] at hc90 hc91 hc110 hc111
            have hx1 : (w.heap.size + 1 + 1 = w'.heap.size) = False := eq_false (by omega)
            have hx2 : (w'.heap.size = w.heap.size + 1 + 1) = False := eq_false (by omega)
            go_wp2
            refine FIN.out _ ?_
            rw [HST.out]
            have h11 := HS2.out.set (a := ⟨w'.heap.size, 1, none⟩) (by dsimp only; omega) (by dsimp only; omega) (by dsimp only; omega) (by dsimp only; omega) (.int .i64 (o.2 + sz d))
            first
              | exact (h11.least (by omega) (by omega) (by omega) _).many (by omega) (by omega) (by omega) _
              | exact h11.many (by omega) (by omega) (by omega) _
      · rw [if_neg hev] at hstep
        have ht : (Int.tmod q 2 != 0) = true := bne_iff_ne.mpr (fun e => hev (Int.emod_eq_zero_of_dvd (Int.dvd_of_tmod_eq_zero e)))
        have hrel' := Go.Lib.hid (show St m w.heap.size (w.heap.size + 1 + 1) w (acc (LV l) n (i + 1)) wr from ⟨hfar, ⟨es1, c1, hm1, hM1⟩, ⟨x6, y6, hb6⟩, by rw [hstep]; exact hb9⟩)
        have hd3 := Go.Lib.hid (And.intro hdi hlt)
        clear hstep hA hA3 hp3 h3 hN hq hev hfar hm1 hM1 hb6 hb9 hi hlt hl24 hdi
        go_wp2
        exact ⟨⟨i + 1, hd3.out.2, by rw [e3, show d + 1 = ((i + 1 : Nat) : Int) - 1 by have := hd3.out; omega], hrel'.out⟩, by show (2 - wrap64 (d + 1)).toNat < (2 - d).toNat; rw [e3]; have := of_decide_eq_true hd1; omega⟩
    · have hi3 : i = 3 := by omega
      subst hi3
      have hN := HN.out
      have hl24 := HL.out
      have hd1 : decide (((3 : Nat) : Int) - 1 ≤ 1) = false := by decide
      obtain ⟨es', c', hrun, hM'⟩ := update hm1 hM1 (n := n) (L := L) hl24 (by omega) (by omega)
      have hst : St m w.heap.size (w.heap.size + 1 + 1) w (acc (LV l) n 3) (wr.putObj m (.map es' c')) := St.put ⟨hfar, ⟨es1, c1, hm1, hM1⟩, ⟨x6, y6, hb6⟩, hb9⟩ (by omega) (by omega) hM'
      obtain ⟨A, hA⟩ : ∃ A, acc (LV l) n 3 = A := ⟨_, rfl⟩
      have hlv := HLV.out
      rw [hlv, hA] at hrun
      rw [hA] at hlv hst hb9
      unfold key out at hrun
      generalize wr.putObj m (.map es' c') = W3 at hrun hst
      have HU := Go.Lib.hid hrun
      have HS := Go.Lib.hid hst
      obtain ⟨_, _, ⟨x, y, hb6'⟩, hb9'⟩ := hst
      have hc90 := (blk_cell hb9 0)
      have hc91 := (blk_cell hb9 1)
      have hc90' := (blk_cell hb9' 0)
      have hc91' := (blk_cell hb9' 1)
      have hc60' := (blk_cell hb6' 0)
      have hc61' := (blk_cell hb6' 1)
      have hf60' := blk_frozen hb6' 0
      have hf61' := blk_frozen hb6' 1
      simp only [List.getElem?_toArray, List.getElem?_cons_zero, List.getElem?_cons_succ] at hc90 hc91 hc90' hc91' hc60' hc61'
      have HB6 := Go.Lib.hid hb6'
      clear hrun hfar hm1 hM1 hb6 hb9 hb6' hb9' hM' hN hl24 hA
      go_wp2_with (at_mapUpdate; refine wpList_update_run _ rfl _ _ _ _ rfl rfl rfl rfl HU.out ?_)
      refine cell_ret (x := A.1) (y := A.2) rfl (blk_put (cs := #[.int .i64 A.1, .int .i64 y]) (blk_put (cs := #[.int .i64 x, .int .i64 y]) HB6.out 0 _ rfl) 1 _ rfl) ⟨by rw [hlv], ?_⟩
      obtain ⟨q1, ⟨es2, c2, q2, q3⟩, _, _⟩ := HS.out
      refine ⟨(q1.set (Nat.le_refl _) _).set (Nat.le_refl _) _, es2, c2, ?_, q3⟩
      rw [Below.heap_setCell _ _ _ _ (by dsimp only; omega), Below.heap_setCell _ _ _ _ (by dsimp only; omega)]
      exact q2
theorem lists_in (m : Nat) : ∀ (L : Nat), L ≤ 24 → ∀ (n : Int) (w : World) (es : Array MapEntry) (c : Nat), w.heap[m]? = some (.map es c) → Memo es → -1099511627000 ≤ n → n ≤ 1099511627000 → Calls Try.prog 36 #[.int .i64 n, .int .i64 L, .map (some m)] w (Post L n m w) := by
  intro L
  induction L with
  | zero =>
    intro _ n w es c hb hM h0 h1
    by_cases h : (2 : Int) ^ 0 ≤ sz n
    · exact zero_in n 0 m w es c hb hM (by omega) h (by omega) (by omega)
    · have hn : n = 0 := by
        unfold sz at h
        split at h <;> simp at h <;> omega
      subst hn
      exact one_in m w es c hb hM
  | succ l ih =>
    intro hl n w es c hb hM h0 h1
    by_cases h : (2 : Int) ^ (l + 1) ≤ sz n
    · exact zero_in n (l + 1) m w es c hb hM hl h (by omega) (by omega)
    · by_cases hit : ∃ e ∈ es.toList, e.key = key n ((l + 1 : Nat) : Int)
      · exact hit_in n (l + 1) m w es c hb hM hl (by omega) h (by omega) (by omega) hit
      · exact miss_in n l m (l + 1) rfl w es c hb hM hl h h0 h1 hit fun n' W es' c' => ih (by omega) n' W es' c'
end Go.Proofs.YtldbcglgfabopaaLists
