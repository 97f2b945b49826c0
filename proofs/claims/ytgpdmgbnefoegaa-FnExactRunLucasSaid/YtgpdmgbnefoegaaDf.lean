/- slices.IndexFunc and slices.DeleteFunc at slices of steps (two whole numbers each), with a closure that makes memory: what they answer, and that they leave all that was there before as it was. -/
import Derived.Test.YtgpdmgbnefoegaaProg
import Derived.Test.YtgpdmgbnefoegaaWMore
import Derived.Shelf.Abstract
import Derived.Lib.Hide
import Derived.Lib.SliceRun
import Derived.Lib.LazyBuf
import Derived.Deep.QuietTactic
import Derived.BigQuiet
namespace Go.Proofs.YtgpdmgbnefoegaaDf
open Go.RowKit Go.Shelf Go.Proofs.YtgpdmgbnefoegaaW.PrintWords Go.Proofs.YtgpdmgbnefoegaaW.PrintLast Go.Proofs.YtgpdmgbnefoegaaW.PrintMore
def cs2 (x : Int × Int) : List Value := [.int .i64 x.1, .int .i64 x.2]
def RowAt (W : World) (g cap n : Nat) (f : Nat → Int × Int) : Prop :=
  ∃ cur : Array Value, W.heap[g]? = some (.cells cur 44 (0, 0)) ∧ cur.size = cap * 2 ∧ n ≤ cap ∧ ∀ j, j < n → cur[j * 2]? = some (.int .i64 (f j).1) ∧ cur[j * 2 + 1]? = some (.int .i64 (f j).2)
theorem RowAt.cell0 {W : World} {g cap n : Nat} {f : Nat → Int × Int} (h : RowAt W g cap n f) {j : Nat} (hj : j < n) : W.cell? ⟨g, j * 2, none⟩ = some (.int .i64 (f j).1) := by
  obtain ⟨cur, hb, _, _, hc⟩ := h
  rw [blk_cell hb]; exact (hc j hj).1
theorem RowAt.cell1 {W : World} {g cap n : Nat} {f : Nat → Int × Int} (h : RowAt W g cap n f) {j : Nat} (hj : j < n) : W.cell? ⟨g, j * 2 + 1, none⟩ = some (.int .i64 (f j).2) := by
  obtain ⟨cur, hb, _, _, hc⟩ := h
  rw [blk_cell hb]; exact (hc j hj).2
theorem RowAt.frozen {W : World} {g cap n : Nat} {f : Nat → Int × Int} (h : RowAt W g cap n f) (i : Nat) : W.frozen? ⟨g, i, none⟩ = false := by
  obtain ⟨cur, hb, _⟩ := h
  exact blk_frozen hb i
theorem RowAt.lt {W : World} {g cap n : Nat} {f : Nat → Int × Int} (h : RowAt W g cap n f) : g < W.heap.size := by
  obtain ⟨cur, hb, _⟩ := h
  exact blk_lt hb
theorem RowAt.below {W W' : World} {g cap n : Nat} {f : Nat → Int × Int} (h : RowAt W g cap n f) (hb : Below W.heap.size W W') : RowAt W' g cap n f := by
  obtain ⟨cur, h1, h2⟩ := h
  exact ⟨cur, blk_below h1 hb, h2⟩
theorem RowAt.put {W : World} {g cap n : Nat} {f : Nat → Int × Int} (h : RowAt W g cap n f) {i : Nat} (hi : i < n) (x : Int × Int) : RowAt ((W.setCell ⟨g, i * 2, none⟩ (.int .i64 x.1)).setCell ⟨g, i * 2 + 1, none⟩ (.int .i64 x.2)) g cap n (fun j => if j = i then x else f j) := by
  obtain ⟨cur, h1, h2, h3, hc⟩ := h
  refine ⟨(cur.setIfInBounds (i * 2) (.int .i64 x.1)).setIfInBounds (i * 2 + 1) (.int .i64 x.2), blk_set (blk_set h1 _ _) _ _, by simpa using h2, h3, fun j hj => ?_⟩
  by_cases e : j = i
  · subst e
    dsimp only
    rw [if_pos rfl]
    constructor
    · rw [Array.getElem?_setIfInBounds_ne (by omega), Array.getElem?_setIfInBounds_self_of_lt (by omega)]
    · rw [Array.getElem?_setIfInBounds_self_of_lt (by simp; omega)]
  · dsimp only
    rw [if_neg e]
    constructor
    · rw [Array.getElem?_setIfInBounds_ne (by omega), Array.getElem?_setIfInBounds_ne (by omega)]; exact (hc j hj).1
    · rw [Array.getElem?_setIfInBounds_ne (by omega), Array.getElem?_setIfInBounds_ne (by omega)]; exact (hc j hj).2
theorem flat_len : ∀ (ps : List (Int × Int)), (ps.flatMap cs2).length = ps.length * 2
  | [] => rfl
  | x :: ps => by rw [List.flatMap_cons, List.length_append, flat_len ps, List.length_cons]; show 2 + _ = _; omega
theorem flat_at : ∀ (ps : List (Int × Int)) (j : Nat) (h : j < ps.length), (ps.flatMap cs2)[j * 2]? = some (.int .i64 ps[j].1) ∧ (ps.flatMap cs2)[j * 2 + 1]? = some (.int .i64 ps[j].2)
  | x :: ps, 0, _ => ⟨rfl, rfl⟩
  | x :: ps, j + 1, h => by
    have ih := flat_at ps j (by simpa using h)
    have e : (x :: ps).flatMap cs2 = .int .i64 x.1 :: .int .i64 x.2 :: ps.flatMap cs2 := rfl
    rw [e, show (j + 1) * 2 = j * 2 + 1 + 1 by omega]
    exact ih
def atOf (ps : List (Int × Int)) (j : Nat) : Int × Int := ps.getD j (0, 0)
theorem atOf_lt {ps : List (Int × Int)} {j : Nat} (h : j < ps.length) : atOf ps j = ps[j] := by
  unfold atOf; rw [List.getD_eq_getElem?_getD, List.getElem?_eq_getElem h]; rfl
/-- A row of the call's own that is not nil, by its cells. -/
theorem row_of {W : World} {base : Nat} {v : Value} {ps : List (Int × Int)} (h : W.ownsRow base 44 2 v ps.length (ps.flatMap cs2)) :
    (v = .slice none 0 0 ∧ ps = []) ∨ ∃ g cap, v = .slice (some ⟨g, 0, none⟩) ps.length cap ∧ base ≤ g ∧ cap ≤ maxLen ∧ RowAt W g cap ps.length (atOf ps) := by
  rcases h.2 with ⟨h1, h2⟩ | ⟨g, cap, cur, h1, h2, h3, h4, h5, h6, h7⟩
  · exact .inl ⟨h1, List.eq_nil_of_length_eq_zero h2⟩
  · refine .inr ⟨g, cap, h1, h2, h5, cur, h3, h6, h4, fun j hj => ?_⟩
    have hf := flat_at ps j hj
    rw [← h7] at hf
    rw [atOf_lt hj]
    rw [List.getElem?_take_of_lt (by omega), List.getElem?_take_of_lt (by omega)] at hf
    simpa using hf
theorem row_mk {W : World} {base g cap : Nat} {ps : List (Int × Int)} (hb : base ≤ g) (hm : cap ≤ maxLen) (h : RowAt W g cap ps.length (atOf ps)) : W.ownsRow base 44 2 (.slice (some ⟨g, 0, none⟩) ps.length cap) ps.length (ps.flatMap cs2) := by
  obtain ⟨cur, h1, h2, h3, hc⟩ := h
  refine ⟨flat_len ps, .inr ⟨g, cap, cur, rfl, hb, h1, h3, hm, h2, ?_⟩⟩
  apply List.ext_getElem?
  intro q
  by_cases hq : q < ps.length * 2
  · rw [List.getElem?_take_of_lt hq]
    obtain ⟨j, r, hr, rfl⟩ : ∃ j r, r < 2 ∧ q = j * 2 + r := ⟨q / 2, q % 2, by omega, by omega⟩
    have hj : j < ps.length := by omega
    have h1 := hc j hj
    have h2 := flat_at ps j hj
    rw [atOf_lt hj] at h1
    rcases Nat.lt_or_ge r 1 with hr1 | hr1
    · obtain rfl : r = 0 := by omega
      rw [Nat.add_zero, h2.1]; simpa using h1.1
    · obtain rfl : r = 1 := by omega
      rw [h2.2]; simpa using h1.2
  · rw [List.getElem?_eq_none (by rw [List.length_take]; omega), List.getElem?_eq_none (by rw [flat_len]; omega)]
/-- What the closure gives. -/
def Gives (gf B : Nat) (p : Int × Int → Bool) (n0 : Nat) (W0 : World) (ps : List (Int × Int)) : Prop :=
  ∀ x ∈ ps, ∀ W, Below n0 W0 W → Calls Try.prog gf #[.agg #[.int .i64 x.1, .int .i64 x.2], .pointer (some ⟨B, 0, none⟩)] W fun e w' => e = .returned (.bool (p x)) ∧ Below W.heap.size W w'
theorem t_info : (Try.prog.info? 44).map (fun i => (i.zero, i.size, i.bytes)) = some (some (.agg #[.int .i64 0, .int .i64 0]), 2, 16) := by kernel_rfl
def idxOf (p : Int × Int → Bool) (ps : List (Int × Int)) : Int := if ps.findIdx p < ps.length then (ps.findIdx p : Int) else -1
theorem idx_hit {p : Int × Int → Bool} {ps : List (Int × Int)} {k : Nat} (hk : k < ps.length) (h : p ps[k] = true) (hl : ∀ j, (hj : j < k) → p (ps[j]'(by omega)) = false) : idxOf p ps = k := by
  have : ps.findIdx p = k := by
    rw [List.findIdx_eq hk]
    exact ⟨h, fun j hj => by simpa using hl j hj⟩
  unfold idxOf
  rw [this, if_pos hk]
theorem idx_miss {p : Int × Int → Bool} {ps : List (Int × Int)} (hl : ∀ j, (hj : j < ps.length) → p ps[j] = false) : idxOf p ps = -1 := by
  have : ps.findIdx p = ps.length := by
    rw [List.findIdx_eq_length]
    intro x hx
    obtain ⟨j, hj, rfl⟩ := List.getElem_of_mem hx
    exact hl j hj
  unfold idxOf
  rw [this, if_neg (Nat.lt_irrefl _)]
set_option maxRecDepth 100000
set_option maxHeartbeats 2000000
theorem index_nil (a : Option Addr) (c : Nat) (fv : Value) (w : World) :
    Calls Try.prog 53 #[.slice a 0 c, fv] w fun e w' => e = .returned (.int .i64 (-1)) ∧ w = w' := by
  go_enter Try.func53, Try.ntmps53
  go_wp2
  go_loopg [5, 8] 0 (fun _ _ s8 wr => s8 = .int .i64 0 ∧ wr = w)
  case atStart => exact ⟨rfl, rfl⟩
  case round =>
    obtain ⟨rfl, rfl⟩ := hrel
    go_wp2
    go_ret
    exact ⟨rfl, rfl⟩
theorem index_in (B : Nat) (p : Int × Int → Bool) (n0 : Nat) (W0 : World) (ps : List (Int × Int)) (g cap : Nat) (w : World) (hp : Gives 41 B p n0 W0 ps) (hb : Below n0 W0 w) (hn0 : n0 ≤ w.heap.size) (hR : RowAt w g cap ps.length (atOf ps)) (hm : cap ≤ maxLen) :
    Calls Try.prog 53 #[.slice (some ⟨g, 0, none⟩) ps.length cap, .func (.func 41) #[] #[.pointer (some ⟨B, 0, none⟩)]] w fun e w' => e = .returned (.int .i64 (idxOf p ps)) ∧ Below w.heap.size w w' := by
  have eg : ∀ args w, (callFunc 41 args).run Try.prog w = .ok (.enter 41 args) w := enters_of Try.func41 (by kernel_rfl) rfl
  have hnc : ps.length ≤ cap := by obtain ⟨_, _, _, h, _⟩ := hR; exact h
  have HP := Go.Lib.hid hp
  have HB := Go.Lib.hid (And.intro hb hn0)
  have HR := Go.Lib.hid hR
  have hbig : ps.length ≤ 9223372036854775807 := by unfold maxLen at hm; omega
  clear hp hb hR hn0 hm hnc
  go_enter Try.func53, Try.ntmps53
  go_wp2
  go_loopg [5, 8] ps.length (fun gg _ s8 wr => ∃ kk : Nat, kk ≤ ps.length ∧ ps.length - kk ≤ gg ∧ s8 = .int .i64 kk ∧ Aside0 (Below w.heap.size w wr) ∧ Aside0 (∀ j, (hj : j < kk) → (hj2 : j < ps.length) → p ps[j] = false))
  case atStart => exact ⟨0, Nat.zero_le _, by omega, rfl, ⟨Below.refl _ _⟩, ⟨fun j hj => absurd hj (Nat.not_lt_zero _)⟩⟩
  case round =>
    obtain ⟨kk, hkk, hg, rfl, A, C⟩ := hrel
    by_cases hlt : kk < ps.length
    · have hltz : (kk : Int) < (ps.length : Int) := by omega
      have hr := HR.out.below A.out
      have hc0 := hr.cell0 hlt
      have hc1 := hr.cell1 hlt
      rw [atOf_lt hlt] at hc0 hc1
      have hcall := HP.out ps[kk] (List.getElem_mem hlt) wr (HB.out.1.trans (A.out.mono HB.out.2))
      obtain ⟨y, hy⟩ : ∃ y, y = ps[kk] := ⟨_, rfl⟩
      rw [← hy] at hc0 hc1 hcall
      have Y := Aside0.mk hy
      clear hr hy
      cases hq : p y with
      | true =>
        rw [hq] at hcall
        have Q := Aside0.mk hq
        clear hq
        go_wp2_with (go_at_call 41; refine hcall.mono ?_; rintro e w' ⟨rfl, hbb⟩)
        go_ret
        refine ⟨?_, below_step A.out hbb⟩
        rw [idx_hit hlt (by rw [← Y.out]; exact Q.out) (fun j hj => C.out j hj (by omega))]
        rfl
      | false =>
        rw [hq] at hcall
        have Q := Aside0.mk hq
        clear hq
        go_wp2_with (go_at_call 41; refine hcall.mono ?_; rintro e w' ⟨rfl, hbb⟩; have A2 := Aside0.mk (below_step A.out hbb); clear hbb)
        go_roundg (ps.length - (kk + 1))
        case measure => omega
        case rel =>
          refine ⟨kk + 1, by omega, by omega, by go_num, A2, ⟨fun j hj hj2 => ?_⟩⟩
          by_cases e : j = kk
          · subst e; rw [← Y.out]; exact Q.out
          · exact C.out j (by omega) hj2
    · have hltz : ¬ (kk : Int) < (ps.length : Int) := by omega
      have : kk = ps.length := by omega
      have HE := Go.Lib.hid (show idxOf p ps = -1 from idx_miss (fun j hj => C.out j (by omega) hj))
      subst this
      go_wp2
      go_ret
      exact ⟨by rw [HE.out]; rfl, A.out⟩
theorem RowAt.mono {W : World} {g cap n m : Nat} {f f' : Nat → Int × Int} (h : RowAt W g cap n f) (hm : m ≤ n) (hf : ∀ j, j < m → f j = f' j) : RowAt W g cap m f' := by
  obtain ⟨cur, h1, h2, h3, hc⟩ := h
  exact ⟨cur, h1, h2, by omega, fun j hj => by rw [← hf j hj]; exact hc j (by omega)⟩
theorem RowAt.sets : ∀ (vs : List Value) (o : Nat) {W : World} {g cap i : Nat} {f : Nat → Int × Int}, RowAt W g cap i f → i * 2 ≤ o → RowAt (W.setCells g o vs) g cap i f
  | [], _, _, _, _, _, _, h, _ => h
  | v :: vs, o, W, g, cap, i, f, h, ho => by
    refine RowAt.sets vs (o + 1) ?_ (by omega)
    obtain ⟨cur, h1, h2, h3, hc⟩ := h
    refine ⟨_, blk_set h1 o v, by simpa using h2, h3, fun j hj => ?_⟩
    rw [Array.getElem?_setIfInBounds_ne (by omega), Array.getElem?_setIfInBounds_ne (by omega)]
    exact hc j hj
theorem zero_val (w : World) : (zeroValue 44).run Try.prog w = .ok (.agg #[.int .i64 0, .int .i64 0]) w := by kernel_rfl
def zc (m : Nat) : List Value := (Builtin.zeroCells #[.int .i64 0, .int .i64 0] m).toList
theorem zc_len (m : Nat) : (zc m).length = m * 2 := by simp [zc, Builtin.zeroCells]
theorem zc_one (m : Nat) : ∀ v ∈ zc m, v.oneCell' = true := by
  intro v hv
  unfold zc Builtin.zeroCells at hv
  simp at hv
  obtain ⟨a, ha, rfl⟩ := hv
  rcases Nat.mod_two_eq_zero_or_one a with h | h <;> simp [h, Value.oneCell']
theorem clear_run (W : World) (ty : TypeId) (g o m c : Nat) (hm : 0 < m) (hc : ∀ j, j < m * 2 → (W.cell? ⟨g, o + j, none⟩).isSome = true) (hf : ∀ j, W.frozen? ⟨g, j, none⟩ = false) :
    (Builtin.clear_ #[30] ty #[.slice (some ⟨g, o, none⟩) m c]).run Try.prog W = .ok (.tuple #[]) (W.setCells g o (zc m)) := by
  have hst := run_storeCells_cells (P := Try.prog) g o (zc m) 0 W (by rw [zc_len]; simpa using hc) (fun j _ => hf _) (zc_one m)
  simp only [Nat.add_zero] at hst
  obtain ⟨k, rfl⟩ : ∃ k, m = k + 1 := ⟨m - 1, by omega⟩
  unfold zc at hst ⊢
  simp [Builtin.clear_, run_underlying Try.underlying30, Value.cells, hst]
theorem box_blk (W : World) (y : Int × Int) : (W.alloc (.cells #[.int .i64 y.1, .int .i64 y.2] 44)).heap[W.heap.size]? = some (.cells #[.int .i64 y.1, .int .i64 y.2] 44 (0, 0)) := blk_new W _
theorem box_below (W : World) (y : Int × Int) : Below W.heap.size W (W.alloc (.cells #[.int .i64 y.1, .int .i64 y.2] 44)) := (Below.refl _ W).alloc (Nat.le_refl _) _
def np (p : Int × Int → Bool) (x : Int × Int) : Bool := !p x
/-- What holds of the row while it is rewritten. -/
def Inv (p : Int × Int → Bool) (ps : List (Int × Int)) (g cap i j : Nat) (W : World) : Prop :=
  i = ((ps.take j).filter (np p)).length ∧ ∃ f, RowAt W g cap ps.length f ∧ (∀ t, t < i → f t = atOf ((ps.take j).filter (np p)) t) ∧ ∀ t, j ≤ t → t < ps.length → f t = atOf ps t
theorem Inv.below {p : Int × Int → Bool} {ps : List (Int × Int)} {g cap i j : Nat} {W W' : World} (h : Inv p ps g cap i j W) (hb : Below W.heap.size W W') : Inv p ps g cap i j W' := by
  obtain ⟨h1, f, h2, h3⟩ := h
  exact ⟨h1, f, h2.below hb, h3⟩
theorem atOf_append_lt {l m : List (Int × Int)} {t : Nat} (h : t < l.length) : atOf (l ++ m) t = atOf l t := by
  unfold atOf; rw [List.getD_eq_getElem?_getD, List.getD_eq_getElem?_getD, List.getElem?_append_left h]
theorem atOf_append_self {l : List (Int × Int)} {x : Int × Int} : atOf (l ++ [x]) l.length = x := by
  unfold atOf; rw [List.getD_eq_getElem?_getD, List.getElem?_append_right (Nat.le_refl _)]; simp
theorem take_succ_filter (p : Int × Int → Bool) (ps : List (Int × Int)) {j : Nat} (hj : j < ps.length) : (ps.take (j + 1)).filter (np p) = (ps.take j).filter (np p) ++ (if p ps[j] then [] else [ps[j]]) := by
  rw [List.take_succ_eq_append_getElem hj, List.filter_append]
  congr 1
  unfold np
  cases h : p ps[j] <;> simp [h]
theorem Inv.skip {p : Int × Int → Bool} {ps : List (Int × Int)} {g cap i j : Nat} {W : World} (h : Inv p ps g cap i j W) (hj : j < ps.length) (hp : p ps[j] = true) : Inv p ps g cap i (j + 1) W := by
  obtain ⟨h1, f, h2, h3, h4⟩ := h
  refine ⟨?_, f, h2, ?_, fun t h5 h6 => h4 t (by omega) h6⟩
  · rw [take_succ_filter p ps hj, if_pos hp, List.append_nil]; exact h1
  · rw [take_succ_filter p ps hj, if_pos hp, List.append_nil]; exact h3
theorem Inv.keep {p : Int × Int → Bool} {ps : List (Int × Int)} {g cap i j : Nat} {W : World} (h : Inv p ps g cap i j W) (hij : i < j) (hj : j < ps.length) (hp : p ps[j] = false) : Inv p ps g cap (i + 1) (j + 1) ((W.setCell ⟨g, i * 2, none⟩ (.int .i64 (ps[j]).1)).setCell ⟨g, i * 2 + 1, none⟩ (.int .i64 (ps[j]).2)) := by
  obtain ⟨h1, f, h2, h3, h4⟩ := h
  have e : (ps.take (j + 1)).filter (np p) = (ps.take j).filter (np p) ++ [ps[j]] := by rw [take_succ_filter p ps hj, if_neg (by rw [hp]; decide)]
  refine ⟨by rw [e, List.length_append, ← h1]; rfl, _, h2.put (by omega) ps[j], fun t ht => ?_, fun t h5 h6 => ?_⟩
  · rw [e]
    by_cases ht2 : t = i
    · subst ht2
      rw [if_pos rfl]
      conv => rhs; arg 2; rw [h1]
      rw [atOf_append_self]
    · rw [if_neg ht2, atOf_append_lt (by omega)]
      exact h3 t (by omega)
  · rw [if_neg (by omega)]
    exact h4 t (by omega) h6
theorem idx_cases (p : Int × Int → Bool) (ps : List (Int × Int)) : (idxOf p ps = -1 ∧ ps.filter (np p) = ps) ∨ ∃ k : Nat, k < ps.length ∧ idxOf p ps = k ∧ (ps.take (k + 1)).filter (np p) = ps.take k := by
  unfold idxOf
  by_cases h : ps.findIdx p < ps.length
  · rw [if_pos h]
    refine .inr ⟨_, h, rfl, ?_⟩
    have hp : p ps[ps.findIdx p] = true := List.findIdx_getElem
    rw [take_succ_filter p ps h, if_pos hp, List.append_nil, List.filter_eq_self]
    intro x hx
    obtain ⟨j, hj, rfl⟩ := List.getElem_of_mem hx
    rw [List.length_take] at hj
    rw [List.getElem_take]
    have hlt : j < ps.findIdx p := by omega
    have := List.not_of_lt_findIdx hlt
    unfold np
    simpa using this
  · rw [if_neg h]
    refine .inl ⟨rfl, ?_⟩
    rw [List.filter_eq_self]
    intro x hx
    have := List.findIdx_eq_length.1 (show ps.findIdx p = ps.length from Nat.le_antisymm List.findIdx_le_length (by omega)) x hx
    unfold np
    simpa using this
theorem delete_nil (fv : Value) (w : World) : Calls Try.prog 40 #[.slice none 0 0, fv] w fun e w' => e = .returned (.slice none 0 0) ∧ w = w' := by
  go_enter Try.func40, Try.ntmps40
  go_wp2_with (go_at_call 53; refine (index_nil none 0 _ _).mono ?_; rintro e w' ⟨rfl, rfl⟩)
  go_ret
  exact ⟨rfl, rfl⟩
theorem delete_in (B : Nat) (p : Int × Int → Bool) (n0 : Nat) (W0 : World) (ps : List (Int × Int)) (v : Value) (w : World) (hp : Gives 41 B p n0 W0 ps) (hb : Below n0 W0 w) (hn0 : n0 ≤ W0.heap.size) (ho : w.ownsRow n0 44 2 v ps.length (ps.flatMap cs2)) :
    Calls Try.prog 40 #[v, .func (.func 41) #[] #[.pointer (some ⟨B, 0, none⟩)]] w fun e w' => ∃ v', e = .returned v' ∧ w'.ownsRow n0 44 2 v' (ps.filter (np p)).length ((ps.filter (np p)).flatMap cs2) ∧ Below n0 W0 w' := by
  have eg : ∀ args w, (callFunc 41 args).run Try.prog w = .ok (.enter 41 args) w := enters_of Try.func41 (by kernel_rfl) rfl
  have hnw : n0 ≤ w.heap.size := Nat.le_trans hn0 hb.size
  rcases row_of ho with ⟨rfl, rfl⟩ | ⟨g, cap, rfl, hg0, hm, hR⟩
  · exact (delete_nil _ w).mono fun e w' ⟨he, hw⟩ => ⟨_, he, by rw [← hw]; exact own_nil _ _ _ _, hw ▸ hb⟩
  have hix := index_in B p n0 W0 ps g cap w hp hb hnw hR hm
  have hnc : ps.length ≤ cap := by obtain ⟨_, _, _, h, _⟩ := hR; exact h
  rcases idx_cases p ps with ⟨h1, h2⟩ | ⟨k, hk, h1, h2⟩
  · rw [h1] at hix
    rw [h2]
    have HO := Go.Lib.hid ho
    have HB := Go.Lib.hid hb
    have HIX := Go.Lib.hid hix
    clear ho hb h2 hix h1 hR hp
    go_enter Try.func40, Try.ntmps40
    go_wp2_with (go_at_call 53; refine HIX.out.mono ?_; rintro e w' ⟨rfl, hbb⟩)
    go_ret
    exact ⟨_, rfl, pw_own_below HO.out hbb, HB.out.trans (hbb.mono hnw)⟩
  · rw [h1] at hix
    have hmx : maxLen ≤ 9223372036854775807 := by decide
    have hne : ((k : Int) == -1) = false := beq_eq_false_iff_ne.mpr (by omega)
    have HI0 := Go.Lib.hid (show Inv p ps g cap k (k + 1) w from ⟨by rw [h2, List.length_take]; omega, atOf ps, hR, fun t ht => by rw [h2]; unfold atOf; rw [List.getD_eq_getElem?_getD, List.getD_eq_getElem?_getD, List.getElem?_take_of_lt ht], fun _ _ _ => rfl⟩)
    have HB := Go.Lib.hid hb
    have HIX := Go.Lib.hid hix
    have HP := Go.Lib.hid hp
    have HM := Go.Lib.hid hm
    have HK := Go.Lib.hid hk
    have hbig : ps.length ≤ 9223372036854775807 := by omega
    have hk2 : k < 9223372036854775807 := by omega
    clear ho hb h2 hix h1 hR hp hm hmx hk
    go_enter Try.func40, Try.ntmps40
    go_wp2_with (go_at_call 53; refine HIX.out.mono ?_; rintro e w1 ⟨rfl, hbb⟩; have HBB := Go.Lib.hid hbb; clear hbb)
    go_loopg [5, 6, 7] ps.length (fun gg s5 s6 _ wr => ∃ i j : Nat, s5 = .int .i64 i ∧ s6 = .int .i64 j ∧ i < j ∧ j ≤ ps.length ∧ ps.length - j ≤ gg ∧ Aside0 (Below n0 W0 wr) ∧ Aside0 (Inv p ps g cap i j wr))
    case atStart => exact ⟨k, k + 1, rfl, by go_num, by omega, HK.out, by omega, ⟨HB.out.trans (HBB.out.mono hnw)⟩, ⟨HI0.out.below HBB.out⟩⟩
    case round =>
      obtain ⟨i, j, rfl, rfl, hij, hjn, hgg, A, I⟩ := hrel
      by_cases hlt : j < ps.length
      · have hltz : (j : Int) < (ps.length : Int) := by omega
        obtain ⟨-, f, hr, -, hf⟩ := I.out
        have hc0 := hr.cell0 hlt
        have hc1 := hr.cell1 hlt
        rw [hf j (Nat.le_refl _) hlt, atOf_lt hlt] at hc0 hc1
        have hcall := HP.out ps[j] (List.getElem_mem hlt)
        obtain ⟨y, hy⟩ : ∃ y, y = ps[j] := ⟨_, rfl⟩
        rw [← hy] at hc0 hc1 hcall
        have HC := Go.Lib.hid hcall
        have Y := Aside0.mk hy
        have HN := Go.Lib.hid (Nat.le_trans hn0 A.out.size)
        have HR := Go.Lib.hid (show RowAt wr g cap ps.length f from hr)
        clear hcall hf hy hr
        have hgw : wr.heap.size ≠ g := by have := HR.out.lt; omega
        cases hq : p y with
        | true =>
          have Q := Aside0.mk hq
          rw [hq] at HC
          clear hq
          go_wp2_with (go_at_call 41; refine (HC.out _ (A.out.trans ((box_below wr y).mono HN.out))).mono ?_; rintro e w' ⟨rfl, hbb⟩; have A2 := Aside0.mk (below_step (box_below wr y) hbb); clear hbb)
          go_roundg (ps.length - (j + 1))
          case measure => omega
          case rel => exact ⟨i, j + 1, rfl, by go_num, by omega, by omega, by omega, ⟨A.out.trans (A2.out.mono HN.out)⟩, ⟨(I.out.below A2.out).skip hlt (by rw [← Y.out]; exact Q.out)⟩⟩
        | false =>
          have Q := Aside0.mk hq
          rw [hq] at HC
          clear hq
          go_wp2_with (go_at_call 41; refine (HC.out _ (A.out.trans ((box_below wr y).mono HN.out))).mono ?_; rintro e w' ⟨rfl, hbb⟩; have hbx := blk_below (box_blk wr y) hbb; have A2 := Aside0.mk (below_step (box_below wr y) hbb); clear hbb; have hx0 : w'.cell? ⟨wr.heap.size, 0, none⟩ = some (.int .i64 y.1) := (blk_cell hbx 0).trans rfl; have hx1 : w'.cell? ⟨wr.heap.size, 1, none⟩ = some (.int .i64 y.2) := (blk_cell hbx 1).trans rfl; clear hbx; have hr2 := HR.out.below A2.out; have hd0 := hr2.cell0 (show i < ps.length by omega); have hd1 := hr2.cell1 (show i < ps.length by omega); have hf0 := hr2.frozen (i * 2); have hf1 := hr2.frozen (i * 2 + 1); clear hr2)
          go_roundg (ps.length - (j + 1))
          case measure => omega
          case rel =>
            have hk3 := (I.out.below A2.out).keep hij hlt (by rw [← Y.out]; exact Q.out)
            rw [← Y.out] at hk3
            exact ⟨i + 1, j + 1, by go_num, by go_num, by omega, by omega, by omega, ⟨((A.out.trans (A2.out.mono HN.out)).setCell (p := ⟨g, i * 2, none⟩) hg0 _).setCell (p := ⟨g, i * 2 + 1, none⟩) hg0 _⟩, ⟨hk3⟩⟩
      · obtain rfl : j = ps.length := by omega
        have hltz : ¬ ((ps.length : Int) < (ps.length : Int)) := by omega
        have hcapi : ¬ cap = i := by omega
        obtain ⟨hil, f, hr, hf, -⟩ := I.out
        rw [List.take_length] at hil hf
        have HR := Go.Lib.hid (show RowAt wr g cap (ps.filter (np p)).length (atOf (ps.filter (np p))) from hr.mono (by omega) (fun t ht => hf t (by omega)))
        have hcl : ∀ ty, (Builtin.clear_ #[30] ty #[.slice (some ⟨g, i * 2, none⟩) (ps.length - i) (cap - i)]).run Try.prog wr = .ok (.tuple #[]) (wr.setCells g (i * 2) (zc (ps.length - i))) :=
          fun ty => clear_run wr ty g (i * 2) _ _ (by omega) (fun t ht => by
            have h1 := hr.cell0 (j := (i * 2 + t) / 2) (by omega)
            have h2 := hr.cell1 (j := (i * 2 + t) / 2) (by omega)
            rcases Nat.mod_two_eq_zero_or_one (i * 2 + t) with h | h
            · rw [show (i * 2 + t) / 2 * 2 = i * 2 + t by omega] at h1; rw [h1]; rfl
            · rw [show (i * 2 + t) / 2 * 2 + 1 = i * 2 + t by omega] at h2; rw [h2]; rfl) (fun t => hr.frozen t)
        have HIL := Go.Lib.hid hil
        have hic : i ≤ cap := by omega
        clear hr hf hil
        go_wp2
        go_ret
        refine ⟨_, rfl, ?_, Go.below_setCells hg0 _ _ _ A.out⟩
        have hk := row_mk hg0 HM.out (HR.out.sets (zc (ps.length - i)) (i * 2) (by rw [HIL.out]; exact Nat.le_refl _))
        rw [← HIL.out] at hk ⊢
        exact hk
theorem flat_of_reps {α : Type} {R : α → List Value → Prop} (f : α → Int × Int) (hR : ∀ x cs, R x cs → cs = cs2 (f x)) : ∀ (ps : List α) (cs : List Value), Reps R 2 ps cs → cs = (ps.map f).flatMap cs2
  | [], cs, h => List.eq_nil_of_length_eq_zero (by simpa using h.1)
  | x :: ps, cs, h => by
    have h0 := hR x _ (h.2 0 x rfl)
    rw [Nat.zero_mul, List.drop_zero] at h0
    have h1 := flat_of_reps f hR ps (cs.drop 2) ⟨by rw [List.length_drop, h.1, List.length_cons]; omega, fun j p hj => by
      have := h.2 (j + 1) p (by simpa using hj)
      rw [List.drop_drop, show 2 + j * 2 = (j + 1) * 2 by omega]
      exact this⟩
    rw [List.map_cons, List.flatMap_cons, ← h0, ← h1, List.take_append_drop]
theorem flat_drop : ∀ (ps : List (Int × Int)) (j : Nat), (ps.flatMap cs2).drop (j * 2) = (ps.drop j).flatMap cs2
  | ps, 0 => by simp
  | [], j + 1 => by simp
  | x :: ps, j + 1 => by
    have e : (x :: ps).flatMap cs2 = .int .i64 x.1 :: .int .i64 x.2 :: ps.flatMap cs2 := rfl
    rw [e, show (j + 1) * 2 = j * 2 + 1 + 1 by omega, List.drop_succ_cons, List.drop_succ_cons, flat_drop ps j, List.drop_succ_cons]
theorem reps_of_flat {α : Type} {R : α → List Value → Prop} (f : α → Int × Int) (hR : ∀ x, R x (cs2 (f x))) (ps : List α) : Reps R 2 ps ((ps.map f).flatMap cs2) := by
  refine ⟨by rw [flat_len, List.length_map], fun j p hj => ?_⟩
  obtain ⟨hlt, rfl⟩ := List.getElem?_eq_some_iff.1 hj
  rw [flat_drop, List.drop_eq_getElem_cons (by rw [List.length_map]; exact hlt), List.getElem_map]
  exact hR _
end Go.Proofs.YtgpdmgbnefoegaaDf
