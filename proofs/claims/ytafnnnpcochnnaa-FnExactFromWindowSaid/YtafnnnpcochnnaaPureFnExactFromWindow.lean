/- The program's FromWindow returns what the reference's returns: the statement FnExactFromWindow holds for all lists and widths. -/
import Derived.Test.YtafnnnpcochnnaaPFnExactFromWindowx1
import Derived.Test.YtafnnnpcochnnaaPFnExactFromWindowx2
import Derived.Test.YtafnnnpcochnnaaPFnExactFromWindowx3
set_option linter.unusedVariables false
set_option linter.unusedSimpArgs false
namespace Go.Proofs.Ytafnnnpcochnnaa.PureFnExactFromWindowL
open Go.RowKit Go.Proofs.Ytafnnnpcochnnaa.PFnExactFromWindow Go.Proofs.YtafnnnpcochnnaaW.PrintWords Go.Proofs.YtafnnnpcochnnaaW.PrintLast Go.Proofs.YtafnnnpcochnnaaW.PrintMore
theorem up {α : Type} {g : Nat → Option α} {r : α} (h : Ev (fun k => g (k + 1)) r) : Ev g r := by
  obtain ⟨K, h⟩ := h
  refine ⟨K + 1, fun k hk => ?_⟩
  obtain ⟨m, rfl⟩ : ∃ m, k = m + 1 := ⟨k - 1, by omega⟩
  exact h m (by omega)
theorem wid {x : Int} (h0 : -9223372036854775808 ≤ x) (h1 : x ≤ 9223372036854775807) : wrap64 x = x := by unfold wrap64; omega
theorem ite_yes {α : Type} {c : Prop} [Decidable c] {a b : α} (h : c) : (if c then a else b) = a := if_pos h
theorem ite_no {α : Type} {c : Prop} [Decidable c] {a b : α} (h : ¬ c) : (if c then a else b) = b := if_neg h
theorem evsome {α β : Type} {x : Option α} {a : α} {f : Nat → α → Option β} {r : β} (hx : x = some a) (h : Ev (fun k => f k a) r) : Ev (fun k => x.bind (f k)) r := by subst hx; exact h
theorem if_pos_ev {α : Type} {c : Prop} [Decidable c] {f g : Nat → Option α} (h : c) : (fun k => if c then f k else g k) = f := funext fun k => if_pos h
theorem if_neg_ev {α : Type} {c : Prop} [Decidable c] {f g : Nat → Option α} (h : ¬ c) : (fun k => if c then f k else g k) = g := funext fun k => if_neg h
theorem rd_at {l : List Int} {i : Nat} (h : i < l.length) : rd l (i : Int) = l[i] := by
  unfold rd
  rw [Int.toNat_natCast, List.getD_eq_getElem?_getD, List.getElem?_eq_getElem h]; rfl
def allIn (a b : Int) (l : List Int) : Bool := l.all fun d => decide (a ≤ d) && decide (d ≤ b)
theorem l1In_val (x a b : Int) : spec_l1In.f x a b = some (decide (a ≤ x) && decide (x ≤ b)) := by
  unfold spec_l1In.f
  by_cases h : a ≤ x
  · rw [if_pos h]; simp [h]
  · rw [if_neg h]; simp [h]
theorem l1All_loop (a b : Int) (l : List Int) (hl : l.length ≤ 17592186044416) : ∀ (d i : Nat), i + d = l.length → Ev (fun k => spec_l1All.l0 k a b l (l.length : Int) i) (allIn a b (l.drop i)) := by
  intro d
  induction d with
  | zero =>
    intro i h
    refine up ?_
    simp only [spec_l1All.l0, if_neg (show ¬ (i : Int) < (l.length : Int) by omega)]
    rw [List.drop_of_length_le (by omega)]
    exact Ev.now _
  | succ d ih =>
    intro i h
    have hi : i < l.length := by omega
    refine up ?_
    simp only [spec_l1All.l0, if_pos (show (i : Int) < (l.length : Int) by omega), if_pos (show (0 : Int) ≤ (i : Int) by omega), l1In_val, Option.bind_some, wid (x := (i : Int) + 1) (by omega) (by omega), rd_at hi]
    have e : allIn a b (l.drop i) = ((decide (a ≤ l[i]) && decide (l[i] ≤ b)) && allIn a b (l.drop (i + 1))) := by
      rw [List.drop_eq_getElem_cons hi]; rfl
    rw [e]
    cases hb : (decide (a ≤ l[i]) && decide (l[i] ≤ b)) with
    | true => simp only [if_true, Bool.true_and]; exact ih (i + 1) (by omega)
    | false => simp only [Bool.false_eq_true, if_false, Bool.false_and]; exact Ev.now _
theorem l1All_val (a b : Int) (l : List Int) (hl : l.length ≤ 17592186044416) : Ev (fun k => spec_l1All.f k l a b) (allIn a b l) := l1All_loop a b l hl l.length 0 (by omega)
def okNum (n : Int) : Bool := decide (-1000000 ≤ n) && decide (n ≤ 1000000)
theorem siNumber_val (n : Int) : spec_siNumber.f n = some (okNum n) := by simp only [spec_siNumber.f, l1In_val, Option.bind_some]; rfl
theorem signedOk_val (n : Int) : impl_signedOk.f n = some (okNum n) := by
  simp only [impl_signedOk.f, impl_in.f, okNum]
  by_cases h : n ≥ -1000000
  · simp [h, show -1000000 ≤ n from h]
  · simp [h, show ¬ -1000000 ≤ n from h]
/-- The number that digits stand for. -/
def val : List Int → Int
  | [] => 0
  | d :: l => d + 2 * val l
def small (l : List Int) : Prop := ∀ d ∈ l, -31 ≤ d ∧ d ≤ 31
theorem small_tail {d : Int} {l : List Int} (h : small (d :: l)) : small l := fun x hx => h x (List.mem_cons_of_mem _ hx)
theorem p2 (n : Nat) : (2 : Int) ^ (n + 1) = 2 * 2 ^ n := by rw [Int.pow_succ]; omega
theorem p2_pos (n : Nat) : (1 : Int) ≤ 2 ^ n := by
  induction n with
  | zero => decide
  | succ n ih => rw [p2]; omega
theorem p2_le {f : Nat} (hf : f ≤ 24) : (2 : Int) ^ f ≤ 16777216 := by
  have h := Nat.pow_le_pow_right (n := 2) (by omega) hf
  have e : ((2 ^ f : Nat) : Int) = (2 : Int) ^ f := by simp
  omega
theorem val_bound : ∀ (l : List Int), small l → -(31 * (2 ^ l.length - 1)) ≤ val l ∧ val l ≤ 31 * (2 ^ l.length - 1)
  | [], _ => by simp [val]
  | d :: l, h => by
    have hd := h d (List.mem_cons_self ..)
    have ih := val_bound l (small_tail h)
    have e := p2 l.length
    simp only [val, List.length_cons]
    omega
theorem val_big {l : List Int} (h : small l) (hl : l.length ≤ 24) : -520093696 ≤ val l ∧ val l ≤ 520093696 := by
  have := val_bound l h
  have := p2_le hl
  omega
theorem standW_val : ∀ (l : List Int), small l → l.length ≤ 24 → standW l = val l
  | [], _, _ => rfl
  | d :: l, h, hl => by
    have hd := h d (List.mem_cons_self ..)
    simp only [List.length_cons] at hl
    have ih := standW_val l (small_tail h) (by omega)
    have hb := val_big (small_tail h) (by omega)
    show wrap64 (wrap64 (2 * standW l) + d) = d + 2 * val l
    rw [ih, wid (x := 2 * val l) (by omega) (by omega), wid (x := 2 * val l + d) (by omega) (by omega)]
    omega
theorem standing_val {l : List Int} (h : small l) (hl : l.length ≤ 24) : impl_standing.f l = some (val l) := by
  unfold impl_standing.f
  rw [if_pos (by omega), standW_val l h hl]
theorem shl_small_val {d : Int} {i : Nat} (h0 : -31 ≤ d) (h1 : d ≤ 31) (hi : i ≤ 24) : shl .i64 d (i : Int) = d * 2 ^ i := by
  unfold shl
  rw [Int.toNat_natCast, Nat.min_eq_left (show i ≤ IntKind.i64.bits by simp [IntKind.bits]; omega)]
  have hp := p2_le hi
  have hq := p2_pos i
  have hb : -520093696 ≤ d * 2 ^ i ∧ d * 2 ^ i ≤ 520093696 := by
    constructor
    · have := Int.mul_le_mul_of_nonneg_right h0 (show (0 : Int) ≤ 2 ^ i by omega); omega
    · have := Int.mul_le_mul_of_nonneg_right h1 (show (0 : Int) ≤ 2 ^ i by omega); omega
  generalize d * 2 ^ i = x at hb
  simp only [IntKind.wrap, IntKind.bits, IntKind.signed]
  simp
  omega
theorem siSum_loop (l : List Int) (h : small l) (hl : l.length ≤ 24) : ∀ (d i : Nat) (acc : Int), i + d = l.length → -(31 * (2 ^ i - 1)) ≤ acc → acc ≤ 31 * (2 ^ i - 1) → Ev (fun k => spec_siSum.l0 k acc l (l.length : Int) i) (acc + 2 ^ i * val (l.drop i)) := by
  intro d
  induction d with
  | zero =>
    intro i acc hi h0 h1
    refine up ?_
    rw [List.drop_of_length_le (by omega)]
    simp only [spec_siSum.l0, if_neg (show ¬ (i : Int) < (l.length : Int) by omega), val, Int.mul_zero, Int.add_zero]
    exact Ev.now _
  | succ d ih =>
    intro i acc hi h0 h1
    have hlt : i < l.length := by omega
    have hd := h l[i] (List.getElem_mem hlt)
    have hp := p2_le (f := i) (by omega)
    have hq := p2_pos i
    have e := p2 i
    have hx : -(31 * 2 ^ i) ≤ l[i] * 2 ^ i ∧ l[i] * 2 ^ i ≤ 31 * 2 ^ i := by
      constructor
      · have := Int.mul_le_mul_of_nonneg_right hd.1 (show (0 : Int) ≤ 2 ^ i by omega); omega
      · exact Int.mul_le_mul_of_nonneg_right hd.2 (show (0 : Int) ≤ 2 ^ i by omega)
    refine up ?_
    simp only [spec_siSum.l0, if_pos (show (i : Int) < (l.length : Int) by omega), if_pos (show (0 : Int) ≤ (i : Int) by omega), rd_at hlt, shl_small_val hd.1 hd.2 (show i ≤ 24 by omega), wid (x := acc + l[i] * 2 ^ i) (by omega) (by omega), wid (x := (i : Int) + 1) (by omega) (by omega)]
    have := ih (i + 1) (acc + l[i] * 2 ^ i) (by omega) (by omega) (by omega)
    rw [List.drop_eq_getElem_cons hlt, val]
    have e2 : acc + 2 ^ i * (l[i] + 2 * val (l.drop (i + 1))) = acc + l[i] * 2 ^ i + 2 ^ (i + 1) * val (l.drop (i + 1)) := by rw [e]; grind
    rw [e2]; exact this
theorem siSum_val {l : List Int} (h : small l) (hl : l.length ≤ 24) : Ev (fun k => spec_siSum.f k l) (val l) := by
  have := siSum_loop l h hl l.length 0 0 (by omega) (by decide) (by decide)
  simpa [spec_siSum.f] using this
/-- Of any w neighbours at most one is other than 0; the last such stands at 'last'. -/
def apartFrom (w : Int) : List Int → Int → Int → Bool
  | [], _, _ => true
  | d :: l, i, last => if d = 0 then apartFrom w l (i + 1) last else if i - last < w then false else apartFrom w l (i + 1) i
def lastOk (l : List Int) : Bool := if (l.length : Int) = 0 then true else (rd l ((l.length : Int) - 1) != 0)
def sparseB (w : Int) (l : List Int) : Bool := lastOk l && apartFrom w l 0 (-w)
theorem specApart_loop (w : Int) (hw0 : 2 ≤ w) (hw1 : w ≤ 6) (l : List Int) (hl : l.length ≤ 1000000) : ∀ (d i : Nat) (last : Int), i + d = l.length → -10 ≤ last → last ≤ i → Ev (fun k => spec_siApart.l0 k l w last l (l.length : Int) i) (apartFrom w (l.drop i) i last && lastOk l) := by
  intro d
  induction d with
  | zero =>
    intro i last h h0 h1
    refine up ?_
    rw [List.drop_of_length_le (by omega)]
    simp only [spec_siApart.l0, if_neg (show ¬ (i : Int) < (l.length : Int) by omega), apartFrom, Bool.true_and]
    unfold lastOk
    by_cases hz : (l.length : Int) = 0
    · simp only [hz, if_true]; exact Ev.now _
    · simp only [hz, if_false, wid (x := (l.length : Int) - 1) (by omega) (by omega), if_pos (show (0 : Int) ≤ (l.length : Int) - 1 by omega), if_pos (show (l.length : Int) - 1 < (l.length : Int) by omega)]
      exact Ev.now _
  | succ d ih =>
    intro i last h h0 h1
    have hi : i < l.length := by omega
    refine up ?_
    simp only [spec_siApart.l0, if_pos (show (i : Int) < (l.length : Int) by omega), if_pos (show (0 : Int) ≤ (i : Int) by omega), wid (x := (i : Int) + 1) (by omega) (by omega), wid (x := (i : Int) - last) (by omega) (by omega), rd_at hi]
    rw [List.drop_eq_getElem_cons hi]
    by_cases hz : l[i] = 0
    · simp only [hz, if_true, apartFrom]
      exact ih (i + 1) last (by omega) h0 (by omega)
    · simp only [hz, if_false, apartFrom]
      by_cases hc : (i : Int) - last < w
      · simp only [hc, if_true, Bool.false_and]; exact Ev.now _
      · simp only [hc, if_false]
        exact ih (i + 1) i (by omega) (by omega) (by omega)
theorem specApart (w : Int) (hw0 : 2 ≤ w) (hw1 : w ≤ 6) (l : List Int) (hl : l.length ≤ 1000000) : Ev (fun k => spec_siApart.f k l w) (sparseB w l) := by
  have := specApart_loop w hw0 hw1 l hl l.length 0 (-w) (by omega) (by omega) (by omega)
  unfold sparseB
  rw [Bool.and_comm]
  simpa [spec_siApart.f, wid (x := -w) (by omega) (by omega)] using this
theorem implSparse_loop (w : Int) (hw0 : 2 ≤ w) (hw1 : w ≤ 6) (l : List Int) (hl : l.length ≤ 1000000) : ∀ (d i : Nat) (last : Int), i + d = l.length → -10 ≤ last → last ≤ i → Ev (fun k => impl_sparse.l0 k w last l (l.length : Int) i) (apartFrom w (l.drop i) i last) := by
  intro d
  induction d with
  | zero =>
    intro i last h h0 h1
    refine up ?_
    rw [List.drop_of_length_le (by omega)]
    simp only [impl_sparse.l0, if_neg (show ¬ (i : Int) < (l.length : Int) by omega), apartFrom]
    exact Ev.now _
  | succ d ih =>
    intro i last h h0 h1
    have hi : i < l.length := by omega
    refine up ?_
    simp only [impl_sparse.l0, if_pos (show (i : Int) < (l.length : Int) by omega), if_pos (show (0 : Int) ≤ (i : Int) by omega), wid (x := (i : Int) + 1) (by omega) (by omega), wid (x := (i : Int) - last) (by omega) (by omega), rd_at hi]
    rw [List.drop_eq_getElem_cons hi]
    by_cases hz : l[i] = 0
    · simp only [hz, if_true, apartFrom]
      exact ih (i + 1) last (by omega) h0 (by omega)
    · simp only [hz, if_false, apartFrom]
      by_cases hc : (i : Int) - last < w
      · simp only [hc, if_true]; exact Ev.now _
      · simp only [hc, if_false]
        exact ih (i + 1) i (by omega) (by omega) (by omega)
theorem implSparse (w : Int) (hw0 : 2 ≤ w) (hw1 : w ≤ 6) (l : List Int) (hl : l.length ≤ 1000000) : Ev (fun k => impl_sparse.f k l w) (sparseB w l) := by
  have hloop := implSparse_loop w hw0 hw1 l hl l.length 0 (-w) (by omega) (by omega) (by omega)
  have go : ∀ b : Bool, (!b) = lastOk l → Ev (fun k => impl_sparse.j0 k l w b) (sparseB w l) := by
    intro b hb
    refine up ?_
    unfold sparseB
    rw [← hb]
    cases b with
    | true => simp only [impl_sparse.j0, if_true, Bool.not_true, Bool.false_and]; exact Ev.now _
    | false => simpa [impl_sparse.j0, wid (x := -w) (by omega) (by omega)] using hloop
  simp only [impl_sparse.f]
  by_cases hz : (l.length : Int) > 0
  · simp only [hz, if_true, wid (x := (l.length : Int) - 1) (by omega) (by omega), if_pos (show (0 : Int) ≤ (l.length : Int) - 1 by omega), if_pos (show (l.length : Int) - 1 < (l.length : Int) by omega)]
    refine go _ ?_
    unfold lastOk
    rw [if_neg (by omega)]; rfl
  · simp only [hz, if_false]
    refine go false ?_
    unfold lastOk
    rw [if_pos (by omega)]; rfl
theorem toIntS_loop (l : List Int) (hl : l.length ≤ 17592186044416) : ∀ (d : Nat) (i : Nat) (acc : List Int), i + d = l.length → acc.length = l.length → (∀ j, j < i → acc[j]? = l[j]?) → Ev (fun k => laws_toIntS.l0 k l acc i) l := by
  intro d
  induction d with
  | zero =>
    intro i acc h ha hj
    refine up ?_
    simp only [laws_toIntS.l0, if_neg (show ¬ (i : Int) < (l.length : Int) by omega)]
    have : acc = l := List.ext_getElem? fun j => by
      rcases Nat.lt_or_ge j i with h1 | h1
      · exact hj j h1
      · rw [List.getElem?_eq_none (by omega), List.getElem?_eq_none (by omega)]
    rw [this]
    exact Ev.now _
  | succ d ih =>
    intro i acc h ha hj
    refine up ?_
    simp only [laws_toIntS.l0, if_pos (show (i : Int) < (l.length : Int) by omega), if_pos (show (0 : Int) ≤ (i : Int) by omega), if_pos (show (i : Int) < (acc.length : Int) by omega), wid (x := (i : Int) + 1) (by omega) (by omega), Int.toNat_natCast]
    refine ih (i + 1) _ (by omega) (by simp [ha]) fun j hj2 => ?_
    by_cases e : j = i
    · subst e
      rw [List.getElem?_set_self (by omega)]
      unfold rd
      rw [Int.toNat_natCast, List.getD_eq_getElem?_getD, List.getElem?_eq_getElem (show j < l.length by omega)]; rfl
    · rw [List.getElem?_set_ne (by omega)]
      exact hj j (by omega)
theorem toIntS_val (l : List Int) (hl : l.length ≤ 17592186044416) : Ev (fun k => laws_toIntS.f k l) l := by
  simp only [laws_toIntS.f, if_pos (show (0 : Int) ≤ (l.length : Int) by omega), Int.toNat_natCast, if_pos (show l.length ≤ 35184372088832 by omega)]
  exact toIntS_loop l hl l.length 0 _ (by omega) (by simp) (fun j hj => by omega)
theorem eqIntS_loop (l : List Int) (hl : l.length ≤ 140737488351232) : ∀ (d : Nat) (i : Int), 0 ≤ i → i + d = l.length → Ev (fun k => laws_eqIntS.l0 k l l i) true := by
  intro d
  induction d with
  | zero =>
    intro i h0 h
    refine up ?_
    simp only [laws_eqIntS.l0, if_neg (show ¬ i < (l.length : Int) by omega)]
    exact Ev.now _
  | succ d ih =>
    intro i h0 h
    refine up ?_
    simp only [laws_eqIntS.l0, if_pos (show i < (l.length : Int) by omega), if_pos h0, if_true, wid (x := i + 1) (by omega) (by omega)]
    exact ih (i + 1) (by omega) (by omega)
theorem eqIntS_same (l : List Int) (hl : l.length ≤ 140737488351232) : Ev (fun k => laws_eqIntS.f k l l) true := by
  simp only [laws_eqIntS.f, if_true]
  exact eqIntS_loop l hl l.length 0 (by omega) (by omega)
theorem tmod_in {a b : Int} (hb : 0 < b) : -b < Int.tmod a b ∧ Int.tmod a b < b := ⟨Int.lt_tmod_of_pos a hb, Int.tmod_lt_of_pos a hb⟩
theorem posmod {a b : Int} (hb : 0 < b) (hb2 : b ≤ 1000000000000000) : Int.tmod (wrap64 ((Int.tmod a b) + b)) b = a % b := by
  have h := tmod_in (a := a) hb
  rw [wid (by omega) (by omega), Int.tmod_eq_emod_of_nonneg (by omega), Int.add_emod_right]
  rw [Int.tmod_def, Int.sub_mul_emod_self_left]
theorem odd_test (x : Int) : Int.tmod x 2 = 0 ↔ x % 2 = 0 := by
  rw [← Int.dvd_iff_tmod_eq_zero, ← Int.dvd_iff_emod_eq_zero]
theorem half_even {x : Int} (h : x % 2 = 0) : Int.tdiv x 2 = x / 2 := Int.tdiv_eq_ediv_of_dvd (Int.dvd_of_emod_eq_zero h)
theorem siOdd_val (x : Int) : spec_siOdd.f x = some (decide (¬ x % 2 = 0)) := by
  unfold spec_siOdd.f
  by_cases h : x % 2 = 0
  · have := (odd_test x).2 h; simp [h, this]
  · have := mt (odd_test x).1 h; simp [h, this]
theorem mostOf_range (w : Int) : 1 ≤ mostOf w ∧ mostOf w ≤ 31 := by
  unfold mostOf
  split
  · omega
  · split
    · omega
    · split
      · omega
      · split <;> omega
/-- All digits that are other than 0 are odd. -/
def oddOk (l : List Int) : Bool := l.all fun d => d == 0 || decide (¬ d % 2 = 0)
theorem oddOk_cons (d : Int) (l : List Int) : oddOk (d :: l) = ((d == 0 || decide (¬ d % 2 = 0)) && oddOk l) := rfl
theorem odd_loop (w : Int) (l : List Int) (hl : l.length ≤ 1000000) : ∀ (d i : Nat), i + d = l.length → ∀ r, (oddOk (l.drop i) = false → r = ((0 : Int), false)) → (oddOk (l.drop i) = true → Ev (fun k => spec_FromWindow.l0 k l w l (l.length : Int) (l.length : Int)) r) → Ev (fun k => spec_FromWindow.l0 k l w l (l.length : Int) i) r := by
  intro d
  induction d with
  | zero =>
    intro i h r _ h2
    have e : i = l.length := by omega
    subst e
    exact h2 (by rw [List.drop_length]; rfl)
  | succ d ih =>
    intro i h r h1 h2
    have hi : i < l.length := by omega
    rw [List.drop_eq_getElem_cons hi] at h1 h2
    have hstep : Ev (fun k => spec_FromWindow.l0 k l w l (l.length : Int) ((i : Int) + 1)) r → (l[i] = 0 ∨ ¬ l[i] % 2 = 0) → Ev (fun k => spec_FromWindow.l0 k l w l (l.length : Int) i) r := by
      intro h3 h4
      refine up ?_
      simp only [spec_FromWindow.l0, if_pos (show (i : Int) < (l.length : Int) by omega), if_pos (show (0 : Int) ≤ (i : Int) by omega), wid (x := (i : Int) + 1) (by omega) (by omega), rd_at hi, siOdd_val, Option.bind_some]
      by_cases hz : l[i] = 0
      · simp only [hz, if_true]; exact h3
      · have ho := h4.resolve_left hz
        simp only [hz, if_false, ho, not_false_eq_true, decide_true, if_true]
        exact h3
    by_cases hb : l[i] = 0 ∨ ¬ l[i] % 2 = 0
    · have hb2 : (l[i] == 0 || decide (¬ l[i] % 2 = 0)) = true := by rcases hb with h | h <;> simp [h]
      refine hstep (ih (i + 1) (by omega) r (fun h => h1 ?_) (fun h => h2 ?_)) hb
      · rw [oddOk_cons, hb2, Bool.true_and]; exact h
      · rw [oddOk_cons, hb2, Bool.true_and]; exact h
    · have hz : ¬ l[i] = 0 := fun h => hb (.inl h)
      have ho : l[i] % 2 = 0 := Classical.not_not.1 fun h => hb (.inr h)
      have hb2 : (l[i] == 0 || decide (¬ l[i] % 2 = 0)) = false := by simp [hz, ho]
      have := h1 (by rw [oddOk_cons, hb2, Bool.false_and])
      subst this
      refine up ?_
      simp only [spec_FromWindow.l0, if_pos (show (i : Int) < (l.length : Int) by omega), if_pos (show (0 : Int) ≤ (i : Int) by omega), rd_at hi, siOdd_val, Option.bind_some, hz, if_false, ho, not_true_eq_false, decide_false, Bool.false_eq_true]
      exact Ev.now _
theorem odd_all (w : Int) (l : List Int) (hl : l.length ≤ 1000000) (r : Int × Bool) (h1 : oddOk l = false → r = (0, false)) (h2 : oddOk l = true → Ev (fun k => spec_FromWindow.l0 k l w l (l.length : Int) (l.length : Int)) r) : Ev (fun k => spec_FromWindow.l0 k l w l (l.length : Int) 0) r := odd_loop w l hl l.length 0 (by omega) r (by simpa using h1) (by simpa using h2)
theorem misfit_eq (m d : Int) : (!misfit m d) = ((d == 0 || decide (¬ d % 2 = 0)) && (d == 0 || (decide (-m ≤ d) && decide (d ≤ m)))) := by
  unfold misfit
  by_cases hz : d = 0
  · simp [hz]
  · have e : (Int.tmod d 2 == 0) = decide (d % 2 = 0) := by
      by_cases h : d % 2 = 0
      · have := (odd_test d).2 h; simp [h, this]
      · have := mt (odd_test d).1 h; simp [h, this]
    rw [e]
    by_cases h : d % 2 = 0 <;> simp [hz, h]
theorem winB_eq (m : Int) (hm : 0 ≤ m) (l : List Int) : (!winB m l) = (allIn (-m) m l && oddOk l) := by
  induction l with
  | nil => rfl
  | cons d l ih =>
    have e1 : (!winB m (d :: l)) = ((!misfit m d) && !winB m l) := by show (!(misfit m d || winB m l)) = _; rw [Bool.not_or]
    have e2 : allIn (-m) m (d :: l) = ((decide (-m ≤ d) && decide (d ≤ m)) && allIn (-m) m l) := rfl
    rw [e1, e2, oddOk_cons, ih, misfit_eq]
    generalize allIn (-m) m l = A
    generalize oddOk l = B
    by_cases hz : d = 0
    · subst hz
      have h1 : (decide (-m ≤ 0) && decide (0 ≤ m)) = true := by rw [decide_eq_true (by omega), decide_eq_true (by omega)]; rfl
      rw [h1]
      cases A <;> cases B <;> rfl
    · have h1 : (d == 0) = false := beq_eq_false_iff_ne.mpr hz
      rw [h1, Bool.false_or, Bool.false_or]
      generalize decide (¬ d % 2 = 0) = C
      generalize (decide (-m ≤ d) && decide (d ≤ m)) = D
      cases A <;> cases B <;> cases C <;> cases D <;> rfl
/-- What FromWindow answers. -/
def winV (l : List Int) (w : Int) : Int × Bool := if 2 ≤ w ∧ w ≤ 6 then (if l.length ≤ 24 then (if sparseB w l = true then (if winB (mostOf w) l = true then (0, false) else if okNum (val l) = true then (val l, true) else (0, false)) else (0, false)) else (0, false)) else (0, false)
theorem small_of {m : Int} (hm : m ≤ 31) {l : List Int} (h : allIn (-m) m l = true) : small l := fun d hd => by
  have := List.all_eq_true.1 h d hd
  simp only [Bool.and_eq_true, decide_eq_true_eq] at this
  omega
theorem implW (l : List Int) (w : Int) : Ev (fun k => impl_FromWindow.f k l w) (winV l w) := by
  simp only [impl_FromWindow.f, winV]
  by_cases h1 : 2 ≤ w ∧ w ≤ 6
  · simp only [if_pos h1]
    by_cases h2 : l.length ≤ 24
    · simp only [if_pos h2]
      refine Ev.bind (implSparse w h1.1 h1.2 l (by omega)) ?_
      by_cases h3 : sparseB w l = true
      · simp only [h3, if_true]
        by_cases h4 : winB (mostOf w) l = true
        · simp only [h4, if_true]; exact Ev.now _
        · have hs : small l := by
            have e := winB_eq (mostOf w) (by have := mostOf_range w; omega) l
            rw [show winB (mostOf w) l = false by simpa using h4] at e
            have := (Bool.and_eq_true _ _).mp e.symm
            exact small_of (mostOf_range w).2 this.1
          simp only [h4, if_false, standing_val hs h2, signedOk_val, Option.bind_some, Bool.false_eq_true]
          by_cases h5 : okNum (val l) = true
          · simp only [h5, if_true]; exact Ev.now _
          · simp only [h5, if_false, Bool.false_eq_true]; exact Ev.now _
      · simp only [h3, if_false, Bool.false_eq_true]; exact Ev.now _
    · simp only [if_neg h2]; exact Ev.now _
  · simp only [if_neg h1]; exact Ev.now _
theorem siWidth_val (w : Int) : spec_siWidth.f w = some (decide (2 ≤ w) && decide (w ≤ 6)) := by
  simp only [spec_siWidth.f, l1In_val, Option.bind_some]
theorem bounds (w : Int) (h : 2 ≤ w ∧ w ≤ 6) : wrap64 (w - 1) = w - 1 ∧ 0 ≤ w - 1 ∧ wrap64 (1 - shl .i64 1 (w - 1)) = -mostOf w ∧ wrap64 (shl .i64 1 (w - 1) - 1) = mostOf w := by
  have : w = 2 ∨ w = 3 ∨ w = 4 ∨ w = 5 ∨ w = 6 := by omega
  rcases this with rfl | rfl | rfl | rfl | rfl
  · rw [show wrap64 ((2 : Int) - 1) = 1 from wid (by decide) (by decide), show (2 : Int) - 1 = 1 from rfl, show shl .i64 1 (1 : Int) = 2 by decide]
    exact ⟨rfl, by decide, (wid (by decide) (by decide)).trans (by decide), (wid (by decide) (by decide)).trans (by decide)⟩
  · rw [show wrap64 ((3 : Int) - 1) = 2 from wid (by decide) (by decide), show (3 : Int) - 1 = 2 from rfl, show shl .i64 1 (2 : Int) = 4 by decide]
    exact ⟨rfl, by decide, (wid (by decide) (by decide)).trans (by decide), (wid (by decide) (by decide)).trans (by decide)⟩
  · rw [show wrap64 ((4 : Int) - 1) = 3 from wid (by decide) (by decide), show (4 : Int) - 1 = 3 from rfl, show shl .i64 1 (3 : Int) = 8 by decide]
    exact ⟨rfl, by decide, (wid (by decide) (by decide)).trans (by decide), (wid (by decide) (by decide)).trans (by decide)⟩
  · rw [show wrap64 ((5 : Int) - 1) = 4 from wid (by decide) (by decide), show (5 : Int) - 1 = 4 from rfl, show shl .i64 1 (4 : Int) = 16 by decide]
    exact ⟨rfl, by decide, (wid (by decide) (by decide)).trans (by decide), (wid (by decide) (by decide)).trans (by decide)⟩
  · rw [show wrap64 ((6 : Int) - 1) = 5 from wid (by decide) (by decide), show (6 : Int) - 1 = 5 from rfl, show shl .i64 1 (5 : Int) = 32 by decide]
    exact ⟨rfl, by decide, (wid (by decide) (by decide)).trans (by decide), (wid (by decide) (by decide)).trans (by decide)⟩
theorem specW (l : List Int) (hl : l.length ≤ 1048576) (w : Int) : Ev (fun k => spec_FromWindow.f k l w) (winV l w) := by
  simp only [spec_FromWindow.f, siWidth_val, Option.bind_some]
  by_cases h1 : 2 ≤ w ∧ w ≤ 6
  · obtain ⟨b1, b2, b3, b4⟩ := bounds w h1
    have hwt : (decide (2 ≤ w) && decide (w ≤ 6)) = true := by rw [decide_eq_true h1.1, decide_eq_true h1.2]; rfl
    simp only [hwt, if_true]
    by_cases h2 : l.length ≤ 24
    · have hm := mostOf_range w
      have e := winB_eq (mostOf w) (by omega) l
      simp only [if_neg (show ¬ (l.length : Int) > 24 by omega), if_pos (show (l.length : Int) ≤ 24 by omega), b1, if_pos b2, b3, b4]
      refine Ev.bind (l1All_val (-mostOf w) (mostOf w) l (by omega)) ?_
      unfold winV
      rw [if_pos h1, if_pos h2]
      by_cases h3 : allIn (-mostOf w) (mostOf w) l = true
      · rw [h3, Bool.true_and] at e
        have hs : small l := small_of hm.2 h3
        simp only [h3, if_true, Bool.not_true]
        refine up ?_
        simp only [spec_FromWindow.j0, Bool.false_eq_true, if_false]
        refine odd_all w l (by omega) _ (fun ho => ?_) (fun ho => ?_)
        · rw [ho] at e
          have : winB (mostOf w) l = true := by simpa using e
          simp only [this, if_true, ite_self]
        · rw [ho] at e
          have : winB (mostOf w) l = false := by simpa using e
          simp only [this, Bool.false_eq_true, if_false]
          refine up ?_
          simp only [spec_FromWindow.l0, if_neg (show ¬ (l.length : Int) < (l.length : Int) by omega)]
          refine Ev.bind (specApart w h1.1 h1.2 l (by omega)) ?_
          by_cases h5 : sparseB w l = true
          · simp only [h5, if_true]
            refine Ev.bind (siSum_val hs h2) ?_
            simp only [siNumber_val, Option.bind_some]
            by_cases h6 : okNum (val l) = true
            · simp only [h6, if_true]
              exact Ev.bind (siSum_val hs h2) (Ev.now _)
            · simp only [h6, if_false, Bool.false_eq_true]; exact Ev.now _
          · simp only [h5, if_false, Bool.false_eq_true]; exact Ev.now _
      · have h3' : allIn (-mostOf w) (mostOf w) l = false := by simpa using h3
        rw [h3', Bool.false_and] at e
        have : winB (mostOf w) l = true := by simpa using e
        simp only [h3', Bool.false_eq_true, if_false, this, if_true, ite_self, Bool.not_false]
        refine up ?_
        simp only [spec_FromWindow.j0, if_true]
        exact Ev.now _
    · simp only [if_pos (show (l.length : Int) > 24 by omega), if_neg (show ¬ (l.length : Int) ≤ 24 by omega)]
      unfold winV
      rw [if_pos h1, if_neg h2]
      refine up ?_
      simp only [spec_FromWindow.j0, if_true]
      exact Ev.now _
  · have hwf : (decide (2 ≤ w) && decide (w ≤ 6)) = false := by rw [Bool.and_eq_false_iff, decide_eq_false_iff_not, decide_eq_false_iff_not]; omega
    simp only [hwf, Bool.false_eq_true, if_false]
    unfold winV
    rw [if_neg h1]
    refine up ?_
    simp only [spec_FromWindow.j0, if_true]
    exact Ev.now _
theorem main : laws_FnExactFromWindow.Pure := by
  intro l w _ _ _ _
  by_cases hbig : (l.length : Int) > 1048576
  · exact ⟨0, by simp only [laws_FnExactFromWindow.f, if_pos hbig]⟩
  refine Ev.rounds ?_
  simp only [laws_FnExactFromWindow.f, if_neg hbig]
  have ht := toIntS_val l (by omega)
  refine Ev.bind ht ?_
  refine Ev.bind (specW l (by omega) w) ?_
  refine Ev.bind ht ?_
  refine Ev.bind (implW l w) ?_
  simp only [bne_self_eq_false, Bool.false_eq_true, if_false, if_true]
  refine up ?_
  simp only [laws_FnExactFromWindow.j0, Bool.false_eq_true, if_false]
  refine Ev.bind ht ?_
  refine Ev.bind (eqIntS_same l (by omega)) ?_
  simp only [if_true]
  exact Ev.now _
end Go.Proofs.Ytafnnnpcochnnaa.PureFnExactFromWindowL
namespace Go.Proofs.Ytafnnnpcochnnaa.Pure
open Go.Proofs.Ytafnnnpcochnnaa.PFnExactFromWindow
theorem FnExactFromWindow : laws_FnExactFromWindow.Pure := PureFnExactFromWindowL.main
end Go.Proofs.Ytafnnnpcochnnaa.Pure
