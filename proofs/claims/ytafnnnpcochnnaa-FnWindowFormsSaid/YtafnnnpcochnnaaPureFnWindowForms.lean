/- Window digits stand for their number, and those of the width 2 are the sparse form: the statement FnWindowForms holds for all its drawn arguments; nothing is asked of them. -/
import Derived.Test.YtafnnnpcochnnaaPFnWindowFormsx1
import Derived.Test.YtafnnnpcochnnaaPFnWindowFormsx2
import Derived.Test.YtafnnnpcochnnaaPFnWindowFormsx3
import Derived.Test.YtafnnnpcochnnaaPFnWindowFormsx4
import Derived.Test.YtafnnnpcochnnaaPFnWindowFormsx5
set_option linter.unusedVariables false
set_option linter.unusedSimpArgs false
namespace Go.Proofs.Ytafnnnpcochnnaa.PureFnWindowFormsL
open Go.RowKit Go.Proofs.Ytafnnnpcochnnaa.PFnWindowForms Go.Proofs.YtafnnnpcochnnaaW.PrintWords Go.Proofs.YtafnnnpcochnnaaW.PrintLast Go.Proofs.YtafnnnpcochnnaaW.PrintMore
theorem up {α : Type} {g : Nat → Option α} {r : α} (h : Ev (fun k => g (k + 1)) r) : Ev g r := by
  obtain ⟨K, h⟩ := h
  refine ⟨K + 1, fun k hk => ?_⟩
  obtain ⟨m, rfl⟩ : ∃ m, k = m + 1 := ⟨k - 1, by omega⟩
  exact h m (by omega)
theorem wid {x : Int} (h0 : -9223372036854775808 ≤ x) (h1 : x ≤ 9223372036854775807) : wrap64 x = x := by unfold wrap64; omega
theorem ite_yes {α : Type} {c : Prop} [Decidable c] {a b : α} (h : c) : (if c then a else b) = a := if_pos h
theorem ite_no {α : Type} {c : Prop} [Decidable c] {a b : α} (h : ¬ c) : (if c then a else b) = b := if_neg h
theorem evsome {α β : Type} {x : Option α} {a : α} {f : Nat → α → Option β} {r : β} (hx : x = some a) (h : Ev (fun k => f k a) r) : Ev (fun k => x.bind (f k)) r := by subst hx; exact h
theorem if_pos_ev {α : Type} {c : Prop} [Decidable c] {f g : Nat → Option α} (h : c) : (fun k => if c then f k else g k) = f := funext fun k => if_pos h
theorem if_neg_ev {α : Type} {c : Prop} [Decidable c] {f g : Nat → Option α} (h : ¬ c) : (fun k => if c then f k else g k) = g := funext fun k => if_neg h
theorem rd_at {l : List Int} {i : Nat} (h : i < l.length) : rd l (i : Int) = l[i] := by
  unfold rd
  rw [Int.toNat_natCast, List.getD_eq_getElem?_getD, List.getElem?_eq_getElem h]; rfl
def allIn (a b : Int) (l : List Int) : Bool := l.all fun d => decide (a ≤ d) && decide (d ≤ b)
theorem l1In_val (x a b : Int) : spec_l1In.f x a b = some (decide (a ≤ x) && decide (x ≤ b)) := by
  unfold spec_l1In.f
  by_cases h : a ≤ x
  · rw [if_pos h]; simp [h]
  · rw [if_neg h]; simp [h]
theorem l1All_loop (a b : Int) (l : List Int) (hl : l.length ≤ 17592186044416) : ∀ (d i : Nat), i + d = l.length → Ev (fun k => spec_l1All.l0 k a b l (l.length : Int) i) (allIn a b (l.drop i)) := by
  intro d
  induction d with
  | zero =>
    intro i h
    refine up ?_
    simp only [spec_l1All.l0, if_neg (show ¬ (i : Int) < (l.length : Int) by omega)]
    rw [List.drop_of_length_le (by omega)]
    exact Ev.now _
  | succ d ih =>
    intro i h
    have hi : i < l.length := by omega
    refine up ?_
    simp only [spec_l1All.l0, if_pos (show (i : Int) < (l.length : Int) by omega), if_pos (show (0 : Int) ≤ (i : Int) by omega), l1In_val, Option.bind_some, wid (x := (i : Int) + 1) (by omega) (by omega), rd_at hi]
    have e : allIn a b (l.drop i) = ((decide (a ≤ l[i]) && decide (l[i] ≤ b)) && allIn a b (l.drop (i + 1))) := by
      rw [List.drop_eq_getElem_cons hi]; rfl
    rw [e]
    cases hb : (decide (a ≤ l[i]) && decide (l[i] ≤ b)) with
    | true => simp only [if_true, Bool.true_and]; exact ih (i + 1) (by omega)
    | false => simp only [Bool.false_eq_true, if_false, Bool.false_and]; exact Ev.now _
theorem l1All_val (a b : Int) (l : List Int) (hl : l.length ≤ 17592186044416) : Ev (fun k => spec_l1All.f k l a b) (allIn a b l) := l1All_loop a b l hl l.length 0 (by omega)
def okNum (n : Int) : Bool := decide (-1000000 ≤ n) && decide (n ≤ 1000000)
theorem siNumber_val (n : Int) : spec_siNumber.f n = some (okNum n) := by simp only [spec_siNumber.f, l1In_val, Option.bind_some]; rfl
theorem signedOk_val (n : Int) : impl_signedOk.f n = some (okNum n) := by
  simp only [impl_signedOk.f, impl_in.f, okNum]
  by_cases h : n ≥ -1000000
  · simp [h, show -1000000 ≤ n from h]
  · simp [h, show ¬ -1000000 ≤ n from h]
/-- The number that digits stand for. -/
def val : List Int → Int
  | [] => 0
  | d :: l => d + 2 * val l
def small (l : List Int) : Prop := ∀ d ∈ l, -31 ≤ d ∧ d ≤ 31
theorem small_tail {d : Int} {l : List Int} (h : small (d :: l)) : small l := fun x hx => h x (List.mem_cons_of_mem _ hx)
theorem p2 (n : Nat) : (2 : Int) ^ (n + 1) = 2 * 2 ^ n := by rw [Int.pow_succ]; omega
theorem p2_pos (n : Nat) : (1 : Int) ≤ 2 ^ n := by
  induction n with
  | zero => decide
  | succ n ih => rw [p2]; omega
theorem p2_le {f : Nat} (hf : f ≤ 24) : (2 : Int) ^ f ≤ 16777216 := by
  have h := Nat.pow_le_pow_right (n := 2) (by omega) hf
  have e : ((2 ^ f : Nat) : Int) = (2 : Int) ^ f := by simp
  omega
theorem val_bound : ∀ (l : List Int), small l → -(31 * (2 ^ l.length - 1)) ≤ val l ∧ val l ≤ 31 * (2 ^ l.length - 1)
  | [], _ => by simp [val]
  | d :: l, h => by
    have hd := h d (List.mem_cons_self ..)
    have ih := val_bound l (small_tail h)
    have e := p2 l.length
    simp only [val, List.length_cons]
    omega
theorem val_big {l : List Int} (h : small l) (hl : l.length ≤ 24) : -520093696 ≤ val l ∧ val l ≤ 520093696 := by
  have := val_bound l h
  have := p2_le hl
  omega
theorem standW_val : ∀ (l : List Int), small l → l.length ≤ 24 → standW l = val l
  | [], _, _ => rfl
  | d :: l, h, hl => by
    have hd := h d (List.mem_cons_self ..)
    simp only [List.length_cons] at hl
    have ih := standW_val l (small_tail h) (by omega)
    have hb := val_big (small_tail h) (by omega)
    show wrap64 (wrap64 (2 * standW l) + d) = d + 2 * val l
    rw [ih, wid (x := 2 * val l) (by omega) (by omega), wid (x := 2 * val l + d) (by omega) (by omega)]
    omega
theorem standing_val {l : List Int} (h : small l) (hl : l.length ≤ 24) : impl_standing.f l = some (val l) := by
  unfold impl_standing.f
  rw [if_pos (by omega), standW_val l h hl]
theorem shl_small_val {d : Int} {i : Nat} (h0 : -31 ≤ d) (h1 : d ≤ 31) (hi : i ≤ 24) : shl .i64 d (i : Int) = d * 2 ^ i := by
  unfold shl
  rw [Int.toNat_natCast, Nat.min_eq_left (show i ≤ IntKind.i64.bits by simp [IntKind.bits]; omega)]
  have hp := p2_le hi
  have hq := p2_pos i
  have hb : -520093696 ≤ d * 2 ^ i ∧ d * 2 ^ i ≤ 520093696 := by
    constructor
    · have := Int.mul_le_mul_of_nonneg_right h0 (show (0 : Int) ≤ 2 ^ i by omega); omega
    · have := Int.mul_le_mul_of_nonneg_right h1 (show (0 : Int) ≤ 2 ^ i by omega); omega
  generalize d * 2 ^ i = x at hb
  simp only [IntKind.wrap, IntKind.bits, IntKind.signed]
  simp
  omega
theorem siSum_loop (l : List Int) (h : small l) (hl : l.length ≤ 24) : ∀ (d i : Nat) (acc : Int), i + d = l.length → -(31 * (2 ^ i - 1)) ≤ acc → acc ≤ 31 * (2 ^ i - 1) → Ev (fun k => spec_siSum.l0 k acc l (l.length : Int) i) (acc + 2 ^ i * val (l.drop i)) := by
  intro d
  induction d with
  | zero =>
    intro i acc hi h0 h1
    refine up ?_
    rw [List.drop_of_length_le (by omega)]
    simp only [spec_siSum.l0, if_neg (show ¬ (i : Int) < (l.length : Int) by omega), val, Int.mul_zero, Int.add_zero]
    exact Ev.now _
  | succ d ih =>
    intro i acc hi h0 h1
    have hlt : i < l.length := by omega
    have hd := h l[i] (List.getElem_mem hlt)
    have hp := p2_le (f := i) (by omega)
    have hq := p2_pos i
    have e := p2 i
    have hx : -(31 * 2 ^ i) ≤ l[i] * 2 ^ i ∧ l[i] * 2 ^ i ≤ 31 * 2 ^ i := by
      constructor
      · have := Int.mul_le_mul_of_nonneg_right hd.1 (show (0 : Int) ≤ 2 ^ i by omega); omega
      · exact Int.mul_le_mul_of_nonneg_right hd.2 (show (0 : Int) ≤ 2 ^ i by omega)
    refine up ?_
    simp only [spec_siSum.l0, if_pos (show (i : Int) < (l.length : Int) by omega), if_pos (show (0 : Int) ≤ (i : Int) by omega), rd_at hlt, shl_small_val hd.1 hd.2 (show i ≤ 24 by omega), wid (x := acc + l[i] * 2 ^ i) (by omega) (by omega), wid (x := (i : Int) + 1) (by omega) (by omega)]
    have := ih (i + 1) (acc + l[i] * 2 ^ i) (by omega) (by omega) (by omega)
    rw [List.drop_eq_getElem_cons hlt, val]
    have e2 : acc + 2 ^ i * (l[i] + 2 * val (l.drop (i + 1))) = acc + l[i] * 2 ^ i + 2 ^ (i + 1) * val (l.drop (i + 1)) := by rw [e]; grind
    rw [e2]; exact this
theorem siSum_val {l : List Int} (h : small l) (hl : l.length ≤ 24) : Ev (fun k => spec_siSum.f k l) (val l) := by
  have := siSum_loop l h hl l.length 0 0 (by omega) (by decide) (by decide)
  simpa [spec_siSum.f] using this
/-- Of any w neighbours at most one is other than 0; the last such stands at 'last'. -/
def apartFrom (w : Int) : List Int → Int → Int → Bool
  | [], _, _ => true
  | d :: l, i, last => if d = 0 then apartFrom w l (i + 1) last else if i - last < w then false else apartFrom w l (i + 1) i
def lastOk (l : List Int) : Bool := if (l.length : Int) = 0 then true else (rd l ((l.length : Int) - 1) != 0)
def sparseB (w : Int) (l : List Int) : Bool := lastOk l && apartFrom w l 0 (-w)
theorem specApart_loop (w : Int) (hw0 : 2 ≤ w) (hw1 : w ≤ 6) (l : List Int) (hl : l.length ≤ 1000000) : ∀ (d i : Nat) (last : Int), i + d = l.length → -10 ≤ last → last ≤ i → Ev (fun k => spec_siApart.l0 k l w last l (l.length : Int) i) (apartFrom w (l.drop i) i last && lastOk l) := by
  intro d
  induction d with
  | zero =>
    intro i last h h0 h1
    refine up ?_
    rw [List.drop_of_length_le (by omega)]
    simp only [spec_siApart.l0, if_neg (show ¬ (i : Int) < (l.length : Int) by omega), apartFrom, Bool.true_and]
    unfold lastOk
    by_cases hz : (l.length : Int) = 0
    · simp only [hz, if_true]; exact Ev.now _
    · simp only [hz, if_false, wid (x := (l.length : Int) - 1) (by omega) (by omega), if_pos (show (0 : Int) ≤ (l.length : Int) - 1 by omega), if_pos (show (l.length : Int) - 1 < (l.length : Int) by omega)]
      exact Ev.now _
  | succ d ih =>
    intro i last h h0 h1
    have hi : i < l.length := by omega
    refine up ?_
    simp only [spec_siApart.l0, if_pos (show (i : Int) < (l.length : Int) by omega), if_pos (show (0 : Int) ≤ (i : Int) by omega), wid (x := (i : Int) + 1) (by omega) (by omega), wid (x := (i : Int) - last) (by omega) (by omega), rd_at hi]
    rw [List.drop_eq_getElem_cons hi]
    by_cases hz : l[i] = 0
    · simp only [hz, if_true, apartFrom]
      exact ih (i + 1) last (by omega) h0 (by omega)
    · simp only [hz, if_false, apartFrom]
      by_cases hc : (i : Int) - last < w
      · simp only [hc, if_true, Bool.false_and]; exact Ev.now _
      · simp only [hc, if_false]
        exact ih (i + 1) i (by omega) (by omega) (by omega)
theorem specApart (w : Int) (hw0 : 2 ≤ w) (hw1 : w ≤ 6) (l : List Int) (hl : l.length ≤ 1000000) : Ev (fun k => spec_siApart.f k l w) (sparseB w l) := by
  have := specApart_loop w hw0 hw1 l hl l.length 0 (-w) (by omega) (by omega) (by omega)
  unfold sparseB
  rw [Bool.and_comm]
  simpa [spec_siApart.f, wid (x := -w) (by omega) (by omega)] using this
theorem implSparse_loop (w : Int) (hw0 : 2 ≤ w) (hw1 : w ≤ 6) (l : List Int) (hl : l.length ≤ 1000000) : ∀ (d i : Nat) (last : Int), i + d = l.length → -10 ≤ last → last ≤ i → Ev (fun k => impl_sparse.l0 k w last l (l.length : Int) i) (apartFrom w (l.drop i) i last) := by
  intro d
  induction d with
  | zero =>
    intro i last h h0 h1
    refine up ?_
    rw [List.drop_of_length_le (by omega)]
    simp only [impl_sparse.l0, if_neg (show ¬ (i : Int) < (l.length : Int) by omega), apartFrom]
    exact Ev.now _
  | succ d ih =>
    intro i last h h0 h1
    have hi : i < l.length := by omega
    refine up ?_
    simp only [impl_sparse.l0, if_pos (show (i : Int) < (l.length : Int) by omega), if_pos (show (0 : Int) ≤ (i : Int) by omega), wid (x := (i : Int) + 1) (by omega) (by omega), wid (x := (i : Int) - last) (by omega) (by omega), rd_at hi]
    rw [List.drop_eq_getElem_cons hi]
    by_cases hz : l[i] = 0
    · simp only [hz, if_true, apartFrom]
      exact ih (i + 1) last (by omega) h0 (by omega)
    · simp only [hz, if_false, apartFrom]
      by_cases hc : (i : Int) - last < w
      · simp only [hc, if_true]; exact Ev.now _
      · simp only [hc, if_false]
        exact ih (i + 1) i (by omega) (by omega) (by omega)
theorem implSparse (w : Int) (hw0 : 2 ≤ w) (hw1 : w ≤ 6) (l : List Int) (hl : l.length ≤ 1000000) : Ev (fun k => impl_sparse.f k l w) (sparseB w l) := by
  have hloop := implSparse_loop w hw0 hw1 l hl l.length 0 (-w) (by omega) (by omega) (by omega)
  have go : ∀ b : Bool, (!b) = lastOk l → Ev (fun k => impl_sparse.j0 k l w b) (sparseB w l) := by
    intro b hb
    refine up ?_
    unfold sparseB
    rw [← hb]
    cases b with
    | true => simp only [impl_sparse.j0, if_true, Bool.not_true, Bool.false_and]; exact Ev.now _
    | false => simpa [impl_sparse.j0, wid (x := -w) (by omega) (by omega)] using hloop
  simp only [impl_sparse.f]
  by_cases hz : (l.length : Int) > 0
  · simp only [hz, if_true, wid (x := (l.length : Int) - 1) (by omega) (by omega), if_pos (show (0 : Int) ≤ (l.length : Int) - 1 by omega), if_pos (show (l.length : Int) - 1 < (l.length : Int) by omega)]
    refine go _ ?_
    unfold lastOk
    rw [if_neg (by omega)]; rfl
  · simp only [hz, if_false]
    refine go false ?_
    unfold lastOk
    rw [if_pos (by omega)]; rfl
theorem tmod_in {a b : Int} (hb : 0 < b) : -b < Int.tmod a b ∧ Int.tmod a b < b := ⟨Int.lt_tmod_of_pos a hb, Int.tmod_lt_of_pos a hb⟩
theorem posmod {a b : Int} (hb : 0 < b) (hb2 : b ≤ 1000000000000000) : Int.tmod (wrap64 ((Int.tmod a b) + b)) b = a % b := by
  have h := tmod_in (a := a) hb
  rw [wid (by omega) (by omega), Int.tmod_eq_emod_of_nonneg (by omega), Int.add_emod_right]
  rw [Int.tmod_def, Int.sub_mul_emod_self_left]
theorem odd_test (x : Int) : Int.tmod x 2 = 0 ↔ x % 2 = 0 := by
  rw [← Int.dvd_iff_tmod_eq_zero, ← Int.dvd_iff_emod_eq_zero]
theorem half_even {x : Int} (h : x % 2 = 0) : Int.tdiv x 2 = x / 2 := Int.tdiv_eq_ediv_of_dvd (Int.dvd_of_emod_eq_zero h)
theorem siOdd_val (x : Int) : spec_siOdd.f x = some (decide (¬ x % 2 = 0)) := by
  unfold spec_siOdd.f
  by_cases h : x % 2 = 0
  · have := (odd_test x).2 h; simp [h, this]
  · have := mt (odd_test x).1 h; simp [h, this]
theorem mostOf_range (w : Int) : 1 ≤ mostOf w ∧ mostOf w ≤ 31 := by
  unfold mostOf
  split
  · omega
  · split
    · omega
    · split
      · omega
      · split <;> omega
/-- All digits that are other than 0 are odd. -/
def oddOk (l : List Int) : Bool := l.all fun d => d == 0 || decide (¬ d % 2 = 0)
theorem oddOk_cons (d : Int) (l : List Int) : oddOk (d :: l) = ((d == 0 || decide (¬ d % 2 = 0)) && oddOk l) := rfl
theorem odd_loop (w : Int) (l : List Int) (hl : l.length ≤ 1000000) : ∀ (d i : Nat), i + d = l.length → ∀ r, (oddOk (l.drop i) = false → r = ((0 : Int), false)) → (oddOk (l.drop i) = true → Ev (fun k => spec_FromWindow.l0 k l w l (l.length : Int) (l.length : Int)) r) → Ev (fun k => spec_FromWindow.l0 k l w l (l.length : Int) i) r := by
  intro d
  induction d with
  | zero =>
    intro i h r _ h2
    have e : i = l.length := by omega
    subst e
    exact h2 (by rw [List.drop_length]; rfl)
  | succ d ih =>
    intro i h r h1 h2
    have hi : i < l.length := by omega
    rw [List.drop_eq_getElem_cons hi] at h1 h2
    have hstep : Ev (fun k => spec_FromWindow.l0 k l w l (l.length : Int) ((i : Int) + 1)) r → (l[i] = 0 ∨ ¬ l[i] % 2 = 0) → Ev (fun k => spec_FromWindow.l0 k l w l (l.length : Int) i) r := by
      intro h3 h4
      refine up ?_
      simp only [spec_FromWindow.l0, if_pos (show (i : Int) < (l.length : Int) by omega), if_pos (show (0 : Int) ≤ (i : Int) by omega), wid (x := (i : Int) + 1) (by omega) (by omega), rd_at hi, siOdd_val, Option.bind_some]
      by_cases hz : l[i] = 0
      · simp only [hz, if_true]; exact h3
      · have ho := h4.resolve_left hz
        simp only [hz, if_false, ho, not_false_eq_true, decide_true, if_true]
        exact h3
    by_cases hb : l[i] = 0 ∨ ¬ l[i] % 2 = 0
    · have hb2 : (l[i] == 0 || decide (¬ l[i] % 2 = 0)) = true := by rcases hb with h | h <;> simp [h]
      refine hstep (ih (i + 1) (by omega) r (fun h => h1 ?_) (fun h => h2 ?_)) hb
      · rw [oddOk_cons, hb2, Bool.true_and]; exact h
      · rw [oddOk_cons, hb2, Bool.true_and]; exact h
    · have hz : ¬ l[i] = 0 := fun h => hb (.inl h)
      have ho : l[i] % 2 = 0 := Classical.not_not.1 fun h => hb (.inr h)
      have hb2 : (l[i] == 0 || decide (¬ l[i] % 2 = 0)) = false := by simp [hz, ho]
      have := h1 (by rw [oddOk_cons, hb2, Bool.false_and])
      subst this
      refine up ?_
      simp only [spec_FromWindow.l0, if_pos (show (i : Int) < (l.length : Int) by omega), if_pos (show (0 : Int) ≤ (i : Int) by omega), rd_at hi, siOdd_val, Option.bind_some, hz, if_false, ho, not_true_eq_false, decide_false, Bool.false_eq_true]
      exact Ev.now _
theorem odd_all (w : Int) (l : List Int) (hl : l.length ≤ 1000000) (r : Int × Bool) (h1 : oddOk l = false → r = (0, false)) (h2 : oddOk l = true → Ev (fun k => spec_FromWindow.l0 k l w l (l.length : Int) (l.length : Int)) r) : Ev (fun k => spec_FromWindow.l0 k l w l (l.length : Int) 0) r := odd_loop w l hl l.length 0 (by omega) r (by simpa using h1) (by simpa using h2)
theorem misfit_eq (m d : Int) : (!misfit m d) = ((d == 0 || decide (¬ d % 2 = 0)) && (d == 0 || (decide (-m ≤ d) && decide (d ≤ m)))) := by
  unfold misfit
  by_cases hz : d = 0
  · simp [hz]
  · have e : (Int.tmod d 2 == 0) = decide (d % 2 = 0) := by
      by_cases h : d % 2 = 0
      · have := (odd_test d).2 h; simp [h, this]
      · have := mt (odd_test d).1 h; simp [h, this]
    rw [e]
    by_cases h : d % 2 = 0 <;> simp [hz, h]
theorem winB_eq (m : Int) (hm : 0 ≤ m) (l : List Int) : (!winB m l) = (allIn (-m) m l && oddOk l) := by
  induction l with
  | nil => rfl
  | cons d l ih =>
    have e1 : (!winB m (d :: l)) = ((!misfit m d) && !winB m l) := by show (!(misfit m d || winB m l)) = _; rw [Bool.not_or]
    have e2 : allIn (-m) m (d :: l) = ((decide (-m ≤ d) && decide (d ≤ m)) && allIn (-m) m l) := rfl
    rw [e1, e2, oddOk_cons, ih, misfit_eq]
    generalize allIn (-m) m l = A
    generalize oddOk l = B
    by_cases hz : d = 0
    · subst hz
      have h1 : (decide (-m ≤ 0) && decide (0 ≤ m)) = true := by rw [decide_eq_true (by omega), decide_eq_true (by omega)]; rfl
      rw [h1]
      cases A <;> cases B <;> rfl
    · have h1 : (d == 0) = false := beq_eq_false_iff_ne.mpr hz
      rw [h1, Bool.false_or, Bool.false_or]
      generalize decide (¬ d % 2 = 0) = C
      generalize (decide (-m ≤ d) && decide (d ≤ m)) = D
      cases A <;> cases B <;> cases C <;> cases D <;> rfl
/-- What FromWindow answers. -/
def winV (l : List Int) (w : Int) : Int × Bool := if 2 ≤ w ∧ w ≤ 6 then (if l.length ≤ 24 then (if sparseB w l = true then (if winB (mostOf w) l = true then (0, false) else if okNum (val l) = true then (val l, true) else (0, false)) else (0, false)) else (0, false)) else (0, false)
theorem small_of {m : Int} (hm : m ≤ 31) {l : List Int} (h : allIn (-m) m l = true) : small l := fun d hd => by
  have := List.all_eq_true.1 h d hd
  simp only [Bool.and_eq_true, decide_eq_true_eq] at this
  omega
theorem implW (l : List Int) (w : Int) : Ev (fun k => impl_FromWindow.f k l w) (winV l w) := by
  simp only [impl_FromWindow.f, winV]
  by_cases h1 : 2 ≤ w ∧ w ≤ 6
  · simp only [if_pos h1]
    by_cases h2 : l.length ≤ 24
    · simp only [if_pos h2]
      refine Ev.bind (implSparse w h1.1 h1.2 l (by omega)) ?_
      by_cases h3 : sparseB w l = true
      · simp only [h3, if_true]
        by_cases h4 : winB (mostOf w) l = true
        · simp only [h4, if_true]; exact Ev.now _
        · have hs : small l := by
            have e := winB_eq (mostOf w) (by have := mostOf_range w; omega) l
            rw [show winB (mostOf w) l = false by simpa using h4] at e
            have := (Bool.and_eq_true _ _).mp e.symm
            exact small_of (mostOf_range w).2 this.1
          simp only [h4, if_false, standing_val hs h2, signedOk_val, Option.bind_some, Bool.false_eq_true]
          by_cases h5 : okNum (val l) = true
          · simp only [h5, if_true]; exact Ev.now _
          · simp only [h5, if_false, Bool.false_eq_true]; exact Ev.now _
      · simp only [h3, if_false, Bool.false_eq_true]; exact Ev.now _
    · simp only [if_neg h2]; exact Ev.now _
  · simp only [if_neg h1]; exact Ev.now _
theorem siWidth_val (w : Int) : spec_siWidth.f w = some (decide (2 ≤ w) && decide (w ≤ 6)) := by
  simp only [spec_siWidth.f, l1In_val, Option.bind_some]
theorem bounds (w : Int) (h : 2 ≤ w ∧ w ≤ 6) : wrap64 (w - 1) = w - 1 ∧ 0 ≤ w - 1 ∧ wrap64 (1 - shl .i64 1 (w - 1)) = -mostOf w ∧ wrap64 (shl .i64 1 (w - 1) - 1) = mostOf w := by
  have : w = 2 ∨ w = 3 ∨ w = 4 ∨ w = 5 ∨ w = 6 := by omega
  rcases this with rfl | rfl | rfl | rfl | rfl
  · rw [show wrap64 ((2 : Int) - 1) = 1 from wid (by decide) (by decide), show (2 : Int) - 1 = 1 from rfl, show shl .i64 1 (1 : Int) = 2 by decide]
    exact ⟨rfl, by decide, (wid (by decide) (by decide)).trans (by decide), (wid (by decide) (by decide)).trans (by decide)⟩
  · rw [show wrap64 ((3 : Int) - 1) = 2 from wid (by decide) (by decide), show (3 : Int) - 1 = 2 from rfl, show shl .i64 1 (2 : Int) = 4 by decide]
    exact ⟨rfl, by decide, (wid (by decide) (by decide)).trans (by decide), (wid (by decide) (by decide)).trans (by decide)⟩
  · rw [show wrap64 ((4 : Int) - 1) = 3 from wid (by decide) (by decide), show (4 : Int) - 1 = 3 from rfl, show shl .i64 1 (3 : Int) = 8 by decide]
    exact ⟨rfl, by decide, (wid (by decide) (by decide)).trans (by decide), (wid (by decide) (by decide)).trans (by decide)⟩
  · rw [show wrap64 ((5 : Int) - 1) = 4 from wid (by decide) (by decide), show (5 : Int) - 1 = 4 from rfl, show shl .i64 1 (4 : Int) = 16 by decide]
    exact ⟨rfl, by decide, (wid (by decide) (by decide)).trans (by decide), (wid (by decide) (by decide)).trans (by decide)⟩
  · rw [show wrap64 ((6 : Int) - 1) = 5 from wid (by decide) (by decide), show (6 : Int) - 1 = 5 from rfl, show shl .i64 1 (5 : Int) = 32 by decide]
    exact ⟨rfl, by decide, (wid (by decide) (by decide)).trans (by decide), (wid (by decide) (by decide)).trans (by decide)⟩
theorem specW (l : List Int) (hl : l.length ≤ 1048576) (w : Int) : Ev (fun k => spec_FromWindow.f k l w) (winV l w) := by
  simp only [spec_FromWindow.f, siWidth_val, Option.bind_some]
  by_cases h1 : 2 ≤ w ∧ w ≤ 6
  · obtain ⟨b1, b2, b3, b4⟩ := bounds w h1
    have hwt : (decide (2 ≤ w) && decide (w ≤ 6)) = true := by rw [decide_eq_true h1.1, decide_eq_true h1.2]; rfl
    simp only [hwt, if_true]
    by_cases h2 : l.length ≤ 24
    · have hm := mostOf_range w
      have e := winB_eq (mostOf w) (by omega) l
      simp only [if_neg (show ¬ (l.length : Int) > 24 by omega), if_pos (show (l.length : Int) ≤ 24 by omega), b1, if_pos b2, b3, b4]
      refine Ev.bind (l1All_val (-mostOf w) (mostOf w) l (by omega)) ?_
      unfold winV
      rw [if_pos h1, if_pos h2]
      by_cases h3 : allIn (-mostOf w) (mostOf w) l = true
      · rw [h3, Bool.true_and] at e
        have hs : small l := small_of hm.2 h3
        simp only [h3, if_true, Bool.not_true]
        refine up ?_
        simp only [spec_FromWindow.j0, Bool.false_eq_true, if_false]
        refine odd_all w l (by omega) _ (fun ho => ?_) (fun ho => ?_)
        · rw [ho] at e
          have : winB (mostOf w) l = true := by simpa using e
          simp only [this, if_true, ite_self]
        · rw [ho] at e
          have : winB (mostOf w) l = false := by simpa using e
          simp only [this, Bool.false_eq_true, if_false]
          refine up ?_
          simp only [spec_FromWindow.l0, if_neg (show ¬ (l.length : Int) < (l.length : Int) by omega)]
          refine Ev.bind (specApart w h1.1 h1.2 l (by omega)) ?_
          by_cases h5 : sparseB w l = true
          · simp only [h5, if_true]
            refine Ev.bind (siSum_val hs h2) ?_
            simp only [siNumber_val, Option.bind_some]
            by_cases h6 : okNum (val l) = true
            · simp only [h6, if_true]
              exact Ev.bind (siSum_val hs h2) (Ev.now _)
            · simp only [h6, if_false, Bool.false_eq_true]; exact Ev.now _
          · simp only [h5, if_false, Bool.false_eq_true]; exact Ev.now _
      · have h3' : allIn (-mostOf w) (mostOf w) l = false := by simpa using h3
        rw [h3', Bool.false_and] at e
        have : winB (mostOf w) l = true := by simpa using e
        simp only [h3', Bool.false_eq_true, if_false, this, if_true, ite_self, Bool.not_false]
        refine up ?_
        simp only [spec_FromWindow.j0, if_true]
        exact Ev.now _
    · simp only [if_pos (show (l.length : Int) > 24 by omega), if_neg (show ¬ (l.length : Int) ≤ 24 by omega)]
      unfold winV
      rw [if_pos h1, if_neg h2]
      refine up ?_
      simp only [spec_FromWindow.j0, if_true]
      exact Ev.now _
  · have hwf : (decide (2 ≤ w) && decide (w ≤ 6)) = false := by rw [Bool.and_eq_false_iff, decide_eq_false_iff_not, decide_eq_false_iff_not]; omega
    simp only [hwf, Bool.false_eq_true, if_false]
    unfold winV
    rw [if_neg h1]
    refine up ?_
    simp only [spec_FromWindow.j0, if_true]
    exact Ev.now _
/-- The window digit of a number, for the width whose power of two is t. -/
def dig (t n : Int) : Int := if n % 2 = 0 then 0 else if n % t > t / 2 then n % t - t else n % t
/-- The window digits of a number whose size is at most 2^f. -/
def win (t : Int) : Nat → Int → List Int
  | 0, n => if n = 0 then [] else [n]
  | f + 1, n => if n = 0 then [] else dig t n :: win t f ((n - dig t n) / 2)
def Pw (t : Int) : Prop := t = 4 ∨ t = 8 ∨ t = 16 ∨ t = 32 ∨ t = 64
theorem win_nil (t : Int) (f : Nat) : win t f 0 = [] := by cases f <;> simp [win]
theorem win_length (t : Int) : ∀ (f : Nat) (n : Int), (win t f n).length ≤ f + 1
  | 0, n => by unfold win; split <;> simp
  | f + 1, n => by
    unfold win
    split
    · simp
    · have := win_length t f ((n - dig t n) / 2); simp only [List.length_cons]; omega
theorem dig_even {t : Int} (ht : Pw t) (n : Int) : (n - dig t n) % 2 = 0 := by
  unfold dig Pw at *
  rcases ht with rfl | rfl | rfl | rfl | rfl <;> (split <;> (try split) <;> omega)
theorem dig_size {t : Int} (ht : Pw t) (n : Int) : -32 < dig t n ∧ dig t n < 32 := by
  unfold dig Pw at *
  rcases ht with rfl | rfl | rfl | rfl | rfl <;> (split <;> (try split) <;> omega)
theorem dig_one {t : Int} (ht : Pw t) {n : Int} (h0 : n ≠ 0) (h1 : -1 ≤ n) (h2 : n ≤ 1) : dig t n = n := by
  have : n = 1 ∨ n = -1 := by omega
  unfold Pw at ht
  rcases ht with rfl | rfl | rfl | rfl | rfl <;> rcases this with rfl | rfl <;> decide
theorem dig_next_aux {t P Q n : Int} (ht : Pw t) (hPQ : P = 2 * Q) (hP : (P = 2 ∨ P = 4 ∨ P = 8 ∨ P = 16 ∨ P = 32) ∨ ∃ p, P = 64 * p) (h0 : -P ≤ n) (h1 : n ≤ P) : -Q ≤ (n - dig t n) / 2 ∧ (n - dig t n) / 2 ≤ Q := by
  unfold dig
  unfold Pw at ht
  rcases ht with rfl | rfl | rfl | rfl | rfl <;> rcases hP with (rfl | rfl | rfl | rfl | rfl) | ⟨p, rfl⟩ <;> (split <;> (try split) <;> omega)
theorem two_pow_int (f : Nat) : (2 : Int) ^ (f + 1) = 2 * 2 ^ f := by rw [Int.pow_succ]; omega
theorem dig_next {t : Int} (ht : Pw t) (f : Nat) {n : Int} (h0 : -(2 ^ (f + 1)) ≤ n) (h1 : n ≤ 2 ^ (f + 1)) : -(2 ^ f) ≤ (n - dig t n) / 2 ∧ (n - dig t n) / 2 ≤ 2 ^ f := by
  refine dig_next_aux ht (two_pow_int f) ?_ h0 h1
  rcases Nat.lt_or_ge f 5 with hf | hf
  · have hc : f = 0 ∨ f = 1 ∨ f = 2 ∨ f = 3 ∨ f = 4 := by omega
    left
    rcases hc with rfl | rfl | rfl | rfl | rfl <;> decide
  · obtain ⟨g, rfl⟩ : ∃ g, f = g + 5 := ⟨f - 5, by omega⟩
    right
    exact ⟨2 ^ g, by simp only [Int.pow_succ]; omega⟩
theorem pow20 {f : Nat} (hf : f ≤ 20) : (2 : Int) ^ f ≤ 1048576 := by
  have h := Nat.pow_le_pow_right (n := 2) (by omega) hf
  have e : ((2 ^ f : Nat) : Int) = (2 : Int) ^ f := by simp
  omega
/-- Of any w neighbours at most one is other than 0; g places ago the last such stood. -/
def ap (w : Int) : Int → List Int → Bool
  | _, [] => true
  | g, d :: l => if d = 0 then ap w (g + 1) l else if g < w then false else ap w 1 l
theorem apart_ap (w : Int) : ∀ (l : List Int) (i last : Int), apartFrom w l i last = ap w (i - last) l
  | [], _, _ => rfl
  | d :: l, i, last => by
    unfold apartFrom ap
    rw [apart_ap w l (i + 1) last, apart_ap w l (i + 1) i, show i + 1 - last = i - last + 1 by omega, show i + 1 - i = 1 by omega]
theorem ap_zeros (w : Int) : ∀ (k : Nat) (g : Int) (l : List Int), ap w g l = true → g + k ≤ w → (2 : Int) ^ k ∣ val l
  | 0, _, l, _, _ => ⟨val l, by simp⟩
  | k + 1, g, [], _, _ => ⟨0, by simp [val]⟩
  | k + 1, g, d :: l, h, hk => by
    unfold ap at h
    by_cases hd : d = 0
    · rw [if_pos hd] at h
      obtain ⟨c, hc⟩ := ap_zeros w k (g + 1) l h (by omega)
      refine ⟨c, ?_⟩
      rw [val, hd, hc, Int.pow_succ]
      grind
    · rw [if_neg hd, if_pos (show g < w by omega)] at h
      cases h
theorem pdvd {a b : Nat} (h : a ≤ b) : (2 : Int) ^ a ∣ 2 ^ b := by
  obtain ⟨c, rfl⟩ := Nat.exists_eq_add_of_le h
  induction c with
  | zero => exact ⟨1, by simp⟩
  | succ c ih =>
    obtain ⟨q, hq⟩ := ih (by omega)
    refine ⟨q * 2, ?_⟩
    rw [show a + (c + 1) = (a + c) + 1 by omega, Int.pow_succ, hq, Int.mul_assoc]
/-- The last digit is not 0. -/
def lz : List Int → Bool
  | [] => true
  | [d] => d != 0
  | _ :: e :: l => lz (e :: l)
theorem lz_tail {d : Int} {l : List Int} (h : lz (d :: l) = true) : lz l = true := by
  cases l with
  | nil => rfl
  | cons e l => exact h
theorem lastOk_lz : ∀ l : List Int, lastOk l = lz l
  | [] => rfl
  | [d] => by unfold lastOk lz; rfl
  | d :: e :: l => by
    have ih := lastOk_lz (e :: l)
    unfold lz
    rw [← ih]
    unfold lastOk
    simp only [List.length_cons]
    rw [if_neg (by omega), if_neg (by omega)]
    congr 1
    unfold rd
    rw [show (((l.length + 1 + 1 : Nat) : Int) - 1).toNat = l.length + 1 by omega, show (((l.length + 1 : Nat) : Int) - 1).toNat = l.length by omega]
    rfl
/-- Digits that fit: 0, or odd and small. -/
def fits (t : Int) (l : List Int) : Prop := ∀ d ∈ l, d = 0 ∨ ¬ d % 2 = 0 ∧ -(t / 2) < d ∧ d < t / 2
theorem fits_tail {t d : Int} {l : List Int} (h : fits t (d :: l)) : fits t l := fun x hx => h x (List.mem_cons_of_mem _ hx)
theorem val_zero {t : Int} : ∀ {l : List Int}, fits t l → lz l = true → val l = 0 → l = []
  | [], _, _, _ => rfl
  | d :: l, hf, hz, hv => by
    rw [val] at hv
    have hd := hf d (List.mem_cons_self ..)
    have h0 : d = 0 := by omega
    have hl := val_zero (fits_tail hf) (lz_tail hz) (by omega)
    subst hl
    subst h0
    cases hz
theorem dig_odd {t n q d : Int} (ht : Pw t) (hn : n = d + t * q) (ho : ¬ d % 2 = 0) (h0 : -(t / 2) < d) (h1 : d < t / 2) : dig t n = d := by
  unfold dig
  unfold Pw at ht
  rcases ht with rfl | rfl | rfl | rfl | rfl <;> (split <;> (try split) <;> omega)
/-- There is one such list for each number. -/
theorem win_uniq {t : Int} (ht : Pw t) (w : Nat) (hw : t = 2 ^ (w + 1)) : ∀ (f : Nat) (l : List Int) (g : Int), -(2 ^ f) ≤ val l → val l ≤ 2 ^ f → fits t l → lz l = true → ap (w + 1) g l = true → win t f (val l) = l := by
  have step : ∀ (d : Int) (l : List Int) (g : Int), fits t (d :: l) → ap (w + 1) g (d :: l) = true → dig t (val (d :: l)) = d ∧ (∃ g', ap (w + 1) g' l = true) := by
    intro d l g hf ha
    unfold ap at ha
    have hd := hf d (List.mem_cons_self ..)
    rw [val]
    by_cases h0 : d = 0
    · rw [if_pos h0] at ha
      refine ⟨?_, _, ha⟩
      subst h0
      unfold dig
      rw [if_pos (by omega)]
    · rw [if_neg h0] at ha
      by_cases hg : g < (w + 1 : Int)
      · rw [if_pos hg] at ha; cases ha
      · rw [if_neg hg] at ha
        have hd := hd.resolve_left h0
        obtain ⟨q, hq⟩ := ap_zeros _ w 1 l ha (by omega)
        refine ⟨dig_odd ht (q := q) ?_ hd.1 hd.2.1 hd.2.2, _, ha⟩
        rw [hq, hw, Int.pow_succ]
        grind
  intro f
  induction f with
  | zero =>
    intro l g h0 h1 hf hz ha
    cases l with
    | nil => rfl
    | cons d l =>
      obtain ⟨s1, g', s2⟩ := step d l g hf ha
      have hne : val (d :: l) ≠ 0 := fun h => by cases val_zero hf hz h
      have e1 := dig_one ht hne (by omega) (by omega)
      rw [e1, val] at s1
      have hl := val_zero (fits_tail hf) (lz_tail hz) (by omega)
      subst hl
      unfold win
      rw [if_neg hne]
      simp [val]
  | succ f ih =>
    intro l g h0 h1 hf hz ha
    cases l with
    | nil => rw [show val [] = 0 from rfl, win_nil]
    | cons d l =>
      obtain ⟨s1, g', s2⟩ := step d l g hf ha
      have hne : val (d :: l) ≠ 0 := fun h => by cases val_zero hf hz h
      have hx := dig_next ht f h0 h1
      unfold win
      rw [if_neg hne, s1]
      rw [s1] at hx
      have e : (val (d :: l) - d) / 2 = val l := by rw [val]; omega
      rw [e] at hx ⊢
      rw [ih l g' hx.1 hx.2 (fits_tail hf) (lz_tail hz) s2]
theorem win_val (t : Int) (ht : Pw t) : ∀ (f : Nat) (n : Int), val (win t f n) = n
  | 0, n => by
    unfold win
    by_cases h : n = 0
    · rw [if_pos h, h]; rfl
    · rw [if_neg h]; simp [val]
  | f + 1, n => by
    unfold win
    by_cases h : n = 0
    · rw [if_pos h, h]; rfl
    · rw [if_neg h, val, win_val t ht f]
      have := dig_even ht n
      omega
theorem dig_fits {t n : Int} (ht : Pw t) : dig t n = 0 ∨ ¬ dig t n % 2 = 0 ∧ -(t / 2) < dig t n ∧ dig t n < t / 2 := by
  unfold dig
  unfold Pw at ht
  rcases ht with rfl | rfl | rfl | rfl | rfl <;> (split <;> (try split) <;> omega)
theorem win_fits {t : Int} (ht : Pw t) : ∀ (f : Nat) (n : Int), -(2 ^ f) ≤ n → n ≤ 2 ^ f → fits t (win t f n)
  | 0, n, h0, h1 => by
    unfold win
    by_cases h : n = 0
    · rw [if_pos h]; intro d hd; simp at hd
    · rw [if_neg h]
      intro d hd
      rw [List.mem_singleton.1 hd]
      have e := dig_one ht h (by omega) (by omega)
      have := dig_fits (n := n) ht
      rw [e] at this
      exact this
  | f + 1, n, h0, h1 => by
    unfold win
    by_cases h : n = 0
    · rw [if_pos h]; intro d hd; simp at hd
    · rw [if_neg h]
      have hx := dig_next ht f h0 h1
      intro d hd
      rcases List.mem_cons.1 hd with rfl | hd
      · exact dig_fits ht
      · exact win_fits ht f _ hx.1 hx.2 d hd
theorem win_lz {t : Int} (ht : Pw t) : ∀ (f : Nat) (n : Int), lz (win t f n) = true
  | 0, n => by
    unfold win
    by_cases h : n = 0
    · rw [if_pos h]; rfl
    · rw [if_neg h]; unfold lz; exact bne_iff_ne.2 h
  | f + 1, n => by
    unfold win
    by_cases h : n = 0
    · rw [if_pos h]; rfl
    · rw [if_neg h]
      have ih := win_lz ht f ((n - dig t n) / 2)
      have hv := win_val t ht f ((n - dig t n) / 2)
      generalize win t f ((n - dig t n) / 2) = l at ih hv
      cases l with
      | nil =>
        unfold lz
        have := dig_even ht n
        rw [val] at hv
        exact bne_iff_ne.2 (by omega)
      | cons e l => exact ih
theorem dig_mod {t n : Int} (ht : Pw t) (ho : ¬ n % 2 = 0) : t ∣ n - dig t n := by
  unfold dig
  rw [if_neg ho]
  refine Int.dvd_of_emod_eq_zero ?_
  unfold Pw at ht
  rcases ht with rfl | rfl | rfl | rfl | rfl <;> (split <;> omega)
theorem win_ap {t : Int} (ht : Pw t) (w : Nat) (hw : t = 2 ^ (w + 1)) : ∀ (f : Nat) (n g : Int), -(2 ^ f) ≤ n → n ≤ 2 ^ f → (∀ k : Nat, g + k ≤ (w + 1 : Int) → (2 : Int) ^ k ∣ n) → ap (w + 1) g (win t f n) = true := by
  intro f
  induction f with
  | zero =>
    intro n g h0 h1 hk
    unfold win
    by_cases h : n = 0
    · rw [if_pos h]; rfl
    · rw [if_neg h]
      unfold ap
      rw [if_neg h]
      by_cases hg : g < (w + 1 : Int)
      · obtain ⟨c, hc⟩ := hk 1 (by omega)
        have : n = 1 ∨ n = -1 := by omega
        omega
      · rw [if_neg hg]; rfl
  | succ f ih =>
    intro n g h0 h1 hk
    have hx := dig_next ht f h0 h1
    unfold win
    by_cases h : n = 0
    · rw [if_pos h]; rfl
    · rw [if_neg h]
      unfold ap
      by_cases he : n % 2 = 0
      · have hd : dig t n = 0 := by unfold dig; rw [if_pos he]
        rw [hd] at hx ⊢
        rw [if_pos rfl]
        refine ih _ _ hx.1 hx.2 fun k hk2 => ?_
        obtain ⟨c, hc⟩ := hk (k + 1) (by omega)
        refine ⟨c, ?_⟩
        rw [Int.pow_succ] at hc
        have : n = 2 * (2 ^ k * c) := by rw [hc]; grind
        omega
      · have hd : dig t n ≠ 0 := by
          have := dig_even ht n
          omega
        have hg : ¬ g < (w + 1 : Int) := fun hg => by
          obtain ⟨c, hc⟩ := hk 1 (by omega)
          omega
        rw [if_neg hd, if_neg hg]
        refine ih _ _ hx.1 hx.2 fun k hk2 => ?_
        obtain ⟨c, hc⟩ := dig_mod ht he
        obtain ⟨e, he2⟩ := pdvd (a := k + 1) (b := w + 1) (by omega)
        refine ⟨e * c, ?_⟩
        have ht2 : t = 2 ^ k * 2 * e := by rw [hw, he2, Int.pow_succ]
        have : n - dig t n = 2 * (2 ^ k * (e * c)) := by
          rw [hc]
          generalize (2 : Int) ^ k = z at ht2
          rw [ht2]
          grind
        omega
theorem rest_val {a b : Int} (hb : 0 < b) (hb2 : b ≤ 1000000000000000) : impl_rest.f a b = some (a % b) := by
  unfold impl_rest.f
  rw [if_neg (by omega), posmod hb hb2]
theorem implWin_step {t w n : Int} (ht : Pw t) (hw0 : 1 ≤ w) (hw1 : w ≤ 6) (hs : shl .i64 1 w = t) (hh : shl .i64 1 (w - 1) = t / 2) (hn0 : n ≠ 0) (h0 : -2000000 ≤ n) (h1 : n ≤ 2000000) (acc : List Int) (ha : acc.length < 1000) {r : List Int}
    (h : Ev (fun k => impl_windowed.l0 k ((n - dig t n) / 2) w (acc ++ [dig t n])) r) : Ev (fun k => impl_windowed.l0 k n w acc) r := by
  have hd := dig_size ht n
  have he := dig_even ht n
  have ht2 : 0 < t ∧ t ≤ 64 := by unfold Pw at ht; omega
  refine up ?_
  simp only [impl_windowed.l0, if_neg hn0]
  by_cases hp : n % 2 = 0
  · have hd0 : dig t n = 0 := by unfold dig; rw [if_pos hp]
    rw [hd0] at h he
    simp only [if_pos ((odd_test n).2 hp), if_pos (show acc.length < 17592186044416 by omega), wid (x := n - 0) (by omega) (by omega), half_even he, wid (x := (n - 0) / 2) (by omega) (by omega)]
    exact h
  · have hm : 0 ≤ n % t ∧ n % t < t := ⟨Int.emod_nonneg _ (by omega), Int.emod_lt_of_pos _ (by omega)⟩
    simp only [if_neg (mt (odd_test n).1 hp), if_pos (show (0 : Int) ≤ w by omega), hs, rest_val (a := n) (b := t) (by omega) (by omega), Option.bind_some, wid (x := w - 1) (by omega) (by omega), if_pos (show (0 : Int) ≤ w - 1 by omega), hh, if_pos (show acc.length < 17592186044416 by omega)]
    by_cases hb : n % t > t / 2
    · have hd1 : dig t n = n % t - t := by unfold dig; rw [if_neg hp, if_pos hb]
      rw [hd1] at h he
      simp only [if_pos hb, wid (x := n % t - t) (by omega) (by omega), wid (x := n - (n % t - t)) (by omega) (by omega), half_even he, wid (x := (n - (n % t - t)) / 2) (by omega) (by omega)]
      exact h
    · have hd1 : dig t n = n % t := by unfold dig; rw [if_neg hp, if_neg hb]
      rw [hd1] at h he
      simp only [if_neg hb, wid (x := n - n % t) (by omega) (by omega), half_even he, wid (x := (n - n % t) / 2) (by omega) (by omega)]
      exact h
theorem implWin_zero (w : Int) (acc : List Int) : Ev (fun k => impl_windowed.l0 k 0 w acc) acc := by
  refine up ?_
  simp only [impl_windowed.l0, if_true]
  exact Ev.now _
theorem implWin_loop {t w : Int} (ht : Pw t) (hw0 : 1 ≤ w) (hw1 : w ≤ 6) (hs : shl .i64 1 w = t) (hh : shl .i64 1 (w - 1) = t / 2) : ∀ (f : Nat) (n : Int) (acc : List Int), f ≤ 20 → -(2 ^ f) ≤ n → n ≤ 2 ^ f → acc.length + f < 1000 →
    Ev (fun k => impl_windowed.l0 k n w acc) (acc ++ win t f n) := by
  intro f
  induction f with
  | zero =>
    intro n acc hf h0 h1 ha
    by_cases hn : n = 0
    · subst hn; rw [win_nil, List.append_nil]; exact implWin_zero w acc
    · have e := dig_one ht hn (by omega) (by omega)
      refine implWin_step ht hw0 hw1 hs hh hn (by omega) (by omega) acc (by omega) ?_
      rw [e, Int.sub_self, show (0 : Int) / 2 = 0 from rfl, show win t 0 n = [n] by unfold win; rw [if_neg hn]]
      exact implWin_zero w _
  | succ f ih =>
    intro n acc hf h0 h1 ha
    have hp := pow20 hf
    by_cases hn : n = 0
    · subst hn; rw [win_nil, List.append_nil]; exact implWin_zero w acc
    · have hx := dig_next ht f h0 h1
      have := ih ((n - dig t n) / 2) (acc ++ [dig t n]) (by omega) hx.1 hx.2 (by simp; omega)
      refine implWin_step ht hw0 hw1 hs hh hn (by omega) (by omega) acc (by omega) ?_
      rw [show win t (f + 1) n = dig t n :: win t f ((n - dig t n) / 2) by rw [win, if_neg hn]]
      simpa using this
theorem implWin {t w : Int} (ht : Pw t) (hw0 : 1 ≤ w) (hw1 : w ≤ 6) (hs : shl .i64 1 w = t) (hh : shl .i64 1 (w - 1) = t / 2) (n : Int) (h0 : -1000000 ≤ n) (h1 : n ≤ 1000000) : Ev (fun k => impl_windowed.f k n w) (win t 20 n) := by
  have := implWin_loop ht hw0 hw1 hs hh 20 n [] (by omega) (by omega) (by omega) (by simp)
  simpa [impl_windowed.f] using this
theorem specWin_step {t n : Int} (ht : Pw t) (hn0 : n ≠ 0) (h0 : -2000000 ≤ n) (h1 : n ≤ 2000000) (acc : List Int) (ha : acc.length < 1000) {r : List Int}
    (h : Ev (fun k => spec_siWindow.l0 k ((n - dig t n) / 2) (acc ++ [dig t n]) t) r) : Ev (fun k => spec_siWindow.l0 k n acc t) r := by
  have hd := dig_size ht n
  have he := dig_even ht n
  have ht2 : 0 < t ∧ t ≤ 64 := by unfold Pw at ht; omega
  have hth : wrap64 (Int.tdiv t 2) = t / 2 := by unfold Pw at ht; rcases ht with rfl | rfl | rfl | rfl | rfl <;> exact wid (by decide) (by decide)
  refine up ?_
  simp only [spec_siWindow.l0, if_neg hn0, siOdd_val, Option.bind_some]
  by_cases hp : n % 2 = 0
  · have hd0 : dig t n = 0 := by unfold dig; rw [if_pos hp]
    rw [hd0] at h he
    simp only [hp, not_true_eq_false, decide_false, Bool.false_eq_true, if_false, if_pos (show acc.length < 17592186044416 by omega), wid (x := n - 0) (by omega) (by omega), half_even he, wid (x := (n - 0) / 2) (by omega) (by omega)]
    exact h
  · have hm : 0 ≤ n % t ∧ n % t < t := ⟨Int.emod_nonneg _ (by omega), Int.emod_lt_of_pos _ (by omega)⟩
    simp only [hp, not_false_eq_true, decide_true, if_true, if_neg (show ¬ t = 0 by omega), posmod (a := n) (b := t) (by omega) (by omega), hth, if_pos (show acc.length < 17592186044416 by omega)]
    by_cases hb : n % t > t / 2
    · have hd1 : dig t n = n % t - t := by unfold dig; rw [if_neg hp, if_pos hb]
      rw [hd1] at h he
      simp only [if_pos hb, wid (x := n % t - t) (by omega) (by omega), wid (x := n - (n % t - t)) (by omega) (by omega), half_even he, wid (x := (n - (n % t - t)) / 2) (by omega) (by omega)]
      exact h
    · have hd1 : dig t n = n % t := by unfold dig; rw [if_neg hp, if_neg hb]
      rw [hd1] at h he
      simp only [if_neg hb, wid (x := n - n % t) (by omega) (by omega), half_even he, wid (x := (n - n % t) / 2) (by omega) (by omega)]
      exact h
theorem specWin_zero (t : Int) (acc : List Int) : Ev (fun k => spec_siWindow.l0 k 0 acc t) acc := by
  refine up ?_
  simp only [spec_siWindow.l0, if_true]
  exact Ev.now _
theorem specWin_loop {t : Int} (ht : Pw t) : ∀ (f : Nat) (n : Int) (acc : List Int), f ≤ 20 → -(2 ^ f) ≤ n → n ≤ 2 ^ f → acc.length + f < 1000 →
    Ev (fun k => spec_siWindow.l0 k n acc t) (acc ++ win t f n) := by
  intro f
  induction f with
  | zero =>
    intro n acc hf h0 h1 ha
    by_cases hn : n = 0
    · subst hn; rw [win_nil, List.append_nil]; exact specWin_zero t acc
    · have e := dig_one ht hn (by omega) (by omega)
      refine specWin_step ht hn (by omega) (by omega) acc (by omega) ?_
      rw [e, Int.sub_self, show (0 : Int) / 2 = 0 from rfl, show win t 0 n = [n] by unfold win; rw [if_neg hn]]
      exact specWin_zero t _
  | succ f ih =>
    intro n acc hf h0 h1 ha
    have hp := pow20 hf
    by_cases hn : n = 0
    · subst hn; rw [win_nil, List.append_nil]; exact specWin_zero t acc
    · have hx := dig_next ht f h0 h1
      have := ih ((n - dig t n) / 2) (acc ++ [dig t n]) (by omega) hx.1 hx.2 (by simp; omega)
      refine specWin_step ht hn (by omega) (by omega) acc (by omega) ?_
      rw [show win t (f + 1) n = dig t n :: win t f ((n - dig t n) / 2) by rw [win, if_neg hn]]
      simpa using this
theorem specWin {t w : Int} (ht : Pw t) (hw0 : 0 ≤ w) (hs : shl .i64 1 w = t) (n : Int) (h0 : -1000000 ≤ n) (h1 : n ≤ 1000000) : Ev (fun k => spec_siWindow.f k n w) (win t 20 n) := by
  have := specWin_loop ht 20 n [] (by omega) (by omega) (by omega) (by simp)
  simpa [spec_siWindow.f, if_pos hw0, hs] using this
theorem wf_byte {x : Int} (h : (Lit.int .u8 x).wf = true) : 0 ≤ x ∧ x ≤ 255 := by
  simp only [Lit.wf, Bool.and_eq_true, decide_eq_true_eq] at h
  exact h
theorem rd_byte {l : List Int} (hl : ∀ x ∈ l, (Lit.int .u8 x).wf = true) (i : Int) (h0 : 0 ≤ i) (h1 : i < l.length) : 0 ≤ rd l i ∧ rd l i ≤ 255 := by
  unfold rd
  have hi : i.toNat < l.length := by omega
  rw [List.getD_eq_getElem?_getD, List.getElem?_eq_getElem hi]
  exact wf_byte (hl _ (List.getElem_mem hi))
theorem wrapU_range (n : Int) : 0 ≤ IntKind.u64.wrap n ∧ IntKind.u64.wrap n < 18446744073709551616 := by
  simp only [IntKind.wrap, IntKind.bits, IntKind.signed, Bool.false_eq_true, false_and, if_false]
  simp
  omega
theorem and255 (x : Int) : 0 ≤ Go.bits .and .u64 (IntKind.u64.wrap x / 1099511627776) 255 ∧ Go.bits .and .u64 (IntKind.u64.wrap x / 1099511627776) 255 ≤ 255 := by
  have h := wrapU_range x
  have hw : ∀ n : Int, 0 ≤ n → n < 2 ^ 40 → IntKind.u64.wrap n = n := by
    intro n h0 h1
    have e : (2 : Int) ^ 40 = 1099511627776 := by decide
    simp only [IntKind.wrap, IntKind.bits, IntKind.signed, Bool.false_eq_true, false_and, if_false]
    simp
    omega
  have e : (2 : Int) ^ 40 = 1099511627776 := by decide
  have hb : Go.bits .and .u64 (IntKind.u64.wrap x / 1099511627776) ((2 : Int) ^ 8 - 1) = (IntKind.u64.wrap x / 1099511627776) % 2 ^ 8 := bits_mask .u64 40 (by decide) hw 8 (by decide) _ (by omega) (by omega)
  have e1 : (2 : Int) ^ 8 - 1 = 255 := by decide
  have e2 : (2 : Int) ^ 8 = 256 := by decide
  rw [e1, e2] at hb
  rw [hb]; omega
theorem next_ok {l : List Int} (hl : ∀ x ∈ l, (Lit.int .u8 x).wf = true) (p s : Int) (h0 : 0 ≤ p) (h1 : p ≤ 1000000000000) : ∃ v s', spec_l1Cur_next.f l p s = some (v, p + 1, s') ∧ 0 ≤ v ∧ v ≤ 255 := by
  unfold spec_l1Cur_next.f
  rw [wid (x := p + 1) (by omega) (by omega)]
  by_cases hlt : p < (l.length : Int)
  · have hb := rd_byte hl p h0 hlt
    rw [if_pos hlt, if_pos h0, if_pos (show p + 1 ≤ (l.length : Int) by omega), wid (x := rd l p) (by omega) (by omega)]
    exact ⟨_, _, rfl, by omega, by omega⟩
  · rw [if_neg hlt]
    by_cases hle : p + 1 ≤ (l.length : Int)
    · omega
    · rw [if_neg hle]
      have := and255 (IntKind.u64.wrap (IntKind.u64.wrap (s * 6364136223846793005)) + 1442695040888963407)
      rw [wid (by omega) (by omega)]
      exact ⟨_, _, rfl, this.1, this.2⟩
theorem pick_ok {l : List Int} (hl : ∀ x ∈ l, (Lit.int .u8 x).wf = true) (p s n : Int) (h0 : 0 ≤ p) (h1 : p ≤ 100000000000) : ∃ v p' s', spec_l1Cur_pick.f l p s n = some (v, p', s') ∧ 0 ≤ v ∧ (1 ≤ n → v < n) ∧ p ≤ p' ∧ p' ≤ p + 2 := by
  unfold spec_l1Cur_pick.f
  by_cases hn : n ≤ 1
  · rw [if_pos hn]; exact ⟨0, p, s, rfl, by omega, by omega, by omega, by omega⟩
  · rw [if_neg hn]
    obtain ⟨v, s1, e1, hv0, hv1⟩ := next_ok hl p s h0 (by omega)
    rw [e1]; simp only [Option.bind_some]
    by_cases hb : n > 200
    · obtain ⟨u, s2, e2, hu0, hu1⟩ := next_ok hl (p + 1) s1 (by omega) (by omega)
      rw [if_pos hb, e2]; simp only [Option.bind_some]
      rw [if_neg (by omega), wid (x := v * 256) (by omega) (by omega), wid (x := v * 256 + u) (by omega) (by omega), Int.tmod_eq_emod_of_nonneg (by omega)]
      have r1 := Int.emod_nonneg (v * 256 + u) (show n ≠ 0 by omega)
      have r2 := Int.emod_lt_of_pos (v * 256 + u) (show 0 < n by omega)
      exact ⟨_, _, _, rfl, r1, fun _ => r2, by omega, by omega⟩
    · rw [if_neg hb, if_neg (by omega), Int.tmod_eq_emod_of_nonneg (by omega)]
      have r1 := Int.emod_nonneg v (show n ≠ 0 by omega)
      have r2 := Int.emod_lt_of_pos v (show 0 < n by omega)
      exact ⟨_, _, _, rfl, r1, fun _ => r2, by omega, by omega⟩
theorem one_ok {l : List Int} (hl : ∀ x ∈ l, (Lit.int .u8 x).wf = true) (p s n : Int) (h0 : 0 ≤ p) (h1 : p ≤ 100000000000) : ∃ v p' s', spec_l1Cur_one.f l p s n = some (v, p', s') ∧ p ≤ p' ∧ p' ≤ p + 2 := by
  obtain ⟨v, p', s', e, _, _, a, b⟩ := pick_ok hl p s n h0 h1
  exact ⟨(v == 0), p', s', by simp only [spec_l1Cur_one.f, e, Option.bind_some], a, b⟩
theorem among_ok {l : List Int} (hl : ∀ x ∈ l, (Lit.int .u8 x).wf = true) (p s : Int) (h0 : 0 ≤ p) (h1 : p ≤ 100000000000) (t : List Int) (ht : 1 ≤ t.length) : ∃ v p' s', spec_l1Cur_among.f l p s t = some (v, p', s') ∧ v ∈ t ∧ p ≤ p' ∧ p' ≤ p + 2 := by
  obtain ⟨v, p', s', e, v0, v1, a, b⟩ := pick_ok hl p s t.length h0 h1
  have hv := v1 (by omega)
  refine ⟨rd t v, p', s', by simp only [spec_l1Cur_among.f, e, Option.bind_some, if_pos v0, if_pos hv], ?_, a, b⟩
  unfold rd
  have hi : v.toNat < t.length := by omega
  rw [List.getD_eq_getElem?_getD, List.getElem?_eq_getElem hi]
  exact List.getElem_mem hi
theorem signs1_ok {l : List Int} (hl : ∀ x ∈ l, (Lit.int .u8 x).wf = true) : ∀ (d : Nat) (L : List Int) (p s : Int), 25 ≤ L.length + d → L.length + d ≤ 60 → 0 ≤ p → p + 10 * d ≤ 1000000 → ∃ r p' s', Ev (fun k => spec_l1Cur_signs.l1 k L l p s) (r, p', s') ∧ r.length ≤ 60 ∧ p ≤ p' ∧ p' ≤ p + 10 * d + 10 := by
  intro d
  induction d with
  | zero =>
    intro L p s h h2 h0 h1
    obtain ⟨v, p1, s1, e, v0, v1, a, b⟩ := pick_ok hl p s 2 h0 (by omega)
    have v2 := v1 (by omega)
    refine ⟨L, p1, s1, up ?_, by omega, by omega, by omega⟩
    simp only [spec_l1Cur_signs.l1, e, Option.bind_some, wid (x := 24 + v) (by omega) (by omega), if_neg (show ¬ (L.length : Int) < 24 + v by omega)]
    exact Ev.now _
  | succ d ih =>
    intro L p s h h2 h0 h1
    obtain ⟨v, p1, s1, e, v0, v1, a, b⟩ := pick_ok hl p s 2 h0 (by omega)
    have v2 := v1 (by omega)
    by_cases c : (L.length : Int) < 24 + v
    · obtain ⟨u, p2, s2, e2, _, _, a2, b2⟩ := pick_ok hl p1 s1 3 (by omega) (by omega)
      obtain ⟨r, p', s', er, hr, ar, br⟩ := ih (L ++ [wrap64 (u - 1)]) p2 s2 (by simp; omega) (by simp; omega) (by omega) (by omega)
      refine ⟨r, p', s', up ?_, hr, by omega, by omega⟩
      simp only [spec_l1Cur_signs.l1, e, Option.bind_some, wid (x := 24 + v) (by omega) (by omega), if_pos c, e2, if_pos (show L.length < 17592186044416 by omega)]
      exact er
    · refine ⟨L, p1, s1, up ?_, by omega, by omega, by omega⟩
      simp only [spec_l1Cur_signs.l1, e, Option.bind_some, wid (x := 24 + v) (by omega) (by omega), if_neg c]
      exact Ev.now _
theorem signs2_ok {l : List Int} (hl : ∀ x ∈ l, (Lit.int .u8 x).wf = true) (L : List Int) (hL : L.length ≤ 60) (c : Bool) (p s : Int) (h0 : 0 ≤ p) (h1 : p ≤ 1000000) : ∃ r p' s', Ev (fun k => spec_l1Cur_signs.j2 k L c l p s) (r, p', s') ∧ r.length ≤ 60 ∧ p ≤ p' ∧ p' ≤ p + 2 := by
  cases c with
  | false =>
    refine ⟨L, p, s, up ?_, hL, by omega, by omega⟩
    simp only [spec_l1Cur_signs.j2, Bool.false_eq_true, if_false]
    exact Ev.now _
  | true =>
    obtain ⟨v, p1, s1, e, v0, v1, a, b⟩ := pick_ok hl p s 3000 h0 (by omega)
    have v2 := v1 (by omega)
    refine ⟨win 4 20 (v - 1500), p1, s1, up ?_, by have := win_length 4 20 (v - 1500); omega, a, b⟩
    simp only [spec_l1Cur_signs.j2, if_true, e, Option.bind_some, wid (x := v - 1500) (by omega) (by omega)]
    exact Ev.bind (specWin (t := 4) (.inl rfl) (by omega) (by decide) (v - 1500) (by omega) (by omega)) (Ev.now _)
theorem signs0_ok {l : List Int} (hl : ∀ x ∈ l, (Lit.int .u8 x).wf = true) : ∀ (d : Nat) (L : List Int) (p s : Int), L.length + d ≤ 20 → 0 ≤ p → p + 10 * d ≤ 100000 → ∃ r p' s', Ev (fun k => spec_l1Cur_signs.l0 k L d l p s) (r, p', s') ∧ r.length ≤ 60 ∧ p ≤ p' ∧ p' ≤ p + 10 * d + 600 := by
  intro d
  induction d with
  | zero =>
    intro L p s hL h0 h1
    obtain ⟨v, p1, s1, e, v0, v1, a, b⟩ := pick_ok hl p s 16 h0 (by omega)
    have v2 := v1 (by omega)
    by_cases c0 : v = 0
    · obtain ⟨u, p2, s2, e2, _, a2, b2⟩ := among_ok hl p1 s1 (by omega) (by omega) [2, (-2), 1099511627776] (by simp)
      refine ⟨L ++ [u], p2, s2, up ?_, by simp; omega, by omega, by omega⟩
      simp only [spec_l1Cur_signs.l0, if_neg (show ¬ ((0 : Nat) : Int) > 0 by omega), e, Option.bind_some, if_pos c0, e2, if_pos (show L.length < 17592186044416 by omega)]
      exact Ev.now _
    by_cases c1 : v = 1
    · obtain ⟨r, p', s', er, hr, ar, br⟩ := signs1_ok hl 30 L p1 s1 (by omega) (by omega) (by omega) (by omega)
      refine ⟨r, p', s', up ?_, hr, by omega, by omega⟩
      simp only [spec_l1Cur_signs.l0, if_neg (show ¬ ((0 : Nat) : Int) > 0 by omega), e, Option.bind_some, if_neg c0, if_pos c1]
      exact er
    have j : ∀ c : Bool, ∃ r p' s', Ev (fun k => spec_l1Cur_signs.j2 k L c l p1 s1) (r, p', s') ∧ r.length ≤ 60 ∧ p ≤ p' ∧ p' ≤ p + 10 * ((0 : Nat) : Int) + 600 := fun c => by
      obtain ⟨r, p', s', er, hr, ar, br⟩ := signs2_ok hl L (by omega) c p1 s1 (by omega) (by omega)
      exact ⟨r, p', s', er, hr, by omega, by omega⟩
    by_cases c2 : v = 2
    · obtain ⟨r, p', s', er, hr, ar, br⟩ := j (v == 2)
      refine ⟨r, p', s', up ?_, hr, ar, br⟩
      simp only [spec_l1Cur_signs.l0, if_neg (show ¬ ((0 : Nat) : Int) > 0 by omega), e, Option.bind_some, if_neg c0, if_neg c1, if_pos c2]
      exact er
    by_cases c3 : v = 3
    · obtain ⟨r, p', s', er, hr, ar, br⟩ := j (v == 3)
      refine ⟨r, p', s', up ?_, hr, ar, br⟩
      simp only [spec_l1Cur_signs.l0, if_neg (show ¬ ((0 : Nat) : Int) > 0 by omega), e, Option.bind_some, if_neg c0, if_neg c1, if_neg c2, if_pos c3]
      exact er
    obtain ⟨r, p', s', er, hr, ar, br⟩ := j (v == 4)
    refine ⟨r, p', s', up ?_, hr, ar, br⟩
    simp only [spec_l1Cur_signs.l0, if_neg (show ¬ ((0 : Nat) : Int) > 0 by omega), e, Option.bind_some, if_neg c0, if_neg c1, if_neg c2, if_neg c3]
    exact er
  | succ d ih =>
    intro L p s hL h0 h1
    have hd : wrap64 (((d + 1 : Nat) : Int) - 1) = (d : Int) := by rw [wid (by omega) (by omega)]; omega
    obtain ⟨v, p1, s1, e, v0, v1, a, b⟩ := pick_ok hl p s 3 h0 (by omega)
    obtain ⟨r, p', s', er, hr, ar, br⟩ := ih (L ++ [wrap64 (v - 1)]) p1 s1 (by simp; omega) (by omega) (by omega)
    refine ⟨r, p', s', up ?_, hr, by omega, by omega⟩
    simp only [spec_l1Cur_signs.l0, if_pos (show ((d + 1 : Nat) : Int) > 0 by omega), e, Option.bind_some, if_pos (show L.length < 17592186044416 by omega), hd]
    exact er
theorem signs_at {l : List Int} (hl : ∀ x ∈ l, (Lit.int .u8 x).wf = true) (p s : Int) (h0 : 0 ≤ p) (h1 : p ≤ 10000) : ∃ r p' s', Ev (fun k => spec_l1Cur_signs.f k l p s) (r, p', s') ∧ r.length ≤ 60 ∧ p ≤ p' ∧ p' ≤ p + 1000 := by
  obtain ⟨w, p1, s1, e1, hw, a1, b1⟩ := among_ok hl p s (by omega) (by omega) [4, 8, 16] (by simp)
  obtain ⟨v, p2, s2, e2, v0, v1, a2, b2⟩ := pick_ok hl p1 s1 w (by omega) (by omega)
  have hw2 : 1 ≤ w ∧ w ≤ 16 := by simp at hw; omega
  have v2 := v1 (by omega)
  obtain ⟨d, rfl⟩ := Int.eq_ofNat_of_zero_le v0
  obtain ⟨r, p', s', er, hr, ar, br⟩ := signs0_ok hl d [] p2 s2 (by simp; omega) (by omega) (by omega)
  refine ⟨r, p', s', ?_, hr, by omega, by omega⟩
  simp only [spec_l1Cur_signs.f, e1, Option.bind_some, e2]
  exact er
theorem signs_ok {l : List Int} (hl : ∀ x ∈ l, (Lit.int .u8 x).wf = true) : ∃ r p' s', Ev (fun k => spec_l1Cur_signs.f k l 0 0) (r, p', s') ∧ r.length ≤ 60 ∧ 0 ≤ p' ∧ p' ≤ 1000 := signs_at hl 0 0 (by omega) (by omega)
theorem number9_ok {l : List Int} (hl : ∀ x ∈ l, (Lit.int .u8 x).wf = true) (p s : Int) (h0 : 0 ≤ p) (h1 : p ≤ 10000000000) : ∃ v p' s', spec_l1Cur_number9.f l p s = some (v, p', s') ∧ p ≤ p' ∧ p' ≤ p + 8 := by
  unfold spec_l1Cur_number9.f
  obtain ⟨v, p1, s1, e, _, _, a, b⟩ := pick_ok hl p s 10 h0 (by omega)
  rw [e]; simp only [Option.bind_some]
  by_cases c0 : v = 0
  · obtain ⟨u, p2, s2, e2, _, a2, b2⟩ := among_ok hl p1 s1 (by omega) (by omega) [0, 1, (-1), 1000000, (-1000000), 1000001, (-1000001), 4611686018427387904, (-9223372036854775808)] (by simp)
    rw [if_pos c0, e2]; exact ⟨_, p2, s2, rfl, by omega, by omega⟩
  rw [if_neg c0]
  by_cases c1 : v = 1
  · obtain ⟨u, p2, s2, e2, _, _, a2, b2⟩ := pick_ok hl p1 s1 60000 (by omega) (by omega)
    rw [if_pos c1, e2]; exact ⟨_, p2, s2, rfl, by omega, by omega⟩
  rw [if_neg c1]
  by_cases c2 : v = 2
  · obtain ⟨u, p2, s2, e2, u0, _, a2, b2⟩ := pick_ok hl p1 s1 20 (by omega) (by omega)
    obtain ⟨t, p3, s3, e3, _, _, a3, b3⟩ := pick_ok hl p2 s2 3 (by omega) (by omega)
    rw [if_pos c2, e2]; simp only [Option.bind_some]
    rw [if_pos u0, e3]; exact ⟨_, p3, s3, rfl, by omega, by omega⟩
  rw [if_neg c2]
  obtain ⟨u, p2, s2, e2, _, a2, b2⟩ := among_ok hl p1 s1 (by omega) (by omega) [20, 200, 2000] (by simp)
  obtain ⟨t, p3, s3, e3, _, _, a3, b3⟩ := pick_ok hl p2 s2 u (by omega) (by omega)
  obtain ⟨q, p4, s4, e4, _, a4, b4⟩ := among_ok hl p3 s3 (by omega) (by omega) [0, 10, 100] (by simp)
  rw [e2]; simp only [Option.bind_some]
  rw [e3]; simp only [Option.bind_some]
  rw [e4]; exact ⟨_, p4, s4, rfl, by omega, by omega⟩
theorem rSame_loop (l : List Int) (hl : l.length ≤ 140737488351232) : ∀ (d : Nat) (i : Int), 0 ≤ i → i + d = l.length → Ev (fun k => laws_rSame.l0 k l l (l.length : Int) i) true := by
  intro d
  induction d with
  | zero =>
    intro i h0 h
    refine up ?_
    simp only [laws_rSame.l0, if_neg (show ¬ i < (l.length : Int) by omega)]
    exact Ev.now _
  | succ d ih =>
    intro i h0 h
    refine up ?_
    simp only [laws_rSame.l0, if_pos (show i < (l.length : Int) by omega), if_pos h0, if_true, wid (x := i + 1) (by omega) (by omega)]
    exact ih (i + 1) (by omega) (by omega)
theorem rSame_same (l : List Int) (hl : l.length ≤ 140737488351232) : Ev (fun k => laws_rSame.f k l l) true := by
  simp only [laws_rSame.f, if_true]
  exact rSame_loop l hl l.length 0 (by omega) (by omega)
theorem width_cases {w : Int} (h0 : 2 ≤ w) (h1 : w ≤ 6) : ∃ t, Pw t ∧ shl .i64 1 w = t ∧ shl .i64 1 (w - 1) = t / 2 ∧ mostOf w + 1 = t / 2 ∧ ∃ v : Nat, w = v + 1 ∧ t = 2 ^ (v + 1) := by
  have : w = 2 ∨ w = 3 ∨ w = 4 ∨ w = 5 ∨ w = 6 := by omega
  unfold Pw
  rcases this with rfl | rfl | rfl | rfl | rfl
  · exact ⟨4, by omega, by decide, by decide, by decide, 1, by decide, by decide⟩
  · exact ⟨8, by omega, by decide, by decide, by decide, 2, by decide, by decide⟩
  · exact ⟨16, by omega, by decide, by decide, by decide, 3, by decide, by decide⟩
  · exact ⟨32, by omega, by decide, by decide, by decide, 4, by decide, by decide⟩
  · exact ⟨64, by omega, by decide, by decide, by decide, 5, by decide, by decide⟩
theorem widthOk_true {w : Int} (h0 : 2 ≤ w) (h1 : w ≤ 6) : impl_widthOk.f w = some true := by rw [widthOk_val, decide_eq_true h0, decide_eq_true h1]; rfl
theorem okNum_range {n : Int} (h : okNum n = true) : -1000000 ≤ n ∧ n ≤ 1000000 := by
  unfold okNum at h
  simpa only [Bool.and_eq_true, decide_eq_true_eq] using h
/-- What WindowDigits answers. -/
def wdV (n w : Int) : List Int × Bool := if okNum n = true then (if 2 ≤ w ∧ w ≤ 6 then (win (shl .i64 1 w) 20 n, true) else ([], false)) else ([], false)
theorem wdSpec (n w : Int) : Ev (fun k => spec_WindowDigits.f k n w) (wdV n w) := by
  simp only [spec_WindowDigits.f, siNumber_val, siWidth_val, Option.bind_some, wdV]
  by_cases h : okNum n = true
  · have hr := okNum_range h
    simp only [h, if_true]
    by_cases hw : 2 ≤ w ∧ w ≤ 6
    · obtain ⟨t, ht, hs, hh, _⟩ := width_cases hw.1 hw.2
      have hb : (decide (2 ≤ w) && decide (w ≤ 6)) = true := by rw [decide_eq_true hw.1, decide_eq_true hw.2]; rfl
      simp only [hb, if_true, if_pos hw, hs]
      exact Ev.bind (specWin ht (by omega) hs n hr.1 hr.2) (Ev.now _)
    · have hb : (decide (2 ≤ w) && decide (w ≤ 6)) = false := by rw [Bool.and_eq_false_iff, decide_eq_false_iff_not, decide_eq_false_iff_not]; omega
      simp only [hb, Bool.false_eq_true, if_false, if_neg hw]; exact Ev.now _
  · simp only [h, Bool.false_eq_true, if_false]; exact Ev.now _
theorem wdImpl (n w : Int) : Ev (fun k => impl_WindowDigits.f k n w) (wdV n w) := by
  simp only [impl_WindowDigits.f, signedOk_val, widthOk_val, Option.bind_some, wdV]
  by_cases h : okNum n = true
  · have hr := okNum_range h
    simp only [h, if_true]
    by_cases hw : 2 ≤ w ∧ w ≤ 6
    · obtain ⟨t, ht, hs, hh, _⟩ := width_cases hw.1 hw.2
      have hb : (decide (2 ≤ w) && decide (w ≤ 6)) = true := by rw [decide_eq_true hw.1, decide_eq_true hw.2]; rfl
      simp only [hb, if_true, if_pos hw, hs]
      exact Ev.bind (implWin ht (by omega) hw.2 hs hh n hr.1 hr.2) (Ev.now _)
    · have hb : (decide (2 ≤ w) && decide (w ≤ 6)) = false := by rw [Bool.and_eq_false_iff, decide_eq_false_iff_not, decide_eq_false_iff_not]; omega
      simp only [hb, Bool.false_eq_true, if_false, if_neg hw]; exact Ev.now _
  · simp only [h, Bool.false_eq_true, if_false]; exact Ev.now _
theorem pow_20 : (2 : Int) ^ 20 = 1048576 := by decide
theorem misfit_iff (m d : Int) : misfit m d = false ↔ d = 0 ∨ ¬ d % 2 = 0 ∧ -(m + 1) < d ∧ d < m + 1 := by
  have e := misfit_eq m d
  constructor
  · intro h
    rw [h] at e
    have e2 := e.symm
    simp only [Bool.not_false, Bool.and_eq_true, Bool.or_eq_true, beq_iff_eq, decide_eq_true_eq] at e2
    omega
  · intro h
    have : (!misfit m d) = true := by
      rw [e]
      simp only [Bool.and_eq_true, Bool.or_eq_true, beq_iff_eq, decide_eq_true_eq]
      omega
    simpa using this
theorem fits_win {m t : Int} (h : m + 1 = t / 2) (l : List Int) : winB m l = false ↔ fits t l := by
  unfold winB fits
  rw [List.any_eq_false]
  constructor
  · intro hx d hd
    have := (misfit_iff m d).1 (by simpa using hx d hd)
    rw [h] at this
    exact this
  · intro hx d hd
    have := (misfit_iff m d).2 (by rw [h]; exact hx d hd)
    simpa using this
theorem win_ok {n w : Int} (h : okNum n = true) (hw : 2 ≤ w ∧ w ≤ 6) : winV (win (shl .i64 1 w) 20 n) w = (n, true) := by
  have hr := okNum_range h
  obtain ⟨t, ht, hs, _, hm, v, hv, hv2⟩ := width_cases hw.1 hw.2
  rw [hs]
  have p := pow_20
  have hl := win_length t 20 n
  have hf := (fits_win hm _).2 (win_fits ht 20 n (by omega) (by omega))
  have ha : sparseB w (win t 20 n) = true := by
    unfold sparseB
    rw [lastOk_lz, win_lz ht, apart_ap, Bool.true_and, show (0 : Int) - (-w) = w by omega]
    subst hv
    refine win_ap ht v hv2 20 n _ (by omega) (by omega) fun k hk => ?_
    have : k = 0 := by omega
    subst this
    exact ⟨n, by simp⟩
  unfold winV
  rw [if_pos hw, if_pos (by omega), if_pos ha, hf, if_neg (by decide), win_val t ht, if_pos h]
theorem win_back {l : List Int} {w m : Int} (h : winV l w = (m, true)) : wdV m w = (l, true) := by
  unfold winV at h
  by_cases hw : 2 ≤ w ∧ w ≤ 6
  · rw [if_pos hw] at h
    by_cases hl : l.length ≤ 24
    · rw [if_pos hl] at h
      by_cases ha : sparseB w l = true
      · rw [if_pos ha] at h
        by_cases hf : winB (mostOf w) l = true
        · rw [if_pos hf] at h; cases h
        · rw [if_neg hf] at h
          by_cases hn : okNum (val l) = true
          · rw [if_pos hn] at h
            have e : val l = m := (Prod.mk.inj h).1
            subst e
            obtain ⟨t, ht, hs, _, hm, v, hv, hv2⟩ := width_cases hw.1 hw.2
            have hr := okNum_range hn
            have p := pow_20
            unfold wdV
            rw [if_pos hn, if_pos hw, hs]
            unfold sparseB at ha
            rw [Bool.and_eq_true, lastOk_lz, apart_ap] at ha
            have hfit := (fits_win hm l).1 (by simpa using hf)
            subst hv
            rw [win_uniq ht v hv2 20 l _ (by omega) (by omega) hfit ha.1 ha.2]
          · rw [if_neg hn] at h; cases h
      · rw [if_neg ha] at h; cases h
    · rw [if_neg hl] at h; cases h
  · rw [if_neg hw] at h; cases h
theorem shl_pw {w : Int} (h : w = 2 ∨ w = 3 ∨ w = 4 ∨ w = 5 ∨ w = 6) : Pw (shl .i64 1 w) := by
  unfold Pw
  rcases h with rfl | rfl | rfl | rfl | rfl
  · exact .inl (by decide)
  · exact .inr (.inl (by decide))
  · exact .inr (.inr (.inl (by decide)))
  · exact .inr (.inr (.inr (.inl (by decide))))
  · exact .inr (.inr (.inr (.inr (by decide))))
theorem drawW {l : List Int} (hl : ∀ x ∈ l, (Lit.int .u8 x).wf = true) : ∃ r w, Ev (fun k => spec_DrawFromWindow.f k l) (r, w) ∧ r.length ≤ 60 := by
  obtain ⟨w, p1, s1, e1, hw, a1, b1⟩ := among_ok hl 0 0 (by omega) (by omega) [2, 3, 4, 5, 6, 3, 4, 1, 7] (by simp)
  obtain ⟨c, p2, s2, e2, a2, b2⟩ := one_ok hl p1 s1 4 (by omega) (by omega)
  by_cases hc : c = true
  · obtain ⟨r, p3, s3, e3, hr, _, _⟩ := signs_at hl p2 s2 (by omega) (by omega)
    refine ⟨r, w, ?_, hr⟩
    simp only [spec_DrawFromWindow.f, e1, e2, Option.bind_some, if_pos hc]
    exact Ev.bind e3 (Ev.now _)
  · obtain ⟨v, p3, s3, e3, v0, v1, a3, b3⟩ := pick_ok hl p2 s2 6000 (by omega) (by omega)
    have v2 := v1 (by omega)
    have hww : ∃ x, (∃ y, spec_l1Least.f w 6 = some y ∧ spec_l1Most.f 2 y = some x) ∧ (x = 2 ∨ x = 3 ∨ x = 4 ∨ x = 5 ∨ x = 6) := by
      simp at hw
      rcases hw with rfl | rfl | rfl | rfl | rfl | rfl | rfl | rfl | rfl
      · exact ⟨2, ⟨2, rfl, rfl⟩, by omega⟩
      · exact ⟨3, ⟨3, rfl, rfl⟩, by omega⟩
      · exact ⟨4, ⟨4, rfl, rfl⟩, by omega⟩
      · exact ⟨5, ⟨5, rfl, rfl⟩, by omega⟩
      · exact ⟨6, ⟨6, rfl, rfl⟩, by omega⟩
      · exact ⟨3, ⟨3, rfl, rfl⟩, by omega⟩
      · exact ⟨4, ⟨4, rfl, rfl⟩, by omega⟩
      · exact ⟨2, ⟨1, rfl, rfl⟩, by omega⟩
      · exact ⟨6, ⟨6, rfl, rfl⟩, by omega⟩
    obtain ⟨x, ⟨y, hy, hx⟩, hx2⟩ := hww
    have ht := shl_pw hx2
    have hwin := specWin ht (by omega) rfl (v - 3000) (by omega) (by omega)
    have hlen := win_length (shl .i64 1 x) 20 (v - 3000)
    have hw3 : wrap64 (v - 3000) = v - 3000 := wid (by omega) (by omega)
    generalize win (shl .i64 1 x) 20 (v - 3000) = D at hwin hlen
    have J : ∀ (b : Bool) (p s : Int), 0 ≤ p → p ≤ 100000 → (b = true → D.length > 0) → ∃ r, Ev (fun k => spec_DrawFromWindow.j0 k w D b l p s) (r, w) ∧ r.length ≤ 60 := by
      intro b p s h0 h1 hb
      cases b with
      | false =>
        refine ⟨D, up ?_, by omega⟩
        simp only [spec_DrawFromWindow.j0, Bool.false_eq_true, if_false]
        exact Ev.now _
      | true =>
        have hpos := hb rfl
        obtain ⟨i, p5, s5, e5, i0, i1, a5, b5⟩ := pick_ok hl p s D.length h0 (by omega)
        obtain ⟨j, p6, s6, e6, j0, j1, a6, b6⟩ := pick_ok hl p5 s5 9 (by omega) (by omega)
        have i2 := i1 (by omega)
        refine ⟨D.set i.toNat (wrap64 (j - 4)), up ?_, by rw [List.length_set]; omega⟩
        simp only [spec_DrawFromWindow.j0, if_true, e5, e6, Option.bind_some, if_pos i0, if_pos i2]
        exact Ev.now _
    by_cases hpos : (D.length : Int) > 0
    · obtain ⟨b, p4, s4, e4, a4, b4⟩ := one_ok hl p3 s3 4 (by omega) (by omega)
      obtain ⟨r, hr, hr2⟩ := J b p4 s4 (by omega) (by omega) (fun _ => by omega)
      refine ⟨r, w, ?_, hr2⟩
      simp only [spec_DrawFromWindow.f, e1, e2, e3, hy, hx, Option.bind_some, if_neg hc, hw3]
      refine Ev.bind hwin ?_
      simp only [if_pos hpos, e4, Option.bind_some]
      exact hr
    · obtain ⟨r, hr, hr2⟩ := J false p3 s3 (by omega) (by omega) (fun h => by cases h)
      refine ⟨r, w, ?_, hr2⟩
      simp only [spec_DrawFromWindow.f, e1, e2, e3, hy, hx, Option.bind_some, if_neg hc, hw3]
      refine Ev.bind hwin ?_
      simp only [if_neg hpos]
      exact hr
theorem wd_len (n w : Int) : (wdV n w).1.length ≤ 21 := by
  unfold wdV
  split
  · split
    · exact win_length _ 20 n
    · simp
  · simp
theorem part2 {l : List Int} (hl : ∀ x ∈ l, (Lit.int .u8 x).wf = true) : Ev (fun k => laws_FnWindowForms.j1 k l) true := by
  obtain ⟨r, w, hd, hr⟩ := drawW hl
  refine up ?_
  simp only [laws_FnWindowForms.j1]
  refine Ev.bind hd ?_
  refine Ev.bind (implW r w) ?_
  refine Ev.bind (specW r (by omega) w) ?_
  simp only [bne_self_eq_false, Bool.false_eq_true, if_false]
  refine up ?_
  simp only [laws_FnWindowForms.j2, Bool.false_eq_true, if_false]
  rcases hv : winV r w with ⟨m, b⟩
  cases b with
  | false => simp only [Bool.false_eq_true, if_false]; exact Ev.now _
  | true =>
    simp only [if_true]
    have hi := wdImpl m w
    rw [win_back hv] at hi
    refine Ev.bind hi ?_
    simp only [if_true]
    exact Ev.bind (rSame_same r (by omega)) (Ev.now _)
theorem main : laws_FnWindowForms.Pure := by
  intro l0 l1 _ _ hw0 _ _ hw1
  refine Ev.rounds ?_
  simp only [laws_FnWindowForms.f]
  have hb : ∃ b, laws_big.f l0 l1 = some b := by
    unfold laws_big.f
    split <;> exact ⟨_, rfl⟩
  obtain ⟨b, hb⟩ := hb
  simp only [hb, Option.bind_some]
  cases b with
  | true => simp only [if_true]; exact Ev.now _
  | false =>
    simp only [Bool.false_eq_true, if_false]
    obtain ⟨n, p1, s1, e1, a1, b1⟩ := number9_ok hw0 0 0 (by omega) (by omega)
    obtain ⟨w, p2, s2, e2, _, _, _⟩ := among_ok hw0 p1 s1 (by omega) (by omega) [2, 3, 4, 5, 6, 7, 1, 3, 4] (by simp)
    simp only [spec_DrawWindowDigits.f, e1, e2, Option.bind_some]
    refine Ev.bind (wdImpl n w) ?_
    refine Ev.bind (wdSpec n w) ?_
    simp only [bne_self_eq_false, Bool.false_eq_true, if_false]
    have hlen := wd_len n w
    refine Ev.bind (rSame_same (wdV n w).1 (by omega)) ?_
    refine up ?_
    simp only [laws_FnWindowForms.j0, Bool.not_true, Bool.false_eq_true, if_false]
    by_cases hok : okNum n = true
    · by_cases hw : 2 ≤ w ∧ w ≤ 6
      · have e : wdV n w = (win (shl .i64 1 w) 20 n, true) := by unfold wdV; rw [if_pos hok, if_pos hw]
        simp only [e, if_true]
        have hi := implW (win (shl .i64 1 w) 20 n) w
        rw [win_ok hok hw] at hi
        refine Ev.bind hi ?_
        have hr := okNum_range hok
        have hsd : Ev (fun k => impl_SignedDigits.f k n) (win 4 20 n, true) := by
          simp only [impl_SignedDigits.f, signedOk_val, hok, if_true, Option.bind_some]
          exact Ev.bind (implWin (.inl rfl) (by omega) (by omega) (by decide) (by decide) n hr.1 hr.2) (Ev.now _)
        refine Ev.bind hsd ?_
        simp only [if_true]
        by_cases h2 : w = 2
        · subst h2
          have e4 : shl .i64 1 (2 : Int) = 4 := by decide
          simp only [if_true, e4]
          have := win_length 4 20 n
          refine Ev.bind (rSame_same (win 4 20 n) (by omega)) ?_
          simp only [if_true]
          exact part2 hw1
        · simp only [if_neg h2]
          exact part2 hw1
      · have e : wdV n w = ([], false) := by unfold wdV; rw [if_pos hok, if_neg hw]
        simp only [e, Bool.false_eq_true, if_false]
        exact part2 hw1
    · have e : wdV n w = ([], false) := by unfold wdV; rw [if_neg hok]
      simp only [e, Bool.false_eq_true, if_false]
      exact part2 hw1
end Go.Proofs.Ytafnnnpcochnnaa.PureFnWindowFormsL
namespace Go.Proofs.Ytafnnnpcochnnaa.Pure
open Go.Proofs.Ytafnnnpcochnnaa.PFnWindowForms
theorem FnWindowForms : laws_FnWindowForms.Pure := PureFnWindowFormsL.main
end Go.Proofs.Ytafnnnpcochnnaa.Pure
