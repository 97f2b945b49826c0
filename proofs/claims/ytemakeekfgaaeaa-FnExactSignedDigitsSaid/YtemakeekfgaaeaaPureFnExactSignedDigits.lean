/- The program's SignedDigits returns what the reference's SignedDigits returns, for all arguments of the type int; nothing else is asked of the argument. -/
import Derived.Test.YtemakeekfgaaeaaPFnExactSignedDigitsx1
import Derived.Test.YtemakeekfgaaeaaPFnExactSignedDigitsx2
set_option linter.unusedVariables false
set_option linter.unusedSimpArgs false
namespace Go.Proofs.Ytemakeekfgaaeaa.PureFnExactSignedDigitsL
open Go.RowKit Go.Proofs.Ytemakeekfgaaeaa.PFnExactSignedDigits Go.Proofs.YtemakeekfgaaeaaW.PrintWords Go.Proofs.YtemakeekfgaaeaaW.PrintLast Go.Proofs.YtemakeekfgaaeaaW.PrintMore
theorem up {α : Type} {g : Nat → Option α} {r : α} (h : Ev (fun k => g (k + 1)) r) : Ev g r := by
  obtain ⟨K, h⟩ := h
  refine ⟨K + 1, fun k hk => ?_⟩
  obtain ⟨m, rfl⟩ : ∃ m, k = m + 1 := ⟨k - 1, by omega⟩
  exact h m (by omega)
theorem wid {x : Int} (h0 : -9223372036854775808 ≤ x) (h1 : x ≤ 9223372036854775807) : wrap64 x = x := by unfold wrap64; omega
theorem ite_yes {α : Type} {c : Prop} [Decidable c] {a b : α} (h : c) : (if c then a else b) = a := if_pos h
theorem ite_no {α : Type} {c : Prop} [Decidable c] {a b : α} (h : ¬ c) : (if c then a else b) = b := if_neg h
theorem evsome {α β : Type} {x : Option α} {a : α} {f : Nat → α → Option β} {r : β} (hx : x = some a) (h : Ev (fun k => f k a) r) : Ev (fun k => x.bind (f k)) r := by subst hx; exact h
theorem tmod_in {a b : Int} (hb : 0 < b) : -b < Int.tmod a b ∧ Int.tmod a b < b := by
  have h1 := Int.tmod_lt_of_pos a hb
  have h2 := Int.lt_tmod_of_pos a hb
  exact ⟨h2, h1⟩
theorem rest_val {a b : Int} (hb : 0 < b) (hb2 : b ≤ 1000000000000000) : impl_rest.f a b = some (a % b) := by
  have h := tmod_in (a := a) hb
  unfold impl_rest.f
  rw [if_neg (by omega), wid (by omega) (by omega), Int.tmod_eq_emod_of_nonneg (by omega), Int.add_emod_right]
  congr 1
  rw [Int.tmod_def, Int.sub_mul_emod_self_left]
theorem posmod {a b : Int} (hb : 0 < b) (hb2 : b ≤ 1000000000000000) : Int.tmod (wrap64 ((Int.tmod a b) + b)) b = a % b := by
  have h := rest_val (a := a) hb hb2
  unfold impl_rest.f at h
  rw [if_neg (by omega)] at h
  exact Option.some.inj h
theorem odd_test (x : Int) : Int.tmod x 2 = 0 ↔ x % 2 = 0 := by
  rw [← Int.dvd_iff_tmod_eq_zero, ← Int.dvd_iff_emod_eq_zero]
theorem half_even {x : Int} (h : x % 2 = 0) : Int.tdiv x 2 = x / 2 := Int.tdiv_eq_ediv_of_dvd (Int.dvd_of_emod_eq_zero h)
/-- The window digit of a number, for the width whose power of two is t. -/
def dig (t n : Int) : Int := if n % 2 = 0 then 0 else if n % t > t / 2 then n % t - t else n % t
/-- The window digits of a number whose size is at most 2^f. -/
def win (t : Int) : Nat → Int → List Int
  | 0, n => if n = 0 then [] else [n]
  | f + 1, n => if n = 0 then [] else dig t n :: win t f ((n - dig t n) / 2)
def Pw (t : Int) : Prop := t = 4 ∨ t = 8 ∨ t = 16 ∨ t = 32 ∨ t = 64
theorem win_nil (t : Int) (f : Nat) : win t f 0 = [] := by cases f <;> simp [win]
theorem win_length (t : Int) : ∀ (f : Nat) (n : Int), (win t f n).length ≤ f + 1
  | 0, n => by unfold win; split <;> simp
  | f + 1, n => by
    unfold win
    split
    · simp
    · have := win_length t f ((n - dig t n) / 2); simp only [List.length_cons]; omega
theorem dig_even {t : Int} (ht : Pw t) (n : Int) : (n - dig t n) % 2 = 0 := by
  unfold dig Pw at *
  rcases ht with rfl | rfl | rfl | rfl | rfl <;> (split <;> (try split) <;> omega)
theorem dig_size {t : Int} (ht : Pw t) (n : Int) : -32 < dig t n ∧ dig t n < 32 := by
  unfold dig Pw at *
  rcases ht with rfl | rfl | rfl | rfl | rfl <;> (split <;> (try split) <;> omega)
theorem dig_one {t : Int} (ht : Pw t) {n : Int} (h0 : n ≠ 0) (h1 : -1 ≤ n) (h2 : n ≤ 1) : dig t n = n := by
  have : n = 1 ∨ n = -1 := by omega
  unfold Pw at ht
  rcases ht with rfl | rfl | rfl | rfl | rfl <;> rcases this with rfl | rfl <;> decide
theorem dig_next_aux {t P Q n : Int} (ht : Pw t) (hPQ : P = 2 * Q) (hP : (P = 2 ∨ P = 4 ∨ P = 8 ∨ P = 16 ∨ P = 32) ∨ ∃ p, P = 64 * p) (h0 : -P ≤ n) (h1 : n ≤ P) : -Q ≤ (n - dig t n) / 2 ∧ (n - dig t n) / 2 ≤ Q := by
  unfold dig
  unfold Pw at ht
  rcases ht with rfl | rfl | rfl | rfl | rfl <;> rcases hP with (rfl | rfl | rfl | rfl | rfl) | ⟨p, rfl⟩ <;> (split <;> (try split) <;> omega)
theorem two_pow_int (f : Nat) : (2 : Int) ^ (f + 1) = 2 * 2 ^ f := by rw [Int.pow_succ]; omega
theorem dig_next {t : Int} (ht : Pw t) (f : Nat) {n : Int} (h0 : -(2 ^ (f + 1)) ≤ n) (h1 : n ≤ 2 ^ (f + 1)) : -(2 ^ f) ≤ (n - dig t n) / 2 ∧ (n - dig t n) / 2 ≤ 2 ^ f := by
  refine dig_next_aux ht (two_pow_int f) ?_ h0 h1
  rcases Nat.lt_or_ge f 5 with hf | hf
  · have hc : f = 0 ∨ f = 1 ∨ f = 2 ∨ f = 3 ∨ f = 4 := by omega
    left
    rcases hc with rfl | rfl | rfl | rfl | rfl <;> decide
  · obtain ⟨g, rfl⟩ : ∃ g, f = g + 5 := ⟨f - 5, by omega⟩
    right
    exact ⟨2 ^ g, by simp only [Int.pow_succ]; omega⟩
theorem pow20 {f : Nat} (hf : f ≤ 20) : (2 : Int) ^ f ≤ 1048576 := by
  have h := Nat.pow_le_pow_right (n := 2) (by omega) hf
  have e : ((2 ^ f : Nat) : Int) = (2 : Int) ^ f := by simp
  omega
theorem implWin_step {t w n : Int} (ht : Pw t) (hw0 : 1 ≤ w) (hw1 : w ≤ 6) (hs : shl .i64 1 w = t) (hh : shl .i64 1 (w - 1) = t / 2) (hn0 : n ≠ 0) (h0 : -2000000 ≤ n) (h1 : n ≤ 2000000) (acc : List Int) (ha : acc.length < 1000) {r : List Int}
    (h : Ev (fun k => impl_windowed.l0 k ((n - dig t n) / 2) w (acc ++ [dig t n])) r) : Ev (fun k => impl_windowed.l0 k n w acc) r := by
  have hd := dig_size ht n
  have he := dig_even ht n
  have ht2 : 0 < t ∧ t ≤ 64 := by unfold Pw at ht; omega
  refine up ?_
  simp only [impl_windowed.l0, if_neg hn0]
  by_cases hp : n % 2 = 0
  · have hd0 : dig t n = 0 := by unfold dig; rw [if_pos hp]
    rw [hd0] at h he
    simp only [if_pos ((odd_test n).2 hp), if_pos (show acc.length < 17592186044416 by omega), wid (x := n - 0) (by omega) (by omega), half_even he, wid (x := (n - 0) / 2) (by omega) (by omega)]
    exact h
  · have hm : 0 ≤ n % t ∧ n % t < t := ⟨Int.emod_nonneg _ (by omega), Int.emod_lt_of_pos _ (by omega)⟩
    simp only [if_neg (mt (odd_test n).1 hp), if_pos (show (0 : Int) ≤ w by omega), hs, rest_val (a := n) (b := t) (by omega) (by omega), Option.bind_some, wid (x := w - 1) (by omega) (by omega), if_pos (show (0 : Int) ≤ w - 1 by omega), hh, if_pos (show acc.length < 17592186044416 by omega)]
    by_cases hb : n % t > t / 2
    · have hd1 : dig t n = n % t - t := by unfold dig; rw [if_neg hp, if_pos hb]
      rw [hd1] at h he
      simp only [if_pos hb, wid (x := n % t - t) (by omega) (by omega), wid (x := n - (n % t - t)) (by omega) (by omega), half_even he, wid (x := (n - (n % t - t)) / 2) (by omega) (by omega)]
      exact h
    · have hd1 : dig t n = n % t := by unfold dig; rw [if_neg hp, if_neg hb]
      rw [hd1] at h he
      simp only [if_neg hb, wid (x := n - n % t) (by omega) (by omega), half_even he, wid (x := (n - n % t) / 2) (by omega) (by omega)]
      exact h
theorem implWin_zero (w : Int) (acc : List Int) : Ev (fun k => impl_windowed.l0 k 0 w acc) acc := by
  refine up ?_
  simp only [impl_windowed.l0, if_true]
  exact Ev.now _
theorem implWin_loop {t w : Int} (ht : Pw t) (hw0 : 1 ≤ w) (hw1 : w ≤ 6) (hs : shl .i64 1 w = t) (hh : shl .i64 1 (w - 1) = t / 2) : ∀ (f : Nat) (n : Int) (acc : List Int), f ≤ 20 → -(2 ^ f) ≤ n → n ≤ 2 ^ f → acc.length + f < 1000 →
    Ev (fun k => impl_windowed.l0 k n w acc) (acc ++ win t f n) := by
  intro f
  induction f with
  | zero =>
    intro n acc hf h0 h1 ha
    by_cases hn : n = 0
    · subst hn; rw [win_nil, List.append_nil]; exact implWin_zero w acc
    · have e := dig_one ht hn (by omega) (by omega)
      refine implWin_step ht hw0 hw1 hs hh hn (by omega) (by omega) acc (by omega) ?_
      rw [e, Int.sub_self, show (0 : Int) / 2 = 0 from rfl, show win t 0 n = [n] by unfold win; rw [if_neg hn]]
      exact implWin_zero w _
  | succ f ih =>
    intro n acc hf h0 h1 ha
    have hp := pow20 hf
    by_cases hn : n = 0
    · subst hn; rw [win_nil, List.append_nil]; exact implWin_zero w acc
    · have hx := dig_next ht f h0 h1
      have := ih ((n - dig t n) / 2) (acc ++ [dig t n]) (by omega) hx.1 hx.2 (by simp; omega)
      refine implWin_step ht hw0 hw1 hs hh hn (by omega) (by omega) acc (by omega) ?_
      rw [show win t (f + 1) n = dig t n :: win t f ((n - dig t n) / 2) by rw [win, if_neg hn]]
      simpa using this
theorem implWin {t w : Int} (ht : Pw t) (hw0 : 1 ≤ w) (hw1 : w ≤ 6) (hs : shl .i64 1 w = t) (hh : shl .i64 1 (w - 1) = t / 2) (n : Int) (h0 : -1000000 ≤ n) (h1 : n ≤ 1000000) : Ev (fun k => impl_windowed.f k n w) (win t 20 n) := by
  have := implWin_loop ht hw0 hw1 hs hh 20 n [] (by omega) (by omega) (by omega) (by simp)
  simpa [impl_windowed.f] using this
theorem siOdd_val (x : Int) : spec_siOdd.f x = some (decide (¬ x % 2 = 0)) := by
  unfold spec_siOdd.f
  by_cases h : x % 2 = 0
  · have := (odd_test x).2 h; simp [h, this]
  · have := mt (odd_test x).1 h; simp [h, this]
theorem specWin_step {t n : Int} (ht : Pw t) (hn0 : n ≠ 0) (h0 : -2000000 ≤ n) (h1 : n ≤ 2000000) (acc : List Int) (ha : acc.length < 1000) {r : List Int}
    (h : Ev (fun k => spec_siWindow.l0 k ((n - dig t n) / 2) (acc ++ [dig t n]) t) r) : Ev (fun k => spec_siWindow.l0 k n acc t) r := by
  have hd := dig_size ht n
  have he := dig_even ht n
  have ht2 : 0 < t ∧ t ≤ 64 := by unfold Pw at ht; omega
  have hth : wrap64 (Int.tdiv t 2) = t / 2 := by unfold Pw at ht; rcases ht with rfl | rfl | rfl | rfl | rfl <;> exact wid (by decide) (by decide)
  refine up ?_
  simp only [spec_siWindow.l0, if_neg hn0, siOdd_val, Option.bind_some]
  by_cases hp : n % 2 = 0
  · have hd0 : dig t n = 0 := by unfold dig; rw [if_pos hp]
    rw [hd0] at h he
    simp only [hp, not_true_eq_false, decide_false, Bool.false_eq_true, if_false, if_pos (show acc.length < 17592186044416 by omega), wid (x := n - 0) (by omega) (by omega), half_even he, wid (x := (n - 0) / 2) (by omega) (by omega)]
    exact h
  · have hm : 0 ≤ n % t ∧ n % t < t := ⟨Int.emod_nonneg _ (by omega), Int.emod_lt_of_pos _ (by omega)⟩
    simp only [hp, not_false_eq_true, decide_true, if_true, if_neg (show ¬ t = 0 by omega), posmod (a := n) (b := t) (by omega) (by omega), hth, if_pos (show acc.length < 17592186044416 by omega)]
    by_cases hb : n % t > t / 2
    · have hd1 : dig t n = n % t - t := by unfold dig; rw [if_neg hp, if_pos hb]
      rw [hd1] at h he
      simp only [if_pos hb, wid (x := n % t - t) (by omega) (by omega), wid (x := n - (n % t - t)) (by omega) (by omega), half_even he, wid (x := (n - (n % t - t)) / 2) (by omega) (by omega)]
      exact h
    · have hd1 : dig t n = n % t := by unfold dig; rw [if_neg hp, if_neg hb]
      rw [hd1] at h he
      simp only [if_neg hb, wid (x := n - n % t) (by omega) (by omega), half_even he, wid (x := (n - n % t) / 2) (by omega) (by omega)]
      exact h
theorem specWin_zero (t : Int) (acc : List Int) : Ev (fun k => spec_siWindow.l0 k 0 acc t) acc := by
  refine up ?_
  simp only [spec_siWindow.l0, if_true]
  exact Ev.now _
theorem specWin_loop {t : Int} (ht : Pw t) : ∀ (f : Nat) (n : Int) (acc : List Int), f ≤ 20 → -(2 ^ f) ≤ n → n ≤ 2 ^ f → acc.length + f < 1000 →
    Ev (fun k => spec_siWindow.l0 k n acc t) (acc ++ win t f n) := by
  intro f
  induction f with
  | zero =>
    intro n acc hf h0 h1 ha
    by_cases hn : n = 0
    · subst hn; rw [win_nil, List.append_nil]; exact specWin_zero t acc
    · have e := dig_one ht hn (by omega) (by omega)
      refine specWin_step ht hn (by omega) (by omega) acc (by omega) ?_
      rw [e, Int.sub_self, show (0 : Int) / 2 = 0 from rfl, show win t 0 n = [n] by unfold win; rw [if_neg hn]]
      exact specWin_zero t _
  | succ f ih =>
    intro n acc hf h0 h1 ha
    have hp := pow20 hf
    by_cases hn : n = 0
    · subst hn; rw [win_nil, List.append_nil]; exact specWin_zero t acc
    · have hx := dig_next ht f h0 h1
      have := ih ((n - dig t n) / 2) (acc ++ [dig t n]) (by omega) hx.1 hx.2 (by simp; omega)
      refine specWin_step ht hn (by omega) (by omega) acc (by omega) ?_
      rw [show win t (f + 1) n = dig t n :: win t f ((n - dig t n) / 2) by rw [win, if_neg hn]]
      simpa using this
theorem specWin {t w : Int} (ht : Pw t) (hw0 : 0 ≤ w) (hs : shl .i64 1 w = t) (n : Int) (h0 : -1000000 ≤ n) (h1 : n ≤ 1000000) : Ev (fun k => spec_siWindow.f k n w) (win t 20 n) := by
  have := specWin_loop ht 20 n [] (by omega) (by omega) (by omega) (by simp)
  simpa [spec_siWindow.f, if_pos hw0, hs] using this
theorem eqIntS_loop (l : List Int) (hl : l.length ≤ 140737488351232) : ∀ (d : Nat) (i : Int), 0 ≤ i → i + d = l.length → Ev (fun k => laws_eqIntS.l0 k l l i) true := by
  intro d
  induction d with
  | zero =>
    intro i h0 h
    refine up ?_
    simp only [laws_eqIntS.l0, if_neg (show ¬ i < (l.length : Int) by omega)]
    exact Ev.now _
  | succ d ih =>
    intro i h0 h
    refine up ?_
    simp only [laws_eqIntS.l0, if_pos (show i < (l.length : Int) by omega), if_pos h0, if_true, wid (x := i + 1) (by omega) (by omega)]
    exact ih (i + 1) (by omega) (by omega)
theorem eqIntS_same (l : List Int) (hl : l.length ≤ 140737488351232) : Ev (fun k => laws_eqIntS.f k l l) true := by
  simp only [laws_eqIntS.f, if_true]
  exact eqIntS_loop l hl l.length 0 (by omega) (by omega)
def marks : Int → Nat → List Int
  | _, 0 => []
  | a, n + 1 => a :: marks (a + 1) n
theorem mark_loop : ∀ (rest done : List Int) (a : Int), done.length + rest.length ≤ 140737488351232 → 0 ≤ a → a ≤ 140737488351232 →
    Ev (fun k => laws_markIntS.l0 k (done ++ rest) (a + done.length) done.length) (a + done.length + rest.length, done ++ marks (a + done.length) rest.length) := by
  intro rest
  induction rest with
  | nil =>
    intro done a h h0 h1
    refine up ?_
    simp only [laws_markIntS.l0, List.append_nil, if_neg (show ¬ (done.length : Int) < (done.length : Int) by omega), List.length_nil, marks]
    exact ⟨0, fun _ _ => by simp⟩
  | cons x rest ih =>
    intro done a h h0 h1
    simp only [List.length_cons] at h
    refine up ?_
    have e : (done ++ x :: rest).set ((done.length : Int)).toNat (a + done.length) = (done ++ [a + done.length]) ++ rest := by
      rw [Int.toNat_natCast, List.set_append_right _ _ (Nat.le_refl _)]; simp
    simp only [laws_markIntS.l0, if_pos (show (done.length : Int) < ((done ++ x :: rest).length : Int) by simp; omega), if_pos (show (0 : Int) ≤ (done.length : Int) by omega), e, wid (x := a + done.length + 1) (by omega) (by omega), wid (x := (done.length : Int) + 1) (by omega) (by omega)]
    have := ih (done ++ [a + done.length]) a (by simp; omega) h0 h1
    simp only [List.length_append, List.length_singleton, List.append_assoc, List.singleton_append, Int.natCast_add, Int.natCast_one] at this
    simp only [List.append_assoc, List.singleton_append, List.length_cons, marks, Int.natCast_add, Int.natCast_one]
    rw [show a + (done.length : Int) + ((rest.length : Int) + 1) = a + ((done.length : Int) + 1) + rest.length by omega, show a + (done.length : Int) + 1 = a + ((done.length : Int) + 1) by omega]
    exact this
theorem mark_all (l : List Int) (hl : l.length ≤ 140737488351232) : Ev (fun k => laws_markIntS.f k l 1) (1 + l.length, marks 1 l.length) := by
  have := mark_loop l [] 1 (by simpa using hl) (by omega) (by omega)
  simpa [laws_markIntS.f] using this
theorem marks_length (a : Int) (n : Nat) : (marks a n).length = n := by
  induction n generalizing a with
  | zero => rfl
  | succ n ih => simp [marks, ih]
theorem held_loop : ∀ (n : Nat) (done : List Int) (a : Int), done.length + n ≤ 140737488351232 → 0 ≤ a → a ≤ 140737488351232 →
    Ev (fun k => laws_heldIntS.l0 k (done ++ marks (a + done.length) n) (a + done.length) done.length) (a + done.length + n) := by
  intro n
  induction n with
  | zero =>
    intro done a h h0 h1
    refine up ?_
    simp only [laws_heldIntS.l0, marks, List.append_nil, if_neg (show ¬ (done.length : Int) < (done.length : Int) by omega)]
    exact ⟨0, fun _ _ => by simp⟩
  | succ n ih =>
    intro done a h h0 h1
    refine up ?_
    have e : rd (done ++ marks (a + done.length) (n + 1)) (done.length : Int) = a + done.length := by
      unfold rd; rw [Int.toNat_natCast]; simp [marks]
    simp only [laws_heldIntS.l0, if_pos (show (done.length : Int) < ((done ++ marks (a + done.length) (n + 1)).length : Int) by simp [marks_length]; omega), if_pos (show (0 : Int) ≤ (done.length : Int) by omega), e, if_true, wid (x := a + done.length + 1) (by omega) (by omega), wid (x := (done.length : Int) + 1) (by omega) (by omega)]
    have := ih (done ++ [a + done.length]) a (by simp; omega) h0 h1
    simp only [List.length_append, List.length_singleton, List.append_assoc, List.singleton_append, Int.natCast_add, Int.natCast_one] at this
    simp only [marks, Int.natCast_add, Int.natCast_one]
    rw [show a + (done.length : Int) + ((n : Int) + 1) = a + ((done.length : Int) + 1) + n by omega, show a + (done.length : Int) + 1 = a + ((done.length : Int) + 1) by omega]
    exact this
theorem held_all (n : Nat) (hl : n ≤ 140737488351232) : Ev (fun k => laws_heldIntS.f k (marks 1 n) 1) (1 + n) := by
  have := held_loop n [] 1 (by simpa using hl) (by omega) (by omega)
  simpa [laws_heldIntS.f] using this
theorem both (n : Int) : ∃ r b, r.length ≤ 140737488351232 ∧ Ev (fun k => spec_SignedDigits.f k n) (r, b) ∧ Ev (fun k => impl_SignedDigits.f k n) (r, b) := by
  by_cases h : -1000000 ≤ n ∧ n ≤ 1000000
  · obtain ⟨h0, h1⟩ := h
    have ht : Pw 4 := Or.inl rfl
    refine ⟨win 4 20 n, true, ?_, ?_, ?_⟩
    · have := win_length 4 20 n; omega
    · simp only [spec_SignedDigits.f, spec_siNumber.f, spec_l1In.f, ge_iff_le, h0, h1, decide_true, if_true, Option.bind_some]
      exact Ev.bind (specWin ht (by omega) (by decide) n h0 h1) (Ev.now _)
    · simp only [impl_SignedDigits.f, impl_signedOk.f, impl_in.f, ge_iff_le, h0, h1, decide_true, if_true, Option.bind_some]
      exact Ev.bind (implWin ht (by omega) (by omega) (by decide) (by decide) n h0 h1) (Ev.now _)
  · refine ⟨[], false, by simp, ⟨0, fun k _ => ?_⟩, ⟨0, fun k _ => ?_⟩⟩
    · simp only [spec_SignedDigits.f, spec_siNumber.f, spec_l1In.f]
      by_cases a : n ≥ -1000000 <;> by_cases b : n ≤ 1000000 <;> simp [a, b] <;> omega
    · simp only [impl_SignedDigits.f, impl_signedOk.f, impl_in.f]
      by_cases a : n ≥ -1000000 <;> by_cases b : n ≤ 1000000 <;> simp [a, b] <;> omega
theorem main : laws_FnExactSignedDigits.Pure := by
  intro a0 _
  obtain ⟨r, b, hl, hs, hi⟩ := both a0
  refine Ev.rounds ?_
  simp only [laws_FnExactSignedDigits.f]
  refine Ev.bind hs ?_
  refine Ev.bind hi ?_
  refine Ev.bind (eqIntS_same r hl) ?_
  simp only [if_true]
  refine up ?_
  simp only [laws_FnExactSignedDigits.j0, bne_self_eq_false, Bool.false_eq_true, if_false]
  refine Ev.bind (mark_all r hl) ?_
  refine Ev.bind (held_all r.length hl) ?_
  simp only [if_neg (show ¬ (1 + (r.length : Int)) < 0 by omega), if_true]
  refine Ev.bind hi ?_
  refine Ev.bind (eqIntS_same r hl) ?_
  simp only [if_true]
  refine up ?_
  simp only [laws_FnExactSignedDigits.j1, bne_self_eq_false, Bool.false_eq_true, if_false]
  refine Ev.bind (held_all r.length hl) ?_
  simp only [if_neg (show ¬ (1 + (r.length : Int)) < 0 by omega), if_true]
  exact Ev.now _
end Go.Proofs.Ytemakeekfgaaeaa.PureFnExactSignedDigitsL
namespace Go.Proofs.Ytemakeekfgaaeaa.Pure
open Go.Proofs.Ytemakeekfgaaeaa.PFnExactSignedDigits
theorem FnExactSignedDigits : laws_FnExactSignedDigits.Pure := PureFnExactSignedDigitsL.main
end Go.Proofs.Ytemakeekfgaaeaa.Pure
