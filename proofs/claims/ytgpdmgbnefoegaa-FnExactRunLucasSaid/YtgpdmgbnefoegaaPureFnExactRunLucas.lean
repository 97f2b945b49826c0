/- The program's RunLucas returns what the reference's RunLucas returns, for all arguments of the types []int, int, int (lists of at most 2^20 numbers, as the statement itself says; nothing else is asked). -/
import Derived.Test.YtgpdmgbnefoegaaPFnExactRunLucasx1
import Derived.Test.YtgpdmgbnefoegaaPFnExactRunLucasx2
import Derived.Test.YtgpdmgbnefoegaaPFnExactRunLucasx3
import Derived.Test.YtgpdmgbnefoegaaPFnExactRunLucasx4
import Derived.Test.YtgpdmgbnefoegaaPFnExactRunLucasx5
import Derived.Test.YtgpdmgbnefoegaaPFnExactRunLucasx6
import Derived.Test.YtgpdmgbnefoegaaPFnExactRunLucasx7
set_option linter.unusedVariables false
set_option linter.unusedSimpArgs false
namespace Go.Proofs.Ytgpdmgbnefoegaa.PureFnExactRunLucasL
open Go.RowKit Go.Proofs.Ytgpdmgbnefoegaa.PFnExactRunLucas Go.Proofs.YtgpdmgbnefoegaaW.PrintWords Go.Proofs.YtgpdmgbnefoegaaW.PrintLast Go.Proofs.YtgpdmgbnefoegaaW.PrintMore
theorem up {α : Type} {g : Nat → Option α} {r : α} (h : Ev (fun k => g (k + 1)) r) : Ev g r := by
  obtain ⟨K, h⟩ := h
  refine ⟨K + 1, fun k hk => ?_⟩
  obtain ⟨m, rfl⟩ : ∃ m, k = m + 1 := ⟨k - 1, by omega⟩
  exact h m (by omega)
theorem wid {x : Int} (h0 : -9223372036854775808 ≤ x) (h1 : x ≤ 9223372036854775807) : wrap64 x = x := by unfold wrap64; omega
theorem ite_yes {α : Type} {c : Prop} [Decidable c] {a b : α} (h : c) : (if c then a else b) = a := if_pos h
theorem ite_no {α : Type} {c : Prop} [Decidable c] {a b : α} (h : ¬ c) : (if c then a else b) = b := if_neg h
theorem evsome {α β : Type} {x : Option α} {a : α} {f : Nat → α → Option β} {r : β} (hx : x = some a) (h : Ev (fun k => f k a) r) : Ev (fun k => x.bind (f k)) r := by subst hx; exact h
theorem if_pos_ev {α : Type} {c : Prop} [Decidable c] {f g : Nat → Option α} (h : c) : (fun k => if c then f k else g k) = f := funext fun k => if_pos h
theorem if_neg_ev {α : Type} {c : Prop} [Decidable c] {f g : Nat → Option α} (h : ¬ c) : (fun k => if c then f k else g k) = g := funext fun k => if_neg h
theorem rd_at {l : List Int} {i : Nat} (h : i < l.length) : rd l (i : Int) = l[i] := by
  unfold rd
  rw [Int.toNat_natCast, List.getD_eq_getElem?_getD, List.getElem?_eq_getElem h]; rfl
theorem l1In_val (x a b : Int) : spec_l1In.f x a b = some (decide (a ≤ x) && decide (x ≤ b)) := by
  unfold spec_l1In.f
  by_cases h : a ≤ x
  · rw [if_pos h]; simp [h]
  · rw [if_neg h]; simp [h]
def rowFrom (l : List Int) (k j : Nat) : Nat → Nat → List S44
  | _, 0 => []
  | i, d + 1 => (if wrap64 (rd l i + rd l j) = rd l k then [⟨i, j⟩] else []) ++ rowFrom l k j (i + 1) d
def sumsFrom (l : List Int) (k : Nat) : Nat → Nat → List S44
  | _, 0 => []
  | j, d + 1 => rowFrom l k j 0 (j + 1) ++ sumsFrom l k (j + 1) d
/-- The sums of the number with an index. -/
def sumsOf (l : List Int) (k : Nat) : List S44 := sumsFrom l k 0 k
theorem row_len (l : List Int) (k j : Nat) : ∀ d i, (rowFrom l k j i d).length ≤ d
  | 0, _ => by simp [rowFrom]
  | d + 1, i => by
    have := row_len l k j d (i + 1)
    unfold rowFrom
    rw [List.length_append]
    split
    · rw [List.length_singleton]; omega
    · rw [List.length_nil]; omega
theorem sums_len (l : List Int) (k : Nat) : ∀ d j, j + d ≤ 41 → (sumsFrom l k j d).length ≤ d * 41
  | 0, _, _ => by simp [sumsFrom]
  | d + 1, j, h => by
    have h1 := row_len l k j (j + 1) 0
    have h2 := sums_len l k d (j + 1) (by omega)
    unfold sumsFrom
    rw [List.length_append]
    omega
theorem mem_row {l : List Int} {k j : Nat} {s : S44} : ∀ d i, s ∈ rowFrom l k j i d → ∃ a : Nat, i ≤ a ∧ a < i + d ∧ s = ⟨a, j⟩ ∧ wrap64 (rd l a + rd l j) = rd l k
  | 0, _, h => by simp [rowFrom] at h
  | d + 1, i, h => by
    unfold rowFrom at h
    rcases List.mem_append.1 h with h | h
    · split at h
      · rename_i e
        exact ⟨i, by omega, by omega, by simpa using h, e⟩
      · simp at h
    · obtain ⟨a, h1, h2, h3⟩ := mem_row d (i + 1) h
      exact ⟨a, by omega, by omega, h3⟩
theorem mem_sums {l : List Int} {k : Nat} {s : S44} : ∀ d j, s ∈ sumsFrom l k j d → ∃ a b : Nat, a ≤ b ∧ b < j + d ∧ s = ⟨a, b⟩ ∧ wrap64 (rd l a + rd l b) = rd l k
  | 0, _, h => by simp [sumsFrom] at h
  | d + 1, j, h => by
    unfold sumsFrom at h
    rcases List.mem_append.1 h with h | h
    · obtain ⟨a, _, h2, h3, h4⟩ := mem_row (j + 1) 0 h
      exact ⟨a, j, by omega, by omega, h3, h4⟩
    · obtain ⟨a, b, h1, h2, h3⟩ := mem_sums d (j + 1) h
      exact ⟨a, b, h1, by omega, h3⟩
theorem chP_l1 {l : List Int} {k j : Nat} (hk : k < l.length) (hj : j < k) (hl : l.length ≤ 41) {R : List S44} : ∀ (d i : Nat) (acc : List S44), i + d = j + 1 → acc.length + d ≤ 100000 → Ev (fun q => spec_chPairs.l0 q l k (acc ++ rowFrom l k j i d) ((j + 1 : Nat) : Int)) R → Ev (fun q => spec_chPairs.l1 q l k acc j i) R := by
  intro d
  induction d with
  | zero =>
    intro i acc h ha hE
    refine up ?_
    simp only [spec_chPairs.l1, if_neg (show ¬ (i : Int) ≤ (j : Int) by omega), wid (x := (j : Int) + 1) (by omega) (by omega)]
    simpa [rowFrom] using hE
  | succ d ih =>
    intro i acc h ha hE
    refine up ?_
    simp only [spec_chPairs.l1, if_pos (show (i : Int) ≤ (j : Int) by omega), if_pos (show (0 : Int) ≤ (i : Int) by omega), if_pos (show (i : Int) < (l.length : Int) by omega), if_pos (show (0 : Int) ≤ (j : Int) by omega), if_pos (show (j : Int) < (l.length : Int) by omega), if_pos (show (0 : Int) ≤ (k : Int) by omega), if_pos (show (k : Int) < (l.length : Int) by omega), wid (x := (i : Int) + 1) (by omega) (by omega)]
    unfold rowFrom at hE
    by_cases e : wrap64 (rd l i + rd l j) = rd l k
    · simp only [if_pos e, if_pos (show acc.length < 8796093022208 by omega)]
      rw [if_pos e, ← List.append_assoc] at hE
      exact ih (i + 1) _ (by omega) (by simp; omega) hE
    · simp only [if_neg e]
      rw [if_neg e, List.nil_append] at hE
      exact ih (i + 1) acc (by omega) (by omega) hE
theorem chP_l0 {l : List Int} {k : Nat} (hk : k < l.length) (hl : l.length ≤ 41) : ∀ (d j : Nat) (acc : List S44), j + d = k → acc.length + d * 41 ≤ 50000 → Ev (fun q => spec_chPairs.l0 q l k acc j) (acc ++ sumsFrom l k j d) := by
  intro d
  induction d with
  | zero =>
    intro j acc h ha
    refine up ?_
    simp only [spec_chPairs.l0, if_neg (show ¬ (j : Int) < (k : Int) by omega), sumsFrom, List.append_nil]
    exact Ev.now _
  | succ d ih =>
    intro j acc h ha
    have hr := row_len l k j (j + 1) 0
    refine up ?_
    simp only [spec_chPairs.l0, if_pos (show (j : Int) < (k : Int) by omega)]
    refine chP_l1 hk (by omega) hl (j + 1) 0 acc (by omega) (by omega) ?_
    have := ih (j + 1) (acc ++ rowFrom l k j 0 (j + 1)) (by omega) (by rw [List.length_append]; omega)
    rw [List.append_assoc] at this
    exact this
theorem chPairs_val {l : List Int} {k : Nat} (hk : k < l.length) (hl : l.length ≤ 41) : Ev (fun q => spec_chPairs.f q l k) (sumsOf l k) := by
  have := chP_l0 hk hl k 0 [] (by omega) (by simp; omega)
  simpa [spec_chPairs.f, sumsOf] using this
theorem iS_l1 {l : List Int} {k j : Nat} (hk : k < l.length) (hj : j < k) (hl : l.length ≤ 41) {R : List S44} : ∀ (d i : Nat) (acc : List S44), i + d = j + 1 → acc.length + d ≤ 100000 → Ev (fun q => impl_sums.l0 q l k (acc ++ rowFrom l k j i d) k ((j + 1 : Nat) : Int)) R → Ev (fun q => impl_sums.l1 q l k acc j k j ((j + 1 : Nat) : Int) i) R := by
  intro d
  induction d with
  | zero =>
    intro i acc h ha hE
    refine up ?_
    simp only [impl_sums.l1, if_neg (show ¬ (i : Int) < ((j + 1 : Nat) : Int) by omega), wid (x := (j : Int) + 1) (by omega) (by omega)]
    simpa [rowFrom] using hE
  | succ d ih =>
    intro i acc h ha hE
    refine up ?_
    simp only [impl_sums.l1, if_pos (show (i : Int) < ((j + 1 : Nat) : Int) by omega), if_pos (show (0 : Int) ≤ (i : Int) by omega), if_pos (show (i : Int) < (l.length : Int) by omega), if_pos (show (0 : Int) ≤ (j : Int) by omega), if_pos (show (j : Int) < (l.length : Int) by omega), if_pos (show (0 : Int) ≤ (k : Int) by omega), if_pos (show (k : Int) < (l.length : Int) by omega), wid (x := (i : Int) + 1) (by omega) (by omega)]
    unfold rowFrom at hE
    by_cases e : wrap64 (rd l i + rd l j) = rd l k
    · simp only [if_pos e, if_pos (show acc.length < 8796093022208 by omega)]
      rw [if_pos e, ← List.append_assoc] at hE
      exact ih (i + 1) _ (by omega) (by simp; omega) hE
    · simp only [if_neg e]
      rw [if_neg e, List.nil_append] at hE
      exact ih (i + 1) acc (by omega) (by omega) hE
theorem iS_l0 {l : List Int} {k : Nat} (hk : k < l.length) (hl : l.length ≤ 41) : ∀ (d j : Nat) (acc : List S44), j + d = k → acc.length + d * 41 ≤ 50000 → Ev (fun q => impl_sums.l0 q l k acc k j) (acc ++ sumsFrom l k j d) := by
  intro d
  induction d with
  | zero =>
    intro j acc h ha
    refine up ?_
    simp only [impl_sums.l0, if_neg (show ¬ (j : Int) < (k : Int) by omega), sumsFrom, List.append_nil]
    exact Ev.now _
  | succ d ih =>
    intro j acc h ha
    have hr := row_len l k j (j + 1) 0
    refine up ?_
    simp only [impl_sums.l0, if_pos (show (j : Int) < (k : Int) by omega), wid (x := (j : Int) + 1) (by omega) (by omega)]
    have := ih (j + 1) (acc ++ rowFrom l k j 0 (j + 1)) (by omega) (by rw [List.length_append]; omega)
    rw [List.append_assoc] at this
    exact iS_l1 hk (by omega) hl (j + 1) 0 acc (by omega) (by omega) this
theorem iSums_val {l : List Int} {k : Nat} (hk : k < l.length) (hl : l.length ≤ 41) : Ev (fun q => impl_sums.f q l k) (sumsOf l k) := by
  have := iS_l0 hk hl k 0 [] (by omega) (by simp; omega)
  simpa [impl_sums.f, sumsOf] using this
def allFrom (f : Nat → Bool) : Nat → Nat → Bool
  | _, 0 => true
  | i, d + 1 => f i && allFrom f (i + 1) d
theorem allFrom_iff {f : Nat → Bool} : ∀ d i, allFrom f i d = true ↔ ∀ j, i ≤ j → j < i + d → f j = true
  | 0, i => by simp [allFrom]; omega
  | d + 1, i => by
    unfold allFrom
    rw [Bool.and_eq_true, allFrom_iff d (i + 1)]
    constructor
    · rintro ⟨h1, h2⟩ j h3 h4
      by_cases e : j = i
      · rw [e]; exact h1
      · exact h2 j (by omega) (by omega)
    · intro h
      exact ⟨h i (by omega) (by omega), fun j h3 h4 => h j (by omega) (by omega)⟩
def sumB (l : List Int) (k : Nat) : Bool := decide (0 < (sumsOf l k).length)
def riseB (l : List Int) (k : Nat) : Bool := decide (rd l ((k : Int) - 1) < rd l k) && decide (rd l k ≤ 1000000)
def chainB (l : List Int) : Bool := (decide (1 ≤ l.length) && decide (l.length ≤ 41)) && ((rd l 0 == 1) && (allFrom (riseB l) 1 (l.length - 1) && allFrom (sumB l) 1 (l.length - 1)))
theorem implChain_loop {l : List Int} (hl : l.length ≤ 41) : ∀ (d k : Nat), 1 ≤ k → k + d = l.length → Ev (fun q => impl_IsChain.l0 q l k) (allFrom (riseB l) k d && allFrom (sumB l) k d) := by
  intro d
  induction d with
  | zero =>
    intro k h1 h
    refine up ?_
    simp only [impl_IsChain.l0, if_neg (show ¬ (k : Int) < (l.length : Int) by omega), allFrom]
    exact Ev.now _
  | succ d ih =>
    intro k h1 h
    refine up ?_
    simp only [impl_IsChain.l0, if_pos (show (k : Int) < (l.length : Int) by omega), if_pos (show (0 : Int) ≤ (k : Int) by omega), wid (x := (k : Int) - 1) (by omega) (by omega), if_pos (show (0 : Int) ≤ (k : Int) - 1 by omega), if_pos (show (k : Int) - 1 < (l.length : Int) by omega), wid (x := (k : Int) + 1) (by omega) (by omega), allFrom, riseB]
    by_cases h2 : rd l k ≤ rd l ((k : Int) - 1)
    · rw [if_pos_ev h2, show decide (rd l ((k : Int) - 1) < rd l k) = false from decide_eq_false (by omega)]; exact Ev.now _
    · rw [if_neg_ev h2, show decide (rd l ((k : Int) - 1) < rd l k) = true from decide_eq_true (by omega)]
      by_cases h3 : rd l k > 1000000
      · rw [if_pos_ev h3, show decide (rd l k ≤ 1000000) = false from decide_eq_false (by omega)]; exact Ev.now _
      · rw [if_neg_ev h3, show decide (rd l k ≤ 1000000) = true from decide_eq_true (by omega)]
        refine Ev.bind (iSums_val (by omega) hl) ?_
        have ih := ih (k + 1) (by omega) (by omega)
        by_cases h4 : ((sumsOf l k).length : Int) = 0
        · rw [if_pos_ev h4, show sumB l k = false from decide_eq_false (by omega), Bool.false_and, Bool.and_false]; exact Ev.now _
        · rw [if_neg_ev h4, show sumB l k = true from decide_eq_true (by omega)]
          simpa using ih
theorem implChain (l : List Int) : Ev (fun q => impl_IsChain.f q l) (chainB l) := by
  have j0t : Ev (fun q => impl_IsChain.j0 q l true) false := by refine up ?_; simp only [impl_IsChain.j0, if_true]; exact Ev.now _
  unfold chainB
  simp only [impl_IsChain.f, impl_in.f]
  by_cases h : 1 ≤ l.length ∧ l.length ≤ 41
  · have e1 : (decide (1 ≤ l.length) && decide (l.length ≤ 41)) = true := by simp; omega
    rw [e1]
    simp only [if_pos (show (l.length : Int) ≥ 1 by omega), Option.bind_some, show decide ((l.length : Int) ≤ 41) = true from decide_eq_true (by omega), if_true, if_pos (show (0 : Int) < (l.length : Int) by omega), Bool.true_and]
    by_cases h2 : rd l 0 = 1
    · simp only [h2, bne_self_eq_false, beq_self_eq_true, Bool.true_and]
      refine up ?_
      simp only [impl_IsChain.j0, Bool.false_eq_true, if_false]
      exact implChain_loop h.2 (l.length - 1) 1 (by omega) (by omega)
    · rw [show (rd l 0 != 1) = true by simp [h2], show (rd l 0 == 1) = false by simp [h2], Bool.false_and]; exact j0t
  · rw [show (decide (1 ≤ l.length) && decide (l.length ≤ 41)) = false by simp; omega, Bool.false_and]
    by_cases h2 : (l.length : Int) ≥ 1
    · simp only [if_pos h2, Option.bind_some, show decide ((l.length : Int) ≤ 41) = false from decide_eq_false (by omega), Bool.false_eq_true, if_false]; exact j0t
    · simp only [if_neg h2, Option.bind_some, Bool.false_eq_true, if_false]; exact j0t
theorem rising_loop {l : List Int} (hl : l.length ≤ 41) : ∀ (d k : Nat), 1 ≤ k → k + d = l.length → 1 ≤ rd l ((k : Int) - 1) → Ev (fun q => spec_l1Rising.l0 q l 1 1000000 l (l.length : Int) k) (allFrom (riseB l) k d) := by
  intro d
  induction d with
  | zero =>
    intro k h1 h _
    refine up ?_
    simp only [spec_l1Rising.l0, if_neg (show ¬ (k : Int) < (l.length : Int) by omega), allFrom]
    exact Ev.now _
  | succ d ih =>
    intro k h1 h h0
    refine up ?_
    simp only [spec_l1Rising.l0, if_pos (show (k : Int) < (l.length : Int) by omega), if_pos (show (0 : Int) ≤ (k : Int) by omega), l1In_val, Option.bind_some, if_pos (show (k : Int) > 0 by omega), wid (x := (k : Int) - 1) (by omega) (by omega), if_pos (show (0 : Int) ≤ (k : Int) - 1 by omega), if_pos (show (k : Int) - 1 < (l.length : Int) by omega), wid (x := (k : Int) + 1) (by omega) (by omega), allFrom, riseB]
    by_cases h3 : rd l k ≤ 1000000
    · by_cases h2 : rd l ((k : Int) - 1) < rd l k
      · simp only [show decide (1 ≤ rd l k) = true from decide_eq_true (by omega), Bool.and_self, if_true, if_neg (show ¬ rd l ((k : Int) - 1) ≥ rd l k by omega), show decide (rd l ((k : Int) - 1) < rd l k) = true from decide_eq_true h2, show decide (rd l k ≤ 1000000) = true from decide_eq_true h3, Bool.true_and]
        exact ih (k + 1) (by omega) (by omega) (by rw [show ((k + 1 : Nat) : Int) - 1 = k by omega]; omega)
      · rw [show decide (rd l ((k : Int) - 1) < rd l k) = false from decide_eq_false h2]
        simp only [Bool.false_and, if_pos (show rd l ((k : Int) - 1) ≥ rd l k by omega), ite_self]; exact Ev.now _
    · have e : (decide (1 ≤ rd l k) && decide (rd l k ≤ 1000000)) = false := by simp; omega
      simp only [e, Bool.false_eq_true, if_false, show decide (rd l k ≤ 1000000) = false from decide_eq_false h3, Bool.and_false, Bool.false_and]; exact Ev.now _
theorem specSum_loop {l : List Int} (hl : l.length ≤ 41) : ∀ (d k : Nat), k + d = l.length → Ev (fun q => spec_chGood.l0 q l k) (allFrom (sumB l) k d) := by
  intro d
  induction d with
  | zero =>
    intro k h
    refine up ?_
    simp only [spec_chGood.l0, if_neg (show ¬ (k : Int) < (l.length : Int) by omega), allFrom]
    exact Ev.now _
  | succ d ih =>
    intro k h
    refine up ?_
    simp only [spec_chGood.l0, if_pos (show (k : Int) < (l.length : Int) by omega), wid (x := (k : Int) + 1) (by omega) (by omega), allFrom]
    refine Ev.bind (chPairs_val (by omega) hl) ?_
    by_cases h4 : ((sumsOf l k).length : Int) = 0
    · rw [if_pos_ev h4, show sumB l k = false from decide_eq_false (by omega), Bool.false_and]; exact Ev.now _
    · rw [if_neg_ev h4, show sumB l k = true from decide_eq_true (by omega), Bool.true_and]
      exact ih (k + 1) (by omega)
theorem specChain (l : List Int) : Ev (fun q => spec_chGood.f q l) (chainB l) := by
  have j0t : Ev (fun q => spec_chGood.j0 q l true) false := by refine up ?_; simp only [spec_chGood.j0, if_true]; exact Ev.now _
  unfold chainB
  simp only [spec_chGood.f, l1In_val, Option.bind_some]
  by_cases h : 1 ≤ l.length ∧ l.length ≤ 41
  · have e1 : (decide (1 ≤ l.length) && decide (l.length ≤ 41)) = true := by simp; omega
    have e2 : (decide ((1 : Int) ≤ (l.length : Int)) && decide ((l.length : Int) ≤ 41)) = true := by simp; omega
    rw [e1]
    simp only [e2, if_true, if_pos (show (0 : Int) < (l.length : Int) by omega), Bool.true_and]
    by_cases h2 : rd l 0 = 1
    · simp only [if_pos h2]
      have hr : Ev (fun q => spec_l1Rising.f q l 1 1000000) (allFrom (riseB l) 1 (l.length - 1)) := by
        simp only [spec_l1Rising.f]
        refine up ?_
        simp only [spec_l1Rising.l0, if_pos (show (0 : Int) < (l.length : Int) by omega), if_pos (show (0 : Int) ≤ 0 by omega), h2, l1In_val, Option.bind_some, show (decide ((1 : Int) ≤ 1) && decide ((1 : Int) ≤ 1000000)) = true from rfl, if_true, if_neg (show ¬ (0 : Int) > 0 by omega), show wrap64 (0 + 1) = ((1 : Nat) : Int) by rw [wid (by omega) (by omega)]; rfl]
        exact rising_loop h.2 (l.length - 1) 1 (by omega) (by omega) (by show 1 ≤ rd l 0; omega)
      refine Ev.bind hr ?_
      rw [show (rd l 0 == 1) = true by simp [h2], Bool.true_and]
      cases h3 : allFrom (riseB l) 1 (l.length - 1) with
      | false => exact j0t
      | true =>
        rw [Bool.true_and]
        refine up ?_
        simp only [spec_chGood.j0, Bool.not_true, Bool.false_eq_true, if_false]
        exact specSum_loop h.2 (l.length - 1) 1 (by omega)
    · simp only [if_neg h2]
      rw [show (rd l 0 == 1) = false by simp [h2], Bool.false_and]; exact j0t
  · rw [show (decide (1 ≤ l.length) && decide (l.length ≤ 41)) = false by simp; omega, Bool.false_and]
    simp only [show (decide ((1 : Int) ≤ (l.length : Int)) && decide ((l.length : Int) ≤ 41)) = false by simp; omega, Bool.false_eq_true, if_false]
    exact j0t
theorem chainB_len {l : List Int} (h : chainB l = true) : 1 ≤ l.length ∧ l.length ≤ 41 := by
  unfold chainB at h
  simp only [Bool.and_eq_true, decide_eq_true_eq] at h
  exact h.1
theorem hasB_drop {l : List Int} {i : Nat} (h : i < l.length) (x : Int) : hasB (l.drop i) x = (decide (l[i] = x) || hasB (l.drop (i + 1)) x) := by
  rw [List.drop_eq_getElem_cons h]
  unfold hasB
  rw [List.contains_cons]
  congr 1
  by_cases e : l[i] = x
  · simp [e]
  · simp [e, Ne.symm e]
theorem hasB_end (l : List Int) (x : Int) : hasB (l.drop l.length) x = false := by rw [List.drop_length]; rfl
theorem l1Has_loop (x : Int) (l : List Int) (hl : l.length ≤ 17592186044416) : ∀ (d i : Nat), i + d = l.length → Ev (fun k => spec_l1Has.l0 k x l (l.length : Int) i) (hasB (l.drop i) x) := by
  intro d
  induction d with
  | zero =>
    intro i h
    refine up ?_
    simp only [spec_l1Has.l0, if_neg (show ¬ (i : Int) < (l.length : Int) by omega)]
    rw [show i = l.length by omega, hasB_end]
    exact Ev.now _
  | succ d ih =>
    intro i h
    have hi : i < l.length := by omega
    refine up ?_
    simp only [spec_l1Has.l0, if_pos (show (i : Int) < (l.length : Int) by omega), if_pos (show (0 : Int) ≤ (i : Int) by omega), rd_at hi, wid (x := (i : Int) + 1) (by omega) (by omega)]
    rw [hasB_drop hi]
    by_cases e : l[i] = x
    · simp only [e, if_true, decide_true, Bool.true_or]; exact Ev.now _
    · simp only [e, if_false, decide_false, Bool.false_or]; exact ih (i + 1) (by omega)
theorem l1Has_val (x : Int) (l : List Int) (hl : l.length ≤ 17592186044416) : Ev (fun k => spec_l1Has.f k l x) (hasB l x) := l1Has_loop x l hl l.length 0 (by omega)
/-- The sums of a Lucas chain: the difference is 0 or of the list. -/
def okS (l : List Int) (s : S44) : Bool := (s.f0 == s.f1) || hasB l (wrap64 (rd l s.f1 - rd l s.f0))
def lsums (l : List Int) (k : Nat) : List S44 := (sumsOf l k).filter (okS l)
theorem okS_np (l : List Int) (s : S44) : YtgpdmgbnefoegaaDf.np (lsP l) (lsPr s) = okS l s := by
  unfold YtgpdmgbnefoegaaDf.np lsP lsPr okS
  dsimp only
  cases h : (s.f0 == s.f1) <;> simp [bne, h]
theorem rdT_at {T : List S44} {i : Nat} (h : i < T.length) : rd_T44 T (i : Int) = T[i] := by
  unfold rd_T44
  rw [Int.toNat_natCast, List.getD_eq_getElem?_getD, List.getElem?_eq_getElem h]; rfl
theorem iLs_val {l : List Int} {k : Nat} (hk : k < l.length) (hl : l.length ≤ 41) : Ev (fun q => impl_lucasSums.f q l k) (lsums l k) := by
  simp only [impl_lucasSums.f]
  refine Ev.bind (iSums_val hk hl) ?_
  have h : ∀ s ∈ sumsOf l k, (0 ≤ s.f0 ∧ s.f0 < (l.length : Int)) ∧ 0 ≤ s.f1 ∧ s.f1 < (l.length : Int) := by
    intro s hs
    obtain ⟨a, b, h1, h2, rfl, _⟩ := mem_sums k 0 hs
    dsimp only
    omega
  rw [if_pos_ev h]
  have e : ((sumsOf l k).filter fun s => YtgpdmgbnefoegaaDf.np (lsP l) (lsPr s)) = lsums l k := by
    unfold lsums
    congr 1
    funext s
    exact okS_np l s
  rw [e]
  exact Ev.now _
theorem sLs_loop {l : List Int} (hl : l.length ≤ 41) (T : List S44) (hT : T.length ≤ 50000) (hin : ∀ s ∈ T, (0 ≤ s.f0 ∧ s.f0 < (l.length : Int)) ∧ 0 ≤ s.f1 ∧ s.f1 < (l.length : Int)) : ∀ (d i : Nat) (acc : List S44), i + d = T.length → acc.length + d ≤ 100000 → Ev (fun q => spec_luSums.l0 q l acc T (T.length : Int) i) (acc ++ (T.drop i).filter (okS l)) := by
  intro d
  induction d with
  | zero =>
    intro i acc h ha
    refine up ?_
    rw [List.drop_of_length_le (by omega)]
    simp only [spec_luSums.l0, if_neg (show ¬ (i : Int) < (T.length : Int) by omega), List.filter_nil, List.append_nil]
    exact Ev.now _
  | succ d ih =>
    intro i acc h ha
    have hi : i < T.length := by omega
    obtain ⟨⟨h1, h2⟩, h3, h4⟩ := hin T[i] (List.getElem_mem hi)
    refine up ?_
    simp only [spec_luSums.l0, if_pos (show (i : Int) < (T.length : Int) by omega), if_pos (show (0 : Int) ≤ (i : Int) by omega), rdT_at hi, wid (x := (i : Int) + 1) (by omega) (by omega), if_pos (show acc.length < 8796093022208 by omega), if_pos h1, if_pos h2, if_pos h3, if_pos h4]
    rw [List.drop_eq_getElem_cons hi, List.filter_cons]
    have ih1 := ih (i + 1) (acc ++ [T[i]]) (by omega) (by simp; omega)
    have ih0 := ih (i + 1) acc (by omega) (by omega)
    rw [List.append_assoc, List.singleton_append] at ih1
    by_cases e : (T[i]).f0 = (T[i]).f1
    · rw [if_pos_ev e, show okS l T[i] = true by unfold okS; simp [e]]
      exact ih1
    · rw [if_neg_ev e]
      refine Ev.bind (l1Has_val _ l (by omega)) ?_
      have e2 : okS l T[i] = hasB l (wrap64 (rd l (T[i]).f1 - rd l (T[i]).f0)) := by unfold okS; simp [e]
      rw [e2]
      cases hasB l (wrap64 (rd l (T[i]).f1 - rd l (T[i]).f0)) with
      | true => simp only [if_true]; exact ih1
      | false => simp only [Bool.false_eq_true, if_false]; exact ih0
theorem sLs_val {l : List Int} {k : Nat} (hk : k < l.length) (hl : l.length ≤ 41) : Ev (fun q => spec_luSums.f q l k) (lsums l k) := by
  simp only [spec_luSums.f]
  refine Ev.bind (chPairs_val hk hl) ?_
  have hn : (sumsOf l k).length ≤ 2000 := by have := sums_len l k k 0 (by omega); unfold sumsOf; omega
  have := sLs_loop hl (sumsOf l k) (by omega) (fun s hs => by
    obtain ⟨a, b, h1, h2, rfl, _⟩ := mem_sums k 0 hs
    dsimp only
    omega) (sumsOf l k).length 0 [] (by omega) (by simp; omega)
  simpa [lsums] using this
def lsB (l : List Int) (k : Nat) : Bool := decide (0 < (lsums l k).length)
def lucasB (l : List Int) : Bool := chainB l && allFrom (lsB l) 1 (l.length - 1)
theorem iLuc_loop {l : List Int} (hl : l.length ≤ 41) : ∀ (d k : Nat), k + d = l.length → Ev (fun q => impl_IsLucasChain.l0 q l k) (allFrom (lsB l) k d) := by
  intro d
  induction d with
  | zero =>
    intro k h
    refine up ?_
    simp only [impl_IsLucasChain.l0, if_neg (show ¬ (k : Int) < (l.length : Int) by omega), allFrom]
    exact Ev.now _
  | succ d ih =>
    intro k h
    refine up ?_
    simp only [impl_IsLucasChain.l0, if_pos (show (k : Int) < (l.length : Int) by omega), wid (x := (k : Int) + 1) (by omega) (by omega), allFrom]
    refine Ev.bind (iLs_val (by omega) hl) ?_
    by_cases h4 : ((lsums l k).length : Int) = 0
    · rw [if_pos_ev h4, show lsB l k = false from decide_eq_false (by omega), Bool.false_and]; exact Ev.now _
    · rw [if_neg_ev h4, show lsB l k = true from decide_eq_true (by omega), Bool.true_and]
      exact ih (k + 1) (by omega)
theorem implLuc (l : List Int) : Ev (fun q => impl_IsLucasChain.f q l) (lucasB l) := by
  simp only [impl_IsLucasChain.f, lucasB]
  refine Ev.bind (implChain l) ?_
  cases h : chainB l with
  | false => simp only [Bool.false_eq_true, if_false, Bool.false_and]; exact Ev.now _
  | true =>
    simp only [if_true, Bool.true_and]
    have := chainB_len h
    exact iLuc_loop this.2 (l.length - 1) 1 (by omega)
theorem sLuc_loop {l : List Int} (hl : l.length ≤ 41) : ∀ (d k : Nat), k + d = l.length → Ev (fun q => spec_luGood.l0 q l k) (allFrom (lsB l) k d) := by
  intro d
  induction d with
  | zero =>
    intro k h
    refine up ?_
    simp only [spec_luGood.l0, if_neg (show ¬ (k : Int) < (l.length : Int) by omega), allFrom]
    exact Ev.now _
  | succ d ih =>
    intro k h
    refine up ?_
    simp only [spec_luGood.l0, if_pos (show (k : Int) < (l.length : Int) by omega), wid (x := (k : Int) + 1) (by omega) (by omega), allFrom]
    refine Ev.bind (sLs_val (by omega) hl) ?_
    by_cases h4 : ((lsums l k).length : Int) = 0
    · rw [if_pos_ev h4, show lsB l k = false from decide_eq_false (by omega), Bool.false_and]; exact Ev.now _
    · rw [if_neg_ev h4, show lsB l k = true from decide_eq_true (by omega), Bool.true_and]
      exact ih (k + 1) (by omega)
theorem specLuc (l : List Int) : Ev (fun q => spec_luGood.f q l) (lucasB l) := by
  simp only [spec_luGood.f, lucasB]
  refine Ev.bind (specChain l) ?_
  cases h : chainB l with
  | false => simp only [Bool.false_eq_true, if_false, Bool.false_and]; exact Ev.now _
  | true =>
    simp only [if_true, Bool.true_and]
    have := chainB_len h
    exact sLuc_loop this.2 (l.length - 1) 1 (by omega)
theorem lucasB_len {l : List Int} (h : lucasB l = true) : 1 ≤ l.length ∧ l.length ≤ 41 := by
  unfold lucasB at h
  rw [Bool.and_eq_true] at h
  exact chainB_len h.1
/-- The last sum of a Lucas chain's number. -/
def lastS (l : List Int) (k : Nat) : S44 := rd_T44 (lsums l k) (((lsums l k).length : Int) - 1)
def stepsFrom (l : List Int) : Nat → Nat → List S44
  | _, 0 => []
  | k, d + 1 => lastS l k :: stepsFrom l (k + 1) d
def stepsL (l : List Int) : List S44 := stepsFrom l 1 (l.length - 1)
theorem stepsFrom_len (l : List Int) : ∀ d k, (stepsFrom l k d).length = d
  | 0, _ => rfl
  | d + 1, k => by simp [stepsFrom, stepsFrom_len l d (k + 1)]
theorem iSteps_loop {l : List Int} (hl : l.length ≤ 41) : ∀ (d k : Nat) (acc : List S44), k + d = l.length → allFrom (lsB l) k d = true → acc.length + d ≤ 1000 → Ev (fun q => impl_lucasSteps.l0 q l acc k) (acc ++ stepsFrom l k d) := by
  intro d
  induction d with
  | zero =>
    intro k acc h _ _
    refine up ?_
    simp only [impl_lucasSteps.l0, if_neg (show ¬ (k : Int) < (l.length : Int) by omega), stepsFrom, List.append_nil]
    exact Ev.now _
  | succ d ih =>
    intro k acc h ha hc
    unfold allFrom at ha
    rw [Bool.and_eq_true] at ha
    have hp : 0 < (lsums l k).length := of_decide_eq_true ha.1
    have hn : (lsums l k).length ≤ 2000 := by
      have h1 := sums_len l k k 0 (by omega)
      have h2 := List.length_filter_le (okS l) (sumsOf l k)
      unfold lsums sumsOf at *; omega
    refine up ?_
    simp only [impl_lucasSteps.l0, if_pos (show (k : Int) < (l.length : Int) by omega), wid (x := (k : Int) + 1) (by omega) (by omega), if_pos (show acc.length < 8796093022208 by omega)]
    refine Ev.bind (iLs_val (by omega) hl) ?_
    simp only [wid (x := ((lsums l k).length : Int) - 1) (by omega) (by omega), if_pos (show (0 : Int) ≤ ((lsums l k).length : Int) - 1 by omega), if_pos (show ((lsums l k).length : Int) - 1 < ((lsums l k).length : Int) by omega)]
    have := ih (k + 1) (acc ++ [lastS l k]) (by omega) ha.2 (by simp; omega)
    rw [List.append_assoc, List.singleton_append] at this
    exact this
theorem iSteps_val {l : List Int} (h : lucasB l = true) : Ev (fun q => impl_lucasSteps.f q l) (stepsL l) := by
  have hl := lucasB_len h
  unfold lucasB at h
  rw [Bool.and_eq_true] at h
  have := iSteps_loop hl.2 (l.length - 1) 1 [] (by omega) h.2 (by simp; omega)
  simpa [impl_lucasSteps.f, stepsL] using this
theorem tmod_in {a b : Int} (hb : 0 < b) : -b < Int.tmod a b ∧ Int.tmod a b < b := ⟨Int.lt_tmod_of_pos a hb, Int.tmod_lt_of_pos a hb⟩
theorem posmod {a b : Int} (hb : 0 < b) (hb2 : b ≤ 1000000000000000) : Int.tmod (wrap64 ((Int.tmod a b) + b)) b = a % b := by
  have h := tmod_in (a := a) hb
  rw [wid (by omega) (by omega), Int.tmod_eq_emod_of_nonneg (by omega), Int.add_emod_right]
  rw [Int.tmod_def, Int.sub_mul_emod_self_left]
theorem odd_test (x : Int) : Int.tmod x 2 = 0 ↔ x % 2 = 0 := by
  rw [← Int.dvd_iff_tmod_eq_zero, ← Int.dvd_iff_emod_eq_zero]
theorem half_even {x : Int} (h : x % 2 = 0) : Int.tdiv x 2 = x / 2 := Int.tdiv_eq_ediv_of_dvd (Int.dvd_of_emod_eq_zero h)
theorem rest_val {a b : Int} (hb : 0 < b) (hb2 : b ≤ 1000000000000000) : impl_rest.f a b = some (a % b) := by
  unfold impl_rest.f
  rw [if_neg (by omega), posmod hb hb2]
theorem poMod_val {a b : Int} (hb : 0 < b) (hb2 : b ≤ 1000000000000000) : spec_poMod.f a b = some (a % b) := by
  have h : -b < Int.tmod a b ∧ Int.tmod a b < b := ⟨Int.lt_tmod_of_pos a hb, Int.tmod_lt_of_pos a hb⟩
  unfold spec_poMod.f
  rw [if_neg (by omega), wid (by omega) (by omega), Int.tmod_eq_emod_of_nonneg (by omega), Int.add_emod_right]
  congr 1
  rw [Int.tmod_def, Int.sub_mul_emod_self_left]
theorem c_mul {m a a' b b' : Int} (h : a % m = a' % m) (h' : b % m = b' % m) : (a * b) % m = (a' * b') % m := by rw [Int.mul_emod, h, h', ← Int.mul_emod]
theorem c_sub {m a a' b b' : Int} (h : a % m = a' % m) (h' : b % m = b' % m) : (a - b) % m = (a' - b') % m := by rw [Int.sub_emod, h, h', ← Int.sub_emod]
theorem c_add {m a a' b b' : Int} (h : a % m = a' % m) (h' : b % m = b' % m) : (a + b) % m = (a' + b') % m := by rw [Int.add_emod, h, h', ← Int.add_emod]
theorem c_self (m a : Int) : (a % m) % m = a % m := Int.emod_emod_of_dvd a (Int.dvd_refl m)
theorem m_range {m a : Int} (hm : 1 ≤ m) : 0 ≤ a % m ∧ a % m < m := ⟨Int.emod_nonneg _ (by omega), Int.emod_lt_of_pos _ (by omega)⟩
theorem mul_range {a b M : Int} (ha0 : 0 ≤ a) (ha : a ≤ M) (hb0 : 0 ≤ b) (hb : b ≤ M) : 0 ≤ a * b ∧ a * b ≤ M * M := ⟨Int.mul_nonneg ha0 hb0, Int.mul_le_mul ha hb hb0 (by omega)⟩
/-- The Lucas values. -/
def V (p : Int) : Nat → Int
  | 0 => 2
  | 1 => p
  | n + 2 => p * V p (n + 1) - V p n
theorem V_step (p : Int) (n : Nat) : V p (n + 2) = p * V p (n + 1) - V p n := rfl
theorem V_prod (p : Int) : ∀ k n, V p (n + k) * V p k = V p (n + 2 * k) + V p n
  | 0, n => by simp only [V, Nat.add_zero, Nat.mul_zero]; grind
  | 1, n => by
    have := V_step p n
    simp only [V, Nat.mul_one]; grind
  | k + 2, n => by
    have h1 := V_prod p (k + 1) (n + 1)
    have h0 := V_prod p k (n + 2)
    have e1 := V_step p k
    have e2 := V_step p n
    have e3 := V_step p (n + 2 * k + 2)
    rw [show n + (k + 2) = n + k + 2 by omega, e1, show n + 2 * (k + 2) = n + 2 * k + 2 + 2 by omega, e3]
    rw [show n + 1 + (k + 1) = n + k + 2 by omega, show n + 1 + 2 * (k + 1) = n + 2 * k + 2 + 1 by omega] at h1
    rw [show n + 2 + k = n + k + 2 by omega, show n + 2 + 2 * k = n + 2 * k + 2 by omega] at h0
    grind
theorem V_double (p : Int) (q : Nat) : V p (2 * q) = V p q * V p q - 2 := by
  have := V_prod p q 0
  simp only [Nat.zero_add, V] at this; omega
theorem V_odd (p : Int) (q : Nat) : V p (2 * q + 1) = V p q * V p (q + 1) - p := by
  have := V_prod p q 1
  rw [show 1 + q = q + 1 by omega, show 1 + 2 * q = 2 * q + 1 by omega] at this
  have e : V p 1 = p := rfl
  rw [e, Int.mul_comm] at this; omega
theorem V_next (p : Int) (q : Nat) : V p (2 * q + 2) = V p (q + 1) * V p (q + 1) - 2 := by
  rw [show 2 * q + 2 = 2 * (q + 1) by omega, V_double]
theorem V_comp (p : Int) (k : Nat) : ∀ n, V p (n * k) = V (V p k) n
  | 0 => by simp [V]
  | 1 => by simp [V]
  | n + 2 => by
    have h1 := V_comp p k (n + 1)
    have h0 := V_comp p k n
    have := V_prod p k (n * k)
    rw [V_step, ← h1, ← h0, show (n + 2) * k = n * k + 2 * k by rw [Nat.add_mul], show (n + 1) * k = n * k + k by rw [Nat.add_mul, Nat.one_mul], Int.mul_comm]
    omega
theorem V_mod (p m : Int) : ∀ n, V (p % m) n % m = V p n % m
  | 0 => rfl
  | 1 => by simp only [V]; exact c_self _ _
  | n + 2 => by
    rw [V_step, V_step]
    exact c_sub (c_mul (c_self _ _) (V_mod p m (n + 1))) (V_mod p m n)
theorem ladder_sizes {a b c m : Int} (hm : 1 ≤ m) (hm2 : m ≤ 1000000) (hc : -1000000 ≤ c) (hc2 : c ≤ 1000000) : -9000000000000 ≤ (a % m) * (b % m) - c ∧ (a % m) * (b % m) - c ≤ 9000000000000 ∧ -9000000000000 ≤ (a % m) * (b % m) ∧ (a % m) * (b % m) ≤ 9000000000000 := by
  have h1 := m_range (m := m) (a := a) hm
  have h2 := m_range (m := m) (a := b) hm
  have h4 := mul_range (M := 1000000) h1.1 (by omega) h2.1 (by omega)
  omega
theorem l_double {p m : Int} (q : Nat) : ((V p q % m) * (V p q % m) - 2) % m = V p (2 * q) % m := by
  rw [V_double]; exact c_sub (c_mul (c_self _ _) (c_self _ _)) rfl
theorem l_odd {p m c : Int} (q : Nat) (hc : c % m = p % m) : ((V p q % m) * (V p (q + 1) % m) - c) % m = V p (2 * q + 1) % m := by
  rw [V_odd]; exact c_sub (c_mul (c_self _ _) (c_self _ _)) hc
theorem l_next {p m : Int} (q : Nat) : ((V p (q + 1) % m) * (V p (q + 1) % m) - 2) % m = V p (2 * q + 2) % m := by
  rw [V_next]; exact c_sub (c_mul (c_self _ _) (c_self _ _)) rfl
theorem bl_bounds : ∀ (f x : Nat), x < 2 ^ f → x < 2 ^ (Go.Lib.bitLenAux f x) ∧ (x ≠ 0 → 1 ≤ Go.Lib.bitLenAux f x ∧ 2 ^ (Go.Lib.bitLenAux f x - 1) ≤ x)
  | 0, x, h => by simp at h; subst h; simp [Go.Lib.bitLenAux]
  | f + 1, x, h => by
    unfold Go.Lib.bitLenAux
    by_cases h0 : x = 0
    · simp [h0]
    · rw [if_neg h0]
      have ih := bl_bounds f (x / 2) (by rw [Nat.pow_succ] at h; omega)
      refine ⟨?_, fun _ => ⟨by omega, ?_⟩⟩
      · rw [Nat.add_comm, Nat.pow_succ]; omega
      · by_cases h1 : x / 2 = 0
        · have : x = 1 := by omega
          subst this
          rw [h1]
          cases f <;> simp [Go.Lib.bitLenAux]
        · have := ih.2 h1
          have e : 1 + Go.Lib.bitLenAux f (x / 2) - 1 = (Go.Lib.bitLenAux f (x / 2) - 1) + 1 := by omega
          rw [e, Nat.pow_succ]; omega
def bl (n : Nat) : Nat := Go.Lib.bitLen n
theorem bl_lt {n : Nat} (h : n < 2 ^ 64) : n < 2 ^ bl n := (bl_bounds 64 n h).1
theorem bl_ge {n i : Nat} (h : n < 2 ^ 64) (hi : i < bl n) : 2 ^ i ≤ n := by
  by_cases h0 : n = 0
  · subst h0; have e : bl 0 = 0 := by decide
    omega
  · have := (bl_bounds 64 n h).2 h0
    have e : bl n = Go.Lib.bitLenAux 64 n := rfl
    exact Nat.le_trans (Nat.pow_le_pow_right (by omega) (by omega)) this.2
theorem bl_small {n : Nat} (h : n ≤ 1000000) : bl n ≤ 20 := by
  rcases Nat.lt_or_ge 20 (bl n) with h1 | h1
  · have := bl_ge (n := n) (i := 20) (by omega) h1; omega
  · exact h1
theorem shr_nat (n i : Nat) (hi : i ≤ 64) : shr .i64 (n : Int) (i : Int) = ((n / 2 ^ i : Nat) : Int) := by
  unfold shr
  rw [Int.toNat_natCast, Nat.min_eq_left (by simpa [IntKind.bits] using hi)]
  simp
theorem wrapu {n : Int} (h0 : 0 ≤ n) (h1 : n ≤ 1000000000000) : IntKind.u64.wrap n = n := by
  simp only [IntKind.wrap, IntKind.bits, IntKind.signed, Bool.false_eq_true, false_and, if_false]
  simp
  omega
theorem wrap62 (n : Int) (h0 : 0 ≤ n) (h1 : n < 2 ^ 62) : IntKind.i64.wrap n = n := by
  have e : (2 : Int) ^ 62 = 4611686018427387904 := by decide
  simp only [IntKind.wrap, IntKind.bits, IntKind.signed]
  simp
  omega
theorem bit_and (q : Nat) (h : q ≤ 1000000) : (Go.bits .and .i64 (q : Int) 1 = 1) ↔ q % 2 = 1 := by
  have e : (2 : Int) ^ 62 = 4611686018427387904 := by decide
  have hb : Go.bits .and .i64 (q : Int) ((2 : Int) ^ 1 - 1) = (q : Int) % 2 ^ 1 := bits_mask .i64 62 (by decide) wrap62 1 (by decide) (q : Int) (by omega) (by omega)
  have e1 : (2 : Int) ^ 1 - 1 = 1 := by decide
  have e2 : (2 : Int) ^ 1 = 2 := by decide
  rw [e1, e2] at hb
  rw [hb]; omega
theorem bit_mod (q : Nat) : (Int.tmod (q : Int) 2 = 1) ↔ q % 2 = 1 := by
  rw [Int.tmod_eq_emod_of_nonneg (by omega)]; omega
theorem half_step (n i : Nat) : n / 2 ^ i = 2 * (n / 2 ^ (i + 1)) + (n / 2 ^ i) % 2 := by
  have : n / 2 ^ (i + 1) = (n / 2 ^ i) / 2 := by rw [Nat.pow_succ, Nat.div_div_eq_div_mul]
  rw [this]; omega
theorem chLength_loop {n : Nat} (h : n ≤ 1000000) : ∀ (d i : Nat), i + d = bl n → Ev (fun k => spec_chLength.l0 k n i) (bl n : Int) := by
  have hs := bl_small h
  intro d
  induction d with
  | zero =>
    intro i hi
    have hlt := bl_lt (n := n) (by omega)
    have e : n / 2 ^ i = 0 := Nat.div_eq_of_lt (by rw [show i = bl n by omega]; exact hlt)
    refine up ?_
    simp only [spec_chLength.l0, if_pos (show (0 : Int) ≤ (i : Int) by omega), shr_nat n i (by omega), e, if_neg (show ¬ ((0 : Nat) : Int) > 0 by omega)]
    rw [show i = bl n by omega]
    exact Ev.now _
  | succ d ih =>
    intro i hi
    have hge := bl_ge (n := n) (i := i) (by omega) (by omega)
    have e : 0 < n / 2 ^ i := Nat.div_pos hge (Nat.pow_pos (by omega))
    refine up ?_
    simp only [spec_chLength.l0, if_pos (show (0 : Int) ≤ (i : Int) by omega), shr_nat n i (by omega), if_pos (show ((n / 2 ^ i : Nat) : Int) > 0 by omega), wid (x := (i : Int) + 1) (by omega) (by omega)]
    exact ih (i + 1) (by omega)
theorem chLength_val {n : Nat} (h : n ≤ 1000000) : Ev (fun k => spec_chLength.f k n) (bl n : Int) := chLength_loop h (bl n) 0 (by omega)
theorem specLadder_loop {p m : Int} (hp : -1000000 ≤ p) (hp2 : p ≤ 1000000) (hm : 1 ≤ m) (hm2 : m ≤ 1000000) {n : Nat} (hn : n ≤ 1000000) : ∀ (i : Nat), i ≤ 20 →
    Ev (fun k => spec_luLadder.l0 k p n m (V p (n / 2 ^ i) % m) (V p (n / 2 ^ i + 1) % m) ((i : Int) - 1)) (V p n % m, V p (n + 1) % m) := by
  intro i
  induction i with
  | zero =>
    intro _
    refine up ?_
    simp only [spec_luLadder.l0, if_neg (show ¬ ((0 : Nat) : Int) - 1 ≥ 0 by omega), Nat.pow_zero, Nat.div_one]
    exact Ev.now _
  | succ i ih =>
    intro hi
    have ih := ih (by omega)
    have e := half_step n i
    have hb1 := ladder_sizes (a := V p (n / 2 ^ (i + 1))) (b := V p (n / 2 ^ (i + 1))) (c := 2) hm hm2 (by omega) (by omega)
    have hb2 := ladder_sizes (a := V p (n / 2 ^ (i + 1))) (b := V p (n / 2 ^ (i + 1) + 1)) (c := p) hm hm2 hp hp2
    have hb3 := ladder_sizes (a := V p (n / 2 ^ (i + 1) + 1)) (b := V p (n / 2 ^ (i + 1) + 1)) (c := 2) hm hm2 (by omega) (by omega)
    generalize n / 2 ^ (i + 1) = q at *
    refine up ?_
    simp only [spec_luLadder.l0, show ((i + 1 : Nat) : Int) - 1 = (i : Int) by omega, if_pos (show (i : Int) ≥ 0 by omega), if_pos (show (0 : Int) ≤ (i : Int) by omega),
      wid (x := V p q % m * (V p q % m)) (by omega) (by omega), wid (x := V p q % m * (V p q % m) - 2) (by omega) (by omega),
      wid (x := V p q % m * (V p (q + 1) % m)) (by omega) (by omega), wid (x := V p q % m * (V p (q + 1) % m) - p) (by omega) (by omega),
      wid (x := V p (q + 1) % m * (V p (q + 1) % m)) (by omega) (by omega), wid (x := V p (q + 1) % m * (V p (q + 1) % m) - 2) (by omega) (by omega),
      poMod_val (a := V p q % m * (V p q % m) - 2) (b := m) (by omega) (by omega), poMod_val (a := V p q % m * (V p (q + 1) % m) - p) (b := m) (by omega) (by omega), poMod_val (a := V p (q + 1) % m * (V p (q + 1) % m) - 2) (b := m) (by omega) (by omega),
      Option.bind_some, l_double, l_odd q rfl, l_next, shr_nat n i (by omega), bit_mod, wid (x := (i : Int) - 1) (by omega) (by omega)]
    by_cases hr : n / 2 ^ i % 2 = 1
    · rw [if_pos_ev hr]
      rw [show 2 * q + 1 = n / 2 ^ i by omega, show 2 * (q + 1) = n / 2 ^ i + 1 by omega]
      exact ih
    · rw [if_neg_ev hr]
      rw [show 2 * q + 1 = n / 2 ^ i + 1 by omega, show 2 * q = n / 2 ^ i by omega]
      exact ih
theorem specLadder {p m : Int} (hp : -1000000 ≤ p) (hp2 : p ≤ 1000000) (hm : 1 ≤ m) (hm2 : m ≤ 1000000) {n : Nat} (hn : n ≤ 1000000) : Ev (fun k => spec_luLadder.f k p n m) (V p n % m, V p (n + 1) % m) := by
  have hs := bl_small hn
  simp only [spec_luLadder.f, poMod_val (a := 2) (b := m) (by omega) (by omega), poMod_val (a := p) (b := m) (by omega) (by omega), Option.bind_some]
  refine Ev.bind (chLength_val hn) ?_
  have h := specLadder_loop hp hp2 hm hm2 hn (bl n) hs
  rw [Nat.div_eq_of_lt (bl_lt (n := n) (by omega))] at h
  simpa [V, wid (x := (bl n : Int) - 1) (by omega) (by omega)] using h
theorem rise_lt {l : List Int} (h : allFrom (riseB l) 1 (l.length - 1) = true) : ∀ (d i : Nat), i + d + 1 < l.length → rd l (i : Int) < rd l ((i + d + 1 : Nat) : Int) := by
  have h := (allFrom_iff _ _).1 h
  have one : ∀ k : Nat, 1 ≤ k → k < l.length → rd l ((k : Int) - 1) < rd l k := fun k h1 h2 => by
    have := h k h1 (by omega)
    unfold riseB at this
    rw [Bool.and_eq_true] at this
    exact of_decide_eq_true this.1
  intro d
  induction d with
  | zero =>
    intro i hi
    have := one (i + 1) (by omega) (by omega)
    rw [show ((i + 1 : Nat) : Int) - 1 = (i : Int) by omega] at this
    exact this
  | succ d ih =>
    intro i hi
    have h1 := ih i (by omega)
    have h2 := one (i + d + 1 + 1) (by omega) (by omega)
    rw [show ((i + d + 1 + 1 : Nat) : Int) - 1 = ((i + d + 1 : Nat) : Int) by omega] at h2
    show _ < rd l ((i + d + 1 + 1 : Nat) : Int)
    omega
structure Chain (l : List Int) : Prop where
  pos : 1 ≤ l.length
  len : l.length ≤ 41
  one : rd l 0 = 1
  lt : ∀ i j : Nat, i < j → j < l.length → rd l (i : Int) < rd l (j : Int)
  low : ∀ i : Nat, i < l.length → 1 ≤ rd l (i : Int)
  high : ∀ i : Nat, i < l.length → rd l (i : Int) ≤ 1000000
theorem chain_of {l : List Int} (h : chainB l = true) : Chain l := by
  have hl := chainB_len h
  unfold chainB at h
  simp only [Bool.and_eq_true] at h
  obtain ⟨_, h1, h2, _⟩ := h
  have h1 : rd l 0 = 1 := by simpa using h1
  have lt : ∀ i j : Nat, i < j → j < l.length → rd l (i : Int) < rd l (j : Int) := fun i j hij hj => by
    have := rise_lt h2 (j - i - 1) i (by omega)
    rw [show i + (j - i - 1) + 1 = j by omega] at this
    exact this
  have low : ∀ i : Nat, i < l.length → 1 ≤ rd l (i : Int) := fun i hi => by
    rcases Nat.eq_zero_or_pos i with h0 | h0
    · subst h0; show 1 ≤ rd l 0; omega
    · have := lt 0 i h0 hi
      have e : rd l ((0 : Nat) : Int) = 1 := h1
      omega
  refine ⟨hl.1, hl.2, h1, lt, low, fun i hi => ?_⟩
  rcases Nat.eq_zero_or_pos i with h0 | h0
  · subst h0; show rd l 0 ≤ _; omega
  · have := (allFrom_iff _ _).1 h2 i (by omega) (by omega)
    unfold riseB at this
    rw [Bool.and_eq_true] at this
    exact of_decide_eq_true this.2
theorem index_loop (x : Int) (l : List Int) (hl : l.length ≤ 1000000) : ∀ (d i : Nat), i + d = l.length → (∃ j, i ≤ j ∧ j < l.length ∧ rd l (j : Int) = x) → ∃ j : Nat, i ≤ j ∧ j < l.length ∧ rd l (j : Int) = x ∧ Ev (fun q => slices_Index_int_int.l0 q l x (l.length : Int) i) (j : Int) := by
  intro d
  induction d with
  | zero => intro i h ⟨j, h1, h2, _⟩; omega
  | succ d ih =>
    intro i h hj
    by_cases e : x = rd l (i : Int)
    · refine ⟨i, Nat.le_refl _, by omega, e.symm, up ?_⟩
      simp only [slices_Index_int_int.l0, if_pos (show (i : Int) < (l.length : Int) by omega), if_pos (show (0 : Int) ≤ (i : Int) by omega), if_pos e]
      exact Ev.now _
    · obtain ⟨j, h1, h2, h3⟩ := hj
      obtain ⟨j', h4, h5, h6, h7⟩ := ih (i + 1) (by omega) ⟨j, by
        rcases Nat.lt_or_ge i j with h | h
        · omega
        · exact absurd (show x = rd l (i : Int) by rw [show i = j by omega]; exact h3.symm) e, h2, h3⟩
      refine ⟨j', by omega, h5, h6, up ?_⟩
      simp only [slices_Index_int_int.l0, if_pos (show (i : Int) < (l.length : Int) by omega), if_pos (show (0 : Int) ≤ (i : Int) by omega), if_neg e, wid (x := (i : Int) + 1) (by omega) (by omega)]
      exact h7
theorem has_at {l : List Int} {x : Int} (h : hasB l x = true) : ∃ j : Nat, j < l.length ∧ rd l (j : Int) = x := by
  unfold hasB at h
  have h := List.contains_iff_mem.1 h
  obtain ⟨j, hj, e⟩ := List.getElem_of_mem h
  exact ⟨j, hj, by rw [rd_at hj]; exact e⟩
theorem lastS_mem {l : List Int} {k : Nat} (h : 0 < (lsums l k).length) : lastS l k ∈ lsums l k := by
  unfold lastS
  have e : ((lsums l k).length : Int) - 1 = (((lsums l k).length - 1 : Nat) : Int) := by omega
  rw [e, rdT_at (by omega)]
  exact List.getElem_mem _
/-- What the last sum of a Lucas chain's number is. -/
theorem lastS_is {l : List Int} (c : Chain l) {k : Nat} (hk : k < l.length) (h : lsB l k = true) : ∃ a b : Nat, a ≤ b ∧ b < k ∧ lastS l k = ⟨a, b⟩ ∧ rd l a + rd l b = rd l k ∧ (a = b ∨ a < b ∧ ∃ j : Nat, j < b ∧ rd l j = rd l b - rd l a ∧ hasB l (rd l b - rd l a) = true) := by
  have hm := lastS_mem (of_decide_eq_true h)
  unfold lsums at hm
  rw [List.mem_filter] at hm
  obtain ⟨hm, ho⟩ := hm
  obtain ⟨a, b, h1, h2, e, h3⟩ := mem_sums k 0 hm
  have ha0 := c.low a (by omega)
  have ha1 := c.high a (by omega)
  have hb0 := c.low b (by omega)
  have hb1 := c.high b (by omega)
  rw [wid (by omega) (by omega)] at h3
  refine ⟨a, b, h1, by omega, e, h3, ?_⟩
  by_cases hab : a = b
  · exact .inl hab
  · refine .inr ⟨by omega, ?_⟩
    unfold okS at ho
    rw [e] at ho
    dsimp only at ho
    rw [show ((a : Int) == (b : Int)) = false by simp; omega, Bool.false_or, wid (by omega) (by omega)] at ho
    obtain ⟨j, hj, e2⟩ := has_at ho
    refine ⟨j, ?_, e2, ho⟩
    rcases Nat.lt_or_ge j b with h | h
    · exact h
    · exfalso
      rcases Nat.eq_or_lt_of_le h with h | h
      · subst h; omega
      · have := c.lt b j h hj; omega
def vL (p m x : Int) : Int := V p x.toNat % m
def vTo (p m : Int) (l : List Int) (t : Nat) : List Int := (l.take t).map (vL p m)
theorem vTo_len {p m : Int} {l : List Int} {t : Nat} (h : t ≤ l.length) : (vTo p m l t).length = t := by
  unfold vTo; rw [List.length_map, List.length_take]; omega
theorem vTo_rd {p m : Int} {l : List Int} {t i : Nat} (h : t ≤ l.length) (hi : i < t) : rd (vTo p m l t) (i : Int) = vL p m (rd l (i : Int)) := by
  rw [rd_at (by rw [vTo_len h]; exact hi), rd_at (by omega)]
  unfold vTo
  rw [List.getElem_map, List.getElem_take]
theorem vTo_succ {p m : Int} {l : List Int} {t : Nat} (h : t < l.length) : vTo p m l (t + 1) = vTo p m l t ++ [vL p m (rd l (t : Int))] := by
  unfold vTo
  rw [List.take_succ_eq_append_getElem h, List.map_append, rd_at h]; rfl
theorem vL_range {p m x : Int} (hm : 1 ≤ m) (hm2 : m ≤ 1000000) : 0 ≤ vL p m x ∧ vL p m x ≤ 1000000 := by
  have := m_range (m := m) (a := V p x.toNat) hm
  unfold vL; omega
theorem v_twice {p m : Int} {x y : Int} (hx : 0 ≤ x) (hy : x + x = y) : (vL p m x * vL p m x - 2 % m) % m = vL p m y := by
  unfold vL
  obtain ⟨n, rfl⟩ := Int.eq_ofNat_of_zero_le hx
  subst hy
  rw [show ((n : Int) + n).toNat = 2 * n by omega, Int.toNat_natCast, V_double]
  exact c_sub (c_mul (c_self _ _) (c_self _ _)) (c_self _ _)
theorem v_sum {p m : Int} {x y z : Int} (hx : 0 ≤ x) (hxy : x ≤ y) (hz : x + y = z) : (vL p m x * vL p m y - vL p m (y - x)) % m = vL p m z := by
  unfold vL
  obtain ⟨n, rfl⟩ := Int.eq_ofNat_of_zero_le hx
  obtain ⟨q, hq⟩ := Int.eq_ofNat_of_zero_le (show 0 ≤ y - n by omega)
  have hy : y = ((q + n : Nat) : Int) := by omega
  subst hz
  rw [show (n + y).toNat = q + 2 * n by omega, show (y - n).toNat = q by omega, Int.toNat_natCast, show y.toNat = q + n by omega]
  have e := V_prod p n q
  have : V p (q + 2 * n) = V p n * V p (q + n) - V p q := by rw [Int.mul_comm]; omega
  rw [this]
  exact c_sub (c_mul (c_self _ _) (c_self _ _)) (c_self _ _)
theorem stepsFrom_at (l : List Int) : ∀ d k i, i < d → (h : i < (stepsFrom l k d).length) → (stepsFrom l k d)[i] = lastS l (k + i)
  | d + 1, k, 0, _, _ => rfl
  | d + 1, k, i + 1, hi, h => by
    have := stepsFrom_at l d (k + 1) i (by omega) (by rw [stepsFrom_len]; omega)
    simp only [stepsFrom, List.getElem_cons_succ]
    rw [this]; congr 1; omega
theorem iRun_loop {p m : Int} (hm : 1 ≤ m) (hm2 : m ≤ 1000000) {l : List Int} (hL : lucasB l = true) : ∀ (d t : Nat), t + d + 1 = l.length → Ev (fun q => impl_RunLucas.l0 q l m (vTo p m l (t + 1)) (stepsL l) ((stepsL l).length : Int) t) (vTo p m l l.length, true) := by
  have hsl : (stepsL l).length = l.length - 1 := by unfold stepsL; rw [stepsFrom_len]
  have hL2 := hL
  unfold lucasB at hL2
  rw [Bool.and_eq_true] at hL2
  have c := chain_of hL2.1
  have hc := c.len
  intro d
  induction d with
  | zero =>
    intro t h
    refine up ?_
    simp only [impl_RunLucas.l0, if_neg (show ¬ (t : Int) < ((stepsL l).length : Int) by omega)]
    rw [h]
    exact Ev.now _
  | succ d ih =>
    intro t h
    have ht : t < (stepsL l).length := by omega
    have hlast : (stepsL l)[t] = lastS l (t + 1) := by
      have := stepsFrom_at l (l.length - 1) 1 t (by omega) ht
      rw [Nat.add_comm 1 t] at this
      exact this
    obtain ⟨a, b, hab, hb, e, hs, hor⟩ := lastS_is c (k := t + 1) (by omega) ((allFrom_iff _ _).1 hL2.2 (t + 1) (by omega) (by omega))
    have hvl := vTo_len (p := p) (m := m) (l := l) (t := t + 1) (by omega)
    have ra := vTo_rd (p := p) (m := m) (l := l) (t := t + 1) (i := a) (by omega) (by omega)
    have rb := vTo_rd (p := p) (m := m) (l := l) (t := t + 1) (i := b) (by omega) (by omega)
    have va := vL_range (p := p) (x := rd l (a : Int)) hm hm2
    have vb := vL_range (p := p) (x := rd l (b : Int)) hm hm2
    have hmul := mul_range va.1 va.2 vb.1 vb.2
    have h2m := m_range (m := m) (a := 2) hm
    have ih := ih (t + 1) (by omega)
    rw [vTo_succ (by omega)] at ih
    refine up ?_
    simp only [impl_RunLucas.l0, if_pos (show (t : Int) < ((stepsL l).length : Int) by omega), if_pos (show (0 : Int) ≤ (t : Int) by omega), rdT_at ht, hlast, e, rest_val (a := 2) (b := m) (by omega) (by omega), Option.bind_some, if_pos (show (0 : Int) ≤ (a : Int) by omega), if_pos (show (0 : Int) ≤ (b : Int) by omega), hvl, if_pos (show (a : Int) < ((t + 1 : Nat) : Int) by omega), if_pos (show (b : Int) < ((t + 1 : Nat) : Int) by omega), if_pos (show (a : Int) < (l.length : Int) by omega), if_pos (show (b : Int) < (l.length : Int) by omega), ra, rb, wid (x := (t : Int) + 1) (by omega) (by omega), if_pos (show t + 1 < 17592186044416 by omega), wid (x := vL p m (rd l (a : Int)) * vL p m (rd l (b : Int))) (by omega) (by omega), wid (x := vL p m (rd l (a : Int)) * vL p m (rd l (b : Int)) - 2 % m) (by omega) (by omega), rest_val (a := vL p m (rd l (a : Int)) * vL p m (rd l (b : Int)) - 2 % m) (b := m) (by omega) (by omega)]
    have la := c.low a (by omega)
    have lb := c.low b (by omega)
    have ha := c.high a (by omega)
    have hb2 := c.high b (by omega)
    rcases hor with hor | ⟨hlt, j, hj, hj2, hj3⟩
    · subst hor
      rw [if_pos_ev (show (a : Int) = (a : Int) from rfl), v_twice (y := rd l ((t + 1 : Nat) : Int)) (by omega) hs]
      exact ih
    · rw [if_neg_ev (show ¬ (a : Int) = (b : Int) by omega)]
      obtain ⟨i, _, hi1, hi2, hi3⟩ := index_loop (rd l (b : Int) - rd l (a : Int)) l (by omega) l.length 0 (by omega) ⟨j, by omega, by omega, hj2⟩
      have hib : i < b := by
        rcases Nat.lt_or_ge i b with h | h
        · exact h
        · exfalso
          rcases Nat.eq_or_lt_of_le h with h | h
          · subst h; omega
          · have := c.lt b i h hi1; omega
      have ri := vTo_rd (p := p) (m := m) (l := l) (t := t + 1) (i := i) (by omega) (by omega)
      have vi := vL_range (p := p) (x := rd l (i : Int)) hm hm2
      simp only [wid (x := rd l (b : Int) - rd l (a : Int)) (by omega) (by omega), slices_Index_int_int.f]
      refine Ev.bind hi3 ?_
      simp only [if_pos (show (0 : Int) ≤ (i : Int) by omega), if_pos (show (i : Int) < ((t + 1 : Nat) : Int) by omega), ri, wid (x := vL p m (rd l (a : Int)) * vL p m (rd l (b : Int)) - vL p m (rd l (i : Int))) (by omega) (by omega), rest_val (a := vL p m (rd l (a : Int)) * vL p m (rd l (b : Int)) - vL p m (rd l (i : Int))) (b := m) (by omega) (by omega), Option.bind_some]
      have hab2 := c.lt a b hlt (by omega)
      rw [hi2, v_sum (z := rd l ((t + 1 : Nat) : Int)) (by omega) (by omega) hs]
      exact ih
def okPM (p m : Int) : Prop := (-1000000 ≤ p ∧ p ≤ 1000000) ∧ 1 ≤ m ∧ m ≤ 1000000
instance (p m : Int) : Decidable (okPM p m) := by unfold okPM; infer_instance
theorem iRun_yes {p m : Int} {l : List Int} (hL : lucasB l = true) (h : okPM p m) : Ev (fun q => impl_RunLucas.f q l p m) (vTo p m l l.length, true) := by
  obtain ⟨⟨h0, h1⟩, h2, h3⟩ := h
  have hi := implLuc l
  rw [hL] at hi
  have hL2 := hL
  unfold lucasB at hL2
  rw [Bool.and_eq_true] at hL2
  have c := chain_of hL2.1
  have hp := c.pos
  simp only [impl_RunLucas.f]
  refine Ev.bind hi ?_
  simp only [if_true, impl_lucasOk.f, impl_in.f, ge_iff_le, h0, h1, h2, h3, decide_true, Option.bind_some, Bool.not_true]
  refine up ?_
  simp only [impl_RunLucas.j0, Bool.false_eq_true, if_false, rest_val (a := p) (b := m) (by omega) (by omega), Option.bind_some]
  refine Ev.bind (iSteps_val hL) ?_
  have := iRun_loop (p := p) h2 h3 hL (l.length - 1) 0 (by omega)
  rw [vTo_succ (by omega)] at this
  have e : vTo p m l 0 ++ [vL p m (rd l ((0 : Nat) : Int))] = [p % m] := by
    have e1 : rd l ((0 : Nat) : Int) = 1 := c.one
    rw [e1]; rfl
  rw [e] at this
  exact this
theorem iRun_no {p m : Int} {l : List Int} (h : ¬ (lucasB l = true ∧ okPM p m)) : Ev (fun q => impl_RunLucas.f q l p m) ([], false) := by
  have j0t : Ev (fun q => impl_RunLucas.j0 q l p m true) ([], false) := by refine up ?_; simp only [impl_RunLucas.j0, if_true]; exact Ev.now _
  simp only [impl_RunLucas.f]
  refine Ev.bind (implLuc l) ?_
  cases hL : lucasB l with
  | false => simp only [Bool.false_eq_true, if_false]; exact j0t
  | true =>
    have h : ¬ okPM p m := fun c => h ⟨hL, c⟩
    unfold okPM at h
    simp only [if_true, impl_lucasOk.f, impl_in.f, ge_iff_le]
    by_cases a : -1000000 ≤ p <;> by_cases b : p ≤ 1000000 <;> by_cases c : 1 ≤ m <;> by_cases d : m ≤ 1000000 <;> first | (exfalso; omega) | (simpa [a, b, c, d] using j0t)
theorem sRun_loop {p m : Int} (hp : -1000000 ≤ p) (hp2 : p ≤ 1000000) (hm : 1 ≤ m) (hm2 : m ≤ 1000000) {l : List Int} (c : Chain l) : ∀ (d t : Nat), t + d = l.length → Ev (fun q => spec_RunLucas.l0 q p m (vTo p m l t) l (l.length : Int) t) (vTo p m l l.length, true) := by
  have hc := c.len
  intro d
  induction d with
  | zero =>
    intro t h
    refine up ?_
    simp only [spec_RunLucas.l0, if_neg (show ¬ (t : Int) < (l.length : Int) by omega)]
    rw [show t = l.length by omega]
    exact Ev.now _
  | succ d ih =>
    intro t h
    have la := c.low t (by omega)
    have ha := c.high t (by omega)
    have ih := ih (t + 1) (by omega)
    rw [vTo_succ (by omega)] at ih
    refine up ?_
    simp only [spec_RunLucas.l0, if_pos (show (t : Int) < (l.length : Int) by omega), if_pos (show (0 : Int) ≤ (t : Int) by omega), vTo_len (p := p) (m := m) (l := l) (t := t) (by omega), if_pos (show t < 17592186044416 by omega), wid (x := (t : Int) + 1) (by omega) (by omega)]
    obtain ⟨n, hn⟩ := Int.eq_ofNat_of_zero_le (show 0 ≤ rd l (t : Int) by omega)
    have hs := specLadder hp hp2 hm hm2 (n := n) (by omega)
    rw [← hn] at hs
    refine Ev.bind hs ?_
    have e : V p n % m = vL p m (rd l (t : Int)) := by unfold vL; rw [hn, Int.toNat_natCast]
    simp only [e]
    exact ih
theorem sRun_yes {p m : Int} {l : List Int} (hL : lucasB l = true) (h : okPM p m) : Ev (fun q => spec_RunLucas.f q l p m) (vTo p m l l.length, true) := by
  obtain ⟨⟨h0, h1⟩, h2, h3⟩ := h
  have hi := specLuc l
  rw [hL] at hi
  have hL2 := hL
  unfold lucasB at hL2
  rw [Bool.and_eq_true] at hL2
  have c := chain_of hL2.1
  simp only [spec_RunLucas.f]
  refine Ev.bind hi ?_
  simp only [if_true, spec_luGiven.f, l1In_val, h0, h1, h2, h3, decide_true, Bool.and_self, Option.bind_some, Bool.not_true]
  refine up ?_
  simp only [spec_RunLucas.j0, Bool.false_eq_true, if_false]
  exact sRun_loop h0 h1 h2 h3 c l.length 0 (by omega)
theorem sRun_no {p m : Int} {l : List Int} (h : ¬ (lucasB l = true ∧ okPM p m)) : Ev (fun q => spec_RunLucas.f q l p m) ([], false) := by
  have j0t : Ev (fun q => spec_RunLucas.j0 q l p m true) ([], false) := by refine up ?_; simp only [spec_RunLucas.j0, if_true]; exact Ev.now _
  simp only [spec_RunLucas.f]
  refine Ev.bind (specLuc l) ?_
  cases hL : lucasB l with
  | false => simp only [Bool.false_eq_true, if_false]; exact j0t
  | true =>
    have h : ¬ okPM p m := fun c => h ⟨hL, c⟩
    unfold okPM at h
    simp only [if_true, spec_luGiven.f, l1In_val, Option.bind_some]
    by_cases a : -1000000 ≤ p <;> by_cases b : p ≤ 1000000 <;> by_cases c : 1 ≤ m <;> by_cases d : m ≤ 1000000 <;> first | (exfalso; omega) | (simpa [a, b, c, d] using j0t)
theorem run_both (l : List Int) (p m : Int) : ∃ r b, r.length ≤ 1000000 ∧ Ev (fun k => spec_RunLucas.f k l p m) (r, b) ∧ Ev (fun k => impl_RunLucas.f k l p m) (r, b) := by
  by_cases h : lucasB l = true ∧ okPM p m
  · have hl := lucasB_len h.1
    exact ⟨_, _, by rw [vTo_len (Nat.le_refl _)]; omega, sRun_yes h.1 h.2, iRun_yes h.1 h.2⟩
  · exact ⟨_, _, by simp, sRun_no h, iRun_no h⟩
theorem toIntS_loop (l : List Int) (hl : l.length ≤ 17592186044416) : ∀ (d : Nat) (i : Nat) (acc : List Int), i + d = l.length → acc.length = l.length → (∀ j, j < i → acc[j]? = l[j]?) → Ev (fun k => laws_toIntS.l0 k l acc i) l := by
  intro d
  induction d with
  | zero =>
    intro i acc h ha hj
    refine up ?_
    simp only [laws_toIntS.l0, if_neg (show ¬ (i : Int) < (l.length : Int) by omega)]
    have : acc = l := List.ext_getElem? fun j => by
      rcases Nat.lt_or_ge j i with h1 | h1
      · exact hj j h1
      · rw [List.getElem?_eq_none (by omega), List.getElem?_eq_none (by omega)]
    rw [this]
    exact Ev.now _
  | succ d ih =>
    intro i acc h ha hj
    refine up ?_
    simp only [laws_toIntS.l0, if_pos (show (i : Int) < (l.length : Int) by omega), if_pos (show (0 : Int) ≤ (i : Int) by omega), if_pos (show (i : Int) < (acc.length : Int) by omega), wid (x := (i : Int) + 1) (by omega) (by omega), Int.toNat_natCast]
    refine ih (i + 1) _ (by omega) (by simp [ha]) fun j hj2 => ?_
    by_cases e : j = i
    · subst e
      rw [List.getElem?_set_self (by omega)]
      unfold rd
      rw [Int.toNat_natCast, List.getD_eq_getElem?_getD, List.getElem?_eq_getElem (show j < l.length by omega)]; rfl
    · rw [List.getElem?_set_ne (by omega)]
      exact hj j (by omega)
theorem toIntS_val (l : List Int) (hl : l.length ≤ 17592186044416) : Ev (fun k => laws_toIntS.f k l) l := by
  simp only [laws_toIntS.f, if_pos (show (0 : Int) ≤ (l.length : Int) by omega), Int.toNat_natCast, if_pos (show l.length ≤ 35184372088832 by omega)]
  exact toIntS_loop l hl l.length 0 _ (by omega) (by simp) (fun j hj => by omega)
theorem eqIntS_loop (l : List Int) (hl : l.length ≤ 140737488351232) : ∀ (d : Nat) (i : Int), 0 ≤ i → i + d = l.length → Ev (fun k => laws_eqIntS.l0 k l l i) true := by
  intro d
  induction d with
  | zero =>
    intro i h0 h
    refine up ?_
    simp only [laws_eqIntS.l0, if_neg (show ¬ i < (l.length : Int) by omega)]
    exact Ev.now _
  | succ d ih =>
    intro i h0 h
    refine up ?_
    simp only [laws_eqIntS.l0, if_pos (show i < (l.length : Int) by omega), if_pos h0, if_true, wid (x := i + 1) (by omega) (by omega)]
    exact ih (i + 1) (by omega) (by omega)
theorem eqIntS_same (l : List Int) (hl : l.length ≤ 140737488351232) : Ev (fun k => laws_eqIntS.f k l l) true := by
  simp only [laws_eqIntS.f, if_true]
  exact eqIntS_loop l hl l.length 0 (by omega) (by omega)
def marks : Int → Nat → List Int
  | _, 0 => []
  | a, n + 1 => a :: marks (a + 1) n
theorem mark_loop : ∀ (rest done : List Int) (a : Int), done.length + rest.length ≤ 140737488351232 → 0 ≤ a → a ≤ 140737488351232 →
    Ev (fun k => laws_markIntS.l0 k (done ++ rest) (a + done.length) done.length) (a + done.length + rest.length, done ++ marks (a + done.length) rest.length) := by
  intro rest
  induction rest with
  | nil =>
    intro done a h h0 h1
    refine up ?_
    simp only [laws_markIntS.l0, List.append_nil, if_neg (show ¬ (done.length : Int) < (done.length : Int) by omega), List.length_nil, marks]
    exact ⟨0, fun _ _ => by simp⟩
  | cons x rest ih =>
    intro done a h h0 h1
    simp only [List.length_cons] at h
    refine up ?_
    have e : (done ++ x :: rest).set ((done.length : Int)).toNat (a + done.length) = (done ++ [a + done.length]) ++ rest := by
      rw [Int.toNat_natCast, List.set_append_right _ _ (Nat.le_refl _)]; simp
    simp only [laws_markIntS.l0, if_pos (show (done.length : Int) < ((done ++ x :: rest).length : Int) by simp; omega), if_pos (show (0 : Int) ≤ (done.length : Int) by omega), e, wid (x := a + done.length + 1) (by omega) (by omega), wid (x := (done.length : Int) + 1) (by omega) (by omega)]
    have := ih (done ++ [a + done.length]) a (by simp; omega) h0 h1
    simp only [List.length_append, List.length_singleton, List.append_assoc, List.singleton_append, Int.natCast_add, Int.natCast_one] at this
    simp only [List.append_assoc, List.singleton_append, List.length_cons, marks, Int.natCast_add, Int.natCast_one]
    rw [show a + (done.length : Int) + ((rest.length : Int) + 1) = a + ((done.length : Int) + 1) + rest.length by omega, show a + (done.length : Int) + 1 = a + ((done.length : Int) + 1) by omega]
    exact this
theorem mark_all (l : List Int) (hl : l.length ≤ 140737488351232) : Ev (fun k => laws_markIntS.f k l 1) (1 + l.length, marks 1 l.length) := by
  have := mark_loop l [] 1 (by simpa using hl) (by omega) (by omega)
  simpa [laws_markIntS.f] using this
theorem marks_length (a : Int) (n : Nat) : (marks a n).length = n := by
  induction n generalizing a with
  | zero => rfl
  | succ n ih => simp [marks, ih]
theorem held_loop : ∀ (n : Nat) (done : List Int) (a : Int), done.length + n ≤ 140737488351232 → 0 ≤ a → a ≤ 140737488351232 →
    Ev (fun k => laws_heldIntS.l0 k (done ++ marks (a + done.length) n) (a + done.length) done.length) (a + done.length + n) := by
  intro n
  induction n with
  | zero =>
    intro done a h h0 h1
    refine up ?_
    simp only [laws_heldIntS.l0, marks, List.append_nil, if_neg (show ¬ (done.length : Int) < (done.length : Int) by omega)]
    exact ⟨0, fun _ _ => by simp⟩
  | succ n ih =>
    intro done a h h0 h1
    refine up ?_
    have e : rd (done ++ marks (a + done.length) (n + 1)) (done.length : Int) = a + done.length := by
      unfold rd; rw [Int.toNat_natCast]; simp [marks]
    simp only [laws_heldIntS.l0, if_pos (show (done.length : Int) < ((done ++ marks (a + done.length) (n + 1)).length : Int) by simp [marks_length]; omega), if_pos (show (0 : Int) ≤ (done.length : Int) by omega), e, if_true, wid (x := a + done.length + 1) (by omega) (by omega), wid (x := (done.length : Int) + 1) (by omega) (by omega)]
    have := ih (done ++ [a + done.length]) a (by simp; omega) h0 h1
    simp only [List.length_append, List.length_singleton, List.append_assoc, List.singleton_append, Int.natCast_add, Int.natCast_one] at this
    simp only [marks, Int.natCast_add, Int.natCast_one]
    rw [show a + (done.length : Int) + ((n : Int) + 1) = a + ((done.length : Int) + 1) + n by omega, show a + (done.length : Int) + 1 = a + ((done.length : Int) + 1) by omega]
    exact this
theorem held_all (n : Nat) (hl : n ≤ 140737488351232) : Ev (fun k => laws_heldIntS.f k (marks 1 n) 1) (1 + n) := by
  have := held_loop n [] 1 (by simpa using hl) (by omega) (by omega)
  simpa [laws_heldIntS.f] using this
theorem main : laws_FnExactRunLucas.Pure := by
  intro l p m _ _ _ _ _
  by_cases hbig : (l.length : Int) > 1048576
  · exact ⟨0, by simp only [laws_FnExactRunLucas.f, if_pos hbig]⟩
  obtain ⟨r, b, hl, hs, hi⟩ := run_both l p m
  refine Ev.rounds ?_
  simp only [laws_FnExactRunLucas.f, if_neg hbig]
  have ht := toIntS_val l (by omega)
  refine Ev.bind ht ?_
  refine Ev.bind hs ?_
  refine Ev.bind ht ?_
  refine Ev.bind hi ?_
  refine Ev.bind (eqIntS_same r (by omega)) ?_
  simp only [if_true]
  refine up ?_
  simp only [laws_FnExactRunLucas.j0, bne_self_eq_false, Bool.false_eq_true, if_false]
  refine Ev.bind ht ?_
  refine Ev.bind (eqIntS_same l (by omega)) ?_
  simp only [if_true]
  refine Ev.bind (mark_all l (by omega)) ?_
  simp only [if_neg (show ¬ (1 + (l.length : Int)) < 0 by omega)]
  refine Ev.bind (eqIntS_same r (by omega)) ?_
  simp only [if_true]
  refine up ?_
  simp only [laws_FnExactRunLucas.j1, bne_self_eq_false, Bool.false_eq_true, if_false]
  refine Ev.bind (mark_all r (by omega)) ?_
  refine Ev.bind (held_all r.length (by omega)) ?_
  simp only [if_neg (show ¬ (1 + (r.length : Int)) < 0 by omega), if_true]
  refine Ev.bind ht ?_
  refine Ev.bind hi ?_
  refine Ev.bind (eqIntS_same r (by omega)) ?_
  simp only [if_true]
  refine up ?_
  simp only [laws_FnExactRunLucas.j2, bne_self_eq_false, Bool.false_eq_true, if_false]
  refine Ev.bind (held_all r.length (by omega)) ?_
  simp only [if_neg (show ¬ (1 + (r.length : Int)) < 0 by omega), if_true]
  exact Ev.now _
end Go.Proofs.Ytgpdmgbnefoegaa.PureFnExactRunLucasL
namespace Go.Proofs.Ytgpdmgbnefoegaa.Pure
open Go.Proofs.Ytgpdmgbnefoegaa.PFnExactRunLucas
theorem FnExactRunLucas : laws_FnExactRunLucas.Pure := PureFnExactRunLucasL.main
end Go.Proofs.Ytgpdmgbnefoegaa.Pure
