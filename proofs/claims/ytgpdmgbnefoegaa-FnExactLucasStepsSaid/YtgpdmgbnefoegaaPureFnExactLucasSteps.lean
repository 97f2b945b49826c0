/- The program's LucasSteps returns what the reference's LucasSteps returns, for all lists of the type []int (of at most 2^20 numbers, as the statement itself says; nothing else is asked). -/
import Derived.Test.YtgpdmgbnefoegaaPFnExactLucasStepsx1
import Derived.Test.YtgpdmgbnefoegaaPFnExactLucasStepsx2
import Derived.Test.YtgpdmgbnefoegaaPFnExactLucasStepsx3
import Derived.Test.YtgpdmgbnefoegaaPFnExactLucasStepsx4
import Derived.Test.YtgpdmgbnefoegaaPFnExactLucasStepsx5
import Derived.Test.YtgpdmgbnefoegaaPFnExactLucasStepsx6
set_option linter.unusedVariables false
set_option linter.unusedSimpArgs false
namespace Go.Proofs.Ytgpdmgbnefoegaa.PureFnExactLucasStepsL
open Go.RowKit Go.Proofs.Ytgpdmgbnefoegaa.PFnExactLucasSteps Go.Proofs.YtgpdmgbnefoegaaW.PrintWords Go.Proofs.YtgpdmgbnefoegaaW.PrintLast Go.Proofs.YtgpdmgbnefoegaaW.PrintMore
theorem up {α : Type} {g : Nat → Option α} {r : α} (h : Ev (fun k => g (k + 1)) r) : Ev g r := by
  obtain ⟨K, h⟩ := h
  refine ⟨K + 1, fun k hk => ?_⟩
  obtain ⟨m, rfl⟩ : ∃ m, k = m + 1 := ⟨k - 1, by omega⟩
  exact h m (by omega)
theorem wid {x : Int} (h0 : -9223372036854775808 ≤ x) (h1 : x ≤ 9223372036854775807) : wrap64 x = x := by unfold wrap64; omega
theorem ite_yes {α : Type} {c : Prop} [Decidable c] {a b : α} (h : c) : (if c then a else b) = a := if_pos h
theorem ite_no {α : Type} {c : Prop} [Decidable c] {a b : α} (h : ¬ c) : (if c then a else b) = b := if_neg h
theorem evsome {α β : Type} {x : Option α} {a : α} {f : Nat → α → Option β} {r : β} (hx : x = some a) (h : Ev (fun k => f k a) r) : Ev (fun k => x.bind (f k)) r := by subst hx; exact h
theorem if_pos_ev {α : Type} {c : Prop} [Decidable c] {f g : Nat → Option α} (h : c) : (fun k => if c then f k else g k) = f := funext fun k => if_pos h
theorem if_neg_ev {α : Type} {c : Prop} [Decidable c] {f g : Nat → Option α} (h : ¬ c) : (fun k => if c then f k else g k) = g := funext fun k => if_neg h
theorem rd_at {l : List Int} {i : Nat} (h : i < l.length) : rd l (i : Int) = l[i] := by
  unfold rd
  rw [Int.toNat_natCast, List.getD_eq_getElem?_getD, List.getElem?_eq_getElem h]; rfl
theorem l1In_val (x a b : Int) : spec_l1In.f x a b = some (decide (a ≤ x) && decide (x ≤ b)) := by
  unfold spec_l1In.f
  by_cases h : a ≤ x
  · rw [if_pos h]; simp [h]
  · rw [if_neg h]; simp [h]
def rowFrom (l : List Int) (k j : Nat) : Nat → Nat → List S44
  | _, 0 => []
  | i, d + 1 => (if wrap64 (rd l i + rd l j) = rd l k then [⟨i, j⟩] else []) ++ rowFrom l k j (i + 1) d
def sumsFrom (l : List Int) (k : Nat) : Nat → Nat → List S44
  | _, 0 => []
  | j, d + 1 => rowFrom l k j 0 (j + 1) ++ sumsFrom l k (j + 1) d
/-- The sums of the number with an index. -/
def sumsOf (l : List Int) (k : Nat) : List S44 := sumsFrom l k 0 k
theorem row_len (l : List Int) (k j : Nat) : ∀ d i, (rowFrom l k j i d).length ≤ d
  | 0, _ => by simp [rowFrom]
  | d + 1, i => by
    have := row_len l k j d (i + 1)
    unfold rowFrom
    rw [List.length_append]
    split
    · rw [List.length_singleton]; omega
    · rw [List.length_nil]; omega
theorem sums_len (l : List Int) (k : Nat) : ∀ d j, j + d ≤ 41 → (sumsFrom l k j d).length ≤ d * 41
  | 0, _, _ => by simp [sumsFrom]
  | d + 1, j, h => by
    have h1 := row_len l k j (j + 1) 0
    have h2 := sums_len l k d (j + 1) (by omega)
    unfold sumsFrom
    rw [List.length_append]
    omega
theorem mem_row {l : List Int} {k j : Nat} {s : S44} : ∀ d i, s ∈ rowFrom l k j i d → ∃ a : Nat, i ≤ a ∧ a < i + d ∧ s = ⟨a, j⟩ ∧ wrap64 (rd l a + rd l j) = rd l k
  | 0, _, h => by simp [rowFrom] at h
  | d + 1, i, h => by
    unfold rowFrom at h
    rcases List.mem_append.1 h with h | h
    · split at h
      · rename_i e
        exact ⟨i, by omega, by omega, by simpa using h, e⟩
      · simp at h
    · obtain ⟨a, h1, h2, h3⟩ := mem_row d (i + 1) h
      exact ⟨a, by omega, by omega, h3⟩
theorem mem_sums {l : List Int} {k : Nat} {s : S44} : ∀ d j, s ∈ sumsFrom l k j d → ∃ a b : Nat, a ≤ b ∧ b < j + d ∧ s = ⟨a, b⟩ ∧ wrap64 (rd l a + rd l b) = rd l k
  | 0, _, h => by simp [sumsFrom] at h
  | d + 1, j, h => by
    unfold sumsFrom at h
    rcases List.mem_append.1 h with h | h
    · obtain ⟨a, _, h2, h3, h4⟩ := mem_row (j + 1) 0 h
      exact ⟨a, j, by omega, by omega, h3, h4⟩
    · obtain ⟨a, b, h1, h2, h3⟩ := mem_sums d (j + 1) h
      exact ⟨a, b, h1, by omega, h3⟩
theorem chP_l1 {l : List Int} {k j : Nat} (hk : k < l.length) (hj : j < k) (hl : l.length ≤ 41) {R : List S44} : ∀ (d i : Nat) (acc : List S44), i + d = j + 1 → acc.length + d ≤ 100000 → Ev (fun q => spec_chPairs.l0 q l k (acc ++ rowFrom l k j i d) ((j + 1 : Nat) : Int)) R → Ev (fun q => spec_chPairs.l1 q l k acc j i) R := by
  intro d
  induction d with
  | zero =>
    intro i acc h ha hE
    refine up ?_
    simp only [spec_chPairs.l1, if_neg (show ¬ (i : Int) ≤ (j : Int) by omega), wid (x := (j : Int) + 1) (by omega) (by omega)]
    simpa [rowFrom] using hE
  | succ d ih =>
    intro i acc h ha hE
    refine up ?_
    simp only [spec_chPairs.l1, if_pos (show (i : Int) ≤ (j : Int) by omega), if_pos (show (0 : Int) ≤ (i : Int) by omega), if_pos (show (i : Int) < (l.length : Int) by omega), if_pos (show (0 : Int) ≤ (j : Int) by omega), if_pos (show (j : Int) < (l.length : Int) by omega), if_pos (show (0 : Int) ≤ (k : Int) by omega), if_pos (show (k : Int) < (l.length : Int) by omega), wid (x := (i : Int) + 1) (by omega) (by omega)]
    unfold rowFrom at hE
    by_cases e : wrap64 (rd l i + rd l j) = rd l k
    · simp only [if_pos e, if_pos (show acc.length < 8796093022208 by omega)]
      rw [if_pos e, ← List.append_assoc] at hE
      exact ih (i + 1) _ (by omega) (by simp; omega) hE
    · simp only [if_neg e]
      rw [if_neg e, List.nil_append] at hE
      exact ih (i + 1) acc (by omega) (by omega) hE
theorem chP_l0 {l : List Int} {k : Nat} (hk : k < l.length) (hl : l.length ≤ 41) : ∀ (d j : Nat) (acc : List S44), j + d = k → acc.length + d * 41 ≤ 50000 → Ev (fun q => spec_chPairs.l0 q l k acc j) (acc ++ sumsFrom l k j d) := by
  intro d
  induction d with
  | zero =>
    intro j acc h ha
    refine up ?_
    simp only [spec_chPairs.l0, if_neg (show ¬ (j : Int) < (k : Int) by omega), sumsFrom, List.append_nil]
    exact Ev.now _
  | succ d ih =>
    intro j acc h ha
    have hr := row_len l k j (j + 1) 0
    refine up ?_
    simp only [spec_chPairs.l0, if_pos (show (j : Int) < (k : Int) by omega)]
    refine chP_l1 hk (by omega) hl (j + 1) 0 acc (by omega) (by omega) ?_
    have := ih (j + 1) (acc ++ rowFrom l k j 0 (j + 1)) (by omega) (by rw [List.length_append]; omega)
    rw [List.append_assoc] at this
    exact this
theorem chPairs_val {l : List Int} {k : Nat} (hk : k < l.length) (hl : l.length ≤ 41) : Ev (fun q => spec_chPairs.f q l k) (sumsOf l k) := by
  have := chP_l0 hk hl k 0 [] (by omega) (by simp; omega)
  simpa [spec_chPairs.f, sumsOf] using this
theorem iS_l1 {l : List Int} {k j : Nat} (hk : k < l.length) (hj : j < k) (hl : l.length ≤ 41) {R : List S44} : ∀ (d i : Nat) (acc : List S44), i + d = j + 1 → acc.length + d ≤ 100000 → Ev (fun q => impl_sums.l0 q l k (acc ++ rowFrom l k j i d) k ((j + 1 : Nat) : Int)) R → Ev (fun q => impl_sums.l1 q l k acc j k j ((j + 1 : Nat) : Int) i) R := by
  intro d
  induction d with
  | zero =>
    intro i acc h ha hE
    refine up ?_
    simp only [impl_sums.l1, if_neg (show ¬ (i : Int) < ((j + 1 : Nat) : Int) by omega), wid (x := (j : Int) + 1) (by omega) (by omega)]
    simpa [rowFrom] using hE
  | succ d ih =>
    intro i acc h ha hE
    refine up ?_
    simp only [impl_sums.l1, if_pos (show (i : Int) < ((j + 1 : Nat) : Int) by omega), if_pos (show (0 : Int) ≤ (i : Int) by omega), if_pos (show (i : Int) < (l.length : Int) by omega), if_pos (show (0 : Int) ≤ (j : Int) by omega), if_pos (show (j : Int) < (l.length : Int) by omega), if_pos (show (0 : Int) ≤ (k : Int) by omega), if_pos (show (k : Int) < (l.length : Int) by omega), wid (x := (i : Int) + 1) (by omega) (by omega)]
    unfold rowFrom at hE
    by_cases e : wrap64 (rd l i + rd l j) = rd l k
    · simp only [if_pos e, if_pos (show acc.length < 8796093022208 by omega)]
      rw [if_pos e, ← List.append_assoc] at hE
      exact ih (i + 1) _ (by omega) (by simp; omega) hE
    · simp only [if_neg e]
      rw [if_neg e, List.nil_append] at hE
      exact ih (i + 1) acc (by omega) (by omega) hE
theorem iS_l0 {l : List Int} {k : Nat} (hk : k < l.length) (hl : l.length ≤ 41) : ∀ (d j : Nat) (acc : List S44), j + d = k → acc.length + d * 41 ≤ 50000 → Ev (fun q => impl_sums.l0 q l k acc k j) (acc ++ sumsFrom l k j d) := by
  intro d
  induction d with
  | zero =>
    intro j acc h ha
    refine up ?_
    simp only [impl_sums.l0, if_neg (show ¬ (j : Int) < (k : Int) by omega), sumsFrom, List.append_nil]
    exact Ev.now _
  | succ d ih =>
    intro j acc h ha
    have hr := row_len l k j (j + 1) 0
    refine up ?_
    simp only [impl_sums.l0, if_pos (show (j : Int) < (k : Int) by omega), wid (x := (j : Int) + 1) (by omega) (by omega)]
    have := ih (j + 1) (acc ++ rowFrom l k j 0 (j + 1)) (by omega) (by rw [List.length_append]; omega)
    rw [List.append_assoc] at this
    exact iS_l1 hk (by omega) hl (j + 1) 0 acc (by omega) (by omega) this
theorem iSums_val {l : List Int} {k : Nat} (hk : k < l.length) (hl : l.length ≤ 41) : Ev (fun q => impl_sums.f q l k) (sumsOf l k) := by
  have := iS_l0 hk hl k 0 [] (by omega) (by simp; omega)
  simpa [impl_sums.f, sumsOf] using this
def allFrom (f : Nat → Bool) : Nat → Nat → Bool
  | _, 0 => true
  | i, d + 1 => f i && allFrom f (i + 1) d
theorem allFrom_iff {f : Nat → Bool} : ∀ d i, allFrom f i d = true ↔ ∀ j, i ≤ j → j < i + d → f j = true
  | 0, i => by simp [allFrom]; omega
  | d + 1, i => by
    unfold allFrom
    rw [Bool.and_eq_true, allFrom_iff d (i + 1)]
    constructor
    · rintro ⟨h1, h2⟩ j h3 h4
      by_cases e : j = i
      · rw [e]; exact h1
      · exact h2 j (by omega) (by omega)
    · intro h
      exact ⟨h i (by omega) (by omega), fun j h3 h4 => h j (by omega) (by omega)⟩
def sumB (l : List Int) (k : Nat) : Bool := decide (0 < (sumsOf l k).length)
def riseB (l : List Int) (k : Nat) : Bool := decide (rd l ((k : Int) - 1) < rd l k) && decide (rd l k ≤ 1000000)
def chainB (l : List Int) : Bool := (decide (1 ≤ l.length) && decide (l.length ≤ 41)) && ((rd l 0 == 1) && (allFrom (riseB l) 1 (l.length - 1) && allFrom (sumB l) 1 (l.length - 1)))
theorem implChain_loop {l : List Int} (hl : l.length ≤ 41) : ∀ (d k : Nat), 1 ≤ k → k + d = l.length → Ev (fun q => impl_IsChain.l0 q l k) (allFrom (riseB l) k d && allFrom (sumB l) k d) := by
  intro d
  induction d with
  | zero =>
    intro k h1 h
    refine up ?_
    simp only [impl_IsChain.l0, if_neg (show ¬ (k : Int) < (l.length : Int) by omega), allFrom]
    exact Ev.now _
  | succ d ih =>
    intro k h1 h
    refine up ?_
    simp only [impl_IsChain.l0, if_pos (show (k : Int) < (l.length : Int) by omega), if_pos (show (0 : Int) ≤ (k : Int) by omega), wid (x := (k : Int) - 1) (by omega) (by omega), if_pos (show (0 : Int) ≤ (k : Int) - 1 by omega), if_pos (show (k : Int) - 1 < (l.length : Int) by omega), wid (x := (k : Int) + 1) (by omega) (by omega), allFrom, riseB]
    by_cases h2 : rd l k ≤ rd l ((k : Int) - 1)
    · rw [if_pos_ev h2, show decide (rd l ((k : Int) - 1) < rd l k) = false from decide_eq_false (by omega)]; exact Ev.now _
    · rw [if_neg_ev h2, show decide (rd l ((k : Int) - 1) < rd l k) = true from decide_eq_true (by omega)]
      by_cases h3 : rd l k > 1000000
      · rw [if_pos_ev h3, show decide (rd l k ≤ 1000000) = false from decide_eq_false (by omega)]; exact Ev.now _
      · rw [if_neg_ev h3, show decide (rd l k ≤ 1000000) = true from decide_eq_true (by omega)]
        refine Ev.bind (iSums_val (by omega) hl) ?_
        have ih := ih (k + 1) (by omega) (by omega)
        by_cases h4 : ((sumsOf l k).length : Int) = 0
        · rw [if_pos_ev h4, show sumB l k = false from decide_eq_false (by omega), Bool.false_and, Bool.and_false]; exact Ev.now _
        · rw [if_neg_ev h4, show sumB l k = true from decide_eq_true (by omega)]
          simpa using ih
theorem implChain (l : List Int) : Ev (fun q => impl_IsChain.f q l) (chainB l) := by
  have j0t : Ev (fun q => impl_IsChain.j0 q l true) false := by refine up ?_; simp only [impl_IsChain.j0, if_true]; exact Ev.now _
  unfold chainB
  simp only [impl_IsChain.f, impl_in.f]
  by_cases h : 1 ≤ l.length ∧ l.length ≤ 41
  · have e1 : (decide (1 ≤ l.length) && decide (l.length ≤ 41)) = true := by simp; omega
    rw [e1]
    simp only [if_pos (show (l.length : Int) ≥ 1 by omega), Option.bind_some, show decide ((l.length : Int) ≤ 41) = true from decide_eq_true (by omega), if_true, if_pos (show (0 : Int) < (l.length : Int) by omega), Bool.true_and]
    by_cases h2 : rd l 0 = 1
    · simp only [h2, bne_self_eq_false, beq_self_eq_true, Bool.true_and]
      refine up ?_
      simp only [impl_IsChain.j0, Bool.false_eq_true, if_false]
      exact implChain_loop h.2 (l.length - 1) 1 (by omega) (by omega)
    · rw [show (rd l 0 != 1) = true by simp [h2], show (rd l 0 == 1) = false by simp [h2], Bool.false_and]; exact j0t
  · rw [show (decide (1 ≤ l.length) && decide (l.length ≤ 41)) = false by simp; omega, Bool.false_and]
    by_cases h2 : (l.length : Int) ≥ 1
    · simp only [if_pos h2, Option.bind_some, show decide ((l.length : Int) ≤ 41) = false from decide_eq_false (by omega), Bool.false_eq_true, if_false]; exact j0t
    · simp only [if_neg h2, Option.bind_some, Bool.false_eq_true, if_false]; exact j0t
theorem rising_loop {l : List Int} (hl : l.length ≤ 41) : ∀ (d k : Nat), 1 ≤ k → k + d = l.length → 1 ≤ rd l ((k : Int) - 1) → Ev (fun q => spec_l1Rising.l0 q l 1 1000000 l (l.length : Int) k) (allFrom (riseB l) k d) := by
  intro d
  induction d with
  | zero =>
    intro k h1 h _
    refine up ?_
    simp only [spec_l1Rising.l0, if_neg (show ¬ (k : Int) < (l.length : Int) by omega), allFrom]
    exact Ev.now _
  | succ d ih =>
    intro k h1 h h0
    refine up ?_
    simp only [spec_l1Rising.l0, if_pos (show (k : Int) < (l.length : Int) by omega), if_pos (show (0 : Int) ≤ (k : Int) by omega), l1In_val, Option.bind_some, if_pos (show (k : Int) > 0 by omega), wid (x := (k : Int) - 1) (by omega) (by omega), if_pos (show (0 : Int) ≤ (k : Int) - 1 by omega), if_pos (show (k : Int) - 1 < (l.length : Int) by omega), wid (x := (k : Int) + 1) (by omega) (by omega), allFrom, riseB]
    by_cases h3 : rd l k ≤ 1000000
    · by_cases h2 : rd l ((k : Int) - 1) < rd l k
      · simp only [show decide (1 ≤ rd l k) = true from decide_eq_true (by omega), Bool.and_self, if_true, if_neg (show ¬ rd l ((k : Int) - 1) ≥ rd l k by omega), show decide (rd l ((k : Int) - 1) < rd l k) = true from decide_eq_true h2, show decide (rd l k ≤ 1000000) = true from decide_eq_true h3, Bool.true_and]
        exact ih (k + 1) (by omega) (by omega) (by rw [show ((k + 1 : Nat) : Int) - 1 = k by omega]; omega)
      · rw [show decide (rd l ((k : Int) - 1) < rd l k) = false from decide_eq_false h2]
        simp only [Bool.false_and, if_pos (show rd l ((k : Int) - 1) ≥ rd l k by omega), ite_self]; exact Ev.now _
    · have e : (decide (1 ≤ rd l k) && decide (rd l k ≤ 1000000)) = false := by simp; omega
      simp only [e, Bool.false_eq_true, if_false, show decide (rd l k ≤ 1000000) = false from decide_eq_false h3, Bool.and_false, Bool.false_and]; exact Ev.now _
theorem specSum_loop {l : List Int} (hl : l.length ≤ 41) : ∀ (d k : Nat), k + d = l.length → Ev (fun q => spec_chGood.l0 q l k) (allFrom (sumB l) k d) := by
  intro d
  induction d with
  | zero =>
    intro k h
    refine up ?_
    simp only [spec_chGood.l0, if_neg (show ¬ (k : Int) < (l.length : Int) by omega), allFrom]
    exact Ev.now _
  | succ d ih =>
    intro k h
    refine up ?_
    simp only [spec_chGood.l0, if_pos (show (k : Int) < (l.length : Int) by omega), wid (x := (k : Int) + 1) (by omega) (by omega), allFrom]
    refine Ev.bind (chPairs_val (by omega) hl) ?_
    by_cases h4 : ((sumsOf l k).length : Int) = 0
    · rw [if_pos_ev h4, show sumB l k = false from decide_eq_false (by omega), Bool.false_and]; exact Ev.now _
    · rw [if_neg_ev h4, show sumB l k = true from decide_eq_true (by omega), Bool.true_and]
      exact ih (k + 1) (by omega)
theorem specChain (l : List Int) : Ev (fun q => spec_chGood.f q l) (chainB l) := by
  have j0t : Ev (fun q => spec_chGood.j0 q l true) false := by refine up ?_; simp only [spec_chGood.j0, if_true]; exact Ev.now _
  unfold chainB
  simp only [spec_chGood.f, l1In_val, Option.bind_some]
  by_cases h : 1 ≤ l.length ∧ l.length ≤ 41
  · have e1 : (decide (1 ≤ l.length) && decide (l.length ≤ 41)) = true := by simp; omega
    have e2 : (decide ((1 : Int) ≤ (l.length : Int)) && decide ((l.length : Int) ≤ 41)) = true := by simp; omega
    rw [e1]
    simp only [e2, if_true, if_pos (show (0 : Int) < (l.length : Int) by omega), Bool.true_and]
    by_cases h2 : rd l 0 = 1
    · simp only [if_pos h2]
      have hr : Ev (fun q => spec_l1Rising.f q l 1 1000000) (allFrom (riseB l) 1 (l.length - 1)) := by
        simp only [spec_l1Rising.f]
        refine up ?_
        simp only [spec_l1Rising.l0, if_pos (show (0 : Int) < (l.length : Int) by omega), if_pos (show (0 : Int) ≤ 0 by omega), h2, l1In_val, Option.bind_some, show (decide ((1 : Int) ≤ 1) && decide ((1 : Int) ≤ 1000000)) = true from rfl, if_true, if_neg (show ¬ (0 : Int) > 0 by omega), show wrap64 (0 + 1) = ((1 : Nat) : Int) by rw [wid (by omega) (by omega)]; rfl]
        exact rising_loop h.2 (l.length - 1) 1 (by omega) (by omega) (by show 1 ≤ rd l 0; omega)
      refine Ev.bind hr ?_
      rw [show (rd l 0 == 1) = true by simp [h2], Bool.true_and]
      cases h3 : allFrom (riseB l) 1 (l.length - 1) with
      | false => exact j0t
      | true =>
        rw [Bool.true_and]
        refine up ?_
        simp only [spec_chGood.j0, Bool.not_true, Bool.false_eq_true, if_false]
        exact specSum_loop h.2 (l.length - 1) 1 (by omega)
    · simp only [if_neg h2]
      rw [show (rd l 0 == 1) = false by simp [h2], Bool.false_and]; exact j0t
  · rw [show (decide (1 ≤ l.length) && decide (l.length ≤ 41)) = false by simp; omega, Bool.false_and]
    simp only [show (decide ((1 : Int) ≤ (l.length : Int)) && decide ((l.length : Int) ≤ 41)) = false by simp; omega, Bool.false_eq_true, if_false]
    exact j0t
theorem chainB_len {l : List Int} (h : chainB l = true) : 1 ≤ l.length ∧ l.length ≤ 41 := by
  unfold chainB at h
  simp only [Bool.and_eq_true, decide_eq_true_eq] at h
  exact h.1
theorem hasB_drop {l : List Int} {i : Nat} (h : i < l.length) (x : Int) : hasB (l.drop i) x = (decide (l[i] = x) || hasB (l.drop (i + 1)) x) := by
  rw [List.drop_eq_getElem_cons h]
  unfold hasB
  rw [List.contains_cons]
  congr 1
  by_cases e : l[i] = x
  · simp [e]
  · simp [e, Ne.symm e]
theorem hasB_end (l : List Int) (x : Int) : hasB (l.drop l.length) x = false := by rw [List.drop_length]; rfl
theorem l1Has_loop (x : Int) (l : List Int) (hl : l.length ≤ 17592186044416) : ∀ (d i : Nat), i + d = l.length → Ev (fun k => spec_l1Has.l0 k x l (l.length : Int) i) (hasB (l.drop i) x) := by
  intro d
  induction d with
  | zero =>
    intro i h
    refine up ?_
    simp only [spec_l1Has.l0, if_neg (show ¬ (i : Int) < (l.length : Int) by omega)]
    rw [show i = l.length by omega, hasB_end]
    exact Ev.now _
  | succ d ih =>
    intro i h
    have hi : i < l.length := by omega
    refine up ?_
    simp only [spec_l1Has.l0, if_pos (show (i : Int) < (l.length : Int) by omega), if_pos (show (0 : Int) ≤ (i : Int) by omega), rd_at hi, wid (x := (i : Int) + 1) (by omega) (by omega)]
    rw [hasB_drop hi]
    by_cases e : l[i] = x
    · simp only [e, if_true, decide_true, Bool.true_or]; exact Ev.now _
    · simp only [e, if_false, decide_false, Bool.false_or]; exact ih (i + 1) (by omega)
theorem l1Has_val (x : Int) (l : List Int) (hl : l.length ≤ 17592186044416) : Ev (fun k => spec_l1Has.f k l x) (hasB l x) := l1Has_loop x l hl l.length 0 (by omega)
/-- The sums of a Lucas chain: the difference is 0 or of the list. -/
def okS (l : List Int) (s : S44) : Bool := (s.f0 == s.f1) || hasB l (wrap64 (rd l s.f1 - rd l s.f0))
def lsums (l : List Int) (k : Nat) : List S44 := (sumsOf l k).filter (okS l)
theorem okS_np (l : List Int) (s : S44) : YtgpdmgbnefoegaaDf.np (lsP l) (lsPr s) = okS l s := by
  unfold YtgpdmgbnefoegaaDf.np lsP lsPr okS
  dsimp only
  cases h : (s.f0 == s.f1) <;> simp [bne, h]
theorem rdT_at {T : List S44} {i : Nat} (h : i < T.length) : rd_T44 T (i : Int) = T[i] := by
  unfold rd_T44
  rw [Int.toNat_natCast, List.getD_eq_getElem?_getD, List.getElem?_eq_getElem h]; rfl
theorem iLs_val {l : List Int} {k : Nat} (hk : k < l.length) (hl : l.length ≤ 41) : Ev (fun q => impl_lucasSums.f q l k) (lsums l k) := by
  simp only [impl_lucasSums.f]
  refine Ev.bind (iSums_val hk hl) ?_
  have h : ∀ s ∈ sumsOf l k, (0 ≤ s.f0 ∧ s.f0 < (l.length : Int)) ∧ 0 ≤ s.f1 ∧ s.f1 < (l.length : Int) := by
    intro s hs
    obtain ⟨a, b, h1, h2, rfl, _⟩ := mem_sums k 0 hs
    dsimp only
    omega
  rw [if_pos_ev h]
  have e : ((sumsOf l k).filter fun s => YtgpdmgbnefoegaaDf.np (lsP l) (lsPr s)) = lsums l k := by
    unfold lsums
    congr 1
    funext s
    exact okS_np l s
  rw [e]
  exact Ev.now _
theorem sLs_loop {l : List Int} (hl : l.length ≤ 41) (T : List S44) (hT : T.length ≤ 50000) (hin : ∀ s ∈ T, (0 ≤ s.f0 ∧ s.f0 < (l.length : Int)) ∧ 0 ≤ s.f1 ∧ s.f1 < (l.length : Int)) : ∀ (d i : Nat) (acc : List S44), i + d = T.length → acc.length + d ≤ 100000 → Ev (fun q => spec_luSums.l0 q l acc T (T.length : Int) i) (acc ++ (T.drop i).filter (okS l)) := by
  intro d
  induction d with
  | zero =>
    intro i acc h ha
    refine up ?_
    rw [List.drop_of_length_le (by omega)]
    simp only [spec_luSums.l0, if_neg (show ¬ (i : Int) < (T.length : Int) by omega), List.filter_nil, List.append_nil]
    exact Ev.now _
  | succ d ih =>
    intro i acc h ha
    have hi : i < T.length := by omega
    obtain ⟨⟨h1, h2⟩, h3, h4⟩ := hin T[i] (List.getElem_mem hi)
    refine up ?_
    simp only [spec_luSums.l0, if_pos (show (i : Int) < (T.length : Int) by omega), if_pos (show (0 : Int) ≤ (i : Int) by omega), rdT_at hi, wid (x := (i : Int) + 1) (by omega) (by omega), if_pos (show acc.length < 8796093022208 by omega), if_pos h1, if_pos h2, if_pos h3, if_pos h4]
    rw [List.drop_eq_getElem_cons hi, List.filter_cons]
    have ih1 := ih (i + 1) (acc ++ [T[i]]) (by omega) (by simp; omega)
    have ih0 := ih (i + 1) acc (by omega) (by omega)
    rw [List.append_assoc, List.singleton_append] at ih1
    by_cases e : (T[i]).f0 = (T[i]).f1
    · rw [if_pos_ev e, show okS l T[i] = true by unfold okS; simp [e]]
      exact ih1
    · rw [if_neg_ev e]
      refine Ev.bind (l1Has_val _ l (by omega)) ?_
      have e2 : okS l T[i] = hasB l (wrap64 (rd l (T[i]).f1 - rd l (T[i]).f0)) := by unfold okS; simp [e]
      rw [e2]
      cases hasB l (wrap64 (rd l (T[i]).f1 - rd l (T[i]).f0)) with
      | true => simp only [if_true]; exact ih1
      | false => simp only [Bool.false_eq_true, if_false]; exact ih0
theorem sLs_val {l : List Int} {k : Nat} (hk : k < l.length) (hl : l.length ≤ 41) : Ev (fun q => spec_luSums.f q l k) (lsums l k) := by
  simp only [spec_luSums.f]
  refine Ev.bind (chPairs_val hk hl) ?_
  have hn : (sumsOf l k).length ≤ 2000 := by have := sums_len l k k 0 (by omega); unfold sumsOf; omega
  have := sLs_loop hl (sumsOf l k) (by omega) (fun s hs => by
    obtain ⟨a, b, h1, h2, rfl, _⟩ := mem_sums k 0 hs
    dsimp only
    omega) (sumsOf l k).length 0 [] (by omega) (by simp; omega)
  simpa [lsums] using this
def lsB (l : List Int) (k : Nat) : Bool := decide (0 < (lsums l k).length)
def lucasB (l : List Int) : Bool := chainB l && allFrom (lsB l) 1 (l.length - 1)
theorem iLuc_loop {l : List Int} (hl : l.length ≤ 41) : ∀ (d k : Nat), k + d = l.length → Ev (fun q => impl_IsLucasChain.l0 q l k) (allFrom (lsB l) k d) := by
  intro d
  induction d with
  | zero =>
    intro k h
    refine up ?_
    simp only [impl_IsLucasChain.l0, if_neg (show ¬ (k : Int) < (l.length : Int) by omega), allFrom]
    exact Ev.now _
  | succ d ih =>
    intro k h
    refine up ?_
    simp only [impl_IsLucasChain.l0, if_pos (show (k : Int) < (l.length : Int) by omega), wid (x := (k : Int) + 1) (by omega) (by omega), allFrom]
    refine Ev.bind (iLs_val (by omega) hl) ?_
    by_cases h4 : ((lsums l k).length : Int) = 0
    · rw [if_pos_ev h4, show lsB l k = false from decide_eq_false (by omega), Bool.false_and]; exact Ev.now _
    · rw [if_neg_ev h4, show lsB l k = true from decide_eq_true (by omega), Bool.true_and]
      exact ih (k + 1) (by omega)
theorem implLuc (l : List Int) : Ev (fun q => impl_IsLucasChain.f q l) (lucasB l) := by
  simp only [impl_IsLucasChain.f, lucasB]
  refine Ev.bind (implChain l) ?_
  cases h : chainB l with
  | false => simp only [Bool.false_eq_true, if_false, Bool.false_and]; exact Ev.now _
  | true =>
    simp only [if_true, Bool.true_and]
    have := chainB_len h
    exact iLuc_loop this.2 (l.length - 1) 1 (by omega)
theorem sLuc_loop {l : List Int} (hl : l.length ≤ 41) : ∀ (d k : Nat), k + d = l.length → Ev (fun q => spec_luGood.l0 q l k) (allFrom (lsB l) k d) := by
  intro d
  induction d with
  | zero =>
    intro k h
    refine up ?_
    simp only [spec_luGood.l0, if_neg (show ¬ (k : Int) < (l.length : Int) by omega), allFrom]
    exact Ev.now _
  | succ d ih =>
    intro k h
    refine up ?_
    simp only [spec_luGood.l0, if_pos (show (k : Int) < (l.length : Int) by omega), wid (x := (k : Int) + 1) (by omega) (by omega), allFrom]
    refine Ev.bind (sLs_val (by omega) hl) ?_
    by_cases h4 : ((lsums l k).length : Int) = 0
    · rw [if_pos_ev h4, show lsB l k = false from decide_eq_false (by omega), Bool.false_and]; exact Ev.now _
    · rw [if_neg_ev h4, show lsB l k = true from decide_eq_true (by omega), Bool.true_and]
      exact ih (k + 1) (by omega)
theorem specLuc (l : List Int) : Ev (fun q => spec_luGood.f q l) (lucasB l) := by
  simp only [spec_luGood.f, lucasB]
  refine Ev.bind (specChain l) ?_
  cases h : chainB l with
  | false => simp only [Bool.false_eq_true, if_false, Bool.false_and]; exact Ev.now _
  | true =>
    simp only [if_true, Bool.true_and]
    have := chainB_len h
    exact sLuc_loop this.2 (l.length - 1) 1 (by omega)
theorem lucasB_len {l : List Int} (h : lucasB l = true) : 1 ≤ l.length ∧ l.length ≤ 41 := by
  unfold lucasB at h
  rw [Bool.and_eq_true] at h
  exact chainB_len h.1
/-- The last sum of a Lucas chain's number. -/
def lastS (l : List Int) (k : Nat) : S44 := rd_T44 (lsums l k) (((lsums l k).length : Int) - 1)
def stepsFrom (l : List Int) : Nat → Nat → List S44
  | _, 0 => []
  | k, d + 1 => lastS l k :: stepsFrom l (k + 1) d
def stepsL (l : List Int) : List S44 := stepsFrom l 1 (l.length - 1)
theorem stepsFrom_len (l : List Int) : ∀ d k, (stepsFrom l k d).length = d
  | 0, _ => rfl
  | d + 1, k => by simp [stepsFrom, stepsFrom_len l d (k + 1)]
theorem iSteps_loop {l : List Int} (hl : l.length ≤ 41) : ∀ (d k : Nat) (acc : List S44), k + d = l.length → allFrom (lsB l) k d = true → acc.length + d ≤ 1000 → Ev (fun q => impl_lucasSteps.l0 q l acc k) (acc ++ stepsFrom l k d) := by
  intro d
  induction d with
  | zero =>
    intro k acc h _ _
    refine up ?_
    simp only [impl_lucasSteps.l0, if_neg (show ¬ (k : Int) < (l.length : Int) by omega), stepsFrom, List.append_nil]
    exact Ev.now _
  | succ d ih =>
    intro k acc h ha hc
    unfold allFrom at ha
    rw [Bool.and_eq_true] at ha
    have hp : 0 < (lsums l k).length := of_decide_eq_true ha.1
    have hn : (lsums l k).length ≤ 2000 := by
      have h1 := sums_len l k k 0 (by omega)
      have h2 := List.length_filter_le (okS l) (sumsOf l k)
      unfold lsums sumsOf at *; omega
    refine up ?_
    simp only [impl_lucasSteps.l0, if_pos (show (k : Int) < (l.length : Int) by omega), wid (x := (k : Int) + 1) (by omega) (by omega), if_pos (show acc.length < 8796093022208 by omega)]
    refine Ev.bind (iLs_val (by omega) hl) ?_
    simp only [wid (x := ((lsums l k).length : Int) - 1) (by omega) (by omega), if_pos (show (0 : Int) ≤ ((lsums l k).length : Int) - 1 by omega), if_pos (show ((lsums l k).length : Int) - 1 < ((lsums l k).length : Int) by omega)]
    have := ih (k + 1) (acc ++ [lastS l k]) (by omega) ha.2 (by simp; omega)
    rw [List.append_assoc, List.singleton_append] at this
    exact this
theorem iSteps_val {l : List Int} (h : lucasB l = true) : Ev (fun q => impl_lucasSteps.f q l) (stepsL l) := by
  have hl := lucasB_len h
  unfold lucasB at h
  rw [Bool.and_eq_true] at h
  have := iSteps_loop hl.2 (l.length - 1) 1 [] (by omega) h.2 (by simp; omega)
  simpa [impl_lucasSteps.f, stepsL] using this
theorem sSteps_loop {l : List Int} (hl : l.length ≤ 41) : ∀ (d k : Nat) (acc : List S44), k + d = l.length → allFrom (lsB l) k d = true → acc.length + d ≤ 1000 → Ev (fun q => spec_luSteps.l0 q l acc k) (acc ++ stepsFrom l k d) := by
  intro d
  induction d with
  | zero =>
    intro k acc h _ _
    refine up ?_
    simp only [spec_luSteps.l0, if_neg (show ¬ (k : Int) < (l.length : Int) by omega), stepsFrom, List.append_nil]
    exact Ev.now _
  | succ d ih =>
    intro k acc h ha hc
    unfold allFrom at ha
    rw [Bool.and_eq_true] at ha
    have hp : 0 < (lsums l k).length := of_decide_eq_true ha.1
    have hn : (lsums l k).length ≤ 2000 := by
      have h1 := sums_len l k k 0 (by omega)
      have h2 := List.length_filter_le (okS l) (sumsOf l k)
      unfold lsums sumsOf at *; omega
    refine up ?_
    simp only [spec_luSteps.l0, if_pos (show (k : Int) < (l.length : Int) by omega), wid (x := (k : Int) + 1) (by omega) (by omega), if_pos (show acc.length < 8796093022208 by omega)]
    refine Ev.bind (sLs_val (by omega) hl) ?_
    simp only [wid (x := ((lsums l k).length : Int) - 1) (by omega) (by omega), if_pos (show (0 : Int) ≤ ((lsums l k).length : Int) - 1 by omega), if_pos (show ((lsums l k).length : Int) - 1 < ((lsums l k).length : Int) by omega)]
    have := ih (k + 1) (acc ++ [lastS l k]) (by omega) ha.2 (by simp; omega)
    rw [List.append_assoc, List.singleton_append] at this
    exact this
theorem sSteps_val {l : List Int} (h : lucasB l = true) : Ev (fun q => spec_luSteps.f q l) (stepsL l) := by
  have hl := lucasB_len h
  unfold lucasB at h
  rw [Bool.and_eq_true] at h
  have := sSteps_loop hl.2 (l.length - 1) 1 [] (by omega) h.2 (by simp; omega)
  simpa [spec_luSteps.f, stepsL] using this
theorem toIntS_loop (l : List Int) (hl : l.length ≤ 17592186044416) : ∀ (d : Nat) (i : Nat) (acc : List Int), i + d = l.length → acc.length = l.length → (∀ j, j < i → acc[j]? = l[j]?) → Ev (fun k => laws_toIntS.l0 k l acc i) l := by
  intro d
  induction d with
  | zero =>
    intro i acc h ha hj
    refine up ?_
    simp only [laws_toIntS.l0, if_neg (show ¬ (i : Int) < (l.length : Int) by omega)]
    have : acc = l := List.ext_getElem? fun j => by
      rcases Nat.lt_or_ge j i with h1 | h1
      · exact hj j h1
      · rw [List.getElem?_eq_none (by omega), List.getElem?_eq_none (by omega)]
    rw [this]
    exact Ev.now _
  | succ d ih =>
    intro i acc h ha hj
    refine up ?_
    simp only [laws_toIntS.l0, if_pos (show (i : Int) < (l.length : Int) by omega), if_pos (show (0 : Int) ≤ (i : Int) by omega), if_pos (show (i : Int) < (acc.length : Int) by omega), wid (x := (i : Int) + 1) (by omega) (by omega), Int.toNat_natCast]
    refine ih (i + 1) _ (by omega) (by simp [ha]) fun j hj2 => ?_
    by_cases e : j = i
    · subst e
      rw [List.getElem?_set_self (by omega)]
      unfold rd
      rw [Int.toNat_natCast, List.getD_eq_getElem?_getD, List.getElem?_eq_getElem (show j < l.length by omega)]; rfl
    · rw [List.getElem?_set_ne (by omega)]
      exact hj j (by omega)
theorem toIntS_val (l : List Int) (hl : l.length ≤ 17592186044416) : Ev (fun k => laws_toIntS.f k l) l := by
  simp only [laws_toIntS.f, if_pos (show (0 : Int) ≤ (l.length : Int) by omega), Int.toNat_natCast, if_pos (show l.length ≤ 35184372088832 by omega)]
  exact toIntS_loop l hl l.length 0 _ (by omega) (by simp) (fun j hj => by omega)
theorem eqIntS_loop (l : List Int) (hl : l.length ≤ 140737488351232) : ∀ (d : Nat) (i : Int), 0 ≤ i → i + d = l.length → Ev (fun k => laws_eqIntS.l0 k l l i) true := by
  intro d
  induction d with
  | zero =>
    intro i h0 h
    refine up ?_
    simp only [laws_eqIntS.l0, if_neg (show ¬ i < (l.length : Int) by omega)]
    exact Ev.now _
  | succ d ih =>
    intro i h0 h
    refine up ?_
    simp only [laws_eqIntS.l0, if_pos (show i < (l.length : Int) by omega), if_pos h0, if_true, wid (x := i + 1) (by omega) (by omega)]
    exact ih (i + 1) (by omega) (by omega)
theorem eqIntS_same (l : List Int) (hl : l.length ≤ 140737488351232) : Ev (fun k => laws_eqIntS.f k l l) true := by
  simp only [laws_eqIntS.f, if_true]
  exact eqIntS_loop l hl l.length 0 (by omega) (by omega)
def marks : Int → Nat → List Int
  | _, 0 => []
  | a, n + 1 => a :: marks (a + 1) n
theorem mark_loop : ∀ (rest done : List Int) (a : Int), done.length + rest.length ≤ 140737488351232 → 0 ≤ a → a ≤ 140737488351232 →
    Ev (fun k => laws_markIntS.l0 k (done ++ rest) (a + done.length) done.length) (a + done.length + rest.length, done ++ marks (a + done.length) rest.length) := by
  intro rest
  induction rest with
  | nil =>
    intro done a h h0 h1
    refine up ?_
    simp only [laws_markIntS.l0, List.append_nil, if_neg (show ¬ (done.length : Int) < (done.length : Int) by omega), List.length_nil, marks]
    exact ⟨0, fun _ _ => by simp⟩
  | cons x rest ih =>
    intro done a h h0 h1
    simp only [List.length_cons] at h
    refine up ?_
    have e : (done ++ x :: rest).set ((done.length : Int)).toNat (a + done.length) = (done ++ [a + done.length]) ++ rest := by
      rw [Int.toNat_natCast, List.set_append_right _ _ (Nat.le_refl _)]; simp
    simp only [laws_markIntS.l0, if_pos (show (done.length : Int) < ((done ++ x :: rest).length : Int) by simp; omega), if_pos (show (0 : Int) ≤ (done.length : Int) by omega), e, wid (x := a + done.length + 1) (by omega) (by omega), wid (x := (done.length : Int) + 1) (by omega) (by omega)]
    have := ih (done ++ [a + done.length]) a (by simp; omega) h0 h1
    simp only [List.length_append, List.length_singleton, List.append_assoc, List.singleton_append, Int.natCast_add, Int.natCast_one] at this
    simp only [List.append_assoc, List.singleton_append, List.length_cons, marks, Int.natCast_add, Int.natCast_one]
    rw [show a + (done.length : Int) + ((rest.length : Int) + 1) = a + ((done.length : Int) + 1) + rest.length by omega, show a + (done.length : Int) + 1 = a + ((done.length : Int) + 1) by omega]
    exact this
theorem mark_all (l : List Int) (hl : l.length ≤ 140737488351232) : Ev (fun k => laws_markIntS.f k l 1) (1 + l.length, marks 1 l.length) := by
  have := mark_loop l [] 1 (by simpa using hl) (by omega) (by omega)
  simpa [laws_markIntS.f] using this
theorem rdT_get {T : List S44} {i : Nat} (h : i < T.length) : rd_T44 T (i : Int) = T[i] := by
  unfold rd_T44
  rw [Int.toNat_natCast, List.getD_eq_getElem?_getD, List.getElem?_eq_getElem h]; rfl
theorem rdT_mid (a b : List S44) (x : S44) : rd_T44 (a ++ x :: b) (a.length : Int) = x := by
  rw [rdT_get (by simp)]; simp
theorem eqStepS_loop (T : List S44) (hl : T.length ≤ 140737488351232) : ∀ (d i : Nat), i + d = T.length → Ev (fun k => laws_eqStepS.l0 k T T i) true := by
  intro d
  induction d with
  | zero =>
    intro i h
    refine up ?_
    simp only [laws_eqStepS.l0, if_neg (show ¬ (i : Int) < (T.length : Int) by omega)]
    exact Ev.now _
  | succ d ih =>
    intro i h
    refine up ?_
    simp only [laws_eqStepS.l0, if_pos (show (i : Int) < (T.length : Int) by omega), if_pos (show (0 : Int) ≤ (i : Int) by omega), laws_eqStep.f, if_true, Option.bind_some, wid (x := (i : Int) + 1) (by omega) (by omega)]
    exact ih (i + 1) (by omega)
theorem eqStepS_same (T : List S44) (hl : T.length ≤ 140737488351232) : Ev (fun k => laws_eqStepS.f k T T) true := by
  simp only [laws_eqStepS.f, if_true]
  exact eqStepS_loop T hl T.length 0 (by omega)
def marksT : Int → Nat → List S44
  | _, 0 => []
  | a, n + 1 => ⟨a, a + 1⟩ :: marksT (a + 2) n
theorem marksT_length (a : Int) (n : Nat) : (marksT a n).length = n := by
  induction n generalizing a with
  | zero => rfl
  | succ n ih => simp [marksT, ih]
theorem markT_loop : ∀ (rest done : List S44) (a : Int), done.length + rest.length ≤ 140737488351232 → 0 ≤ a → a + 2 * rest.length ≤ 1407374883512320 →
    Ev (fun k => laws_markStepS.l0 k (done ++ rest) a done.length) (a + 2 * rest.length, done ++ marksT a rest.length) := by
  intro rest
  induction rest with
  | nil =>
    intro done a h h0 h1
    refine up ?_
    simp only [laws_markStepS.l0, List.append_nil, if_neg (show ¬ (done.length : Int) < (done.length : Int) by omega), List.length_nil, marksT]
    exact ⟨0, fun _ _ => by simp⟩
  | cons x rest ih =>
    intro done a h h0 h1
    simp only [List.length_cons] at h h1
    refine up ?_
    have e : ∀ y : S44, ∀ z : S44, (done ++ y :: rest).set ((done.length : Int)).toNat z = done ++ z :: rest := by
      intro y z
      rw [Int.toNat_natCast, List.set_append_right _ _ (Nat.le_refl _)]; simp
    simp only [laws_markStepS.l0, if_pos (show (done.length : Int) < ((done ++ x :: rest).length : Int) by simp; omega), if_pos (show (0 : Int) ≤ (done.length : Int) by omega), e, rdT_mid, Option.bind_some, wid (x := a + 1) (by omega) (by omega), wid (x := a + 1 + 1) (by omega) (by omega), wid (x := (done.length : Int) + 1) (by omega) (by omega)]
    have := ih (done ++ [⟨a, a + 1⟩]) (a + 2) (by simp; omega) (by omega) (by omega)
    simp only [List.length_append, List.length_singleton, List.append_assoc, List.singleton_append, Int.natCast_add, Int.natCast_one] at this
    simp only [List.length_cons, marksT, Int.natCast_add, Int.natCast_one]
    rw [show a + 2 * ((rest.length : Int) + 1) = a + 2 + 2 * rest.length by omega, show a + 1 + 1 = a + 2 by omega]
    exact this
theorem markT_all (T : List S44) (hl : T.length ≤ 140737488351232) : Ev (fun k => laws_markStepS.f k T 1) (1 + 2 * T.length, marksT 1 T.length) := by
  have := markT_loop T [] 1 (by simpa using hl) (by omega) (by omega)
  simpa [laws_markStepS.f] using this
theorem heldT_loop : ∀ (n : Nat) (done : List S44) (a : Int), done.length + n ≤ 140737488351232 → 0 ≤ a → a + 2 * n ≤ 1407374883512320 →
    Ev (fun k => laws_heldStepS.l0 k (done ++ marksT a n) a done.length) (a + 2 * n) := by
  intro n
  induction n with
  | zero =>
    intro done a h h0 h1
    refine up ?_
    simp only [laws_heldStepS.l0, marksT, List.append_nil, if_neg (show ¬ (done.length : Int) < (done.length : Int) by omega)]
    exact ⟨0, fun _ _ => by simp⟩
  | succ n ih =>
    intro done a h h0 h1
    refine up ?_
    simp only [marksT]
    simp only [laws_heldStepS.l0, if_pos (show (done.length : Int) < ((done ++ (⟨a, a + 1⟩ : S44) :: marksT (a + 2) n).length : Int) by simp [marksT_length]; omega), if_pos (show (0 : Int) ≤ (done.length : Int) by omega), rdT_mid, if_true, wid (x := a + 1) (by omega) (by omega), wid (x := a + 1 + 1) (by omega) (by omega), wid (x := (done.length : Int) + 1) (by omega) (by omega)]
    have := ih (done ++ [⟨a, a + 1⟩]) (a + 2) (by simp; omega) (by omega) (by omega)
    simp only [List.length_append, List.length_singleton, List.append_assoc, List.singleton_append, Int.natCast_add, Int.natCast_one] at this
    rw [show a + 2 * ((n + 1 : Nat) : Int) = a + 2 + 2 * n by omega, show a + 1 + 1 = a + 2 by omega]
    exact this
theorem heldT_all (n : Nat) (hl : n ≤ 140737488351232) : Ev (fun k => laws_heldStepS.f k (marksT 1 n) 1) (1 + 2 * n) := by
  have := heldT_loop n [] 1 (by simpa using hl) (by omega) (by omega)
  simpa [laws_heldStepS.f] using this
theorem both (l : List Int) : ∃ r b, r.length ≤ 1000 ∧ Ev (fun k => spec_LucasSteps.f k l) (r, b) ∧ Ev (fun k => impl_LucasSteps.f k l) (r, b) := by
  cases h : lucasB l with
  | true =>
    have hl := lucasB_len h
    refine ⟨stepsL l, true, by unfold stepsL; rw [stepsFrom_len]; omega, ?_, ?_⟩
    · simp only [spec_LucasSteps.f]
      have := specLuc l
      rw [h] at this
      refine Ev.bind this ?_
      simp only [if_true]
      exact Ev.bind (sSteps_val h) (Ev.now _)
    · simp only [impl_LucasSteps.f]
      have := implLuc l
      rw [h] at this
      refine Ev.bind this ?_
      simp only [if_true]
      exact Ev.bind (iSteps_val h) (Ev.now _)
  | false =>
    refine ⟨[], false, by simp, ?_, ?_⟩
    · simp only [spec_LucasSteps.f]
      have := specLuc l
      rw [h] at this
      refine Ev.bind this ?_
      simp only [Bool.false_eq_true, if_false]
      exact Ev.now _
    · simp only [impl_LucasSteps.f]
      have := implLuc l
      rw [h] at this
      refine Ev.bind this ?_
      simp only [Bool.false_eq_true, if_false]
      exact Ev.now _
theorem main : laws_FnExactLucasSteps.Pure := by
  intro l _ _ _
  by_cases hbig : (l.length : Int) > 1048576
  · exact ⟨0, by simp only [laws_FnExactLucasSteps.f, if_pos hbig]⟩
  obtain ⟨r, b, hl, hs, hi⟩ := both l
  refine Ev.rounds ?_
  simp only [laws_FnExactLucasSteps.f, if_neg hbig]
  have ht := toIntS_val l (by omega)
  refine Ev.bind ht ?_
  refine Ev.bind hs ?_
  refine Ev.bind ht ?_
  refine Ev.bind hi ?_
  refine Ev.bind (eqStepS_same r (by omega)) ?_
  simp only [if_true]
  refine up ?_
  simp only [laws_FnExactLucasSteps.j0, bne_self_eq_false, Bool.false_eq_true, if_false]
  refine Ev.bind ht ?_
  refine Ev.bind (eqIntS_same l (by omega)) ?_
  simp only [if_true]
  refine Ev.bind (mark_all l (by omega)) ?_
  simp only [if_neg (show ¬ (1 + (l.length : Int)) < 0 by omega)]
  refine Ev.bind (eqStepS_same r (by omega)) ?_
  simp only [if_true]
  refine up ?_
  simp only [laws_FnExactLucasSteps.j1, bne_self_eq_false, Bool.false_eq_true, if_false]
  refine Ev.bind (markT_all r (by omega)) ?_
  refine Ev.bind (heldT_all r.length (by omega)) ?_
  simp only [if_neg (show ¬ (1 + 2 * (r.length : Int)) < 0 by omega), if_true]
  refine Ev.bind ht ?_
  refine Ev.bind hi ?_
  refine Ev.bind (eqStepS_same r (by omega)) ?_
  simp only [if_true]
  refine up ?_
  simp only [laws_FnExactLucasSteps.j2, bne_self_eq_false, Bool.false_eq_true, if_false]
  refine Ev.bind (heldT_all r.length (by omega)) ?_
  simp only [if_neg (show ¬ (1 + 2 * (r.length : Int)) < 0 by omega), if_true]
  exact Ev.now _
end Go.Proofs.Ytgpdmgbnefoegaa.PureFnExactLucasStepsL
namespace Go.Proofs.Ytgpdmgbnefoegaa.Pure
open Go.Proofs.Ytgpdmgbnefoegaa.PFnExactLucasSteps
theorem FnExactLucasSteps : laws_FnExactLucasSteps.Pure := PureFnExactLucasStepsL.main
end Go.Proofs.Ytgpdmgbnefoegaa.Pure
