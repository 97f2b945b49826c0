/- The program's IsSubtractionChain returns what the reference's IsSubtractionChain returns, for all lists of the type []int (of at most 2^20 numbers, as the statement itself says; nothing else is asked). -/
import Derived.Test.YtemakeekfgaaeaaPFnExactIsSubtractionChainx1
import Derived.Test.YtemakeekfgaaeaaPFnExactIsSubtractionChainx2
import Derived.Test.YtemakeekfgaaeaaPFnExactIsSubtractionChainx3
import Derived.Test.YtemakeekfgaaeaaPFnExactIsSubtractionChainx4
set_option linter.unusedVariables false
set_option linter.unusedSimpArgs false
namespace Go.Proofs.Ytemakeekfgaaeaa.PureFnExactIsSubtractionChainL
open Go.RowKit Go.Proofs.Ytemakeekfgaaeaa.PFnExactIsSubtractionChain Go.Proofs.YtemakeekfgaaeaaW.PrintWords Go.Proofs.YtemakeekfgaaeaaW.PrintLast Go.Proofs.YtemakeekfgaaeaaW.PrintMore
theorem up {α : Type} {g : Nat → Option α} {r : α} (h : Ev (fun k => g (k + 1)) r) : Ev g r := by
  obtain ⟨K, h⟩ := h
  refine ⟨K + 1, fun k hk => ?_⟩
  obtain ⟨m, rfl⟩ : ∃ m, k = m + 1 := ⟨k - 1, by omega⟩
  exact h m (by omega)
theorem wid {x : Int} (h0 : -9223372036854775808 ≤ x) (h1 : x ≤ 9223372036854775807) : wrap64 x = x := by unfold wrap64; omega
theorem ite_yes {α : Type} {c : Prop} [Decidable c] {a b : α} (h : c) : (if c then a else b) = a := if_pos h
theorem ite_no {α : Type} {c : Prop} [Decidable c] {a b : α} (h : ¬ c) : (if c then a else b) = b := if_neg h
theorem evsome {α β : Type} {x : Option α} {a : α} {f : Nat → α → Option β} {r : β} (hx : x = some a) (h : Ev (fun k => f k a) r) : Ev (fun k => x.bind (f k)) r := by subst hx; exact h
theorem if_pos_ev {α : Type} {c : Prop} [Decidable c] {f g : Nat → Option α} (h : c) : (fun k => if c then f k else g k) = f := funext fun k => if_pos h
theorem if_neg_ev {α : Type} {c : Prop} [Decidable c] {f g : Nat → Option α} (h : ¬ c) : (fun k => if c then f k else g k) = g := funext fun k => if_neg h
theorem rd_at {l : List Int} {i : Nat} (h : i < l.length) : rd l (i : Int) = l[i] := by
  unfold rd
  rw [Int.toNat_natCast, List.getD_eq_getElem?_getD, List.getElem?_eq_getElem h]; rfl
theorem hasB_drop {l : List Int} {i : Nat} (h : i < l.length) (x : Int) : hasB (l.drop i) x = (decide (l[i] = x) || hasB (l.drop (i + 1)) x) := by
  rw [List.drop_eq_getElem_cons h]
  unfold hasB
  rw [List.contains_cons]
  congr 1
  by_cases e : l[i] = x
  · simp [e]
  · simp [e, Ne.symm e]
theorem hasB_end (l : List Int) (x : Int) : hasB (l.drop l.length) x = false := by rw [List.drop_length]; rfl
theorem l1Has_loop (x : Int) (l : List Int) (hl : l.length ≤ 17592186044416) : ∀ (d i : Nat), i + d = l.length → Ev (fun k => spec_l1Has.l0 k x l (l.length : Int) i) (hasB (l.drop i) x) := by
  intro d
  induction d with
  | zero =>
    intro i h
    refine up ?_
    simp only [spec_l1Has.l0, if_neg (show ¬ (i : Int) < (l.length : Int) by omega)]
    rw [show i = l.length by omega, hasB_end]
    exact Ev.now _
  | succ d ih =>
    intro i h
    have hi : i < l.length := by omega
    refine up ?_
    simp only [spec_l1Has.l0, if_pos (show (i : Int) < (l.length : Int) by omega), if_pos (show (0 : Int) ≤ (i : Int) by omega), rd_at hi, wid (x := (i : Int) + 1) (by omega) (by omega)]
    rw [hasB_drop hi]
    by_cases e : l[i] = x
    · simp only [e, if_true, decide_true, Bool.true_or]; exact Ev.now _
    · simp only [e, if_false, decide_false, Bool.false_or]; exact ih (i + 1) (by omega)
theorem l1Has_val (x : Int) (l : List Int) (hl : l.length ≤ 17592186044416) : Ev (fun k => spec_l1Has.f k l x) (hasB l x) := l1Has_loop x l hl l.length 0 (by omega)
theorem index_loop (x : Int) (l : List Int) (hl : l.length ≤ 17592186044416) : ∀ (d i : Nat), i + d = l.length → ∃ r, Ev (fun k => slices_Index_int_int.l0 k l x (l.length : Int) i) r ∧ decide (r ≥ 0) = hasB (l.drop i) x := by
  intro d
  induction d with
  | zero =>
    intro i h
    refine ⟨-1, up ?_, ?_⟩
    · simp only [slices_Index_int_int.l0, if_neg (show ¬ (i : Int) < (l.length : Int) by omega)]; exact Ev.now _
    · rw [show i = l.length by omega, hasB_end]; decide
  | succ d ih =>
    intro i h
    have hi : i < l.length := by omega
    rw [hasB_drop hi]
    by_cases e : x = l[i]
    · refine ⟨i, up ?_, ?_⟩
      · simp only [slices_Index_int_int.l0, if_pos (show (i : Int) < (l.length : Int) by omega), if_pos (show (0 : Int) ≤ (i : Int) by omega), rd_at hi, e, if_true]; exact Ev.now _
      · simp [e]
    · obtain ⟨r, hr, hd⟩ := ih (i + 1) (by omega)
      refine ⟨r, up ?_, ?_⟩
      · simp only [slices_Index_int_int.l0, if_pos (show (i : Int) < (l.length : Int) by omega), if_pos (show (0 : Int) ≤ (i : Int) by omega), rd_at hi, e, if_false, wid (x := (i : Int) + 1) (by omega) (by omega)]; exact hr
      · rw [hd]; simp [Ne.symm e]
theorem contains_val (x : Int) (l : List Int) (hl : l.length ≤ 17592186044416) : Ev (fun k => slices_Contains_int_int.f k l x) (hasB l x) := by
  obtain ⟨r, hr, hd⟩ := index_loop x l hl l.length 0 (by omega)
  rw [List.drop_zero] at hd
  simp only [slices_Contains_int_int.f, slices_Index_int_int.f]
  exact Ev.bind hr (by rw [hd]; exact Ev.now _)
def allIn (a b : Int) (l : List Int) : Bool := l.all fun d => decide (a ≤ d) && decide (d ≤ b)
theorem l1In_val (x a b : Int) : spec_l1In.f x a b = some (decide (a ≤ x) && decide (x ≤ b)) := by
  unfold spec_l1In.f
  by_cases h : a ≤ x
  · rw [if_pos h]; simp [h]
  · rw [if_neg h]; simp [h]
theorem l1All_loop (a b : Int) (l : List Int) (hl : l.length ≤ 17592186044416) : ∀ (d i : Nat), i + d = l.length → Ev (fun k => spec_l1All.l0 k a b l (l.length : Int) i) (allIn a b (l.drop i)) := by
  intro d
  induction d with
  | zero =>
    intro i h
    refine up ?_
    simp only [spec_l1All.l0, if_neg (show ¬ (i : Int) < (l.length : Int) by omega)]
    rw [List.drop_of_length_le (by omega)]
    exact Ev.now _
  | succ d ih =>
    intro i h
    have hi : i < l.length := by omega
    refine up ?_
    simp only [spec_l1All.l0, if_pos (show (i : Int) < (l.length : Int) by omega), if_pos (show (0 : Int) ≤ (i : Int) by omega), l1In_val, Option.bind_some, wid (x := (i : Int) + 1) (by omega) (by omega), rd_at hi]
    have e : allIn a b (l.drop i) = ((decide (a ≤ l[i]) && decide (l[i] ≤ b)) && allIn a b (l.drop (i + 1))) := by
      rw [List.drop_eq_getElem_cons hi]; rfl
    rw [e]
    cases hb : (decide (a ≤ l[i]) && decide (l[i] ≤ b)) with
    | true => simp only [if_true, Bool.true_and]; exact ih (i + 1) (by omega)
    | false => simp only [Bool.false_eq_true, if_false, Bool.false_and]; exact Ev.now _
theorem l1All_val (a b : Int) (l : List Int) (hl : l.length ≤ 17592186044416) : Ev (fun k => spec_l1All.f k l a b) (allIn a b l) := l1All_loop a b l hl l.length 0 (by omega)
theorem siMade_loop (n : Int) (l : List Int) (hl : l.length ≤ 1000000) : ∀ (d i : Nat), i + d = l.length → Ev (fun k => spec_siMade.l0 k l n l (l.length : Int) i) ((l.drop i).any fun a => hasB l (wrap64 (n - a)) || hasB l (wrap64 (n + a))) := by
  intro d
  induction d with
  | zero =>
    intro i h
    refine up ?_
    rw [List.drop_of_length_le (by omega)]
    simp only [spec_siMade.l0, if_neg (show ¬ (i : Int) < (l.length : Int) by omega)]
    exact Ev.now _
  | succ d ih =>
    intro i h
    have hi : i < l.length := by omega
    refine up ?_
    simp only [spec_siMade.l0, if_pos (show (i : Int) < (l.length : Int) by omega), if_pos (show (0 : Int) ≤ (i : Int) by omega), rd_at hi, wid (x := (i : Int) + 1) (by omega) (by omega)]
    rw [List.drop_eq_getElem_cons hi, List.any_cons]
    refine Ev.bind (l1Has_val _ l (by omega)) ?_
    cases h1 : hasB l (wrap64 (n - l[i])) with
    | true => simp only [if_true, Bool.true_or]; exact Ev.now _
    | false =>
      simp only [Bool.false_eq_true, if_false, Bool.false_or]
      refine Ev.bind (l1Has_val _ l (by omega)) ?_
      cases h2 : hasB l (wrap64 (n + l[i])) with
      | true => simp only [if_true, Bool.true_or]; exact Ev.now _
      | false => simp only [Bool.false_eq_true, if_false, Bool.false_or]; exact ih (i + 1) (by omega)
theorem siMade_val (n : Int) (l : List Int) (hl : l.length ≤ 1000000) : Ev (fun k => spec_siMade.f k l n) (madeB l n) := siMade_loop n l hl l.length 0 (by omega)
def okOne (n : Int) : Bool := decide (1 ≤ n) && decide (n ≤ 1000000)
theorem isNumber_val (n : Int) : impl_isNumber.f n = some (okOne n) := by
  simp only [impl_isNumber.f, impl_in.f, okOne]
  by_cases h : n ≥ 1
  · simp [h, show 1 ≤ n from h]
  · simp [h, show ¬ 1 ≤ n from h]
/-- Each number from the i-th on, d of them, is new and made of two before. -/
def chainFrom (l : List Int) : Nat → Nat → Bool
  | 0, _ => true
  | d + 1, i => if hasB (l.take i) (rd l i) = true then false else if madeB (l.take i) (rd l i) = true then chainFrom l d (i + 1) else false
def chainFromN (l : List Int) : Nat → Nat → Bool
  | 0, _ => true
  | d + 1, i => if okOne (rd l i) = true then (if hasB (l.take i) (rd l i) = true then false else if madeB (l.take i) (rd l i) = true then chainFromN l d (i + 1) else false) else false
theorem specChain_loop (l : List Int) (hl : l.length ≤ 1000000) : ∀ (d i : Nat), i + d = l.length → Ev (fun k => spec_IsSubtractionChain.l0 k l i) (chainFrom l d i) := by
  intro d
  induction d with
  | zero =>
    intro i h
    refine up ?_
    simp only [spec_IsSubtractionChain.l0, if_neg (show ¬ (i : Int) < (l.length : Int) by omega), chainFrom]
    exact Ev.now _
  | succ d ih =>
    intro i h
    refine up ?_
    simp only [spec_IsSubtractionChain.l0, if_pos (show (i : Int) < (l.length : Int) by omega), if_pos (show (0 : Int) ≤ (i : Int) by omega), if_pos (show (i : Int) ≤ (l.length : Int) by omega), Int.toNat_natCast, wid (x := (i : Int) + 1) (by omega) (by omega), chainFrom]
    have ht : (l.take i).length ≤ 1000000 := by rw [List.length_take]; omega
    refine Ev.bind (l1Has_val _ _ (by omega)) ?_
    cases h1 : hasB (l.take i) (rd l i) with
    | true => simp only [if_true]; exact Ev.now _
    | false =>
      simp only [Bool.false_eq_true, if_false]
      refine Ev.bind (siMade_val _ _ ht) ?_
      cases h2 : madeB (l.take i) (rd l i) with
      | true => simp only [if_true]; exact ih (i + 1) (by omega)
      | false => simp only [Bool.false_eq_true, if_false]; exact Ev.now _
theorem implChain_loop (l : List Int) (hl : l.length ≤ 1000000) : ∀ (d i : Nat), i + d = l.length → Ev (fun k => impl_IsSubtractionChain.l0 k l i) (chainFromN l d i) := by
  intro d
  induction d with
  | zero =>
    intro i h
    refine up ?_
    simp only [impl_IsSubtractionChain.l0, if_neg (show ¬ (i : Int) < (l.length : Int) by omega), chainFromN]
    exact Ev.now _
  | succ d ih =>
    intro i h
    refine up ?_
    simp only [impl_IsSubtractionChain.l0, if_pos (show (i : Int) < (l.length : Int) by omega), if_pos (show (0 : Int) ≤ (i : Int) by omega), if_pos (show (i : Int) ≤ (l.length : Int) by omega), Int.toNat_natCast, wid (x := (i : Int) + 1) (by omega) (by omega), chainFromN, isNumber_val, Option.bind_some]
    have ht : (l.take i).length ≤ 1000000 := by rw [List.length_take]; omega
    cases h0 : okOne (rd l i) with
    | false => simp only [Bool.false_eq_true, if_false]; exact Ev.now _
    | true =>
      simp only [if_true]
      refine Ev.bind (contains_val _ _ (by omega)) ?_
      cases h1 : hasB (l.take i) (rd l i) with
      | true => simp only [if_true]; exact Ev.now _
      | false =>
        simp only [Bool.false_eq_true, if_false, impl_madeOf.f, Option.bind_some]
        cases h2 : madeB (l.take i) (rd l i) with
        | true => simp only [if_true]; exact ih (i + 1) (by omega)
        | false => simp only [Bool.false_eq_true, if_false]; exact Ev.now _
theorem chain_same (l : List Int) : ∀ (d i : Nat), i + d = l.length → (∀ j, i ≤ j → j < l.length → okOne (rd l j) = true) → chainFromN l d i = chainFrom l d i
  | 0, _, _, _ => rfl
  | d + 1, i, h, ha => by
    simp only [chainFromN, chainFrom, ha i (Nat.le_refl _) (by omega), if_true]
    rw [chain_same l d (i + 1) (by omega) (fun j h1 h2 => ha j (by omega) h2)]
theorem chain_no (l : List Int) : ∀ (d i j : Nat), i + d = l.length → i ≤ j → j < l.length → okOne (rd l j) = false → chainFromN l d i = false
  | 0, i, j, h, h1, h2, _ => by omega
  | d + 1, i, j, h, h1, h2, hj => by
    simp only [chainFromN]
    by_cases e : i = j
    · subst e; simp [hj]
    · have := chain_no l d (i + 1) j (by omega) (by omega) h2 hj
      rw [this]
      split <;> (try split) <;> (try split) <;> rfl
theorem allIn_get {l : List Int} : allIn 1 1000000 l = true ↔ ∀ j, j < l.length → okOne (rd l j) = true := by
  unfold allIn
  rw [List.all_eq_true]
  constructor
  · intro h j hj
    rw [rd_at hj]
    exact h _ (List.getElem_mem hj)
  · intro h x hx
    obtain ⟨j, hj, rfl⟩ := List.getElem_of_mem hx
    have := h j hj
    rw [rd_at hj] at this
    exact this
/-- A subtraction chain. -/
def subChainB (l : List Int) : Bool := (decide (1 ≤ l.length) && decide (l.length ≤ 41)) && (allIn 1 1000000 l && (rd l 0 == 1 && chainFrom l (l.length - 1) 1))
theorem specSub (l : List Int) (hl : l.length ≤ 17592186044416) : Ev (fun k => spec_IsSubtractionChain.f k l) (subChainB l) := by
  have j0t : Ev (fun k => spec_IsSubtractionChain.j0 k l true) false := by refine up ?_; simp only [spec_IsSubtractionChain.j0, if_true]; exact Ev.now _
  simp only [spec_IsSubtractionChain.f, l1In_val, Option.bind_some]
  by_cases h : 1 ≤ l.length ∧ l.length ≤ 41
  · have e1 : (decide ((1 : Int) ≤ (l.length : Int)) && decide ((l.length : Int) ≤ 41)) = true := by simp; omega
    simp only [e1, if_true]
    have e2 : subChainB l = (allIn 1 1000000 l && (rd l 0 == 1 && chainFrom l (l.length - 1) 1)) := by simp [subChainB, h]
    rw [e2]
    refine Ev.bind (l1All_val 1 1000000 l hl) ?_
    cases h1 : allIn 1 1000000 l with
    | false => simp only [Bool.false_eq_true, if_false, Bool.false_and]; exact j0t
    | true =>
      simp only [if_true, Bool.true_and, if_pos (show (0 : Int) < (l.length : Int) by omega)]
      by_cases h2 : rd l 0 = 1
      · simp only [h2, bne_self_eq_false, beq_self_eq_true, Bool.true_and]
        refine up ?_
        simp only [spec_IsSubtractionChain.j0, Bool.false_eq_true, if_false]
        exact specChain_loop l (by omega) (l.length - 1) 1 (by omega)
      · have e3 : (rd l 0 != 1) = true := by simp [h2]
        have e4 : (rd l 0 == 1) = false := by simp [h2]
        rw [e3, e4, Bool.false_and]; exact j0t
  · have e1 : (decide ((1 : Int) ≤ (l.length : Int)) && decide ((l.length : Int) ≤ 41)) = false := by simp; omega
    have e2 : subChainB l = false := by unfold subChainB; rw [show (decide (1 ≤ l.length) && decide (l.length ≤ 41)) = false by simp; omega]; rfl
    simp only [e1, Bool.false_eq_true, if_false]
    rw [e2]; exact j0t
theorem implSub (l : List Int) : Ev (fun k => impl_IsSubtractionChain.f k l) (subChainB l) := by
  have j0t : Ev (fun k => impl_IsSubtractionChain.j0 k l true) false := by refine up ?_; simp only [impl_IsSubtractionChain.j0, if_true]; exact Ev.now _
  have e0 : impl_in.f (l.length : Int) 1 41 = some (decide ((1 : Int) ≤ (l.length : Int)) && decide ((l.length : Int) ≤ 41)) := by
    unfold impl_in.f
    by_cases h : (l.length : Int) ≥ 1
    · rw [if_pos h]; simp [h]
    · rw [if_neg h]; simp [h]
  simp only [impl_IsSubtractionChain.f, e0, Option.bind_some]
  by_cases h : 1 ≤ l.length ∧ l.length ≤ 41
  · have e1 : (decide ((1 : Int) ≤ (l.length : Int)) && decide ((l.length : Int) ≤ 41)) = true := by simp; omega
    simp only [e1, if_true, if_pos (show (0 : Int) < (l.length : Int) by omega)]
    have e2 : subChainB l = (allIn 1 1000000 l && (rd l 0 == 1 && chainFrom l (l.length - 1) 1)) := by simp [subChainB, h]
    rw [e2]
    by_cases h2 : rd l 0 = 1
    · have e3 : (rd l 0 != 1) = false := by simp [h2]
      have e4 : (rd l 0 == 1) = true := by simp [h2]
      rw [e3, e4, Bool.true_and]
      refine up ?_
      simp only [impl_IsSubtractionChain.j0, Bool.false_eq_true, if_false]
      have hloop := implChain_loop l (by omega) (l.length - 1) 1 (by omega)
      cases h1 : allIn 1 1000000 l with
      | true =>
        rw [chain_same l _ _ (by omega) (fun j _ hj => allIn_get.1 h1 j hj)] at hloop
        rw [Bool.true_and]; exact hloop
      | false =>
        obtain ⟨j, hj, hjo⟩ : ∃ j, j < l.length ∧ okOne (rd l j) = false := Classical.byContradiction fun hn => by
          have : allIn 1 1000000 l = true := allIn_get.2 fun j hj => by
            cases hc : okOne (rd l j) with
            | true => rfl
            | false => exact absurd ⟨j, hj, hc⟩ hn
          rw [this] at h1; cases h1
        have hj1 : 1 ≤ j := by
          rcases Nat.eq_zero_or_pos j with h0 | h0
          · subst h0
            rw [show ((0 : Nat) : Int) = 0 from rfl, h2] at hjo
            exact absurd hjo (by decide)
          · exact h0
        rw [chain_no l _ 1 j (by omega) hj1 hj hjo] at hloop
        rw [Bool.false_and]; exact hloop
    · have e3 : (rd l 0 != 1) = true := by simp [h2]
      have e4 : (rd l 0 == 1) = false := by simp [h2]
      rw [e3, e4, Bool.false_and, Bool.and_false]; exact j0t
  · have e1 : (decide ((1 : Int) ≤ (l.length : Int)) && decide ((l.length : Int) ≤ 41)) = false := by simp; omega
    have e2 : subChainB l = false := by unfold subChainB; rw [show (decide (1 ≤ l.length) && decide (l.length ≤ 41)) = false by simp; omega]; rfl
    simp only [e1, Bool.false_eq_true, if_false]
    rw [e2]; exact j0t
theorem toIntS_loop (l : List Int) (hl : l.length ≤ 17592186044416) : ∀ (d : Nat) (i : Nat) (acc : List Int), i + d = l.length → acc.length = l.length → (∀ j, j < i → acc[j]? = l[j]?) → Ev (fun k => laws_toIntS.l0 k l acc i) l := by
  intro d
  induction d with
  | zero =>
    intro i acc h ha hj
    refine up ?_
    simp only [laws_toIntS.l0, if_neg (show ¬ (i : Int) < (l.length : Int) by omega)]
    have : acc = l := List.ext_getElem? fun j => by
      rcases Nat.lt_or_ge j i with h1 | h1
      · exact hj j h1
      · rw [List.getElem?_eq_none (by omega), List.getElem?_eq_none (by omega)]
    rw [this]
    exact Ev.now _
  | succ d ih =>
    intro i acc h ha hj
    refine up ?_
    simp only [laws_toIntS.l0, if_pos (show (i : Int) < (l.length : Int) by omega), if_pos (show (0 : Int) ≤ (i : Int) by omega), if_pos (show (i : Int) < (acc.length : Int) by omega), wid (x := (i : Int) + 1) (by omega) (by omega), Int.toNat_natCast]
    refine ih (i + 1) _ (by omega) (by simp [ha]) fun j hj2 => ?_
    by_cases e : j = i
    · subst e
      rw [List.getElem?_set_self (by omega)]
      unfold rd
      rw [Int.toNat_natCast, List.getD_eq_getElem?_getD, List.getElem?_eq_getElem (show j < l.length by omega)]; rfl
    · rw [List.getElem?_set_ne (by omega)]
      exact hj j (by omega)
theorem toIntS_val (l : List Int) (hl : l.length ≤ 17592186044416) : Ev (fun k => laws_toIntS.f k l) l := by
  simp only [laws_toIntS.f, if_pos (show (0 : Int) ≤ (l.length : Int) by omega), Int.toNat_natCast, if_pos (show l.length ≤ 35184372088832 by omega)]
  exact toIntS_loop l hl l.length 0 _ (by omega) (by simp) (fun j hj => by omega)
theorem eqIntS_loop (l : List Int) (hl : l.length ≤ 140737488351232) : ∀ (d : Nat) (i : Int), 0 ≤ i → i + d = l.length → Ev (fun k => laws_eqIntS.l0 k l l i) true := by
  intro d
  induction d with
  | zero =>
    intro i h0 h
    refine up ?_
    simp only [laws_eqIntS.l0, if_neg (show ¬ i < (l.length : Int) by omega)]
    exact Ev.now _
  | succ d ih =>
    intro i h0 h
    refine up ?_
    simp only [laws_eqIntS.l0, if_pos (show i < (l.length : Int) by omega), if_pos h0, if_true, wid (x := i + 1) (by omega) (by omega)]
    exact ih (i + 1) (by omega) (by omega)
theorem eqIntS_same (l : List Int) (hl : l.length ≤ 140737488351232) : Ev (fun k => laws_eqIntS.f k l l) true := by
  simp only [laws_eqIntS.f, if_true]
  exact eqIntS_loop l hl l.length 0 (by omega) (by omega)
theorem main : laws_FnExactIsSubtractionChain.Pure := by
  intro l _ _ _
  by_cases hbig : (l.length : Int) > 1048576
  · exact ⟨0, by simp only [laws_FnExactIsSubtractionChain.f, if_pos hbig]⟩
  refine Ev.rounds ?_
  simp only [laws_FnExactIsSubtractionChain.f, if_neg hbig]
  have ht := toIntS_val l (by omega)
  refine Ev.bind ht ?_
  refine Ev.bind (specSub l (by omega)) ?_
  refine Ev.bind ht ?_
  refine Ev.bind (implSub l) ?_
  simp only [bne_self_eq_false, Bool.false_eq_true, if_false]
  refine Ev.bind ht ?_
  refine Ev.bind (eqIntS_same l (by omega)) ?_
  simp only [if_true]
  exact Ev.now _
end Go.Proofs.Ytemakeekfgaaeaa.PureFnExactIsSubtractionChainL
namespace Go.Proofs.Ytemakeekfgaaeaa.Pure
open Go.Proofs.Ytemakeekfgaaeaa.PFnExactIsSubtractionChain
theorem FnExactIsSubtractionChain : laws_FnExactIsSubtractionChain.Pure := PureFnExactIsSubtractionChainL.main
end Go.Proofs.Ytemakeekfgaaeaa.Pure
