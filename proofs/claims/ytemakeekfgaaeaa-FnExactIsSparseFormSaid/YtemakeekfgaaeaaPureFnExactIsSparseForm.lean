/- The program's IsSparseForm returns what the reference's IsSparseForm returns, for all lists of the type []int (of at most 2^20 numbers, as the statement itself says; nothing else is asked). -/
import Derived.Test.YtemakeekfgaaeaaPFnExactIsSparseFormx1
import Derived.Test.YtemakeekfgaaeaaPFnExactIsSparseFormx2
set_option linter.unusedVariables false
set_option linter.unusedSimpArgs false
namespace Go.Proofs.Ytemakeekfgaaeaa.PureFnExactIsSparseFormL
open Go.RowKit Go.Proofs.Ytemakeekfgaaeaa.PFnExactIsSparseForm Go.Proofs.YtemakeekfgaaeaaW.PrintWords Go.Proofs.YtemakeekfgaaeaaW.PrintLast Go.Proofs.YtemakeekfgaaeaaW.PrintMore
theorem up {α : Type} {g : Nat → Option α} {r : α} (h : Ev (fun k => g (k + 1)) r) : Ev g r := by
  obtain ⟨K, h⟩ := h
  refine ⟨K + 1, fun k hk => ?_⟩
  obtain ⟨m, rfl⟩ : ∃ m, k = m + 1 := ⟨k - 1, by omega⟩
  exact h m (by omega)
theorem wid {x : Int} (h0 : -9223372036854775808 ≤ x) (h1 : x ≤ 9223372036854775807) : wrap64 x = x := by unfold wrap64; omega
theorem ite_yes {α : Type} {c : Prop} [Decidable c] {a b : α} (h : c) : (if c then a else b) = a := if_pos h
theorem ite_no {α : Type} {c : Prop} [Decidable c] {a b : α} (h : ¬ c) : (if c then a else b) = b := if_neg h
theorem evsome {α β : Type} {x : Option α} {a : α} {f : Nat → α → Option β} {r : β} (hx : x = some a) (h : Ev (fun k => f k a) r) : Ev (fun k => x.bind (f k)) r := by subst hx; exact h
theorem if_pos_ev {α : Type} {c : Prop} [Decidable c] {f g : Nat → Option α} (h : c) : (fun k => if c then f k else g k) = f := funext fun k => if_pos h
theorem if_neg_ev {α : Type} {c : Prop} [Decidable c] {f g : Nat → Option α} (h : ¬ c) : (fun k => if c then f k else g k) = g := funext fun k => if_neg h
theorem rd_at {l : List Int} {i : Nat} (h : i < l.length) : rd l (i : Int) = l[i] := by
  unfold rd
  rw [Int.toNat_natCast, List.getD_eq_getElem?_getD, List.getElem?_eq_getElem h]; rfl
def allIn (a b : Int) (l : List Int) : Bool := l.all fun d => decide (a ≤ d) && decide (d ≤ b)
theorem l1In_val (x a b : Int) : spec_l1In.f x a b = some (decide (a ≤ x) && decide (x ≤ b)) := by
  unfold spec_l1In.f
  by_cases h : a ≤ x
  · rw [if_pos h]; simp [h]
  · rw [if_neg h]; simp [h]
theorem l1All_loop (a b : Int) (l : List Int) (hl : l.length ≤ 17592186044416) : ∀ (d i : Nat), i + d = l.length → Ev (fun k => spec_l1All.l0 k a b l (l.length : Int) i) (allIn a b (l.drop i)) := by
  intro d
  induction d with
  | zero =>
    intro i h
    refine up ?_
    simp only [spec_l1All.l0, if_neg (show ¬ (i : Int) < (l.length : Int) by omega)]
    rw [List.drop_of_length_le (by omega)]
    exact Ev.now _
  | succ d ih =>
    intro i h
    have hi : i < l.length := by omega
    refine up ?_
    simp only [spec_l1All.l0, if_pos (show (i : Int) < (l.length : Int) by omega), if_pos (show (0 : Int) ≤ (i : Int) by omega), l1In_val, Option.bind_some, wid (x := (i : Int) + 1) (by omega) (by omega), rd_at hi]
    have e : allIn a b (l.drop i) = ((decide (a ≤ l[i]) && decide (l[i] ≤ b)) && allIn a b (l.drop (i + 1))) := by
      rw [List.drop_eq_getElem_cons hi]; rfl
    rw [e]
    cases hb : (decide (a ≤ l[i]) && decide (l[i] ≤ b)) with
    | true => simp only [if_true, Bool.true_and]; exact ih (i + 1) (by omega)
    | false => simp only [Bool.false_eq_true, if_false, Bool.false_and]; exact Ev.now _
theorem l1All_val (a b : Int) (l : List Int) (hl : l.length ≤ 17592186044416) : Ev (fun k => spec_l1All.f k l a b) (allIn a b l) := l1All_loop a b l hl l.length 0 (by omega)
theorem siDigits_val (l : List Int) (hl : l.length ≤ 17592186044416) : Ev (fun k => spec_siDigits.f k l) (signedB l) := by
  unfold signedB
  by_cases h : l.length ≤ 24
  · simp only [spec_siDigits.f, if_pos (show (l.length : Int) ≤ 24 by omega), h, decide_true, Bool.true_and]
    exact Ev.bind (l1All_val (-1) 1 l hl) (Ev.now _)
  · simp only [spec_siDigits.f, if_neg (show ¬ (l.length : Int) ≤ 24 by omega), h, decide_false, Bool.false_and]
    exact Ev.now _
theorem signedB_len {l : List Int} (h : signedB l = true) : l.length ≤ 24 := by
  unfold signedB at h
  simp only [Bool.and_eq_true, decide_eq_true_eq] at h
  exact h.1
theorem signedB_mem {l : List Int} (h : signedB l = true) {d : Int} (hd : d ∈ l) : -1 ≤ d ∧ d ≤ 1 := by
  unfold signedB at h
  simp only [Bool.and_eq_true, decide_eq_true_eq, List.all_eq_true] at h
  exact h.2 d hd
/-- Of any w neighbours at most one is other than 0; the last such stands at 'last'. -/
def apartFrom (w : Int) : List Int → Int → Int → Bool
  | [], _, _ => true
  | d :: l, i, last => if d = 0 then apartFrom w l (i + 1) last else if i - last < w then false else apartFrom w l (i + 1) i
def lastOk (l : List Int) : Bool := if (l.length : Int) = 0 then true else (rd l ((l.length : Int) - 1) != 0)
def sparseB (w : Int) (l : List Int) : Bool := lastOk l && apartFrom w l 0 (-w)
theorem specApart_loop (w : Int) (hw0 : 2 ≤ w) (hw1 : w ≤ 6) (l : List Int) (hl : l.length ≤ 1000000) : ∀ (d i : Nat) (last : Int), i + d = l.length → -10 ≤ last → last ≤ i → Ev (fun k => spec_siApart.l0 k l w last l (l.length : Int) i) (apartFrom w (l.drop i) i last && lastOk l) := by
  intro d
  induction d with
  | zero =>
    intro i last h h0 h1
    refine up ?_
    rw [List.drop_of_length_le (by omega)]
    simp only [spec_siApart.l0, if_neg (show ¬ (i : Int) < (l.length : Int) by omega), apartFrom, Bool.true_and]
    unfold lastOk
    by_cases hz : (l.length : Int) = 0
    · simp only [hz, if_true]; exact Ev.now _
    · simp only [hz, if_false, wid (x := (l.length : Int) - 1) (by omega) (by omega), if_pos (show (0 : Int) ≤ (l.length : Int) - 1 by omega), if_pos (show (l.length : Int) - 1 < (l.length : Int) by omega)]
      exact Ev.now _
  | succ d ih =>
    intro i last h h0 h1
    have hi : i < l.length := by omega
    refine up ?_
    simp only [spec_siApart.l0, if_pos (show (i : Int) < (l.length : Int) by omega), if_pos (show (0 : Int) ≤ (i : Int) by omega), wid (x := (i : Int) + 1) (by omega) (by omega), wid (x := (i : Int) - last) (by omega) (by omega), rd_at hi]
    rw [List.drop_eq_getElem_cons hi]
    by_cases hz : l[i] = 0
    · simp only [hz, if_true, apartFrom]
      exact ih (i + 1) last (by omega) h0 (by omega)
    · simp only [hz, if_false, apartFrom]
      by_cases hc : (i : Int) - last < w
      · simp only [hc, if_true, Bool.false_and]; exact Ev.now _
      · simp only [hc, if_false]
        exact ih (i + 1) i (by omega) (by omega) (by omega)
theorem specApart (w : Int) (hw0 : 2 ≤ w) (hw1 : w ≤ 6) (l : List Int) (hl : l.length ≤ 1000000) : Ev (fun k => spec_siApart.f k l w) (sparseB w l) := by
  have := specApart_loop w hw0 hw1 l hl l.length 0 (-w) (by omega) (by omega) (by omega)
  unfold sparseB
  rw [Bool.and_comm]
  simpa [spec_siApart.f, wid (x := -w) (by omega) (by omega)] using this
theorem implSparse_loop (w : Int) (hw0 : 2 ≤ w) (hw1 : w ≤ 6) (l : List Int) (hl : l.length ≤ 1000000) : ∀ (d i : Nat) (last : Int), i + d = l.length → -10 ≤ last → last ≤ i → Ev (fun k => impl_sparse.l0 k w last l (l.length : Int) i) (apartFrom w (l.drop i) i last) := by
  intro d
  induction d with
  | zero =>
    intro i last h h0 h1
    refine up ?_
    rw [List.drop_of_length_le (by omega)]
    simp only [impl_sparse.l0, if_neg (show ¬ (i : Int) < (l.length : Int) by omega), apartFrom]
    exact Ev.now _
  | succ d ih =>
    intro i last h h0 h1
    have hi : i < l.length := by omega
    refine up ?_
    simp only [impl_sparse.l0, if_pos (show (i : Int) < (l.length : Int) by omega), if_pos (show (0 : Int) ≤ (i : Int) by omega), wid (x := (i : Int) + 1) (by omega) (by omega), wid (x := (i : Int) - last) (by omega) (by omega), rd_at hi]
    rw [List.drop_eq_getElem_cons hi]
    by_cases hz : l[i] = 0
    · simp only [hz, if_true, apartFrom]
      exact ih (i + 1) last (by omega) h0 (by omega)
    · simp only [hz, if_false, apartFrom]
      by_cases hc : (i : Int) - last < w
      · simp only [hc, if_true]; exact Ev.now _
      · simp only [hc, if_false]
        exact ih (i + 1) i (by omega) (by omega) (by omega)
theorem implSparse (w : Int) (hw0 : 2 ≤ w) (hw1 : w ≤ 6) (l : List Int) (hl : l.length ≤ 1000000) : Ev (fun k => impl_sparse.f k l w) (sparseB w l) := by
  have hloop := implSparse_loop w hw0 hw1 l hl l.length 0 (-w) (by omega) (by omega) (by omega)
  have go : ∀ b : Bool, (!b) = lastOk l → Ev (fun k => impl_sparse.j0 k l w b) (sparseB w l) := by
    intro b hb
    refine up ?_
    unfold sparseB
    rw [← hb]
    cases b with
    | true => simp only [impl_sparse.j0, if_true, Bool.not_true, Bool.false_and]; exact Ev.now _
    | false => simpa [impl_sparse.j0, wid (x := -w) (by omega) (by omega)] using hloop
  simp only [impl_sparse.f]
  by_cases hz : (l.length : Int) > 0
  · simp only [hz, if_true, wid (x := (l.length : Int) - 1) (by omega) (by omega), if_pos (show (0 : Int) ≤ (l.length : Int) - 1 by omega), if_pos (show (l.length : Int) - 1 < (l.length : Int) by omega)]
    refine go _ ?_
    unfold lastOk
    rw [if_neg (by omega)]; rfl
  · simp only [hz, if_false]
    refine go false ?_
    unfold lastOk
    rw [if_pos (by omega)]; rfl
theorem toIntS_loop (l : List Int) (hl : l.length ≤ 17592186044416) : ∀ (d : Nat) (i : Nat) (acc : List Int), i + d = l.length → acc.length = l.length → (∀ j, j < i → acc[j]? = l[j]?) → Ev (fun k => laws_toIntS.l0 k l acc i) l := by
  intro d
  induction d with
  | zero =>
    intro i acc h ha hj
    refine up ?_
    simp only [laws_toIntS.l0, if_neg (show ¬ (i : Int) < (l.length : Int) by omega)]
    have : acc = l := List.ext_getElem? fun j => by
      rcases Nat.lt_or_ge j i with h1 | h1
      · exact hj j h1
      · rw [List.getElem?_eq_none (by omega), List.getElem?_eq_none (by omega)]
    rw [this]
    exact Ev.now _
  | succ d ih =>
    intro i acc h ha hj
    refine up ?_
    simp only [laws_toIntS.l0, if_pos (show (i : Int) < (l.length : Int) by omega), if_pos (show (0 : Int) ≤ (i : Int) by omega), if_pos (show (i : Int) < (acc.length : Int) by omega), wid (x := (i : Int) + 1) (by omega) (by omega), Int.toNat_natCast]
    refine ih (i + 1) _ (by omega) (by simp [ha]) fun j hj2 => ?_
    by_cases e : j = i
    · subst e
      rw [List.getElem?_set_self (by omega)]
      unfold rd
      rw [Int.toNat_natCast, List.getD_eq_getElem?_getD, List.getElem?_eq_getElem (show j < l.length by omega)]; rfl
    · rw [List.getElem?_set_ne (by omega)]
      exact hj j (by omega)
theorem toIntS_val (l : List Int) (hl : l.length ≤ 17592186044416) : Ev (fun k => laws_toIntS.f k l) l := by
  simp only [laws_toIntS.f, if_pos (show (0 : Int) ≤ (l.length : Int) by omega), Int.toNat_natCast, if_pos (show l.length ≤ 35184372088832 by omega)]
  exact toIntS_loop l hl l.length 0 _ (by omega) (by simp) (fun j hj => by omega)
theorem eqIntS_loop (l : List Int) (hl : l.length ≤ 140737488351232) : ∀ (d : Nat) (i : Int), 0 ≤ i → i + d = l.length → Ev (fun k => laws_eqIntS.l0 k l l i) true := by
  intro d
  induction d with
  | zero =>
    intro i h0 h
    refine up ?_
    simp only [laws_eqIntS.l0, if_neg (show ¬ i < (l.length : Int) by omega)]
    exact Ev.now _
  | succ d ih =>
    intro i h0 h
    refine up ?_
    simp only [laws_eqIntS.l0, if_pos (show i < (l.length : Int) by omega), if_pos h0, if_true, wid (x := i + 1) (by omega) (by omega)]
    exact ih (i + 1) (by omega) (by omega)
theorem eqIntS_same (l : List Int) (hl : l.length ≤ 140737488351232) : Ev (fun k => laws_eqIntS.f k l l) true := by
  simp only [laws_eqIntS.f, if_true]
  exact eqIntS_loop l hl l.length 0 (by omega) (by omega)
theorem specForm (l : List Int) (hl : l.length ≤ 17592186044416) : Ev (fun k => spec_IsSparseForm.f k l) (if signedB l = true then (sparseB 2 l, true) else (false, false)) := by
  simp only [spec_IsSparseForm.f]
  refine Ev.bind (siDigits_val l hl) ?_
  by_cases h : signedB l = true
  · have hb := signedB_len h
    simp only [h, if_true]
    exact Ev.bind (specApart 2 (by omega) (by omega) l (by omega)) (Ev.now _)
  · simp only [h, if_false]; exact Ev.now _
theorem implForm (l : List Int) : Ev (fun k => impl_IsSparseForm.f k l) (if signedB l = true then (sparseB 2 l, true) else (false, false)) := by
  simp only [impl_IsSparseForm.f, impl_isDigits.f, Option.bind_some]
  by_cases h : signedB l = true
  · have hb := signedB_len h
    simp only [h, if_true]
    exact Ev.bind (implSparse 2 (by omega) (by omega) l (by omega)) (Ev.now _)
  · simp only [h, if_false]; exact Ev.now _
theorem main : laws_FnExactIsSparseForm.Pure := by
  intro l _ _ _
  by_cases hbig : (l.length : Int) > 1048576
  · exact ⟨0, by simp only [laws_FnExactIsSparseForm.f, if_pos hbig]⟩
  refine Ev.rounds ?_
  simp only [laws_FnExactIsSparseForm.f, if_neg hbig]
  have ht := toIntS_val l (by omega)
  refine Ev.bind ht ?_
  refine Ev.bind (specForm l (by omega)) ?_
  refine Ev.bind ht ?_
  refine Ev.bind (implForm l) ?_
  simp only [bne_self_eq_false, Bool.false_eq_true, if_false]
  refine up ?_
  simp only [laws_FnExactIsSparseForm.j0, Bool.false_eq_true, if_false]
  refine Ev.bind ht ?_
  refine Ev.bind (eqIntS_same l (by omega)) ?_
  simp only [if_true]
  exact Ev.now _
end Go.Proofs.Ytemakeekfgaaeaa.PureFnExactIsSparseFormL
namespace Go.Proofs.Ytemakeekfgaaeaa.Pure
open Go.Proofs.Ytemakeekfgaaeaa.PFnExactIsSparseForm
theorem FnExactIsSparseForm : laws_FnExactIsSparseForm.Pure := PureFnExactIsSparseFormL.main
end Go.Proofs.Ytemakeekfgaaeaa.Pure
