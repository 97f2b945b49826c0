/- The program's SignedText is the reference's: the statement FnExactSignedText holds for all lists. -/
import Derived.Test.YtemakeekfgaaeaaPFnExactSignedTextx1
import Derived.Test.YtemakeekfgaaeaaPFnExactSignedTextx2
set_option linter.unusedVariables false
set_option linter.unusedSimpArgs false
namespace Go.Proofs.Ytemakeekfgaaeaa.PureFnExactSignedTextL
open Go.RowKit Go.Proofs.Ytemakeekfgaaeaa.PFnExactSignedText Go.Proofs.YtemakeekfgaaeaaW.PrintWords Go.Proofs.YtemakeekfgaaeaaW.PrintLast Go.Proofs.YtemakeekfgaaeaaW.PrintMore
theorem up {α : Type} {g : Nat → Option α} {r : α} (h : Ev (fun k => g (k + 1)) r) : Ev g r := by
  obtain ⟨K, h⟩ := h
  refine ⟨K + 1, fun k hk => ?_⟩
  obtain ⟨m, rfl⟩ : ∃ m, k = m + 1 := ⟨k - 1, by omega⟩
  exact h m (by omega)
theorem wid {x : Int} (h0 : -9223372036854775808 ≤ x) (h1 : x ≤ 9223372036854775807) : wrap64 x = x := by unfold wrap64; omega
theorem ite_yes {α : Type} {c : Prop} [Decidable c] {a b : α} (h : c) : (if c then a else b) = a := if_pos h
theorem ite_no {α : Type} {c : Prop} [Decidable c] {a b : α} (h : ¬ c) : (if c then a else b) = b := if_neg h
theorem evsome {α β : Type} {x : Option α} {a : α} {f : Nat → α → Option β} {r : β} (hx : x = some a) (h : Ev (fun k => f k a) r) : Ev (fun k => x.bind (f k)) r := by subst hx; exact h
theorem if_pos_ev {α : Type} {c : Prop} [Decidable c] {f g : Nat → Option α} (h : c) : (fun k => if c then f k else g k) = f := funext fun k => if_pos h
theorem if_neg_ev {α : Type} {c : Prop} [Decidable c] {f g : Nat → Option α} (h : ¬ c) : (fun k => if c then f k else g k) = g := funext fun k => if_neg h
theorem rd_at {l : List Int} {i : Nat} (h : i < l.length) : rd l (i : Int) = l[i] := by
  unfold rd
  rw [Int.toNat_natCast, List.getD_eq_getElem?_getD, List.getElem?_eq_getElem h]; rfl
def allIn (a b : Int) (l : List Int) : Bool := l.all fun d => decide (a ≤ d) && decide (d ≤ b)
theorem l1In_val (x a b : Int) : spec_l1In.f x a b = some (decide (a ≤ x) && decide (x ≤ b)) := by
  unfold spec_l1In.f
  by_cases h : a ≤ x
  · rw [if_pos h]; simp [h]
  · rw [if_neg h]; simp [h]
theorem l1All_loop (a b : Int) (l : List Int) (hl : l.length ≤ 17592186044416) : ∀ (d i : Nat), i + d = l.length → Ev (fun k => spec_l1All.l0 k a b l (l.length : Int) i) (allIn a b (l.drop i)) := by
  intro d
  induction d with
  | zero =>
    intro i h
    refine up ?_
    simp only [spec_l1All.l0, if_neg (show ¬ (i : Int) < (l.length : Int) by omega)]
    rw [List.drop_of_length_le (by omega)]
    exact Ev.now _
  | succ d ih =>
    intro i h
    have hi : i < l.length := by omega
    refine up ?_
    simp only [spec_l1All.l0, if_pos (show (i : Int) < (l.length : Int) by omega), if_pos (show (0 : Int) ≤ (i : Int) by omega), l1In_val, Option.bind_some, wid (x := (i : Int) + 1) (by omega) (by omega), rd_at hi]
    have e : allIn a b (l.drop i) = ((decide (a ≤ l[i]) && decide (l[i] ≤ b)) && allIn a b (l.drop (i + 1))) := by
      rw [List.drop_eq_getElem_cons hi]; rfl
    rw [e]
    cases hb : (decide (a ≤ l[i]) && decide (l[i] ≤ b)) with
    | true => simp only [if_true, Bool.true_and]; exact ih (i + 1) (by omega)
    | false => simp only [Bool.false_eq_true, if_false, Bool.false_and]; exact Ev.now _
theorem l1All_val (a b : Int) (l : List Int) (hl : l.length ≤ 17592186044416) : Ev (fun k => spec_l1All.f k l a b) (allIn a b l) := l1All_loop a b l hl l.length 0 (by omega)
theorem toIntS_loop (l : List Int) (hl : l.length ≤ 17592186044416) : ∀ (d : Nat) (i : Nat) (acc : List Int), i + d = l.length → acc.length = l.length → (∀ j, j < i → acc[j]? = l[j]?) → Ev (fun k => laws_toIntS.l0 k l acc i) l := by
  intro d
  induction d with
  | zero =>
    intro i acc h ha hj
    refine up ?_
    simp only [laws_toIntS.l0, if_neg (show ¬ (i : Int) < (l.length : Int) by omega)]
    have : acc = l := List.ext_getElem? fun j => by
      rcases Nat.lt_or_ge j i with h1 | h1
      · exact hj j h1
      · rw [List.getElem?_eq_none (by omega), List.getElem?_eq_none (by omega)]
    rw [this]
    exact Ev.now _
  | succ d ih =>
    intro i acc h ha hj
    refine up ?_
    simp only [laws_toIntS.l0, if_pos (show (i : Int) < (l.length : Int) by omega), if_pos (show (0 : Int) ≤ (i : Int) by omega), if_pos (show (i : Int) < (acc.length : Int) by omega), wid (x := (i : Int) + 1) (by omega) (by omega), Int.toNat_natCast]
    refine ih (i + 1) _ (by omega) (by simp [ha]) fun j hj2 => ?_
    by_cases e : j = i
    · subst e
      rw [List.getElem?_set_self (by omega)]
      unfold rd
      rw [Int.toNat_natCast, List.getD_eq_getElem?_getD, List.getElem?_eq_getElem (show j < l.length by omega)]; rfl
    · rw [List.getElem?_set_ne (by omega)]
      exact hj j (by omega)
theorem toIntS_val (l : List Int) (hl : l.length ≤ 17592186044416) : Ev (fun k => laws_toIntS.f k l) l := by
  simp only [laws_toIntS.f, if_pos (show (0 : Int) ≤ (l.length : Int) by omega), Int.toNat_natCast, if_pos (show l.length ≤ 35184372088832 by omega)]
  exact toIntS_loop l hl l.length 0 _ (by omega) (by simp) (fun j hj => by omega)
theorem eqIntS_loop (l : List Int) (hl : l.length ≤ 140737488351232) : ∀ (d : Nat) (i : Int), 0 ≤ i → i + d = l.length → Ev (fun k => laws_eqIntS.l0 k l l i) true := by
  intro d
  induction d with
  | zero =>
    intro i h0 h
    refine up ?_
    simp only [laws_eqIntS.l0, if_neg (show ¬ i < (l.length : Int) by omega)]
    exact Ev.now _
  | succ d ih =>
    intro i h0 h
    refine up ?_
    simp only [laws_eqIntS.l0, if_pos (show i < (l.length : Int) by omega), if_pos h0, if_true, wid (x := i + 1) (by omega) (by omega)]
    exact ih (i + 1) (by omega) (by omega)
theorem eqIntS_same (l : List Int) (hl : l.length ≤ 140737488351232) : Ev (fun k => laws_eqIntS.f k l l) true := by
  simp only [laws_eqIntS.f, if_true]
  exact eqIntS_loop l hl l.length 0 (by omega) (by omega)
theorem ba_ext {a b : ByteArray} (h : a.data = b.data) : a = b := by cases a; cases b; simp only at h; rw [h]
theorem str_cons (x : Int) (xs : List Int) (hx : x = 45 ∨ x = 48 ∨ x = 43) : (if x = 45 then (⟨#[45]⟩ : ByteArray) else if x = 48 then ⟨#[48]⟩ else ⟨#[43]⟩) ++ strOfNums xs = strOfNums (x :: xs) := by
  apply ba_ext
  rw [ByteArray.data_append]
  rcases hx with rfl | rfl | rfl <;> simp [strOfNums]
theorem strOfNums_size (xs : List Int) : (strOfNums xs).size = xs.length := by
  show (strOfNums xs).data.size = _
  simp [strOfNums]
theorem sign_rd (d : Int) (hd : d = -1 ∨ d = 0 ∨ d = 1) : 0 ≤ wrap64 (d + 1) ∧ wrap64 (d + 1) < 3 ∧ rdOf ByteArray.empty [(⟨#[45]⟩ : ByteArray), ⟨#[48]⟩, ⟨#[43]⟩] (wrap64 (d + 1)) = (if signOf d = 45 then (⟨#[45]⟩ : ByteArray) else if signOf d = 48 then ⟨#[48]⟩ else ⟨#[43]⟩) := by
  rw [wid (by omega) (by omega)]
  rcases hd with rfl | rfl | rfl <;> exact ⟨by omega, by omega, by simp [rdOf, signOf]⟩
theorem signOf_mem (d : Int) : signOf d = 45 ∨ signOf d = 48 ∨ signOf d = 43 := by
  unfold signOf
  split
  · exact .inl rfl
  · split
    · exact .inr (.inl rfl)
    · exact .inr (.inr rfl)
theorem spec_loop (l : List Int) (hl : l.length ≤ 1048576) (hz : ∀ d ∈ l, d = -1 ∨ d = 0 ∨ d = 1) : ∀ (d i : Nat), i + d = l.length → Ev (fun k => spec_SignedText.l0 k (strOfNums ((l.take i).reverse.map signOf)) l (l.length : Int) i) (strOfNums (l.reverse.map signOf), true) := by
  intro d
  induction d with
  | zero =>
    intro i hi
    refine up ?_
    simp only [spec_SignedText.l0, if_neg (show ¬ (i : Int) < (l.length : Int) by omega), List.take_of_length_le (show l.length ≤ i by omega)]
    exact Ev.now _
  | succ d ih =>
    intro i hi
    have hlt : i < l.length := by omega
    obtain ⟨h0, h1, h2⟩ := sign_rd l[i] (hz _ (List.getElem_mem hlt))
    refine up ?_
    have hsz : (if signOf l[i] = 45 then (⟨#[45]⟩ : ByteArray) else if signOf l[i] = 48 then ⟨#[48]⟩ else ⟨#[43]⟩).size = 1 := by split; rfl; split <;> rfl
    have hsz2 : (strOfNums ((l.take i).reverse.map signOf)).size ≤ 1048576 := by rw [strOfNums_size]; simp; omega
    simp only [spec_SignedText.l0, Option.bind_some, rd_at hlt, if_pos (show (i : Int) < (l.length : Int) by omega), if_pos (show (0 : Int) ≤ (i : Int) by omega), if_pos h0, List.length_cons, List.length_nil, if_pos (show wrap64 (l[i] + 1) < ((0 + 1 + 1 + 1 : Nat) : Int) from h1), h2, hsz, if_pos (show 1 + (strOfNums ((l.take i).reverse.map signOf)).size ≤ 9223372036854775807 by omega), wid (x := (i : Int) + 1) (by omega) (by omega), str_cons _ _ (signOf_mem l[i])]
    have e : signOf l[i] :: (l.take i).reverse.map signOf = (l.take (i + 1)).reverse.map signOf := by
      have ht : l.take (i + 1) = l.take i ++ [l[i]] := by rw [List.take_add_one, List.getElem?_eq_getElem hlt]; rfl
      rw [ht, List.reverse_append, List.reverse_singleton, List.singleton_append, List.map_cons]
    rw [e]
    exact ih (i + 1) (by omega)
theorem digit_iff (l : List Int) : (l.all fun d => decide (-1 ≤ d) && decide (d ≤ 1)) = true → ∀ d ∈ l, d = -1 ∨ d = 0 ∨ d = 1 := fun h d hd => by
  have := List.all_eq_true.1 h d hd
  simp only [Bool.and_eq_true, decide_eq_true_eq] at this
  omega
theorem siDig (l : List Int) (hl : l.length ≤ 1048576) : Ev (fun k => spec_siDigits.f k l) (signedB l) := by
  unfold signedB
  simp only [spec_siDigits.f]
  by_cases h : (l.length : Int) ≤ 24
  · simp only [if_pos h, show decide (l.length ≤ 24) = true from decide_eq_true (by omega), Bool.true_and]
    refine Ev.bind (l1All_val (-1) 1 l (by omega)) ?_
    exact Ev.now _
  · simp only [if_neg h, show decide (l.length ≤ 24) = false from decide_eq_false (by omega), Bool.false_and]
    exact Ev.now _
theorem main : laws_FnExactSignedText.Pure := by
  intro l hl hc hw
  refine Ev.rounds ?_
  simp only [laws_FnExactSignedText.f]
  by_cases hb : (l.length : Int) > 1048576
  · exact ⟨0, fun k _ => by simp only [if_pos hb]⟩
  simp only [if_neg hb]
  have hn : l.length ≤ 1048576 := by omega
  have ht := toIntS_val l (by omega)
  refine Ev.bind ht ?_
  have key : ∃ r : ByteArray × Bool, Ev (fun k => spec_SignedText.f k l) r ∧ impl_SignedText.f l = some r := by
    cases hs : signedB l with
    | false =>
      refine ⟨(⟨#[]⟩, false), ?_, ?_⟩
      · simp only [spec_SignedText.f]
        have := siDig l hn
        rw [hs] at this
        refine Ev.bind this ?_
        simp only [Bool.false_eq_true, if_false]
        exact Ev.now _
      · simp only [impl_SignedText.f, impl_isDigits.f, hs, Option.bind_some, Bool.false_eq_true, if_false]
    | true =>
      have hs' := hs
      unfold signedB at hs'
      rw [Bool.and_eq_true] at hs'
      have hz := digit_iff l hs'.2
      have hd := siDig l hn
      rw [hs] at hd
      by_cases h0 : l.length = 0
      · refine ⟨(⟨#[61]⟩, true), ?_, ?_⟩
        · simp only [spec_SignedText.f]
          refine Ev.bind hd ?_
          simp only [if_true, if_pos (show (l.length : Int) = 0 by omega)]
          exact Ev.now _
        · simp only [impl_SignedText.f, impl_isDigits.f, hs, Option.bind_some, if_true, impl_signedText.f, if_pos h0]
      · refine ⟨(strOfNums (l.reverse.map signOf), true), ?_, ?_⟩
        · simp only [spec_SignedText.f]
          refine Ev.bind hd ?_
          simp only [if_true, if_neg (show ¬ (l.length : Int) = 0 by omega)]
          exact spec_loop l hn hz l.length 0 (by omega)
        · simp only [impl_SignedText.f, impl_isDigits.f, hs, Option.bind_some, if_true, impl_signedText.f, if_neg h0, if_pos (And.intro hc hz)]
  obtain ⟨r, hsp, him⟩ := key
  refine Ev.bind hsp ?_
  refine Ev.bind ht ?_
  simp only [him, Option.bind_some, if_true, bne_self_eq_false]
  refine up ?_
  simp only [laws_FnExactSignedText.j0, Bool.false_eq_true, if_false]
  refine Ev.bind ht ?_
  refine Ev.bind (eqIntS_same l (by omega)) ?_
  simp only [if_true]
  exact Ev.now _
end Go.Proofs.Ytemakeekfgaaeaa.PureFnExactSignedTextL
namespace Go.Proofs.Ytemakeekfgaaeaa.Pure
open Go.Proofs.Ytemakeekfgaaeaa.PFnExactSignedText
theorem FnExactSignedText : laws_FnExactSignedText.Pure := PureFnExactSignedTextL.main
end Go.Proofs.Ytemakeekfgaaeaa.Pure
