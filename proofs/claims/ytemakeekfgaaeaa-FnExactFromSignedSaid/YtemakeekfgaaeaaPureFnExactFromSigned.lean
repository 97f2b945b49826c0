/- The program's FromSigned returns what the reference's FromSigned returns, for all lists of the type []int (of at most 2^20 numbers, as the statement itself says; nothing else is asked). -/
import Derived.Test.YtemakeekfgaaeaaPFnExactFromSignedx1
import Derived.Test.YtemakeekfgaaeaaPFnExactFromSignedx2
set_option linter.unusedVariables false
set_option linter.unusedSimpArgs false
namespace Go.Proofs.Ytemakeekfgaaeaa.PureFnExactFromSignedL
open Go.RowKit Go.Proofs.Ytemakeekfgaaeaa.PFnExactFromSigned Go.Proofs.YtemakeekfgaaeaaW.PrintWords Go.Proofs.YtemakeekfgaaeaaW.PrintLast Go.Proofs.YtemakeekfgaaeaaW.PrintMore
theorem up {α : Type} {g : Nat → Option α} {r : α} (h : Ev (fun k => g (k + 1)) r) : Ev g r := by
  obtain ⟨K, h⟩ := h
  refine ⟨K + 1, fun k hk => ?_⟩
  obtain ⟨m, rfl⟩ : ∃ m, k = m + 1 := ⟨k - 1, by omega⟩
  exact h m (by omega)
theorem wid {x : Int} (h0 : -9223372036854775808 ≤ x) (h1 : x ≤ 9223372036854775807) : wrap64 x = x := by unfold wrap64; omega
theorem ite_yes {α : Type} {c : Prop} [Decidable c] {a b : α} (h : c) : (if c then a else b) = a := if_pos h
theorem ite_no {α : Type} {c : Prop} [Decidable c] {a b : α} (h : ¬ c) : (if c then a else b) = b := if_neg h
theorem evsome {α β : Type} {x : Option α} {a : α} {f : Nat → α → Option β} {r : β} (hx : x = some a) (h : Ev (fun k => f k a) r) : Ev (fun k => x.bind (f k)) r := by subst hx; exact h
theorem if_pos_ev {α : Type} {c : Prop} [Decidable c] {f g : Nat → Option α} (h : c) : (fun k => if c then f k else g k) = f := funext fun k => if_pos h
theorem if_neg_ev {α : Type} {c : Prop} [Decidable c] {f g : Nat → Option α} (h : ¬ c) : (fun k => if c then f k else g k) = g := funext fun k => if_neg h
theorem rd_at {l : List Int} {i : Nat} (h : i < l.length) : rd l (i : Int) = l[i] := by
  unfold rd
  rw [Int.toNat_natCast, List.getD_eq_getElem?_getD, List.getElem?_eq_getElem h]; rfl
def allIn (a b : Int) (l : List Int) : Bool := l.all fun d => decide (a ≤ d) && decide (d ≤ b)
theorem l1In_val (x a b : Int) : spec_l1In.f x a b = some (decide (a ≤ x) && decide (x ≤ b)) := by
  unfold spec_l1In.f
  by_cases h : a ≤ x
  · rw [if_pos h]; simp [h]
  · rw [if_neg h]; simp [h]
theorem l1All_loop (a b : Int) (l : List Int) (hl : l.length ≤ 17592186044416) : ∀ (d i : Nat), i + d = l.length → Ev (fun k => spec_l1All.l0 k a b l (l.length : Int) i) (allIn a b (l.drop i)) := by
  intro d
  induction d with
  | zero =>
    intro i h
    refine up ?_
    simp only [spec_l1All.l0, if_neg (show ¬ (i : Int) < (l.length : Int) by omega)]
    rw [List.drop_of_length_le (by omega)]
    exact Ev.now _
  | succ d ih =>
    intro i h
    have hi : i < l.length := by omega
    refine up ?_
    simp only [spec_l1All.l0, if_pos (show (i : Int) < (l.length : Int) by omega), if_pos (show (0 : Int) ≤ (i : Int) by omega), l1In_val, Option.bind_some, wid (x := (i : Int) + 1) (by omega) (by omega), rd_at hi]
    have e : allIn a b (l.drop i) = ((decide (a ≤ l[i]) && decide (l[i] ≤ b)) && allIn a b (l.drop (i + 1))) := by
      rw [List.drop_eq_getElem_cons hi]; rfl
    rw [e]
    cases hb : (decide (a ≤ l[i]) && decide (l[i] ≤ b)) with
    | true => simp only [if_true, Bool.true_and]; exact ih (i + 1) (by omega)
    | false => simp only [Bool.false_eq_true, if_false, Bool.false_and]; exact Ev.now _
theorem l1All_val (a b : Int) (l : List Int) (hl : l.length ≤ 17592186044416) : Ev (fun k => spec_l1All.f k l a b) (allIn a b l) := l1All_loop a b l hl l.length 0 (by omega)
theorem siDigits_val (l : List Int) (hl : l.length ≤ 17592186044416) : Ev (fun k => spec_siDigits.f k l) (signedB l) := by
  unfold signedB
  by_cases h : l.length ≤ 24
  · simp only [spec_siDigits.f, if_pos (show (l.length : Int) ≤ 24 by omega), h, decide_true, Bool.true_and]
    exact Ev.bind (l1All_val (-1) 1 l hl) (Ev.now _)
  · simp only [spec_siDigits.f, if_neg (show ¬ (l.length : Int) ≤ 24 by omega), h, decide_false, Bool.false_and]
    exact Ev.now _
theorem signedB_len {l : List Int} (h : signedB l = true) : l.length ≤ 24 := by
  unfold signedB at h
  simp only [Bool.and_eq_true, decide_eq_true_eq] at h
  exact h.1
theorem signedB_mem {l : List Int} (h : signedB l = true) {d : Int} (hd : d ∈ l) : -1 ≤ d ∧ d ≤ 1 := by
  unfold signedB at h
  simp only [Bool.and_eq_true, decide_eq_true_eq, List.all_eq_true] at h
  exact h.2 d hd
/-- The number that digits stand for. -/
def val : List Int → Int
  | [] => 0
  | d :: l => d + 2 * val l
def small (l : List Int) : Prop := ∀ d ∈ l, -31 ≤ d ∧ d ≤ 31
theorem small_tail {d : Int} {l : List Int} (h : small (d :: l)) : small l := fun x hx => h x (List.mem_cons_of_mem _ hx)
theorem p2 (n : Nat) : (2 : Int) ^ (n + 1) = 2 * 2 ^ n := by rw [Int.pow_succ]; omega
theorem p2_pos (n : Nat) : (1 : Int) ≤ 2 ^ n := by
  induction n with
  | zero => decide
  | succ n ih => rw [p2]; omega
theorem p2_le {f : Nat} (hf : f ≤ 24) : (2 : Int) ^ f ≤ 16777216 := by
  have h := Nat.pow_le_pow_right (n := 2) (by omega) hf
  have e : ((2 ^ f : Nat) : Int) = (2 : Int) ^ f := by simp
  omega
theorem val_bound : ∀ (l : List Int), small l → -(31 * (2 ^ l.length - 1)) ≤ val l ∧ val l ≤ 31 * (2 ^ l.length - 1)
  | [], _ => by simp [val]
  | d :: l, h => by
    have hd := h d (List.mem_cons_self ..)
    have ih := val_bound l (small_tail h)
    have e := p2 l.length
    simp only [val, List.length_cons]
    omega
theorem val_big {l : List Int} (h : small l) (hl : l.length ≤ 24) : -520093696 ≤ val l ∧ val l ≤ 520093696 := by
  have := val_bound l h
  have := p2_le hl
  omega
theorem standW_val : ∀ (l : List Int), small l → l.length ≤ 24 → standW l = val l
  | [], _, _ => rfl
  | d :: l, h, hl => by
    have hd := h d (List.mem_cons_self ..)
    simp only [List.length_cons] at hl
    have ih := standW_val l (small_tail h) (by omega)
    have hb := val_big (small_tail h) (by omega)
    show wrap64 (wrap64 (2 * standW l) + d) = d + 2 * val l
    rw [ih, wid (x := 2 * val l) (by omega) (by omega), wid (x := 2 * val l + d) (by omega) (by omega)]
    omega
theorem standing_val {l : List Int} (h : small l) (hl : l.length ≤ 24) : impl_standing.f l = some (val l) := by
  unfold impl_standing.f
  rw [if_pos (by omega), standW_val l h hl]
theorem shl_small_val {d : Int} {i : Nat} (h0 : -31 ≤ d) (h1 : d ≤ 31) (hi : i ≤ 24) : shl .i64 d (i : Int) = d * 2 ^ i := by
  unfold shl
  rw [Int.toNat_natCast, Nat.min_eq_left (show i ≤ IntKind.i64.bits by simp [IntKind.bits]; omega)]
  have hp := p2_le hi
  have hq := p2_pos i
  have hb : -520093696 ≤ d * 2 ^ i ∧ d * 2 ^ i ≤ 520093696 := by
    constructor
    · have := Int.mul_le_mul_of_nonneg_right h0 (show (0 : Int) ≤ 2 ^ i by omega); omega
    · have := Int.mul_le_mul_of_nonneg_right h1 (show (0 : Int) ≤ 2 ^ i by omega); omega
  generalize d * 2 ^ i = x at hb
  simp only [IntKind.wrap, IntKind.bits, IntKind.signed]
  simp
  omega
theorem siSum_loop (l : List Int) (h : small l) (hl : l.length ≤ 24) : ∀ (d i : Nat) (acc : Int), i + d = l.length → -(31 * (2 ^ i - 1)) ≤ acc → acc ≤ 31 * (2 ^ i - 1) → Ev (fun k => spec_siSum.l0 k acc l (l.length : Int) i) (acc + 2 ^ i * val (l.drop i)) := by
  intro d
  induction d with
  | zero =>
    intro i acc hi h0 h1
    refine up ?_
    rw [List.drop_of_length_le (by omega)]
    simp only [spec_siSum.l0, if_neg (show ¬ (i : Int) < (l.length : Int) by omega), val, Int.mul_zero, Int.add_zero]
    exact Ev.now _
  | succ d ih =>
    intro i acc hi h0 h1
    have hlt : i < l.length := by omega
    have hd := h l[i] (List.getElem_mem hlt)
    have hp := p2_le (f := i) (by omega)
    have hq := p2_pos i
    have e := p2 i
    have hx : -(31 * 2 ^ i) ≤ l[i] * 2 ^ i ∧ l[i] * 2 ^ i ≤ 31 * 2 ^ i := by
      constructor
      · have := Int.mul_le_mul_of_nonneg_right hd.1 (show (0 : Int) ≤ 2 ^ i by omega); omega
      · exact Int.mul_le_mul_of_nonneg_right hd.2 (show (0 : Int) ≤ 2 ^ i by omega)
    refine up ?_
    simp only [spec_siSum.l0, if_pos (show (i : Int) < (l.length : Int) by omega), if_pos (show (0 : Int) ≤ (i : Int) by omega), rd_at hlt, shl_small_val hd.1 hd.2 (show i ≤ 24 by omega), wid (x := acc + l[i] * 2 ^ i) (by omega) (by omega), wid (x := (i : Int) + 1) (by omega) (by omega)]
    have := ih (i + 1) (acc + l[i] * 2 ^ i) (by omega) (by omega) (by omega)
    rw [List.drop_eq_getElem_cons hlt, val]
    have e2 : acc + 2 ^ i * (l[i] + 2 * val (l.drop (i + 1))) = acc + l[i] * 2 ^ i + 2 ^ (i + 1) * val (l.drop (i + 1)) := by rw [e]; grind
    rw [e2]; exact this
theorem siSum_val {l : List Int} (h : small l) (hl : l.length ≤ 24) : Ev (fun k => spec_siSum.f k l) (val l) := by
  have := siSum_loop l h hl l.length 0 0 (by omega) (by decide) (by decide)
  simpa [spec_siSum.f] using this
def okNum (n : Int) : Bool := decide (-1000000 ≤ n) && decide (n ≤ 1000000)
theorem siNumber_val (n : Int) : spec_siNumber.f n = some (okNum n) := by simp only [spec_siNumber.f, l1In_val, Option.bind_some]; rfl
theorem signedOk_val (n : Int) : impl_signedOk.f n = some (okNum n) := by
  simp only [impl_signedOk.f, impl_in.f, okNum]
  by_cases h : n ≥ -1000000
  · simp [h, show -1000000 ≤ n from h]
  · simp [h, show ¬ -1000000 ≤ n from h]
theorem signedB_small {l : List Int} (h : signedB l = true) : small l := fun d hd => by have := signedB_mem h hd; omega
def fromV (l : List Int) : Int × Bool := if signedB l = true then (if okNum (val l) = true then (val l, true) else (0, false)) else (0, false)
theorem specFrom (l : List Int) (hl : l.length ≤ 17592186044416) : Ev (fun k => spec_FromSigned.f k l) (fromV l) := by
  simp only [spec_FromSigned.f, fromV]
  refine Ev.bind (siDigits_val l hl) ?_
  by_cases h : signedB l = true
  · have hs := siSum_val (signedB_small h) (signedB_len h)
    simp only [h, if_true]
    refine Ev.bind hs ?_
    simp only [siNumber_val, Option.bind_some]
    by_cases h2 : okNum (val l) = true
    · simp only [h2, if_true]; exact Ev.bind hs (Ev.now _)
    · simp only [h2, if_false]; exact Ev.now _
  · simp only [h, if_false]; exact Ev.now _
theorem implFrom (l : List Int) : Ev (fun k => impl_FromSigned.f k l) (fromV l) := by
  simp only [impl_FromSigned.f, impl_isDigits.f, Option.bind_some, fromV]
  by_cases h : signedB l = true
  · simp only [h, if_true, standing_val (signedB_small h) (signedB_len h), Option.bind_some]
    refine up ?_
    simp only [impl_FromSigned.j0, impl_isDigits.f, Option.bind_some, h, if_true, signedOk_val]
    by_cases h2 : okNum (val l) = true
    · simp only [h2, if_true]; exact Ev.now _
    · simp only [h2, if_false]; exact Ev.now _
  · simp only [h, if_false]
    refine up ?_
    simp only [impl_FromSigned.j0, impl_isDigits.f, Option.bind_some, h, if_false]
    exact Ev.now _
theorem toIntS_loop (l : List Int) (hl : l.length ≤ 17592186044416) : ∀ (d : Nat) (i : Nat) (acc : List Int), i + d = l.length → acc.length = l.length → (∀ j, j < i → acc[j]? = l[j]?) → Ev (fun k => laws_toIntS.l0 k l acc i) l := by
  intro d
  induction d with
  | zero =>
    intro i acc h ha hj
    refine up ?_
    simp only [laws_toIntS.l0, if_neg (show ¬ (i : Int) < (l.length : Int) by omega)]
    have : acc = l := List.ext_getElem? fun j => by
      rcases Nat.lt_or_ge j i with h1 | h1
      · exact hj j h1
      · rw [List.getElem?_eq_none (by omega), List.getElem?_eq_none (by omega)]
    rw [this]
    exact Ev.now _
  | succ d ih =>
    intro i acc h ha hj
    refine up ?_
    simp only [laws_toIntS.l0, if_pos (show (i : Int) < (l.length : Int) by omega), if_pos (show (0 : Int) ≤ (i : Int) by omega), if_pos (show (i : Int) < (acc.length : Int) by omega), wid (x := (i : Int) + 1) (by omega) (by omega), Int.toNat_natCast]
    refine ih (i + 1) _ (by omega) (by simp [ha]) fun j hj2 => ?_
    by_cases e : j = i
    · subst e
      rw [List.getElem?_set_self (by omega)]
      unfold rd
      rw [Int.toNat_natCast, List.getD_eq_getElem?_getD, List.getElem?_eq_getElem (show j < l.length by omega)]; rfl
    · rw [List.getElem?_set_ne (by omega)]
      exact hj j (by omega)
theorem toIntS_val (l : List Int) (hl : l.length ≤ 17592186044416) : Ev (fun k => laws_toIntS.f k l) l := by
  simp only [laws_toIntS.f, if_pos (show (0 : Int) ≤ (l.length : Int) by omega), Int.toNat_natCast, if_pos (show l.length ≤ 35184372088832 by omega)]
  exact toIntS_loop l hl l.length 0 _ (by omega) (by simp) (fun j hj => by omega)
theorem eqIntS_loop (l : List Int) (hl : l.length ≤ 140737488351232) : ∀ (d : Nat) (i : Int), 0 ≤ i → i + d = l.length → Ev (fun k => laws_eqIntS.l0 k l l i) true := by
  intro d
  induction d with
  | zero =>
    intro i h0 h
    refine up ?_
    simp only [laws_eqIntS.l0, if_neg (show ¬ i < (l.length : Int) by omega)]
    exact Ev.now _
  | succ d ih =>
    intro i h0 h
    refine up ?_
    simp only [laws_eqIntS.l0, if_pos (show i < (l.length : Int) by omega), if_pos h0, if_true, wid (x := i + 1) (by omega) (by omega)]
    exact ih (i + 1) (by omega) (by omega)
theorem eqIntS_same (l : List Int) (hl : l.length ≤ 140737488351232) : Ev (fun k => laws_eqIntS.f k l l) true := by
  simp only [laws_eqIntS.f, if_true]
  exact eqIntS_loop l hl l.length 0 (by omega) (by omega)
theorem main : laws_FnExactFromSigned.Pure := by
  intro l _ _ _
  by_cases hbig : (l.length : Int) > 1048576
  · exact ⟨0, by simp only [laws_FnExactFromSigned.f, if_pos hbig]⟩
  refine Ev.rounds ?_
  simp only [laws_FnExactFromSigned.f, if_neg hbig]
  have ht := toIntS_val l (by omega)
  refine Ev.bind ht ?_
  refine Ev.bind (specFrom l (by omega)) ?_
  refine Ev.bind ht ?_
  refine Ev.bind (implFrom l) ?_
  simp only [if_true, bne_self_eq_false]
  refine up ?_
  simp only [laws_FnExactFromSigned.j0, Bool.false_eq_true, if_false]
  refine Ev.bind ht ?_
  refine Ev.bind (eqIntS_same l (by omega)) ?_
  simp only [if_true]
  exact Ev.now _
end Go.Proofs.Ytemakeekfgaaeaa.PureFnExactFromSignedL
namespace Go.Proofs.Ytemakeekfgaaeaa.Pure
open Go.Proofs.Ytemakeekfgaaeaa.PFnExactFromSigned
theorem FnExactFromSigned : laws_FnExactFromSigned.Pure := PureFnExactFromSignedL.main
end Go.Proofs.Ytemakeekfgaaeaa.Pure
