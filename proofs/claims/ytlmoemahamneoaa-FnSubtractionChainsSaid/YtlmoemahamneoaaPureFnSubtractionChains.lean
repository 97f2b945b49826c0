/- The chain of a sparse form is a subtraction chain that ends with the number, and a shortest one is not longer than a shortest star chain: the statement FnSubtractionChains holds for all its drawn arguments; nothing is asked of them. -/
import Derived.Test.YtlmoemahamneoaaPFnSubtractionChainsx1
import Derived.Test.YtlmoemahamneoaaPFnSubtractionChainsx2
import Derived.Test.YtlmoemahamneoaaPFnSubtractionChainsx3
import Derived.Test.YtlmoemahamneoaaPFnSubtractionChainsx4
import Derived.Test.YtlmoemahamneoaaPFnSubtractionChainsx5
import Derived.Test.YtlmoemahamneoaaPFnSubtractionChainsx6
import Derived.Test.YtlmoemahamneoaaPFnSubtractionChainsx7
import Derived.Test.YtlmoemahamneoaaPFnSubtractionChainsx8
import Derived.Test.YtlmoemahamneoaaPFnSubtractionChainsx9
import Derived.Test.YtlmoemahamneoaaPFnSubtractionChainsx10
import Derived.Test.YtlmoemahamneoaaPFnSubtractionChainsx11
set_option linter.unusedVariables false
set_option linter.unusedSimpArgs false
namespace Go.Proofs.Ytlmoemahamneoaa.PureFnSubtractionChainsL
open Go.RowKit Go.Proofs.Ytlmoemahamneoaa.PFnSubtractionChains Go.Proofs.YtlmoemahamneoaaW.PrintWords Go.Proofs.YtlmoemahamneoaaW.PrintLast Go.Proofs.YtlmoemahamneoaaW.PrintMore
theorem up {α : Type} {g : Nat → Option α} {r : α} (h : Ev (fun k => g (k + 1)) r) : Ev g r := by
  obtain ⟨K, h⟩ := h
  refine ⟨K + 1, fun k hk => ?_⟩
  obtain ⟨m, rfl⟩ : ∃ m, k = m + 1 := ⟨k - 1, by omega⟩
  exact h m (by omega)
theorem wid {x : Int} (h0 : -9223372036854775808 ≤ x) (h1 : x ≤ 9223372036854775807) : wrap64 x = x := by unfold wrap64; omega
theorem if_neg_ev {α : Type} {c : Prop} [Decidable c] {f g : Nat → Option α} (h : ¬ c) : (fun k => if c then f k else g k) = g := funext fun k => if_neg h
theorem rd_at {l : List Int} {i : Nat} (h : i < l.length) : rd l (i : Int) = l[i] := by
  unfold rd
  rw [Int.toNat_natCast, List.getD_eq_getElem?_getD, List.getElem?_eq_getElem h]; rfl
/-- The number that digits stand for. -/
def val : List Int → Int
  | [] => 0
  | d :: l => d + 2 * val l
def small (l : List Int) : Prop := ∀ d ∈ l, -31 ≤ d ∧ d ≤ 31
theorem p2 (n : Nat) : (2 : Int) ^ (n + 1) = 2 * 2 ^ n := by rw [Int.pow_succ]; omega
theorem p2_pos (n : Nat) : (1 : Int) ≤ 2 ^ n := by
  induction n with
  | zero => decide
  | succ n ih => rw [p2]; omega
/-- The window digit of a number, for the width whose power of two is t. -/
def dig (t n : Int) : Int := if n % 2 = 0 then 0 else if n % t > t / 2 then n % t - t else n % t
/-- The window digits of a number whose size is at most 2^f. -/
def win (t : Int) : Nat → Int → List Int
  | 0, n => if n = 0 then [] else [n]
  | f + 1, n => if n = 0 then [] else dig t n :: win t f ((n - dig t n) / 2)
def Pw (t : Int) : Prop := t = 4 ∨ t = 8 ∨ t = 16 ∨ t = 32 ∨ t = 64
theorem win_nil (t : Int) (f : Nat) : win t f 0 = [] := by cases f <;> simp [win]
theorem win_length (t : Int) : ∀ (f : Nat) (n : Int), (win t f n).length ≤ f + 1
  | 0, n => by unfold win; split <;> simp
  | f + 1, n => by
    unfold win
    split
    · simp
    · have := win_length t f ((n - dig t n) / 2); simp only [List.length_cons]; omega
theorem dig_even {t : Int} (ht : Pw t) (n : Int) : (n - dig t n) % 2 = 0 := by
  unfold dig Pw at *
  rcases ht with rfl | rfl | rfl | rfl | rfl <;> (split <;> (try split) <;> omega)
theorem dig_size {t : Int} (ht : Pw t) (n : Int) : -32 < dig t n ∧ dig t n < 32 := by
  unfold dig Pw at *
  rcases ht with rfl | rfl | rfl | rfl | rfl <;> (split <;> (try split) <;> omega)
theorem dig_one {t : Int} (ht : Pw t) {n : Int} (h0 : n ≠ 0) (h1 : -1 ≤ n) (h2 : n ≤ 1) : dig t n = n := by
  have : n = 1 ∨ n = -1 := by omega
  unfold Pw at ht
  rcases ht with rfl | rfl | rfl | rfl | rfl <;> rcases this with rfl | rfl <;> decide
theorem dig_next_aux {t P Q n : Int} (ht : Pw t) (hPQ : P = 2 * Q) (hP : (P = 2 ∨ P = 4 ∨ P = 8 ∨ P = 16 ∨ P = 32) ∨ ∃ p, P = 64 * p) (h0 : -P ≤ n) (h1 : n ≤ P) : -Q ≤ (n - dig t n) / 2 ∧ (n - dig t n) / 2 ≤ Q := by
  unfold dig
  unfold Pw at ht
  rcases ht with rfl | rfl | rfl | rfl | rfl <;> rcases hP with (rfl | rfl | rfl | rfl | rfl) | ⟨p, rfl⟩ <;> (split <;> (try split) <;> omega)
theorem two_pow_int (f : Nat) : (2 : Int) ^ (f + 1) = 2 * 2 ^ f := by rw [Int.pow_succ]; omega
theorem dig_next {t : Int} (ht : Pw t) (f : Nat) {n : Int} (h0 : -(2 ^ (f + 1)) ≤ n) (h1 : n ≤ 2 ^ (f + 1)) : -(2 ^ f) ≤ (n - dig t n) / 2 ∧ (n - dig t n) / 2 ≤ 2 ^ f := by
  refine dig_next_aux ht (two_pow_int f) ?_ h0 h1
  rcases Nat.lt_or_ge f 5 with hf | hf
  · have hc : f = 0 ∨ f = 1 ∨ f = 2 ∨ f = 3 ∨ f = 4 := by omega
    left
    rcases hc with rfl | rfl | rfl | rfl | rfl <;> decide
  · obtain ⟨g, rfl⟩ : ∃ g, f = g + 5 := ⟨f - 5, by omega⟩
    right
    exact ⟨2 ^ g, by simp only [Int.pow_succ]; omega⟩
theorem pow20 {f : Nat} (hf : f ≤ 20) : (2 : Int) ^ f ≤ 1048576 := by
  have h := Nat.pow_le_pow_right (n := 2) (by omega) hf
  have e : ((2 ^ f : Nat) : Int) = (2 : Int) ^ f := by simp
  omega
/-- Of any w neighbours at most one is other than 0; g places ago the last such stood. -/
def ap (w : Int) : Int → List Int → Bool
  | _, [] => true
  | g, d :: l => if d = 0 then ap w (g + 1) l else if g < w then false else ap w 1 l
theorem pdvd {a b : Nat} (h : a ≤ b) : (2 : Int) ^ a ∣ 2 ^ b := by
  obtain ⟨c, rfl⟩ := Nat.exists_eq_add_of_le h
  induction c with
  | zero => exact ⟨1, by simp⟩
  | succ c ih =>
    obtain ⟨q, hq⟩ := ih (by omega)
    refine ⟨q * 2, ?_⟩
    rw [show a + (c + 1) = (a + c) + 1 by omega, Int.pow_succ, hq, Int.mul_assoc]
/-- The last digit is not 0. -/
def lz : List Int → Bool
  | [] => true
  | [d] => d != 0
  | _ :: e :: l => lz (e :: l)
/-- Digits that fit: 0, or odd and small. -/
def fits (t : Int) (l : List Int) : Prop := ∀ d ∈ l, d = 0 ∨ ¬ d % 2 = 0 ∧ -(t / 2) < d ∧ d < t / 2
theorem win_val (t : Int) (ht : Pw t) : ∀ (f : Nat) (n : Int), val (win t f n) = n
  | 0, n => by
    unfold win
    by_cases h : n = 0
    · rw [if_pos h, h]; rfl
    · rw [if_neg h]; simp [val]
  | f + 1, n => by
    unfold win
    by_cases h : n = 0
    · rw [if_pos h, h]; rfl
    · rw [if_neg h, val, win_val t ht f]
      have := dig_even ht n
      omega
theorem dig_fits {t n : Int} (ht : Pw t) : dig t n = 0 ∨ ¬ dig t n % 2 = 0 ∧ -(t / 2) < dig t n ∧ dig t n < t / 2 := by
  unfold dig
  unfold Pw at ht
  rcases ht with rfl | rfl | rfl | rfl | rfl <;> (split <;> (try split) <;> omega)
theorem win_fits {t : Int} (ht : Pw t) : ∀ (f : Nat) (n : Int), -(2 ^ f) ≤ n → n ≤ 2 ^ f → fits t (win t f n)
  | 0, n, h0, h1 => by
    unfold win
    by_cases h : n = 0
    · rw [if_pos h]; intro d hd; simp at hd
    · rw [if_neg h]
      intro d hd
      rw [List.mem_singleton.1 hd]
      have e := dig_one ht h (by omega) (by omega)
      have := dig_fits (n := n) ht
      rw [e] at this
      exact this
  | f + 1, n, h0, h1 => by
    unfold win
    by_cases h : n = 0
    · rw [if_pos h]; intro d hd; simp at hd
    · rw [if_neg h]
      have hx := dig_next ht f h0 h1
      intro d hd
      rcases List.mem_cons.1 hd with rfl | hd
      · exact dig_fits ht
      · exact win_fits ht f _ hx.1 hx.2 d hd
theorem win_lz {t : Int} (ht : Pw t) : ∀ (f : Nat) (n : Int), lz (win t f n) = true
  | 0, n => by
    unfold win
    by_cases h : n = 0
    · rw [if_pos h]; rfl
    · rw [if_neg h]; unfold lz; exact bne_iff_ne.2 h
  | f + 1, n => by
    unfold win
    by_cases h : n = 0
    · rw [if_pos h]; rfl
    · rw [if_neg h]
      have ih := win_lz ht f ((n - dig t n) / 2)
      have hv := win_val t ht f ((n - dig t n) / 2)
      generalize win t f ((n - dig t n) / 2) = l at ih hv
      cases l with
      | nil =>
        unfold lz
        have := dig_even ht n
        rw [val] at hv
        exact bne_iff_ne.2 (by omega)
      | cons e l => exact ih
theorem dig_mod {t n : Int} (ht : Pw t) (ho : ¬ n % 2 = 0) : t ∣ n - dig t n := by
  unfold dig
  rw [if_neg ho]
  refine Int.dvd_of_emod_eq_zero ?_
  unfold Pw at ht
  rcases ht with rfl | rfl | rfl | rfl | rfl <;> (split <;> omega)
theorem win_ap {t : Int} (ht : Pw t) (w : Nat) (hw : t = 2 ^ (w + 1)) : ∀ (f : Nat) (n g : Int), -(2 ^ f) ≤ n → n ≤ 2 ^ f → (∀ k : Nat, g + k ≤ (w + 1 : Int) → (2 : Int) ^ k ∣ n) → ap (w + 1) g (win t f n) = true := by
  intro f
  induction f with
  | zero =>
    intro n g h0 h1 hk
    unfold win
    by_cases h : n = 0
    · rw [if_pos h]; rfl
    · rw [if_neg h]
      unfold ap
      rw [if_neg h]
      by_cases hg : g < (w + 1 : Int)
      · obtain ⟨c, hc⟩ := hk 1 (by omega)
        have : n = 1 ∨ n = -1 := by omega
        omega
      · rw [if_neg hg]; rfl
  | succ f ih =>
    intro n g h0 h1 hk
    have hx := dig_next ht f h0 h1
    unfold win
    by_cases h : n = 0
    · rw [if_pos h]; rfl
    · rw [if_neg h]
      unfold ap
      by_cases he : n % 2 = 0
      · have hd : dig t n = 0 := by unfold dig; rw [if_pos he]
        rw [hd] at hx ⊢
        rw [if_pos rfl]
        refine ih _ _ hx.1 hx.2 fun k hk2 => ?_
        obtain ⟨c, hc⟩ := hk (k + 1) (by omega)
        refine ⟨c, ?_⟩
        rw [Int.pow_succ] at hc
        have : n = 2 * (2 ^ k * c) := by rw [hc]; grind
        omega
      · have hd : dig t n ≠ 0 := by
          have := dig_even ht n
          omega
        have hg : ¬ g < (w + 1 : Int) := fun hg => by
          obtain ⟨c, hc⟩ := hk 1 (by omega)
          omega
        rw [if_neg hd, if_neg hg]
        refine ih _ _ hx.1 hx.2 fun k hk2 => ?_
        obtain ⟨c, hc⟩ := dig_mod ht he
        obtain ⟨e, he2⟩ := pdvd (a := k + 1) (b := w + 1) (by omega)
        refine ⟨e * c, ?_⟩
        have ht2 : t = 2 ^ k * 2 * e := by rw [hw, he2, Int.pow_succ]
        have : n - dig t n = 2 * (2 ^ k * (e * c)) := by
          rw [hc]
          generalize (2 : Int) ^ k = z at ht2
          rw [ht2]
          grind
        omega
/-- How many digits are other than 0. -/
def wt : List Int → Nat
  | [] => 0
  | d :: l => (if d = 0 then 0 else 1) + wt l
theorem wt_le : ∀ l, wt l ≤ l.length
  | [] => Nat.le_refl _
  | d :: l => by have := wt_le l; unfold wt; split <;> simp only [List.length_cons] <;> omega
theorem pw4 : Pw 4 := .inl rfl
theorem val_small : ∀ (l : List Int), (∀ d ∈ l, d = -1 ∨ d = 0 ∨ d = 1) → -(2 ^ l.length) < val l ∧ val l < 2 ^ l.length
  | [], _ => by decide
  | d :: l, h => by
    have ih := val_small l fun x hx => h x (List.mem_cons_of_mem _ hx)
    have hd := h d (List.mem_cons_self ..)
    have e := p2 l.length
    rw [val, List.length_cons]
    omega
theorem hasB_drop {l : List Int} {i : Nat} (h : i < l.length) (x : Int) : hasB (l.drop i) x = (decide (l[i] = x) || hasB (l.drop (i + 1)) x) := by
  rw [List.drop_eq_getElem_cons h]
  unfold hasB
  rw [List.contains_cons]
  congr 1
  by_cases e : l[i] = x
  · simp [e]
  · simp [e, Ne.symm e]
theorem hasB_end (l : List Int) (x : Int) : hasB (l.drop l.length) x = false := by rw [List.drop_length]; rfl
theorem index_loop (x : Int) (l : List Int) (hl : l.length ≤ 17592186044416) : ∀ (d i : Nat), i + d = l.length → ∃ r, Ev (fun k => slices_Index_int_int.l0 k l x (l.length : Int) i) r ∧ decide (r ≥ 0) = hasB (l.drop i) x := by
  intro d
  induction d with
  | zero =>
    intro i h
    refine ⟨-1, up ?_, ?_⟩
    · simp only [slices_Index_int_int.l0, if_neg (show ¬ (i : Int) < (l.length : Int) by omega)]; exact Ev.now _
    · rw [show i = l.length by omega, hasB_end]; decide
  | succ d ih =>
    intro i h
    have hi : i < l.length := by omega
    rw [hasB_drop hi]
    by_cases e : x = l[i]
    · refine ⟨i, up ?_, ?_⟩
      · simp only [slices_Index_int_int.l0, if_pos (show (i : Int) < (l.length : Int) by omega), if_pos (show (0 : Int) ≤ (i : Int) by omega), rd_at hi, e, if_true]; exact Ev.now _
      · simp [e]
    · obtain ⟨r, hr, hd⟩ := ih (i + 1) (by omega)
      refine ⟨r, up ?_, ?_⟩
      · simp only [slices_Index_int_int.l0, if_pos (show (i : Int) < (l.length : Int) by omega), if_pos (show (0 : Int) ≤ (i : Int) by omega), rd_at hi, e, if_false, wid (x := (i : Int) + 1) (by omega) (by omega)]; exact hr
      · rw [hd]; simp [Ne.symm e]
theorem contains_val (x : Int) (l : List Int) (hl : l.length ≤ 17592186044416) : Ev (fun k => slices_Contains_int_int.f k l x) (hasB l x) := by
  obtain ⟨r, hr, hd⟩ := index_loop x l hl l.length 0 (by omega)
  rw [List.drop_zero] at hd
  simp only [slices_Contains_int_int.f, slices_Index_int_int.f]
  exact Ev.bind hr (by rw [hd]; exact Ev.now _)
theorem l1In_val (x a b : Int) : spec_l1In.f x a b = some (decide (a ≤ x) && decide (x ≤ b)) := by
  unfold spec_l1In.f
  by_cases h : a ≤ x
  · rw [if_pos h]; simp [h]
  · rw [if_neg h]; simp [h]
def allIn (a b : Int) (l : List Int) : Bool := l.all fun d => decide (a ≤ d) && decide (d ≤ b)
theorem l1All_loop (a b : Int) (l : List Int) (hl : l.length ≤ 17592186044416) : ∀ (d i : Nat), i + d = l.length → Ev (fun k => spec_l1All.l0 k a b l (l.length : Int) i) (allIn a b (l.drop i)) := by
  intro d
  induction d with
  | zero =>
    intro i h
    refine up ?_
    simp only [spec_l1All.l0, if_neg (show ¬ (i : Int) < (l.length : Int) by omega)]
    rw [List.drop_of_length_le (by omega)]
    exact Ev.now _
  | succ d ih =>
    intro i h
    have hi : i < l.length := by omega
    refine up ?_
    simp only [spec_l1All.l0, if_pos (show (i : Int) < (l.length : Int) by omega), if_pos (show (0 : Int) ≤ (i : Int) by omega), l1In_val, Option.bind_some, wid (x := (i : Int) + 1) (by omega) (by omega), rd_at hi]
    have e : allIn a b (l.drop i) = ((decide (a ≤ l[i]) && decide (l[i] ≤ b)) && allIn a b (l.drop (i + 1))) := by
      rw [List.drop_eq_getElem_cons hi]; rfl
    rw [e]
    cases hb : (decide (a ≤ l[i]) && decide (l[i] ≤ b)) with
    | true => simp only [if_true, Bool.true_and]; exact ih (i + 1) (by omega)
    | false => simp only [Bool.false_eq_true, if_false, Bool.false_and]; exact Ev.now _
theorem l1All_val (a b : Int) (l : List Int) (hl : l.length ≤ 17592186044416) : Ev (fun k => spec_l1All.f k l a b) (allIn a b l) := l1All_loop a b l hl l.length 0 (by omega)
def okOne (n : Int) : Bool := decide (1 ≤ n) && decide (n ≤ 1000000)
theorem isNumber_val (n : Int) : impl_isNumber.f n = some (okOne n) := by
  simp only [impl_isNumber.f, impl_in.f, okOne]
  by_cases h : n ≥ 1
  · simp [h, show 1 ≤ n from h]
  · simp [h, show ¬ 1 ≤ n from h]
/-- Each number from the i-th on, d of them, is new and made of two before. -/
def chainFrom (l : List Int) : Nat → Nat → Bool
  | 0, _ => true
  | d + 1, i => if hasB (l.take i) (rd l i) = true then false else if madeB (l.take i) (rd l i) = true then chainFrom l d (i + 1) else false
def chainFromN (l : List Int) : Nat → Nat → Bool
  | 0, _ => true
  | d + 1, i => if okOne (rd l i) = true then (if hasB (l.take i) (rd l i) = true then false else if madeB (l.take i) (rd l i) = true then chainFromN l d (i + 1) else false) else false
theorem implChain_loop (l : List Int) (hl : l.length ≤ 1000000) : ∀ (d i : Nat), i + d = l.length → Ev (fun k => impl_IsSubtractionChain.l0 k l i) (chainFromN l d i) := by
  intro d
  induction d with
  | zero =>
    intro i h
    refine up ?_
    simp only [impl_IsSubtractionChain.l0, if_neg (show ¬ (i : Int) < (l.length : Int) by omega), chainFromN]
    exact Ev.now _
  | succ d ih =>
    intro i h
    refine up ?_
    simp only [impl_IsSubtractionChain.l0, if_pos (show (i : Int) < (l.length : Int) by omega), if_pos (show (0 : Int) ≤ (i : Int) by omega), if_pos (show (i : Int) ≤ (l.length : Int) by omega), Int.toNat_natCast, wid (x := (i : Int) + 1) (by omega) (by omega), chainFromN, isNumber_val, Option.bind_some]
    have ht : (l.take i).length ≤ 1000000 := by rw [List.length_take]; omega
    cases h0 : okOne (rd l i) with
    | false => simp only [Bool.false_eq_true, if_false]; exact Ev.now _
    | true =>
      simp only [if_true]
      refine Ev.bind (contains_val _ _ (by omega)) ?_
      cases h1 : hasB (l.take i) (rd l i) with
      | true => simp only [if_true]; exact Ev.now _
      | false =>
        simp only [Bool.false_eq_true, if_false, impl_madeOf.f, Option.bind_some]
        cases h2 : madeB (l.take i) (rd l i) with
        | true => simp only [if_true]; exact ih (i + 1) (by omega)
        | false => simp only [Bool.false_eq_true, if_false]; exact Ev.now _
theorem chain_same (l : List Int) : ∀ (d i : Nat), i + d = l.length → (∀ j, i ≤ j → j < l.length → okOne (rd l j) = true) → chainFromN l d i = chainFrom l d i
  | 0, _, _, _ => rfl
  | d + 1, i, h, ha => by
    simp only [chainFromN, chainFrom, ha i (Nat.le_refl _) (by omega), if_true]
    rw [chain_same l d (i + 1) (by omega) (fun j h1 h2 => ha j (by omega) h2)]
theorem chain_no (l : List Int) : ∀ (d i j : Nat), i + d = l.length → i ≤ j → j < l.length → okOne (rd l j) = false → chainFromN l d i = false
  | 0, i, j, h, h1, h2, _ => by omega
  | d + 1, i, j, h, h1, h2, hj => by
    simp only [chainFromN]
    by_cases e : i = j
    · subst e; simp [hj]
    · have := chain_no l d (i + 1) j (by omega) (by omega) h2 hj
      rw [this]
      split <;> (try split) <;> (try split) <;> rfl
theorem allIn_get {l : List Int} : allIn 1 1000000 l = true ↔ ∀ j, j < l.length → okOne (rd l j) = true := by
  unfold allIn
  rw [List.all_eq_true]
  constructor
  · intro h j hj
    rw [rd_at hj]
    exact h _ (List.getElem_mem hj)
  · intro h x hx
    obtain ⟨j, hj, rfl⟩ := List.getElem_of_mem hx
    have := h j hj
    rw [rd_at hj] at this
    exact this
/-- A subtraction chain. -/
def subChainB (l : List Int) : Bool := (decide (1 ≤ l.length) && decide (l.length ≤ 41)) && (allIn 1 1000000 l && (rd l 0 == 1 && chainFrom l (l.length - 1) 1))
theorem implSub (l : List Int) : Ev (fun k => impl_IsSubtractionChain.f k l) (subChainB l) := by
  have j0t : Ev (fun k => impl_IsSubtractionChain.j0 k l true) false := by refine up ?_; simp only [impl_IsSubtractionChain.j0, if_true]; exact Ev.now _
  have e0 : impl_in.f (l.length : Int) 1 41 = some (decide ((1 : Int) ≤ (l.length : Int)) && decide ((l.length : Int) ≤ 41)) := by
    unfold impl_in.f
    by_cases h : (l.length : Int) ≥ 1
    · rw [if_pos h]; simp [h]
    · rw [if_neg h]; simp [h]
  simp only [impl_IsSubtractionChain.f, e0, Option.bind_some]
  by_cases h : 1 ≤ l.length ∧ l.length ≤ 41
  · have e1 : (decide ((1 : Int) ≤ (l.length : Int)) && decide ((l.length : Int) ≤ 41)) = true := by simp; omega
    simp only [e1, if_true, if_pos (show (0 : Int) < (l.length : Int) by omega)]
    have e2 : subChainB l = (allIn 1 1000000 l && (rd l 0 == 1 && chainFrom l (l.length - 1) 1)) := by simp [subChainB, h]
    rw [e2]
    by_cases h2 : rd l 0 = 1
    · have e3 : (rd l 0 != 1) = false := by simp [h2]
      have e4 : (rd l 0 == 1) = true := by simp [h2]
      rw [e3, e4, Bool.true_and]
      refine up ?_
      simp only [impl_IsSubtractionChain.j0, Bool.false_eq_true, if_false]
      have hloop := implChain_loop l (by omega) (l.length - 1) 1 (by omega)
      cases h1 : allIn 1 1000000 l with
      | true =>
        rw [chain_same l _ _ (by omega) (fun j _ hj => allIn_get.1 h1 j hj)] at hloop
        rw [Bool.true_and]; exact hloop
      | false =>
        obtain ⟨j, hj, hjo⟩ : ∃ j, j < l.length ∧ okOne (rd l j) = false := Classical.byContradiction fun hn => by
          have : allIn 1 1000000 l = true := allIn_get.2 fun j hj => by
            cases hc : okOne (rd l j) with
            | true => rfl
            | false => exact absurd ⟨j, hj, hc⟩ hn
          rw [this] at h1; cases h1
        have hj1 : 1 ≤ j := by
          rcases Nat.eq_zero_or_pos j with h0 | h0
          · subst h0
            rw [show ((0 : Nat) : Int) = 0 from rfl, h2] at hjo
            exact absurd hjo (by decide)
          · exact h0
        rw [chain_no l _ 1 j (by omega) hj1 hj hjo] at hloop
        rw [Bool.false_and]; exact hloop
    · have e3 : (rd l 0 != 1) = true := by simp [h2]
      have e4 : (rd l 0 == 1) = false := by simp [h2]
      rw [e3, e4, Bool.false_and, Bool.and_false]; exact j0t
  · have e1 : (decide ((1 : Int) ≤ (l.length : Int)) && decide ((l.length : Int) ≤ 41)) = false := by simp; omega
    have e2 : subChainB l = false := by unfold subChainB; rw [show (decide (1 ≤ l.length) && decide (l.length ≤ 41)) = false by simp; omega]; rfl
    simp only [e1, Bool.false_eq_true, if_false]
    rw [e2]; exact j0t
theorem lastD_snoc (l : List Int) (x : Int) : lastD (l ++ [x]) = x := by
  unfold lastD
  simp
theorem has_mem {l : List Int} {x : Int} : hasB l x = true ↔ x ∈ l := by unfold hasB; simp
theorem rd_left {l : List Int} {x : Int} {i : Nat} (h : i < l.length) : rd (l ++ [x]) (i : Int) = rd l (i : Int) := by
  rw [rd_at (by simp; omega), rd_at h, List.getElem_append_left h]
theorem rd_last (l : List Int) (x : Int) : rd (l ++ [x]) (l.length : Int) = x := by
  rw [rd_at (by simp)]
  simp
theorem chainFrom_snoc (l : List Int) (x : Int) (h1 : hasB l x = false) (h2 : madeB l x = true) : ∀ (d i : Nat), i + d = l.length → chainFrom l d i = true → chainFrom (l ++ [x]) (d + 1) i = true
  | 0, i, h, _ => by
    have e : i = l.length := by omega
    subst e
    unfold chainFrom
    rw [rd_last, List.take_left, h1, if_neg (by decide), if_pos h2]
    rfl
  | d + 1, i, h, hc => by
    unfold chainFrom at hc ⊢
    rw [rd_left (by omega), List.take_append_of_le_length (by omega)]
    by_cases a : hasB (l.take i) (rd l i) = true
    · rw [if_pos a] at hc; cases hc
    · rw [if_neg a] at hc ⊢
      by_cases b : madeB (l.take i) (rd l i) = true
      · rw [if_pos b] at hc ⊢
        exact chainFrom_snoc l x h1 h2 d (i + 1) (by omega) hc
      · rw [if_neg b] at hc; cases hc
/-- What a chain is while it is made; v is its last number. -/
structure Inv (out : List Int) (v : Int) : Prop where
  len : 0 < out.length
  one : rd out 0 = 1
  last : lastD out = v
  mem : v ∈ out
  pos : 1 ≤ v
  bnd : ∀ x ∈ out, 1 ≤ x ∧ x ≤ v + 1 ∧ (x = v + 1 → v % 2 = 1 ∧ 3 ≤ v)
  chain : chainFrom out (out.length - 1) 1 = true
theorem Inv.oneMem {out : List Int} {v : Int} (h : Inv out v) : (1 : Int) ∈ out := by
  have := h.one
  rw [show (0 : Int) = ((0 : Nat) : Int) from rfl, rd_at h.len] at this
  rw [← this]
  exact List.getElem_mem h.len
theorem made_of {l : List Int} {x a : Int} (ha : a ∈ l) (h : (wrap64 (x - a)) ∈ l ∨ (wrap64 (x + a)) ∈ l) : madeB l x = true := by
  unfold madeB
  rw [List.any_eq_true]
  refine ⟨a, ha, ?_⟩
  rcases h with h | h
  · rw [has_mem.2 h, Bool.true_or]
  · rw [has_mem.2 h, Bool.or_true]
theorem snoc_chain {out : List Int} {x : Int} (hl : 0 < out.length) (hc : chainFrom out (out.length - 1) 1 = true) (h1 : x ∉ out) (h2 : madeB out x = true) : chainFrom (out ++ [x]) ((out ++ [x]).length - 1) 1 = true := by
  have := chainFrom_snoc out x (by
    cases h : hasB out x with
    | false => rfl
    | true => exact absurd (has_mem.1 h) h1) h2 (out.length - 1) 1 (by omega) hc
  rw [show (out ++ [x]).length - 1 = out.length - 1 + 1 by simp; omega]
  exact this
theorem snoc_one {out : List Int} {x : Int} (hl : 0 < out.length) (h : rd out 0 = 1) : rd (out ++ [x]) 0 = 1 := by
  have := rd_left (x := x) hl
  rw [show ((0 : Nat) : Int) = 0 from rfl] at this
  rw [this]; exact h
theorem Inv.twice {out : List Int} {v : Int} (h : Inv out v) (hb : v ≤ 4000000) : Inv (out ++ [2 * v]) (2 * v) := by
  have hp := h.pos
  have hn : 2 * v ∉ out := fun hm => by
    have := h.bnd _ hm
    omega
  refine ⟨by simp, snoc_one h.len h.one, lastD_snoc _ _, by simp, by omega, fun x hx => ?_, snoc_chain h.len h.chain hn (made_of h.mem (.inl ?_))⟩
  · rcases List.mem_append.1 hx with hx | hx
    · have := h.bnd x hx; omega
    · rw [List.mem_singleton.1 hx]; omega
  · rw [wid (by omega) (by omega), show 2 * v - v = v by omega]; exact h.mem
theorem Inv.digit {out : List Int} {v d : Int} (h : Inv out v) (hb : v ≤ 4000000) (h2 : 2 ≤ v) (hd : d = 1 ∨ d = -1) : Inv ((out ++ [2 * v]) ++ [2 * v + d]) (2 * v + d) := by
  have t := h.twice hb
  have hn : 2 * v + d ∉ out ++ [2 * v] := fun hm => by
    rcases List.mem_append.1 hm with hm | hm
    · have := h.bnd _ hm
      rcases hd with rfl | rfl <;> omega
    · have := List.mem_singleton.1 hm
      rcases hd with rfl | rfl <;> omega
  have hone : (1 : Int) ∈ out ++ [2 * v] := t.oneMem
  refine ⟨by simp, snoc_one t.len t.one, lastD_snoc _ _, by simp, by rcases hd with rfl | rfl <;> omega, fun x hx => ?_, snoc_chain t.len t.chain hn (made_of hone ?_)⟩
  · rcases List.mem_append.1 hx with hx | hx
    · rcases List.mem_append.1 hx with hx | hx
      · have := h.bnd x hx
        rcases hd with rfl | rfl <;> omega
      · rw [List.mem_singleton.1 hx]
        rcases hd with rfl | rfl <;> omega
    · rw [List.mem_singleton.1 hx]
      rcases hd with rfl | rfl <;> omega
  · rcases hd with rfl | rfl
    · refine .inl ?_
      rw [wid (by omega) (by omega), show 2 * v + 1 - 1 = 2 * v by omega]; simp
    · refine .inr ?_
      rw [wid (by omega) (by omega), show 2 * v + -1 + 1 = 2 * v by omega]; simp
def horner (v : Int) : List Int → Int
  | [] => v
  | d :: E => horner (2 * v + d) E
theorem chStep_clean {out : List Int} {v d : Int} (hv : lastD out = v) (h0 : 0 ≤ v) (hb : v ≤ 4000000) (hd : -1 ≤ d ∧ d ≤ 1) : chStep out d = if d = 0 then out ++ [2 * v] else (out ++ [2 * v]) ++ [2 * v + d] := by
  unfold chStep
  rw [hv, wid (x := 2 * v) (by omega) (by omega), wid (x := 2 * v + d) (by omega) (by omega)]
/-- The chain of digits behind a number of at least 2. -/
theorem inv_fold : ∀ (E : List Int) (out : List Int) (v B : Int), Inv out v → 2 ≤ v → (∀ d ∈ E, d = -1 ∨ d = 0 ∨ d = 1) → v ≤ B → (B + 1) * 2 ^ E.length ≤ 4000000 → Inv (E.foldl chStep out) (horner v E)
  | [], out, v, B, h, _, _, _, _ => h
  | d :: E, out, v, B, h, h2, hE, hB, hl => by
    have hd := hE d (List.mem_cons_self ..)
    have hp := p2_pos E.length
    rw [List.length_cons, p2] at hl
    have hl2 : (2 * B + 1 + 1) * 2 ^ E.length ≤ 4000000 := by
      rw [show (2 * B + 1 + 1) = (B + 1) * 2 by omega, Int.mul_assoc]; exact hl
    have hB4 : B + 1 ≤ 4000000 := by
      have h1 : (B + 1) * 1 ≤ (B + 1) * (2 * 2 ^ E.length) := Int.mul_le_mul_of_nonneg_left (by omega) (by omega)
      omega
    rw [List.foldl_cons, horner, chStep_clean h.last (by omega) (by omega) (by omega)]
    have hE' : ∀ x ∈ E, x = -1 ∨ x = 0 ∨ x = 1 := fun x hx => hE x (List.mem_cons_of_mem _ hx)
    by_cases h0 : d = 0
    · rw [if_pos h0, h0, Int.add_zero]
      exact inv_fold E _ (2 * v) (2 * B + 1) (h.twice (by omega)) (by omega) hE' (by omega) hl2
    · rw [if_neg h0]
      have hd2 : d = 1 ∨ d = -1 := by omega
      exact inv_fold E _ (2 * v + d) (2 * B + 1) (h.digit (by omega) h2 hd2) (by omega) hE' (by omega) hl2
theorem inv_first : Inv [1] 1 := ⟨by simp, rfl, rfl, by simp, by omega, fun x hx => by rw [List.mem_singleton.1 hx]; omega, rfl⟩
theorem inv_all {E : List Int} (hE : ∀ d ∈ E, d = -1 ∨ d = 0 ∨ d = 1) (h0 : ∀ d E', E = d :: E' → d = 0) (hl : E.length ≤ 20) : Inv (E.foldl chStep [1]) (horner 1 E) := by
  cases E with
  | nil => exact inv_first
  | cons d E =>
    have := h0 d E rfl
    subst this
    rw [List.foldl_cons, horner, chStep_clean (v := 1) rfl (by omega) (by omega) (by omega), if_pos rfl]
    have h1 := Nat.pow_le_pow_right (n := 2) (by omega) (show E.length ≤ 19 by simp only [List.length_cons] at hl; omega)
    have e : ((2 ^ E.length : Nat) : Int) = (2 : Int) ^ E.length := by simp
    exact inv_fold E _ 2 2 (inv_first.twice (by omega)) (by omega) (fun x hx => hE x (List.mem_cons_of_mem _ hx)) (by omega) (by omega)
theorem val_snoc : ∀ (l : List Int) (d : Int), val (l ++ [d]) = val l + 2 ^ l.length * d
  | [], d => by simp [val]
  | x :: l, d => by
    rw [List.cons_append, val, val_snoc l d, val, List.length_cons, p2]
    grind
theorem horner_val : ∀ (E : List Int) (v : Int), horner v E = v * 2 ^ E.length + val E.reverse
  | [], v => by simp [horner, val]
  | d :: E, v => by
    rw [horner, horner_val E, List.reverse_cons, List.length_cons, p2]
    rw [val_snoc]
    rw [List.length_reverse]
    grind
theorem wt_sparse : ∀ (l : List Int) (g : Int), 1 ≤ g → ap 2 g l = true → 2 * wt l ≤ l.length + (if g ≥ 2 then 1 else 0)
  | [], g, _, _ => by simp [wt]
  | d :: l, g, hg, h => by
    unfold ap at h
    rw [wt, List.length_cons]
    by_cases h0 : d = 0
    · rw [if_pos h0] at h ⊢
      have := wt_sparse l (g + 1) (by omega) h
      rw [if_pos (by omega)] at this
      split <;> omega
    · rw [if_neg h0] at h ⊢
      by_cases hg2 : g < 2
      · rw [if_pos hg2] at h; cases h
      · rw [if_neg hg2] at h
        have := wt_sparse l 1 (by omega) h
        rw [if_neg (by omega)] at this
        rw [if_pos (by omega)]
        omega
theorem fold_len : ∀ (E : List Int) (out : List Int), (E.foldl chStep out).length = out.length + E.length + wt E
  | [], out => by simp [wt]
  | d :: E, out => by
    rw [List.foldl_cons, fold_len E, wt, List.length_cons]
    unfold chStep
    by_cases h0 : d = 0
    · rw [if_pos h0, if_pos h0, List.length_append, List.length_singleton]; omega
    · rw [if_neg h0, if_neg h0, List.length_append, List.length_append, List.length_singleton, List.length_singleton]; omega
theorem wt_append : ∀ (a b : List Int), wt (a ++ b) = wt a + wt b
  | [], b => by simp [wt]
  | d :: a, b => by rw [List.cons_append, wt, wt, wt_append a b]; omega
theorem wt_reverse : ∀ l : List Int, wt l.reverse = wt l
  | [] => rfl
  | d :: l => by rw [List.reverse_cons, wt_append, wt_reverse l, wt, wt, wt]; omega
theorem ap_two : ∀ (l : List Int) (g a b : Int), ap 2 g (l ++ [a, b]) = true → b ≠ 0 → a = 0
  | [], g, a, b, h, hb => by
    simp only [List.nil_append] at h
    unfold ap at h
    by_cases ha : a = 0
    · exact ha
    · rw [if_neg ha] at h
      by_cases hg : g < 2
      · rw [if_pos hg] at h; cases h
      · rw [if_neg hg] at h
        unfold ap at h
        rw [if_neg hb, if_pos (by omega)] at h
        cases h
  | d :: l, g, a, b, h, hb => by
    rw [List.cons_append] at h
    unfold ap at h
    by_cases hd : d = 0
    · rw [if_pos hd] at h; exact ap_two l _ a b h hb
    · rw [if_neg hd] at h
      by_cases hg : g < 2
      · rw [if_pos hg] at h; cases h
      · rw [if_neg hg] at h; exact ap_two l _ a b h hb
theorem lz_last : ∀ (l : List Int) (b : Int), lz (l ++ [b]) = true → b ≠ 0
  | [], b, h => by
    simp only [List.nil_append] at h
    unfold lz at h
    exact bne_iff_ne.1 h
  | [d], b, h => by
    have h2 : lz [b] = true := h
    unfold lz at h2
    exact bne_iff_ne.1 h2
  | d :: e :: l, b, h => lz_last (e :: l) b h
/-- The chain of the sparse form of a number. -/
theorem chainW_ok {n : Int} (h0 : 1 ≤ n) (h1 : n ≤ 1000000) : ∃ D, win 4 20 n = D ∧ 0 < D.length ∧ D.length ≤ 21 ∧ subChainB (chainW D) = true ∧ allIn 1 1000000 (chainW D) = true ∧ lastD (chainW D) = n ∧ (chainW D).length = D.length + wt D - 1 := by
  have hp : (2 : Int) ^ 20 = 1048576 := by decide
  refine ⟨win 4 20 n, rfl, ?_⟩
  have hl := win_length 4 20 n
  have hv := win_val 4 pw4 20 n
  have hf := win_fits pw4 20 n (by omega) (by omega)
  have hz := win_lz pw4 20 n
  have ha := win_ap pw4 1 (by decide) 20 n 2 (by omega) (by omega) fun k hk => by
    have : k = 0 := by omega
    subst this
    exact ⟨n, by simp⟩
  generalize win 4 20 n = D at hl hv hf hz ha
  have hdig : ∀ d ∈ D, d = -1 ∨ d = 0 ∨ d = 1 := fun d hd => by have := hf d hd; omega
  have hne : D ≠ [] := fun e => by subst e; rw [val] at hv; omega
  obtain ⟨R, t, rfl⟩ : ∃ R t, D = R ++ [t] := ⟨D.dropLast, D.getLast hne, (List.dropLast_concat_getLast hne).symm⟩
  have hRd : ∀ d ∈ R, d = -1 ∨ d = 0 ∨ d = 1 := fun d hd => hdig d (List.mem_append_left _ hd)
  have ht0 := lz_last R t hz
  have hs := val_small R hRd
  have htd := hdig t (by simp)
  rw [val_snoc] at hv
  have ht : t = 1 := by
    rcases htd with rfl | h | h
    · omega
    · exact absurd h ht0
    · exact h
  subst ht
  have hlen : (R ++ [(1 : Int)]).length = R.length + 1 := by simp
  rw [hlen] at hl
  have hE : (R ++ [(1 : Int)]).take ((R ++ [(1 : Int)]).length - 1) = R := by rw [hlen, Nat.add_sub_cancel, List.take_left]
  have hW : chainW (R ++ [1]) = R.reverse.foldl chStep [1] := by unfold chainW; rw [hE]
  have hinv := inv_all (E := R.reverse) (fun d hd => hRd d (List.mem_reverse.1 hd)) (fun d E' he => by
    have hr : R = E'.reverse ++ [d] := by
      have := congrArg List.reverse he
      rw [List.reverse_reverse, List.reverse_cons] at this
      exact this
    rw [hr, List.append_assoc] at ha
    exact ap_two _ _ _ _ ha (by omega)) (by rw [List.length_reverse]; omega)
  have hh : horner 1 R.reverse = n := by
    rw [horner_val, List.reverse_reverse, List.length_reverse]
    omega
  rw [hh, ← hW] at hinv
  have hw2 := wt_sparse (R ++ [1]) 2 (by omega) ha
  rw [if_pos (by omega), hlen, wt_append, show wt [(1 : Int)] = 1 from rfl] at hw2
  have hcl : (chainW (R ++ [1])).length = 1 + R.length + wt R := by
    rw [hW, fold_len, List.length_reverse, wt_reverse]; rfl
  have hall : allIn 1 1000000 (chainW (R ++ [1])) = true := by
    unfold allIn
    rw [List.all_eq_true]
    intro x hx
    have := hinv.bnd x hx
    rw [Bool.and_eq_true, decide_eq_true_eq, decide_eq_true_eq]
    omega
  refine ⟨by omega, by omega, ?_, hall, hinv.last, by rw [hcl, hlen, wt_append, show wt [(1 : Int)] = 1 from rfl]; omega⟩
  unfold subChainB
  rw [hall, hinv.one, hinv.chain, decide_eq_true (show 1 ≤ (chainW (R ++ [1])).length by omega), decide_eq_true (show (chainW (R ++ [1])).length ≤ 41 by omega)]
  rfl
theorem tmod_in {a b : Int} (hb : 0 < b) : -b < Int.tmod a b ∧ Int.tmod a b < b := ⟨Int.lt_tmod_of_pos a hb, Int.tmod_lt_of_pos a hb⟩
theorem posmod {a b : Int} (hb : 0 < b) (hb2 : b ≤ 1000000000000000) : Int.tmod (wrap64 ((Int.tmod a b) + b)) b = a % b := by
  have h := tmod_in (a := a) hb
  rw [wid (by omega) (by omega), Int.tmod_eq_emod_of_nonneg (by omega), Int.add_emod_right]
  rw [Int.tmod_def, Int.sub_mul_emod_self_left]
theorem odd_test (x : Int) : Int.tmod x 2 = 0 ↔ x % 2 = 0 := by
  rw [← Int.dvd_iff_tmod_eq_zero, ← Int.dvd_iff_emod_eq_zero]
theorem half_even {x : Int} (h : x % 2 = 0) : Int.tdiv x 2 = x / 2 := Int.tdiv_eq_ediv_of_dvd (Int.dvd_of_emod_eq_zero h)
theorem siOdd_val (x : Int) : spec_siOdd.f x = some (decide (¬ x % 2 = 0)) := by
  unfold spec_siOdd.f
  by_cases h : x % 2 = 0
  · have := (odd_test x).2 h; simp [h, this]
  · have := mt (odd_test x).1 h; simp [h, this]
theorem specWin_step {t n : Int} (ht : Pw t) (hn0 : n ≠ 0) (h0 : -2000000 ≤ n) (h1 : n ≤ 2000000) (acc : List Int) (ha : acc.length < 1000) {r : List Int}
    (h : Ev (fun k => spec_siWindow.l0 k ((n - dig t n) / 2) (acc ++ [dig t n]) t) r) : Ev (fun k => spec_siWindow.l0 k n acc t) r := by
  have hd := dig_size ht n
  have he := dig_even ht n
  have ht2 : 0 < t ∧ t ≤ 64 := by unfold Pw at ht; omega
  have hth : wrap64 (Int.tdiv t 2) = t / 2 := by unfold Pw at ht; rcases ht with rfl | rfl | rfl | rfl | rfl <;> exact wid (by decide) (by decide)
  refine up ?_
  simp only [spec_siWindow.l0, if_neg hn0, siOdd_val, Option.bind_some]
  by_cases hp : n % 2 = 0
  · have hd0 : dig t n = 0 := by unfold dig; rw [if_pos hp]
    rw [hd0] at h he
    simp only [hp, not_true_eq_false, decide_false, Bool.false_eq_true, if_false, if_pos (show acc.length < 17592186044416 by omega), wid (x := n - 0) (by omega) (by omega), half_even he, wid (x := (n - 0) / 2) (by omega) (by omega)]
    exact h
  · have hm : 0 ≤ n % t ∧ n % t < t := ⟨Int.emod_nonneg _ (by omega), Int.emod_lt_of_pos _ (by omega)⟩
    simp only [hp, not_false_eq_true, decide_true, if_true, if_neg (show ¬ t = 0 by omega), posmod (a := n) (b := t) (by omega) (by omega), hth, if_pos (show acc.length < 17592186044416 by omega)]
    by_cases hb : n % t > t / 2
    · have hd1 : dig t n = n % t - t := by unfold dig; rw [if_neg hp, if_pos hb]
      rw [hd1] at h he
      simp only [if_pos hb, wid (x := n % t - t) (by omega) (by omega), wid (x := n - (n % t - t)) (by omega) (by omega), half_even he, wid (x := (n - (n % t - t)) / 2) (by omega) (by omega)]
      exact h
    · have hd1 : dig t n = n % t := by unfold dig; rw [if_neg hp, if_neg hb]
      rw [hd1] at h he
      simp only [if_neg hb, wid (x := n - n % t) (by omega) (by omega), half_even he, wid (x := (n - n % t) / 2) (by omega) (by omega)]
      exact h
theorem specWin_zero (t : Int) (acc : List Int) : Ev (fun k => spec_siWindow.l0 k 0 acc t) acc := by
  refine up ?_
  simp only [spec_siWindow.l0, if_true]
  exact Ev.now _
theorem specWin_loop {t : Int} (ht : Pw t) : ∀ (f : Nat) (n : Int) (acc : List Int), f ≤ 20 → -(2 ^ f) ≤ n → n ≤ 2 ^ f → acc.length + f < 1000 →
    Ev (fun k => spec_siWindow.l0 k n acc t) (acc ++ win t f n) := by
  intro f
  induction f with
  | zero =>
    intro n acc hf h0 h1 ha
    by_cases hn : n = 0
    · subst hn; rw [win_nil, List.append_nil]; exact specWin_zero t acc
    · have e := dig_one ht hn (by omega) (by omega)
      refine specWin_step ht hn (by omega) (by omega) acc (by omega) ?_
      rw [e, Int.sub_self, show (0 : Int) / 2 = 0 from rfl, show win t 0 n = [n] by unfold win; rw [if_neg hn]]
      exact specWin_zero t _
  | succ f ih =>
    intro n acc hf h0 h1 ha
    have hp := pow20 hf
    by_cases hn : n = 0
    · subst hn; rw [win_nil, List.append_nil]; exact specWin_zero t acc
    · have hx := dig_next ht f h0 h1
      have := ih ((n - dig t n) / 2) (acc ++ [dig t n]) (by omega) hx.1 hx.2 (by simp; omega)
      refine specWin_step ht hn (by omega) (by omega) acc (by omega) ?_
      rw [show win t (f + 1) n = dig t n :: win t f ((n - dig t n) / 2) by rw [win, if_neg hn]]
      simpa using this
theorem specWin {t w : Int} (ht : Pw t) (hw0 : 0 ≤ w) (hs : shl .i64 1 w = t) (n : Int) (h0 : -1000000 ≤ n) (h1 : n ≤ 1000000) : Ev (fun k => spec_siWindow.f k n w) (win t 20 n) := by
  have := specWin_loop ht 20 n [] (by omega) (by omega) (by omega) (by simp)
  simpa [spec_siWindow.f, if_pos hw0, hs] using this
theorem take_succ_rev {D : List Int} {j : Nat} (h : j < D.length) : (D.take (j + 1)).reverse = D[j] :: (D.take j).reverse := by
  rw [List.take_add_one, List.getElem?_eq_getElem h]
  simp
theorem siChain_loop (D : List Int) (hD : D.length ≤ 1000) : ∀ (j : Nat) (out : List Int) (v : Int), j ≤ D.length → out.length + 2 * j ≤ 10000 → lastD out = v → Ev (fun k => spec_siChain.l0 k D out v ((j : Int) - 1)) ((D.take j).reverse.foldl chStep out) := by
  intro j
  induction j with
  | zero =>
    intro out v _ _ _
    refine up ?_
    simp only [spec_siChain.l0, if_neg (show ¬ (((0 : Nat) : Int) - 1 ≥ 0) by omega), List.take_zero, List.reverse_nil, List.foldl_nil]
    exact Ev.now _
  | succ j ih =>
    intro out v hj ho hv
    have hlt : j < D.length := by omega
    have e : ((j + 1 : Nat) : Int) - 1 = (j : Int) := by omega
    rw [take_succ_rev hlt, List.foldl_cons]
    refine up ?_
    have hm : wrap64 (v * 2) = wrap64 (2 * lastD out) := by rw [hv, Int.mul_comm]
    simp only [spec_siChain.l0, e, if_pos (show (j : Int) ≥ 0 by omega), if_pos (show (0 : Int) ≤ (j : Int) by omega), if_pos (show (j : Int) < (D.length : Int) by omega), if_pos (show out.length < 17592186044416 by omega), Option.bind_some, rd_at hlt, wid (x := (j : Int) - 1) (by omega) (by omega), hm, List.length_append, List.length_singleton, if_pos (show out.length + 1 < 17592186044416 by omega)]
    unfold chStep
    by_cases h0 : D[j] = 0
    · simp only [h0, if_true]
      exact ih _ _ (by omega) (by simp; omega) (lastD_snoc _ _)
    · simp only [h0, if_false]
      exact ih _ _ (by omega) (by simp; omega) (lastD_snoc _ _)
theorem siChain_val {n : Int} (h0 : 1 ≤ n) (h1 : n ≤ 1000000) : Ev (fun k => spec_siChain.f k n) (chainW (win 4 20 n)) := by
  obtain ⟨D, hD, hl0, hl1, _⟩ := chainW_ok h0 h1
  simp only [spec_siChain.f]
  refine Ev.bind (specWin pw4 (by omega) (by decide) n (by omega) (by omega)) ?_
  rw [hD]
  unfold chainW
  have := siChain_loop D (by omega) (D.length - 1) [1] 1 (by omega) (by simp; omega) rfl
  rw [show ((D.length - 1 : Nat) : Int) - 1 = (D.length : Int) - 2 by omega] at this
  rw [wid (x := (D.length : Int) - 2) (by omega) (by omega)]
  exact this
theorem l1Has_loop (x : Int) (l : List Int) (hl : l.length ≤ 17592186044416) : ∀ (d i : Nat), i + d = l.length → Ev (fun k => spec_l1Has.l0 k x l (l.length : Int) i) (hasB (l.drop i) x) := by
  intro d
  induction d with
  | zero =>
    intro i h
    refine up ?_
    simp only [spec_l1Has.l0, if_neg (show ¬ (i : Int) < (l.length : Int) by omega)]
    rw [show i = l.length by omega, hasB_end]
    exact Ev.now _
  | succ d ih =>
    intro i h
    have hi : i < l.length := by omega
    refine up ?_
    simp only [spec_l1Has.l0, if_pos (show (i : Int) < (l.length : Int) by omega), if_pos (show (0 : Int) ≤ (i : Int) by omega), rd_at hi, wid (x := (i : Int) + 1) (by omega) (by omega)]
    rw [hasB_drop hi]
    by_cases e : l[i] = x
    · simp only [e, if_true, decide_true, Bool.true_or]; exact Ev.now _
    · simp only [e, if_false, decide_false, Bool.false_or]; exact ih (i + 1) (by omega)
theorem l1Has_val (x : Int) (l : List Int) (hl : l.length ≤ 17592186044416) : Ev (fun k => spec_l1Has.f k l x) (hasB l x) := l1Has_loop x l hl l.length 0 (by omega)
theorem siMade_loop (n : Int) (l : List Int) (hl : l.length ≤ 1000000) : ∀ (d i : Nat), i + d = l.length → Ev (fun k => spec_siMade.l0 k l n l (l.length : Int) i) ((l.drop i).any fun a => hasB l (wrap64 (n - a)) || hasB l (wrap64 (n + a))) := by
  intro d
  induction d with
  | zero =>
    intro i h
    refine up ?_
    rw [List.drop_of_length_le (by omega)]
    simp only [spec_siMade.l0, if_neg (show ¬ (i : Int) < (l.length : Int) by omega)]
    exact Ev.now _
  | succ d ih =>
    intro i h
    have hi : i < l.length := by omega
    refine up ?_
    simp only [spec_siMade.l0, if_pos (show (i : Int) < (l.length : Int) by omega), if_pos (show (0 : Int) ≤ (i : Int) by omega), rd_at hi, wid (x := (i : Int) + 1) (by omega) (by omega)]
    rw [List.drop_eq_getElem_cons hi, List.any_cons]
    refine Ev.bind (l1Has_val _ l (by omega)) ?_
    cases h1 : hasB l (wrap64 (n - l[i])) with
    | true => simp only [if_true, Bool.true_or]; exact Ev.now _
    | false =>
      simp only [Bool.false_eq_true, if_false, Bool.false_or]
      refine Ev.bind (l1Has_val _ l (by omega)) ?_
      cases h2 : hasB l (wrap64 (n + l[i])) with
      | true => simp only [if_true, Bool.true_or]; exact Ev.now _
      | false => simp only [Bool.false_eq_true, if_false, Bool.false_or]; exact ih (i + 1) (by omega)
theorem siMade_val (n : Int) (l : List Int) (hl : l.length ≤ 1000000) : Ev (fun k => spec_siMade.f k l n) (madeB l n) := siMade_loop n l hl l.length 0 (by omega)
theorem specChain_loop (l : List Int) (hl : l.length ≤ 1000000) : ∀ (d i : Nat), i + d = l.length → Ev (fun k => spec_IsSubtractionChain.l0 k l i) (chainFrom l d i) := by
  intro d
  induction d with
  | zero =>
    intro i h
    refine up ?_
    simp only [spec_IsSubtractionChain.l0, if_neg (show ¬ (i : Int) < (l.length : Int) by omega), chainFrom]
    exact Ev.now _
  | succ d ih =>
    intro i h
    refine up ?_
    simp only [spec_IsSubtractionChain.l0, if_pos (show (i : Int) < (l.length : Int) by omega), if_pos (show (0 : Int) ≤ (i : Int) by omega), if_pos (show (i : Int) ≤ (l.length : Int) by omega), Int.toNat_natCast, wid (x := (i : Int) + 1) (by omega) (by omega), chainFrom]
    have ht : (l.take i).length ≤ 1000000 := by rw [List.length_take]; omega
    refine Ev.bind (l1Has_val _ _ (by omega)) ?_
    cases h1 : hasB (l.take i) (rd l i) with
    | true => simp only [if_true]; exact Ev.now _
    | false =>
      simp only [Bool.false_eq_true, if_false]
      refine Ev.bind (siMade_val _ _ ht) ?_
      cases h2 : madeB (l.take i) (rd l i) with
      | true => simp only [if_true]; exact ih (i + 1) (by omega)
      | false => simp only [Bool.false_eq_true, if_false]; exact Ev.now _
theorem specSub (l : List Int) (hl : l.length ≤ 17592186044416) : Ev (fun k => spec_IsSubtractionChain.f k l) (subChainB l) := by
  have j0t : Ev (fun k => spec_IsSubtractionChain.j0 k l true) false := by refine up ?_; simp only [spec_IsSubtractionChain.j0, if_true]; exact Ev.now _
  simp only [spec_IsSubtractionChain.f, l1In_val, Option.bind_some]
  by_cases h : 1 ≤ l.length ∧ l.length ≤ 41
  · have e1 : (decide ((1 : Int) ≤ (l.length : Int)) && decide ((l.length : Int) ≤ 41)) = true := by simp; omega
    simp only [e1, if_true]
    have e2 : subChainB l = (allIn 1 1000000 l && (rd l 0 == 1 && chainFrom l (l.length - 1) 1)) := by simp [subChainB, h]
    rw [e2]
    refine Ev.bind (l1All_val 1 1000000 l hl) ?_
    cases h1 : allIn 1 1000000 l with
    | false => simp only [Bool.false_eq_true, if_false, Bool.false_and]; exact j0t
    | true =>
      simp only [if_true, Bool.true_and, if_pos (show (0 : Int) < (l.length : Int) by omega)]
      by_cases h2 : rd l 0 = 1
      · simp only [h2, bne_self_eq_false, beq_self_eq_true, Bool.true_and]
        refine up ?_
        simp only [spec_IsSubtractionChain.j0, Bool.false_eq_true, if_false]
        exact specChain_loop l (by omega) (l.length - 1) 1 (by omega)
      · have e3 : (rd l 0 != 1) = true := by simp [h2]
        have e4 : (rd l 0 == 1) = false := by simp [h2]
        rw [e3, e4, Bool.false_and]; exact j0t
  · have e1 : (decide ((1 : Int) ≤ (l.length : Int)) && decide ((l.length : Int) ≤ 41)) = false := by simp; omega
    have e2 : subChainB l = false := by unfold subChainB; rw [show (decide (1 ≤ l.length) && decide (l.length ≤ 41)) = false by simp; omega]; rfl
    simp only [e1, Bool.false_eq_true, if_false]
    rw [e2]; exact j0t
theorem rest_val {a b : Int} (hb : 0 < b) (hb2 : b ≤ 1000000000000000) : impl_rest.f a b = some (a % b) := by
  unfold impl_rest.f
  rw [if_neg (by omega), posmod hb hb2]
theorem implWin_step {t w n : Int} (ht : Pw t) (hw0 : 1 ≤ w) (hw1 : w ≤ 6) (hs : shl .i64 1 w = t) (hh : shl .i64 1 (w - 1) = t / 2) (hn0 : n ≠ 0) (h0 : -2000000 ≤ n) (h1 : n ≤ 2000000) (acc : List Int) (ha : acc.length < 1000) {r : List Int}
    (h : Ev (fun k => impl_windowed.l0 k ((n - dig t n) / 2) w (acc ++ [dig t n])) r) : Ev (fun k => impl_windowed.l0 k n w acc) r := by
  have hd := dig_size ht n
  have he := dig_even ht n
  have ht2 : 0 < t ∧ t ≤ 64 := by unfold Pw at ht; omega
  refine up ?_
  simp only [impl_windowed.l0, if_neg hn0]
  by_cases hp : n % 2 = 0
  · have hd0 : dig t n = 0 := by unfold dig; rw [if_pos hp]
    rw [hd0] at h he
    simp only [if_pos ((odd_test n).2 hp), if_pos (show acc.length < 17592186044416 by omega), wid (x := n - 0) (by omega) (by omega), half_even he, wid (x := (n - 0) / 2) (by omega) (by omega)]
    exact h
  · have hm : 0 ≤ n % t ∧ n % t < t := ⟨Int.emod_nonneg _ (by omega), Int.emod_lt_of_pos _ (by omega)⟩
    simp only [if_neg (mt (odd_test n).1 hp), if_pos (show (0 : Int) ≤ w by omega), hs, rest_val (a := n) (b := t) (by omega) (by omega), Option.bind_some, wid (x := w - 1) (by omega) (by omega), if_pos (show (0 : Int) ≤ w - 1 by omega), hh, if_pos (show acc.length < 17592186044416 by omega)]
    by_cases hb : n % t > t / 2
    · have hd1 : dig t n = n % t - t := by unfold dig; rw [if_neg hp, if_pos hb]
      rw [hd1] at h he
      simp only [if_pos hb, wid (x := n % t - t) (by omega) (by omega), wid (x := n - (n % t - t)) (by omega) (by omega), half_even he, wid (x := (n - (n % t - t)) / 2) (by omega) (by omega)]
      exact h
    · have hd1 : dig t n = n % t := by unfold dig; rw [if_neg hp, if_neg hb]
      rw [hd1] at h he
      simp only [if_neg hb, wid (x := n - n % t) (by omega) (by omega), half_even he, wid (x := (n - n % t) / 2) (by omega) (by omega)]
      exact h
theorem implWin_zero (w : Int) (acc : List Int) : Ev (fun k => impl_windowed.l0 k 0 w acc) acc := by
  refine up ?_
  simp only [impl_windowed.l0, if_true]
  exact Ev.now _
theorem implWin_loop {t w : Int} (ht : Pw t) (hw0 : 1 ≤ w) (hw1 : w ≤ 6) (hs : shl .i64 1 w = t) (hh : shl .i64 1 (w - 1) = t / 2) : ∀ (f : Nat) (n : Int) (acc : List Int), f ≤ 20 → -(2 ^ f) ≤ n → n ≤ 2 ^ f → acc.length + f < 1000 →
    Ev (fun k => impl_windowed.l0 k n w acc) (acc ++ win t f n) := by
  intro f
  induction f with
  | zero =>
    intro n acc hf h0 h1 ha
    by_cases hn : n = 0
    · subst hn; rw [win_nil, List.append_nil]; exact implWin_zero w acc
    · have e := dig_one ht hn (by omega) (by omega)
      refine implWin_step ht hw0 hw1 hs hh hn (by omega) (by omega) acc (by omega) ?_
      rw [e, Int.sub_self, show (0 : Int) / 2 = 0 from rfl, show win t 0 n = [n] by unfold win; rw [if_neg hn]]
      exact implWin_zero w _
  | succ f ih =>
    intro n acc hf h0 h1 ha
    have hp := pow20 hf
    by_cases hn : n = 0
    · subst hn; rw [win_nil, List.append_nil]; exact implWin_zero w acc
    · have hx := dig_next ht f h0 h1
      have := ih ((n - dig t n) / 2) (acc ++ [dig t n]) (by omega) hx.1 hx.2 (by simp; omega)
      refine implWin_step ht hw0 hw1 hs hh hn (by omega) (by omega) acc (by omega) ?_
      rw [show win t (f + 1) n = dig t n :: win t f ((n - dig t n) / 2) by rw [win, if_neg hn]]
      simpa using this
theorem implWin {t w : Int} (ht : Pw t) (hw0 : 1 ≤ w) (hw1 : w ≤ 6) (hs : shl .i64 1 w = t) (hh : shl .i64 1 (w - 1) = t / 2) (n : Int) (h0 : -1000000 ≤ n) (h1 : n ≤ 1000000) : Ev (fun k => impl_windowed.f k n w) (win t 20 n) := by
  have := implWin_loop ht hw0 hw1 hs hh 20 n [] (by omega) (by omega) (by omega) (by simp)
  simpa [impl_windowed.f] using this
theorem rSame_loop (l : List Int) (hl : l.length ≤ 140737488351232) : ∀ (d : Nat) (i : Int), 0 ≤ i → i + d = l.length → Ev (fun k => laws_rSame.l0 k l l (l.length : Int) i) true := by
  intro d
  induction d with
  | zero =>
    intro i h0 h
    refine up ?_
    simp only [laws_rSame.l0, if_neg (show ¬ i < (l.length : Int) by omega)]
    exact Ev.now _
  | succ d ih =>
    intro i h0 h
    refine up ?_
    simp only [laws_rSame.l0, if_pos (show i < (l.length : Int) by omega), if_pos h0, if_true, wid (x := i + 1) (by omega) (by omega)]
    exact ih (i + 1) (by omega) (by omega)
theorem rSame_same (l : List Int) (hl : l.length ≤ 140737488351232) : Ev (fun k => laws_rSame.f k l l) true := by
  simp only [laws_rSame.f, if_true]
  exact rSame_loop l hl l.length 0 (by omega) (by omega)
theorem enum_chk {k : Nat} {nn : List Int} (h : ssEnum k nn = true) : ssChk nn = true := by
  cases k with
  | zero => exact h
  | succ k => rw [ssEnum, Bool.and_eq_true] at h; exact h.1
theorem enum_R {k : Nat} {nn : List Int} {x : Int} (h : ssEnum k nn = true) (h1 : 1 ≤ x) (h2 : x ≤ 64) : ssR3 nn x = ssR2 nn x := by
  have h := enum_chk h
  unfold ssR3 ssR2
  cases h3 : nn.contains (x + ssLast nn) with
  | false => rw [Bool.or_false]
  | true =>
    unfold ssChk at h
    have h := List.all_eq_true.1 h _ (List.contains_iff_mem.1 h3)
    rw [show x + ssLast nn - ssLast nn = x by omega, decide_eq_true h1, decide_eq_true h2] at h
    cases ha : nn.contains x <;> cases hb : nn.contains (x - ssLast nn) <;> cases hc : nn.contains (ssLast nn - x) <;> simp_all
theorem mem_nexts (last : Int) (nn : List Int) (x : Int) : x ∈ ssNexts last nn ↔ (nn.contains (x - last) || nn.contains (last - x)) = true := by
  unfold ssNexts
  rw [Bool.or_eq_true, List.contains_iff_mem, List.contains_iff_mem, List.mem_flatMap]
  constructor
  · rintro ⟨a, ha, hx⟩
    simp only [List.mem_cons, List.not_mem_nil, or_false] at hx
    rcases hx with rfl | rfl
    · left; rw [show last + a - last = a by omega]; exact ha
    · right; rw [show last - (last - a) = a by omega]; exact ha
  · rintro (h | h)
    · exact ⟨_, h, by simp; omega⟩
    · exact ⟨_, h, by simp; omega⟩
theorem R2_iff (nn : List Int) (x : Int) : ssR2 nn x = true ↔ nn.contains x = false ∧ x ∈ ssNexts (ssLast nn) nn := by
  unfold ssR2
  rw [Bool.and_eq_true, mem_nexts, Bool.not_eq_true']
theorem enum_next {k : Nat} {nn : List Int} {x : Int} (h : ssEnum (k + 1) nn = true) (h1 : 1 ≤ x) (h2 : x ≤ 64) (hR : ssR2 nn x = true) : ssEnum k (nn ++ [x]) = true := by
  rw [ssEnum, Bool.and_eq_true] at h
  obtain ⟨hc, hm⟩ := (R2_iff nn x).1 hR
  have := List.all_eq_true.1 h.2 x hm
  rw [decide_eq_true h1, decide_eq_true h2, hc] at this
  simpa using this
def rangeI (most : Int) : List Int := (List.range most.toNat).map fun i : Nat => (i : Int) + 1
theorem mem_range (most x : Int) : x ∈ rangeI most ↔ 1 ≤ x ∧ x ≤ most := by
  unfold rangeI
  rw [List.mem_map]
  constructor
  · rintro ⟨i, hi, rfl⟩; rw [List.mem_range] at hi; omega
  · rintro ⟨h1, h2⟩; exact ⟨(x - 1).toNat, by rw [List.mem_range]; omega, by omega⟩
theorem range_at (most : Int) (i : Nat) (h : i < (rangeI most).length) : (rangeI most)[i] = (i : Int) + 1 := by simp only [rangeI, List.getElem_map, List.getElem_range]
theorem range_sorted (most : Int) : (rangeI most).Pairwise (· < ·) := by
  unfold rangeI
  rw [List.pairwise_map]
  exact List.pairwise_lt_range.imp (fun h => by omega)
def refTry (c : Int → Bool) (f : List Int → List Int) (nn : List Int) : List Int → List Int
  | [] => []
  | x :: xs => if c x = true then (if f (nn ++ [x]) ≠ [] then f (nn ++ [x]) else refTry c f nn xs) else refTry c f nn xs
def refS (n most : Int) : Nat → List Int → List Int
  | 0, nn => if ssLast nn = n then nn else []
  | l + 1, nn => refTry (ssR3 nn) (refS n most l) nn (rangeI most)
theorem refTry_nil (c : Int → Bool) (f : List Int → List Int) (nn : List Int) : ∀ xs, (∀ x ∈ xs, c x = true → f (nn ++ [x]) = []) → refTry c f nn xs = []
  | [], _ => rfl
  | x :: xs, h => by
    have ih := refTry_nil c f nn xs (fun y hy => h y (List.mem_cons_of_mem _ hy))
    rw [refTry]
    split
    · rename_i hc
      rw [if_neg (by rw [h x List.mem_cons_self hc]; simp)]
      exact ih
    · exact ih
theorem refTry_congr (c d : Int → Bool) (f : List Int → List Int) (nn : List Int) : ∀ xs, (∀ x ∈ xs, c x = d x) → refTry c f nn xs = refTry d f nn xs
  | [], _ => rfl
  | x :: xs, h => by rw [refTry, refTry, h x List.mem_cons_self, refTry_congr c d f nn xs (fun y hy => h y (List.mem_cons_of_mem _ hy))]
theorem refTry_filter (c : Int → Bool) (f : List Int → List Int) (nn : List Int) : ∀ xs, refTry c f nn xs = refTry (fun _ => true) f nn (xs.filter c)
  | [] => rfl
  | x :: xs => by
    rw [refTry, List.filter_cons]
    split
    · rw [refTry, if_pos rfl, refTry_filter c f nn xs]
    · exact refTry_filter c f nn xs
def Same (p : List Int × Bool) (r : List Int) : Prop := p.2 = true ∧ p.1 = r ∧ r ≠ [] ∨ p.2 = false ∧ r = []
theorem try_same (most : Int) (f : List Int → List Int × Bool) (g : List Int → List Int) (nn : List Int) : ∀ xs, (∀ x ∈ xs, 1 ≤ x → x ≤ most → nn.contains x = false → Same (f (nn ++ [x])) (g (nn ++ [x]))) → Same (ssTry most f nn xs) (refTry (fun _ => true) g nn (xs.filter fun x => decide ((1 ≤ x ∧ x ≤ most) ∧ nn.contains x = false)))
  | [], _ => Or.inr ⟨rfl, rfl⟩
  | x :: xs, h => by
    have ih := try_same most f g nn xs (fun y hy => h y (List.mem_cons_of_mem _ hy))
    rw [ssTry, List.filter_cons]
    by_cases hc : (1 ≤ x ∧ x ≤ most) ∧ nn.contains x = false
    · rw [if_pos hc, decide_eq_true hc, if_pos rfl, refTry, if_pos rfl]
      rcases h x List.mem_cons_self hc.1.1 hc.1.2 hc.2 with ⟨h1, h2, h3⟩ | ⟨h1, h2⟩
      · rw [if_pos h1, if_pos h3]
        exact Or.inl ⟨rfl, h2, h3⟩
      · rw [h1, if_neg (by simp), if_neg (by rw [h2]; simp)]
        exact ih
    · rw [if_neg hc, decide_eq_false hc, if_neg (by simp)]
      exact ih
theorem last_snoc (nn : List Int) (x : Int) : ssLast (nn ++ [x]) = x := by
  unfold ssLast rd
  rw [List.length_append, List.length_singleton, show (((nn.length + 1 : Nat) : Int) - 1).toNat = nn.length by omega, List.getD_eq_getElem?_getD, List.getElem?_append_right (Nat.le_refl _)]
  simp
theorem last_mem (nn : List Int) (h : nn ≠ []) : ssLast nn ∈ nn := by
  have hl := List.length_pos_iff.2 h
  unfold ssLast rd
  rw [show ((nn.length : Int) - 1).toNat = nn.length - 1 by omega, List.getD_eq_getElem?_getD, List.getElem?_eq_getElem (show nn.length - 1 < nn.length by omega)]
  exact List.getElem_mem _
theorem refS_cut (n most : Int) : ∀ (l : Nat) (nn : List Int) (M : Int), nn ≠ [] → (∀ x ∈ nn, 1 ≤ x ∧ x ≤ M) → M * 2 ^ l < n → refS n most l nn = []
  | 0, nn, M, hne, hb, hM => by
    have := (hb _ (last_mem nn hne)).2
    rw [refS, if_neg (by omega)]
  | l + 1, nn, M, hne, hb, hM => by
    rw [refS]
    refine refTry_nil _ _ _ _ fun x hx hc => ?_
    have hx := (mem_range most x).1 hx
    have hl := hb _ (last_mem nn hne)
    have hx2 : x ≤ 2 * M := by
      unfold ssR3 at hc
      rw [Bool.and_eq_true, Bool.or_eq_true, Bool.or_eq_true, List.contains_iff_mem, List.contains_iff_mem, List.contains_iff_mem] at hc
      rcases hc.2 with (h | h) | h
      · have := hb _ h; omega
      · have := hb _ h; omega
      · have := hb _ h; omega
    refine refS_cut n most l (nn ++ [x]) (2 * M) (by simp) (fun y hy => ?_) (by rw [Int.pow_succ] at hM; rw [Int.mul_comm 2 M, Int.mul_assoc, Int.mul_comm 2]; exact hM)
    rcases List.mem_append.1 hy with hy | hy
    · have := hb y hy; omega
    · rw [List.mem_singleton] at hy; omega
theorem fold_le : ∀ (l : List Int) (a : Int), a ≤ l.foldl max a ∧ ∀ x ∈ l, x ≤ l.foldl max a
  | [], a => ⟨Int.le_refl _, fun _ h => by cases h⟩
  | y :: l, a => by
    have ih := fold_le l (max a y)
    rw [List.foldl_cons]
    refine ⟨by have := ih.1; omega, fun x hx => ?_⟩
    rcases List.mem_cons.1 hx with rfl | hx
    · have := ih.1; omega
    · exact ih.2 x hx
theorem sub_same (n most : Int) (hmost : most ≤ 64) : ∀ (l : Nat) (nn : List Int), nn ≠ [] → (∀ x ∈ nn, 1 ≤ x ∧ x ≤ 64) → (∀ k, l = k + 1 → ssEnum k nn = true) → Same (ssSub n most l nn) (refS n most l nn)
  | 0, nn, hne, hb, _ => by
    rw [ssSub, refS]
    by_cases h : ssLast nn = n
    · rw [if_pos h, h, beq_self_eq_true]
      exact Or.inl ⟨rfl, rfl, hne⟩
    · rw [if_neg h, beq_eq_false_iff_ne.mpr h]
      exact Or.inr ⟨rfl, rfl⟩
  | l + 1, nn, hne, hb, hE => by
    have hE := hE l rfl
    rw [ssSub]
    by_cases hc : Lib.maxOf nn * 2 ^ (l + 1) < n
    · rw [if_pos hc]
      exact Or.inr ⟨rfl, refS_cut n most (l + 1) nn (Lib.maxOf nn) hne (fun x hx => ⟨(hb x hx).1, (fold_le nn _).2 x hx⟩) hc⟩
    · rw [if_neg hc, refS, refTry_congr (ssR3 nn) (ssR2 nn) _ nn (rangeI most) (fun x hx => by have := (mem_range most x).1 hx; exact enum_R hE this.1 (by omega)), refTry_filter]
      have hq : (rangeI most).filter (ssR2 nn) = (YtlmoemahamneoaaInc.incOf (ssNexts (ssLast nn) nn)).filter fun x => decide ((1 ≤ x ∧ x ≤ most) ∧ nn.contains x = false) := by
        obtain ⟨i1, i2⟩ := YtlmoemahamneoaaInc.inc_facts (ssNexts (ssLast nn) nn)
        refine YtlmoemahamneoaaInc.strict_unique _ _ ((range_sorted most).filter _) (i2.filter _) fun x => ?_
        rw [List.mem_filter, List.mem_filter, mem_range, i1, R2_iff, decide_eq_true_iff]
        constructor
        · rintro ⟨h1, h2, h3⟩; exact ⟨h3, h1, h2⟩
        · rintro ⟨h3, h1, h2⟩; exact ⟨h1, h2, h3⟩
      rw [hq]
      refine try_same most _ _ nn _ fun x hx h1 h2 h3 => ?_
      have hx2 := ((YtlmoemahamneoaaInc.inc_facts (ssNexts (ssLast nn) nn)).1 x).1 hx
      refine sub_same n most hmost l (nn ++ [x]) (by simp) (fun y hy => ?_) (fun k hk => ?_)
      · rcases List.mem_append.1 hy with hy | hy
        · exact hb y hy
        · rw [List.mem_singleton] at hy; omega
      · subst hk
        exact enum_next hE h1 (by omega) ((R2_iff nn x).2 ⟨h3, hx2⟩)
theorem si_skip {nn : List Int} {n most more last x : Int} {r : List Int} (h1 : 1 ≤ x) (h2 : x ≤ 64) (h : Ev (fun k => spec_siSearch.l0 k nn n most more last (x + 1)) r) : Ev (fun k => spec_siSearch.j1 k nn n most more last x true) r := by
  refine up ?_
  simp only [spec_siSearch.j1, if_true, wid (x := x + 1) (by omega) (by omega)]
  exact h
theorem own_val (nn : List Int) (h : nn.length ≤ 100) : spec_l1Own.f nn = some nn := by
  unfold spec_l1Own.f
  rw [Option.bind_some, if_pos (by rw [List.length_nil]; omega), List.nil_append]
theorem si_go {nn : List Int} {n most more last x : Int} {q r : List Int} (hl : nn.length ≤ 100) (hm : 1 ≤ more ∧ more ≤ 10) (h1 : 1 ≤ x) (h2 : x ≤ 64) (hq : Ev (fun k => spec_siSearch.f k (nn ++ [x]) n most (more - 1)) q) (hq2 : q.length ≤ 100) (hr : q ≠ [] → r = q) (h : q = [] → Ev (fun k => spec_siSearch.l0 k nn n most more last (x + 1)) r) : Ev (fun k => spec_siSearch.j1 k nn n most more last x false) r := by
  refine up ?_
  simp only [spec_siSearch.j1, Bool.false_eq_true, if_false, own_val nn hl, Option.bind_some, if_pos (show nn.length < 17592186044416 by omega), wid (x := x + 1) (by omega) (by omega), wid (x := more - 1) (by omega) (by omega)]
  refine Ev.bind hq ?_
  by_cases e : q = []
  · subst e
    simp only [List.length_nil]
    rw [if_neg_ev (by decide)]
    exact h rfl
  · have := List.length_pos_iff.2 e
    simp only [if_pos (show (q.length : Int) > 0 by omega)]
    rw [hr e]
    exact Ev.now _
theorem si_loop (n most : Int) (hmost : most ≤ 64) (l : Nat) (hl9 : l ≤ 6) (nn : List Int) (hne : nn ≠ []) (hlen : nn.length ≤ 8) (hb : ∀ x ∈ nn, 1 ≤ x ∧ x ≤ 64) (g : List Int → List Int) (hg : ∀ x, 1 ≤ x → x ≤ 64 → (g (nn ++ [x])).length ≤ 100 ∧ Ev (fun k => spec_siSearch.f k (nn ++ [x]) n most (l : Int)) (g (nn ++ [x]))) : ∀ (d i : Nat), i + d = (rangeI most).length → Ev (fun k => spec_siSearch.l0 k nn n most ((l : Int) + 1) (ssLast nn) ((i : Int) + 1)) (refTry (ssR3 nn) g nn ((rangeI most).drop i)) := by
  have hrl : (rangeI most).length = most.toNat := by unfold rangeI; simp
  have hlb := hb _ (last_mem nn hne)
  intro d
  induction d with
  | zero =>
    intro i h
    rw [List.drop_of_length_le (by omega), refTry]
    refine up ?_
    simp only [spec_siSearch.l0, if_neg (show ¬ ((i : Int) + 1 ≤ most) by omega)]
    exact Ev.now _
  | succ d ih =>
    intro i h
    have hi : i < (rangeI most).length := by omega
    have hx : (rangeI most)[i] = (i : Int) + 1 := range_at most i hi
    have ih := ih (i + 1) (by omega)
    rw [List.drop_eq_getElem_cons hi, hx, refTry]
    rw [show ((i + 1 : Nat) : Int) = (i : Int) + 1 by omega] at ih
    obtain ⟨x, hxe⟩ : ∃ x, (i : Int) + 1 = x := ⟨_, rfl⟩
    rw [hxe] at ih ⊢
    have h1 : 1 ≤ x := by omega
    have h2 : x ≤ most := by omega
    obtain ⟨hq2, hq⟩ := hg x h1 (by omega)
    have go := fun (hc : ssR3 nn x = true) => si_go (nn := nn) (n := n) (most := most) (more := (l : Int) + 1) (last := ssLast nn) (x := x) (q := g (nn ++ [x])) (r := if ssR3 nn x = true then (if g (nn ++ [x]) ≠ [] then g (nn ++ [x]) else refTry (ssR3 nn) g nn ((rangeI most).drop (i + 1))) else refTry (ssR3 nn) g nn ((rangeI most).drop (i + 1))) (by omega) (by omega) h1 (by omega) (by rw [show (l : Int) + 1 - 1 = (l : Int) by omega]; exact hq) hq2 (fun e => by rw [if_pos hc, if_pos e]) (fun e => by rw [if_pos hc, if_neg (by rw [e]; simp)]; exact ih)
    have skip := fun (hc : ssR3 nn x = false) => si_skip (nn := nn) (n := n) (most := most) (more := (l : Int) + 1) (last := ssLast nn) (x := x) (r := if ssR3 nn x = true then (if g (nn ++ [x]) ≠ [] then g (nn ++ [x]) else refTry (ssR3 nn) g nn ((rangeI most).drop (i + 1))) else refTry (ssR3 nn) g nn ((rangeI most).drop (i + 1))) h1 (by omega) (by rw [hc, if_neg (by simp)]; exact ih)
    have hR : ssR3 nn x = (!(hasB nn x) && (hasB nn (x - ssLast nn) || hasB nn (ssLast nn - x) || hasB nn (x + ssLast nn))) := rfl
    refine up ?_
    simp only [spec_siSearch.l0, if_pos h2, wid (x := x - ssLast nn) (by omega) (by omega), wid (x := ssLast nn - x) (by omega) (by omega), wid (x := x + ssLast nn) (by omega) (by omega)]
    refine Ev.bind (l1Has_val x nn (by omega)) ?_
    cases b0 : hasB nn x with
    | true => simp only [if_true]; exact skip (by rw [hR, b0]; rfl)
    | false =>
      simp only [Bool.false_eq_true, if_false]
      refine Ev.bind (l1Has_val (x - ssLast nn) nn (by omega)) ?_
      cases b1 : hasB nn (x - ssLast nn) with
      | true => simp only [if_true, Bool.not_true]; exact go (by rw [hR, b0, b1]; rfl)
      | false =>
        simp only [Bool.false_eq_true, if_false]
        refine Ev.bind (l1Has_val (ssLast nn - x) nn (by omega)) ?_
        cases b2 : hasB nn (ssLast nn - x) with
        | true => simp only [if_true, Bool.not_true]; exact go (by rw [hR, b0, b1, b2]; rfl)
        | false =>
          simp only [Bool.false_eq_true, if_false]
          refine Ev.bind (l1Has_val (x + ssLast nn) nn (by omega)) ?_
          cases b3 : hasB nn (x + ssLast nn) with
          | true => simp only [Bool.not_true]; exact go (by rw [hR, b0, b1, b2, b3]; rfl)
          | false => simp only [Bool.not_false]; exact skip (by rw [hR, b0, b1, b2, b3]; rfl)
theorem refTry_len (c : Int → Bool) (f : List Int → List Int) (nn : List Int) (m : Nat) (h : ∀ x, (f (nn ++ [x])).length ≤ m) : ∀ xs, (refTry c f nn xs).length ≤ m
  | [] => by rw [refTry]; exact Nat.zero_le _
  | x :: xs => by
    rw [refTry]
    split
    · split
      · exact h x
      · exact refTry_len c f nn m h xs
    · exact refTry_len c f nn m h xs
theorem refS_len (n most : Int) : ∀ (l : Nat) (nn : List Int), (refS n most l nn).length ≤ nn.length + l
  | 0, nn => by
    rw [refS]
    split
    · omega
    · exact Nat.zero_le _
  | l + 1, nn => by
    rw [refS]
    refine refTry_len _ _ nn _ (fun x => ?_) _
    have := refS_len n most l (nn ++ [x])
    rw [List.length_append, List.length_singleton] at this
    omega
theorem si_val (n most : Int) (hmost : most ≤ 64) : ∀ (l : Nat) (nn : List Int), nn ≠ [] → nn.length + l ≤ 7 → (∀ x ∈ nn, 1 ≤ x ∧ x ≤ 64) → Ev (fun k => spec_siSearch.f k nn n most (l : Int)) (refS n most l nn) := by
  intro l
  induction l with
  | zero =>
    intro nn hne hl hb
    have hp := List.length_pos_iff.2 hne
    refine up ?_
    rw [refS]
    simp only [spec_siSearch.f, wid (x := (nn.length : Int) - 1) (by omega) (by omega), if_pos (show 0 ≤ (nn.length : Int) - 1 by omega), if_pos (show (nn.length : Int) - 1 < (nn.length : Int) by omega), if_pos (show ((0 : Nat) : Int) = 0 from rfl)]
    unfold ssLast
    by_cases h : rd nn ((nn.length : Int) - 1) = n
    · simp only [if_pos h]; exact Ev.now _
    · simp only [if_neg h]; exact Ev.now _
  | succ l ih =>
    intro nn hne hl hb
    have hp := List.length_pos_iff.2 hne
    refine up ?_
    rw [refS]
    simp only [spec_siSearch.f, wid (x := (nn.length : Int) - 1) (by omega) (by omega), if_pos (show 0 ≤ (nn.length : Int) - 1 by omega), if_pos (show (nn.length : Int) - 1 < (nn.length : Int) by omega), if_neg (show ¬ ((l + 1 : Nat) : Int) = 0 by omega)]
    have := si_loop n most hmost l (by omega) nn hne (by omega) hb (refS n most l) (fun x h1 h2 => ⟨by have := refS_len n most l (nn ++ [x]); rw [List.length_append, List.length_singleton] at this; omega, ih (nn ++ [x]) (by simp) (by rw [List.length_append, List.length_singleton]; omega) (fun y hy => by
      rcases List.mem_append.1 hy with hy | hy
      · exact hb y hy
      · rw [List.mem_singleton] at hy; omega)⟩) (rangeI most).length 0 (by omega)
    rw [List.drop_zero] at this
    exact this
theorem find_val (n most : Int) (hmost : most ≤ 64) : ∀ (d l : Nat), l + d = 7 → Ev (fun k => spec_ShortestSubtraction.l0 k n most (l : Int)) (ssFind n most d l) := by
  intro d
  induction d with
  | zero =>
    intro l h
    refine up ?_
    simp only [spec_ShortestSubtraction.l0, if_neg (show ¬ (l : Int) ≤ 6 by omega)]
    exact Ev.now _
  | succ d ih =>
    intro l h
    have hs := si_val n most hmost l [1] (by simp) (by simp; omega) (by intro x hx; rw [List.mem_singleton] at hx; omega)
    have hq := sub_same n most hmost l [1] (by simp) (by intro x hx; rw [List.mem_singleton] at hx; omega) (fun k hk => enum_one k (by omega))
    refine up ?_
    simp only [spec_ShortestSubtraction.l0, if_pos (show (l : Int) ≤ 6 by omega), wid (x := (l : Int) + 1) (by omega) (by omega)]
    refine Ev.bind hs ?_
    rw [ssFind]
    rcases hq with ⟨h1, h2, h3⟩ | ⟨h1, h2⟩
    · have := List.length_pos_iff.2 h3
      rw [if_pos h1, h2]
      simp only [if_pos (show ((refS n most l [1]).length : Int) > 0 by omega)]
      exact Ev.now _
    · rw [h1, h2, if_neg (by simp)]
      simp only [List.length_nil]
      rw [if_neg_ev (by decide)]
      exact ih (l + 1) (by omega)
theorem find_len (n most : Int) : ∀ (d l : Nat), l + d = 7 → (ssFind n most d l).1.length ≤ 8
  | 0, l, _ => by rw [ssFind]; exact Nat.zero_le _
  | d + 1, l, h => by
    rw [ssFind]
    split
    · have := ssSub_len n most l [1]
      rw [List.length_singleton] at this
      dsimp only
      omega
    · exact find_len n most d (l + 1) (by omega)
theorem shortBoth (n most : Int) : ∃ r b, r.length ≤ 8 ∧ Ev (fun k => spec_ShortestSubtraction.f k n most) (r, b) ∧ impl_ShortestSubtraction.f n most = some (r, b) := by
  by_cases h : (1 ≤ n ∧ n ≤ 40) ∧ n ≤ most ∧ most ≤ 64
  · refine ⟨(ssFind n most 7 0).1, (ssFind n most 7 0).2, find_len n most 7 0 rfl, ?_, by unfold impl_ShortestSubtraction.f; rw [if_pos h]⟩
    simp only [spec_ShortestSubtraction.f, l1In_val, Option.bind_some, decide_eq_true h.1.1, decide_eq_true h.1.2, decide_eq_true h.2.1, decide_eq_true h.2.2, Bool.and_self, if_true, Bool.not_true]
    refine up ?_
    simp only [spec_ShortestSubtraction.j0, Bool.false_eq_true, if_false]
    exact find_val n most h.2.2 7 0 rfl
  · refine ⟨[], false, by simp, ?_, by unfold impl_ShortestSubtraction.f; rw [if_neg h]⟩
    simp only [spec_ShortestSubtraction.f, l1In_val, Option.bind_some]
    by_cases h1 : 1 ≤ n ∧ n ≤ 40
    · have h2 : (decide (n ≤ most) && decide (most ≤ 64)) = false := by rw [Bool.and_eq_false_iff, decide_eq_false_iff_not, decide_eq_false_iff_not]; omega
      simp only [decide_eq_true h1.1, decide_eq_true h1.2, Bool.and_self, if_true, h2, Bool.not_false]
      refine up ?_
      simp only [spec_ShortestSubtraction.j0, if_true]
      exact Ev.now _
    · have h2 : (decide (1 ≤ n) && decide (n ≤ 40)) = false := by rw [Bool.and_eq_false_iff, decide_eq_false_iff_not, decide_eq_false_iff_not]; omega
      simp only [h2, Bool.false_eq_true, if_false]
      refine up ?_
      simp only [spec_ShortestSubtraction.j0, if_true]
      exact Ev.now _
/-! A shortest star chain is found by the search with subtractions, too; what is found is a chain. -/
structure SG (most : Int) (nn : List Int) : Prop where
  len : 0 < nn.length
  one : rd nn 0 = 1
  chain : chainFrom nn (nn.length - 1) 1 = true
  bnd : ∀ x ∈ nn, 1 ≤ x ∧ x ≤ most
theorem ssTry_got {most : Int} {f : List Int → List Int × Bool} {nn : List Int} : ∀ xs, (ssTry most f nn xs).2 = true → ∃ x, x ∈ xs ∧ ((1 ≤ x ∧ x ≤ most) ∧ nn.contains x = false) ∧ (f (nn ++ [x])).2 = true ∧ (ssTry most f nn xs).1 = (f (nn ++ [x])).1
  | [], h => by rw [ssTry] at h; cases h
  | x :: xs, h => by
    rw [ssTry] at h ⊢
    by_cases hc : (1 ≤ x ∧ x ≤ most) ∧ nn.contains x = false
    · rw [if_pos hc] at h ⊢
      by_cases hf : (f (nn ++ [x])).2 = true
      · rw [if_pos hf]
        exact ⟨x, List.mem_cons_self .., hc, hf, rfl⟩
      · rw [if_neg hf] at h ⊢
        obtain ⟨y, h1, h2⟩ := ssTry_got xs h
        exact ⟨y, List.mem_cons_of_mem _ h1, h2⟩
    · rw [if_neg hc] at h ⊢
      obtain ⟨y, h1, h2⟩ := ssTry_got xs h
      exact ⟨y, List.mem_cons_of_mem _ h1, h2⟩
theorem ssTry_has {most : Int} {f : List Int → List Int × Bool} {nn : List Int} {x : Int} (hc : (1 ≤ x ∧ x ≤ most) ∧ nn.contains x = false) (hf : (f (nn ++ [x])).2 = true) : ∀ xs, x ∈ xs → (ssTry most f nn xs).2 = true
  | [], h => by cases h
  | y :: xs, h => by
    rw [ssTry]
    by_cases hy : (1 ≤ y ∧ y ≤ most) ∧ nn.contains y = false
    · rw [if_pos hy]
      by_cases hg : (f (nn ++ [y])).2 = true
      · rw [if_pos hg]
      · rw [if_neg hg]
        rcases List.mem_cons.1 h with e | h2
        · subst e; exact absurd hf hg
        · exact ssTry_has hc hf xs h2
    · rw [if_neg hy]
      rcases List.mem_cons.1 h with e | h2
      · subst e; exact absurd hc hy
      · exact ssTry_has hc hf xs h2
theorem sg_next {most : Int} {nn : List Int} {x : Int} (hm : most ≤ 64) (h : SG most nn) (hx : (1 ≤ x ∧ x ≤ most) ∧ nn.contains x = false) (hn : x ∈ ssNexts (ssLast nn) nn) : SG most (nn ++ [x]) := by
  have hne : nn ≠ [] := fun e => by have := h.len; rw [e] at this; cases this
  have hl := last_mem nn hne
  have hlb := h.bnd _ hl
  have hnot : x ∉ nn := fun hm2 => by have := List.contains_iff_mem.2 hm2; rw [hx.2] at this; cases this
  have hmade : madeB nn x = true := by
    have h2 := (mem_nexts _ _ _).1 hn
    rw [Bool.or_eq_true, List.contains_iff_mem, List.contains_iff_mem] at h2
    rcases h2 with h2 | h2
    · refine made_of hl (.inl ?_)
      rw [wid (by omega) (by omega)]; exact h2
    · refine made_of h2 (.inr ?_)
      rw [wid (by omega) (by omega), show x + (ssLast nn - x) = ssLast nn by omega]; exact hl
  refine ⟨by rw [List.length_append]; exact Nat.lt_of_lt_of_le h.len (Nat.le_add_right _ _), snoc_one h.len h.one, snoc_chain h.len h.chain hnot hmade, fun y hy => ?_⟩
  rcases List.mem_append.1 hy with hy | hy
  · exact h.bnd y hy
  · rw [List.mem_singleton] at hy; subst hy; exact hx.1
theorem sub_good {n most : Int} (hm : most ≤ 64) : ∀ (l : Nat) (nn : List Int), SG most nn → (ssSub n most l nn).2 = true → SG most (ssSub n most l nn).1 ∧ ssLast (ssSub n most l nn).1 = n ∧ (ssSub n most l nn).1.length = nn.length + l
  | 0, nn, h, hs => by
    rw [ssSub] at hs ⊢
    exact ⟨h, beq_iff_eq.1 hs, rfl⟩
  | l + 1, nn, h, hs => by
    rw [ssSub] at hs ⊢
    by_cases hc : Lib.maxOf nn * 2 ^ (l + 1) < n
    · rw [if_pos hc] at hs; cases hs
    · rw [if_neg hc] at hs ⊢
      obtain ⟨x, h1, h2, h3, h4⟩ := ssTry_got _ hs
      have hx := ((YtlmoemahamneoaaInc.inc_facts (ssNexts (ssLast nn) nn)).1 x).1 h1
      obtain ⟨k1, k2, k3⟩ := sub_good hm l (nn ++ [x]) (sg_next hm h h2 hx) h3
      rw [h4]
      exact ⟨k1, k2, by rw [k3, List.length_append, List.length_singleton]; omega⟩
theorem sg_one {most : Int} (h : 1 ≤ most) : SG most [1] := ⟨by simp, rfl, rfl, fun x hx => by rw [List.mem_singleton] at hx; omega⟩
theorem find_good {n most : Int} (h1 : 1 ≤ most) (hm : most ≤ 64) : ∀ (k l : Nat), (ssFind n most k l).2 = true → (SG most (ssFind n most k l).1 ∧ ssLast (ssFind n most k l).1 = n ∧ (ssFind n most k l).1.length ≤ l + k) ∧ ∀ l0, l ≤ l0 → (ssSub n most l0 [1]).2 = true → (ssFind n most k l).1.length ≤ l0 + 1
  | 0, l, h => by rw [ssFind] at h; cases h
  | k + 1, l, h => by
    rw [ssFind] at h ⊢
    by_cases hs : (ssSub n most l [1]).2 = true
    · rw [if_pos hs]
      obtain ⟨k1, k2, k3⟩ := sub_good hm l [1] (sg_one h1) hs
      rw [List.length_singleton] at k3
      exact ⟨⟨k1, k2, by show _ ≤ _; rw [k3]; omega⟩, fun l0 hl _ => by show (ssSub n most l [1]).1.length ≤ _; rw [k3]; omega⟩
    · rw [if_neg hs] at h ⊢
      obtain ⟨⟨k1, k2, k3⟩, k4⟩ := find_good h1 hm k (l + 1) h
      refine ⟨⟨k1, k2, by omega⟩, fun l0 hl h0 => ?_⟩
      by_cases e : l0 = l
      · subst e; exact absurd h0 hs
      · exact k4 l0 (by omega) h0
theorem max_is (nn : List Int) (hne : nn ≠ []) (h : ∀ x ∈ nn, 1 ≤ x ∧ x ≤ ssLast nn) : Lib.maxOf nn = ssLast nn := by
  have h1 := (ss_max (ssLast nn) nn hne h).2
  have h2 := (fold_le nn (nn.headD 0)).2 _ (last_mem nn hne)
  exact Int.le_antisymm h1 h2
/-- What the search for stars finds, the search with subtractions finds as well. -/
theorem stTry_got {f : List Int → Option (List Int)} {last : Int} {nn : List Int} : ∀ xs y, stTry f last nn xs = some y → ∃ a, a ∈ xs ∧ f (nn ++ [last + a]) = some y
  | [], y, h => by rw [stTry] at h; cases h
  | a :: r, y, h => by
    rw [stTry] at h
    cases hf : f (nn ++ [last + a]) with
    | some x =>
      rw [hf] at h
      exact ⟨a, List.mem_cons_self .., by rw [hf]; exact h⟩
    | none =>
      rw [hf] at h
      obtain ⟨b, h1, h2⟩ := stTry_got r y h
      exact ⟨b, List.mem_cons_of_mem _ h1, h2⟩
theorem star_sub {n most : Int} (hnm : n ≤ most) : ∀ (l : Nat) (nn L : List Int), nn ≠ [] → (∀ x ∈ nn, 1 ≤ x ∧ x ≤ ssLast nn) → stStar n l nn = some L → (ssSub n most l nn).2 = true ∧ ssLast nn ≤ n
  | 0, nn, L, _, _, h => by
    rw [stStar] at h
    by_cases e : ssLast nn = n
    · rw [ssSub]
      exact ⟨beq_iff_eq.2 e, Int.le_of_eq e⟩
    · rw [if_neg e] at h; cases h
  | l + 1, nn, L, hne, hb, h => by
    rw [stStar] at h
    by_cases hc : n ≤ ssLast nn ∨ ssLast nn * 2 ^ (l + 1) < n
    · rw [if_pos hc] at h; cases h
    · rw [if_neg hc] at h
      obtain ⟨a, ha, h2⟩ := stTry_got _ _ h
      have hab := hb a ha
      have hlb := hb _ (last_mem nn hne)
      have hls := last_snoc nn (ssLast nn + a)
      obtain ⟨k1, k2⟩ := star_sub hnm l (nn ++ [ssLast nn + a]) L (by simp) (fun x hx => by
        rw [hls]
        rcases List.mem_append.1 hx with hx | hx
        · have := hb x hx; omega
        · rw [List.mem_singleton] at hx; omega) h2
      rw [hls] at k2
      have hnot : nn.contains (ssLast nn + a) = false := by
        rw [Bool.eq_false_iff]
        intro hc2
        have := hb _ (List.contains_iff_mem.1 hc2)
        omega
      refine ⟨?_, by omega⟩
      rw [ssSub, max_is nn hne hb, if_neg (fun h3 => hc (.inr h3))]
      refine ssTry_has ⟨⟨by omega, by omega⟩, hnot⟩ k1 _ (((YtlmoemahamneoaaInc.inc_facts (ssNexts (ssLast nn) nn)).1 _).2 ((mem_nexts _ _ _).2 ?_))
      rw [Bool.or_eq_true, List.contains_iff_mem]
      refine .inl ?_
      rw [show ssLast nn + a - ssLast nn = a by omega]
      exact ha
theorem stFind_got {n : Int} : ∀ (k l : Nat) (L : List Int), stFind n k l = some L → ∃ l0, l ≤ l0 ∧ stStar n l0 [1] = some L
  | 0, _, L, h => by rw [stFind] at h; cases h
  | k + 1, l, L, h => by
    rw [stFind] at h
    cases hf : stStar n l [1] with
    | some x =>
      rw [hf] at h
      exact ⟨l, Nat.le_refl _, by rw [hf]; exact h⟩
    | none =>
      rw [hf] at h
      obtain ⟨l0, h1, h2⟩ := stFind_got k (l + 1) L h
      exact ⟨l0, by omega, h2⟩
/-- A way from a list to a number, one number at a time. -/
def stOk (n : Int) : List Int → List Int → Bool
  | [], nn => ssLast nn == n
  | x :: r, nn => nn.contains (x - ssLast nn) && (decide (ssLast nn < n) && (decide (n ≤ ssLast nn * 2 ^ (r.length + 1)) && stOk n r (nn ++ [x])))
theorem stTry_has {f : List Int → Option (List Int)} {last a : Int} {nn : List Int} (hf : (f (nn ++ [last + a])).isSome = true) : ∀ xs, a ∈ xs → (stTry f last nn xs).isSome = true
  | [], h => by cases h
  | b :: r, h => by
    rw [stTry]
    cases hg : f (nn ++ [last + b]) with
    | some x => rfl
    | none =>
      rcases List.mem_cons.1 h with e | h2
      · subst e; rw [hg] at hf; cases hf
      · exact stTry_has hf r h2
theorem stOk_star {n : Int} : ∀ (r nn : List Int), stOk n r nn = true → (stStar n r.length nn).isSome = true
  | [], nn, h => by
    rw [stOk] at h
    show (stStar n 0 nn).isSome = true
    rw [stStar, if_pos (beq_iff_eq.1 h)]; rfl
  | x :: r, nn, h => by
    rw [stOk, Bool.and_eq_true, Bool.and_eq_true, Bool.and_eq_true, decide_eq_true_eq, decide_eq_true_eq, List.contains_iff_mem] at h
    obtain ⟨h1, h2, h3, h4⟩ := h
    have ih := stOk_star r (nn ++ [x]) h4
    rw [List.length_cons, stStar, if_neg (fun hc => by
      rcases hc with hc | hc
      · exact absurd h2 (Int.not_lt.2 hc)
      · exact absurd h3 (Int.not_le.2 hc))]
    refine stTry_has (a := x - ssLast nn) ?_ nn h1
    rw [show ssLast nn + (x - ssLast nn) = x by omega]
    exact ih
theorem stFind_has {n : Int} {l0 : Nat} (h : (stStar n l0 [1]).isSome = true) : ∀ (k l : Nat), l ≤ l0 → l0 < l + k → (stFind n k l).isSome = true
  | 0, l, h1, h2 => by omega
  | k + 1, l, h1, h2 => by
    rw [stFind]
    cases hs : stStar n l [1] with
    | some x => rfl
    | none =>
      by_cases e : l0 = l
      · subst e; rw [hs] at h; cases h
      · exact stFind_has h k (l + 1) (by omega) (by omega)
def starTbl : List (List Int) := [[], [2], [2, 3], [2, 4], [2, 4, 5], [2, 3, 6], [2, 3, 6, 7], [2, 4, 8], [2, 4, 8, 9], [2, 4, 5, 10], [2, 4, 5, 10, 11], [2, 3, 6, 12], [2, 3, 6, 12, 13], [2, 3, 6, 7, 14], [2, 3, 6, 7, 14, 15], [2, 4, 8, 16], [2, 4, 8, 16, 17], [2, 4, 8, 9, 18], [2, 4, 8, 9, 18, 19], [2, 4, 5, 10, 20], [2, 4, 5, 10, 20, 21], [2, 4, 5, 10, 11, 22], [2, 4, 5, 10, 11, 22, 23], [2, 3, 6, 12, 24], [2, 3, 6, 12, 24, 25], [2, 3, 6, 12, 13, 26], [2, 3, 6, 12, 13, 26, 27], [2, 3, 6, 7, 14, 28], [2, 3, 6, 7, 14, 28, 29], [2, 3, 6, 7, 14, 15, 30], [2, 3, 6, 7, 14, 15, 30, 31], [2, 4, 8, 16, 32], [2, 4, 8, 16, 32, 33], [2, 4, 8, 16, 17, 34], [2, 4, 8, 16, 17, 34, 35], [2, 4, 8, 9, 18, 36], [2, 4, 8, 9, 18, 36, 37], [2, 4, 8, 9, 18, 19, 38], [2, 4, 8, 9, 18, 19, 38, 39], [2, 4, 5, 10, 20, 40], [2, 4, 5, 10, 20, 40, 41]]
theorem tbl_ok : ∀ m : Nat, m < 41 → (stOk ((m : Int) + 1) (starTbl.getD m []) [1] && decide ((starTbl.getD m []).length ≤ 9)) = true := by decide +kernel
theorem star_all (m : Nat) (hm : m < 41) : (stFind ((m : Int) + 1) 10 0).isSome = true := by
  have h := tbl_ok m hm
  rw [Bool.and_eq_true, decide_eq_true_eq] at h
  exact stFind_has (stOk_star _ _ h.1) 10 0 (Nat.zero_le _) (by omega)
/-- A list that is found is a chain, ends with the number, and is no longer than a star chain. -/
theorem short_ok {n most : Int} (h : (1 ≤ n ∧ n ≤ 40) ∧ n ≤ most ∧ most ≤ 64) (hf : (ssFind n most 7 0).2 = true) : subChainB (ssFind n most 7 0).1 = true ∧ ssLast (ssFind n most 7 0).1 = n ∧ (1 ≤ (ssFind n most 7 0).1.length ∧ (ssFind n most 7 0).1.length ≤ 7) ∧ (∀ x ∈ (ssFind n most 7 0).1, x ≤ most) ∧ ∀ L, stFind n 10 0 = some L → (ssFind n most 7 0).1.length ≤ L.length := by
  obtain ⟨⟨k1, k2, k3⟩, k4⟩ := find_good (by omega) h.2.2 7 0 hf
  generalize (ssFind n most 7 0).1 = r at k1 k2 k3 k4
  have hl := k1.len
  refine ⟨?_, k2, ⟨hl, by omega⟩, fun x hx => (k1.bnd x hx).2, fun L hL => ?_⟩
  · have hall : allIn 1 1000000 r = true := by
      unfold allIn
      rw [List.all_eq_true]
      intro x hx
      have := k1.bnd x hx
      rw [Bool.and_eq_true, decide_eq_true_eq, decide_eq_true_eq]
      omega
    unfold subChainB
    rw [hall, k1.one, k1.chain, decide_eq_true (show 1 ≤ r.length by omega), decide_eq_true (show r.length ≤ 41 by omega)]
    rfl
  · obtain ⟨l0, _, h2⟩ := stFind_got 10 0 L hL
    have h3 := stStar_len n l0 [1] L h2
    have h4 := (star_sub h.2.1 l0 [1] L (by simp) (fun x hx => by rw [List.mem_singleton] at hx; subst hx; exact ⟨by omega, by decide⟩) h2).1
    have := k4 l0 (by omega) h4
    rw [h3, List.length_singleton]; omega
theorem wf_byte {x : Int} (h : (Lit.int .u8 x).wf = true) : 0 ≤ x ∧ x ≤ 255 := by
  simp only [Lit.wf, Bool.and_eq_true, decide_eq_true_eq] at h
  exact h
theorem rd_byte {l : List Int} (hl : ∀ x ∈ l, (Lit.int .u8 x).wf = true) (i : Int) (h0 : 0 ≤ i) (h1 : i < l.length) : 0 ≤ rd l i ∧ rd l i ≤ 255 := by
  unfold rd
  have hi : i.toNat < l.length := by omega
  rw [List.getD_eq_getElem?_getD, List.getElem?_eq_getElem hi]
  exact wf_byte (hl _ (List.getElem_mem hi))
theorem wrapU_range (n : Int) : 0 ≤ IntKind.u64.wrap n ∧ IntKind.u64.wrap n < 18446744073709551616 := by
  simp only [IntKind.wrap, IntKind.bits, IntKind.signed, Bool.false_eq_true, false_and, if_false]
  simp
  omega
theorem and255 (x : Int) : 0 ≤ Go.bits .and .u64 (IntKind.u64.wrap x / 1099511627776) 255 ∧ Go.bits .and .u64 (IntKind.u64.wrap x / 1099511627776) 255 ≤ 255 := by
  have h := wrapU_range x
  have hw : ∀ n : Int, 0 ≤ n → n < 2 ^ 40 → IntKind.u64.wrap n = n := by
    intro n h0 h1
    have e : (2 : Int) ^ 40 = 1099511627776 := by decide
    simp only [IntKind.wrap, IntKind.bits, IntKind.signed, Bool.false_eq_true, false_and, if_false]
    simp
    omega
  have e : (2 : Int) ^ 40 = 1099511627776 := by decide
  have hb : Go.bits .and .u64 (IntKind.u64.wrap x / 1099511627776) ((2 : Int) ^ 8 - 1) = (IntKind.u64.wrap x / 1099511627776) % 2 ^ 8 := bits_mask .u64 40 (by decide) hw 8 (by decide) _ (by omega) (by omega)
  have e1 : (2 : Int) ^ 8 - 1 = 255 := by decide
  have e2 : (2 : Int) ^ 8 = 256 := by decide
  rw [e1, e2] at hb
  rw [hb]; omega
theorem next_ok {l : List Int} (hl : ∀ x ∈ l, (Lit.int .u8 x).wf = true) (p s : Int) (h0 : 0 ≤ p) (h1 : p ≤ 1000000000000) : ∃ v s', spec_l1Cur_next.f l p s = some (v, p + 1, s') ∧ 0 ≤ v ∧ v ≤ 255 := by
  unfold spec_l1Cur_next.f
  rw [wid (x := p + 1) (by omega) (by omega)]
  by_cases hlt : p < (l.length : Int)
  · have hb := rd_byte hl p h0 hlt
    rw [if_pos hlt, if_pos h0, if_pos (show p + 1 ≤ (l.length : Int) by omega), wid (x := rd l p) (by omega) (by omega)]
    exact ⟨_, _, rfl, by omega, by omega⟩
  · rw [if_neg hlt]
    by_cases hle : p + 1 ≤ (l.length : Int)
    · omega
    · rw [if_neg hle]
      have := and255 (IntKind.u64.wrap (IntKind.u64.wrap (s * 6364136223846793005)) + 1442695040888963407)
      rw [wid (by omega) (by omega)]
      exact ⟨_, _, rfl, this.1, this.2⟩
theorem pick_ok {l : List Int} (hl : ∀ x ∈ l, (Lit.int .u8 x).wf = true) (p s n : Int) (h0 : 0 ≤ p) (h1 : p ≤ 100000000000) : ∃ v p' s', spec_l1Cur_pick.f l p s n = some (v, p', s') ∧ 0 ≤ v ∧ (1 ≤ n → v < n) ∧ p ≤ p' ∧ p' ≤ p + 2 := by
  unfold spec_l1Cur_pick.f
  by_cases hn : n ≤ 1
  · rw [if_pos hn]; exact ⟨0, p, s, rfl, by omega, by omega, by omega, by omega⟩
  · rw [if_neg hn]
    obtain ⟨v, s1, e1, hv0, hv1⟩ := next_ok hl p s h0 (by omega)
    rw [e1]; simp only [Option.bind_some]
    by_cases hb : n > 200
    · obtain ⟨u, s2, e2, hu0, hu1⟩ := next_ok hl (p + 1) s1 (by omega) (by omega)
      rw [if_pos hb, e2]; simp only [Option.bind_some]
      rw [if_neg (by omega), wid (x := v * 256) (by omega) (by omega), wid (x := v * 256 + u) (by omega) (by omega), Int.tmod_eq_emod_of_nonneg (by omega)]
      have r1 := Int.emod_nonneg (v * 256 + u) (show n ≠ 0 by omega)
      have r2 := Int.emod_lt_of_pos (v * 256 + u) (show 0 < n by omega)
      exact ⟨_, _, _, rfl, r1, fun _ => r2, by omega, by omega⟩
    · rw [if_neg hb, if_neg (by omega), Int.tmod_eq_emod_of_nonneg (by omega)]
      have r1 := Int.emod_nonneg v (show n ≠ 0 by omega)
      have r2 := Int.emod_lt_of_pos v (show 0 < n by omega)
      exact ⟨_, _, _, rfl, r1, fun _ => r2, by omega, by omega⟩
theorem among_ok {l : List Int} (hl : ∀ x ∈ l, (Lit.int .u8 x).wf = true) (p s : Int) (h0 : 0 ≤ p) (h1 : p ≤ 100000000000) (t : List Int) (ht : 1 ≤ t.length) : ∃ v p' s', spec_l1Cur_among.f l p s t = some (v, p', s') ∧ v ∈ t ∧ p ≤ p' ∧ p' ≤ p + 2 := by
  obtain ⟨v, p', s', e, v0, v1, a, b⟩ := pick_ok hl p s t.length h0 h1
  have hv := v1 (by omega)
  refine ⟨rd t v, p', s', by simp only [spec_l1Cur_among.f, e, Option.bind_some, if_pos v0, if_pos hv], ?_, a, b⟩
  unfold rd
  have hi : v.toNat < t.length := by omega
  rw [List.getD_eq_getElem?_getD, List.getElem?_eq_getElem hi]
  exact List.getElem_mem hi
theorem number9_ok {l : List Int} (hl : ∀ x ∈ l, (Lit.int .u8 x).wf = true) (p s : Int) (h0 : 0 ≤ p) (h1 : p ≤ 10000000000) : ∃ v p' s', spec_l1Cur_number9.f l p s = some (v, p', s') ∧ p ≤ p' ∧ p' ≤ p + 8 := by
  unfold spec_l1Cur_number9.f
  obtain ⟨v, p1, s1, e, _, _, a, b⟩ := pick_ok hl p s 10 h0 (by omega)
  rw [e]; simp only [Option.bind_some]
  by_cases c0 : v = 0
  · obtain ⟨u, p2, s2, e2, _, a2, b2⟩ := among_ok hl p1 s1 (by omega) (by omega) [0, 1, (-1), 1000000, (-1000000), 1000001, (-1000001), 4611686018427387904, (-9223372036854775808)] (by simp)
    rw [if_pos c0, e2]; exact ⟨_, p2, s2, rfl, by omega, by omega⟩
  rw [if_neg c0]
  by_cases c1 : v = 1
  · obtain ⟨u, p2, s2, e2, _, _, a2, b2⟩ := pick_ok hl p1 s1 60000 (by omega) (by omega)
    rw [if_pos c1, e2]; exact ⟨_, p2, s2, rfl, by omega, by omega⟩
  rw [if_neg c1]
  by_cases c2 : v = 2
  · obtain ⟨u, p2, s2, e2, u0, _, a2, b2⟩ := pick_ok hl p1 s1 20 (by omega) (by omega)
    obtain ⟨t, p3, s3, e3, _, _, a3, b3⟩ := pick_ok hl p2 s2 3 (by omega) (by omega)
    rw [if_pos c2, e2]; simp only [Option.bind_some]
    rw [if_pos u0, e3]; exact ⟨_, p3, s3, rfl, by omega, by omega⟩
  rw [if_neg c2]
  obtain ⟨u, p2, s2, e2, _, a2, b2⟩ := among_ok hl p1 s1 (by omega) (by omega) [20, 200, 2000] (by simp)
  obtain ⟨t, p3, s3, e3, _, _, a3, b3⟩ := pick_ok hl p2 s2 u (by omega) (by omega)
  obtain ⟨q, p4, s4, e4, _, a4, b4⟩ := among_ok hl p3 s3 (by omega) (by omega) [0, 10, 100] (by simp)
  rw [e2]; simp only [Option.bind_some]
  rw [e3]; simp only [Option.bind_some]
  rw [e4]; exact ⟨_, p4, s4, rfl, by omega, by omega⟩
theorem one_ok {l : List Int} (hl : ∀ x ∈ l, (Lit.int .u8 x).wf = true) (p s n : Int) (h0 : 0 ≤ p) (h1 : p ≤ 100000000000) : ∃ v p' s', spec_l1Cur_one.f l p s n = some (v, p', s') ∧ p ≤ p' ∧ p' ≤ p + 2 := by
  obtain ⟨v, p', s', e, _, _, a, b⟩ := pick_ok hl p s n h0 h1
  exact ⟨(v == 0), p', s', by simp only [spec_l1Cur_one.f, e, Option.bind_some], a, b⟩
theorem signedB_len {l : List Int} (h : signedB l = true) : l.length ≤ 24 := by
  unfold signedB at h
  simp only [Bool.and_eq_true, decide_eq_true_eq] at h
  exact h.1
theorem implWeight_loop (l : List Int) (hl : l.length ≤ 1000000) : ∀ (d i : Nat) (n : Nat), i + d = l.length → n ≤ i → Ev (fun k => impl_weight.l0 k n l (l.length : Int) i) ((n + wt (l.drop i) : Nat) : Int) := by
  intro d
  induction d with
  | zero =>
    intro i n h hn
    refine up ?_
    simp only [impl_weight.l0, if_neg (show ¬ (i : Int) < (l.length : Int) by omega)]
    rw [List.drop_of_length_le (by omega)]
    exact Ev.now _
  | succ d ih =>
    intro i n h hn
    have hi : i < l.length := by omega
    refine up ?_
    simp only [impl_weight.l0, if_pos (show (i : Int) < (l.length : Int) by omega), if_pos (show (0 : Int) ≤ (i : Int) by omega), wid (x := (i : Int) + 1) (by omega) (by omega), wid (x := (n : Int) + 1) (by omega) (by omega), rd_at hi]
    rw [List.drop_eq_getElem_cons hi, wt]
    by_cases hz : l[i] = 0
    · simp only [hz, if_true]
      have := ih (i + 1) n (by omega) (by omega)
      rw [show n + (0 + wt (l.drop (i + 1))) = n + wt (l.drop (i + 1)) by omega]; exact this
    · simp only [hz, if_false]
      have := ih (i + 1) (n + 1) (by omega) (by omega)
      rw [show n + (1 + wt (l.drop (i + 1))) = n + 1 + wt (l.drop (i + 1)) by omega]; exact this
theorem implWeight (l : List Int) (hl : l.length ≤ 1000000) : Ev (fun k => impl_weight.f k l) (wt l : Int) := by
  have := implWeight_loop l hl l.length 0 0 (by omega) (by omega)
  simpa [impl_weight.f] using this
theorem implWeightOf (l : List Int) : Ev (fun k => impl_WeightOf.f k l) (if signedB l = true then ((wt l : Int), true) else (0, false)) := by
  simp only [impl_WeightOf.f, impl_isDigits.f, Option.bind_some]
  by_cases h : signedB l = true
  · have hb := signedB_len h
    simp only [h, if_true]
    exact Ev.bind (implWeight l (by omega)) (Ev.now _)
  · simp only [h, if_false]; exact Ev.now _
theorem chainBoth (n : Int) : ∃ r b, r.length ≤ 1000 ∧ Ev (fun k => spec_SubtractionChain.f k n) (r, b) ∧ Ev (fun k => impl_SubtractionChain.f k n) (r, b) ∧ (b = true → ∃ D, D.length ≤ 21 ∧ subChainB r = true ∧ 0 < r.length ∧ lastD r = n ∧ r.length = D.length + wt D - 1 ∧ Ev (fun k => impl_SignedDigits.f k n) (D, true) ∧ Ev (fun k => impl_WeightOf.f k D) ((wt D : Int), true)) := by
  by_cases h : 1 ≤ n ∧ n ≤ 1000000
  · obtain ⟨D, hD, hl0, hl1, hsub, hall, hlast, hcl⟩ := chainW_ok h.1 h.2
    have hw := wt_le D
    have hi := implWin (t := 4) (w := 2) pw4 (by omega) (by omega) (by decide) (by decide) n (show -1000000 ≤ n by omega) h.2
    rw [hD] at hi
    have hp : (2 : Int) ^ 20 = 1048576 := by decide
    have hf := win_fits pw4 20 n (by omega) (by omega)
    rw [hD] at hf
    have hsg : signedB D = true := by
      unfold signedB
      rw [Bool.and_eq_true, decide_eq_true_eq, List.all_eq_true]
      refine ⟨by omega, fun d hd => ?_⟩
      have := hf d hd
      rw [Bool.and_eq_true, decide_eq_true_eq, decide_eq_true_eq]; omega
    have hpos : 0 < (chainW D).length := by
      have hs := hsub
      unfold subChainB at hs
      rw [Bool.and_eq_true, Bool.and_eq_true, decide_eq_true_eq] at hs
      omega
    refine ⟨chainW D, true, by omega, ?_, ?_, fun _ => ⟨D, hl1, hsub, hpos, hlast, hcl, ?_, ?_⟩⟩
    · have hc := siChain_val h.1 h.2
      rw [hD] at hc
      simp only [spec_SubtractionChain.f, l1In_val, Option.bind_some, decide_eq_true h.1, decide_eq_true h.2, Bool.and_self, if_true]
      refine Ev.bind hc ?_
      have ha := l1All_val 1 1000000 (chainW D) (by omega)
      rw [hall] at ha
      refine Ev.bind ha ?_
      simp only [if_true]
      exact Ev.now _
    · simp only [impl_SubtractionChain.f, if_pos h]
      refine Ev.bind hi ?_
      simp only [if_pos (show 0 < D.length ∧ D.length ≤ 1000 by omega)]
      have hs := implSub (chainW D)
      rw [hsub] at hs
      refine Ev.bind hs ?_
      simp only [if_true]
      exact Ev.now _
    · simp only [impl_SignedDigits.f, impl_signedOk.f, impl_in.f, if_pos (show n ≥ -1000000 by omega), decide_eq_true h.2, Option.bind_some, if_true]
      exact Ev.bind hi (Ev.now _)
    · have := implWeightOf D
      rw [if_pos hsg] at this
      exact this
  · refine ⟨[], false, by simp, ?_, ?_, fun h => by cases h⟩
    · have hb : (decide (1 ≤ n) && decide (n ≤ 1000000)) = false := by rw [Bool.and_eq_false_iff, decide_eq_false_iff_not, decide_eq_false_iff_not]; omega
      simp only [spec_SubtractionChain.f, l1In_val, Option.bind_some, hb, Bool.false_eq_true, if_false]
      exact Ev.now _
    · simp only [impl_SubtractionChain.f, if_neg h]; exact Ev.now _
theorem lastD_rd {l : List Int} (h : 0 < l.length) : rd l (wrap64 ((l.length : Int) - 1)) = lastD l ∨ 1000 < l.length := by
  by_cases hl : l.length ≤ 1000
  · refine .inl ?_
    rw [wid (by omega) (by omega), show (l.length : Int) - 1 = ((l.length - 1 : Nat) : Int) by omega, rd_at (by omega)]
    unfold lastD
    rw [List.getD_eq_getElem?_getD, List.getElem?_eq_getElem (by omega)]
    rfl
  · exact .inr (by omega)
theorem abs_some (x : Int) : ∃ y, spec_l1Abs.f x = some y := by
  unfold spec_l1Abs.f spec_l1Most.f
  by_cases h : x > wrap64 (-x)
  · exact ⟨_, by rw [if_pos h]; rfl⟩
  · exact ⟨_, by rw [if_neg h]; rfl⟩
theorem draw_j1 {l : List Int} (hl : ∀ x ∈ l, (Lit.int .u8 x).wf = true) (x : List Int) (p s : Int) (h0 : 0 ≤ p) (h1 : p ≤ 1000000) (hx : 1 ≤ x.length) (hx2 : x.length ≤ 1000) : ∃ t, Ev (fun k => spec_DrawIsSubtractionChain.j1 k x l p s) t ∧ t.length ≤ 2000 := by
  obtain ⟨v, p1, s1, e1, _, _, a1, a2⟩ := pick_ok hl p s 12 h0 (by omega)
  by_cases c0 : v = 0
  · obtain ⟨u, p2, s2, e2, b1, b2, b3, b4⟩ := pick_ok hl p1 s1 (x.length : Int) (by omega) (by omega)
    obtain ⟨y, p3, s3, e3, _, _, _⟩ := among_ok hl p2 s2 (by omega) (by omega) [0, 1, 2, (-1), 1000001, 4611686018427387904] (by simp)
    refine ⟨x.set u.toNat y, up ?_, by rw [List.length_set]; omega⟩
    simp only [spec_DrawIsSubtractionChain.j1, e1, e2, e3, Option.bind_some, if_pos c0, if_pos b1, if_pos (b2 (by omega))]
    exact Ev.now _
  · by_cases c1 : v = 1
    · obtain ⟨u, p2, s2, e2, b1, b2, b3, b4⟩ := pick_ok hl p1 s1 40 (by omega) (by omega)
      refine ⟨x ++ [u], up ?_, by rw [List.length_append, List.length_singleton]; omega⟩
      simp only [spec_DrawIsSubtractionChain.j1, e1, e2, Option.bind_some, if_neg c0, if_pos c1, if_pos (show x.length < 17592186044416 by omega)]
      exact Ev.now _
    · by_cases c2 : v = 2
      · refine ⟨[], up ?_, by simp⟩
        simp only [spec_DrawIsSubtractionChain.j1, e1, Option.bind_some, if_neg c0, if_neg c1, if_pos c2]
        exact Ev.now _
      · refine ⟨x, up ?_, by omega⟩
        simp only [spec_DrawIsSubtractionChain.j1, e1, Option.bind_some, if_neg c0, if_neg c1, if_neg c2]
        exact Ev.now _
theorem draw_l0 {l : List Int} (hl : ∀ x ∈ l, (Lit.int .u8 x).wf = true) : ∀ (n : Nat) (x : List Int) (p s : Int), 0 ≤ p → p + 10 * n ≤ 1000000 → 1 ≤ x.length → x.length + n ≤ 1000 → ∃ t, Ev (fun k => spec_DrawIsSubtractionChain.l0 k x (n : Int) l p s) t ∧ t.length ≤ 2000
  | 0, x, p, s, h0, h1, hx, hx2 => by
    obtain ⟨t, ht, hlt⟩ := draw_j1 hl x p s h0 (by omega) hx (by omega)
    refine ⟨t, up ?_, hlt⟩
    simp only [spec_DrawIsSubtractionChain.l0, if_neg (show ¬ ((0 : Nat) : Int) > 0 by omega)]
    exact ht
  | n + 1, x, p, s, h0, h1, hx, hx2 => by
    obtain ⟨v, p1, s1, e1, v1, v2, a1, a2⟩ := pick_ok hl p s (x.length : Int) h0 (by omega)
    obtain ⟨u, p2, s2, e2, u1, u2, a3, a4⟩ := pick_ok hl p1 s1 (x.length : Int) (by omega) (by omega)
    obtain ⟨b, p3, s3, e3, a5, a6⟩ := one_ok hl p2 s2 3 (by omega) (by omega)
    have hn : wrap64 (((n + 1 : Nat) : Int) - 1) = (n : Int) := by rw [wid (by omega) (by omega)]; omega
    obtain ⟨y, hy⟩ : ∃ y, (if b = true then spec_l1Abs.f (wrap64 (rd x v - rd x u)) else some (wrap64 (rd x v + rd x u))) = some y := by
      by_cases hb : b = true
      · rw [if_pos hb]; exact abs_some _
      · rw [if_neg hb]; exact ⟨_, rfl⟩
    obtain ⟨t1, ht1, hl1⟩ := draw_l0 hl n x p3 s3 (by omega) (by omega) hx (by omega)
    obtain ⟨t2, ht2, hl2⟩ := draw_l0 hl n (x ++ [y]) p3 s3 (by omega) (by omega) (by rw [List.length_append, List.length_singleton]; omega) (by rw [List.length_append, List.length_singleton]; omega)
    have hh := l1Has_val y x (by omega)
    have goal : ∃ t, Ev (fun k => if y > 0 then ((spec_l1Has.f k x y).bind fun q => (if q = true then (spec_DrawIsSubtractionChain.l0 k x (n : Int) l p3 s3) else (if x.length < 17592186044416 then (spec_DrawIsSubtractionChain.l0 k (x ++ [y]) (n : Int) l p3 s3) else none))) else (spec_DrawIsSubtractionChain.l0 k x (n : Int) l p3 s3)) t ∧ t.length ≤ 2000 := by
      by_cases hy0 : y > 0
      · simp only [if_pos hy0, if_pos (show x.length < 17592186044416 by omega)]
        cases hq : hasB x y with
        | true =>
          rw [hq] at hh
          exact ⟨t1, Ev.bind hh (by simp only [if_true]; exact ht1), hl1⟩
        | false =>
          rw [hq] at hh
          exact ⟨t2, Ev.bind hh (by simp only [Bool.false_eq_true, if_false]; exact ht2), hl2⟩
      · simp only [if_neg hy0]
        exact ⟨t1, ht1, hl1⟩
    obtain ⟨t, ht, hlt⟩ := goal
    refine ⟨t, up ?_, hlt⟩
    simp only [spec_DrawIsSubtractionChain.l0, if_pos (show ((n + 1 : Nat) : Int) > 0 by omega), e1, e2, e3, Option.bind_some, if_pos v1, if_pos u1, if_pos (v2 (by omega)), if_pos (u2 (by omega)), hn]
    by_cases hb : b = true
    · rw [if_pos hb] at hy
      simp only [if_pos hb, hy, Option.bind_some]
      exact ht
    · rw [if_neg hb] at hy
      simp only [if_neg hb, Option.some.inj hy]
      exact ht
theorem draw_chain {l : List Int} (hl : ∀ x ∈ l, (Lit.int .u8 x).wf = true) : ∃ t, Ev (fun k => spec_DrawIsSubtractionChain.f k l) t ∧ t.length ≤ 2000 := by
  obtain ⟨v, p1, s1, e1, v1, v2, a1, a2⟩ := pick_ok hl 0 0 2000 (by omega) (by omega)
  have := v2 (by omega)
  obtain ⟨b, p2, s2, e2, a3, a4⟩ := one_ok hl p1 s1 2 (by omega) (by omega)
  have hc := siChain_val (n := 1 + v) (by omega) (by omega)
  obtain ⟨D, hD, hl0, hl1, hsub, _, _, hcl⟩ := chainW_ok (n := 1 + v) (by omega) (by omega)
  have hw := wt_le D
  rw [hD] at hc
  have hpos : 1 ≤ (chainW D).length := by
    have hs := hsub
    unfold subChainB at hs
    rw [Bool.and_eq_true, Bool.and_eq_true, decide_eq_true_eq] at hs
    omega
  have hw1 : wrap64 (1 + v) = 1 + v := wid (by omega) (by omega)
  by_cases hb : b = true
  · obtain ⟨n, p3, s3, e3, n1, n2, a5, a6⟩ := pick_ok hl p2 s2 7 (by omega) (by omega)
    have := n2 (by omega)
    obtain ⟨m, rfl⟩ : ∃ m : Nat, n = (m : Int) := ⟨n.toNat, by omega⟩
    obtain ⟨t, ht, hlt⟩ := draw_l0 hl m [1] p3 s3 (by omega) (by omega) (by simp) (by simp; omega)
    refine ⟨t, ?_, hlt⟩
    simp only [spec_DrawIsSubtractionChain.f, e1, Option.bind_some, hw1]
    refine Ev.bind hc ?_
    simp only [e2, Option.bind_some, if_pos hb, e3]
    exact ht
  · obtain ⟨t, ht, hlt⟩ := draw_j1 hl (chainW D) p2 s2 (by omega) (by omega) hpos (by omega)
    refine ⟨t, ?_, hlt⟩
    simp only [spec_DrawIsSubtractionChain.f, e1, Option.bind_some, hw1]
    refine Ev.bind hc ?_
    simp only [e2, Option.bind_some, if_neg hb]
    exact ht
theorem draw_short {l : List Int} (hl : ∀ x ∈ l, (Lit.int .u8 x).wf = true) : ∃ m q, spec_DrawShortestSubtraction.f l = some (m, q) ∧ -1 ≤ m ∧ m ≤ 41 := by
  obtain ⟨v, p1, s1, e1, v1, v2, a1, a2⟩ := pick_ok hl 0 0 40 (by omega) (by omega)
  have := v2 (by omega)
  obtain ⟨b, p2, s2, e2, a3, a4⟩ := one_ok hl p1 s1 12 (by omega) (by omega)
  by_cases hb : b = true
  · obtain ⟨u, p3, s3, e3, hu, a5, a6⟩ := among_ok hl p2 s2 (by omega) (by omega) [0, (-1), 41, 40] (by simp)
    obtain ⟨y, p4, s4, e4, _, a7, a8⟩ := among_ok hl p3 s3 (by omega) (by omega) [0, 1, 2, 4, 8, 24, wrap64 (64 - u), wrap64 (65 - u), (-1)] (by simp)
    refine ⟨u, _, by simp only [spec_DrawShortestSubtraction.f, e1, e2, Option.bind_some, if_pos hb, e3, e4]; rfl, ?_⟩
    simp only [List.mem_cons, List.not_mem_nil, or_false] at hu
    omega
  · obtain ⟨y, p4, s4, e4, _, a7, a8⟩ := among_ok hl p2 s2 (by omega) (by omega) [0, 1, 2, 4, 8, 24, wrap64 (64 - wrap64 (1 + v)), wrap64 (65 - wrap64 (1 + v)), (-1)] (by simp)
    have hw1 : wrap64 (1 + v) = 1 + v := wid (by omega) (by omega)
    refine ⟨wrap64 (1 + v), _, by simp only [spec_DrawShortestSubtraction.f, e1, e2, Option.bind_some, if_neg hb, e4]; rfl, ?_⟩
    rw [hw1]; omega
theorem end_all {l : List Int} (hl : ∀ x ∈ l, (Lit.int .u8 x).wf = true) : Ev (fun k => (spec_DrawIsSubtractionChain.f k l).bind fun t => ((impl_IsSubtractionChain.f k t).bind fun a => ((spec_IsSubtractionChain.f k t).bind fun b => (some (a == b))))) true := by
  obtain ⟨t, ht, hlt⟩ := draw_chain hl
  refine Ev.bind ht ?_
  refine Ev.bind (implSub t) ?_
  refine Ev.bind (specSub t (by omega)) ?_
  simp only [beq_self_eq_true]
  exact Ev.now _
theorem l0_all {l : List Int} (hl : ∀ x ∈ l, (Lit.int .u8 x).wf = true) (most : Int) (r : List Int) (hr : r.length ≤ 1000) (h : ∀ x ∈ r, x ≤ most) : ∀ (d i : Nat), i + d = r.length → Ev (fun k => laws_FnSubtractionChains.l0 k l most r (r.length : Int) (i : Int)) true
  | 0, i, hi => by
    refine up ?_
    simp only [laws_FnSubtractionChains.l0, if_neg (show ¬ (i : Int) < (r.length : Int) by omega)]
    exact end_all hl
  | d + 1, i, hi => by
    have hlt : i < r.length := by omega
    have hx := h r[i] (List.getElem_mem hlt)
    refine up ?_
    simp only [laws_FnSubtractionChains.l0, if_pos (show (i : Int) < (r.length : Int) by omega), if_pos (show (0 : Int) ≤ (i : Int) by omega), rd_at hlt, if_neg (show ¬ r[i] > most by omega), wid (x := (i : Int) + 1) (by omega) (by omega)]
    exact l0_all hl most r hr h d (i + 1) (by omega)
theorem j1_all {l : List Int} (hl : ∀ x ∈ l, (Lit.int .u8 x).wf = true) : Ev (fun k => laws_FnSubtractionChains.j1 k l) true := by
  obtain ⟨m, q, hd, hm0, hm1⟩ := draw_short hl
  obtain ⟨r, b, hr, hs, hi⟩ := shortBoth m q
  obtain ⟨S, hS, hS2⟩ : ∃ S, impl_StarLength.f m = some S ∧ ((1 ≤ m ∧ m ≤ 40) → S.2 = true ∧ ∃ L, stFind m 10 0 = some L ∧ S.1 = (L.length : Int) - 1) := by
    by_cases h : 1 ≤ m ∧ m ≤ 100
    · have := star_all (m - 1).toNat (by omega)
      rw [show (((m - 1).toNat : Nat) : Int) + 1 = m by omega] at this
      obtain ⟨L, hL⟩ := Option.isSome_iff_exists.mp this
      refine ⟨((L.length : Int) - 1, true), ?_, fun _ => ⟨rfl, L, hL, rfl⟩⟩
      unfold impl_StarLength.f
      rw [if_pos h, hL]; rfl
    · refine ⟨(0, false), ?_, fun h2 => absurd ⟨h2.1, by omega⟩ h⟩
      unfold impl_StarLength.f
      rw [if_neg h]
  obtain ⟨S1, S2⟩ := S
  refine up ?_
  simp only [laws_FnSubtractionChains.j1, hd, Option.bind_some, hi, hS]
  refine Ev.bind hs ?_
  simp only [bne_self_eq_false, Bool.false_eq_true, if_false]
  refine Ev.bind (rSame_same r (by omega)) ?_
  simp only [Bool.not_true]
  refine up ?_
  simp only [laws_FnSubtractionChains.j2, Bool.false_eq_true, if_false]
  cases b with
  | false =>
    simp only [Bool.false_eq_true, if_false]
    exact end_all hl
  | true =>
    have hrange : (1 ≤ m ∧ m ≤ 40) ∧ m ≤ q ∧ q ≤ 64 := by
      by_cases h : (1 ≤ m ∧ m ≤ 40) ∧ m ≤ q ∧ q ≤ 64
      · exact h
      · unfold impl_ShortestSubtraction.f at hi
        rw [if_neg h] at hi
        cases hi
    have hfi : ssFind m q 7 0 = (r, true) := by
      unfold impl_ShortestSubtraction.f at hi
      rw [if_pos hrange] at hi
      exact Option.some.inj hi
    have hok := short_ok hrange (by rw [hfi])
    rw [hfi] at hok
    obtain ⟨k1, k2, ⟨k3, k4⟩, k5, k6⟩ := hok
    dsimp only at k1 k2 k3 k4 k5 k6
    obtain ⟨s2, L, hL, s1⟩ := hS2 hrange.1
    dsimp only at s2 s1
    subst s2
    have k7 := k6 L hL
    have hLl := stFind_len m 10 0 L hL
    have hc := implSub r
    rw [k1] at hc
    have hla : rd r (wrap64 ((r.length : Int) - 1)) = m := by
      rw [wid (by omega) (by omega)]; exact k2
    simp only [if_true]
    refine Ev.bind hc ?_
    simp only [if_true, hla, if_pos (show (0 : Int) ≤ wrap64 ((r.length : Int) - 1) by rw [wid (by omega) (by omega)]; omega), if_pos (show wrap64 ((r.length : Int) - 1) < (r.length : Int) by rw [wid (by omega) (by omega)]; omega)]
    have hgt : decide ((r.length : Int) > wrap64 (S1 + 1)) = false := by rw [s1, wid (by omega) (by omega)]; exact decide_eq_false (by omega)
    simp only [hgt]
    refine up ?_
    simp only [laws_FnSubtractionChains.j3, Bool.false_eq_true, if_false]
    exact l0_all hl q r (by omega) k5 r.length 0 (by omega)
theorem idx_ok {n : Nat} (h0 : 0 < n) (h1 : n ≤ 1000) : 0 ≤ wrap64 ((n : Int) - 1) ∧ wrap64 ((n : Int) - 1) < (n : Int) := by
  rw [wid (by omega) (by omega)]; omega
theorem len_ok {r d w : Nat} (h : r = d + w - 1) (hr : 0 < r) (hd : d ≤ 21) (hw : w ≤ d) : (r : Int) = wrap64 (wrap64 ((d : Int) + (w : Int)) - 1) := by
  rw [wid (x := (d : Int) + (w : Int)) (by omega) (by omega), wid (by omega) (by omega)]; omega
theorem j0_all {l : List Int} (hl : ∀ x ∈ l, (Lit.int .u8 x).wf = true) (n : Int) (r : List Int) (b : Bool) (hr : r.length ≤ 1000) (hok : b = true → ∃ D, D.length ≤ 21 ∧ subChainB r = true ∧ 0 < r.length ∧ lastD r = n ∧ r.length = D.length + wt D - 1 ∧ Ev (fun k => impl_SignedDigits.f k n) (D, true) ∧ Ev (fun k => impl_WeightOf.f k D) ((wt D : Int), true)) : Ev (fun k => laws_FnSubtractionChains.j0 k l n r b false) true := by
  refine up ?_
  simp only [laws_FnSubtractionChains.j0, Bool.false_eq_true, if_false]
  cases b with
  | false =>
    simp only [Bool.false_eq_true, if_false]
    exact j1_all hl
  | true =>
    obtain ⟨D, hl1, hsub, hpos, hlast, hlen, hsd, hwt⟩ := hok rfl
    have hw := wt_le D
    have hla : rd r (wrap64 ((r.length : Int) - 1)) = n := by
      rcases lastD_rd hpos with h | h
      · rw [h, hlast]
      · exact absurd hr (Nat.not_le.2 h)
    have hlen2 := len_ok hlen hpos hl1 hw
    obtain ⟨i1, i2⟩ := idx_ok hpos hr
    have hc2 := implSub r
    rw [hsub] at hc2
    clear hlen hpos hl1 hw hr hlast hsub hok
    simp only [if_true]
    refine Ev.bind hsd ?_
    refine Ev.bind hwt ?_
    simp only [if_true]
    refine Ev.bind hc2 ?_
    simp only [if_true, hla, if_pos i1, if_pos i2, if_pos hlen2]
    exact j1_all hl
theorem main : laws_FnSubtractionChains.Pure := by
  intro code more _ hc hcode _ hm hmore
  refine Ev.rounds ?_
  simp only [laws_FnSubtractionChains.f, laws_big.f]
  by_cases hb : (code.length : Int) > 1048576
  · exact ⟨0, fun k _ => by simp only [if_pos hb, Option.bind_some, if_true]⟩
  simp only [if_neg hb, Option.bind_some, wid (x := 1048576 - (code.length : Int)) (by omega) (by omega)]
  by_cases hb2 : (more.length : Int) > 1048576 - (code.length : Int)
  · exact ⟨0, fun k _ => by simp only [hb2, decide_true, if_true]⟩
  simp only [hb2, decide_false, Bool.false_eq_true, if_false]
  obtain ⟨n, p1, s1, e1, a0, a1⟩ := number9_ok hcode 0 0 (by omega) (by omega)
  have hd : spec_DrawSubtractionChain.f code = some n := by simp only [spec_DrawSubtractionChain.f, spec_DrawSignedDigits.f, e1, Option.bind_some]
  simp only [hd, Option.bind_some]
  obtain ⟨r, b, hr, hs, hi, hok⟩ := chainBoth n
  refine Ev.bind hi ?_
  refine Ev.bind hs ?_
  simp only [bne_self_eq_false, Bool.false_eq_true, if_false]
  refine Ev.bind (rSame_same r (by omega)) ?_
  simp only [Bool.not_true]
  exact j0_all hmore n r b hr hok
end Go.Proofs.Ytlmoemahamneoaa.PureFnSubtractionChainsL
namespace Go.Proofs.Ytlmoemahamneoaa.Pure
open Go.Proofs.Ytlmoemahamneoaa.PFnSubtractionChains
theorem FnSubtractionChains : laws_FnSubtractionChains.Pure := PureFnSubtractionChainsL.main
end Go.Proofs.Ytlmoemahamneoaa.Pure
