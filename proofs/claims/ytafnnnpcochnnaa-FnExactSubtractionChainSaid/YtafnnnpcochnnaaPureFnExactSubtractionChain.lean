/- The program's SubtractionChain returns what the reference's returns: the statement FnExactSubtractionChain holds for all numbers. -/
import Derived.Test.YtafnnnpcochnnaaPFnExactSubtractionChainx1
import Derived.Test.YtafnnnpcochnnaaPFnExactSubtractionChainx2
import Derived.Test.YtafnnnpcochnnaaPFnExactSubtractionChainx3
import Derived.Test.YtafnnnpcochnnaaPFnExactSubtractionChainx4
set_option linter.unusedVariables false
set_option linter.unusedSimpArgs false
namespace Go.Proofs.Ytafnnnpcochnnaa.PureFnExactSubtractionChainL
open Go.RowKit Go.Proofs.Ytafnnnpcochnnaa.PFnExactSubtractionChain Go.Proofs.YtafnnnpcochnnaaW.PrintWords Go.Proofs.YtafnnnpcochnnaaW.PrintLast Go.Proofs.YtafnnnpcochnnaaW.PrintMore
theorem up {α : Type} {g : Nat → Option α} {r : α} (h : Ev (fun k => g (k + 1)) r) : Ev g r := by
  obtain ⟨K, h⟩ := h
  refine ⟨K + 1, fun k hk => ?_⟩
  obtain ⟨m, rfl⟩ : ∃ m, k = m + 1 := ⟨k - 1, by omega⟩
  exact h m (by omega)
theorem wid {x : Int} (h0 : -9223372036854775808 ≤ x) (h1 : x ≤ 9223372036854775807) : wrap64 x = x := by unfold wrap64; omega
theorem ite_yes {α : Type} {c : Prop} [Decidable c] {a b : α} (h : c) : (if c then a else b) = a := if_pos h
theorem ite_no {α : Type} {c : Prop} [Decidable c] {a b : α} (h : ¬ c) : (if c then a else b) = b := if_neg h
theorem evsome {α β : Type} {x : Option α} {a : α} {f : Nat → α → Option β} {r : β} (hx : x = some a) (h : Ev (fun k => f k a) r) : Ev (fun k => x.bind (f k)) r := by subst hx; exact h
theorem if_pos_ev {α : Type} {c : Prop} [Decidable c] {f g : Nat → Option α} (h : c) : (fun k => if c then f k else g k) = f := funext fun k => if_pos h
theorem if_neg_ev {α : Type} {c : Prop} [Decidable c] {f g : Nat → Option α} (h : ¬ c) : (fun k => if c then f k else g k) = g := funext fun k => if_neg h
theorem rd_at {l : List Int} {i : Nat} (h : i < l.length) : rd l (i : Int) = l[i] := by
  unfold rd
  rw [Int.toNat_natCast, List.getD_eq_getElem?_getD, List.getElem?_eq_getElem h]; rfl
/-- The number that digits stand for. -/
def val : List Int → Int
  | [] => 0
  | d :: l => d + 2 * val l
def small (l : List Int) : Prop := ∀ d ∈ l, -31 ≤ d ∧ d ≤ 31
theorem small_tail {d : Int} {l : List Int} (h : small (d :: l)) : small l := fun x hx => h x (List.mem_cons_of_mem _ hx)
theorem p2 (n : Nat) : (2 : Int) ^ (n + 1) = 2 * 2 ^ n := by rw [Int.pow_succ]; omega
theorem p2_pos (n : Nat) : (1 : Int) ≤ 2 ^ n := by
  induction n with
  | zero => decide
  | succ n ih => rw [p2]; omega
theorem p2_le {f : Nat} (hf : f ≤ 24) : (2 : Int) ^ f ≤ 16777216 := by
  have h := Nat.pow_le_pow_right (n := 2) (by omega) hf
  have e : ((2 ^ f : Nat) : Int) = (2 : Int) ^ f := by simp
  omega
theorem val_bound : ∀ (l : List Int), small l → -(31 * (2 ^ l.length - 1)) ≤ val l ∧ val l ≤ 31 * (2 ^ l.length - 1)
  | [], _ => by simp [val]
  | d :: l, h => by
    have hd := h d (List.mem_cons_self ..)
    have ih := val_bound l (small_tail h)
    have e := p2 l.length
    simp only [val, List.length_cons]
    omega
theorem val_big {l : List Int} (h : small l) (hl : l.length ≤ 24) : -520093696 ≤ val l ∧ val l ≤ 520093696 := by
  have := val_bound l h
  have := p2_le hl
  omega
/-- Of any w neighbours at most one is other than 0; the last such stands at 'last'. -/
def apartFrom (w : Int) : List Int → Int → Int → Bool
  | [], _, _ => true
  | d :: l, i, last => if d = 0 then apartFrom w l (i + 1) last else if i - last < w then false else apartFrom w l (i + 1) i
def lastOk (l : List Int) : Bool := if (l.length : Int) = 0 then true else (rd l ((l.length : Int) - 1) != 0)
def sparseB (w : Int) (l : List Int) : Bool := lastOk l && apartFrom w l 0 (-w)
/-- The window digit of a number, for the width whose power of two is t. -/
def dig (t n : Int) : Int := if n % 2 = 0 then 0 else if n % t > t / 2 then n % t - t else n % t
/-- The window digits of a number whose size is at most 2^f. -/
def win (t : Int) : Nat → Int → List Int
  | 0, n => if n = 0 then [] else [n]
  | f + 1, n => if n = 0 then [] else dig t n :: win t f ((n - dig t n) / 2)
def Pw (t : Int) : Prop := t = 4 ∨ t = 8 ∨ t = 16 ∨ t = 32 ∨ t = 64
theorem win_nil (t : Int) (f : Nat) : win t f 0 = [] := by cases f <;> simp [win]
theorem win_length (t : Int) : ∀ (f : Nat) (n : Int), (win t f n).length ≤ f + 1
  | 0, n => by unfold win; split <;> simp
  | f + 1, n => by
    unfold win
    split
    · simp
    · have := win_length t f ((n - dig t n) / 2); simp only [List.length_cons]; omega
theorem dig_even {t : Int} (ht : Pw t) (n : Int) : (n - dig t n) % 2 = 0 := by
  unfold dig Pw at *
  rcases ht with rfl | rfl | rfl | rfl | rfl <;> (split <;> (try split) <;> omega)
theorem dig_size {t : Int} (ht : Pw t) (n : Int) : -32 < dig t n ∧ dig t n < 32 := by
  unfold dig Pw at *
  rcases ht with rfl | rfl | rfl | rfl | rfl <;> (split <;> (try split) <;> omega)
theorem dig_one {t : Int} (ht : Pw t) {n : Int} (h0 : n ≠ 0) (h1 : -1 ≤ n) (h2 : n ≤ 1) : dig t n = n := by
  have : n = 1 ∨ n = -1 := by omega
  unfold Pw at ht
  rcases ht with rfl | rfl | rfl | rfl | rfl <;> rcases this with rfl | rfl <;> decide
theorem dig_next_aux {t P Q n : Int} (ht : Pw t) (hPQ : P = 2 * Q) (hP : (P = 2 ∨ P = 4 ∨ P = 8 ∨ P = 16 ∨ P = 32) ∨ ∃ p, P = 64 * p) (h0 : -P ≤ n) (h1 : n ≤ P) : -Q ≤ (n - dig t n) / 2 ∧ (n - dig t n) / 2 ≤ Q := by
  unfold dig
  unfold Pw at ht
  rcases ht with rfl | rfl | rfl | rfl | rfl <;> rcases hP with (rfl | rfl | rfl | rfl | rfl) | ⟨p, rfl⟩ <;> (split <;> (try split) <;> omega)
theorem two_pow_int (f : Nat) : (2 : Int) ^ (f + 1) = 2 * 2 ^ f := by rw [Int.pow_succ]; omega
theorem dig_next {t : Int} (ht : Pw t) (f : Nat) {n : Int} (h0 : -(2 ^ (f + 1)) ≤ n) (h1 : n ≤ 2 ^ (f + 1)) : -(2 ^ f) ≤ (n - dig t n) / 2 ∧ (n - dig t n) / 2 ≤ 2 ^ f := by
  refine dig_next_aux ht (two_pow_int f) ?_ h0 h1
  rcases Nat.lt_or_ge f 5 with hf | hf
  · have hc : f = 0 ∨ f = 1 ∨ f = 2 ∨ f = 3 ∨ f = 4 := by omega
    left
    rcases hc with rfl | rfl | rfl | rfl | rfl <;> decide
  · obtain ⟨g, rfl⟩ : ∃ g, f = g + 5 := ⟨f - 5, by omega⟩
    right
    exact ⟨2 ^ g, by simp only [Int.pow_succ]; omega⟩
theorem pow20 {f : Nat} (hf : f ≤ 20) : (2 : Int) ^ f ≤ 1048576 := by
  have h := Nat.pow_le_pow_right (n := 2) (by omega) hf
  have e : ((2 ^ f : Nat) : Int) = (2 : Int) ^ f := by simp
  omega
/-- Of any w neighbours at most one is other than 0; g places ago the last such stood. -/
def ap (w : Int) : Int → List Int → Bool
  | _, [] => true
  | g, d :: l => if d = 0 then ap w (g + 1) l else if g < w then false else ap w 1 l
theorem apart_ap (w : Int) : ∀ (l : List Int) (i last : Int), apartFrom w l i last = ap w (i - last) l
  | [], _, _ => rfl
  | d :: l, i, last => by
    unfold apartFrom ap
    rw [apart_ap w l (i + 1) last, apart_ap w l (i + 1) i, show i + 1 - last = i - last + 1 by omega, show i + 1 - i = 1 by omega]
theorem ap_zeros (w : Int) : ∀ (k : Nat) (g : Int) (l : List Int), ap w g l = true → g + k ≤ w → (2 : Int) ^ k ∣ val l
  | 0, _, l, _, _ => ⟨val l, by simp⟩
  | k + 1, g, [], _, _ => ⟨0, by simp [val]⟩
  | k + 1, g, d :: l, h, hk => by
    unfold ap at h
    by_cases hd : d = 0
    · rw [if_pos hd] at h
      obtain ⟨c, hc⟩ := ap_zeros w k (g + 1) l h (by omega)
      refine ⟨c, ?_⟩
      rw [val, hd, hc, Int.pow_succ]
      grind
    · rw [if_neg hd, if_pos (show g < w by omega)] at h
      cases h
theorem pdvd {a b : Nat} (h : a ≤ b) : (2 : Int) ^ a ∣ 2 ^ b := by
  obtain ⟨c, rfl⟩ := Nat.exists_eq_add_of_le h
  induction c with
  | zero => exact ⟨1, by simp⟩
  | succ c ih =>
    obtain ⟨q, hq⟩ := ih (by omega)
    refine ⟨q * 2, ?_⟩
    rw [show a + (c + 1) = (a + c) + 1 by omega, Int.pow_succ, hq, Int.mul_assoc]
/-- The last digit is not 0. -/
def lz : List Int → Bool
  | [] => true
  | [d] => d != 0
  | _ :: e :: l => lz (e :: l)
theorem lz_tail {d : Int} {l : List Int} (h : lz (d :: l) = true) : lz l = true := by
  cases l with
  | nil => rfl
  | cons e l => exact h
theorem lastOk_lz : ∀ l : List Int, lastOk l = lz l
  | [] => rfl
  | [d] => by unfold lastOk lz; rfl
  | d :: e :: l => by
    have ih := lastOk_lz (e :: l)
    unfold lz
    rw [← ih]
    unfold lastOk
    simp only [List.length_cons]
    rw [if_neg (by omega), if_neg (by omega)]
    congr 1
    unfold rd
    rw [show (((l.length + 1 + 1 : Nat) : Int) - 1).toNat = l.length + 1 by omega, show (((l.length + 1 : Nat) : Int) - 1).toNat = l.length by omega]
    rfl
/-- Digits that fit: 0, or odd and small. -/
def fits (t : Int) (l : List Int) : Prop := ∀ d ∈ l, d = 0 ∨ ¬ d % 2 = 0 ∧ -(t / 2) < d ∧ d < t / 2
theorem fits_tail {t d : Int} {l : List Int} (h : fits t (d :: l)) : fits t l := fun x hx => h x (List.mem_cons_of_mem _ hx)
theorem val_zero {t : Int} : ∀ {l : List Int}, fits t l → lz l = true → val l = 0 → l = []
  | [], _, _, _ => rfl
  | d :: l, hf, hz, hv => by
    rw [val] at hv
    have hd := hf d (List.mem_cons_self ..)
    have h0 : d = 0 := by omega
    have hl := val_zero (fits_tail hf) (lz_tail hz) (by omega)
    subst hl
    subst h0
    cases hz
theorem dig_odd {t n q d : Int} (ht : Pw t) (hn : n = d + t * q) (ho : ¬ d % 2 = 0) (h0 : -(t / 2) < d) (h1 : d < t / 2) : dig t n = d := by
  unfold dig
  unfold Pw at ht
  rcases ht with rfl | rfl | rfl | rfl | rfl <;> (split <;> (try split) <;> omega)
/-- There is one such list for each number. -/
theorem win_uniq {t : Int} (ht : Pw t) (w : Nat) (hw : t = 2 ^ (w + 1)) : ∀ (f : Nat) (l : List Int) (g : Int), -(2 ^ f) ≤ val l → val l ≤ 2 ^ f → fits t l → lz l = true → ap (w + 1) g l = true → win t f (val l) = l := by
  have step : ∀ (d : Int) (l : List Int) (g : Int), fits t (d :: l) → ap (w + 1) g (d :: l) = true → dig t (val (d :: l)) = d ∧ (∃ g', ap (w + 1) g' l = true) := by
    intro d l g hf ha
    unfold ap at ha
    have hd := hf d (List.mem_cons_self ..)
    rw [val]
    by_cases h0 : d = 0
    · rw [if_pos h0] at ha
      refine ⟨?_, _, ha⟩
      subst h0
      unfold dig
      rw [if_pos (by omega)]
    · rw [if_neg h0] at ha
      by_cases hg : g < (w + 1 : Int)
      · rw [if_pos hg] at ha; cases ha
      · rw [if_neg hg] at ha
        have hd := hd.resolve_left h0
        obtain ⟨q, hq⟩ := ap_zeros _ w 1 l ha (by omega)
        refine ⟨dig_odd ht (q := q) ?_ hd.1 hd.2.1 hd.2.2, _, ha⟩
        rw [hq, hw, Int.pow_succ]
        grind
  intro f
  induction f with
  | zero =>
    intro l g h0 h1 hf hz ha
    cases l with
    | nil => rfl
    | cons d l =>
      obtain ⟨s1, g', s2⟩ := step d l g hf ha
      have hne : val (d :: l) ≠ 0 := fun h => by cases val_zero hf hz h
      have e1 := dig_one ht hne (by omega) (by omega)
      rw [e1, val] at s1
      have hl := val_zero (fits_tail hf) (lz_tail hz) (by omega)
      subst hl
      unfold win
      rw [if_neg hne]
      simp [val]
  | succ f ih =>
    intro l g h0 h1 hf hz ha
    cases l with
    | nil => rw [show val [] = 0 from rfl, win_nil]
    | cons d l =>
      obtain ⟨s1, g', s2⟩ := step d l g hf ha
      have hne : val (d :: l) ≠ 0 := fun h => by cases val_zero hf hz h
      have hx := dig_next ht f h0 h1
      unfold win
      rw [if_neg hne, s1]
      rw [s1] at hx
      have e : (val (d :: l) - d) / 2 = val l := by rw [val]; omega
      rw [e] at hx ⊢
      rw [ih l g' hx.1 hx.2 (fits_tail hf) (lz_tail hz) s2]
theorem win_val (t : Int) (ht : Pw t) : ∀ (f : Nat) (n : Int), val (win t f n) = n
  | 0, n => by
    unfold win
    by_cases h : n = 0
    · rw [if_pos h, h]; rfl
    · rw [if_neg h]; simp [val]
  | f + 1, n => by
    unfold win
    by_cases h : n = 0
    · rw [if_pos h, h]; rfl
    · rw [if_neg h, val, win_val t ht f]
      have := dig_even ht n
      omega
theorem dig_fits {t n : Int} (ht : Pw t) : dig t n = 0 ∨ ¬ dig t n % 2 = 0 ∧ -(t / 2) < dig t n ∧ dig t n < t / 2 := by
  unfold dig
  unfold Pw at ht
  rcases ht with rfl | rfl | rfl | rfl | rfl <;> (split <;> (try split) <;> omega)
theorem win_fits {t : Int} (ht : Pw t) : ∀ (f : Nat) (n : Int), -(2 ^ f) ≤ n → n ≤ 2 ^ f → fits t (win t f n)
  | 0, n, h0, h1 => by
    unfold win
    by_cases h : n = 0
    · rw [if_pos h]; intro d hd; simp at hd
    · rw [if_neg h]
      intro d hd
      rw [List.mem_singleton.1 hd]
      have e := dig_one ht h (by omega) (by omega)
      have := dig_fits (n := n) ht
      rw [e] at this
      exact this
  | f + 1, n, h0, h1 => by
    unfold win
    by_cases h : n = 0
    · rw [if_pos h]; intro d hd; simp at hd
    · rw [if_neg h]
      have hx := dig_next ht f h0 h1
      intro d hd
      rcases List.mem_cons.1 hd with rfl | hd
      · exact dig_fits ht
      · exact win_fits ht f _ hx.1 hx.2 d hd
theorem win_lz {t : Int} (ht : Pw t) : ∀ (f : Nat) (n : Int), lz (win t f n) = true
  | 0, n => by
    unfold win
    by_cases h : n = 0
    · rw [if_pos h]; rfl
    · rw [if_neg h]; unfold lz; exact bne_iff_ne.2 h
  | f + 1, n => by
    unfold win
    by_cases h : n = 0
    · rw [if_pos h]; rfl
    · rw [if_neg h]
      have ih := win_lz ht f ((n - dig t n) / 2)
      have hv := win_val t ht f ((n - dig t n) / 2)
      generalize win t f ((n - dig t n) / 2) = l at ih hv
      cases l with
      | nil =>
        unfold lz
        have := dig_even ht n
        rw [val] at hv
        exact bne_iff_ne.2 (by omega)
      | cons e l => exact ih
theorem dig_mod {t n : Int} (ht : Pw t) (ho : ¬ n % 2 = 0) : t ∣ n - dig t n := by
  unfold dig
  rw [if_neg ho]
  refine Int.dvd_of_emod_eq_zero ?_
  unfold Pw at ht
  rcases ht with rfl | rfl | rfl | rfl | rfl <;> (split <;> omega)
theorem win_ap {t : Int} (ht : Pw t) (w : Nat) (hw : t = 2 ^ (w + 1)) : ∀ (f : Nat) (n g : Int), -(2 ^ f) ≤ n → n ≤ 2 ^ f → (∀ k : Nat, g + k ≤ (w + 1 : Int) → (2 : Int) ^ k ∣ n) → ap (w + 1) g (win t f n) = true := by
  intro f
  induction f with
  | zero =>
    intro n g h0 h1 hk
    unfold win
    by_cases h : n = 0
    · rw [if_pos h]; rfl
    · rw [if_neg h]
      unfold ap
      rw [if_neg h]
      by_cases hg : g < (w + 1 : Int)
      · obtain ⟨c, hc⟩ := hk 1 (by omega)
        have : n = 1 ∨ n = -1 := by omega
        omega
      · rw [if_neg hg]; rfl
  | succ f ih =>
    intro n g h0 h1 hk
    have hx := dig_next ht f h0 h1
    unfold win
    by_cases h : n = 0
    · rw [if_pos h]; rfl
    · rw [if_neg h]
      unfold ap
      by_cases he : n % 2 = 0
      · have hd : dig t n = 0 := by unfold dig; rw [if_pos he]
        rw [hd] at hx ⊢
        rw [if_pos rfl]
        refine ih _ _ hx.1 hx.2 fun k hk2 => ?_
        obtain ⟨c, hc⟩ := hk (k + 1) (by omega)
        refine ⟨c, ?_⟩
        rw [Int.pow_succ] at hc
        have : n = 2 * (2 ^ k * c) := by rw [hc]; grind
        omega
      · have hd : dig t n ≠ 0 := by
          have := dig_even ht n
          omega
        have hg : ¬ g < (w + 1 : Int) := fun hg => by
          obtain ⟨c, hc⟩ := hk 1 (by omega)
          omega
        rw [if_neg hd, if_neg hg]
        refine ih _ _ hx.1 hx.2 fun k hk2 => ?_
        obtain ⟨c, hc⟩ := dig_mod ht he
        obtain ⟨e, he2⟩ := pdvd (a := k + 1) (b := w + 1) (by omega)
        refine ⟨e * c, ?_⟩
        have ht2 : t = 2 ^ k * 2 * e := by rw [hw, he2, Int.pow_succ]
        have : n - dig t n = 2 * (2 ^ k * (e * c)) := by
          rw [hc]
          generalize (2 : Int) ^ k = z at ht2
          rw [ht2]
          grind
        omega
/-- How many digits are other than 0. -/
def wt : List Int → Nat
  | [] => 0
  | d :: l => (if d = 0 then 0 else 1) + wt l
theorem wt_le : ∀ l, wt l ≤ l.length
  | [] => Nat.le_refl _
  | d :: l => by have := wt_le l; unfold wt; split <;> simp only [List.length_cons] <;> omega
theorem pw4 : Pw 4 := .inl rfl
theorem pow_abs (n : Int) : -(2 ^ n.natAbs) ≤ n ∧ n ≤ 2 ^ n.natAbs := by
  have h := @Nat.lt_two_pow_self n.natAbs
  have e : ((2 ^ n.natAbs : Nat) : Int) = (2 : Int) ^ n.natAbs := by simp
  omega
/-- The sparse form of a number. -/
def W4 (n : Int) : List Int := win 4 n.natAbs n
theorem win_fuel {f g : Nat} {n : Int} (h0 : -(2 ^ f) ≤ n) (h1 : n ≤ 2 ^ f) (h2 : -(2 ^ g) ≤ n) (h3 : n ≤ 2 ^ g) : win 4 f n = win 4 g n := by
  have hv := win_val 4 pw4 g n
  have := win_uniq pw4 1 (by decide) f (win 4 g n) 2 (by rw [hv]; exact h0) (by rw [hv]; exact h1) (win_fits pw4 g n h2 h3) (win_lz pw4 g n) (win_ap pw4 1 (by decide) g n 2 h2 h3 fun k hk => by
    have : k = 0 := by omega
    subst this
    exact ⟨n, by simp⟩)
  rw [hv] at this
  exact this
theorem W4_eq {f : Nat} {n : Int} (h0 : -(2 ^ f) ≤ n) (h1 : n ≤ 2 ^ f) : win 4 f n = W4 n := win_fuel h0 h1 (pow_abs n).1 (pow_abs n).2
theorem W4_zero : W4 0 = [] := rfl
theorem W4_rec {n : Int} (hn : n ≠ 0) : W4 n = dig 4 n :: W4 ((n - dig 4 n) / 2) := by
  have hp := pow_abs n
  have e := two_pow_int n.natAbs
  have h0 : -(2 ^ (n.natAbs + 1)) ≤ n := by omega
  have h1 : n ≤ 2 ^ (n.natAbs + 1) := by omega
  rw [← W4_eq h0 h1]
  have hx := dig_next pw4 n.natAbs h0 h1
  unfold win
  rw [if_neg hn, W4_eq hx.1 hx.2]
def nw (n : Int) : Nat := wt (W4 n)
theorem dig_zero {n : Int} (h : n % 2 = 0) : dig 4 n = 0 := by unfold dig; rw [if_pos h]
theorem dig_one4 {n : Int} (h : ¬ n % 2 = 0) : (dig 4 n = 1 ∧ n % 4 = 1) ∨ (dig 4 n = -1 ∧ n % 4 = 3) := by
  unfold dig
  rw [if_neg h]
  split <;> omega
theorem nw_zero : nw 0 = 0 := rfl
theorem nw_even {n : Int} (h : n % 2 = 0) : nw n = nw (n / 2) := by
  by_cases hn : n = 0
  · subst hn; rfl
  · unfold nw
    rw [W4_rec hn, dig_zero h, wt, if_pos rfl, Int.sub_zero, Nat.zero_add]
theorem nw_odd {n : Int} (h : ¬ n % 2 = 0) : nw n = 1 + nw ((n - dig 4 n) / 2) := by
  have hn : n ≠ 0 := by omega
  unfold nw
  rw [W4_rec hn, wt, if_neg]
  rcases dig_one4 h with ⟨e, _⟩ | ⟨e, _⟩ <;> omega
theorem nw_next : ∀ (b : Nat) (m e : Int), m.natAbs ≤ b → (e = 1 ∨ e = -1) → nw (m + e) ≤ nw m + 1 ∧ (¬ m % 2 = 0 → nw (m + e) ≤ nw m) := by
  intro b
  induction b with
  | zero =>
    intro m e hm he
    have : m = 0 := by omega
    subst this
    rcases he with rfl | rfl <;> exact ⟨by decide, fun h => absurd rfl h⟩
  | succ b ih =>
    intro m e hm he
    by_cases hp : m % 2 = 0
    · refine ⟨?_, fun h => absurd hp h⟩
      have ho : ¬ (m + e) % 2 = 0 := by omega
      rw [nw_odd ho, nw_even hp]
      rcases dig_one4 ho with ⟨hd, hm4⟩ | ⟨hd, hm4⟩
      · rw [hd]
        rcases he with rfl | rfl
        · rw [show (m + 1 - 1) / 2 = m / 2 by omega]; omega
        · rw [show (m + -1 - 1) / 2 = m / 2 + -1 by omega]
          have := (ih (m / 2) (-1) (by omega) (.inr rfl)).2 (by omega)
          omega
      · rw [hd]
        rcases he with rfl | rfl
        · rw [show (m + 1 - -1) / 2 = m / 2 + 1 by omega]
          have := (ih (m / 2) 1 (by omega) (.inl rfl)).2 (by omega)
          omega
        · rw [show (m + -1 - -1) / 2 = m / 2 by omega]; omega
    · have key : nw (m + e) ≤ nw m := by
        have he2 : (m + e) % 2 = 0 := by omega
        rw [nw_even he2, nw_odd hp]
        rcases dig_one4 hp with ⟨hd, hm4⟩ | ⟨hd, hm4⟩
        · rw [hd]
          rcases he with rfl | rfl
          · rw [show (m + 1) / 2 = (m - 1) / 2 + 1 by omega]
            have := (ih ((m - 1) / 2) 1 (by omega) (.inl rfl)).1
            omega
          · rw [show (m + -1) / 2 = (m - 1) / 2 by omega]; omega
        · rw [hd]
          rcases he with rfl | rfl
          · rw [show (m + 1) / 2 = (m - -1) / 2 by omega]; omega
          · rw [show (m + -1) / 2 = (m - -1) / 2 + -1 by omega]
            have := (ih ((m - -1) / 2) (-1) (by omega) (.inr rfl)).1
            omega
      exact ⟨by omega, fun _ => key⟩
theorem nw_step {d v : Int} (hd : d = -1 ∨ d = 0 ∨ d = 1) : nw (d + 2 * v) ≤ nw v + (if d = 0 then 0 else 1) := by
  have he : nw (2 * v) = nw v := by rw [nw_even (by omega), show 2 * v / 2 = v by omega]
  rcases hd with rfl | rfl | rfl
  · have := (nw_next _ (2 * v) (-1) (Nat.le_refl _) (.inr rfl)).1
    rw [show -1 + 2 * v = 2 * v + -1 by omega, if_neg (by decide)]
    omega
  · rw [Int.zero_add, if_pos rfl]; omega
  · have := (nw_next _ (2 * v) 1 (Nat.le_refl _) (.inl rfl)).1
    rw [show 1 + 2 * v = 2 * v + 1 by omega, if_neg (by decide)]
    omega
/-- No digits that stand for a number have less weight than its sparse form. -/
theorem nw_le : ∀ (l : List Int), (∀ d ∈ l, d = -1 ∨ d = 0 ∨ d = 1) → nw (val l) ≤ wt l
  | [], _ => by decide
  | d :: l, h => by
    have ih := nw_le l fun x hx => h x (List.mem_cons_of_mem _ hx)
    have hs := nw_step (v := val l) (h d (List.mem_cons_self ..))
    rw [val, wt]
    omega
theorem val_small : ∀ (l : List Int), (∀ d ∈ l, d = -1 ∨ d = 0 ∨ d = 1) → -(2 ^ l.length) < val l ∧ val l < 2 ^ l.length
  | [], _ => by decide
  | d :: l, h => by
    have ih := val_small l fun x hx => h x (List.mem_cons_of_mem _ hx)
    have hd := h d (List.mem_cons_self ..)
    have e := p2 l.length
    rw [val, List.length_cons]
    omega
theorem W4_val (n : Int) : val (W4 n) = n := win_val 4 pw4 _ n
theorem W4_digits (n : Int) : ∀ d ∈ W4 n, d = -1 ∨ d = 0 ∨ d = 1 := fun d hd => by
  have := win_fits pw4 _ n (pow_abs n).1 (pow_abs n).2 d hd
  omega
theorem hasB_drop {l : List Int} {i : Nat} (h : i < l.length) (x : Int) : hasB (l.drop i) x = (decide (l[i] = x) || hasB (l.drop (i + 1)) x) := by
  rw [List.drop_eq_getElem_cons h]
  unfold hasB
  rw [List.contains_cons]
  congr 1
  by_cases e : l[i] = x
  · simp [e]
  · simp [e, Ne.symm e]
theorem hasB_end (l : List Int) (x : Int) : hasB (l.drop l.length) x = false := by rw [List.drop_length]; rfl
theorem index_loop (x : Int) (l : List Int) (hl : l.length ≤ 17592186044416) : ∀ (d i : Nat), i + d = l.length → ∃ r, Ev (fun k => slices_Index_int_int.l0 k l x (l.length : Int) i) r ∧ decide (r ≥ 0) = hasB (l.drop i) x := by
  intro d
  induction d with
  | zero =>
    intro i h
    refine ⟨-1, up ?_, ?_⟩
    · simp only [slices_Index_int_int.l0, if_neg (show ¬ (i : Int) < (l.length : Int) by omega)]; exact Ev.now _
    · rw [show i = l.length by omega, hasB_end]; decide
  | succ d ih =>
    intro i h
    have hi : i < l.length := by omega
    rw [hasB_drop hi]
    by_cases e : x = l[i]
    · refine ⟨i, up ?_, ?_⟩
      · simp only [slices_Index_int_int.l0, if_pos (show (i : Int) < (l.length : Int) by omega), if_pos (show (0 : Int) ≤ (i : Int) by omega), rd_at hi, e, if_true]; exact Ev.now _
      · simp [e]
    · obtain ⟨r, hr, hd⟩ := ih (i + 1) (by omega)
      refine ⟨r, up ?_, ?_⟩
      · simp only [slices_Index_int_int.l0, if_pos (show (i : Int) < (l.length : Int) by omega), if_pos (show (0 : Int) ≤ (i : Int) by omega), rd_at hi, e, if_false, wid (x := (i : Int) + 1) (by omega) (by omega)]; exact hr
      · rw [hd]; simp [Ne.symm e]
theorem contains_val (x : Int) (l : List Int) (hl : l.length ≤ 17592186044416) : Ev (fun k => slices_Contains_int_int.f k l x) (hasB l x) := by
  obtain ⟨r, hr, hd⟩ := index_loop x l hl l.length 0 (by omega)
  rw [List.drop_zero] at hd
  simp only [slices_Contains_int_int.f, slices_Index_int_int.f]
  exact Ev.bind hr (by rw [hd]; exact Ev.now _)
theorem l1In_val (x a b : Int) : spec_l1In.f x a b = some (decide (a ≤ x) && decide (x ≤ b)) := by
  unfold spec_l1In.f
  by_cases h : a ≤ x
  · rw [if_pos h]; simp [h]
  · rw [if_neg h]; simp [h]
def allIn (a b : Int) (l : List Int) : Bool := l.all fun d => decide (a ≤ d) && decide (d ≤ b)
theorem l1All_loop (a b : Int) (l : List Int) (hl : l.length ≤ 17592186044416) : ∀ (d i : Nat), i + d = l.length → Ev (fun k => spec_l1All.l0 k a b l (l.length : Int) i) (allIn a b (l.drop i)) := by
  intro d
  induction d with
  | zero =>
    intro i h
    refine up ?_
    simp only [spec_l1All.l0, if_neg (show ¬ (i : Int) < (l.length : Int) by omega)]
    rw [List.drop_of_length_le (by omega)]
    exact Ev.now _
  | succ d ih =>
    intro i h
    have hi : i < l.length := by omega
    refine up ?_
    simp only [spec_l1All.l0, if_pos (show (i : Int) < (l.length : Int) by omega), if_pos (show (0 : Int) ≤ (i : Int) by omega), l1In_val, Option.bind_some, wid (x := (i : Int) + 1) (by omega) (by omega), rd_at hi]
    have e : allIn a b (l.drop i) = ((decide (a ≤ l[i]) && decide (l[i] ≤ b)) && allIn a b (l.drop (i + 1))) := by
      rw [List.drop_eq_getElem_cons hi]; rfl
    rw [e]
    cases hb : (decide (a ≤ l[i]) && decide (l[i] ≤ b)) with
    | true => simp only [if_true, Bool.true_and]; exact ih (i + 1) (by omega)
    | false => simp only [Bool.false_eq_true, if_false, Bool.false_and]; exact Ev.now _
theorem l1All_val (a b : Int) (l : List Int) (hl : l.length ≤ 17592186044416) : Ev (fun k => spec_l1All.f k l a b) (allIn a b l) := l1All_loop a b l hl l.length 0 (by omega)
def okOne (n : Int) : Bool := decide (1 ≤ n) && decide (n ≤ 1000000)
theorem isNumber_val (n : Int) : impl_isNumber.f n = some (okOne n) := by
  simp only [impl_isNumber.f, impl_in.f, okOne]
  by_cases h : n ≥ 1
  · simp [h, show 1 ≤ n from h]
  · simp [h, show ¬ 1 ≤ n from h]
/-- Each number from the i-th on, d of them, is new and made of two before. -/
def chainFrom (l : List Int) : Nat → Nat → Bool
  | 0, _ => true
  | d + 1, i => if hasB (l.take i) (rd l i) = true then false else if madeB (l.take i) (rd l i) = true then chainFrom l d (i + 1) else false
def chainFromN (l : List Int) : Nat → Nat → Bool
  | 0, _ => true
  | d + 1, i => if okOne (rd l i) = true then (if hasB (l.take i) (rd l i) = true then false else if madeB (l.take i) (rd l i) = true then chainFromN l d (i + 1) else false) else false
theorem implChain_loop (l : List Int) (hl : l.length ≤ 1000000) : ∀ (d i : Nat), i + d = l.length → Ev (fun k => impl_IsSubtractionChain.l0 k l i) (chainFromN l d i) := by
  intro d
  induction d with
  | zero =>
    intro i h
    refine up ?_
    simp only [impl_IsSubtractionChain.l0, if_neg (show ¬ (i : Int) < (l.length : Int) by omega), chainFromN]
    exact Ev.now _
  | succ d ih =>
    intro i h
    refine up ?_
    simp only [impl_IsSubtractionChain.l0, if_pos (show (i : Int) < (l.length : Int) by omega), if_pos (show (0 : Int) ≤ (i : Int) by omega), if_pos (show (i : Int) ≤ (l.length : Int) by omega), Int.toNat_natCast, wid (x := (i : Int) + 1) (by omega) (by omega), chainFromN, isNumber_val, Option.bind_some]
    have ht : (l.take i).length ≤ 1000000 := by rw [List.length_take]; omega
    cases h0 : okOne (rd l i) with
    | false => simp only [Bool.false_eq_true, if_false]; exact Ev.now _
    | true =>
      simp only [if_true]
      refine Ev.bind (contains_val _ _ (by omega)) ?_
      cases h1 : hasB (l.take i) (rd l i) with
      | true => simp only [if_true]; exact Ev.now _
      | false =>
        simp only [Bool.false_eq_true, if_false, impl_madeOf.f, Option.bind_some]
        cases h2 : madeB (l.take i) (rd l i) with
        | true => simp only [if_true]; exact ih (i + 1) (by omega)
        | false => simp only [Bool.false_eq_true, if_false]; exact Ev.now _
theorem chain_same (l : List Int) : ∀ (d i : Nat), i + d = l.length → (∀ j, i ≤ j → j < l.length → okOne (rd l j) = true) → chainFromN l d i = chainFrom l d i
  | 0, _, _, _ => rfl
  | d + 1, i, h, ha => by
    simp only [chainFromN, chainFrom, ha i (Nat.le_refl _) (by omega), if_true]
    rw [chain_same l d (i + 1) (by omega) (fun j h1 h2 => ha j (by omega) h2)]
theorem chain_no (l : List Int) : ∀ (d i j : Nat), i + d = l.length → i ≤ j → j < l.length → okOne (rd l j) = false → chainFromN l d i = false
  | 0, i, j, h, h1, h2, _ => by omega
  | d + 1, i, j, h, h1, h2, hj => by
    simp only [chainFromN]
    by_cases e : i = j
    · subst e; simp [hj]
    · have := chain_no l d (i + 1) j (by omega) (by omega) h2 hj
      rw [this]
      split <;> (try split) <;> (try split) <;> rfl
theorem allIn_get {l : List Int} : allIn 1 1000000 l = true ↔ ∀ j, j < l.length → okOne (rd l j) = true := by
  unfold allIn
  rw [List.all_eq_true]
  constructor
  · intro h j hj
    rw [rd_at hj]
    exact h _ (List.getElem_mem hj)
  · intro h x hx
    obtain ⟨j, hj, rfl⟩ := List.getElem_of_mem hx
    have := h j hj
    rw [rd_at hj] at this
    exact this
/-- A subtraction chain. -/
def subChainB (l : List Int) : Bool := (decide (1 ≤ l.length) && decide (l.length ≤ 41)) && (allIn 1 1000000 l && (rd l 0 == 1 && chainFrom l (l.length - 1) 1))
theorem implSub (l : List Int) : Ev (fun k => impl_IsSubtractionChain.f k l) (subChainB l) := by
  have j0t : Ev (fun k => impl_IsSubtractionChain.j0 k l true) false := by refine up ?_; simp only [impl_IsSubtractionChain.j0, if_true]; exact Ev.now _
  have e0 : impl_in.f (l.length : Int) 1 41 = some (decide ((1 : Int) ≤ (l.length : Int)) && decide ((l.length : Int) ≤ 41)) := by
    unfold impl_in.f
    by_cases h : (l.length : Int) ≥ 1
    · rw [if_pos h]; simp [h]
    · rw [if_neg h]; simp [h]
  simp only [impl_IsSubtractionChain.f, e0, Option.bind_some]
  by_cases h : 1 ≤ l.length ∧ l.length ≤ 41
  · have e1 : (decide ((1 : Int) ≤ (l.length : Int)) && decide ((l.length : Int) ≤ 41)) = true := by simp; omega
    simp only [e1, if_true, if_pos (show (0 : Int) < (l.length : Int) by omega)]
    have e2 : subChainB l = (allIn 1 1000000 l && (rd l 0 == 1 && chainFrom l (l.length - 1) 1)) := by simp [subChainB, h]
    rw [e2]
    by_cases h2 : rd l 0 = 1
    · have e3 : (rd l 0 != 1) = false := by simp [h2]
      have e4 : (rd l 0 == 1) = true := by simp [h2]
      rw [e3, e4, Bool.true_and]
      refine up ?_
      simp only [impl_IsSubtractionChain.j0, Bool.false_eq_true, if_false]
      have hloop := implChain_loop l (by omega) (l.length - 1) 1 (by omega)
      cases h1 : allIn 1 1000000 l with
      | true =>
        rw [chain_same l _ _ (by omega) (fun j _ hj => allIn_get.1 h1 j hj)] at hloop
        rw [Bool.true_and]; exact hloop
      | false =>
        obtain ⟨j, hj, hjo⟩ : ∃ j, j < l.length ∧ okOne (rd l j) = false := Classical.byContradiction fun hn => by
          have : allIn 1 1000000 l = true := allIn_get.2 fun j hj => by
            cases hc : okOne (rd l j) with
            | true => rfl
            | false => exact absurd ⟨j, hj, hc⟩ hn
          rw [this] at h1; cases h1
        have hj1 : 1 ≤ j := by
          rcases Nat.eq_zero_or_pos j with h0 | h0
          · subst h0
            rw [show ((0 : Nat) : Int) = 0 from rfl, h2] at hjo
            exact absurd hjo (by decide)
          · exact h0
        rw [chain_no l _ 1 j (by omega) hj1 hj hjo] at hloop
        rw [Bool.false_and]; exact hloop
    · have e3 : (rd l 0 != 1) = true := by simp [h2]
      have e4 : (rd l 0 == 1) = false := by simp [h2]
      rw [e3, e4, Bool.false_and, Bool.and_false]; exact j0t
  · have e1 : (decide ((1 : Int) ≤ (l.length : Int)) && decide ((l.length : Int) ≤ 41)) = false := by simp; omega
    have e2 : subChainB l = false := by unfold subChainB; rw [show (decide (1 ≤ l.length) && decide (l.length ≤ 41)) = false by simp; omega]; rfl
    simp only [e1, Bool.false_eq_true, if_false]
    rw [e2]; exact j0t
theorem lastD_snoc (l : List Int) (x : Int) : lastD (l ++ [x]) = x := by
  unfold lastD
  simp
theorem has_mem {l : List Int} {x : Int} : hasB l x = true ↔ x ∈ l := by unfold hasB; simp
theorem rd_left {l : List Int} {x : Int} {i : Nat} (h : i < l.length) : rd (l ++ [x]) (i : Int) = rd l (i : Int) := by
  rw [rd_at (by simp; omega), rd_at h, List.getElem_append_left h]
theorem rd_last (l : List Int) (x : Int) : rd (l ++ [x]) (l.length : Int) = x := by
  rw [rd_at (by simp)]
  simp
theorem chainFrom_snoc (l : List Int) (x : Int) (h1 : hasB l x = false) (h2 : madeB l x = true) : ∀ (d i : Nat), i + d = l.length → chainFrom l d i = true → chainFrom (l ++ [x]) (d + 1) i = true
  | 0, i, h, _ => by
    have e : i = l.length := by omega
    subst e
    unfold chainFrom
    rw [rd_last, List.take_left, h1, if_neg (by decide), if_pos h2]
    rfl
  | d + 1, i, h, hc => by
    unfold chainFrom at hc ⊢
    rw [rd_left (by omega), List.take_append_of_le_length (by omega)]
    by_cases a : hasB (l.take i) (rd l i) = true
    · rw [if_pos a] at hc; cases hc
    · rw [if_neg a] at hc ⊢
      by_cases b : madeB (l.take i) (rd l i) = true
      · rw [if_pos b] at hc ⊢
        exact chainFrom_snoc l x h1 h2 d (i + 1) (by omega) hc
      · rw [if_neg b] at hc; cases hc
/-- What a chain is while it is made; v is its last number. -/
structure Inv (out : List Int) (v : Int) : Prop where
  len : 0 < out.length
  one : rd out 0 = 1
  last : lastD out = v
  mem : v ∈ out
  pos : 1 ≤ v
  bnd : ∀ x ∈ out, 1 ≤ x ∧ x ≤ v + 1 ∧ (x = v + 1 → v % 2 = 1 ∧ 3 ≤ v)
  chain : chainFrom out (out.length - 1) 1 = true
theorem Inv.oneMem {out : List Int} {v : Int} (h : Inv out v) : (1 : Int) ∈ out := by
  have := h.one
  rw [show (0 : Int) = ((0 : Nat) : Int) from rfl, rd_at h.len] at this
  rw [← this]
  exact List.getElem_mem h.len
theorem made_of {l : List Int} {x a : Int} (ha : a ∈ l) (h : (wrap64 (x - a)) ∈ l ∨ (wrap64 (x + a)) ∈ l) : madeB l x = true := by
  unfold madeB
  rw [List.any_eq_true]
  refine ⟨a, ha, ?_⟩
  rcases h with h | h
  · rw [has_mem.2 h, Bool.true_or]
  · rw [has_mem.2 h, Bool.or_true]
theorem snoc_chain {out : List Int} {x : Int} (hl : 0 < out.length) (hc : chainFrom out (out.length - 1) 1 = true) (h1 : x ∉ out) (h2 : madeB out x = true) : chainFrom (out ++ [x]) ((out ++ [x]).length - 1) 1 = true := by
  have := chainFrom_snoc out x (by
    cases h : hasB out x with
    | false => rfl
    | true => exact absurd (has_mem.1 h) h1) h2 (out.length - 1) 1 (by omega) hc
  rw [show (out ++ [x]).length - 1 = out.length - 1 + 1 by simp; omega]
  exact this
theorem snoc_one {out : List Int} {x : Int} (hl : 0 < out.length) (h : rd out 0 = 1) : rd (out ++ [x]) 0 = 1 := by
  have := rd_left (x := x) hl
  rw [show ((0 : Nat) : Int) = 0 from rfl] at this
  rw [this]; exact h
theorem Inv.twice {out : List Int} {v : Int} (h : Inv out v) (hb : v ≤ 4000000) : Inv (out ++ [2 * v]) (2 * v) := by
  have hp := h.pos
  have hn : 2 * v ∉ out := fun hm => by
    have := h.bnd _ hm
    omega
  refine ⟨by simp, snoc_one h.len h.one, lastD_snoc _ _, by simp, by omega, fun x hx => ?_, snoc_chain h.len h.chain hn (made_of h.mem (.inl ?_))⟩
  · rcases List.mem_append.1 hx with hx | hx
    · have := h.bnd x hx; omega
    · rw [List.mem_singleton.1 hx]; omega
  · rw [wid (by omega) (by omega), show 2 * v - v = v by omega]; exact h.mem
theorem Inv.digit {out : List Int} {v d : Int} (h : Inv out v) (hb : v ≤ 4000000) (h2 : 2 ≤ v) (hd : d = 1 ∨ d = -1) : Inv ((out ++ [2 * v]) ++ [2 * v + d]) (2 * v + d) := by
  have t := h.twice hb
  have hn : 2 * v + d ∉ out ++ [2 * v] := fun hm => by
    rcases List.mem_append.1 hm with hm | hm
    · have := h.bnd _ hm
      rcases hd with rfl | rfl <;> omega
    · have := List.mem_singleton.1 hm
      rcases hd with rfl | rfl <;> omega
  have hone : (1 : Int) ∈ out ++ [2 * v] := t.oneMem
  refine ⟨by simp, snoc_one t.len t.one, lastD_snoc _ _, by simp, by rcases hd with rfl | rfl <;> omega, fun x hx => ?_, snoc_chain t.len t.chain hn (made_of hone ?_)⟩
  · rcases List.mem_append.1 hx with hx | hx
    · rcases List.mem_append.1 hx with hx | hx
      · have := h.bnd x hx
        rcases hd with rfl | rfl <;> omega
      · rw [List.mem_singleton.1 hx]
        rcases hd with rfl | rfl <;> omega
    · rw [List.mem_singleton.1 hx]
      rcases hd with rfl | rfl <;> omega
  · rcases hd with rfl | rfl
    · refine .inl ?_
      rw [wid (by omega) (by omega), show 2 * v + 1 - 1 = 2 * v by omega]; simp
    · refine .inr ?_
      rw [wid (by omega) (by omega), show 2 * v + -1 + 1 = 2 * v by omega]; simp
def horner (v : Int) : List Int → Int
  | [] => v
  | d :: E => horner (2 * v + d) E
theorem chStep_clean {out : List Int} {v d : Int} (hv : lastD out = v) (h0 : 0 ≤ v) (hb : v ≤ 4000000) (hd : -1 ≤ d ∧ d ≤ 1) : chStep out d = if d = 0 then out ++ [2 * v] else (out ++ [2 * v]) ++ [2 * v + d] := by
  unfold chStep
  rw [hv, wid (x := 2 * v) (by omega) (by omega), wid (x := 2 * v + d) (by omega) (by omega)]
/-- The chain of digits behind a number of at least 2. -/
theorem inv_fold : ∀ (E : List Int) (out : List Int) (v B : Int), Inv out v → 2 ≤ v → (∀ d ∈ E, d = -1 ∨ d = 0 ∨ d = 1) → v ≤ B → (B + 1) * 2 ^ E.length ≤ 4000000 → Inv (E.foldl chStep out) (horner v E)
  | [], out, v, B, h, _, _, _, _ => h
  | d :: E, out, v, B, h, h2, hE, hB, hl => by
    have hd := hE d (List.mem_cons_self ..)
    have hp := p2_pos E.length
    rw [List.length_cons, p2] at hl
    have hl2 : (2 * B + 1 + 1) * 2 ^ E.length ≤ 4000000 := by
      rw [show (2 * B + 1 + 1) = (B + 1) * 2 by omega, Int.mul_assoc]; exact hl
    have hB4 : B + 1 ≤ 4000000 := by
      have h1 : (B + 1) * 1 ≤ (B + 1) * (2 * 2 ^ E.length) := Int.mul_le_mul_of_nonneg_left (by omega) (by omega)
      omega
    rw [List.foldl_cons, horner, chStep_clean h.last (by omega) (by omega) (by omega)]
    have hE' : ∀ x ∈ E, x = -1 ∨ x = 0 ∨ x = 1 := fun x hx => hE x (List.mem_cons_of_mem _ hx)
    by_cases h0 : d = 0
    · rw [if_pos h0, h0, Int.add_zero]
      exact inv_fold E _ (2 * v) (2 * B + 1) (h.twice (by omega)) (by omega) hE' (by omega) hl2
    · rw [if_neg h0]
      have hd2 : d = 1 ∨ d = -1 := by omega
      exact inv_fold E _ (2 * v + d) (2 * B + 1) (h.digit (by omega) h2 hd2) (by omega) hE' (by omega) hl2
theorem inv_first : Inv [1] 1 := ⟨by simp, rfl, rfl, by simp, by omega, fun x hx => by rw [List.mem_singleton.1 hx]; omega, rfl⟩
theorem inv_all {E : List Int} (hE : ∀ d ∈ E, d = -1 ∨ d = 0 ∨ d = 1) (h0 : ∀ d E', E = d :: E' → d = 0) (hl : E.length ≤ 20) : Inv (E.foldl chStep [1]) (horner 1 E) := by
  cases E with
  | nil => exact inv_first
  | cons d E =>
    have := h0 d E rfl
    subst this
    rw [List.foldl_cons, horner, chStep_clean (v := 1) rfl (by omega) (by omega) (by omega), if_pos rfl]
    have h1 := Nat.pow_le_pow_right (n := 2) (by omega) (show E.length ≤ 19 by simp only [List.length_cons] at hl; omega)
    have e : ((2 ^ E.length : Nat) : Int) = (2 : Int) ^ E.length := by simp
    exact inv_fold E _ 2 2 (inv_first.twice (by omega)) (by omega) (fun x hx => hE x (List.mem_cons_of_mem _ hx)) (by omega) (by omega)
theorem val_snoc : ∀ (l : List Int) (d : Int), val (l ++ [d]) = val l + 2 ^ l.length * d
  | [], d => by simp [val]
  | x :: l, d => by
    rw [List.cons_append, val, val_snoc l d, val, List.length_cons, p2]
    grind
theorem horner_val : ∀ (E : List Int) (v : Int), horner v E = v * 2 ^ E.length + val E.reverse
  | [], v => by simp [horner, val]
  | d :: E, v => by
    rw [horner, horner_val E, List.reverse_cons, List.length_cons, p2]
    rw [val_snoc]
    rw [List.length_reverse]
    grind
theorem wt_sparse : ∀ (l : List Int) (g : Int), 1 ≤ g → ap 2 g l = true → 2 * wt l ≤ l.length + (if g ≥ 2 then 1 else 0)
  | [], g, _, _ => by simp [wt]
  | d :: l, g, hg, h => by
    unfold ap at h
    rw [wt, List.length_cons]
    by_cases h0 : d = 0
    · rw [if_pos h0] at h ⊢
      have := wt_sparse l (g + 1) (by omega) h
      rw [if_pos (by omega)] at this
      split <;> omega
    · rw [if_neg h0] at h ⊢
      by_cases hg2 : g < 2
      · rw [if_pos hg2] at h; cases h
      · rw [if_neg hg2] at h
        have := wt_sparse l 1 (by omega) h
        rw [if_neg (by omega)] at this
        rw [if_pos (by omega)]
        omega
theorem fold_len : ∀ (E : List Int) (out : List Int), (E.foldl chStep out).length = out.length + E.length + wt E
  | [], out => by simp [wt]
  | d :: E, out => by
    rw [List.foldl_cons, fold_len E, wt, List.length_cons]
    unfold chStep
    by_cases h0 : d = 0
    · rw [if_pos h0, if_pos h0, List.length_append, List.length_singleton]; omega
    · rw [if_neg h0, if_neg h0, List.length_append, List.length_append, List.length_singleton, List.length_singleton]; omega
theorem wt_append : ∀ (a b : List Int), wt (a ++ b) = wt a + wt b
  | [], b => by simp [wt]
  | d :: a, b => by rw [List.cons_append, wt, wt, wt_append a b]; omega
theorem wt_reverse : ∀ l : List Int, wt l.reverse = wt l
  | [] => rfl
  | d :: l => by rw [List.reverse_cons, wt_append, wt_reverse l, wt, wt, wt]; omega
theorem ap_two : ∀ (l : List Int) (g a b : Int), ap 2 g (l ++ [a, b]) = true → b ≠ 0 → a = 0
  | [], g, a, b, h, hb => by
    simp only [List.nil_append] at h
    unfold ap at h
    by_cases ha : a = 0
    · exact ha
    · rw [if_neg ha] at h
      by_cases hg : g < 2
      · rw [if_pos hg] at h; cases h
      · rw [if_neg hg] at h
        unfold ap at h
        rw [if_neg hb, if_pos (by omega)] at h
        cases h
  | d :: l, g, a, b, h, hb => by
    rw [List.cons_append] at h
    unfold ap at h
    by_cases hd : d = 0
    · rw [if_pos hd] at h; exact ap_two l _ a b h hb
    · rw [if_neg hd] at h
      by_cases hg : g < 2
      · rw [if_pos hg] at h; cases h
      · rw [if_neg hg] at h; exact ap_two l _ a b h hb
theorem lz_last : ∀ (l : List Int) (b : Int), lz (l ++ [b]) = true → b ≠ 0
  | [], b, h => by
    simp only [List.nil_append] at h
    unfold lz at h
    exact bne_iff_ne.1 h
  | [d], b, h => by
    have h2 : lz [b] = true := h
    unfold lz at h2
    exact bne_iff_ne.1 h2
  | d :: e :: l, b, h => lz_last (e :: l) b h
/-- The chain of the sparse form of a number. -/
theorem chainW_ok {n : Int} (h0 : 1 ≤ n) (h1 : n ≤ 1000000) : ∃ D, win 4 20 n = D ∧ 0 < D.length ∧ D.length ≤ 21 ∧ subChainB (chainW D) = true ∧ allIn 1 1000000 (chainW D) = true ∧ lastD (chainW D) = n ∧ (chainW D).length = D.length + wt D - 1 := by
  have hp : (2 : Int) ^ 20 = 1048576 := by decide
  refine ⟨win 4 20 n, rfl, ?_⟩
  have hl := win_length 4 20 n
  have hv := win_val 4 pw4 20 n
  have hf := win_fits pw4 20 n (by omega) (by omega)
  have hz := win_lz pw4 20 n
  have ha := win_ap pw4 1 (by decide) 20 n 2 (by omega) (by omega) fun k hk => by
    have : k = 0 := by omega
    subst this
    exact ⟨n, by simp⟩
  generalize win 4 20 n = D at hl hv hf hz ha
  have hdig : ∀ d ∈ D, d = -1 ∨ d = 0 ∨ d = 1 := fun d hd => by have := hf d hd; omega
  have hne : D ≠ [] := fun e => by subst e; rw [val] at hv; omega
  obtain ⟨R, t, rfl⟩ : ∃ R t, D = R ++ [t] := ⟨D.dropLast, D.getLast hne, (List.dropLast_concat_getLast hne).symm⟩
  have hRd : ∀ d ∈ R, d = -1 ∨ d = 0 ∨ d = 1 := fun d hd => hdig d (List.mem_append_left _ hd)
  have ht0 := lz_last R t hz
  have hs := val_small R hRd
  have htd := hdig t (by simp)
  rw [val_snoc] at hv
  have ht : t = 1 := by
    rcases htd with rfl | h | h
    · omega
    · exact absurd h ht0
    · exact h
  subst ht
  have hlen : (R ++ [(1 : Int)]).length = R.length + 1 := by simp
  rw [hlen] at hl
  have hE : (R ++ [(1 : Int)]).take ((R ++ [(1 : Int)]).length - 1) = R := by rw [hlen, Nat.add_sub_cancel, List.take_left]
  have hW : chainW (R ++ [1]) = R.reverse.foldl chStep [1] := by unfold chainW; rw [hE]
  have hinv := inv_all (E := R.reverse) (fun d hd => hRd d (List.mem_reverse.1 hd)) (fun d E' he => by
    have hr : R = E'.reverse ++ [d] := by
      have := congrArg List.reverse he
      rw [List.reverse_reverse, List.reverse_cons] at this
      exact this
    rw [hr, List.append_assoc] at ha
    exact ap_two _ _ _ _ ha (by omega)) (by rw [List.length_reverse]; omega)
  have hh : horner 1 R.reverse = n := by
    rw [horner_val, List.reverse_reverse, List.length_reverse]
    omega
  rw [hh, ← hW] at hinv
  have hw2 := wt_sparse (R ++ [1]) 2 (by omega) ha
  rw [if_pos (by omega), hlen, wt_append, show wt [(1 : Int)] = 1 from rfl] at hw2
  have hcl : (chainW (R ++ [1])).length = 1 + R.length + wt R := by
    rw [hW, fold_len, List.length_reverse, wt_reverse]; rfl
  have hall : allIn 1 1000000 (chainW (R ++ [1])) = true := by
    unfold allIn
    rw [List.all_eq_true]
    intro x hx
    have := hinv.bnd x hx
    rw [Bool.and_eq_true, decide_eq_true_eq, decide_eq_true_eq]
    omega
  refine ⟨by omega, by omega, ?_, hall, hinv.last, by rw [hcl, hlen, wt_append, show wt [(1 : Int)] = 1 from rfl]; omega⟩
  unfold subChainB
  rw [hall, hinv.one, hinv.chain, decide_eq_true (show 1 ≤ (chainW (R ++ [1])).length by omega), decide_eq_true (show (chainW (R ++ [1])).length ≤ 41 by omega)]
  rfl
theorem tmod_in {a b : Int} (hb : 0 < b) : -b < Int.tmod a b ∧ Int.tmod a b < b := ⟨Int.lt_tmod_of_pos a hb, Int.tmod_lt_of_pos a hb⟩
theorem posmod {a b : Int} (hb : 0 < b) (hb2 : b ≤ 1000000000000000) : Int.tmod (wrap64 ((Int.tmod a b) + b)) b = a % b := by
  have h := tmod_in (a := a) hb
  rw [wid (by omega) (by omega), Int.tmod_eq_emod_of_nonneg (by omega), Int.add_emod_right]
  rw [Int.tmod_def, Int.sub_mul_emod_self_left]
theorem odd_test (x : Int) : Int.tmod x 2 = 0 ↔ x % 2 = 0 := by
  rw [← Int.dvd_iff_tmod_eq_zero, ← Int.dvd_iff_emod_eq_zero]
theorem half_even {x : Int} (h : x % 2 = 0) : Int.tdiv x 2 = x / 2 := Int.tdiv_eq_ediv_of_dvd (Int.dvd_of_emod_eq_zero h)
theorem siOdd_val (x : Int) : spec_siOdd.f x = some (decide (¬ x % 2 = 0)) := by
  unfold spec_siOdd.f
  by_cases h : x % 2 = 0
  · have := (odd_test x).2 h; simp [h, this]
  · have := mt (odd_test x).1 h; simp [h, this]
theorem specWin_step {t n : Int} (ht : Pw t) (hn0 : n ≠ 0) (h0 : -2000000 ≤ n) (h1 : n ≤ 2000000) (acc : List Int) (ha : acc.length < 1000) {r : List Int}
    (h : Ev (fun k => spec_siWindow.l0 k ((n - dig t n) / 2) (acc ++ [dig t n]) t) r) : Ev (fun k => spec_siWindow.l0 k n acc t) r := by
  have hd := dig_size ht n
  have he := dig_even ht n
  have ht2 : 0 < t ∧ t ≤ 64 := by unfold Pw at ht; omega
  have hth : wrap64 (Int.tdiv t 2) = t / 2 := by unfold Pw at ht; rcases ht with rfl | rfl | rfl | rfl | rfl <;> exact wid (by decide) (by decide)
  refine up ?_
  simp only [spec_siWindow.l0, if_neg hn0, siOdd_val, Option.bind_some]
  by_cases hp : n % 2 = 0
  · have hd0 : dig t n = 0 := by unfold dig; rw [if_pos hp]
    rw [hd0] at h he
    simp only [hp, not_true_eq_false, decide_false, Bool.false_eq_true, if_false, if_pos (show acc.length < 17592186044416 by omega), wid (x := n - 0) (by omega) (by omega), half_even he, wid (x := (n - 0) / 2) (by omega) (by omega)]
    exact h
  · have hm : 0 ≤ n % t ∧ n % t < t := ⟨Int.emod_nonneg _ (by omega), Int.emod_lt_of_pos _ (by omega)⟩
    simp only [hp, not_false_eq_true, decide_true, if_true, if_neg (show ¬ t = 0 by omega), posmod (a := n) (b := t) (by omega) (by omega), hth, if_pos (show acc.length < 17592186044416 by omega)]
    by_cases hb : n % t > t / 2
    · have hd1 : dig t n = n % t - t := by unfold dig; rw [if_neg hp, if_pos hb]
      rw [hd1] at h he
      simp only [if_pos hb, wid (x := n % t - t) (by omega) (by omega), wid (x := n - (n % t - t)) (by omega) (by omega), half_even he, wid (x := (n - (n % t - t)) / 2) (by omega) (by omega)]
      exact h
    · have hd1 : dig t n = n % t := by unfold dig; rw [if_neg hp, if_neg hb]
      rw [hd1] at h he
      simp only [if_neg hb, wid (x := n - n % t) (by omega) (by omega), half_even he, wid (x := (n - n % t) / 2) (by omega) (by omega)]
      exact h
theorem specWin_zero (t : Int) (acc : List Int) : Ev (fun k => spec_siWindow.l0 k 0 acc t) acc := by
  refine up ?_
  simp only [spec_siWindow.l0, if_true]
  exact Ev.now _
theorem specWin_loop {t : Int} (ht : Pw t) : ∀ (f : Nat) (n : Int) (acc : List Int), f ≤ 20 → -(2 ^ f) ≤ n → n ≤ 2 ^ f → acc.length + f < 1000 →
    Ev (fun k => spec_siWindow.l0 k n acc t) (acc ++ win t f n) := by
  intro f
  induction f with
  | zero =>
    intro n acc hf h0 h1 ha
    by_cases hn : n = 0
    · subst hn; rw [win_nil, List.append_nil]; exact specWin_zero t acc
    · have e := dig_one ht hn (by omega) (by omega)
      refine specWin_step ht hn (by omega) (by omega) acc (by omega) ?_
      rw [e, Int.sub_self, show (0 : Int) / 2 = 0 from rfl, show win t 0 n = [n] by unfold win; rw [if_neg hn]]
      exact specWin_zero t _
  | succ f ih =>
    intro n acc hf h0 h1 ha
    have hp := pow20 hf
    by_cases hn : n = 0
    · subst hn; rw [win_nil, List.append_nil]; exact specWin_zero t acc
    · have hx := dig_next ht f h0 h1
      have := ih ((n - dig t n) / 2) (acc ++ [dig t n]) (by omega) hx.1 hx.2 (by simp; omega)
      refine specWin_step ht hn (by omega) (by omega) acc (by omega) ?_
      rw [show win t (f + 1) n = dig t n :: win t f ((n - dig t n) / 2) by rw [win, if_neg hn]]
      simpa using this
theorem specWin {t w : Int} (ht : Pw t) (hw0 : 0 ≤ w) (hs : shl .i64 1 w = t) (n : Int) (h0 : -1000000 ≤ n) (h1 : n ≤ 1000000) : Ev (fun k => spec_siWindow.f k n w) (win t 20 n) := by
  have := specWin_loop ht 20 n [] (by omega) (by omega) (by omega) (by simp)
  simpa [spec_siWindow.f, if_pos hw0, hs] using this
theorem take_succ_rev {D : List Int} {j : Nat} (h : j < D.length) : (D.take (j + 1)).reverse = D[j] :: (D.take j).reverse := by
  rw [List.take_add_one, List.getElem?_eq_getElem h]
  simp
theorem siChain_loop (D : List Int) (hD : D.length ≤ 1000) : ∀ (j : Nat) (out : List Int) (v : Int), j ≤ D.length → out.length + 2 * j ≤ 10000 → lastD out = v → Ev (fun k => spec_siChain.l0 k D out v ((j : Int) - 1)) ((D.take j).reverse.foldl chStep out) := by
  intro j
  induction j with
  | zero =>
    intro out v _ _ _
    refine up ?_
    simp only [spec_siChain.l0, if_neg (show ¬ (((0 : Nat) : Int) - 1 ≥ 0) by omega), List.take_zero, List.reverse_nil, List.foldl_nil]
    exact Ev.now _
  | succ j ih =>
    intro out v hj ho hv
    have hlt : j < D.length := by omega
    have e : ((j + 1 : Nat) : Int) - 1 = (j : Int) := by omega
    rw [take_succ_rev hlt, List.foldl_cons]
    refine up ?_
    have hm : wrap64 (v * 2) = wrap64 (2 * lastD out) := by rw [hv, Int.mul_comm]
    simp only [spec_siChain.l0, e, if_pos (show (j : Int) ≥ 0 by omega), if_pos (show (0 : Int) ≤ (j : Int) by omega), if_pos (show (j : Int) < (D.length : Int) by omega), if_pos (show out.length < 17592186044416 by omega), Option.bind_some, rd_at hlt, wid (x := (j : Int) - 1) (by omega) (by omega), hm, List.length_append, List.length_singleton, if_pos (show out.length + 1 < 17592186044416 by omega)]
    unfold chStep
    by_cases h0 : D[j] = 0
    · simp only [h0, if_true]
      exact ih _ _ (by omega) (by simp; omega) (lastD_snoc _ _)
    · simp only [h0, if_false]
      exact ih _ _ (by omega) (by simp; omega) (lastD_snoc _ _)
theorem siChain_val {n : Int} (h0 : 1 ≤ n) (h1 : n ≤ 1000000) : Ev (fun k => spec_siChain.f k n) (chainW (win 4 20 n)) := by
  obtain ⟨D, hD, hl0, hl1, _⟩ := chainW_ok h0 h1
  simp only [spec_siChain.f]
  refine Ev.bind (specWin pw4 (by omega) (by decide) n (by omega) (by omega)) ?_
  rw [hD]
  unfold chainW
  have := siChain_loop D (by omega) (D.length - 1) [1] 1 (by omega) (by simp; omega) rfl
  rw [show ((D.length - 1 : Nat) : Int) - 1 = (D.length : Int) - 2 by omega] at this
  rw [wid (x := (D.length : Int) - 2) (by omega) (by omega)]
  exact this
theorem rest_val {a b : Int} (hb : 0 < b) (hb2 : b ≤ 1000000000000000) : impl_rest.f a b = some (a % b) := by
  unfold impl_rest.f
  rw [if_neg (by omega), posmod hb hb2]
theorem implWin_step {t w n : Int} (ht : Pw t) (hw0 : 1 ≤ w) (hw1 : w ≤ 6) (hs : shl .i64 1 w = t) (hh : shl .i64 1 (w - 1) = t / 2) (hn0 : n ≠ 0) (h0 : -2000000 ≤ n) (h1 : n ≤ 2000000) (acc : List Int) (ha : acc.length < 1000) {r : List Int}
    (h : Ev (fun k => impl_windowed.l0 k ((n - dig t n) / 2) w (acc ++ [dig t n])) r) : Ev (fun k => impl_windowed.l0 k n w acc) r := by
  have hd := dig_size ht n
  have he := dig_even ht n
  have ht2 : 0 < t ∧ t ≤ 64 := by unfold Pw at ht; omega
  refine up ?_
  simp only [impl_windowed.l0, if_neg hn0]
  by_cases hp : n % 2 = 0
  · have hd0 : dig t n = 0 := by unfold dig; rw [if_pos hp]
    rw [hd0] at h he
    simp only [if_pos ((odd_test n).2 hp), if_pos (show acc.length < 17592186044416 by omega), wid (x := n - 0) (by omega) (by omega), half_even he, wid (x := (n - 0) / 2) (by omega) (by omega)]
    exact h
  · have hm : 0 ≤ n % t ∧ n % t < t := ⟨Int.emod_nonneg _ (by omega), Int.emod_lt_of_pos _ (by omega)⟩
    simp only [if_neg (mt (odd_test n).1 hp), if_pos (show (0 : Int) ≤ w by omega), hs, rest_val (a := n) (b := t) (by omega) (by omega), Option.bind_some, wid (x := w - 1) (by omega) (by omega), if_pos (show (0 : Int) ≤ w - 1 by omega), hh, if_pos (show acc.length < 17592186044416 by omega)]
    by_cases hb : n % t > t / 2
    · have hd1 : dig t n = n % t - t := by unfold dig; rw [if_neg hp, if_pos hb]
      rw [hd1] at h he
      simp only [if_pos hb, wid (x := n % t - t) (by omega) (by omega), wid (x := n - (n % t - t)) (by omega) (by omega), half_even he, wid (x := (n - (n % t - t)) / 2) (by omega) (by omega)]
      exact h
    · have hd1 : dig t n = n % t := by unfold dig; rw [if_neg hp, if_neg hb]
      rw [hd1] at h he
      simp only [if_neg hb, wid (x := n - n % t) (by omega) (by omega), half_even he, wid (x := (n - n % t) / 2) (by omega) (by omega)]
      exact h
theorem implWin_zero (w : Int) (acc : List Int) : Ev (fun k => impl_windowed.l0 k 0 w acc) acc := by
  refine up ?_
  simp only [impl_windowed.l0, if_true]
  exact Ev.now _
theorem implWin_loop {t w : Int} (ht : Pw t) (hw0 : 1 ≤ w) (hw1 : w ≤ 6) (hs : shl .i64 1 w = t) (hh : shl .i64 1 (w - 1) = t / 2) : ∀ (f : Nat) (n : Int) (acc : List Int), f ≤ 20 → -(2 ^ f) ≤ n → n ≤ 2 ^ f → acc.length + f < 1000 →
    Ev (fun k => impl_windowed.l0 k n w acc) (acc ++ win t f n) := by
  intro f
  induction f with
  | zero =>
    intro n acc hf h0 h1 ha
    by_cases hn : n = 0
    · subst hn; rw [win_nil, List.append_nil]; exact implWin_zero w acc
    · have e := dig_one ht hn (by omega) (by omega)
      refine implWin_step ht hw0 hw1 hs hh hn (by omega) (by omega) acc (by omega) ?_
      rw [e, Int.sub_self, show (0 : Int) / 2 = 0 from rfl, show win t 0 n = [n] by unfold win; rw [if_neg hn]]
      exact implWin_zero w _
  | succ f ih =>
    intro n acc hf h0 h1 ha
    have hp := pow20 hf
    by_cases hn : n = 0
    · subst hn; rw [win_nil, List.append_nil]; exact implWin_zero w acc
    · have hx := dig_next ht f h0 h1
      have := ih ((n - dig t n) / 2) (acc ++ [dig t n]) (by omega) hx.1 hx.2 (by simp; omega)
      refine implWin_step ht hw0 hw1 hs hh hn (by omega) (by omega) acc (by omega) ?_
      rw [show win t (f + 1) n = dig t n :: win t f ((n - dig t n) / 2) by rw [win, if_neg hn]]
      simpa using this
theorem implWin {t w : Int} (ht : Pw t) (hw0 : 1 ≤ w) (hw1 : w ≤ 6) (hs : shl .i64 1 w = t) (hh : shl .i64 1 (w - 1) = t / 2) (n : Int) (h0 : -1000000 ≤ n) (h1 : n ≤ 1000000) : Ev (fun k => impl_windowed.f k n w) (win t 20 n) := by
  have := implWin_loop ht hw0 hw1 hs hh 20 n [] (by omega) (by omega) (by omega) (by simp)
  simpa [impl_windowed.f] using this
theorem eqIntS_loop (l : List Int) (hl : l.length ≤ 140737488351232) : ∀ (d : Nat) (i : Int), 0 ≤ i → i + d = l.length → Ev (fun k => laws_eqIntS.l0 k l l i) true := by
  intro d
  induction d with
  | zero =>
    intro i h0 h
    refine up ?_
    simp only [laws_eqIntS.l0, if_neg (show ¬ i < (l.length : Int) by omega)]
    exact Ev.now _
  | succ d ih =>
    intro i h0 h
    refine up ?_
    simp only [laws_eqIntS.l0, if_pos (show i < (l.length : Int) by omega), if_pos h0, if_true, wid (x := i + 1) (by omega) (by omega)]
    exact ih (i + 1) (by omega) (by omega)
theorem eqIntS_same (l : List Int) (hl : l.length ≤ 140737488351232) : Ev (fun k => laws_eqIntS.f k l l) true := by
  simp only [laws_eqIntS.f, if_true]
  exact eqIntS_loop l hl l.length 0 (by omega) (by omega)
def marks : Int → Nat → List Int
  | _, 0 => []
  | a, n + 1 => a :: marks (a + 1) n
theorem mark_loop : ∀ (rest done : List Int) (a : Int), done.length + rest.length ≤ 140737488351232 → 0 ≤ a → a ≤ 140737488351232 →
    Ev (fun k => laws_markIntS.l0 k (done ++ rest) (a + done.length) done.length) (a + done.length + rest.length, done ++ marks (a + done.length) rest.length) := by
  intro rest
  induction rest with
  | nil =>
    intro done a h h0 h1
    refine up ?_
    simp only [laws_markIntS.l0, List.append_nil, if_neg (show ¬ (done.length : Int) < (done.length : Int) by omega), List.length_nil, marks]
    exact ⟨0, fun _ _ => by simp⟩
  | cons x rest ih =>
    intro done a h h0 h1
    simp only [List.length_cons] at h
    refine up ?_
    have e : (done ++ x :: rest).set ((done.length : Int)).toNat (a + done.length) = (done ++ [a + done.length]) ++ rest := by
      rw [Int.toNat_natCast, List.set_append_right _ _ (Nat.le_refl _)]; simp
    simp only [laws_markIntS.l0, if_pos (show (done.length : Int) < ((done ++ x :: rest).length : Int) by simp; omega), if_pos (show (0 : Int) ≤ (done.length : Int) by omega), e, wid (x := a + done.length + 1) (by omega) (by omega), wid (x := (done.length : Int) + 1) (by omega) (by omega)]
    have := ih (done ++ [a + done.length]) a (by simp; omega) h0 h1
    simp only [List.length_append, List.length_singleton, List.append_assoc, List.singleton_append, Int.natCast_add, Int.natCast_one] at this
    simp only [List.append_assoc, List.singleton_append, List.length_cons, marks, Int.natCast_add, Int.natCast_one]
    rw [show a + (done.length : Int) + ((rest.length : Int) + 1) = a + ((done.length : Int) + 1) + rest.length by omega, show a + (done.length : Int) + 1 = a + ((done.length : Int) + 1) by omega]
    exact this
theorem mark_all (l : List Int) (hl : l.length ≤ 140737488351232) : Ev (fun k => laws_markIntS.f k l 1) (1 + l.length, marks 1 l.length) := by
  have := mark_loop l [] 1 (by simpa using hl) (by omega) (by omega)
  simpa [laws_markIntS.f] using this
theorem marks_length (a : Int) (n : Nat) : (marks a n).length = n := by
  induction n generalizing a with
  | zero => rfl
  | succ n ih => simp [marks, ih]
theorem held_loop : ∀ (n : Nat) (done : List Int) (a : Int), done.length + n ≤ 140737488351232 → 0 ≤ a → a ≤ 140737488351232 →
    Ev (fun k => laws_heldIntS.l0 k (done ++ marks (a + done.length) n) (a + done.length) done.length) (a + done.length + n) := by
  intro n
  induction n with
  | zero =>
    intro done a h h0 h1
    refine up ?_
    simp only [laws_heldIntS.l0, marks, List.append_nil, if_neg (show ¬ (done.length : Int) < (done.length : Int) by omega)]
    exact ⟨0, fun _ _ => by simp⟩
  | succ n ih =>
    intro done a h h0 h1
    refine up ?_
    have e : rd (done ++ marks (a + done.length) (n + 1)) (done.length : Int) = a + done.length := by
      unfold rd; rw [Int.toNat_natCast]; simp [marks]
    simp only [laws_heldIntS.l0, if_pos (show (done.length : Int) < ((done ++ marks (a + done.length) (n + 1)).length : Int) by simp [marks_length]; omega), if_pos (show (0 : Int) ≤ (done.length : Int) by omega), e, if_true, wid (x := a + done.length + 1) (by omega) (by omega), wid (x := (done.length : Int) + 1) (by omega) (by omega)]
    have := ih (done ++ [a + done.length]) a (by simp; omega) h0 h1
    simp only [List.length_append, List.length_singleton, List.append_assoc, List.singleton_append, Int.natCast_add, Int.natCast_one] at this
    simp only [marks, Int.natCast_add, Int.natCast_one]
    rw [show a + (done.length : Int) + ((n : Int) + 1) = a + ((done.length : Int) + 1) + n by omega, show a + (done.length : Int) + 1 = a + ((done.length : Int) + 1) by omega]
    exact this
theorem held_all (n : Nat) (hl : n ≤ 140737488351232) : Ev (fun k => laws_heldIntS.f k (marks 1 n) 1) (1 + n) := by
  have := held_loop n [] 1 (by simpa using hl) (by omega) (by omega)
  simpa [laws_heldIntS.f] using this
theorem both (n : Int) : ∃ r b, r.length ≤ 140737488351232 ∧ Ev (fun k => spec_SubtractionChain.f k n) (r, b) ∧ Ev (fun k => impl_SubtractionChain.f k n) (r, b) := by
  by_cases h : 1 ≤ n ∧ n ≤ 1000000
  · obtain ⟨D, hD, hl0, hl1, hsub, hall, _, hcl⟩ := chainW_ok h.1 h.2
    have hw := wt_le D
    refine ⟨chainW D, true, by omega, ?_, ?_⟩
    · have hc := siChain_val h.1 h.2
      rw [hD] at hc
      simp only [spec_SubtractionChain.f, l1In_val, Option.bind_some, decide_eq_true h.1, decide_eq_true h.2, Bool.and_self, if_true]
      refine Ev.bind hc ?_
      have ha := l1All_val 1 1000000 (chainW D) (by omega)
      rw [hall] at ha
      refine Ev.bind ha ?_
      simp only [if_true]
      exact Ev.now _
    · have hi := implWin (t := 4) (w := 2) pw4 (by omega) (by omega) (by decide) (by decide) n (show -1000000 ≤ n by omega) h.2
      rw [hD] at hi
      simp only [impl_SubtractionChain.f, if_pos h]
      refine Ev.bind hi ?_
      simp only [if_pos (show 0 < D.length ∧ D.length ≤ 1000 by omega)]
      have hs := implSub (chainW D)
      rw [hsub] at hs
      refine Ev.bind hs ?_
      simp only [if_true]
      exact Ev.now _
  · refine ⟨[], false, by simp, ?_, ?_⟩
    · have hb : (decide (1 ≤ n) && decide (n ≤ 1000000)) = false := by rw [Bool.and_eq_false_iff, decide_eq_false_iff_not, decide_eq_false_iff_not]; omega
      simp only [spec_SubtractionChain.f, l1In_val, Option.bind_some, hb, Bool.false_eq_true, if_false]
      exact Ev.now _
    · simp only [impl_SubtractionChain.f, if_neg h]; exact Ev.now _
theorem main : laws_FnExactSubtractionChain.Pure := by
  intro a0 _
  obtain ⟨r, b, hl, hs, hi⟩ := both a0
  refine Ev.rounds ?_
  simp only [laws_FnExactSubtractionChain.f]
  refine Ev.bind hs ?_
  refine Ev.bind hi ?_
  refine Ev.bind (eqIntS_same r hl) ?_
  simp only [if_true]
  refine up ?_
  simp only [laws_FnExactSubtractionChain.j0, bne_self_eq_false, Bool.false_eq_true, if_false]
  refine Ev.bind (mark_all r hl) ?_
  refine Ev.bind (held_all r.length hl) ?_
  simp only [if_neg (show ¬ (1 + (r.length : Int)) < 0 by omega), if_true]
  refine Ev.bind hi ?_
  refine Ev.bind (eqIntS_same r hl) ?_
  simp only [if_true]
  refine up ?_
  simp only [laws_FnExactSubtractionChain.j1, bne_self_eq_false, Bool.false_eq_true, if_false]
  refine Ev.bind (held_all r.length hl) ?_
  simp only [if_neg (show ¬ (1 + (r.length : Int)) < 0 by omega), if_true]
  exact Ev.now _
end Go.Proofs.Ytafnnnpcochnnaa.PureFnExactSubtractionChainL
namespace Go.Proofs.Ytafnnnpcochnnaa.Pure
open Go.Proofs.Ytafnnnpcochnnaa.PFnExactSubtractionChain
theorem FnExactSubtractionChain : laws_FnExactSubtractionChain.Pure := PureFnExactSubtractionChainL.main
end Go.Proofs.Ytafnnnpcochnnaa.Pure
