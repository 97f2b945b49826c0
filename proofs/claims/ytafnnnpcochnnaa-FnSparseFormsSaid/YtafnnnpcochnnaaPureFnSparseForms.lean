/- The sparse form of a number stands for it, has no neighbours other than 0, and no digits that stand for the number have less weight: the statement FnSparseForms holds for all its drawn arguments; nothing is asked of them. -/
import Derived.Test.YtafnnnpcochnnaaPFnSparseFormsx1
import Derived.Test.YtafnnnpcochnnaaPFnSparseFormsx2
import Derived.Test.YtafnnnpcochnnaaPFnSparseFormsx3
import Derived.Test.YtafnnnpcochnnaaPFnSparseFormsx4
import Derived.Test.YtafnnnpcochnnaaPFnSparseFormsx5
import Derived.Test.YtafnnnpcochnnaaPFnSparseFormsx6
set_option linter.unusedVariables false
set_option linter.unusedSimpArgs false
namespace Go.Proofs.Ytafnnnpcochnnaa.PureFnSparseFormsL
open Go.RowKit Go.Proofs.Ytafnnnpcochnnaa.PFnSparseForms Go.Proofs.YtafnnnpcochnnaaW.PrintWords Go.Proofs.YtafnnnpcochnnaaW.PrintLast Go.Proofs.YtafnnnpcochnnaaW.PrintMore
theorem up {α : Type} {g : Nat → Option α} {r : α} (h : Ev (fun k => g (k + 1)) r) : Ev g r := by
  obtain ⟨K, h⟩ := h
  refine ⟨K + 1, fun k hk => ?_⟩
  obtain ⟨m, rfl⟩ : ∃ m, k = m + 1 := ⟨k - 1, by omega⟩
  exact h m (by omega)
theorem wid {x : Int} (h0 : -9223372036854775808 ≤ x) (h1 : x ≤ 9223372036854775807) : wrap64 x = x := by unfold wrap64; omega
theorem ite_yes {α : Type} {c : Prop} [Decidable c] {a b : α} (h : c) : (if c then a else b) = a := if_pos h
theorem ite_no {α : Type} {c : Prop} [Decidable c] {a b : α} (h : ¬ c) : (if c then a else b) = b := if_neg h
theorem evsome {α β : Type} {x : Option α} {a : α} {f : Nat → α → Option β} {r : β} (hx : x = some a) (h : Ev (fun k => f k a) r) : Ev (fun k => x.bind (f k)) r := by subst hx; exact h
theorem if_pos_ev {α : Type} {c : Prop} [Decidable c] {f g : Nat → Option α} (h : c) : (fun k => if c then f k else g k) = f := funext fun k => if_pos h
theorem if_neg_ev {α : Type} {c : Prop} [Decidable c] {f g : Nat → Option α} (h : ¬ c) : (fun k => if c then f k else g k) = g := funext fun k => if_neg h
theorem rd_at {l : List Int} {i : Nat} (h : i < l.length) : rd l (i : Int) = l[i] := by
  unfold rd
  rw [Int.toNat_natCast, List.getD_eq_getElem?_getD, List.getElem?_eq_getElem h]; rfl
/-- The number that digits stand for. -/
def val : List Int → Int
  | [] => 0
  | d :: l => d + 2 * val l
def small (l : List Int) : Prop := ∀ d ∈ l, -31 ≤ d ∧ d ≤ 31
theorem small_tail {d : Int} {l : List Int} (h : small (d :: l)) : small l := fun x hx => h x (List.mem_cons_of_mem _ hx)
theorem p2 (n : Nat) : (2 : Int) ^ (n + 1) = 2 * 2 ^ n := by rw [Int.pow_succ]; omega
theorem p2_pos (n : Nat) : (1 : Int) ≤ 2 ^ n := by
  induction n with
  | zero => decide
  | succ n ih => rw [p2]; omega
theorem p2_le {f : Nat} (hf : f ≤ 24) : (2 : Int) ^ f ≤ 16777216 := by
  have h := Nat.pow_le_pow_right (n := 2) (by omega) hf
  have e : ((2 ^ f : Nat) : Int) = (2 : Int) ^ f := by simp
  omega
theorem val_bound : ∀ (l : List Int), small l → -(31 * (2 ^ l.length - 1)) ≤ val l ∧ val l ≤ 31 * (2 ^ l.length - 1)
  | [], _ => by simp [val]
  | d :: l, h => by
    have hd := h d (List.mem_cons_self ..)
    have ih := val_bound l (small_tail h)
    have e := p2 l.length
    simp only [val, List.length_cons]
    omega
theorem val_big {l : List Int} (h : small l) (hl : l.length ≤ 24) : -520093696 ≤ val l ∧ val l ≤ 520093696 := by
  have := val_bound l h
  have := p2_le hl
  omega
/-- Of any w neighbours at most one is other than 0; the last such stands at 'last'. -/
def apartFrom (w : Int) : List Int → Int → Int → Bool
  | [], _, _ => true
  | d :: l, i, last => if d = 0 then apartFrom w l (i + 1) last else if i - last < w then false else apartFrom w l (i + 1) i
def lastOk (l : List Int) : Bool := if (l.length : Int) = 0 then true else (rd l ((l.length : Int) - 1) != 0)
def sparseB (w : Int) (l : List Int) : Bool := lastOk l && apartFrom w l 0 (-w)
theorem specApart_loop (w : Int) (hw0 : 2 ≤ w) (hw1 : w ≤ 6) (l : List Int) (hl : l.length ≤ 1000000) : ∀ (d i : Nat) (last : Int), i + d = l.length → -10 ≤ last → last ≤ i → Ev (fun k => spec_siApart.l0 k l w last l (l.length : Int) i) (apartFrom w (l.drop i) i last && lastOk l) := by
  intro d
  induction d with
  | zero =>
    intro i last h h0 h1
    refine up ?_
    rw [List.drop_of_length_le (by omega)]
    simp only [spec_siApart.l0, if_neg (show ¬ (i : Int) < (l.length : Int) by omega), apartFrom, Bool.true_and]
    unfold lastOk
    by_cases hz : (l.length : Int) = 0
    · simp only [hz, if_true]; exact Ev.now _
    · simp only [hz, if_false, wid (x := (l.length : Int) - 1) (by omega) (by omega), if_pos (show (0 : Int) ≤ (l.length : Int) - 1 by omega), if_pos (show (l.length : Int) - 1 < (l.length : Int) by omega)]
      exact Ev.now _
  | succ d ih =>
    intro i last h h0 h1
    have hi : i < l.length := by omega
    refine up ?_
    simp only [spec_siApart.l0, if_pos (show (i : Int) < (l.length : Int) by omega), if_pos (show (0 : Int) ≤ (i : Int) by omega), wid (x := (i : Int) + 1) (by omega) (by omega), wid (x := (i : Int) - last) (by omega) (by omega), rd_at hi]
    rw [List.drop_eq_getElem_cons hi]
    by_cases hz : l[i] = 0
    · simp only [hz, if_true, apartFrom]
      exact ih (i + 1) last (by omega) h0 (by omega)
    · simp only [hz, if_false, apartFrom]
      by_cases hc : (i : Int) - last < w
      · simp only [hc, if_true, Bool.false_and]; exact Ev.now _
      · simp only [hc, if_false]
        exact ih (i + 1) i (by omega) (by omega) (by omega)
theorem specApart (w : Int) (hw0 : 2 ≤ w) (hw1 : w ≤ 6) (l : List Int) (hl : l.length ≤ 1000000) : Ev (fun k => spec_siApart.f k l w) (sparseB w l) := by
  have := specApart_loop w hw0 hw1 l hl l.length 0 (-w) (by omega) (by omega) (by omega)
  unfold sparseB
  rw [Bool.and_comm]
  simpa [spec_siApart.f, wid (x := -w) (by omega) (by omega)] using this
theorem implSparse_loop (w : Int) (hw0 : 2 ≤ w) (hw1 : w ≤ 6) (l : List Int) (hl : l.length ≤ 1000000) : ∀ (d i : Nat) (last : Int), i + d = l.length → -10 ≤ last → last ≤ i → Ev (fun k => impl_sparse.l0 k w last l (l.length : Int) i) (apartFrom w (l.drop i) i last) := by
  intro d
  induction d with
  | zero =>
    intro i last h h0 h1
    refine up ?_
    rw [List.drop_of_length_le (by omega)]
    simp only [impl_sparse.l0, if_neg (show ¬ (i : Int) < (l.length : Int) by omega), apartFrom]
    exact Ev.now _
  | succ d ih =>
    intro i last h h0 h1
    have hi : i < l.length := by omega
    refine up ?_
    simp only [impl_sparse.l0, if_pos (show (i : Int) < (l.length : Int) by omega), if_pos (show (0 : Int) ≤ (i : Int) by omega), wid (x := (i : Int) + 1) (by omega) (by omega), wid (x := (i : Int) - last) (by omega) (by omega), rd_at hi]
    rw [List.drop_eq_getElem_cons hi]
    by_cases hz : l[i] = 0
    · simp only [hz, if_true, apartFrom]
      exact ih (i + 1) last (by omega) h0 (by omega)
    · simp only [hz, if_false, apartFrom]
      by_cases hc : (i : Int) - last < w
      · simp only [hc, if_true]; exact Ev.now _
      · simp only [hc, if_false]
        exact ih (i + 1) i (by omega) (by omega) (by omega)
theorem implSparse (w : Int) (hw0 : 2 ≤ w) (hw1 : w ≤ 6) (l : List Int) (hl : l.length ≤ 1000000) : Ev (fun k => impl_sparse.f k l w) (sparseB w l) := by
  have hloop := implSparse_loop w hw0 hw1 l hl l.length 0 (-w) (by omega) (by omega) (by omega)
  have go : ∀ b : Bool, (!b) = lastOk l → Ev (fun k => impl_sparse.j0 k l w b) (sparseB w l) := by
    intro b hb
    refine up ?_
    unfold sparseB
    rw [← hb]
    cases b with
    | true => simp only [impl_sparse.j0, if_true, Bool.not_true, Bool.false_and]; exact Ev.now _
    | false => simpa [impl_sparse.j0, wid (x := -w) (by omega) (by omega)] using hloop
  simp only [impl_sparse.f]
  by_cases hz : (l.length : Int) > 0
  · simp only [hz, if_true, wid (x := (l.length : Int) - 1) (by omega) (by omega), if_pos (show (0 : Int) ≤ (l.length : Int) - 1 by omega), if_pos (show (l.length : Int) - 1 < (l.length : Int) by omega)]
    refine go _ ?_
    unfold lastOk
    rw [if_neg (by omega)]; rfl
  · simp only [hz, if_false]
    refine go false ?_
    unfold lastOk
    rw [if_pos (by omega)]; rfl
/-- The window digit of a number, for the width whose power of two is t. -/
def dig (t n : Int) : Int := if n % 2 = 0 then 0 else if n % t > t / 2 then n % t - t else n % t
/-- The window digits of a number whose size is at most 2^f. -/
def win (t : Int) : Nat → Int → List Int
  | 0, n => if n = 0 then [] else [n]
  | f + 1, n => if n = 0 then [] else dig t n :: win t f ((n - dig t n) / 2)
def Pw (t : Int) : Prop := t = 4 ∨ t = 8 ∨ t = 16 ∨ t = 32 ∨ t = 64
theorem win_nil (t : Int) (f : Nat) : win t f 0 = [] := by cases f <;> simp [win]
theorem win_length (t : Int) : ∀ (f : Nat) (n : Int), (win t f n).length ≤ f + 1
  | 0, n => by unfold win; split <;> simp
  | f + 1, n => by
    unfold win
    split
    · simp
    · have := win_length t f ((n - dig t n) / 2); simp only [List.length_cons]; omega
theorem dig_even {t : Int} (ht : Pw t) (n : Int) : (n - dig t n) % 2 = 0 := by
  unfold dig Pw at *
  rcases ht with rfl | rfl | rfl | rfl | rfl <;> (split <;> (try split) <;> omega)
theorem dig_size {t : Int} (ht : Pw t) (n : Int) : -32 < dig t n ∧ dig t n < 32 := by
  unfold dig Pw at *
  rcases ht with rfl | rfl | rfl | rfl | rfl <;> (split <;> (try split) <;> omega)
theorem dig_one {t : Int} (ht : Pw t) {n : Int} (h0 : n ≠ 0) (h1 : -1 ≤ n) (h2 : n ≤ 1) : dig t n = n := by
  have : n = 1 ∨ n = -1 := by omega
  unfold Pw at ht
  rcases ht with rfl | rfl | rfl | rfl | rfl <;> rcases this with rfl | rfl <;> decide
theorem dig_next_aux {t P Q n : Int} (ht : Pw t) (hPQ : P = 2 * Q) (hP : (P = 2 ∨ P = 4 ∨ P = 8 ∨ P = 16 ∨ P = 32) ∨ ∃ p, P = 64 * p) (h0 : -P ≤ n) (h1 : n ≤ P) : -Q ≤ (n - dig t n) / 2 ∧ (n - dig t n) / 2 ≤ Q := by
  unfold dig
  unfold Pw at ht
  rcases ht with rfl | rfl | rfl | rfl | rfl <;> rcases hP with (rfl | rfl | rfl | rfl | rfl) | ⟨p, rfl⟩ <;> (split <;> (try split) <;> omega)
theorem two_pow_int (f : Nat) : (2 : Int) ^ (f + 1) = 2 * 2 ^ f := by rw [Int.pow_succ]; omega
theorem dig_next {t : Int} (ht : Pw t) (f : Nat) {n : Int} (h0 : -(2 ^ (f + 1)) ≤ n) (h1 : n ≤ 2 ^ (f + 1)) : -(2 ^ f) ≤ (n - dig t n) / 2 ∧ (n - dig t n) / 2 ≤ 2 ^ f := by
  refine dig_next_aux ht (two_pow_int f) ?_ h0 h1
  rcases Nat.lt_or_ge f 5 with hf | hf
  · have hc : f = 0 ∨ f = 1 ∨ f = 2 ∨ f = 3 ∨ f = 4 := by omega
    left
    rcases hc with rfl | rfl | rfl | rfl | rfl <;> decide
  · obtain ⟨g, rfl⟩ : ∃ g, f = g + 5 := ⟨f - 5, by omega⟩
    right
    exact ⟨2 ^ g, by simp only [Int.pow_succ]; omega⟩
theorem pow20 {f : Nat} (hf : f ≤ 20) : (2 : Int) ^ f ≤ 1048576 := by
  have h := Nat.pow_le_pow_right (n := 2) (by omega) hf
  have e : ((2 ^ f : Nat) : Int) = (2 : Int) ^ f := by simp
  omega
/-- Of any w neighbours at most one is other than 0; g places ago the last such stood. -/
def ap (w : Int) : Int → List Int → Bool
  | _, [] => true
  | g, d :: l => if d = 0 then ap w (g + 1) l else if g < w then false else ap w 1 l
theorem apart_ap (w : Int) : ∀ (l : List Int) (i last : Int), apartFrom w l i last = ap w (i - last) l
  | [], _, _ => rfl
  | d :: l, i, last => by
    unfold apartFrom ap
    rw [apart_ap w l (i + 1) last, apart_ap w l (i + 1) i, show i + 1 - last = i - last + 1 by omega, show i + 1 - i = 1 by omega]
theorem ap_zeros (w : Int) : ∀ (k : Nat) (g : Int) (l : List Int), ap w g l = true → g + k ≤ w → (2 : Int) ^ k ∣ val l
  | 0, _, l, _, _ => ⟨val l, by simp⟩
  | k + 1, g, [], _, _ => ⟨0, by simp [val]⟩
  | k + 1, g, d :: l, h, hk => by
    unfold ap at h
    by_cases hd : d = 0
    · rw [if_pos hd] at h
      obtain ⟨c, hc⟩ := ap_zeros w k (g + 1) l h (by omega)
      refine ⟨c, ?_⟩
      rw [val, hd, hc, Int.pow_succ]
      grind
    · rw [if_neg hd, if_pos (show g < w by omega)] at h
      cases h
theorem pdvd {a b : Nat} (h : a ≤ b) : (2 : Int) ^ a ∣ 2 ^ b := by
  obtain ⟨c, rfl⟩ := Nat.exists_eq_add_of_le h
  induction c with
  | zero => exact ⟨1, by simp⟩
  | succ c ih =>
    obtain ⟨q, hq⟩ := ih (by omega)
    refine ⟨q * 2, ?_⟩
    rw [show a + (c + 1) = (a + c) + 1 by omega, Int.pow_succ, hq, Int.mul_assoc]
/-- The last digit is not 0. -/
def lz : List Int → Bool
  | [] => true
  | [d] => d != 0
  | _ :: e :: l => lz (e :: l)
theorem lz_tail {d : Int} {l : List Int} (h : lz (d :: l) = true) : lz l = true := by
  cases l with
  | nil => rfl
  | cons e l => exact h
theorem lastOk_lz : ∀ l : List Int, lastOk l = lz l
  | [] => rfl
  | [d] => by unfold lastOk lz; rfl
  | d :: e :: l => by
    have ih := lastOk_lz (e :: l)
    unfold lz
    rw [← ih]
    unfold lastOk
    simp only [List.length_cons]
    rw [if_neg (by omega), if_neg (by omega)]
    congr 1
    unfold rd
    rw [show (((l.length + 1 + 1 : Nat) : Int) - 1).toNat = l.length + 1 by omega, show (((l.length + 1 : Nat) : Int) - 1).toNat = l.length by omega]
    rfl
/-- Digits that fit: 0, or odd and small. -/
def fits (t : Int) (l : List Int) : Prop := ∀ d ∈ l, d = 0 ∨ ¬ d % 2 = 0 ∧ -(t / 2) < d ∧ d < t / 2
theorem fits_tail {t d : Int} {l : List Int} (h : fits t (d :: l)) : fits t l := fun x hx => h x (List.mem_cons_of_mem _ hx)
theorem val_zero {t : Int} : ∀ {l : List Int}, fits t l → lz l = true → val l = 0 → l = []
  | [], _, _, _ => rfl
  | d :: l, hf, hz, hv => by
    rw [val] at hv
    have hd := hf d (List.mem_cons_self ..)
    have h0 : d = 0 := by omega
    have hl := val_zero (fits_tail hf) (lz_tail hz) (by omega)
    subst hl
    subst h0
    cases hz
theorem dig_odd {t n q d : Int} (ht : Pw t) (hn : n = d + t * q) (ho : ¬ d % 2 = 0) (h0 : -(t / 2) < d) (h1 : d < t / 2) : dig t n = d := by
  unfold dig
  unfold Pw at ht
  rcases ht with rfl | rfl | rfl | rfl | rfl <;> (split <;> (try split) <;> omega)
/-- There is one such list for each number. -/
theorem win_uniq {t : Int} (ht : Pw t) (w : Nat) (hw : t = 2 ^ (w + 1)) : ∀ (f : Nat) (l : List Int) (g : Int), -(2 ^ f) ≤ val l → val l ≤ 2 ^ f → fits t l → lz l = true → ap (w + 1) g l = true → win t f (val l) = l := by
  have step : ∀ (d : Int) (l : List Int) (g : Int), fits t (d :: l) → ap (w + 1) g (d :: l) = true → dig t (val (d :: l)) = d ∧ (∃ g', ap (w + 1) g' l = true) := by
    intro d l g hf ha
    unfold ap at ha
    have hd := hf d (List.mem_cons_self ..)
    rw [val]
    by_cases h0 : d = 0
    · rw [if_pos h0] at ha
      refine ⟨?_, _, ha⟩
      subst h0
      unfold dig
      rw [if_pos (by omega)]
    · rw [if_neg h0] at ha
      by_cases hg : g < (w + 1 : Int)
      · rw [if_pos hg] at ha; cases ha
      · rw [if_neg hg] at ha
        have hd := hd.resolve_left h0
        obtain ⟨q, hq⟩ := ap_zeros _ w 1 l ha (by omega)
        refine ⟨dig_odd ht (q := q) ?_ hd.1 hd.2.1 hd.2.2, _, ha⟩
        rw [hq, hw, Int.pow_succ]
        grind
  intro f
  induction f with
  | zero =>
    intro l g h0 h1 hf hz ha
    cases l with
    | nil => rfl
    | cons d l =>
      obtain ⟨s1, g', s2⟩ := step d l g hf ha
      have hne : val (d :: l) ≠ 0 := fun h => by cases val_zero hf hz h
      have e1 := dig_one ht hne (by omega) (by omega)
      rw [e1, val] at s1
      have hl := val_zero (fits_tail hf) (lz_tail hz) (by omega)
      subst hl
      unfold win
      rw [if_neg hne]
      simp [val]
  | succ f ih =>
    intro l g h0 h1 hf hz ha
    cases l with
    | nil => rw [show val [] = 0 from rfl, win_nil]
    | cons d l =>
      obtain ⟨s1, g', s2⟩ := step d l g hf ha
      have hne : val (d :: l) ≠ 0 := fun h => by cases val_zero hf hz h
      have hx := dig_next ht f h0 h1
      unfold win
      rw [if_neg hne, s1]
      rw [s1] at hx
      have e : (val (d :: l) - d) / 2 = val l := by rw [val]; omega
      rw [e] at hx ⊢
      rw [ih l g' hx.1 hx.2 (fits_tail hf) (lz_tail hz) s2]
theorem win_val (t : Int) (ht : Pw t) : ∀ (f : Nat) (n : Int), val (win t f n) = n
  | 0, n => by
    unfold win
    by_cases h : n = 0
    · rw [if_pos h, h]; rfl
    · rw [if_neg h]; simp [val]
  | f + 1, n => by
    unfold win
    by_cases h : n = 0
    · rw [if_pos h, h]; rfl
    · rw [if_neg h, val, win_val t ht f]
      have := dig_even ht n
      omega
theorem dig_fits {t n : Int} (ht : Pw t) : dig t n = 0 ∨ ¬ dig t n % 2 = 0 ∧ -(t / 2) < dig t n ∧ dig t n < t / 2 := by
  unfold dig
  unfold Pw at ht
  rcases ht with rfl | rfl | rfl | rfl | rfl <;> (split <;> (try split) <;> omega)
theorem win_fits {t : Int} (ht : Pw t) : ∀ (f : Nat) (n : Int), -(2 ^ f) ≤ n → n ≤ 2 ^ f → fits t (win t f n)
  | 0, n, h0, h1 => by
    unfold win
    by_cases h : n = 0
    · rw [if_pos h]; intro d hd; simp at hd
    · rw [if_neg h]
      intro d hd
      rw [List.mem_singleton.1 hd]
      have e := dig_one ht h (by omega) (by omega)
      have := dig_fits (n := n) ht
      rw [e] at this
      exact this
  | f + 1, n, h0, h1 => by
    unfold win
    by_cases h : n = 0
    · rw [if_pos h]; intro d hd; simp at hd
    · rw [if_neg h]
      have hx := dig_next ht f h0 h1
      intro d hd
      rcases List.mem_cons.1 hd with rfl | hd
      · exact dig_fits ht
      · exact win_fits ht f _ hx.1 hx.2 d hd
theorem win_lz {t : Int} (ht : Pw t) : ∀ (f : Nat) (n : Int), lz (win t f n) = true
  | 0, n => by
    unfold win
    by_cases h : n = 0
    · rw [if_pos h]; rfl
    · rw [if_neg h]; unfold lz; exact bne_iff_ne.2 h
  | f + 1, n => by
    unfold win
    by_cases h : n = 0
    · rw [if_pos h]; rfl
    · rw [if_neg h]
      have ih := win_lz ht f ((n - dig t n) / 2)
      have hv := win_val t ht f ((n - dig t n) / 2)
      generalize win t f ((n - dig t n) / 2) = l at ih hv
      cases l with
      | nil =>
        unfold lz
        have := dig_even ht n
        rw [val] at hv
        exact bne_iff_ne.2 (by omega)
      | cons e l => exact ih
theorem dig_mod {t n : Int} (ht : Pw t) (ho : ¬ n % 2 = 0) : t ∣ n - dig t n := by
  unfold dig
  rw [if_neg ho]
  refine Int.dvd_of_emod_eq_zero ?_
  unfold Pw at ht
  rcases ht with rfl | rfl | rfl | rfl | rfl <;> (split <;> omega)
theorem win_ap {t : Int} (ht : Pw t) (w : Nat) (hw : t = 2 ^ (w + 1)) : ∀ (f : Nat) (n g : Int), -(2 ^ f) ≤ n → n ≤ 2 ^ f → (∀ k : Nat, g + k ≤ (w + 1 : Int) → (2 : Int) ^ k ∣ n) → ap (w + 1) g (win t f n) = true := by
  intro f
  induction f with
  | zero =>
    intro n g h0 h1 hk
    unfold win
    by_cases h : n = 0
    · rw [if_pos h]; rfl
    · rw [if_neg h]
      unfold ap
      rw [if_neg h]
      by_cases hg : g < (w + 1 : Int)
      · obtain ⟨c, hc⟩ := hk 1 (by omega)
        have : n = 1 ∨ n = -1 := by omega
        omega
      · rw [if_neg hg]; rfl
  | succ f ih =>
    intro n g h0 h1 hk
    have hx := dig_next ht f h0 h1
    unfold win
    by_cases h : n = 0
    · rw [if_pos h]; rfl
    · rw [if_neg h]
      unfold ap
      by_cases he : n % 2 = 0
      · have hd : dig t n = 0 := by unfold dig; rw [if_pos he]
        rw [hd] at hx ⊢
        rw [if_pos rfl]
        refine ih _ _ hx.1 hx.2 fun k hk2 => ?_
        obtain ⟨c, hc⟩ := hk (k + 1) (by omega)
        refine ⟨c, ?_⟩
        rw [Int.pow_succ] at hc
        have : n = 2 * (2 ^ k * c) := by rw [hc]; grind
        omega
      · have hd : dig t n ≠ 0 := by
          have := dig_even ht n
          omega
        have hg : ¬ g < (w + 1 : Int) := fun hg => by
          obtain ⟨c, hc⟩ := hk 1 (by omega)
          omega
        rw [if_neg hd, if_neg hg]
        refine ih _ _ hx.1 hx.2 fun k hk2 => ?_
        obtain ⟨c, hc⟩ := dig_mod ht he
        obtain ⟨e, he2⟩ := pdvd (a := k + 1) (b := w + 1) (by omega)
        refine ⟨e * c, ?_⟩
        have ht2 : t = 2 ^ k * 2 * e := by rw [hw, he2, Int.pow_succ]
        have : n - dig t n = 2 * (2 ^ k * (e * c)) := by
          rw [hc]
          generalize (2 : Int) ^ k = z at ht2
          rw [ht2]
          grind
        omega
/-- How many digits are other than 0. -/
def wt : List Int → Nat
  | [] => 0
  | d :: l => (if d = 0 then 0 else 1) + wt l
theorem wt_le : ∀ l, wt l ≤ l.length
  | [] => Nat.le_refl _
  | d :: l => by have := wt_le l; unfold wt; split <;> simp only [List.length_cons] <;> omega
theorem pw4 : Pw 4 := .inl rfl
theorem pow_abs (n : Int) : -(2 ^ n.natAbs) ≤ n ∧ n ≤ 2 ^ n.natAbs := by
  have h := @Nat.lt_two_pow_self n.natAbs
  have e : ((2 ^ n.natAbs : Nat) : Int) = (2 : Int) ^ n.natAbs := by simp
  omega
/-- The sparse form of a number. -/
def W4 (n : Int) : List Int := win 4 n.natAbs n
theorem win_fuel {f g : Nat} {n : Int} (h0 : -(2 ^ f) ≤ n) (h1 : n ≤ 2 ^ f) (h2 : -(2 ^ g) ≤ n) (h3 : n ≤ 2 ^ g) : win 4 f n = win 4 g n := by
  have hv := win_val 4 pw4 g n
  have := win_uniq pw4 1 (by decide) f (win 4 g n) 2 (by rw [hv]; exact h0) (by rw [hv]; exact h1) (win_fits pw4 g n h2 h3) (win_lz pw4 g n) (win_ap pw4 1 (by decide) g n 2 h2 h3 fun k hk => by
    have : k = 0 := by omega
    subst this
    exact ⟨n, by simp⟩)
  rw [hv] at this
  exact this
theorem W4_eq {f : Nat} {n : Int} (h0 : -(2 ^ f) ≤ n) (h1 : n ≤ 2 ^ f) : win 4 f n = W4 n := win_fuel h0 h1 (pow_abs n).1 (pow_abs n).2
theorem W4_zero : W4 0 = [] := rfl
theorem W4_rec {n : Int} (hn : n ≠ 0) : W4 n = dig 4 n :: W4 ((n - dig 4 n) / 2) := by
  have hp := pow_abs n
  have e := two_pow_int n.natAbs
  have h0 : -(2 ^ (n.natAbs + 1)) ≤ n := by omega
  have h1 : n ≤ 2 ^ (n.natAbs + 1) := by omega
  rw [← W4_eq h0 h1]
  have hx := dig_next pw4 n.natAbs h0 h1
  unfold win
  rw [if_neg hn, W4_eq hx.1 hx.2]
def nw (n : Int) : Nat := wt (W4 n)
theorem dig_zero {n : Int} (h : n % 2 = 0) : dig 4 n = 0 := by unfold dig; rw [if_pos h]
theorem dig_one4 {n : Int} (h : ¬ n % 2 = 0) : (dig 4 n = 1 ∧ n % 4 = 1) ∨ (dig 4 n = -1 ∧ n % 4 = 3) := by
  unfold dig
  rw [if_neg h]
  split <;> omega
theorem nw_zero : nw 0 = 0 := rfl
theorem nw_even {n : Int} (h : n % 2 = 0) : nw n = nw (n / 2) := by
  by_cases hn : n = 0
  · subst hn; rfl
  · unfold nw
    rw [W4_rec hn, dig_zero h, wt, if_pos rfl, Int.sub_zero, Nat.zero_add]
theorem nw_odd {n : Int} (h : ¬ n % 2 = 0) : nw n = 1 + nw ((n - dig 4 n) / 2) := by
  have hn : n ≠ 0 := by omega
  unfold nw
  rw [W4_rec hn, wt, if_neg]
  rcases dig_one4 h with ⟨e, _⟩ | ⟨e, _⟩ <;> omega
theorem nw_next : ∀ (b : Nat) (m e : Int), m.natAbs ≤ b → (e = 1 ∨ e = -1) → nw (m + e) ≤ nw m + 1 ∧ (¬ m % 2 = 0 → nw (m + e) ≤ nw m) := by
  intro b
  induction b with
  | zero =>
    intro m e hm he
    have : m = 0 := by omega
    subst this
    rcases he with rfl | rfl <;> exact ⟨by decide, fun h => absurd rfl h⟩
  | succ b ih =>
    intro m e hm he
    by_cases hp : m % 2 = 0
    · refine ⟨?_, fun h => absurd hp h⟩
      have ho : ¬ (m + e) % 2 = 0 := by omega
      rw [nw_odd ho, nw_even hp]
      rcases dig_one4 ho with ⟨hd, hm4⟩ | ⟨hd, hm4⟩
      · rw [hd]
        rcases he with rfl | rfl
        · rw [show (m + 1 - 1) / 2 = m / 2 by omega]; omega
        · rw [show (m + -1 - 1) / 2 = m / 2 + -1 by omega]
          have := (ih (m / 2) (-1) (by omega) (.inr rfl)).2 (by omega)
          omega
      · rw [hd]
        rcases he with rfl | rfl
        · rw [show (m + 1 - -1) / 2 = m / 2 + 1 by omega]
          have := (ih (m / 2) 1 (by omega) (.inl rfl)).2 (by omega)
          omega
        · rw [show (m + -1 - -1) / 2 = m / 2 by omega]; omega
    · have key : nw (m + e) ≤ nw m := by
        have he2 : (m + e) % 2 = 0 := by omega
        rw [nw_even he2, nw_odd hp]
        rcases dig_one4 hp with ⟨hd, hm4⟩ | ⟨hd, hm4⟩
        · rw [hd]
          rcases he with rfl | rfl
          · rw [show (m + 1) / 2 = (m - 1) / 2 + 1 by omega]
            have := (ih ((m - 1) / 2) 1 (by omega) (.inl rfl)).1
            omega
          · rw [show (m + -1) / 2 = (m - 1) / 2 by omega]; omega
        · rw [hd]
          rcases he with rfl | rfl
          · rw [show (m + 1) / 2 = (m - -1) / 2 by omega]; omega
          · rw [show (m + -1) / 2 = (m - -1) / 2 + -1 by omega]
            have := (ih ((m - -1) / 2) (-1) (by omega) (.inr rfl)).1
            omega
      exact ⟨by omega, fun _ => key⟩
theorem nw_step {d v : Int} (hd : d = -1 ∨ d = 0 ∨ d = 1) : nw (d + 2 * v) ≤ nw v + (if d = 0 then 0 else 1) := by
  have he : nw (2 * v) = nw v := by rw [nw_even (by omega), show 2 * v / 2 = v by omega]
  rcases hd with rfl | rfl | rfl
  · have := (nw_next _ (2 * v) (-1) (Nat.le_refl _) (.inr rfl)).1
    rw [show -1 + 2 * v = 2 * v + -1 by omega, if_neg (by decide)]
    omega
  · rw [Int.zero_add, if_pos rfl]; omega
  · have := (nw_next _ (2 * v) 1 (Nat.le_refl _) (.inl rfl)).1
    rw [show 1 + 2 * v = 2 * v + 1 by omega, if_neg (by decide)]
    omega
/-- No digits that stand for a number have less weight than its sparse form. -/
theorem nw_le : ∀ (l : List Int), (∀ d ∈ l, d = -1 ∨ d = 0 ∨ d = 1) → nw (val l) ≤ wt l
  | [], _ => by decide
  | d :: l, h => by
    have ih := nw_le l fun x hx => h x (List.mem_cons_of_mem _ hx)
    have hs := nw_step (v := val l) (h d (List.mem_cons_self ..))
    rw [val, wt]
    omega
theorem val_small : ∀ (l : List Int), (∀ d ∈ l, d = -1 ∨ d = 0 ∨ d = 1) → -(2 ^ l.length) < val l ∧ val l < 2 ^ l.length
  | [], _ => by decide
  | d :: l, h => by
    have ih := val_small l fun x hx => h x (List.mem_cons_of_mem _ hx)
    have hd := h d (List.mem_cons_self ..)
    have e := p2 l.length
    rw [val, List.length_cons]
    omega
theorem W4_val (n : Int) : val (W4 n) = n := win_val 4 pw4 _ n
theorem W4_digits (n : Int) : ∀ d ∈ W4 n, d = -1 ∨ d = 0 ∨ d = 1 := fun d hd => by
  have := win_fits pw4 _ n (pow_abs n).1 (pow_abs n).2 d hd
  omega
open Go.Proofs.YtafnnnpcochnnaaLists in
theorem acc_even (f : Int → Int × Int) {n : Int} (h : n % 2 = 0) : acc f n 3 = put1 0 (0, 0) (f (n / 2)) := by
  unfold acc acc acc acc
  rw [if_neg (show ¬ (n - (((2 : Nat) : Int) - 1)) % 2 = 0 by omega), if_pos (show (n - (((1 : Nat) : Int) - 1)) % 2 = 0 by omega), if_neg (show ¬ (n - (((0 : Nat) : Int) - 1)) % 2 = 0 by omega)]
  rw [show ((1 : Nat) : Int) - 1 = 0 by decide, Int.sub_zero]
open Go.Proofs.YtafnnnpcochnnaaLists in
theorem acc_odd (f : Int → Int × Int) {n : Int} (h : ¬ n % 2 = 0) : acc f n 3 = put1 1 (put1 (-1) (0, 0) (f ((n + 1) / 2))) (f ((n - 1) / 2)) := by
  unfold acc acc acc acc
  rw [if_pos (show (n - (((2 : Nat) : Int) - 1)) % 2 = 0 by omega), if_neg (show ¬ (n - (((1 : Nat) : Int) - 1)) % 2 = 0 by omega), if_pos (show (n - (((0 : Nat) : Int) - 1)) % 2 = 0 by omega)]
  rw [show ((2 : Nat) : Int) - 1 = 1 by decide, show ((0 : Nat) : Int) - 1 = -1 by decide, show n - -1 = n + 1 by omega]
open Go.Proofs.YtafnnnpcochnnaaLists in
theorem least_ge : ∀ (L : Nat) (n : Int), (LV L n).1 ≠ 0 → (nw n : Int) ≤ (LV L n).2
  | 0, n => by
    unfold LV
    by_cases h : sz n ≥ 1
    · rw [if_pos h]; intro h; exact absurd rfl h
    · rw [if_neg h]
      intro _
      have : n = 0 := by unfold sz at h; split at h <;> omega
      subst this
      decide
  | L + 1, n => by
    unfold LV
    by_cases h : sz n ≥ 2 ^ (L + 1)
    · rw [if_pos h]; intro h; exact absurd rfl h
    · rw [if_neg h]
      by_cases he : n % 2 = 0
      · rw [acc_even _ he]
        have ih := least_ge L (n / 2)
        unfold put1
        by_cases hz : (LV L (n / 2)).1 = 0
        · rw [if_pos hz]; intro h; exact absurd rfl h
        · rw [if_neg hz]
          intro _
          have := ih hz
          rw [nw_even he]
          simp only [true_or, if_true]
          rw [show sz 0 = 0 by decide]
          omega
      · rw [acc_odd _ he]
        have i1 := least_ge L ((n + 1) / 2)
        have i2 := least_ge L ((n - 1) / 2)
        have s1 := nw_step (d := -1) (v := (n + 1) / 2) (.inl rfl)
        have s2 := nw_step (d := 1) (v := (n - 1) / 2) (.inr (.inr rfl))
        rw [show -1 + 2 * ((n + 1) / 2) = n by omega, if_neg (by decide)] at s1
        rw [show 1 + 2 * ((n - 1) / 2) = n by omega, if_neg (by decide)] at s2
        generalize LV L ((n + 1) / 2) = o1 at i1
        generalize LV L ((n - 1) / 2) = o2 at i2
        have z1 : sz 1 = 1 := by decide
        have z2 : sz (-1) = 1 := by decide
        unfold put1
        rw [z1, z2]
        by_cases h1 : o1.1 = 0
        · rw [if_pos h1]
          by_cases h2 : o2.1 = 0
          · rw [if_pos h2]; intro h; exact absurd rfl h
          · rw [if_neg h2]
            intro _
            have := i2 h2
            simp only [true_or, if_true]
            omega
        · rw [if_neg h1]
          have j1 := i1 h1
          by_cases h2 : o2.1 = 0
          · rw [if_pos h2]
            intro _
            simp only [true_or, if_true]
            omega
          · rw [if_neg h2]
            intro _
            have j2 := i2 h2
            simp only [true_or, if_true]
            split <;> omega
open Go.Proofs.YtafnnnpcochnnaaLists in
theorem least_le : ∀ (L : Nat) (n : Int), (W4 n).length ≤ L → 0 < (LV L n).1 ∧ (LV L n).2 ≤ nw n
  | 0, n, hl => by
    have h0 : W4 n = [] := List.length_eq_zero_iff.1 (by omega)
    have hv := W4_val n
    rw [h0] at hv
    have : n = 0 := hv.symm
    subst this
    decide
  | L + 1, n, hl => by
    have hb := val_small (W4 n) (W4_digits n)
    rw [W4_val] at hb
    obtain ⟨c, hc⟩ := pdvd hl
    have hp := p2_pos (W4 n).length
    have hp2 := p2_pos (L + 1)
    have hge : (2 : Int) ^ (W4 n).length ≤ 2 ^ (L + 1) := by
      have hc0 : 1 ≤ c := by
        by_cases hc0 : 1 ≤ c
        · exact hc0
        · have h1 : (2 : Int) ^ (W4 n).length * c ≤ 2 ^ (W4 n).length * 0 := Int.mul_le_mul_of_nonneg_left (by omega) (by omega)
          omega
      have h1 : (2 : Int) ^ (W4 n).length * 1 ≤ 2 ^ (W4 n).length * c := Int.mul_le_mul_of_nonneg_left hc0 (by omega)
      omega
    have hsz : ¬ sz n ≥ 2 ^ (L + 1) := by unfold sz; split <;> omega
    unfold LV
    rw [if_neg hsz]
    by_cases he : n % 2 = 0
    · rw [acc_even _ he, nw_even he]
      have hl2 : (W4 (n / 2)).length ≤ L := by
        by_cases hn : n = 0
        · subst hn; exact Nat.zero_le _
        · rw [W4_rec hn, dig_zero he, Int.sub_zero, List.length_cons] at hl; omega
      have ih := least_le L (n / 2) hl2
      unfold put1
      rw [if_neg (by omega), show sz 0 = 0 by decide]
      simp only [true_or, if_true]
      omega
    · have hn : n ≠ 0 := by omega
      rw [acc_odd _ he, nw_odd he]
      rw [W4_rec hn, List.length_cons] at hl
      have k1 := LV_ok L ((n + 1) / 2)
      have k2 := LV_ok L ((n - 1) / 2)
      have z1 : sz 1 = 1 := by decide
      have z2 : sz (-1) = 1 := by decide
      rcases dig_one4 he with ⟨hd, _⟩ | ⟨hd, _⟩
      · rw [hd] at hl ⊢
        have ih := least_le L ((n - 1) / 2) (by omega)
        generalize LV L ((n + 1) / 2) = o1 at k1
        generalize LV L ((n - 1) / 2) = o2 at ih k2
        obtain ⟨k10, _, _, _⟩ := k1
        unfold put1
        rw [z1, z2, if_neg (show ¬ o2.1 = 0 by omega)]
        by_cases h1 : o1.1 = 0
        · rw [if_pos h1]
          simp only [true_or, if_true]
          omega
        · rw [if_neg h1]
          simp only [true_or, if_true]
          refine ⟨by omega, ?_⟩
          split <;> omega
      · rw [hd] at hl ⊢
        rw [show n - -1 = n + 1 by omega] at hl ⊢
        have ih := least_le L ((n + 1) / 2) (by omega)
        generalize LV L ((n + 1) / 2) = o1 at k1 ih
        generalize LV L ((n - 1) / 2) = o2 at k2
        obtain ⟨k20, _, _, _⟩ := k2
        unfold put1
        rw [z1, z2, if_neg (show ¬ o1.1 = 0 by omega)]
        by_cases h2 : o2.1 = 0
        · rw [if_pos h2]
          simp only [true_or, if_true]
          omega
        · rw [if_neg h2]
          simp only [true_or, if_true]
          refine ⟨by omega, ?_⟩
          split <;> omega
def allIn (a b : Int) (l : List Int) : Bool := l.all fun d => decide (a ≤ d) && decide (d ≤ b)
theorem l1In_val (x a b : Int) : spec_l1In.f x a b = some (decide (a ≤ x) && decide (x ≤ b)) := by
  unfold spec_l1In.f
  by_cases h : a ≤ x
  · rw [if_pos h]; simp [h]
  · rw [if_neg h]; simp [h]
theorem l1All_loop (a b : Int) (l : List Int) (hl : l.length ≤ 17592186044416) : ∀ (d i : Nat), i + d = l.length → Ev (fun k => spec_l1All.l0 k a b l (l.length : Int) i) (allIn a b (l.drop i)) := by
  intro d
  induction d with
  | zero =>
    intro i h
    refine up ?_
    simp only [spec_l1All.l0, if_neg (show ¬ (i : Int) < (l.length : Int) by omega)]
    rw [List.drop_of_length_le (by omega)]
    exact Ev.now _
  | succ d ih =>
    intro i h
    have hi : i < l.length := by omega
    refine up ?_
    simp only [spec_l1All.l0, if_pos (show (i : Int) < (l.length : Int) by omega), if_pos (show (0 : Int) ≤ (i : Int) by omega), l1In_val, Option.bind_some, wid (x := (i : Int) + 1) (by omega) (by omega), rd_at hi]
    have e : allIn a b (l.drop i) = ((decide (a ≤ l[i]) && decide (l[i] ≤ b)) && allIn a b (l.drop (i + 1))) := by
      rw [List.drop_eq_getElem_cons hi]; rfl
    rw [e]
    cases hb : (decide (a ≤ l[i]) && decide (l[i] ≤ b)) with
    | true => simp only [if_true, Bool.true_and]; exact ih (i + 1) (by omega)
    | false => simp only [Bool.false_eq_true, if_false, Bool.false_and]; exact Ev.now _
theorem l1All_val (a b : Int) (l : List Int) (hl : l.length ≤ 17592186044416) : Ev (fun k => spec_l1All.f k l a b) (allIn a b l) := l1All_loop a b l hl l.length 0 (by omega)
theorem siDigits_val (l : List Int) (hl : l.length ≤ 17592186044416) : Ev (fun k => spec_siDigits.f k l) (signedB l) := by
  unfold signedB
  by_cases h : l.length ≤ 24
  · simp only [spec_siDigits.f, if_pos (show (l.length : Int) ≤ 24 by omega), h, decide_true, Bool.true_and]
    exact Ev.bind (l1All_val (-1) 1 l hl) (Ev.now _)
  · simp only [spec_siDigits.f, if_neg (show ¬ (l.length : Int) ≤ 24 by omega), h, decide_false, Bool.false_and]
    exact Ev.now _
theorem signedB_len {l : List Int} (h : signedB l = true) : l.length ≤ 24 := by
  unfold signedB at h
  simp only [Bool.and_eq_true, decide_eq_true_eq] at h
  exact h.1
theorem signedB_mem {l : List Int} (h : signedB l = true) {d : Int} (hd : d ∈ l) : -1 ≤ d ∧ d ≤ 1 := by
  unfold signedB at h
  simp only [Bool.and_eq_true, decide_eq_true_eq, List.all_eq_true] at h
  exact h.2 d hd
theorem standW_val : ∀ (l : List Int), small l → l.length ≤ 24 → standW l = val l
  | [], _, _ => rfl
  | d :: l, h, hl => by
    have hd := h d (List.mem_cons_self ..)
    simp only [List.length_cons] at hl
    have ih := standW_val l (small_tail h) (by omega)
    have hb := val_big (small_tail h) (by omega)
    show wrap64 (wrap64 (2 * standW l) + d) = d + 2 * val l
    rw [ih, wid (x := 2 * val l) (by omega) (by omega), wid (x := 2 * val l + d) (by omega) (by omega)]
    omega
theorem standing_val {l : List Int} (h : small l) (hl : l.length ≤ 24) : impl_standing.f l = some (val l) := by
  unfold impl_standing.f
  rw [if_pos (by omega), standW_val l h hl]
theorem shl_small_val {d : Int} {i : Nat} (h0 : -31 ≤ d) (h1 : d ≤ 31) (hi : i ≤ 24) : shl .i64 d (i : Int) = d * 2 ^ i := by
  unfold shl
  rw [Int.toNat_natCast, Nat.min_eq_left (show i ≤ IntKind.i64.bits by simp [IntKind.bits]; omega)]
  have hp := p2_le hi
  have hq := p2_pos i
  have hb : -520093696 ≤ d * 2 ^ i ∧ d * 2 ^ i ≤ 520093696 := by
    constructor
    · have := Int.mul_le_mul_of_nonneg_right h0 (show (0 : Int) ≤ 2 ^ i by omega); omega
    · have := Int.mul_le_mul_of_nonneg_right h1 (show (0 : Int) ≤ 2 ^ i by omega); omega
  generalize d * 2 ^ i = x at hb
  simp only [IntKind.wrap, IntKind.bits, IntKind.signed]
  simp
  omega
theorem siSum_loop (l : List Int) (h : small l) (hl : l.length ≤ 24) : ∀ (d i : Nat) (acc : Int), i + d = l.length → -(31 * (2 ^ i - 1)) ≤ acc → acc ≤ 31 * (2 ^ i - 1) → Ev (fun k => spec_siSum.l0 k acc l (l.length : Int) i) (acc + 2 ^ i * val (l.drop i)) := by
  intro d
  induction d with
  | zero =>
    intro i acc hi h0 h1
    refine up ?_
    rw [List.drop_of_length_le (by omega)]
    simp only [spec_siSum.l0, if_neg (show ¬ (i : Int) < (l.length : Int) by omega), val, Int.mul_zero, Int.add_zero]
    exact Ev.now _
  | succ d ih =>
    intro i acc hi h0 h1
    have hlt : i < l.length := by omega
    have hd := h l[i] (List.getElem_mem hlt)
    have hp := p2_le (f := i) (by omega)
    have hq := p2_pos i
    have e := p2 i
    have hx : -(31 * 2 ^ i) ≤ l[i] * 2 ^ i ∧ l[i] * 2 ^ i ≤ 31 * 2 ^ i := by
      constructor
      · have := Int.mul_le_mul_of_nonneg_right hd.1 (show (0 : Int) ≤ 2 ^ i by omega); omega
      · exact Int.mul_le_mul_of_nonneg_right hd.2 (show (0 : Int) ≤ 2 ^ i by omega)
    refine up ?_
    simp only [spec_siSum.l0, if_pos (show (i : Int) < (l.length : Int) by omega), if_pos (show (0 : Int) ≤ (i : Int) by omega), rd_at hlt, shl_small_val hd.1 hd.2 (show i ≤ 24 by omega), wid (x := acc + l[i] * 2 ^ i) (by omega) (by omega), wid (x := (i : Int) + 1) (by omega) (by omega)]
    have := ih (i + 1) (acc + l[i] * 2 ^ i) (by omega) (by omega) (by omega)
    rw [List.drop_eq_getElem_cons hlt, val]
    have e2 : acc + 2 ^ i * (l[i] + 2 * val (l.drop (i + 1))) = acc + l[i] * 2 ^ i + 2 ^ (i + 1) * val (l.drop (i + 1)) := by rw [e]; grind
    rw [e2]; exact this
theorem siSum_val {l : List Int} (h : small l) (hl : l.length ≤ 24) : Ev (fun k => spec_siSum.f k l) (val l) := by
  have := siSum_loop l h hl l.length 0 0 (by omega) (by decide) (by decide)
  simpa [spec_siSum.f] using this
def okNum (n : Int) : Bool := decide (-1000000 ≤ n) && decide (n ≤ 1000000)
theorem siNumber_val (n : Int) : spec_siNumber.f n = some (okNum n) := by simp only [spec_siNumber.f, l1In_val, Option.bind_some]; rfl
theorem signedOk_val (n : Int) : impl_signedOk.f n = some (okNum n) := by
  simp only [impl_signedOk.f, impl_in.f, okNum]
  by_cases h : n ≥ -1000000
  · simp [h, show -1000000 ≤ n from h]
  · simp [h, show ¬ -1000000 ≤ n from h]
theorem signedB_small {l : List Int} (h : signedB l = true) : small l := fun d hd => by have := signedB_mem h hd; omega
def fromV (l : List Int) : Int × Bool := if signedB l = true then (if okNum (val l) = true then (val l, true) else (0, false)) else (0, false)
theorem specFrom (l : List Int) (hl : l.length ≤ 17592186044416) : Ev (fun k => spec_FromSigned.f k l) (fromV l) := by
  simp only [spec_FromSigned.f, fromV]
  refine Ev.bind (siDigits_val l hl) ?_
  by_cases h : signedB l = true
  · have hs := siSum_val (signedB_small h) (signedB_len h)
    simp only [h, if_true]
    refine Ev.bind hs ?_
    simp only [siNumber_val, Option.bind_some]
    by_cases h2 : okNum (val l) = true
    · simp only [h2, if_true]; exact Ev.bind hs (Ev.now _)
    · simp only [h2, if_false]; exact Ev.now _
  · simp only [h, if_false]; exact Ev.now _
theorem implFrom (l : List Int) : Ev (fun k => impl_FromSigned.f k l) (fromV l) := by
  simp only [impl_FromSigned.f, impl_isDigits.f, Option.bind_some, fromV]
  by_cases h : signedB l = true
  · simp only [h, if_true, standing_val (signedB_small h) (signedB_len h), Option.bind_some]
    refine up ?_
    simp only [impl_FromSigned.j0, impl_isDigits.f, Option.bind_some, h, if_true, signedOk_val]
    by_cases h2 : okNum (val l) = true
    · simp only [h2, if_true]; exact Ev.now _
    · simp only [h2, if_false]; exact Ev.now _
  · simp only [h, if_false]
    refine up ?_
    simp only [impl_FromSigned.j0, impl_isDigits.f, Option.bind_some, h, if_false]
    exact Ev.now _
theorem implWeight_loop (l : List Int) (hl : l.length ≤ 1000000) : ∀ (d i : Nat) (n : Nat), i + d = l.length → n ≤ i → Ev (fun k => impl_weight.l0 k n l (l.length : Int) i) ((n + wt (l.drop i) : Nat) : Int) := by
  intro d
  induction d with
  | zero =>
    intro i n h hn
    refine up ?_
    simp only [impl_weight.l0, if_neg (show ¬ (i : Int) < (l.length : Int) by omega)]
    rw [List.drop_of_length_le (by omega)]
    exact Ev.now _
  | succ d ih =>
    intro i n h hn
    have hi : i < l.length := by omega
    refine up ?_
    simp only [impl_weight.l0, if_pos (show (i : Int) < (l.length : Int) by omega), if_pos (show (0 : Int) ≤ (i : Int) by omega), wid (x := (i : Int) + 1) (by omega) (by omega), wid (x := (n : Int) + 1) (by omega) (by omega), rd_at hi]
    rw [List.drop_eq_getElem_cons hi, wt]
    by_cases hz : l[i] = 0
    · simp only [hz, if_true]
      have := ih (i + 1) n (by omega) (by omega)
      rw [show n + (0 + wt (l.drop (i + 1))) = n + wt (l.drop (i + 1)) by omega]; exact this
    · simp only [hz, if_false]
      have := ih (i + 1) (n + 1) (by omega) (by omega)
      rw [show n + (1 + wt (l.drop (i + 1))) = n + 1 + wt (l.drop (i + 1)) by omega]; exact this
theorem implWeight (l : List Int) (hl : l.length ≤ 1000000) : Ev (fun k => impl_weight.f k l) (wt l : Int) := by
  have := implWeight_loop l hl l.length 0 0 (by omega) (by omega)
  simpa [impl_weight.f] using this
theorem implWeightOf (l : List Int) : Ev (fun k => impl_WeightOf.f k l) (if signedB l = true then ((wt l : Int), true) else (0, false)) := by
  simp only [impl_WeightOf.f, impl_isDigits.f, Option.bind_some]
  by_cases h : signedB l = true
  · have hb := signedB_len h
    simp only [h, if_true]
    exact Ev.bind (implWeight l (by omega)) (Ev.now _)
  · simp only [h, if_false]; exact Ev.now _
theorem tmod_in {a b : Int} (hb : 0 < b) : -b < Int.tmod a b ∧ Int.tmod a b < b := ⟨Int.lt_tmod_of_pos a hb, Int.tmod_lt_of_pos a hb⟩
theorem posmod {a b : Int} (hb : 0 < b) (hb2 : b ≤ 1000000000000000) : Int.tmod (wrap64 ((Int.tmod a b) + b)) b = a % b := by
  have h := tmod_in (a := a) hb
  rw [wid (by omega) (by omega), Int.tmod_eq_emod_of_nonneg (by omega), Int.add_emod_right]
  rw [Int.tmod_def, Int.sub_mul_emod_self_left]
theorem odd_test (x : Int) : Int.tmod x 2 = 0 ↔ x % 2 = 0 := by
  rw [← Int.dvd_iff_tmod_eq_zero, ← Int.dvd_iff_emod_eq_zero]
theorem half_even {x : Int} (h : x % 2 = 0) : Int.tdiv x 2 = x / 2 := Int.tdiv_eq_ediv_of_dvd (Int.dvd_of_emod_eq_zero h)
theorem rest_val {a b : Int} (hb : 0 < b) (hb2 : b ≤ 1000000000000000) : impl_rest.f a b = some (a % b) := by
  unfold impl_rest.f
  rw [if_neg (by omega), posmod hb hb2]
theorem implWin_step {t w n : Int} (ht : Pw t) (hw0 : 1 ≤ w) (hw1 : w ≤ 6) (hs : shl .i64 1 w = t) (hh : shl .i64 1 (w - 1) = t / 2) (hn0 : n ≠ 0) (h0 : -2000000 ≤ n) (h1 : n ≤ 2000000) (acc : List Int) (ha : acc.length < 1000) {r : List Int}
    (h : Ev (fun k => impl_windowed.l0 k ((n - dig t n) / 2) w (acc ++ [dig t n])) r) : Ev (fun k => impl_windowed.l0 k n w acc) r := by
  have hd := dig_size ht n
  have he := dig_even ht n
  have ht2 : 0 < t ∧ t ≤ 64 := by unfold Pw at ht; omega
  refine up ?_
  simp only [impl_windowed.l0, if_neg hn0]
  by_cases hp : n % 2 = 0
  · have hd0 : dig t n = 0 := by unfold dig; rw [if_pos hp]
    rw [hd0] at h he
    simp only [if_pos ((odd_test n).2 hp), if_pos (show acc.length < 17592186044416 by omega), wid (x := n - 0) (by omega) (by omega), half_even he, wid (x := (n - 0) / 2) (by omega) (by omega)]
    exact h
  · have hm : 0 ≤ n % t ∧ n % t < t := ⟨Int.emod_nonneg _ (by omega), Int.emod_lt_of_pos _ (by omega)⟩
    simp only [if_neg (mt (odd_test n).1 hp), if_pos (show (0 : Int) ≤ w by omega), hs, rest_val (a := n) (b := t) (by omega) (by omega), Option.bind_some, wid (x := w - 1) (by omega) (by omega), if_pos (show (0 : Int) ≤ w - 1 by omega), hh, if_pos (show acc.length < 17592186044416 by omega)]
    by_cases hb : n % t > t / 2
    · have hd1 : dig t n = n % t - t := by unfold dig; rw [if_neg hp, if_pos hb]
      rw [hd1] at h he
      simp only [if_pos hb, wid (x := n % t - t) (by omega) (by omega), wid (x := n - (n % t - t)) (by omega) (by omega), half_even he, wid (x := (n - (n % t - t)) / 2) (by omega) (by omega)]
      exact h
    · have hd1 : dig t n = n % t := by unfold dig; rw [if_neg hp, if_neg hb]
      rw [hd1] at h he
      simp only [if_neg hb, wid (x := n - n % t) (by omega) (by omega), half_even he, wid (x := (n - n % t) / 2) (by omega) (by omega)]
      exact h
theorem implWin_zero (w : Int) (acc : List Int) : Ev (fun k => impl_windowed.l0 k 0 w acc) acc := by
  refine up ?_
  simp only [impl_windowed.l0, if_true]
  exact Ev.now _
theorem implWin_loop {t w : Int} (ht : Pw t) (hw0 : 1 ≤ w) (hw1 : w ≤ 6) (hs : shl .i64 1 w = t) (hh : shl .i64 1 (w - 1) = t / 2) : ∀ (f : Nat) (n : Int) (acc : List Int), f ≤ 20 → -(2 ^ f) ≤ n → n ≤ 2 ^ f → acc.length + f < 1000 →
    Ev (fun k => impl_windowed.l0 k n w acc) (acc ++ win t f n) := by
  intro f
  induction f with
  | zero =>
    intro n acc hf h0 h1 ha
    by_cases hn : n = 0
    · subst hn; rw [win_nil, List.append_nil]; exact implWin_zero w acc
    · have e := dig_one ht hn (by omega) (by omega)
      refine implWin_step ht hw0 hw1 hs hh hn (by omega) (by omega) acc (by omega) ?_
      rw [e, Int.sub_self, show (0 : Int) / 2 = 0 from rfl, show win t 0 n = [n] by unfold win; rw [if_neg hn]]
      exact implWin_zero w _
  | succ f ih =>
    intro n acc hf h0 h1 ha
    have hp := pow20 hf
    by_cases hn : n = 0
    · subst hn; rw [win_nil, List.append_nil]; exact implWin_zero w acc
    · have hx := dig_next ht f h0 h1
      have := ih ((n - dig t n) / 2) (acc ++ [dig t n]) (by omega) hx.1 hx.2 (by simp; omega)
      refine implWin_step ht hw0 hw1 hs hh hn (by omega) (by omega) acc (by omega) ?_
      rw [show win t (f + 1) n = dig t n :: win t f ((n - dig t n) / 2) by rw [win, if_neg hn]]
      simpa using this
theorem implWin {t w : Int} (ht : Pw t) (hw0 : 1 ≤ w) (hw1 : w ≤ 6) (hs : shl .i64 1 w = t) (hh : shl .i64 1 (w - 1) = t / 2) (n : Int) (h0 : -1000000 ≤ n) (h1 : n ≤ 1000000) : Ev (fun k => impl_windowed.f k n w) (win t 20 n) := by
  have := implWin_loop ht hw0 hw1 hs hh 20 n [] (by omega) (by omega) (by omega) (by simp)
  simpa [impl_windowed.f] using this
theorem siOdd_val (x : Int) : spec_siOdd.f x = some (decide (¬ x % 2 = 0)) := by
  unfold spec_siOdd.f
  by_cases h : x % 2 = 0
  · have := (odd_test x).2 h; simp [h, this]
  · have := mt (odd_test x).1 h; simp [h, this]
theorem specWin_step {t n : Int} (ht : Pw t) (hn0 : n ≠ 0) (h0 : -2000000 ≤ n) (h1 : n ≤ 2000000) (acc : List Int) (ha : acc.length < 1000) {r : List Int}
    (h : Ev (fun k => spec_siWindow.l0 k ((n - dig t n) / 2) (acc ++ [dig t n]) t) r) : Ev (fun k => spec_siWindow.l0 k n acc t) r := by
  have hd := dig_size ht n
  have he := dig_even ht n
  have ht2 : 0 < t ∧ t ≤ 64 := by unfold Pw at ht; omega
  have hth : wrap64 (Int.tdiv t 2) = t / 2 := by unfold Pw at ht; rcases ht with rfl | rfl | rfl | rfl | rfl <;> exact wid (by decide) (by decide)
  refine up ?_
  simp only [spec_siWindow.l0, if_neg hn0, siOdd_val, Option.bind_some]
  by_cases hp : n % 2 = 0
  · have hd0 : dig t n = 0 := by unfold dig; rw [if_pos hp]
    rw [hd0] at h he
    simp only [hp, not_true_eq_false, decide_false, Bool.false_eq_true, if_false, if_pos (show acc.length < 17592186044416 by omega), wid (x := n - 0) (by omega) (by omega), half_even he, wid (x := (n - 0) / 2) (by omega) (by omega)]
    exact h
  · have hm : 0 ≤ n % t ∧ n % t < t := ⟨Int.emod_nonneg _ (by omega), Int.emod_lt_of_pos _ (by omega)⟩
    simp only [hp, not_false_eq_true, decide_true, if_true, if_neg (show ¬ t = 0 by omega), posmod (a := n) (b := t) (by omega) (by omega), hth, if_pos (show acc.length < 17592186044416 by omega)]
    by_cases hb : n % t > t / 2
    · have hd1 : dig t n = n % t - t := by unfold dig; rw [if_neg hp, if_pos hb]
      rw [hd1] at h he
      simp only [if_pos hb, wid (x := n % t - t) (by omega) (by omega), wid (x := n - (n % t - t)) (by omega) (by omega), half_even he, wid (x := (n - (n % t - t)) / 2) (by omega) (by omega)]
      exact h
    · have hd1 : dig t n = n % t := by unfold dig; rw [if_neg hp, if_neg hb]
      rw [hd1] at h he
      simp only [if_neg hb, wid (x := n - n % t) (by omega) (by omega), half_even he, wid (x := (n - n % t) / 2) (by omega) (by omega)]
      exact h
theorem specWin_zero (t : Int) (acc : List Int) : Ev (fun k => spec_siWindow.l0 k 0 acc t) acc := by
  refine up ?_
  simp only [spec_siWindow.l0, if_true]
  exact Ev.now _
theorem specWin_loop {t : Int} (ht : Pw t) : ∀ (f : Nat) (n : Int) (acc : List Int), f ≤ 20 → -(2 ^ f) ≤ n → n ≤ 2 ^ f → acc.length + f < 1000 →
    Ev (fun k => spec_siWindow.l0 k n acc t) (acc ++ win t f n) := by
  intro f
  induction f with
  | zero =>
    intro n acc hf h0 h1 ha
    by_cases hn : n = 0
    · subst hn; rw [win_nil, List.append_nil]; exact specWin_zero t acc
    · have e := dig_one ht hn (by omega) (by omega)
      refine specWin_step ht hn (by omega) (by omega) acc (by omega) ?_
      rw [e, Int.sub_self, show (0 : Int) / 2 = 0 from rfl, show win t 0 n = [n] by unfold win; rw [if_neg hn]]
      exact specWin_zero t _
  | succ f ih =>
    intro n acc hf h0 h1 ha
    have hp := pow20 hf
    by_cases hn : n = 0
    · subst hn; rw [win_nil, List.append_nil]; exact specWin_zero t acc
    · have hx := dig_next ht f h0 h1
      have := ih ((n - dig t n) / 2) (acc ++ [dig t n]) (by omega) hx.1 hx.2 (by simp; omega)
      refine specWin_step ht hn (by omega) (by omega) acc (by omega) ?_
      rw [show win t (f + 1) n = dig t n :: win t f ((n - dig t n) / 2) by rw [win, if_neg hn]]
      simpa using this
theorem specWin {t w : Int} (ht : Pw t) (hw0 : 0 ≤ w) (hs : shl .i64 1 w = t) (n : Int) (h0 : -1000000 ≤ n) (h1 : n ≤ 1000000) : Ev (fun k => spec_siWindow.f k n w) (win t 20 n) := by
  have := specWin_loop ht 20 n [] (by omega) (by omega) (by omega) (by simp)
  simpa [spec_siWindow.f, if_pos hw0, hs] using this
theorem wf_byte {x : Int} (h : (Lit.int .u8 x).wf = true) : 0 ≤ x ∧ x ≤ 255 := by
  simp only [Lit.wf, Bool.and_eq_true, decide_eq_true_eq] at h
  exact h
theorem rd_byte {l : List Int} (hl : ∀ x ∈ l, (Lit.int .u8 x).wf = true) (i : Int) (h0 : 0 ≤ i) (h1 : i < l.length) : 0 ≤ rd l i ∧ rd l i ≤ 255 := by
  unfold rd
  have hi : i.toNat < l.length := by omega
  rw [List.getD_eq_getElem?_getD, List.getElem?_eq_getElem hi]
  exact wf_byte (hl _ (List.getElem_mem hi))
theorem wrapU_range (n : Int) : 0 ≤ IntKind.u64.wrap n ∧ IntKind.u64.wrap n < 18446744073709551616 := by
  simp only [IntKind.wrap, IntKind.bits, IntKind.signed, Bool.false_eq_true, false_and, if_false]
  simp
  omega
theorem and255 (x : Int) : 0 ≤ Go.bits .and .u64 (IntKind.u64.wrap x / 1099511627776) 255 ∧ Go.bits .and .u64 (IntKind.u64.wrap x / 1099511627776) 255 ≤ 255 := by
  have h := wrapU_range x
  have hw : ∀ n : Int, 0 ≤ n → n < 2 ^ 40 → IntKind.u64.wrap n = n := by
    intro n h0 h1
    have e : (2 : Int) ^ 40 = 1099511627776 := by decide
    simp only [IntKind.wrap, IntKind.bits, IntKind.signed, Bool.false_eq_true, false_and, if_false]
    simp
    omega
  have e : (2 : Int) ^ 40 = 1099511627776 := by decide
  have hb : Go.bits .and .u64 (IntKind.u64.wrap x / 1099511627776) ((2 : Int) ^ 8 - 1) = (IntKind.u64.wrap x / 1099511627776) % 2 ^ 8 := bits_mask .u64 40 (by decide) hw 8 (by decide) _ (by omega) (by omega)
  have e1 : (2 : Int) ^ 8 - 1 = 255 := by decide
  have e2 : (2 : Int) ^ 8 = 256 := by decide
  rw [e1, e2] at hb
  rw [hb]; omega
theorem next_ok {l : List Int} (hl : ∀ x ∈ l, (Lit.int .u8 x).wf = true) (p s : Int) (h0 : 0 ≤ p) (h1 : p ≤ 1000000000000) : ∃ v s', spec_l1Cur_next.f l p s = some (v, p + 1, s') ∧ 0 ≤ v ∧ v ≤ 255 := by
  unfold spec_l1Cur_next.f
  rw [wid (x := p + 1) (by omega) (by omega)]
  by_cases hlt : p < (l.length : Int)
  · have hb := rd_byte hl p h0 hlt
    rw [if_pos hlt, if_pos h0, if_pos (show p + 1 ≤ (l.length : Int) by omega), wid (x := rd l p) (by omega) (by omega)]
    exact ⟨_, _, rfl, by omega, by omega⟩
  · rw [if_neg hlt]
    by_cases hle : p + 1 ≤ (l.length : Int)
    · omega
    · rw [if_neg hle]
      have := and255 (IntKind.u64.wrap (IntKind.u64.wrap (s * 6364136223846793005)) + 1442695040888963407)
      rw [wid (by omega) (by omega)]
      exact ⟨_, _, rfl, this.1, this.2⟩
theorem pick_ok {l : List Int} (hl : ∀ x ∈ l, (Lit.int .u8 x).wf = true) (p s n : Int) (h0 : 0 ≤ p) (h1 : p ≤ 100000000000) : ∃ v p' s', spec_l1Cur_pick.f l p s n = some (v, p', s') ∧ 0 ≤ v ∧ (1 ≤ n → v < n) ∧ p ≤ p' ∧ p' ≤ p + 2 := by
  unfold spec_l1Cur_pick.f
  by_cases hn : n ≤ 1
  · rw [if_pos hn]; exact ⟨0, p, s, rfl, by omega, by omega, by omega, by omega⟩
  · rw [if_neg hn]
    obtain ⟨v, s1, e1, hv0, hv1⟩ := next_ok hl p s h0 (by omega)
    rw [e1]; simp only [Option.bind_some]
    by_cases hb : n > 200
    · obtain ⟨u, s2, e2, hu0, hu1⟩ := next_ok hl (p + 1) s1 (by omega) (by omega)
      rw [if_pos hb, e2]; simp only [Option.bind_some]
      rw [if_neg (by omega), wid (x := v * 256) (by omega) (by omega), wid (x := v * 256 + u) (by omega) (by omega), Int.tmod_eq_emod_of_nonneg (by omega)]
      have r1 := Int.emod_nonneg (v * 256 + u) (show n ≠ 0 by omega)
      have r2 := Int.emod_lt_of_pos (v * 256 + u) (show 0 < n by omega)
      exact ⟨_, _, _, rfl, r1, fun _ => r2, by omega, by omega⟩
    · rw [if_neg hb, if_neg (by omega), Int.tmod_eq_emod_of_nonneg (by omega)]
      have r1 := Int.emod_nonneg v (show n ≠ 0 by omega)
      have r2 := Int.emod_lt_of_pos v (show 0 < n by omega)
      exact ⟨_, _, _, rfl, r1, fun _ => r2, by omega, by omega⟩
theorem among_ok {l : List Int} (hl : ∀ x ∈ l, (Lit.int .u8 x).wf = true) (p s : Int) (h0 : 0 ≤ p) (h1 : p ≤ 100000000000) (t : List Int) (ht : 1 ≤ t.length) : ∃ v p' s', spec_l1Cur_among.f l p s t = some (v, p', s') ∧ v ∈ t ∧ p ≤ p' ∧ p' ≤ p + 2 := by
  obtain ⟨v, p', s', e, v0, v1, a, b⟩ := pick_ok hl p s t.length h0 h1
  have hv := v1 (by omega)
  refine ⟨rd t v, p', s', by simp only [spec_l1Cur_among.f, e, Option.bind_some, if_pos v0, if_pos hv], ?_, a, b⟩
  unfold rd
  have hi : v.toNat < t.length := by omega
  rw [List.getD_eq_getElem?_getD, List.getElem?_eq_getElem hi]
  exact List.getElem_mem hi
theorem signs1_ok {l : List Int} (hl : ∀ x ∈ l, (Lit.int .u8 x).wf = true) : ∀ (d : Nat) (L : List Int) (p s : Int), 25 ≤ L.length + d → L.length + d ≤ 60 → 0 ≤ p → p + 10 * d ≤ 1000000 → ∃ r p' s', Ev (fun k => spec_l1Cur_signs.l1 k L l p s) (r, p', s') ∧ r.length ≤ 60 ∧ p ≤ p' ∧ p' ≤ p + 10 * d + 10 := by
  intro d
  induction d with
  | zero =>
    intro L p s h h2 h0 h1
    obtain ⟨v, p1, s1, e, v0, v1, a, b⟩ := pick_ok hl p s 2 h0 (by omega)
    have v2 := v1 (by omega)
    refine ⟨L, p1, s1, up ?_, by omega, by omega, by omega⟩
    simp only [spec_l1Cur_signs.l1, e, Option.bind_some, wid (x := 24 + v) (by omega) (by omega), if_neg (show ¬ (L.length : Int) < 24 + v by omega)]
    exact Ev.now _
  | succ d ih =>
    intro L p s h h2 h0 h1
    obtain ⟨v, p1, s1, e, v0, v1, a, b⟩ := pick_ok hl p s 2 h0 (by omega)
    have v2 := v1 (by omega)
    by_cases c : (L.length : Int) < 24 + v
    · obtain ⟨u, p2, s2, e2, _, _, a2, b2⟩ := pick_ok hl p1 s1 3 (by omega) (by omega)
      obtain ⟨r, p', s', er, hr, ar, br⟩ := ih (L ++ [wrap64 (u - 1)]) p2 s2 (by simp; omega) (by simp; omega) (by omega) (by omega)
      refine ⟨r, p', s', up ?_, hr, by omega, by omega⟩
      simp only [spec_l1Cur_signs.l1, e, Option.bind_some, wid (x := 24 + v) (by omega) (by omega), if_pos c, e2, if_pos (show L.length < 17592186044416 by omega)]
      exact er
    · refine ⟨L, p1, s1, up ?_, by omega, by omega, by omega⟩
      simp only [spec_l1Cur_signs.l1, e, Option.bind_some, wid (x := 24 + v) (by omega) (by omega), if_neg c]
      exact Ev.now _
theorem signs2_ok {l : List Int} (hl : ∀ x ∈ l, (Lit.int .u8 x).wf = true) (L : List Int) (hL : L.length ≤ 60) (c : Bool) (p s : Int) (h0 : 0 ≤ p) (h1 : p ≤ 1000000) : ∃ r p' s', Ev (fun k => spec_l1Cur_signs.j2 k L c l p s) (r, p', s') ∧ r.length ≤ 60 ∧ p ≤ p' ∧ p' ≤ p + 2 := by
  cases c with
  | false =>
    refine ⟨L, p, s, up ?_, hL, by omega, by omega⟩
    simp only [spec_l1Cur_signs.j2, Bool.false_eq_true, if_false]
    exact Ev.now _
  | true =>
    obtain ⟨v, p1, s1, e, v0, v1, a, b⟩ := pick_ok hl p s 3000 h0 (by omega)
    have v2 := v1 (by omega)
    refine ⟨win 4 20 (v - 1500), p1, s1, up ?_, by have := win_length 4 20 (v - 1500); omega, a, b⟩
    simp only [spec_l1Cur_signs.j2, if_true, e, Option.bind_some, wid (x := v - 1500) (by omega) (by omega)]
    exact Ev.bind (specWin (t := 4) (.inl rfl) (by omega) (by decide) (v - 1500) (by omega) (by omega)) (Ev.now _)
theorem signs0_ok {l : List Int} (hl : ∀ x ∈ l, (Lit.int .u8 x).wf = true) : ∀ (d : Nat) (L : List Int) (p s : Int), L.length + d ≤ 20 → 0 ≤ p → p + 10 * d ≤ 100000 → ∃ r p' s', Ev (fun k => spec_l1Cur_signs.l0 k L d l p s) (r, p', s') ∧ r.length ≤ 60 ∧ p ≤ p' ∧ p' ≤ p + 10 * d + 600 := by
  intro d
  induction d with
  | zero =>
    intro L p s hL h0 h1
    obtain ⟨v, p1, s1, e, v0, v1, a, b⟩ := pick_ok hl p s 16 h0 (by omega)
    have v2 := v1 (by omega)
    by_cases c0 : v = 0
    · obtain ⟨u, p2, s2, e2, _, a2, b2⟩ := among_ok hl p1 s1 (by omega) (by omega) [2, (-2), 1099511627776] (by simp)
      refine ⟨L ++ [u], p2, s2, up ?_, by simp; omega, by omega, by omega⟩
      simp only [spec_l1Cur_signs.l0, if_neg (show ¬ ((0 : Nat) : Int) > 0 by omega), e, Option.bind_some, if_pos c0, e2, if_pos (show L.length < 17592186044416 by omega)]
      exact Ev.now _
    by_cases c1 : v = 1
    · obtain ⟨r, p', s', er, hr, ar, br⟩ := signs1_ok hl 30 L p1 s1 (by omega) (by omega) (by omega) (by omega)
      refine ⟨r, p', s', up ?_, hr, by omega, by omega⟩
      simp only [spec_l1Cur_signs.l0, if_neg (show ¬ ((0 : Nat) : Int) > 0 by omega), e, Option.bind_some, if_neg c0, if_pos c1]
      exact er
    have j : ∀ c : Bool, ∃ r p' s', Ev (fun k => spec_l1Cur_signs.j2 k L c l p1 s1) (r, p', s') ∧ r.length ≤ 60 ∧ p ≤ p' ∧ p' ≤ p + 10 * ((0 : Nat) : Int) + 600 := fun c => by
      obtain ⟨r, p', s', er, hr, ar, br⟩ := signs2_ok hl L (by omega) c p1 s1 (by omega) (by omega)
      exact ⟨r, p', s', er, hr, by omega, by omega⟩
    by_cases c2 : v = 2
    · obtain ⟨r, p', s', er, hr, ar, br⟩ := j (v == 2)
      refine ⟨r, p', s', up ?_, hr, ar, br⟩
      simp only [spec_l1Cur_signs.l0, if_neg (show ¬ ((0 : Nat) : Int) > 0 by omega), e, Option.bind_some, if_neg c0, if_neg c1, if_pos c2]
      exact er
    by_cases c3 : v = 3
    · obtain ⟨r, p', s', er, hr, ar, br⟩ := j (v == 3)
      refine ⟨r, p', s', up ?_, hr, ar, br⟩
      simp only [spec_l1Cur_signs.l0, if_neg (show ¬ ((0 : Nat) : Int) > 0 by omega), e, Option.bind_some, if_neg c0, if_neg c1, if_neg c2, if_pos c3]
      exact er
    obtain ⟨r, p', s', er, hr, ar, br⟩ := j (v == 4)
    refine ⟨r, p', s', up ?_, hr, ar, br⟩
    simp only [spec_l1Cur_signs.l0, if_neg (show ¬ ((0 : Nat) : Int) > 0 by omega), e, Option.bind_some, if_neg c0, if_neg c1, if_neg c2, if_neg c3]
    exact er
  | succ d ih =>
    intro L p s hL h0 h1
    have hd : wrap64 (((d + 1 : Nat) : Int) - 1) = (d : Int) := by rw [wid (by omega) (by omega)]; omega
    obtain ⟨v, p1, s1, e, v0, v1, a, b⟩ := pick_ok hl p s 3 h0 (by omega)
    obtain ⟨r, p', s', er, hr, ar, br⟩ := ih (L ++ [wrap64 (v - 1)]) p1 s1 (by simp; omega) (by omega) (by omega)
    refine ⟨r, p', s', up ?_, hr, by omega, by omega⟩
    simp only [spec_l1Cur_signs.l0, if_pos (show ((d + 1 : Nat) : Int) > 0 by omega), e, Option.bind_some, if_pos (show L.length < 17592186044416 by omega), hd]
    exact er
theorem signs_at {l : List Int} (hl : ∀ x ∈ l, (Lit.int .u8 x).wf = true) (p s : Int) (h0 : 0 ≤ p) (h1 : p ≤ 10000) : ∃ r p' s', Ev (fun k => spec_l1Cur_signs.f k l p s) (r, p', s') ∧ r.length ≤ 60 ∧ p ≤ p' ∧ p' ≤ p + 1000 := by
  obtain ⟨w, p1, s1, e1, hw, a1, b1⟩ := among_ok hl p s (by omega) (by omega) [4, 8, 16] (by simp)
  obtain ⟨v, p2, s2, e2, v0, v1, a2, b2⟩ := pick_ok hl p1 s1 w (by omega) (by omega)
  have hw2 : 1 ≤ w ∧ w ≤ 16 := by simp at hw; omega
  have v2 := v1 (by omega)
  obtain ⟨d, rfl⟩ := Int.eq_ofNat_of_zero_le v0
  obtain ⟨r, p', s', er, hr, ar, br⟩ := signs0_ok hl d [] p2 s2 (by simp; omega) (by omega) (by omega)
  refine ⟨r, p', s', ?_, hr, by omega, by omega⟩
  simp only [spec_l1Cur_signs.f, e1, Option.bind_some, e2]
  exact er
theorem signs_ok {l : List Int} (hl : ∀ x ∈ l, (Lit.int .u8 x).wf = true) : ∃ r p' s', Ev (fun k => spec_l1Cur_signs.f k l 0 0) (r, p', s') ∧ r.length ≤ 60 ∧ 0 ≤ p' ∧ p' ≤ 1000 := signs_at hl 0 0 (by omega) (by omega)
theorem number9_ok {l : List Int} (hl : ∀ x ∈ l, (Lit.int .u8 x).wf = true) (p s : Int) (h0 : 0 ≤ p) (h1 : p ≤ 10000000000) : ∃ v p' s', spec_l1Cur_number9.f l p s = some (v, p', s') ∧ p ≤ p' ∧ p' ≤ p + 8 := by
  unfold spec_l1Cur_number9.f
  obtain ⟨v, p1, s1, e, _, _, a, b⟩ := pick_ok hl p s 10 h0 (by omega)
  rw [e]; simp only [Option.bind_some]
  by_cases c0 : v = 0
  · obtain ⟨u, p2, s2, e2, _, a2, b2⟩ := among_ok hl p1 s1 (by omega) (by omega) [0, 1, (-1), 1000000, (-1000000), 1000001, (-1000001), 4611686018427387904, (-9223372036854775808)] (by simp)
    rw [if_pos c0, e2]; exact ⟨_, p2, s2, rfl, by omega, by omega⟩
  rw [if_neg c0]
  by_cases c1 : v = 1
  · obtain ⟨u, p2, s2, e2, _, _, a2, b2⟩ := pick_ok hl p1 s1 60000 (by omega) (by omega)
    rw [if_pos c1, e2]; exact ⟨_, p2, s2, rfl, by omega, by omega⟩
  rw [if_neg c1]
  by_cases c2 : v = 2
  · obtain ⟨u, p2, s2, e2, u0, _, a2, b2⟩ := pick_ok hl p1 s1 20 (by omega) (by omega)
    obtain ⟨t, p3, s3, e3, _, _, a3, b3⟩ := pick_ok hl p2 s2 3 (by omega) (by omega)
    rw [if_pos c2, e2]; simp only [Option.bind_some]
    rw [if_pos u0, e3]; exact ⟨_, p3, s3, rfl, by omega, by omega⟩
  rw [if_neg c2]
  obtain ⟨u, p2, s2, e2, _, a2, b2⟩ := among_ok hl p1 s1 (by omega) (by omega) [20, 200, 2000] (by simp)
  obtain ⟨t, p3, s3, e3, _, _, a3, b3⟩ := pick_ok hl p2 s2 u (by omega) (by omega)
  obtain ⟨q, p4, s4, e4, _, a4, b4⟩ := among_ok hl p3 s3 (by omega) (by omega) [0, 10, 100] (by simp)
  rw [e2]; simp only [Option.bind_some]
  rw [e3]; simp only [Option.bind_some]
  rw [e4]; exact ⟨_, p4, s4, rfl, by omega, by omega⟩
theorem rSameV_loop (a b : List Int) (hl : a.length ≤ 140737488351232) (hab : a.length = b.length) : ∀ (d i : Nat), i + d = a.length → Ev (fun k => laws_rSame.l0 k a b (a.length : Int) (i : Int)) (decide (a.drop i = b.drop i)) := by
  intro d
  induction d with
  | zero =>
    intro i h
    refine up ?_
    simp only [laws_rSame.l0, if_neg (show ¬ (i : Int) < (a.length : Int) by omega)]
    rw [List.drop_of_length_le (show a.length ≤ i by omega), List.drop_of_length_le (show b.length ≤ i by omega)]
    exact Ev.now _
  | succ d ih =>
    intro i h
    have h1 : i < a.length := by omega
    have h2 : i < b.length := by omega
    refine up ?_
    simp only [laws_rSame.l0, if_pos (show (i : Int) < (a.length : Int) by omega), if_pos (show (0 : Int) ≤ (i : Int) by omega), if_pos (show (i : Int) < (b.length : Int) by omega), wid (x := (i : Int) + 1) (by omega) (by omega), rd_at h1, rd_at h2]
    rw [List.drop_eq_getElem_cons h1, List.drop_eq_getElem_cons h2]
    by_cases he : a[i] = b[i]
    · simp only [he, if_true, List.cons.injEq, true_and]
      exact ih (i + 1) (by omega)
    · simp only [he, if_false, List.cons.injEq, false_and, decide_false]
      exact Ev.now _
theorem rSame_val (a b : List Int) (hl : a.length ≤ 140737488351232) : Ev (fun k => laws_rSame.f k a b) (decide (a = b)) := by
  simp only [laws_rSame.f]
  by_cases h : a.length = b.length
  · simp only [if_pos (show (a.length : Int) = (b.length : Int) by omega)]
    have := rSameV_loop a b hl h a.length 0 (by omega)
    simpa using this
  · simp only [if_neg (show ¬ (a.length : Int) = (b.length : Int) by omega)]
    rw [decide_eq_false (fun e => h (by rw [e]))]
    exact Ev.now _
theorem okNum_range {n : Int} (h : okNum n = true) : -1000000 ≤ n ∧ n ≤ 1000000 := by
  unfold okNum at h
  simpa only [Bool.and_eq_true, decide_eq_true_eq] using h
theorem pow_20 : (2 : Int) ^ 20 = 1048576 := by decide
/-- What SignedDigits answers. -/
def sdV (n : Int) : List Int × Bool := if okNum n = true then (win 4 20 n, true) else ([], false)
theorem sdSpec (n : Int) : Ev (fun k => spec_SignedDigits.f k n) (sdV n) := by
  simp only [spec_SignedDigits.f, siNumber_val, Option.bind_some, sdV]
  by_cases h : okNum n = true
  · have hr := okNum_range h
    simp only [h, if_true]
    exact Ev.bind (specWin pw4 (by omega) (by decide) n hr.1 hr.2) (Ev.now _)
  · simp only [h, Bool.false_eq_true, if_false]; exact Ev.now _
theorem sdImpl (n : Int) : Ev (fun k => impl_SignedDigits.f k n) (sdV n) := by
  simp only [impl_SignedDigits.f, signedOk_val, Option.bind_some, sdV]
  by_cases h : okNum n = true
  · have hr := okNum_range h
    simp only [h, if_true]
    exact Ev.bind (implWin pw4 (by omega) (by omega) (by decide) (by decide) n hr.1 hr.2) (Ev.now _)
  · simp only [h, Bool.false_eq_true, if_false]; exact Ev.now _
def formV (l : List Int) : Bool × Bool := if signedB l = true then (sparseB 2 l, true) else (false, false)
theorem specForm (l : List Int) (hl : l.length ≤ 17592186044416) : Ev (fun k => spec_IsSparseForm.f k l) (formV l) := by
  simp only [spec_IsSparseForm.f, formV]
  refine Ev.bind (siDigits_val l hl) ?_
  by_cases h : signedB l = true
  · have hb := signedB_len h
    simp only [h, if_true]
    exact Ev.bind (specApart 2 (by omega) (by omega) l (by omega)) (Ev.now _)
  · simp only [h, if_false]; exact Ev.now _
theorem implForm (l : List Int) : Ev (fun k => impl_IsSparseForm.f k l) (formV l) := by
  simp only [impl_IsSparseForm.f, impl_isDigits.f, Option.bind_some, formV]
  by_cases h : signedB l = true
  · have hb := signedB_len h
    simp only [h, if_true]
    exact Ev.bind (implSparse 2 (by omega) (by omega) l (by omega)) (Ev.now _)
  · simp only [h, if_false]; exact Ev.now _
theorem signed_digits {l : List Int} (h : signedB l = true) : ∀ d ∈ l, d = -1 ∨ d = 0 ∨ d = 1 := fun d hd => by
  have := signedB_mem h hd
  omega
theorem digits_signed {l : List Int} (hl : l.length ≤ 24) (h : ∀ d ∈ l, d = -1 ∨ d = 0 ∨ d = 1) : signedB l = true := by
  unfold signedB
  simp only [Bool.and_eq_true, decide_eq_true_eq, List.all_eq_true]
  exact ⟨hl, fun d hd => by have := h d hd; omega⟩
theorem W4_sparse (n : Int) : sparseB 2 (W4 n) = true := by
  have hp := pow_abs n
  unfold sparseB
  rw [lastOk_lz, apart_ap]
  unfold W4
  rw [win_lz pw4, Bool.true_and, show (0 : Int) - -2 = 2 by decide]
  exact win_ap pw4 1 (by decide) _ n 2 hp.1 hp.2 fun k hk => by
    have : k = 0 := by omega
    subst this
    exact ⟨n, by simp⟩
theorem sparse_uniq {l : List Int} (hd : ∀ d ∈ l, d = -1 ∨ d = 0 ∨ d = 1) (h : sparseB 2 l = true) : W4 (val l) = l := by
  have hp := pow_abs (val l)
  unfold sparseB at h
  rw [Bool.and_eq_true, lastOk_lz, apart_ap] at h
  exact win_uniq pw4 1 (by decide) _ l _ hp.1 hp.2 (fun d hx => by have := hd d hx; omega) h.1 h.2
theorem draw_sd {l : List Int} (hl : ∀ x ∈ l, (Lit.int .u8 x).wf = true) : ∃ n, spec_DrawSignedDigits.f l = some n := by
  obtain ⟨n, p1, s1, e1, _, _⟩ := number9_ok hl 0 0 (by omega) (by omega)
  exact ⟨n, by simp only [spec_DrawSignedDigits.f, e1, Option.bind_some]⟩
theorem part2 {l : List Int} (hl : ∀ x ∈ l, (Lit.int .u8 x).wf = true) : Ev (fun k => laws_FnSparseForms.j1 k l) true := by
  obtain ⟨r, p1, s1, hd, hr, _, _⟩ := signs_ok hl
  refine up ?_
  simp only [laws_FnSparseForms.j1]
  refine Ev.bind (a := r) (by simp only [spec_DrawFromSigned.f]; exact Ev.bind hd (Ev.now _)) ?_
  refine Ev.bind (implFrom r) ?_
  refine Ev.bind (specFrom r (by omega)) ?_
  refine Ev.bind (implForm r) ?_
  refine Ev.bind (specForm r (by omega)) ?_
  simp only [bne_self_eq_false, Bool.false_eq_true, if_false, if_true]
  refine up ?_
  simp only [laws_FnSparseForms.j2, Bool.false_eq_true, if_false]
  unfold fromV
  by_cases hs : signedB r = true
  · by_cases hn : okNum (val r) = true
    · have hdig := signed_digits hs
      have hrr := okNum_range hn
      have p := pow_20
      have hW : win 4 20 (val r) = W4 (val r) := W4_eq (by omega) (by omega)
      have hlen := win_length 4 20 (val r)
      simp only [if_pos hs, if_pos hn, if_true]
      refine Ev.bind (sdImpl (val r)) ?_
      unfold sdV
      simp only [if_pos hn, hW] at hlen ⊢
      have hsW := digits_signed (by omega) (W4_digits (val r))
      have hw1 := implWeightOf (W4 (val r))
      have hw2 := implWeightOf r
      rw [if_pos hsW] at hw1
      rw [if_pos hs] at hw2
      refine Ev.bind hw1 ?_
      refine Ev.bind hw2 ?_
      have hle := nw_le r hdig
      unfold nw at hle
      simp only [if_true, if_pos (show ((wt (W4 (val r)) : Nat) : Int) ≤ (wt r : Int) by omega)]
      refine Ev.bind (rSame_val _ _ (by omega)) ?_
      have hb : (formV r).1 = decide (W4 (val r) = r) := by
        unfold formV
        rw [if_pos hs]
        show sparseB 2 r = _
        by_cases hsp : sparseB 2 r = true
        · rw [hsp, decide_eq_true (sparse_uniq hdig hsp)]
        · rw [decide_eq_false (fun e => hsp (by rw [← e]; exact W4_sparse _))]
          simpa using hsp
      rw [hb, beq_self_eq_true]
      exact Ev.now _
    · simp only [if_pos hs, if_neg hn, Bool.false_eq_true, if_false]; exact Ev.now _
  · simp only [if_neg hs, Bool.false_eq_true, if_false]; exact Ev.now _
theorem least_val {n : Int} (h : okNum n = true) (hl : (W4 n).length ≤ 21) : impl_LeastWeight.f n (wrap64 (((W4 n).length : Int) + 1)) = some ((wt (W4 n) : Int), true) := by
  have hr := okNum_range h
  rw [wid (by omega) (by omega)]
  unfold impl_LeastWeight.f
  rw [if_pos ⟨hr, by omega, by omega⟩, show ((((W4 n).length : Int) + 1).toNat) = (W4 n).length + 1 by omega]
  have h1 := least_le ((W4 n).length + 1) n (by omega)
  have h2 := least_ge ((W4 n).length + 1) n (by omega)
  unfold nw at h1 h2
  rw [decide_eq_true h1.1, show (Go.Proofs.YtafnnnpcochnnaaLists.LV ((W4 n).length + 1) n).2 = (wt (W4 n) : Int) by omega]
theorem main : laws_FnSparseForms.Pure := by
  intro l0 l1 _ _ hw0 _ _ hw1
  refine Ev.rounds ?_
  simp only [laws_FnSparseForms.f]
  have hb : ∃ b, laws_big.f l0 l1 = some b := by
    unfold laws_big.f
    split <;> exact ⟨_, rfl⟩
  obtain ⟨b, hb⟩ := hb
  simp only [hb, Option.bind_some]
  cases b with
  | true => simp only [if_true]; exact Ev.now _
  | false =>
    simp only [Bool.false_eq_true, if_false]
    obtain ⟨n, hn⟩ := draw_sd hw0
    simp only [hn, Option.bind_some]
    refine Ev.bind (sdImpl n) ?_
    refine Ev.bind (sdSpec n) ?_
    simp only [bne_self_eq_false, Bool.false_eq_true, if_false]
    have hlen : (sdV n).1.length ≤ 21 := by
      unfold sdV
      split
      · exact win_length 4 20 n
      · simp
    refine Ev.bind (rSame_val (sdV n).1 (sdV n).1 (by omega)) ?_
    rw [decide_eq_true rfl]
    refine up ?_
    simp only [laws_FnSparseForms.j0, Bool.not_true, Bool.false_eq_true, if_false]
    by_cases hok : okNum n = true
    · have hr := okNum_range hok
      have p := pow_20
      have hW : win 4 20 n = W4 n := W4_eq (by omega) (by omega)
      have e : sdV n = (W4 n, true) := by unfold sdV; rw [if_pos hok, hW]
      rw [e] at hlen ⊢
      have hs := digits_signed (l := W4 n) (by have : (W4 n).length ≤ 21 := hlen; omega) (W4_digits n)
      simp only [if_true]
      have h1 := implFrom (W4 n)
      have h2 := implForm (W4 n)
      have h3 := implWeightOf (W4 n)
      unfold fromV at h1
      unfold formV at h2
      rw [if_pos hs, W4_val, if_pos hok] at h1
      rw [if_pos hs, W4_sparse] at h2
      rw [if_pos hs] at h3
      refine Ev.bind h1 ?_
      refine Ev.bind h2 ?_
      refine Ev.bind h3 ?_
      simp only [least_val hok hlen, Option.bind_some, if_true]
      exact part2 hw1
    · have e : sdV n = ([], false) := by unfold sdV; rw [if_neg hok]
      simp only [e, Bool.false_eq_true, if_false]
      exact part2 hw1
end Go.Proofs.Ytafnnnpcochnnaa.PureFnSparseFormsL
namespace Go.Proofs.Ytafnnnpcochnnaa.Pure
open Go.Proofs.Ytafnnnpcochnnaa.PFnSparseForms
theorem FnSparseForms : laws_FnSparseForms.Pure := PureFnSparseFormsL.main
end Go.Proofs.Ytafnnnpcochnnaa.Pure
