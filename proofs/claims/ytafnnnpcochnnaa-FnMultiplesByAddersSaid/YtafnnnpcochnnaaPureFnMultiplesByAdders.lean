/- Adders of a number give its multiple of each input, one adder less than the weight if that is at least 2 and the number greater than 0, and one adder alone does if it is told: the statement holds for all its drawn arguments; nothing is asked of them. -/
import Derived.Test.YtafnnnpcochnnaaPFnMultiplesByAddersx1
import Derived.Test.YtafnnnpcochnnaaPFnMultiplesByAddersx2
import Derived.Test.YtafnnnpcochnnaaPFnMultiplesByAddersx3
import Derived.Test.YtafnnnpcochnnaaPFnMultiplesByAddersx4
import Derived.Test.YtafnnnpcochnnaaPFnMultiplesByAddersx5
import Derived.Test.YtafnnnpcochnnaaPFnMultiplesByAddersx6
import Derived.Test.YtafnnnpcochnnaaPFnMultiplesByAddersx7
set_option linter.unusedVariables false
set_option linter.unusedSimpArgs false
namespace Go.Proofs.Ytafnnnpcochnnaa.PureFnMultiplesByAddersL
open Go.RowKit Go.Proofs.Ytafnnnpcochnnaa.PFnMultiplesByAdders Go.Proofs.YtafnnnpcochnnaaW.PrintWords Go.Proofs.YtafnnnpcochnnaaW.PrintLast Go.Proofs.YtafnnnpcochnnaaW.PrintMore
theorem up {α : Type} {g : Nat → Option α} {r : α} (h : Ev (fun k => g (k + 1)) r) : Ev g r := by
  obtain ⟨K, h⟩ := h
  refine ⟨K + 1, fun k hk => ?_⟩
  obtain ⟨m, rfl⟩ : ∃ m, k = m + 1 := ⟨k - 1, by omega⟩
  exact h m (by omega)
theorem wid {x : Int} (h0 : -9223372036854775808 ≤ x) (h1 : x ≤ 9223372036854775807) : wrap64 x = x := by unfold wrap64; omega
theorem ite_yes {α : Type} {c : Prop} [Decidable c] {a b : α} (h : c) : (if c then a else b) = a := if_pos h
theorem ite_no {α : Type} {c : Prop} [Decidable c] {a b : α} (h : ¬ c) : (if c then a else b) = b := if_neg h
theorem evsome {α β : Type} {x : Option α} {a : α} {f : Nat → α → Option β} {r : β} (hx : x = some a) (h : Ev (fun k => f k a) r) : Ev (fun k => x.bind (f k)) r := by subst hx; exact h
theorem if_pos_ev {α : Type} {c : Prop} [Decidable c] {f g : Nat → Option α} (h : c) : (fun k => if c then f k else g k) = f := funext fun k => if_pos h
theorem if_neg_ev {α : Type} {c : Prop} [Decidable c] {f g : Nat → Option α} (h : ¬ c) : (fun k => if c then f k else g k) = g := funext fun k => if_neg h
theorem rd_at {l : List Int} {i : Nat} (h : i < l.length) : rd l (i : Int) = l[i] := by
  unfold rd
  rw [Int.toNat_natCast, List.getD_eq_getElem?_getD, List.getElem?_eq_getElem h]; rfl
abbrev Ad := S69
theorem rdA_at {l : List Ad} {i : Nat} (h : i < l.length) : rd_T69 l (i : Int) = l[i] := by
  unfold rd_T69
  rw [Int.toNat_natCast, List.getD_eq_getElem?_getD, List.getElem?_eq_getElem h]; rfl
def okA (i : Int) (a : Ad) : Bool := (decide (0 ≤ a.f0) && decide (a.f0 ≤ i)) && ((decide (0 ≤ a.f2) && decide (a.f2 ≤ i)) && ((decide (0 ≤ a.f1) && decide (a.f1 ≤ 20)) && (decide (0 ≤ a.f3) && decide (a.f3 ≤ 20))))
theorem okA_iff {i : Int} {a : Ad} : okA i a = true ↔ (0 ≤ a.f0 ∧ a.f0 ≤ i) ∧ (0 ≤ a.f2 ∧ a.f2 ≤ i) ∧ (0 ≤ a.f1 ∧ a.f1 ≤ 20) ∧ 0 ≤ a.f3 ∧ a.f3 ≤ 20 := by
  unfold okA; simp only [Bool.and_eq_true, decide_eq_true_eq]
/-- The value of an adder, over the values before it. -/
def av (vs : List Int) (a : Ad) : Int := if a.f4 = true then rd vs a.f0 * 2 ^ a.f1.toNat - rd vs a.f2 * 2 ^ a.f3.toNat else rd vs a.f0 * 2 ^ a.f1.toNat + rd vs a.f2 * 2 ^ a.f3.toNat
def inM (v : Int) : Bool := decide (-2097152 ≤ v) && decide (v ≤ 2097152)
theorem inM_iff {v : Int} : inM v = true ↔ -2097152 ≤ v ∧ v ≤ 2097152 := by unfold inM; simp only [Bool.and_eq_true, decide_eq_true_eq]
/-- All values of adders, if they are valid from the i-th on. -/
def chk : Nat → List Int → List Ad → Option (List Int)
  | _, acc, [] => some acc
  | i, acc, a :: l => if okA i a = true then (if inM (av acc a) = true then chk (i + 1) (acc ++ [av acc a]) l else none) else none
def bnd (M : Int) (vs : List Int) : Prop := ∀ v ∈ vs, -M ≤ v ∧ v ≤ M
theorem bnd_rd {M : Int} {vs : List Int} (h : bnd M vs) (hM : 0 ≤ M) (i : Int) : -M ≤ rd vs i ∧ rd vs i ≤ M := by
  unfold rd
  rcases Nat.lt_or_ge i.toNat vs.length with h1 | h1
  · rw [List.getD_eq_getElem?_getD, List.getElem?_eq_getElem h1]
    exact h _ (List.getElem_mem h1)
  · rw [List.getD_eq_getElem?_getD, List.getElem?_eq_none h1]
    simp; omega
theorem pow_small {n : Int} (h1 : n ≤ 20) : (1 : Int) ≤ 2 ^ n.toNat ∧ (2 : Int) ^ n.toNat ≤ 1048576 := by
  have h := Nat.pow_le_pow_right (n := 2) (by omega) (show n.toNat ≤ 20 by omega)
  have e : ((2 ^ n.toNat : Nat) : Int) = (2 : Int) ^ n.toNat := by simp
  have hp : 0 < 2 ^ n.toNat := Nat.pow_pos (by omega)
  omega
theorem mul_bnd {x p M : Int} (h0 : -M ≤ x) (h1 : x ≤ M) (hM : 0 ≤ M) (p0 : 1 ≤ p) (p1 : p ≤ 1048576) : -(M * 1048576) ≤ x * p ∧ x * p ≤ M * 1048576 := by
  have a1 := Int.mul_le_mul_of_nonneg_right h1 (show (0 : Int) ≤ p by omega)
  have a0 := Int.mul_le_mul_of_nonneg_right h0 (show (0 : Int) ≤ p by omega)
  have b := Int.mul_le_mul_of_nonneg_left p1 hM
  have e : -M * p = -(M * p) := Int.neg_mul M p
  omega
theorem shl_val {x n : Int} (M : Int) (hM : 0 ≤ M) (hM2 : M ≤ 2200000000) (h0 : -M ≤ x) (h1 : x ≤ M) (n0 : 0 ≤ n) (n1 : n ≤ 20) : shl .i64 x n = x * 2 ^ n.toNat := by
  unfold shl
  rw [Nat.min_eq_left (show n.toNat ≤ IntKind.i64.bits by simp [IntKind.bits]; omega)]
  have hp := pow_small n1
  have hb := mul_bnd h0 h1 hM hp.1 hp.2
  generalize x * 2 ^ n.toNat = y at hb
  simp only [IntKind.wrap, IntKind.bits, IntKind.signed]
  simp
  omega
theorem rd_snoc_old (vs : List Int) (v : Int) {i : Int} (h : i < vs.length) (h0 : 0 ≤ i) : rd (vs ++ [v]) i = rd vs i := by
  unfold rd
  rw [List.getD_eq_getElem?_getD, List.getD_eq_getElem?_getD, List.getElem?_append_left (by omega)]
theorem rd_snoc_new (vs : List Int) (v : Int) : rd (vs ++ [v]) (vs.length : Int) = v := by
  unfold rd
  rw [Int.toNat_natCast, List.getD_eq_getElem?_getD]; simp
theorem bnd_snoc {M : Int} {vs : List Int} (h : bnd M vs) {v : Int} (hv : -M ≤ v ∧ v ≤ M) : bnd M (vs ++ [v]) := fun x hx => by
  rcases List.mem_append.1 hx with h1 | h1
  · exact h x h1
  · simp at h1; subst h1; exact hv
theorem chk_len : ∀ (l : List Ad) (i : Nat) (acc ms : List Int), chk i acc l = some ms → ms.length = acc.length + l.length
  | [], _, acc, ms, h => by simp only [chk, Option.some.injEq] at h; subst h; simp
  | a :: l, i, acc, ms, h => by
    simp only [chk] at h
    split at h
    · split at h
      · have := chk_len l _ _ _ h; simp at this ⊢; omega
      · cases h
    · cases h
theorem chk_bnd : ∀ (l : List Ad) (i : Nat) (acc ms : List Int), bnd 2097152 acc → chk i acc l = some ms → bnd 2097152 ms
  | [], _, acc, ms, hb, h => by simp only [chk, Option.some.injEq] at h; subst h; exact hb
  | a :: l, i, acc, ms, hb, h => by
    simp only [chk] at h
    split at h
    · split at h
      · rename_i h1 h2
        exact chk_bnd l _ _ _ (bnd_snoc hb (inM_iff.1 h2)) h
      · cases h
    · cases h
theorem l1In_val (x a b : Int) : spec_l1In.f x a b = some (decide (a ≤ x) && decide (x ≤ b)) := by
  unfold spec_l1In.f
  by_cases h : a ≤ x
  · rw [if_pos h]; simp [h]
  · rw [if_neg h]; simp [h]
/-- How many digits are other than 0. -/
def wt : List Int → Nat
  | [] => 0
  | d :: l => (if d = 0 then 0 else 1) + wt l
theorem wt_le : ∀ l, wt l ≤ l.length
  | [] => Nat.le_refl _
  | d :: l => by have := wt_le l; unfold wt; split <;> simp only [List.length_cons] <;> omega
theorem specWeight_loop (l : List Int) (hl : l.length ≤ 1000000) : ∀ (d i : Nat) (n : Nat), i + d = l.length → n ≤ i → Ev (fun k => spec_siWeight.l0 k n l (l.length : Int) i) ((n + wt (l.drop i) : Nat) : Int) := by
  intro d
  induction d with
  | zero =>
    intro i n h hn
    refine up ?_
    simp only [spec_siWeight.l0, if_neg (show ¬ (i : Int) < (l.length : Int) by omega)]
    rw [List.drop_of_length_le (by omega)]
    exact Ev.now _
  | succ d ih =>
    intro i n h hn
    have hi : i < l.length := by omega
    refine up ?_
    simp only [spec_siWeight.l0, if_pos (show (i : Int) < (l.length : Int) by omega), if_pos (show (0 : Int) ≤ (i : Int) by omega), wid (x := (i : Int) + 1) (by omega) (by omega), wid (x := (n : Int) + 1) (by omega) (by omega), rd_at hi]
    rw [List.drop_eq_getElem_cons hi, wt]
    by_cases hz : l[i] = 0
    · simp only [hz, if_true]
      have := ih (i + 1) n (by omega) (by omega)
      rw [show n + (0 + wt (l.drop (i + 1))) = n + wt (l.drop (i + 1)) by omega]; exact this
    · simp only [hz, if_false]
      have := ih (i + 1) (n + 1) (by omega) (by omega)
      rw [show n + (1 + wt (l.drop (i + 1))) = n + 1 + wt (l.drop (i + 1)) by omega]; exact this
theorem specWeight (l : List Int) (hl : l.length ≤ 1000000) : Ev (fun k => spec_siWeight.f k l) (wt l : Int) := by
  have := specWeight_loop l hl l.length 0 0 (by omega) (by omega)
  simpa [spec_siWeight.f] using this
/-- The window digit of a number, for the width whose power of two is t. -/
def dig (t n : Int) : Int := if n % 2 = 0 then 0 else if n % t > t / 2 then n % t - t else n % t
/-- The window digits of a number whose size is at most 2^f. -/
def win (t : Int) : Nat → Int → List Int
  | 0, n => if n = 0 then [] else [n]
  | f + 1, n => if n = 0 then [] else dig t n :: win t f ((n - dig t n) / 2)
def Pw (t : Int) : Prop := t = 4 ∨ t = 8 ∨ t = 16 ∨ t = 32 ∨ t = 64
theorem win_nil (t : Int) (f : Nat) : win t f 0 = [] := by cases f <;> simp [win]
theorem win_length (t : Int) : ∀ (f : Nat) (n : Int), (win t f n).length ≤ f + 1
  | 0, n => by unfold win; split <;> simp
  | f + 1, n => by
    unfold win
    split
    · simp
    · have := win_length t f ((n - dig t n) / 2); simp only [List.length_cons]; omega
theorem dig_even {t : Int} (ht : Pw t) (n : Int) : (n - dig t n) % 2 = 0 := by
  unfold dig Pw at *
  rcases ht with rfl | rfl | rfl | rfl | rfl <;> (split <;> (try split) <;> omega)
theorem dig_size {t : Int} (ht : Pw t) (n : Int) : -32 < dig t n ∧ dig t n < 32 := by
  unfold dig Pw at *
  rcases ht with rfl | rfl | rfl | rfl | rfl <;> (split <;> (try split) <;> omega)
theorem dig_one {t : Int} (ht : Pw t) {n : Int} (h0 : n ≠ 0) (h1 : -1 ≤ n) (h2 : n ≤ 1) : dig t n = n := by
  have : n = 1 ∨ n = -1 := by omega
  unfold Pw at ht
  rcases ht with rfl | rfl | rfl | rfl | rfl <;> rcases this with rfl | rfl <;> decide
theorem dig_next_aux {t P Q n : Int} (ht : Pw t) (hPQ : P = 2 * Q) (hP : (P = 2 ∨ P = 4 ∨ P = 8 ∨ P = 16 ∨ P = 32) ∨ ∃ p, P = 64 * p) (h0 : -P ≤ n) (h1 : n ≤ P) : -Q ≤ (n - dig t n) / 2 ∧ (n - dig t n) / 2 ≤ Q := by
  unfold dig
  unfold Pw at ht
  rcases ht with rfl | rfl | rfl | rfl | rfl <;> rcases hP with (rfl | rfl | rfl | rfl | rfl) | ⟨p, rfl⟩ <;> (split <;> (try split) <;> omega)
theorem two_pow_int (f : Nat) : (2 : Int) ^ (f + 1) = 2 * 2 ^ f := by rw [Int.pow_succ]; omega
theorem dig_next {t : Int} (ht : Pw t) (f : Nat) {n : Int} (h0 : -(2 ^ (f + 1)) ≤ n) (h1 : n ≤ 2 ^ (f + 1)) : -(2 ^ f) ≤ (n - dig t n) / 2 ∧ (n - dig t n) / 2 ≤ 2 ^ f := by
  refine dig_next_aux ht (two_pow_int f) ?_ h0 h1
  rcases Nat.lt_or_ge f 5 with hf | hf
  · have hc : f = 0 ∨ f = 1 ∨ f = 2 ∨ f = 3 ∨ f = 4 := by omega
    left
    rcases hc with rfl | rfl | rfl | rfl | rfl <;> decide
  · obtain ⟨g, rfl⟩ : ∃ g, f = g + 5 := ⟨f - 5, by omega⟩
    right
    exact ⟨2 ^ g, by simp only [Int.pow_succ]; omega⟩
theorem pow20 {f : Nat} (hf : f ≤ 20) : (2 : Int) ^ f ≤ 1048576 := by
  have h := Nat.pow_le_pow_right (n := 2) (by omega) hf
  have e : ((2 ^ f : Nat) : Int) = (2 : Int) ^ f := by simp
  omega
theorem tmod_in {a b : Int} (hb : 0 < b) : -b < Int.tmod a b ∧ Int.tmod a b < b := ⟨Int.lt_tmod_of_pos a hb, Int.tmod_lt_of_pos a hb⟩
theorem posmod {a b : Int} (hb : 0 < b) (hb2 : b ≤ 1000000000000000) : Int.tmod (wrap64 ((Int.tmod a b) + b)) b = a % b := by
  have h := tmod_in (a := a) hb
  rw [wid (by omega) (by omega), Int.tmod_eq_emod_of_nonneg (by omega), Int.add_emod_right]
  rw [Int.tmod_def, Int.sub_mul_emod_self_left]
theorem odd_test (x : Int) : Int.tmod x 2 = 0 ↔ x % 2 = 0 := by
  rw [← Int.dvd_iff_tmod_eq_zero, ← Int.dvd_iff_emod_eq_zero]
theorem half_even {x : Int} (h : x % 2 = 0) : Int.tdiv x 2 = x / 2 := Int.tdiv_eq_ediv_of_dvd (Int.dvd_of_emod_eq_zero h)
theorem siOdd_val (x : Int) : spec_siOdd.f x = some (decide (¬ x % 2 = 0)) := by
  unfold spec_siOdd.f
  by_cases h : x % 2 = 0
  · have := (odd_test x).2 h; simp [h, this]
  · have := mt (odd_test x).1 h; simp [h, this]
theorem specWin_step {t n : Int} (ht : Pw t) (hn0 : n ≠ 0) (h0 : -2000000 ≤ n) (h1 : n ≤ 2000000) (acc : List Int) (ha : acc.length < 1000) {r : List Int}
    (h : Ev (fun k => spec_siWindow.l0 k ((n - dig t n) / 2) (acc ++ [dig t n]) t) r) : Ev (fun k => spec_siWindow.l0 k n acc t) r := by
  have hd := dig_size ht n
  have he := dig_even ht n
  have ht2 : 0 < t ∧ t ≤ 64 := by unfold Pw at ht; omega
  have hth : wrap64 (Int.tdiv t 2) = t / 2 := by unfold Pw at ht; rcases ht with rfl | rfl | rfl | rfl | rfl <;> exact wid (by decide) (by decide)
  refine up ?_
  simp only [spec_siWindow.l0, if_neg hn0, siOdd_val, Option.bind_some]
  by_cases hp : n % 2 = 0
  · have hd0 : dig t n = 0 := by unfold dig; rw [if_pos hp]
    rw [hd0] at h he
    simp only [hp, not_true_eq_false, decide_false, Bool.false_eq_true, if_false, if_pos (show acc.length < 17592186044416 by omega), wid (x := n - 0) (by omega) (by omega), half_even he, wid (x := (n - 0) / 2) (by omega) (by omega)]
    exact h
  · have hm : 0 ≤ n % t ∧ n % t < t := ⟨Int.emod_nonneg _ (by omega), Int.emod_lt_of_pos _ (by omega)⟩
    simp only [hp, not_false_eq_true, decide_true, if_true, if_neg (show ¬ t = 0 by omega), posmod (a := n) (b := t) (by omega) (by omega), hth, if_pos (show acc.length < 17592186044416 by omega)]
    by_cases hb : n % t > t / 2
    · have hd1 : dig t n = n % t - t := by unfold dig; rw [if_neg hp, if_pos hb]
      rw [hd1] at h he
      simp only [if_pos hb, wid (x := n % t - t) (by omega) (by omega), wid (x := n - (n % t - t)) (by omega) (by omega), half_even he, wid (x := (n - (n % t - t)) / 2) (by omega) (by omega)]
      exact h
    · have hd1 : dig t n = n % t := by unfold dig; rw [if_neg hp, if_neg hb]
      rw [hd1] at h he
      simp only [if_neg hb, wid (x := n - n % t) (by omega) (by omega), half_even he, wid (x := (n - n % t) / 2) (by omega) (by omega)]
      exact h
theorem specWin_zero (t : Int) (acc : List Int) : Ev (fun k => spec_siWindow.l0 k 0 acc t) acc := by
  refine up ?_
  simp only [spec_siWindow.l0, if_true]
  exact Ev.now _
theorem specWin_loop {t : Int} (ht : Pw t) : ∀ (f : Nat) (n : Int) (acc : List Int), f ≤ 20 → -(2 ^ f) ≤ n → n ≤ 2 ^ f → acc.length + f < 1000 →
    Ev (fun k => spec_siWindow.l0 k n acc t) (acc ++ win t f n) := by
  intro f
  induction f with
  | zero =>
    intro n acc hf h0 h1 ha
    by_cases hn : n = 0
    · subst hn; rw [win_nil, List.append_nil]; exact specWin_zero t acc
    · have e := dig_one ht hn (by omega) (by omega)
      refine specWin_step ht hn (by omega) (by omega) acc (by omega) ?_
      rw [e, Int.sub_self, show (0 : Int) / 2 = 0 from rfl, show win t 0 n = [n] by unfold win; rw [if_neg hn]]
      exact specWin_zero t _
  | succ f ih =>
    intro n acc hf h0 h1 ha
    have hp := pow20 hf
    by_cases hn : n = 0
    · subst hn; rw [win_nil, List.append_nil]; exact specWin_zero t acc
    · have hx := dig_next ht f h0 h1
      have := ih ((n - dig t n) / 2) (acc ++ [dig t n]) (by omega) hx.1 hx.2 (by simp; omega)
      refine specWin_step ht hn (by omega) (by omega) acc (by omega) ?_
      rw [show win t (f + 1) n = dig t n :: win t f ((n - dig t n) / 2) by rw [win, if_neg hn]]
      simpa using this
theorem specWin {t w : Int} (ht : Pw t) (hw0 : 0 ≤ w) (hs : shl .i64 1 w = t) (n : Int) (h0 : -1000000 ≤ n) (h1 : n ≤ 1000000) : Ev (fun k => spec_siWindow.f k n w) (win t 20 n) := by
  have := specWin_loop ht 20 n [] (by omega) (by omega) (by omega) (by simp)
  simpa [spec_siWindow.f, if_pos hw0, hs] using this
/-- The adders for the digits below the i-th, going down. -/
def mkFrom (D : List Int) (top : Int) : Nat → List Ad → List Ad
  | 0, out => out
  | i + 1, out => if rd D (i : Int) = 0 then mkFrom D top i out else mkFrom D top i (out ++ [⟨(out.length : Int), if (out.length : Int) = 0 then top else 0, 0, (i : Int), decide (rd D (i : Int) < 0)⟩])
theorem mkFrom_len (D : List Int) (top : Int) : ∀ (i : Nat) (out : List Ad), (mkFrom D top i out).length ≤ out.length + i
  | 0, out => by simp [mkFrom]
  | i + 1, out => by
    unfold mkFrom
    split
    · have := mkFrom_len D top i out; omega
    · have := mkFrom_len D top i (out ++ [⟨(out.length : Int), if (out.length : Int) = 0 then top else 0, 0, (i : Int), decide (rd D (i : Int) < 0)⟩])
      simp only [List.length_append, List.length_singleton] at this; omega
theorem siMake_loop (D : List Int) (top : Int) (hD : D.length ≤ 1000) : ∀ (i : Nat) (out : List Ad), i ≤ D.length → out.length + i ≤ 1000 → Ev (fun k => spec_siMake.l0 k D top out ((i : Int) - 1)) (mkFrom D top i out) := by
  intro i
  induction i with
  | zero =>
    intro out _ _
    refine up ?_
    simp only [spec_siMake.l0, if_neg (show ¬ ((0 : Nat) : Int) - 1 ≥ 0 by omega), mkFrom]
    exact Ev.now _
  | succ i ih =>
    intro out hi ho
    have e : ((i + 1 : Nat) : Int) - 1 = (i : Int) := by omega
    refine up ?_
    simp only [spec_siMake.l0, e, if_pos (show (i : Int) ≥ 0 by omega), if_pos (show (0 : Int) ≤ (i : Int) by omega), if_pos (show (i : Int) < (D.length : Int) by omega), if_pos (show out.length < 3518437208883 by omega), wid (x := (i : Int) - 1) (by omega) (by omega), mkFrom]
    by_cases hz : rd D (i : Int) = 0
    · simp only [hz, if_true]; exact ih out (by omega) (by omega)
    · simp only [hz, if_false]
      by_cases h0 : (out.length : Int) = 0
      · simp only [h0, if_true]
        have := ih (out ++ [⟨(out.length : Int), if (out.length : Int) = 0 then top else 0, 0, (i : Int), decide (rd D (i : Int) < 0)⟩]) (by omega) (by simp; omega)
        simpa only [h0, if_true] using this
      · simp only [h0, if_false]
        have := ih (out ++ [⟨(out.length : Int), if (out.length : Int) = 0 then top else 0, 0, (i : Int), decide (rd D (i : Int) < 0)⟩]) (by omega) (by simp; omega)
        simpa only [h0, if_false] using this
theorem win_pos (t : Int) (f : Nat) {n : Int} (h : n ≠ 0) : 1 ≤ (win t f n).length := by
  cases f with
  | zero => simp [win, h]
  | succ f => simp [win, h]
/-- The reference's adders for a number of at least 1. -/
def makeV (n : Int) : List Ad :=
  if wt (win 4 20 n) = 1 then (if ((win 4 20 n).length : Int) - 1 = 0 then [] else [⟨0, ((win 4 20 n).length : Int) - 1 - 1, 0, ((win 4 20 n).length : Int) - 1 - 1, false⟩])
  else mkFrom (win 4 20 n) (((win 4 20 n).length : Int) - 1) ((win 4 20 n).length - 1) []
theorem makeV_len (n : Int) : (makeV n).length ≤ 21 := by
  have hl := win_length 4 20 n
  unfold makeV
  split
  · split <;> simp
  · have := mkFrom_len (win 4 20 n) (((win 4 20 n).length : Int) - 1) ((win 4 20 n).length - 1) []
    simp only [List.length_nil] at this; omega
theorem siMake_val {n : Int} (h0 : 1 ≤ n) (h1 : n ≤ 1000000) : Ev (fun k => spec_siMake.f k n) (makeV n) := by
  have hw := specWin (t := 4) (w := 2) (Or.inl rfl) (by omega) (by decide) n (by omega) h1
  have hl := win_length 4 20 n
  have hp := win_pos 4 20 (n := n) (by omega)
  simp only [spec_siMake.f]
  refine Ev.bind hw ?_
  refine Ev.bind (specWeight _ (by omega)) ?_
  unfold makeV
  by_cases hk : wt (win 4 20 n) = 1
  · have hk' : ((wt (win 4 20 n) : Nat) : Int) = 1 := by omega
    simp only [hk, hk', if_true, wid (x := ((win 4 20 n).length : Int) - 1) (by omega) (by omega), wid (x := ((win 4 20 n).length : Int) - 1 - 1) (by omega) (by omega)]
    by_cases h2 : ((win 4 20 n).length : Int) - 1 = 0
    · simp only [h2, if_true]; exact Ev.now _
    · simp only [h2, if_false]; exact Ev.now _
  · have hk' : ¬ ((wt (win 4 20 n) : Nat) : Int) = 1 := by omega
    simp only [hk, hk', if_false, wid (x := ((win 4 20 n).length : Int) - 1) (by omega) (by omega), wid (x := ((win 4 20 n).length : Int) - 1 - 1) (by omega) (by omega)]
    have := siMake_loop (win 4 20 n) (((win 4 20 n).length : Int) - 1) (by omega) ((win 4 20 n).length - 1) [] (by omega) (by simp; omega)
    rw [show (((win 4 20 n).length - 1 : Nat) : Int) = ((win 4 20 n).length : Int) - 1 by omega] at this
    exact this
def okNum (n : Int) : Bool := decide (-1000000 ≤ n) && decide (n ≤ 1000000)
theorem siNumber_val (n : Int) : spec_siNumber.f n = some (okNum n) := by simp only [spec_siNumber.f, l1In_val, Option.bind_some]; rfl
/-- The reference's adders for a number. -/
def addersV (n : Int) : List Ad × Bool :=
  if okNum n = true then (if n = 0 then ([⟨0, 0, 0, 0, true⟩], true) else if n > 0 then (makeV n, true) else (makeV (-n) ++ [⟨((makeV (-n)).length : Int), 0, ((makeV (-n)).length : Int), 1, true⟩], true)) else ([], false)
theorem specAddersOf (n : Int) : Ev (fun k => spec_AddersOf.f k n) (addersV n) := by
  simp only [spec_AddersOf.f, siNumber_val, Option.bind_some, addersV]
  by_cases h : okNum n = true
  · have h' := h
    unfold okNum at h'
    rw [Bool.and_eq_true, decide_eq_true_eq, decide_eq_true_eq] at h'
    simp only [h, if_true]
    by_cases h0 : n = 0
    · simp only [h0, if_true]; exact Ev.now _
    · simp only [h0, if_false]
      by_cases hp : n > 0
      · simp only [hp, if_true]
        exact Ev.bind (siMake_val (by omega) h'.2) (Ev.now _)
      · simp only [hp, if_false, wid (x := -n) (by omega) (by omega)]
        refine Ev.bind (siMake_val (n := -n) (by omega) (by omega)) ?_
        have := makeV_len (-n)
        simp only [if_pos (show (makeV (-n)).length < 3518437208883 by omega)]
        exact Ev.now _
  · simp only [h, if_false]; exact Ev.now _
theorem addersV_len (n : Int) : (addersV n).1.length ≤ 22 := by
  have h1 := makeV_len n
  have h2 := makeV_len (-n)
  unfold addersV
  split
  · split
    · simp
    · split
      · simp only []; omega
      · simp only [List.length_append, List.length_singleton]; omega
  · simp
theorem rest_val {a b : Int} (hb : 0 < b) (hb2 : b ≤ 1000000000000000) : impl_rest.f a b = some (a % b) := by
  unfold impl_rest.f
  rw [if_neg (by omega), posmod hb hb2]
theorem implWin_step {t w n : Int} (ht : Pw t) (hw0 : 1 ≤ w) (hw1 : w ≤ 6) (hs : shl .i64 1 w = t) (hh : shl .i64 1 (w - 1) = t / 2) (hn0 : n ≠ 0) (h0 : -2000000 ≤ n) (h1 : n ≤ 2000000) (acc : List Int) (ha : acc.length < 1000) {r : List Int}
    (h : Ev (fun k => impl_windowed.l0 k ((n - dig t n) / 2) w (acc ++ [dig t n])) r) : Ev (fun k => impl_windowed.l0 k n w acc) r := by
  have hd := dig_size ht n
  have he := dig_even ht n
  have ht2 : 0 < t ∧ t ≤ 64 := by unfold Pw at ht; omega
  refine up ?_
  simp only [impl_windowed.l0, if_neg hn0]
  by_cases hp : n % 2 = 0
  · have hd0 : dig t n = 0 := by unfold dig; rw [if_pos hp]
    rw [hd0] at h he
    simp only [if_pos ((odd_test n).2 hp), if_pos (show acc.length < 17592186044416 by omega), wid (x := n - 0) (by omega) (by omega), half_even he, wid (x := (n - 0) / 2) (by omega) (by omega)]
    exact h
  · have hm : 0 ≤ n % t ∧ n % t < t := ⟨Int.emod_nonneg _ (by omega), Int.emod_lt_of_pos _ (by omega)⟩
    simp only [if_neg (mt (odd_test n).1 hp), if_pos (show (0 : Int) ≤ w by omega), hs, rest_val (a := n) (b := t) (by omega) (by omega), Option.bind_some, wid (x := w - 1) (by omega) (by omega), if_pos (show (0 : Int) ≤ w - 1 by omega), hh, if_pos (show acc.length < 17592186044416 by omega)]
    by_cases hb : n % t > t / 2
    · have hd1 : dig t n = n % t - t := by unfold dig; rw [if_neg hp, if_pos hb]
      rw [hd1] at h he
      simp only [if_pos hb, wid (x := n % t - t) (by omega) (by omega), wid (x := n - (n % t - t)) (by omega) (by omega), half_even he, wid (x := (n - (n % t - t)) / 2) (by omega) (by omega)]
      exact h
    · have hd1 : dig t n = n % t := by unfold dig; rw [if_neg hp, if_neg hb]
      rw [hd1] at h he
      simp only [if_neg hb, wid (x := n - n % t) (by omega) (by omega), half_even he, wid (x := (n - n % t) / 2) (by omega) (by omega)]
      exact h
theorem implWin_zero (w : Int) (acc : List Int) : Ev (fun k => impl_windowed.l0 k 0 w acc) acc := by
  refine up ?_
  simp only [impl_windowed.l0, if_true]
  exact Ev.now _
theorem implWin_loop {t w : Int} (ht : Pw t) (hw0 : 1 ≤ w) (hw1 : w ≤ 6) (hs : shl .i64 1 w = t) (hh : shl .i64 1 (w - 1) = t / 2) : ∀ (f : Nat) (n : Int) (acc : List Int), f ≤ 20 → -(2 ^ f) ≤ n → n ≤ 2 ^ f → acc.length + f < 1000 →
    Ev (fun k => impl_windowed.l0 k n w acc) (acc ++ win t f n) := by
  intro f
  induction f with
  | zero =>
    intro n acc hf h0 h1 ha
    by_cases hn : n = 0
    · subst hn; rw [win_nil, List.append_nil]; exact implWin_zero w acc
    · have e := dig_one ht hn (by omega) (by omega)
      refine implWin_step ht hw0 hw1 hs hh hn (by omega) (by omega) acc (by omega) ?_
      rw [e, Int.sub_self, show (0 : Int) / 2 = 0 from rfl, show win t 0 n = [n] by unfold win; rw [if_neg hn]]
      exact implWin_zero w _
  | succ f ih =>
    intro n acc hf h0 h1 ha
    have hp := pow20 hf
    by_cases hn : n = 0
    · subst hn; rw [win_nil, List.append_nil]; exact implWin_zero w acc
    · have hx := dig_next ht f h0 h1
      have := ih ((n - dig t n) / 2) (acc ++ [dig t n]) (by omega) hx.1 hx.2 (by simp; omega)
      refine implWin_step ht hw0 hw1 hs hh hn (by omega) (by omega) acc (by omega) ?_
      rw [show win t (f + 1) n = dig t n :: win t f ((n - dig t n) / 2) by rw [win, if_neg hn]]
      simpa using this
theorem implWin {t w : Int} (ht : Pw t) (hw0 : 1 ≤ w) (hw1 : w ≤ 6) (hs : shl .i64 1 w = t) (hh : shl .i64 1 (w - 1) = t / 2) (n : Int) (h0 : -1000000 ≤ n) (h1 : n ≤ 1000000) : Ev (fun k => impl_windowed.f k n w) (win t 20 n) := by
  have := implWin_loop ht hw0 hw1 hs hh 20 n [] (by omega) (by omega) (by omega) (by simp)
  simpa [impl_windowed.f] using this
/-- The number that digits stand for. -/
def val : List Int → Int
  | [] => 0
  | d :: l => d + 2 * val l
def small (l : List Int) : Prop := ∀ d ∈ l, -31 ≤ d ∧ d ≤ 31
theorem small_tail {d : Int} {l : List Int} (h : small (d :: l)) : small l := fun x hx => h x (List.mem_cons_of_mem _ hx)
theorem p2 (n : Nat) : (2 : Int) ^ (n + 1) = 2 * 2 ^ n := by rw [Int.pow_succ]; omega
theorem p2_pos (n : Nat) : (1 : Int) ≤ 2 ^ n := by
  induction n with
  | zero => decide
  | succ n ih => rw [p2]; omega
theorem p2_le {f : Nat} (hf : f ≤ 24) : (2 : Int) ^ f ≤ 16777216 := by
  have h := Nat.pow_le_pow_right (n := 2) (by omega) hf
  have e : ((2 ^ f : Nat) : Int) = (2 : Int) ^ f := by simp
  omega
theorem val_bound : ∀ (l : List Int), small l → -(31 * (2 ^ l.length - 1)) ≤ val l ∧ val l ≤ 31 * (2 ^ l.length - 1)
  | [], _ => by simp [val]
  | d :: l, h => by
    have hd := h d (List.mem_cons_self ..)
    have ih := val_bound l (small_tail h)
    have e := p2 l.length
    simp only [val, List.length_cons]
    omega
theorem val_big {l : List Int} (h : small l) (hl : l.length ≤ 24) : -520093696 ≤ val l ∧ val l ≤ 520093696 := by
  have := val_bound l h
  have := p2_le hl
  omega
/-- Of any w neighbours at most one is other than 0; the last such stands at 'last'. -/
def apartFrom (w : Int) : List Int → Int → Int → Bool
  | [], _, _ => true
  | d :: l, i, last => if d = 0 then apartFrom w l (i + 1) last else if i - last < w then false else apartFrom w l (i + 1) i
def lastOk (l : List Int) : Bool := if (l.length : Int) = 0 then true else (rd l ((l.length : Int) - 1) != 0)
def sparseB (w : Int) (l : List Int) : Bool := lastOk l && apartFrom w l 0 (-w)
/-- Of any w neighbours at most one is other than 0; g places ago the last such stood. -/
def ap (w : Int) : Int → List Int → Bool
  | _, [] => true
  | g, d :: l => if d = 0 then ap w (g + 1) l else if g < w then false else ap w 1 l
theorem apart_ap (w : Int) : ∀ (l : List Int) (i last : Int), apartFrom w l i last = ap w (i - last) l
  | [], _, _ => rfl
  | d :: l, i, last => by
    unfold apartFrom ap
    rw [apart_ap w l (i + 1) last, apart_ap w l (i + 1) i, show i + 1 - last = i - last + 1 by omega, show i + 1 - i = 1 by omega]
theorem ap_zeros (w : Int) : ∀ (k : Nat) (g : Int) (l : List Int), ap w g l = true → g + k ≤ w → (2 : Int) ^ k ∣ val l
  | 0, _, l, _, _ => ⟨val l, by simp⟩
  | k + 1, g, [], _, _ => ⟨0, by simp [val]⟩
  | k + 1, g, d :: l, h, hk => by
    unfold ap at h
    by_cases hd : d = 0
    · rw [if_pos hd] at h
      obtain ⟨c, hc⟩ := ap_zeros w k (g + 1) l h (by omega)
      refine ⟨c, ?_⟩
      rw [val, hd, hc, Int.pow_succ]
      grind
    · rw [if_neg hd, if_pos (show g < w by omega)] at h
      cases h
theorem pdvd {a b : Nat} (h : a ≤ b) : (2 : Int) ^ a ∣ 2 ^ b := by
  obtain ⟨c, rfl⟩ := Nat.exists_eq_add_of_le h
  induction c with
  | zero => exact ⟨1, by simp⟩
  | succ c ih =>
    obtain ⟨q, hq⟩ := ih (by omega)
    refine ⟨q * 2, ?_⟩
    rw [show a + (c + 1) = (a + c) + 1 by omega, Int.pow_succ, hq, Int.mul_assoc]
/-- The last digit is not 0. -/
def lz : List Int → Bool
  | [] => true
  | [d] => d != 0
  | _ :: e :: l => lz (e :: l)
theorem lz_tail {d : Int} {l : List Int} (h : lz (d :: l) = true) : lz l = true := by
  cases l with
  | nil => rfl
  | cons e l => exact h
theorem lastOk_lz : ∀ l : List Int, lastOk l = lz l
  | [] => rfl
  | [d] => by unfold lastOk lz; rfl
  | d :: e :: l => by
    have ih := lastOk_lz (e :: l)
    unfold lz
    rw [← ih]
    unfold lastOk
    simp only [List.length_cons]
    rw [if_neg (by omega), if_neg (by omega)]
    congr 1
    unfold rd
    rw [show (((l.length + 1 + 1 : Nat) : Int) - 1).toNat = l.length + 1 by omega, show (((l.length + 1 : Nat) : Int) - 1).toNat = l.length by omega]
    rfl
/-- Digits that fit: 0, or odd and small. -/
def fits (t : Int) (l : List Int) : Prop := ∀ d ∈ l, d = 0 ∨ ¬ d % 2 = 0 ∧ -(t / 2) < d ∧ d < t / 2
theorem fits_tail {t d : Int} {l : List Int} (h : fits t (d :: l)) : fits t l := fun x hx => h x (List.mem_cons_of_mem _ hx)
theorem val_zero {t : Int} : ∀ {l : List Int}, fits t l → lz l = true → val l = 0 → l = []
  | [], _, _, _ => rfl
  | d :: l, hf, hz, hv => by
    rw [val] at hv
    have hd := hf d (List.mem_cons_self ..)
    have h0 : d = 0 := by omega
    have hl := val_zero (fits_tail hf) (lz_tail hz) (by omega)
    subst hl
    subst h0
    cases hz
theorem dig_odd {t n q d : Int} (ht : Pw t) (hn : n = d + t * q) (ho : ¬ d % 2 = 0) (h0 : -(t / 2) < d) (h1 : d < t / 2) : dig t n = d := by
  unfold dig
  unfold Pw at ht
  rcases ht with rfl | rfl | rfl | rfl | rfl <;> (split <;> (try split) <;> omega)
/-- There is one such list for each number. -/
theorem win_uniq {t : Int} (ht : Pw t) (w : Nat) (hw : t = 2 ^ (w + 1)) : ∀ (f : Nat) (l : List Int) (g : Int), -(2 ^ f) ≤ val l → val l ≤ 2 ^ f → fits t l → lz l = true → ap (w + 1) g l = true → win t f (val l) = l := by
  have step : ∀ (d : Int) (l : List Int) (g : Int), fits t (d :: l) → ap (w + 1) g (d :: l) = true → dig t (val (d :: l)) = d ∧ (∃ g', ap (w + 1) g' l = true) := by
    intro d l g hf ha
    unfold ap at ha
    have hd := hf d (List.mem_cons_self ..)
    rw [val]
    by_cases h0 : d = 0
    · rw [if_pos h0] at ha
      refine ⟨?_, _, ha⟩
      subst h0
      unfold dig
      rw [if_pos (by omega)]
    · rw [if_neg h0] at ha
      by_cases hg : g < (w + 1 : Int)
      · rw [if_pos hg] at ha; cases ha
      · rw [if_neg hg] at ha
        have hd := hd.resolve_left h0
        obtain ⟨q, hq⟩ := ap_zeros _ w 1 l ha (by omega)
        refine ⟨dig_odd ht (q := q) ?_ hd.1 hd.2.1 hd.2.2, _, ha⟩
        rw [hq, hw, Int.pow_succ]
        grind
  intro f
  induction f with
  | zero =>
    intro l g h0 h1 hf hz ha
    cases l with
    | nil => rfl
    | cons d l =>
      obtain ⟨s1, g', s2⟩ := step d l g hf ha
      have hne : val (d :: l) ≠ 0 := fun h => by cases val_zero hf hz h
      have e1 := dig_one ht hne (by omega) (by omega)
      rw [e1, val] at s1
      have hl := val_zero (fits_tail hf) (lz_tail hz) (by omega)
      subst hl
      unfold win
      rw [if_neg hne]
      simp [val]
  | succ f ih =>
    intro l g h0 h1 hf hz ha
    cases l with
    | nil => rw [show val [] = 0 from rfl, win_nil]
    | cons d l =>
      obtain ⟨s1, g', s2⟩ := step d l g hf ha
      have hne : val (d :: l) ≠ 0 := fun h => by cases val_zero hf hz h
      have hx := dig_next ht f h0 h1
      unfold win
      rw [if_neg hne, s1]
      rw [s1] at hx
      have e : (val (d :: l) - d) / 2 = val l := by rw [val]; omega
      rw [e] at hx ⊢
      rw [ih l g' hx.1 hx.2 (fits_tail hf) (lz_tail hz) s2]
theorem win_val (t : Int) (ht : Pw t) : ∀ (f : Nat) (n : Int), val (win t f n) = n
  | 0, n => by
    unfold win
    by_cases h : n = 0
    · rw [if_pos h, h]; rfl
    · rw [if_neg h]; simp [val]
  | f + 1, n => by
    unfold win
    by_cases h : n = 0
    · rw [if_pos h, h]; rfl
    · rw [if_neg h, val, win_val t ht f]
      have := dig_even ht n
      omega
theorem dig_fits {t n : Int} (ht : Pw t) : dig t n = 0 ∨ ¬ dig t n % 2 = 0 ∧ -(t / 2) < dig t n ∧ dig t n < t / 2 := by
  unfold dig
  unfold Pw at ht
  rcases ht with rfl | rfl | rfl | rfl | rfl <;> (split <;> (try split) <;> omega)
theorem win_fits {t : Int} (ht : Pw t) : ∀ (f : Nat) (n : Int), -(2 ^ f) ≤ n → n ≤ 2 ^ f → fits t (win t f n)
  | 0, n, h0, h1 => by
    unfold win
    by_cases h : n = 0
    · rw [if_pos h]; intro d hd; simp at hd
    · rw [if_neg h]
      intro d hd
      rw [List.mem_singleton.1 hd]
      have e := dig_one ht h (by omega) (by omega)
      have := dig_fits (n := n) ht
      rw [e] at this
      exact this
  | f + 1, n, h0, h1 => by
    unfold win
    by_cases h : n = 0
    · rw [if_pos h]; intro d hd; simp at hd
    · rw [if_neg h]
      have hx := dig_next ht f h0 h1
      intro d hd
      rcases List.mem_cons.1 hd with rfl | hd
      · exact dig_fits ht
      · exact win_fits ht f _ hx.1 hx.2 d hd
theorem win_lz {t : Int} (ht : Pw t) : ∀ (f : Nat) (n : Int), lz (win t f n) = true
  | 0, n => by
    unfold win
    by_cases h : n = 0
    · rw [if_pos h]; rfl
    · rw [if_neg h]; unfold lz; exact bne_iff_ne.2 h
  | f + 1, n => by
    unfold win
    by_cases h : n = 0
    · rw [if_pos h]; rfl
    · rw [if_neg h]
      have ih := win_lz ht f ((n - dig t n) / 2)
      have hv := win_val t ht f ((n - dig t n) / 2)
      generalize win t f ((n - dig t n) / 2) = l at ih hv
      cases l with
      | nil =>
        unfold lz
        have := dig_even ht n
        rw [val] at hv
        exact bne_iff_ne.2 (by omega)
      | cons e l => exact ih
theorem dig_mod {t n : Int} (ht : Pw t) (ho : ¬ n % 2 = 0) : t ∣ n - dig t n := by
  unfold dig
  rw [if_neg ho]
  refine Int.dvd_of_emod_eq_zero ?_
  unfold Pw at ht
  rcases ht with rfl | rfl | rfl | rfl | rfl <;> (split <;> omega)
theorem win_ap {t : Int} (ht : Pw t) (w : Nat) (hw : t = 2 ^ (w + 1)) : ∀ (f : Nat) (n g : Int), -(2 ^ f) ≤ n → n ≤ 2 ^ f → (∀ k : Nat, g + k ≤ (w + 1 : Int) → (2 : Int) ^ k ∣ n) → ap (w + 1) g (win t f n) = true := by
  intro f
  induction f with
  | zero =>
    intro n g h0 h1 hk
    unfold win
    by_cases h : n = 0
    · rw [if_pos h]; rfl
    · rw [if_neg h]
      unfold ap
      rw [if_neg h]
      by_cases hg : g < (w + 1 : Int)
      · obtain ⟨c, hc⟩ := hk 1 (by omega)
        have : n = 1 ∨ n = -1 := by omega
        omega
      · rw [if_neg hg]; rfl
  | succ f ih =>
    intro n g h0 h1 hk
    have hx := dig_next ht f h0 h1
    unfold win
    by_cases h : n = 0
    · rw [if_pos h]; rfl
    · rw [if_neg h]
      unfold ap
      by_cases he : n % 2 = 0
      · have hd : dig t n = 0 := by unfold dig; rw [if_pos he]
        rw [hd] at hx ⊢
        rw [if_pos rfl]
        refine ih _ _ hx.1 hx.2 fun k hk2 => ?_
        obtain ⟨c, hc⟩ := hk (k + 1) (by omega)
        refine ⟨c, ?_⟩
        rw [Int.pow_succ] at hc
        have : n = 2 * (2 ^ k * c) := by rw [hc]; grind
        omega
      · have hd : dig t n ≠ 0 := by
          have := dig_even ht n
          omega
        have hg : ¬ g < (w + 1 : Int) := fun hg => by
          obtain ⟨c, hc⟩ := hk 1 (by omega)
          omega
        rw [if_neg hd, if_neg hg]
        refine ih _ _ hx.1 hx.2 fun k hk2 => ?_
        obtain ⟨c, hc⟩ := dig_mod ht he
        obtain ⟨e, he2⟩ := pdvd (a := k + 1) (b := w + 1) (by omega)
        refine ⟨e * c, ?_⟩
        have ht2 : t = 2 ^ k * 2 * e := by rw [hw, he2, Int.pow_succ]
        have : n - dig t n = 2 * (2 ^ k * (e * c)) := by
          rw [hc]
          generalize (2 : Int) ^ k = z at ht2
          rw [ht2]
          grind
        omega
theorem pw4 : Pw 4 := .inl rfl
theorem pow_abs (n : Int) : -(2 ^ n.natAbs) ≤ n ∧ n ≤ 2 ^ n.natAbs := by
  have h := @Nat.lt_two_pow_self n.natAbs
  have e : ((2 ^ n.natAbs : Nat) : Int) = (2 : Int) ^ n.natAbs := by simp
  omega
/-- The sparse form of a number. -/
def W4 (n : Int) : List Int := win 4 n.natAbs n
theorem win_fuel {f g : Nat} {n : Int} (h0 : -(2 ^ f) ≤ n) (h1 : n ≤ 2 ^ f) (h2 : -(2 ^ g) ≤ n) (h3 : n ≤ 2 ^ g) : win 4 f n = win 4 g n := by
  have hv := win_val 4 pw4 g n
  have := win_uniq pw4 1 (by decide) f (win 4 g n) 2 (by rw [hv]; exact h0) (by rw [hv]; exact h1) (win_fits pw4 g n h2 h3) (win_lz pw4 g n) (win_ap pw4 1 (by decide) g n 2 h2 h3 fun k hk => by
    have : k = 0 := by omega
    subst this
    exact ⟨n, by simp⟩)
  rw [hv] at this
  exact this
theorem W4_eq {f : Nat} {n : Int} (h0 : -(2 ^ f) ≤ n) (h1 : n ≤ 2 ^ f) : win 4 f n = W4 n := win_fuel h0 h1 (pow_abs n).1 (pow_abs n).2
theorem W4_zero : W4 0 = [] := rfl
theorem W4_rec {n : Int} (hn : n ≠ 0) : W4 n = dig 4 n :: W4 ((n - dig 4 n) / 2) := by
  have hp := pow_abs n
  have e := two_pow_int n.natAbs
  have h0 : -(2 ^ (n.natAbs + 1)) ≤ n := by omega
  have h1 : n ≤ 2 ^ (n.natAbs + 1) := by omega
  rw [← W4_eq h0 h1]
  have hx := dig_next pw4 n.natAbs h0 h1
  unfold win
  rw [if_neg hn, W4_eq hx.1 hx.2]
def nw (n : Int) : Nat := wt (W4 n)
theorem dig_zero {n : Int} (h : n % 2 = 0) : dig 4 n = 0 := by unfold dig; rw [if_pos h]
theorem dig_one4 {n : Int} (h : ¬ n % 2 = 0) : (dig 4 n = 1 ∧ n % 4 = 1) ∨ (dig 4 n = -1 ∧ n % 4 = 3) := by
  unfold dig
  rw [if_neg h]
  split <;> omega
theorem nw_zero : nw 0 = 0 := rfl
theorem nw_even {n : Int} (h : n % 2 = 0) : nw n = nw (n / 2) := by
  by_cases hn : n = 0
  · subst hn; rfl
  · unfold nw
    rw [W4_rec hn, dig_zero h, wt, if_pos rfl, Int.sub_zero, Nat.zero_add]
theorem nw_odd {n : Int} (h : ¬ n % 2 = 0) : nw n = 1 + nw ((n - dig 4 n) / 2) := by
  have hn : n ≠ 0 := by omega
  unfold nw
  rw [W4_rec hn, wt, if_neg]
  rcases dig_one4 h with ⟨e, _⟩ | ⟨e, _⟩ <;> omega
theorem nw_next : ∀ (b : Nat) (m e : Int), m.natAbs ≤ b → (e = 1 ∨ e = -1) → nw (m + e) ≤ nw m + 1 ∧ (¬ m % 2 = 0 → nw (m + e) ≤ nw m) := by
  intro b
  induction b with
  | zero =>
    intro m e hm he
    have : m = 0 := by omega
    subst this
    rcases he with rfl | rfl <;> exact ⟨by decide, fun h => absurd rfl h⟩
  | succ b ih =>
    intro m e hm he
    by_cases hp : m % 2 = 0
    · refine ⟨?_, fun h => absurd hp h⟩
      have ho : ¬ (m + e) % 2 = 0 := by omega
      rw [nw_odd ho, nw_even hp]
      rcases dig_one4 ho with ⟨hd, hm4⟩ | ⟨hd, hm4⟩
      · rw [hd]
        rcases he with rfl | rfl
        · rw [show (m + 1 - 1) / 2 = m / 2 by omega]; omega
        · rw [show (m + -1 - 1) / 2 = m / 2 + -1 by omega]
          have := (ih (m / 2) (-1) (by omega) (.inr rfl)).2 (by omega)
          omega
      · rw [hd]
        rcases he with rfl | rfl
        · rw [show (m + 1 - -1) / 2 = m / 2 + 1 by omega]
          have := (ih (m / 2) 1 (by omega) (.inl rfl)).2 (by omega)
          omega
        · rw [show (m + -1 - -1) / 2 = m / 2 by omega]; omega
    · have key : nw (m + e) ≤ nw m := by
        have he2 : (m + e) % 2 = 0 := by omega
        rw [nw_even he2, nw_odd hp]
        rcases dig_one4 hp with ⟨hd, hm4⟩ | ⟨hd, hm4⟩
        · rw [hd]
          rcases he with rfl | rfl
          · rw [show (m + 1) / 2 = (m - 1) / 2 + 1 by omega]
            have := (ih ((m - 1) / 2) 1 (by omega) (.inl rfl)).1
            omega
          · rw [show (m + -1) / 2 = (m - 1) / 2 by omega]; omega
        · rw [hd]
          rcases he with rfl | rfl
          · rw [show (m + 1) / 2 = (m - -1) / 2 by omega]; omega
          · rw [show (m + -1) / 2 = (m - -1) / 2 + -1 by omega]
            have := (ih ((m - -1) / 2) (-1) (by omega) (.inr rfl)).1
            omega
      exact ⟨by omega, fun _ => key⟩
theorem nw_step {d v : Int} (hd : d = -1 ∨ d = 0 ∨ d = 1) : nw (d + 2 * v) ≤ nw v + (if d = 0 then 0 else 1) := by
  have he : nw (2 * v) = nw v := by rw [nw_even (by omega), show 2 * v / 2 = v by omega]
  rcases hd with rfl | rfl | rfl
  · have := (nw_next _ (2 * v) (-1) (Nat.le_refl _) (.inr rfl)).1
    rw [show -1 + 2 * v = 2 * v + -1 by omega, if_neg (by decide)]
    omega
  · rw [Int.zero_add, if_pos rfl]; omega
  · have := (nw_next _ (2 * v) 1 (Nat.le_refl _) (.inl rfl)).1
    rw [show 1 + 2 * v = 2 * v + 1 by omega, if_neg (by decide)]
    omega
/-- No digits that stand for a number have less weight than its sparse form. -/
theorem nw_le : ∀ (l : List Int), (∀ d ∈ l, d = -1 ∨ d = 0 ∨ d = 1) → nw (val l) ≤ wt l
  | [], _ => by decide
  | d :: l, h => by
    have ih := nw_le l fun x hx => h x (List.mem_cons_of_mem _ hx)
    have hs := nw_step (v := val l) (h d (List.mem_cons_self ..))
    rw [val, wt]
    omega
theorem val_small : ∀ (l : List Int), (∀ d ∈ l, d = -1 ∨ d = 0 ∨ d = 1) → -(2 ^ l.length) < val l ∧ val l < 2 ^ l.length
  | [], _ => by decide
  | d :: l, h => by
    have ih := val_small l fun x hx => h x (List.mem_cons_of_mem _ hx)
    have hd := h d (List.mem_cons_self ..)
    have e := p2 l.length
    rw [val, List.length_cons]
    omega
theorem W4_val (n : Int) : val (W4 n) = n := win_val 4 pw4 _ n
theorem W4_digits (n : Int) : ∀ d ∈ W4 n, d = -1 ∨ d = 0 ∨ d = 1 := fun d hd => by
  have := win_fits pw4 _ n (pow_abs n).1 (pow_abs n).2 d hd
  omega
/-- The places below the i-th of the digits other than 0, going down. -/
def plD (D : List Int) : Nat → List Int
  | 0 => []
  | i + 1 => (if rd D (i : Int) = 0 then [] else [(i : Int)]) ++ plD D i
theorem placesOf_eq (D : List Int) : placesOf D = plD D D.length := by
  have key : ∀ m, m ≤ D.length → plP (YtafnnnpcochnnaaBack.upto (YtafnnnpcochnnaaBack.pairAt D) m) ++ plD D (D.length - m) = plD D D.length := by
    intro m
    induction m with
    | zero => intro _; simp [YtafnnnpcochnnaaBack.upto, plP]
    | succ m ih =>
      intro hm
      have := ih (by omega)
      rw [← this, YtafnnnpcochnnaaBack.upto_succ, plP_snoc]
      obtain ⟨q, hq⟩ : ∃ q, D.length - m = q + 1 := ⟨D.length - m - 1, by omega⟩
      have e1 : (YtafnnnpcochnnaaBack.pairAt D m).1 = (q : Int) := by simp only [YtafnnnpcochnnaaBack.pairAt]; omega
      have e2 : (YtafnnnpcochnnaaBack.pairAt D m).2 = rd D (q : Int) := by
        simp only [YtafnnnpcochnnaaBack.pairAt, rd, Int.toNat_natCast]
        rw [show D.length - 1 - m = q by omega, List.getD_eq_getElem?_getD]
      rw [hq, show D.length - (m + 1) = q by omega, plD, e1, e2]
      by_cases h : rd D (q : Int) = 0
      · simp [h]
      · simp [h]
  have := key D.length (Nat.le_refl _)
  rw [Nat.sub_self, plD, List.append_nil] at this
  exact this
theorem mkFrom_ad (D P : List Int) (top : Int) : ∀ (i : Nat) (P0 : List Int) (m : Nat), P = P0 ++ plD D i → P0.length = m + 1 → rd P 0 = top → mkFrom D top i (adTo D P m) = adTo D P (P.length - 1)
  | 0, P0, m, hP, h0, ht => by
    rw [mkFrom, hP, plD, List.append_nil, h0, Nat.add_sub_cancel]
  | i + 1, P0, m, hP, h0, ht => by
    rw [mkFrom]
    by_cases h : rd D (i : Int) = 0
    · rw [if_pos h]
      refine mkFrom_ad D P top i P0 m ?_ h0 ht
      rw [hP, plD, if_pos h, List.nil_append]
    · rw [if_neg h]
      have hP' : P = (P0 ++ [(i : Int)]) ++ plD D i := by rw [hP, plD, if_neg h]; simp
      have hr : rd P ((m + 1 : Nat) : Int) = (i : Int) := by
        unfold rd
        rw [Int.toNat_natCast, hP', List.getD_eq_getElem?_getD, List.append_assoc, List.getElem?_append_right (by omega), h0, Nat.sub_self]
        simp
      have := mkFrom_ad D P top i (P0 ++ [(i : Int)]) (m + 1) hP' (by rw [List.length_append, h0]; rfl) ht
      rw [← this, adTo_succ]
      congr 2
      unfold adK
      rw [adTo_len, hr, ht]
      by_cases hm : m = 0
      · subst hm; simp
      · have a1 : ¬ ((m : Nat) : Int) = 0 := by omega
        have a2 : ¬ m + 1 = 1 := by omega
        rw [if_neg a1, if_neg a2]
        congr 2
        omega
theorem adTo_make (D : List Int) (h1 : 1 ≤ D.length) (hlast : rd D ((D.length : Int) - 1) ≠ 0) : adTo D (placesOf D) ((placesOf D).length - 1) = mkFrom D ((D.length : Int) - 1) (D.length - 1) [] := by
  obtain ⟨q, hq⟩ : ∃ q, D.length = q + 1 := ⟨D.length - 1, by omega⟩
  have hl : rd D (q : Int) ≠ 0 := by rw [show (q : Int) = (D.length : Int) - 1 by omega]; exact hlast
  have hP : placesOf D = [(q : Int)] ++ plD D q := by rw [placesOf_eq, hq, plD, if_neg hl]
  have ht : rd (placesOf D) 0 = (D.length : Int) - 1 := by rw [hP]; simp [rd]; omega
  rw [hq, Nat.add_sub_cancel]
  have := mkFrom_ad D (placesOf D) ((D.length : Int) - 1) q [(q : Int)] 0 hP rfl ht
  rw [hq] at this
  rw [← this]
  rfl
theorem lastnz {l : List Int} (h : 1 ≤ l.length) (hz : lz l = true) : rd l ((l.length : Int) - 1) ≠ 0 := by
  rw [← lastOk_lz, lastOk, if_neg (by omega)] at hz
  exact bne_iff_ne.1 hz
/-- Both in one word: no 1 in common. -/
theorem bits_and_nat {a b : Nat} (ha : a < 4611686018427387904) : Go.bits .and .i64 (a : Int) (b : Int) = ((a &&& (b % 18446744073709551616) : Nat) : Int) := by
  have hle : a &&& (b % 18446744073709551616) ≤ a := Nat.and_le_left
  have e : ((BitVec.ofInt 64 (a : Int)) &&& (BitVec.ofInt 64 (b : Int))).toNat = a &&& (b % 18446744073709551616) := by
    rw [BitVec.toNat_and, BitVec.ofInt_natCast, BitVec.ofInt_natCast, BitVec.toNat_ofNat, BitVec.toNat_ofNat, show (2 : Nat) ^ 64 = 18446744073709551616 from by decide, Nat.mod_eq_of_lt (show a < 18446744073709551616 by omega)]
  show IntKind.i64.wrap ((((BitVec.ofInt 64 (a : Int)) &&& (BitVec.ofInt 64 (b : Int))).toNat : Nat) : Int) = _
  rw [e, IntWalk.i64_in _ (by omega)]
theorem and_even {m : Nat} (hm : 1 ≤ m) : ((2 * m) &&& (2 * m - 1) = 0) ↔ (m &&& (m - 1) = 0) := by
  have h2 : ((2 * m) &&& (2 * m - 1)) / 2 = m &&& (m - 1) := by
    rw [Nat.and_div_two]
    rw [show 2 * m / 2 = m by omega, show (2 * m - 1) / 2 = m - 1 by omega]
  have h1 : ((2 * m) &&& (2 * m - 1)) % 2 = 0 := by
    have := Nat.and_mod_two_pow (a := 2 * m) (b := 2 * m - 1) (n := 1)
    simp only [Nat.pow_one] at this
    rw [this, show 2 * m % 2 = 0 by omega, Nat.zero_and]
  omega
theorem and_odd {m : Nat} : ((2 * m + 1) &&& (2 * m + 1 - 1) = 0) ↔ m = 0 := by
  have h2 : ((2 * m + 1) &&& (2 * m + 1 - 1)) / 2 = m := by
    rw [Nat.and_div_two]
    rw [show (2 * m + 1) / 2 = m by omega, show (2 * m + 1 - 1) / 2 = m by omega, Nat.and_self]
  have h1 : ((2 * m + 1) &&& (2 * m + 1 - 1)) % 2 = 0 := by
    have := Nat.and_mod_two_pow (a := 2 * m + 1) (b := 2 * m + 1 - 1) (n := 1)
    simp only [Nat.pow_one] at this
    rw [this, show (2 * m + 1 - 1) % 2 = 0 by omega, Nat.and_zero]
  omega
theorem W4_length_pos {n : Int} (h : n ≠ 0) : 1 ≤ (W4 n).length := win_pos 4 _ h
theorem nw_pos {n : Int} (h : n ≠ 0) : 1 ≤ nw n := by
  rcases Nat.eq_zero_or_pos (nw n) with h0 | h0
  · exfalso
    have hlz := win_lz pw4 n.natAbs n
    have hl := lastnz (W4_length_pos h) hlz
    have key : ∀ (l : List Int), wt l = 0 → ∀ i, i < l.length → rd l (i : Int) = 0 := by
      intro l
      induction l with
      | nil => intro _ i hi; simp at hi
      | cons d l ih =>
        intro hw i hi
        rw [wt] at hw
        by_cases hd : d = 0
        · rw [if_pos hd] at hw
          cases i with
          | zero => simp [rd, hd]
          | succ i =>
            have := ih (by omega) i (by simpa using hi)
            simpa [rd] using this
        · rw [if_neg hd] at hw; omega
    have := key (W4 n) h0 ((W4 n).length - 1) (by have := W4_length_pos h; omega)
    rw [show (((W4 n).length - 1 : Nat) : Int) = ((W4 n).length : Int) - 1 by have := W4_length_pos h; omega] at this
    exact hl this
  · exact h0
/-- A power of 2: by its bits, by its sparse form; and its digits are as many. -/
theorem pow2_both : ∀ (f : Nat) (n : Nat), 1 ≤ n → n ≤ 2 ^ f → ((n &&& (n - 1) = 0) ↔ nw (n : Int) = 1)
  | 0, n, h0, h1 => by
    have : n = 1 := by simp at h1; omega
    subst this
    decide
  | f + 1, n, h0, h1 => by
    by_cases he : n % 2 = 0
    · obtain ⟨m, rfl⟩ : ∃ m, n = 2 * m := ⟨n / 2, by omega⟩
      have hp : (2 : Nat) ^ (f + 1) = 2 * 2 ^ f := by rw [Nat.pow_succ]; omega
      rw [and_even (by omega), pow2_both f m (by omega) (by omega), nw_even (n := ((2 * m : Nat) : Int)) (by omega), show ((2 * m : Nat) : Int) / 2 = (m : Int) by omega]
    · obtain ⟨m, rfl⟩ : ∃ m, n = 2 * m + 1 := ⟨n / 2, by omega⟩
      rw [and_odd, nw_odd (n := ((2 * m + 1 : Nat) : Int)) (by omega)]
      have hd := dig_one4 (n := ((2 * m + 1 : Nat) : Int)) (by omega)
      constructor
      · rintro rfl
        decide
      · intro h
        rcases Nat.eq_zero_or_pos m with hm | hm
        · exact hm
        · have := nw_pos (n := (((2 * m + 1 : Nat) : Int) - dig 4 ((2 * m + 1 : Nat) : Int)) / 2) (by omega)
          omega
theorem digits_len : ∀ (f : Nat) (n : Nat) (acc : List Int), 1 ≤ n → n ≤ 2 ^ f → f ≤ 20 → acc.length + f ≤ 1000 → nw (n : Int) = 1 → ∃ l : List Int, l.length = acc.length + (W4 (n : Int)).length ∧ Ev (fun k => impl_digits.l0 k (n : Int) 2 acc) l
  | 0, n, acc, h0, h1, hf, ha, hw => by
    have : n = 1 := by simp at h1; omega
    subst this
    refine ⟨acc ++ [1], by simp; rfl, up (up ?_)⟩
    simp only [impl_digits.l0, if_pos (show ((1 : Nat) : Int) > 0 by decide), if_neg (show ¬ (2 : Int) = 0 by decide), if_pos (show acc.length < 17592186044416 by omega), show wrap64 (Int.tdiv ((1 : Nat) : Int) 2) = 0 by rw [show Int.tdiv ((1 : Nat) : Int) 2 = 0 from rfl]; exact wid (by decide) (by decide), show Int.tmod ((1 : Nat) : Int) 2 = 1 from rfl, if_neg (show ¬ (0 : Int) > 0 by decide)]
    exact Ev.now _
  | f + 1, n, acc, h0, h1, hf, ha, hw => by
    by_cases he : n % 2 = 0
    · obtain ⟨m, rfl⟩ : ∃ m, n = 2 * m := ⟨n / 2, by omega⟩
      have hp : (2 : Nat) ^ (f + 1) = 2 * 2 ^ f := by rw [Nat.pow_succ]; omega
      have hb : (2 : Nat) ^ (f + 1) ≤ 2 ^ 20 := Nat.pow_le_pow_right (by decide) hf
      have hb20 : (2 : Nat) ^ 20 = 1048576 := by decide
      rw [nw_even (n := ((2 * m : Nat) : Int)) (by omega), show ((2 * m : Nat) : Int) / 2 = (m : Int) by omega] at hw
      obtain ⟨l, hl, hE⟩ := digits_len f m (acc ++ [0]) (by omega) (by omega) (by omega) (by simp; omega) hw
      refine ⟨l, ?_, up ?_⟩
      · have hz := dig_zero (n := ((2 * m : Nat) : Int)) (by omega)
        rw [hl, W4_rec (n := ((2 * m : Nat) : Int)) (by omega), hz, show (((2 * m : Nat) : Int) - 0) / 2 = (m : Int) by omega]
        simp only [List.length_append, List.length_cons, List.length_nil]; omega
      · simp only [impl_digits.l0, if_pos (show ((2 * m : Nat) : Int) > 0 by omega), if_neg (show ¬ (2 : Int) = 0 by decide), if_pos (show acc.length < 17592186044416 by omega)]
        rw [show Int.tdiv ((2 * m : Nat) : Int) 2 = (m : Int) by rw [Int.tdiv_eq_ediv_of_nonneg (by omega)]; omega, show Int.tmod ((2 * m : Nat) : Int) 2 = 0 by rw [Int.tmod_eq_emod_of_nonneg (by omega)]; omega, wid (x := (m : Int)) (by omega) (by omega)]
        exact hE
    · obtain ⟨m, rfl⟩ : ∃ m, n = 2 * m + 1 := ⟨n / 2, by omega⟩
      have hd := dig_one4 (n := ((2 * m + 1 : Nat) : Int)) (by omega)
      rw [nw_odd (n := ((2 * m + 1 : Nat) : Int)) (by omega)] at hw
      have hm : m = 0 := by
        rcases Nat.eq_zero_or_pos m with hm | hm
        · exact hm
        · have := nw_pos (n := (((2 * m + 1 : Nat) : Int) - dig 4 ((2 * m + 1 : Nat) : Int)) / 2) (by omega)
          omega
      subst hm
      refine ⟨acc ++ [1], by simp; rfl, up (up ?_)⟩
      simp only [impl_digits.l0, if_pos (show ((2 * 0 + 1 : Nat) : Int) > 0 by decide), if_neg (show ¬ (2 : Int) = 0 by decide), if_pos (show acc.length < 17592186044416 by omega), show wrap64 (Int.tdiv ((2 * 0 + 1 : Nat) : Int) 2) = 0 by rw [show Int.tdiv ((2 * 0 + 1 : Nat) : Int) 2 = 0 from rfl]; exact wid (by decide) (by decide), show Int.tmod ((2 * 0 + 1 : Nat) : Int) 2 = 1 from rfl, if_neg (show ¬ (0 : Int) > 0 by decide)]
      exact Ev.now _
theorem win_W4 {n : Int} (h0 : -1000000 ≤ n) (h1 : n ≤ 1000000) : win 4 20 n = W4 n := W4_eq (by omega) (by omega)
theorem okNum_iff {n : Int} : okNum n = true ↔ -1000000 ≤ n ∧ n ≤ 1000000 := by unfold okNum; rw [Bool.and_eq_true, decide_eq_true_eq, decide_eq_true_eq]
theorem signedOk_eq (n : Int) : impl_signedOk.f n = some (okNum n) := by
  simp only [impl_signedOk.f, impl_in.f, okNum]
  by_cases h : n ≥ -1000000
  · simp [h, show -1000000 ≤ n from h]
  · simp [h, show ¬ -1000000 ≤ n from h]
theorem implAdders_pos {n : Int} (h0 : 1 ≤ n) (h1 : n ≤ 1000000) : Ev (fun k => impl_AddersOf.f k n) (makeV n, true) := by
  refine up ?_
  have ho : okNum n = true := okNum_iff.2 (by omega)
  simp only [impl_AddersOf.f, signedOk_eq, ho, Option.bind_some, if_true, if_neg (show ¬ n = 0 by omega), if_neg (show ¬ n < 0 by omega), wid (x := n - 1) (by omega) (by omega)]
  have hW := win_W4 (n := n) (by omega) h1
  obtain ⟨m, rfl⟩ : ∃ m : Nat, n = (m : Int) := ⟨n.toNat, by omega⟩
  have hand : Go.bits .and .i64 (m : Int) ((m : Int) - 1) = ((m &&& (m - 1) : Nat) : Int) := by
    rw [show (m : Int) - 1 = ((m - 1 : Nat) : Int) by omega, bits_and_nat (by omega), Nat.mod_eq_of_lt (by omega)]
  have hpw := pow2_both 20 m (by omega) (by omega)
  by_cases h2 : (m : Int) = 1
  · simp only [if_pos h2]
    have : m = 1 := by omega
    subst this
    exact Ev.now _
  · simp only [if_neg h2, hand]
    have hlen := W4_length_pos (n := (m : Int)) (by omega)
    by_cases hp : nw (m : Int) = 1
    · simp only [if_pos (show ((m &&& (m - 1) : Nat) : Int) = 0 by rw [hpw.2 hp]; rfl)]
      obtain ⟨l, hl, hE⟩ := digits_len 20 m [] (by omega) (by omega) (by omega) (by simp) hp
      have hl21 := win_length 4 20 (m : Int)
      rw [hW] at hl21
      simp only [List.length_nil, Nat.zero_add] at hl
      have hE' : Ev (fun k => impl_digits.f k (m : Int) 2) l := by simpa only [impl_digits.f] using hE
      refine Ev.bind hE' ?_
      have hone : ¬ ((W4 (m : Int)).length : Int) - 1 = 0 := by
        intro h
        have hv := W4_val (m : Int)
        have hdg := W4_digits (m : Int)
        match hq : W4 (m : Int), h with
        | [d], _ =>
          rw [hq] at hv hdg
          have := hdg d (by simp)
          simp only [val] at hv
          omega
        | [], h => simp at h
        | _ :: _ :: _, h => simp at h; omega
      have hmk : makeV (m : Int) = [⟨0, ((W4 (m : Int)).length : Int) - 1 - 1, 0, ((W4 (m : Int)).length : Int) - 1 - 1, false⟩] := by
        unfold makeV
        rw [hW, if_pos (show wt (W4 (m : Int)) = 1 from hp), if_neg hone]
      rw [hmk, hl, wid (x := ((W4 (m : Int)).length : Int) - 2) (by omega) (by omega), show ((W4 (m : Int)).length : Int) - 2 = ((W4 (m : Int)).length : Int) - 1 - 1 by omega]
      exact Ev.now _
    · simp only [if_neg (show ¬ ((m &&& (m - 1) : Nat) : Int) = 0 from fun h => hp (hpw.1 (by omega)))]
      have hw := implWin (t := 4) (w := 2) (Or.inl rfl) (by omega) (by omega) (by decide) (by decide) (m : Int) (by omega) h1
      have hl21 := win_length 4 20 (m : Int)
      have hmk : makeV (m : Int) = adTo (win 4 20 (m : Int)) (placesOf (win 4 20 (m : Int))) ((placesOf (win 4 20 (m : Int))).length - 1) := by
        rw [adTo_make _ (by rw [hW]; exact hlen) (lastnz (by rw [hW]; exact hlen) (win_lz (Or.inl rfl) _ _))]
        unfold makeV
        rw [if_neg (by rw [hW]; exact hp)]
      have hA : Ev (fun k => impl_addersOf.f k (m : Int)) (makeV (m : Int)) := by
        rw [hmk]
        simp only [impl_addersOf.f]
        refine Ev.bind hw ?_
        rw [if_pos (by omega)]
        exact Ev.now _
      exact Ev.bind hA (Ev.now _)
theorem implAddersOf (n : Int) : Ev (fun k => impl_AddersOf.f k n) (addersV n) := by
  by_cases ho : okNum n = true
  · have h' := okNum_iff.1 ho
    by_cases h0 : n = 0
    · subst h0
      refine up ?_
      simp only [impl_AddersOf.f, signedOk_eq, ho, Option.bind_some, if_true]
      unfold addersV
      rw [if_pos ho, if_pos rfl]
      exact Ev.now _
    · by_cases hp : n > 0
      · unfold addersV
        rw [if_pos ho, if_neg h0, if_pos hp]
        exact implAdders_pos (by omega) h'.2
      · have hl := makeV_len (-n)
        refine up ?_
        simp only [impl_AddersOf.f, signedOk_eq, ho, Option.bind_some, if_true, if_neg h0, if_neg (show ¬ n = 1 by omega), if_pos (show n < 0 by omega), wid (x := -n) (by omega) (by omega)]
        refine Ev.bind (implAdders_pos (n := -n) (by omega) (by omega)) ?_
        unfold addersV
        rw [if_pos ho, if_neg h0, if_neg hp]
        simp only [if_pos (show (makeV (-n)).length < 3518437208883 by omega)]
        exact Ev.now _
  · refine up ?_
    have ho' : okNum n = false := by simpa using ho
    simp only [impl_AddersOf.f, signedOk_eq, ho', Option.bind_some, Bool.false_eq_true, if_false, addersV]
    exact Ev.now _
theorem bnd_scale {acc : List Int} (hb : bnd 2097152 acc) {x : Int} (hx0 : -1000 ≤ x) (hx1 : x ≤ 1000) : bnd 2097152000 (acc.map (· * x)) := fun v hv => by
  obtain ⟨u, hu, rfl⟩ := List.mem_map.1 hv
  have hb' := hb u hu
  have m1 : -(2097152 * 1000) ≤ u * x ∧ u * x ≤ 2097152 * 1000 := by
    rcases Int.le_total 0 x with hx | hx
    · have a1 := Int.mul_le_mul_of_nonneg_right hb'.2 hx
      have a0 := Int.mul_le_mul_of_nonneg_right hb'.1 hx
      omega
    · have a1 := Int.mul_le_mul_of_nonpos_right hb'.2 hx
      have a0 := Int.mul_le_mul_of_nonpos_right hb'.1 hx
      omega
  omega
theorem bnd_one : bnd 2097152 [1] := fun v hv => by simp at hv; subst hv; omega
def addersB (L : List Ad) : Bool := decide (L.length ≤ 24) && (chk 0 [1] L).isSome
theorem in_val (x a b : Int) : impl_in.f x a b = some (decide (a ≤ x) && decide (x ≤ b)) := by
  unfold impl_in.f
  by_cases h : x ≥ a
  · rw [if_pos h]; simp [show a ≤ x from h]
  · rw [if_neg h]; simp [show ¬ a ≤ x from h]
theorem value_val (acc : List Int) (a : Ad) (i : Nat) (ha : acc.length = i + 1) (hb : bnd 2097152 acc) (hok : okA i a = true) : impl_Adder_value.f a.f0 a.f1 a.f2 a.f3 a.f4 acc = some (av acc a) := by
  obtain ⟨⟨q0, q1⟩, ⟨q2, q3⟩, ⟨q4, q5⟩, q6, q7⟩ := okA_iff.1 hok
  have b0 := bnd_rd hb (by omega) a.f0
  have b2 := bnd_rd hb (by omega) a.f2
  have s0 := shl_val 2097152 (by omega) (by omega) b0.1 b0.2 q4 q5
  have s2 := shl_val 2097152 (by omega) (by omega) b2.1 b2.2 q6 q7
  have p1 := pow_small q5
  have p3 := pow_small q7
  have t0 := mul_bnd b0.1 b0.2 (by omega) p1.1 p1.2
  have t2 := mul_bnd b2.1 b2.2 (by omega) p3.1 p3.2
  unfold impl_Adder_value.f av
  rw [if_pos q0, if_pos (show a.f0 < (acc.length : Int) by omega), if_pos q4, if_pos q2, if_pos (show a.f2 < (acc.length : Int) by omega), if_pos q6, s0, s2, wid (by omega) (by omega), wid (by omega) (by omega)]
  split <;> rfl
def multR (L : List Ad) (o : Option (List Int)) : List Int × Bool := match o with | some ms => (ms, decide (L.length ≤ 24)) | none => ([], false)
theorem multiples_loop (L : List Ad) (hL : L.length ≤ 2000000) : ∀ (d i : Nat) (acc : List Int), i + d = L.length → acc.length = i + 1 → bnd 2097152 acc → Ev (fun k => impl_multiples.l0 k L 1 acc L (L.length : Int) i) (multR L (chk i acc (L.drop i))) := by
  intro d
  induction d with
  | zero =>
    intro i acc hi ha hb
    refine up ?_
    rw [List.drop_of_length_le (by omega)]
    simp only [impl_multiples.l0, if_neg (show ¬ (i : Int) < (L.length : Int) by omega), chk, multR]
    have e : decide ((L.length : Int) ≤ 24) = decide (L.length ≤ 24) := by
      by_cases h : L.length ≤ 24
      · rw [decide_eq_true h, decide_eq_true (by omega)]
      · rw [decide_eq_false h, decide_eq_false (by omega)]
    rw [e]
    exact Ev.now _
  | succ d ih =>
    intro i acc hi ha hb
    have hlt : i < L.length := by omega
    rw [List.drop_eq_getElem_cons hlt]
    have jt : Ev (fun k => impl_multiples.j1 k L 1 acc i L (L.length : Int) i true L[i].f0 L[i].f1 L[i].f2 L[i].f3 L[i].f4) ([], false) := by refine up ?_; simp only [impl_multiples.j1, if_true]; exact Ev.now _
    have jf : okA i L[i] = true → Ev (fun k => impl_multiples.j1 k L 1 acc i L (L.length : Int) i false L[i].f0 L[i].f1 L[i].f2 L[i].f3 L[i].f4) (multR L (chk i acc (L[i] :: L.drop (i + 1)))) := fun hok => by
      have hx : rd (acc ++ [av acc L[i]]) ((i : Int) + 1) = av acc L[i] := by
        have := rd_snoc_new acc (av acc L[i])
        rw [ha] at this
        rw [show (i : Int) + 1 = ((i + 1 : Nat) : Int) by omega]; exact this
      refine up ?_
      simp only [impl_multiples.j1, Bool.false_eq_true, if_false, value_val acc L[i] i ha hb hok, Option.bind_some, if_pos (show acc.length < 17592186044416 by omega), if_true, wid (x := (i : Int) + 1) (by omega) (by omega), if_pos (show (0 : Int) ≤ (i : Int) + 1 by omega), if_pos (show (i : Int) + 1 < ((acc ++ [av acc L[i]]).length : Int) by simp; omega), hx, in_val, chk, if_pos hok]
      cases hin : inM (av acc L[i]) with
      | true =>
        rw [show (decide (-2097152 ≤ av acc L[i]) && decide (av acc L[i] ≤ 2097152)) = true from hin]
        simp only [if_true]
        exact ih (i + 1) _ (by omega) (by simp; omega) (bnd_snoc hb (inM_iff.1 hin))
      | false =>
        rw [show (decide (-2097152 ≤ av acc L[i]) && decide (av acc L[i] ≤ 2097152)) = false from hin]
        simp only [Bool.false_eq_true, if_false, multR]
        exact Ev.now _
    refine up ?_
    simp only [impl_multiples.l0, if_pos (show (i : Int) < (L.length : Int) by omega), if_pos (show (0 : Int) ≤ (i : Int) by omega), rdA_at hlt, in_val, Option.bind_some]
    cases h0 : (decide (0 ≤ L[i].f0) && decide (L[i].f0 ≤ (i : Int))) with
    | false =>
      have : okA i L[i] = false := by unfold okA; rw [h0]; rfl
      simp only [Bool.false_eq_true, if_false, chk, this, multR]; exact jt
    | true =>
      simp only [if_true]
      cases h2 : (decide (0 ≤ L[i].f2) && decide (L[i].f2 ≤ (i : Int))) with
      | false =>
        have : okA i L[i] = false := by unfold okA; rw [h0, h2]; rfl
        simp only [Bool.false_eq_true, if_false, chk, this, multR]; exact jt
      | true =>
        simp only [if_true]
        cases h1 : (decide (0 ≤ L[i].f1) && decide (L[i].f1 ≤ 20)) with
        | false =>
          have : okA i L[i] = false := by unfold okA; rw [h0, h2, h1]; rfl
          simp only [Bool.false_eq_true, if_false, chk, this, multR]; exact jt
        | true =>
          simp only [if_true]
          cases h3 : (decide (0 ≤ L[i].f3) && decide (L[i].f3 ≤ 20)) with
          | false =>
            have : okA i L[i] = false := by unfold okA; rw [h0, h2, h1, h3]; rfl
            simp only [Bool.not_false, chk, this, Bool.false_eq_true, if_false, multR]; exact jt
          | true =>
            have : okA i L[i] = true := by unfold okA; rw [h0, h2, h1, h3]; rfl
            simp only [Bool.not_true]; exact jf this
theorem multiples_val (L : List Ad) (hL : L.length ≤ 2000000) : Ev (fun k => impl_multiples.f k L 1) (multR L (chk 0 [1] L)) := by
  have := multiples_loop L hL L.length 0 [1] (by omega) rfl bnd_one
  simpa [impl_multiples.f] using this
theorem multR_snd (L : List Ad) : (multR L (chk 0 [1] L)).2 = addersB L := by
  unfold multR addersB
  cases chk 0 [1] L <;> simp
theorem implAdders (L : List Ad) (hL : L.length ≤ 2000000) : Ev (fun k => impl_IsAdders.f k L) (addersB L) := by
  simp only [impl_IsAdders.f]
  refine Ev.bind (multiples_val L hL) ?_
  rw [multR_snd]
  exact Ev.now _
def runV (L : List Ad) (x : Int) : List Int × Bool := if addersB L = true then (if (decide (-1000 ≤ x) && decide (x ≤ 1000)) = true then (((chk 0 [1] L).getD []).map (· * x), true) else ([], false)) else ([], false)
theorem addersB_some {L : List Ad} (h : addersB L = true) : L.length ≤ 24 ∧ ∃ ms, chk 0 [1] L = some ms := by
  unfold addersB at h
  rw [Bool.and_eq_true, decide_eq_true_eq, Option.isSome_iff_exists] at h
  exact h
theorem scale_loop (x : Int) (hx0 : -1000 ≤ x) (hx1 : x ≤ 1000) (b : Bool) (ms : List Int) (hb : bnd 2097152 ms) (hl : ms.length ≤ 1000) : ∀ (d i : Nat), i + d = ms.length → Ev (fun k => impl_RunAdders.l0 k x ((ms.take i).map (· * x) ++ ms.drop i) b (ms.length : Int) i) (ms.map (· * x), b) := by
  intro d
  induction d with
  | zero =>
    intro i hi
    refine up ?_
    simp only [impl_RunAdders.l0, if_neg (show ¬ (i : Int) < (ms.length : Int) by omega)]
    rw [List.take_of_length_le (by omega), List.drop_of_length_le (by omega), List.append_nil]
    exact Ev.now _
  | succ d ih =>
    intro i hi
    have hlt : i < ms.length := by omega
    have hlen : ((ms.take i).map (· * x) ++ ms.drop i).length = ms.length := by simp; omega
    have hmid : ((ms.take i).map (· * x)).length = i := by simp; omega
    have hr : rd ((ms.take i).map (· * x) ++ ms.drop i) (i : Int) = ms[i] := by
      unfold rd
      rw [Int.toNat_natCast, List.getD_eq_getElem?_getD, List.getElem?_append_right (by omega), hmid, Nat.sub_self, List.getElem?_drop]
      simp [hlt]
    have hset : ((ms.take i).map (· * x) ++ ms.drop i).set i (ms[i] * x) = (ms.take (i + 1)).map (· * x) ++ ms.drop (i + 1) := by
      rw [List.set_append_right _ _ (by omega), hmid, Nat.sub_self, List.drop_eq_getElem_cons hlt, List.set_cons_zero, List.take_succ_eq_append_getElem hlt, List.map_append]
      simp
    have hv := bnd_scale hb hx0 hx1 (ms[i] * x) (List.mem_map.2 ⟨ms[i], List.getElem_mem hlt, rfl⟩)
    refine up ?_
    simp only [impl_RunAdders.l0, if_pos (show (i : Int) < (ms.length : Int) by omega), if_pos (show (0 : Int) ≤ (i : Int) by omega), if_pos (show (i : Int) < (((ms.take i).map (· * x) ++ ms.drop i).length : Int) by omega), hr, Int.toNat_natCast, wid (x := ms[i] * x) (by omega) (by omega), hset, wid (x := (i : Int) + 1) (by omega) (by omega)]
    exact ih (i + 1) (by omega)
theorem implRun (L : List Ad) (x : Int) (hL : L.length ≤ 2000000) : Ev (fun k => impl_RunAdders.f k L x) (runV L x) := by
  have j0t : Ev (fun k => impl_RunAdders.j0 k L x true) ([], false) := by refine up ?_; simp only [impl_RunAdders.j0, if_true]; exact Ev.now _
  simp only [impl_RunAdders.f, in_val, Option.bind_some]
  refine Ev.bind (implAdders L hL) ?_
  unfold runV
  by_cases h : addersB L = true
  · obtain ⟨hl, ms, hm⟩ := addersB_some h
    simp only [h, if_true, hm, Option.getD_some]
    by_cases hx : (decide (-1000 ≤ x) && decide (x ≤ 1000)) = true
    · simp only [hx, if_true, Bool.not_true]
      have hx' := hx
      rw [Bool.and_eq_true, decide_eq_true_eq, decide_eq_true_eq] at hx'
      refine up ?_
      simp only [impl_RunAdders.j0, Bool.false_eq_true, if_false]
      have hmv := multiples_val L hL
      rw [hm] at hmv
      refine Ev.bind hmv ?_
      simp only [multR, hl, decide_true]
      have hln := chk_len _ _ _ _ hm
      have := scale_loop x hx'.1 hx'.2 true ms (chk_bnd _ _ _ _ bnd_one hm) (by simp at hln; omega) ms.length 0 (by omega)
      simpa using this
    · simp only [hx, if_false, Bool.not_false]; exact j0t
  · simp only [h, if_false]; exact j0t
theorem chk_append : ∀ (L : List Ad) (i : Nat) (acc : List Int) (M : List Ad), chk i acc (L ++ M) = (chk i acc L).bind fun ms => chk (i + L.length) ms M
  | [], i, acc, M => by simp [chk]
  | a :: L, i, acc, M => by
    simp only [List.cons_append, chk]
    split
    · split
      · rw [chk_append L, List.length_cons, show i + 1 + L.length = i + (L.length + 1) by omega]
      · rfl
    · rfl
theorem chk_one {L : List Ad} {ms : List Int} (h : chk 0 [1] L = some ms) (a : Ad) (hok : okA (L.length : Int) a = true) (hin : inM (av ms a) = true) : chk 0 [1] (L ++ [a]) = some (ms ++ [av ms a]) := by
  rw [chk_append, h, Option.bind_some, Nat.zero_add]
  simp only [chk, hok, hin, if_true]
theorem val_append : ∀ (l m : List Int), val (l ++ m) = val l + 2 ^ l.length * val m
  | [], m => by simp [val]
  | d :: l, m => by
    simp only [List.cons_append, val, List.length_cons]
    rw [val_append l m, p2, Int.mul_add, Int.mul_assoc]
    omega
theorem val_take_succ (D : List Int) {i : Nat} (h : i < D.length) : val (D.take (i + 1)) = val (D.take i) + 2 ^ i * rd D (i : Int) := by
  rw [List.take_succ_eq_append_getElem h, val_append, List.length_take, Nat.min_eq_left (by omega), rd_at h]
  simp [val]
theorem wt_append : ∀ (l m : List Int), wt (l ++ m) = wt l + wt m
  | [], m => by simp [wt]
  | d :: l, m => by simp only [List.cons_append, wt, wt_append l m]; omega
theorem wt_take_succ (D : List Int) {i : Nat} (h : i < D.length) : wt (D.take (i + 1)) = wt (D.take i) + (if rd D (i : Int) = 0 then 0 else 1) := by
  rw [List.take_succ_eq_append_getElem h, wt_append, rd_at h]
  simp [wt]
theorem wt_zero_val : ∀ (l : List Int), wt l = 0 → val l = 0
  | [], _ => rfl
  | d :: l, h => by
    rw [wt] at h
    by_cases hd : d = 0
    · rw [if_pos hd] at h
      rw [val, wt_zero_val l (by omega)]; omega
    · rw [if_neg hd] at h; omega
theorem mkFrom_wt (D : List Int) (top : Int) : ∀ (i : Nat) (out : List Ad), i ≤ D.length → (mkFrom D top i out).length = out.length + wt (D.take i)
  | 0, out, _ => by simp [mkFrom, wt]
  | i + 1, out, h => by
    rw [mkFrom, wt_take_succ D (by omega)]
    by_cases hz : rd D (i : Int) = 0
    · rw [if_pos hz, if_pos hz, mkFrom_wt D top i out (by omega)]; omega
    · rw [if_neg hz, if_neg hz, mkFrom_wt D top i _ (by omega), List.length_append, List.length_singleton]; omega
theorem pow_le20 {i : Nat} (h : i ≤ 20) : (2 : Int) ^ i ≤ 1048576 := pow20 h
theorem mk_chk (D : List Int) (n : Int) (top : Nat) (hd : ∀ d ∈ D, d = -1 ∨ d = 0 ∨ d = 1) (hn : 1 ≤ n ∧ n ≤ 1000000) (htop : top ≤ 20) : ∀ (i : Nat) (out : List Ad) (ms : List Int), i ≤ 20 → i ≤ D.length → chk 0 [1] out = some ms → rd ms 0 = 1 →
    (if out.length = 0 then (2 : Int) ^ top else rd ms (out.length : Int)) = n - val (D.take i) → ∃ ms', chk 0 [1] (mkFrom D (top : Int) i out) = some ms' ∧ (if (mkFrom D (top : Int) i out).length = 0 then (2 : Int) ^ top else rd ms' ((mkFrom D (top : Int) i out).length : Int)) = n
  | 0, out, ms, _, _, hc, h0, he => ⟨ms, by rw [mkFrom]; exact hc, by rw [mkFrom, he]; simp [val]⟩
  | i + 1, out, ms, hi, hD, hc, h0, he => by
    have hlen := chk_len _ _ _ _ hc
    simp only [List.length_singleton] at hlen
    rw [val_take_succ D (by omega)] at he
    rw [mkFrom]
    by_cases hz : rd D (i : Int) = 0
    · rw [if_pos hz]
      rw [hz, Int.mul_zero, Int.add_zero] at he
      exact mk_chk D n top hd hn htop i out ms (by omega) (by omega) hc h0 he
    · rw [if_neg hz]
      have hdi : rd D (i : Int) = -1 ∨ rd D (i : Int) = 1 := by
        have := hd D[i] (List.getElem_mem (by omega))
        rw [rd_at (show i < D.length by omega)] at hz ⊢
        omega
      have hvs := val_small (D.take i) (fun d h => hd d (List.mem_of_mem_take h))
      rw [List.length_take, Nat.min_eq_left (show i ≤ D.length by omega)] at hvs
      have hp := pow_le20 (i := i) (by omega)
      have hav : av ms ⟨(out.length : Int), if (out.length : Int) = 0 then (top : Int) else 0, 0, (i : Int), decide (rd D (i : Int) < 0)⟩ = n - val (D.take i) := by
        unfold av
        simp only [Int.toNat_natCast, h0, Int.one_mul]
        have hm : rd ms (out.length : Int) * 2 ^ (if (out.length : Int) = 0 then (top : Int) else 0).toNat = n - (val (D.take i) + 2 ^ i * rd D (i : Int)) := by
          rw [← he]
          by_cases ho : out.length = 0
          · rw [if_pos ho, if_pos (by omega), Int.toNat_natCast, ho]
            rw [show ((0 : Nat) : Int) = 0 from rfl, h0, Int.one_mul]
          · rw [if_neg ho, if_neg (by omega)]
            simp
        rw [hm]
        rcases hdi with e | e
        · rw [e]; simp; omega
        · rw [e]; simp; omega
      have hok : okA (out.length : Int) ⟨(out.length : Int), if (out.length : Int) = 0 then (top : Int) else 0, 0, (i : Int), decide (rd D (i : Int) < 0)⟩ = true := by
        rw [okA_iff]
        refine ⟨⟨by simp only []; omega, by simp only []; omega⟩, ⟨by simp only []; omega, by simp only []; omega⟩, ?_, ⟨by simp only []; omega, by simp only []; omega⟩⟩
        simp only []
        split <;> omega
      have hin : inM (n - val (D.take i)) = true := by rw [inM_iff]; omega
      have hc' := chk_one hc _ hok (by rw [hav]; exact hin)
      rw [hav] at hc'
      refine mk_chk D n top hd hn htop i _ _ (by omega) (by omega) hc' ?_ ?_
      · rw [rd_snoc_old _ _ (by omega) (by omega)]; exact h0
      · rw [List.length_append, List.length_singleton, if_neg (by omega)]
        have := rd_snoc_new ms (n - val (D.take i))
        rw [hlen] at this
        rw [show out.length + 1 = 1 + out.length by omega]
        exact this
theorem makeV_chk {n : Int} (h0 : 1 ≤ n) (h1 : n ≤ 1000000) : (∃ ms, chk 0 [1] (makeV n) = some ms ∧ rd ms ((makeV n).length : Int) = n) ∧ (wt (W4 n) ≠ 1 → (makeV n).length = wt (W4 n) - 1) := by
  have hW := win_W4 (n := n) (by omega) h1
  have hlen := W4_length_pos (n := n) (by omega)
  have hl21 := win_length 4 20 n
  have hlz : lz (W4 n) = true := win_lz pw4 _ _
  have hlast := lastnz hlen hlz
  have hval := W4_val n
  have hdg := W4_digits n
  unfold makeV
  rw [hW] at *
  generalize W4 n = D at *
  obtain ⟨q, hq⟩ : ∃ q, D.length = q + 1 := ⟨D.length - 1, by omega⟩
  have hqi : (D.length : Int) - 1 = (q : Int) := by omega
  rw [hqi] at hlast ⊢
  have hfull : D.take (q + 1) = D := by rw [← hq]; exact List.take_length
  have hv := val_take_succ D (i := q) (by omega)
  have hw := wt_take_succ D (i := q) (by omega)
  rw [hfull] at hv hw
  rw [if_neg hlast] at hw
  have hvs := val_small (D.take q) (fun d h => hdg d (List.mem_of_mem_take h))
  rw [List.length_take, Nat.min_eq_left (by omega)] at hvs
  have h1q : rd D (q : Int) = 1 := by
    have := hdg D[q] (List.getElem_mem (by omega))
    rw [rd_at (show q < D.length by omega)] at hlast hv ⊢
    rcases this with e | e | e
    · rw [e] at hv; omega
    · exact absurd e hlast
    · exact e
  rw [h1q, Int.mul_one] at hv
  by_cases hone : wt D = 1
  · rw [if_pos hone]
    refine ⟨?_, fun h => absurd hone h⟩
    have hz := wt_zero_val (D.take q) (by omega)
    rw [hz, Int.zero_add, hval] at hv
    by_cases hq0 : (q : Int) = 0
    · rw [if_pos hq0]
      have : q = 0 := by omega
      subst this
      refine ⟨[1], rfl, ?_⟩
      rw [hv]; rfl
    · rw [if_neg hq0]
      obtain ⟨t, rfl⟩ : ∃ t, q = t + 1 := ⟨q - 1, by omega⟩
      rw [show ((t + 1 : Nat) : Int) - 1 = (t : Int) by omega]
      have hpp := p2 t
      have hav : av [1] (⟨0, (t : Int), 0, (t : Int), false⟩ : Ad) = n := by
        unfold av
        simp only [Bool.false_eq_true, if_false, Int.toNat_natCast]
        rw [show rd [1] 0 = 1 from rfl, Int.one_mul]
        omega
      have := chk_one (L := []) (ms := [1]) rfl (⟨0, (t : Int), 0, (t : Int), false⟩ : Ad) (by rw [okA_iff]; simp only [List.length_nil]; omega) (by rw [hav, inM_iff]; omega)
      rw [hav] at this
      exact ⟨_, this, rfl⟩
  · rw [if_neg hone]
    have hl := mkFrom_wt D (q : Int) q [] (by omega)
    simp only [List.length_nil, Nat.zero_add] at hl
    rw [hq, Nat.add_sub_cancel]
    refine ⟨?_, fun _ => by rw [hl]; omega⟩
    obtain ⟨ms, hc, he⟩ := mk_chk D n q hdg ⟨h0, h1⟩ (by omega) q [] [1] (by omega) (by omega) rfl rfl (by simp only [List.length_nil, if_true]; omega)
    have hwp : wt (D.take q) ≠ 0 := by omega
    rw [if_neg (by rw [hl]; exact hwp)] at he
    exact ⟨ms, hc, he⟩
theorem addersV_chk {n : Int} (ho : okNum n = true) : (∃ ms, chk 0 [1] (addersV n).1 = some ms ∧ rd ms ((addersV n).1.length : Int) = n) ∧ (addersV n).2 = true ∧ (n > 0 → wt (W4 n) ≠ 1 → (addersV n).1.length = wt (W4 n) - 1) := by
  have h' := okNum_iff.1 ho
  unfold addersV
  rw [if_pos ho]
  by_cases h0 : n = 0
  · subst h0
    refine ⟨⟨[1, 0], by decide, by decide⟩, rfl, fun h => absurd h (by decide)⟩
  · rw [if_neg h0]
    by_cases hp : n > 0
    · rw [if_pos hp]
      have := makeV_chk (n := n) (by omega) (by omega)
      exact ⟨this.1, rfl, fun _ => this.2⟩
    · rw [if_neg hp]
      refine ⟨?_, rfl, fun h => absurd h hp⟩
      obtain ⟨⟨ms, hc, he⟩, _⟩ := makeV_chk (n := -n) (by omega) (by omega)
      generalize makeV (-n) = L at *
      have hlen := chk_len _ _ _ _ hc
      simp only [List.length_singleton] at hlen
      have hav : av ms (⟨(L.length : Int), 0, (L.length : Int), 1, true⟩ : Ad) = n := by
        unfold av
        simp only [if_true, he]
        have : (2 : Int) ^ (1 : Int).toNat = 2 := rfl
        have e2 : (2 : Int) ^ (0 : Int).toNat = 1 := rfl
        rw [this, e2]; omega
      have := chk_one hc (⟨(L.length : Int), 0, (L.length : Int), 1, true⟩ : Ad) (by rw [okA_iff]; simp only []; omega) (by rw [hav, inM_iff]; omega)
      rw [hav] at this
      refine ⟨_, this, ?_⟩
      have h2 := rd_snoc_new ms n
      rw [hlen] at h2
      simp only [List.length_append, List.length_singleton]
      rw [show L.length + 1 = 1 + L.length by omega]
      exact h2
theorem value_one (a b : Int) (m : Bool) (ha : 0 ≤ a) (hb : 0 ≤ b) : impl_Adder_value.f 0 a 0 b m [1] = some (if m = true then wrap64 (shl .i64 1 a - shl .i64 1 b) else wrap64 (shl .i64 1 a + shl .i64 1 b)) := by
  unfold impl_Adder_value.f
  cases m <;> simp [ha, hb, rd]
theorem impl_round (x a b : Int) (ha : 0 ≤ a) (hb : 0 ≤ b) (hb2 : b < 21) {r : Int × Int × Int × Int × Bool × Bool}
    (h : if wrap64 (shl .i64 1 a + shl .i64 1 b) = x then r = (0, a, 0, b, false, true) else if wrap64 (shl .i64 1 a - shl .i64 1 b) = x then r = (0, a, 0, b, true, true) else Ev (fun k => impl_OneAdder.l1 k x a a (b + 1)) r) :
    Ev (fun k => impl_OneAdder.l1 k x a a b) r := by
  have w1 : wrap64 ((0 : Int) + 1) = 1 := wid (by decide) (by decide)
  have w2 : wrap64 ((1 : Int) + 1) = 2 := wid (by decide) (by decide)
  have g0 : rdOf false ([false, true] : List Bool) 0 = false := rfl
  have g1 : rdOf false ([false, true] : List Bool) 1 = true := rfl
  have l2 : ((([false, true] : List Bool).length : Nat) : Int) = 2 := rfl
  refine up ?_
  simp only [impl_OneAdder.l1, if_pos hb2, Option.bind_some]
  refine up ?_
  simp only [impl_OneAdder.l2, l2, if_pos (show (0 : Int) < 2 by omega), if_pos (show (0 : Int) ≤ 0 by omega), g0, value_one a b false ha hb, Option.bind_some, Bool.false_eq_true, if_false, w1]
  by_cases c1 : wrap64 (shl .i64 1 a + shl .i64 1 b) = x
  · rw [if_pos c1] at h; subst h; simp only [if_pos c1]; exact Ev.now _
  · rw [if_neg c1] at h
    simp only [if_neg c1]
    refine up ?_
    simp only [impl_OneAdder.l2, l2, if_pos (show (1 : Int) < 2 by omega), if_pos (show (0 : Int) ≤ 1 by omega), g1, value_one a b true ha hb, Option.bind_some, if_true, w2]
    by_cases c2 : wrap64 (shl .i64 1 a - shl .i64 1 b) = x
    · rw [if_pos c2] at h; subst h; simp only [if_pos c2]; exact Ev.now _
    · rw [if_neg c2] at h
      simp only [if_neg c2]
      refine up ?_
      simp only [impl_OneAdder.l2, if_neg (show ¬ (2 : Int) < 2 by omega), wid (x := b + 1) (by omega) (by omega)]
      exact h
theorem spec_round (x a b : Int) (ha : 0 ≤ a) (hb : 0 ≤ b) (hb2 : b < 21) {r : Int × Int × Int × Int × Bool × Bool}
    (h : if wrap64 (shl .i64 1 a + shl .i64 1 b) = x then r = (0, a, 0, b, false, true) else if wrap64 (shl .i64 1 a - shl .i64 1 b) = x then r = (0, a, 0, b, true, true) else Ev (fun k => spec_OneAdder.l1 k x a (b + 1)) r) :
    Ev (fun k => spec_OneAdder.l1 k x a b) r := by
  refine up ?_
  simp only [spec_OneAdder.l1, if_pos (show b ≤ 20 by omega), if_pos ha, if_pos hb]
  by_cases c1 : wrap64 (shl .i64 1 a + shl .i64 1 b) = x
  · rw [if_pos c1] at h; subst h; simp only [if_pos c1]; exact Ev.now _
  · rw [if_neg c1] at h
    by_cases c2 : wrap64 (shl .i64 1 a - shl .i64 1 b) = x
    · rw [if_pos c2] at h; subst h; simp only [if_neg c1, if_pos c2]; exact Ev.now _
    · rw [if_neg c2] at h
      simp only [if_neg c1, if_neg c2, wid (x := b + 1) (by omega) (by omega)]
      exact h
def GoodA (x : Int) (r : Int × Int × Int × Int × Bool × Bool) : Prop := r.2.2.2.2.2 = true → ∃ (a b : Int) (m : Bool), r = (0, a, 0, b, m, true) ∧ (0 ≤ a ∧ a ≤ 20) ∧ (0 ≤ b ∧ b ≤ 20) ∧ (if m = true then (2 : Int) ^ a.toNat - 2 ^ b.toNat else 2 ^ a.toNat + 2 ^ b.toNat) = x
theorem goodA {x a b : Int} (a0 : 0 ≤ a) (a1 : a ≤ 20) (b0 : 0 ≤ b) (b1 : b ≤ 20) (m : Bool) (h : (if m = true then wrap64 (shl .i64 1 a - shl .i64 1 b) else wrap64 (shl .i64 1 a + shl .i64 1 b)) = x) : GoodA x (0, a, 0, b, m, true) := by
  refine fun _ => ⟨a, b, m, rfl, ⟨a0, a1⟩, ⟨b0, b1⟩, ?_⟩
  have s0 := shl_val (x := 1) 1 (by omega) (by omega) (by omega) (by omega) a0 a1
  have s1 := shl_val (x := 1) 1 (by omega) (by omega) (by omega) (by omega) b0 b1
  have p0 := pow_small a1
  have p1 := pow_small b1
  rw [s0, s1, Int.one_mul, Int.one_mul, wid (x := 2 ^ a.toNat - 2 ^ b.toNat) (by omega) (by omega), wid (x := 2 ^ a.toNat + 2 ^ b.toNat) (by omega) (by omega)] at h
  exact h
theorem rows (x : Int) : ∀ (d : Nat) (a : Int), 0 ≤ a → a + d = 21 → ∃ r, GoodA x r ∧ Ev (fun k => spec_OneAdder.l0 k x a) r ∧ Ev (fun k => impl_OneAdder.l0 k x a) r := by
  intro d
  induction d with
  | zero =>
    intro a h0 h
    refine ⟨(0, 0, 0, 0, false, false), (fun h => by cases h), up ?_, up ?_⟩
    · simp only [spec_OneAdder.l0, if_neg (show ¬ a ≤ 20 by omega)]; exact Ev.now _
    · simp only [impl_OneAdder.l0, if_neg (show ¬ a < 21 by omega)]; exact Ev.now _
  | succ d ih =>
    intro a h0 h
    have inner : ∀ (e : Nat) (b : Int), 0 ≤ b → b + e = 21 → ∃ r, GoodA x r ∧ Ev (fun k => spec_OneAdder.l1 k x a b) r ∧ Ev (fun k => impl_OneAdder.l1 k x a a b) r := by
      intro e
      induction e with
      | zero =>
        intro b hb hb2
        obtain ⟨r, hg, h1, h2⟩ := ih (a + 1) (by omega) (by omega)
        refine ⟨r, hg, up ?_, up ?_⟩
        · simp only [spec_OneAdder.l1, if_neg (show ¬ b ≤ 20 by omega), wid (x := a + 1) (by omega) (by omega)]; exact h1
        · simp only [impl_OneAdder.l1, if_neg (show ¬ b < 21 by omega), wid (x := a + 1) (by omega) (by omega)]; exact h2
      | succ e ihe =>
        intro b hb hb2
        obtain ⟨r, hg, h1, h2⟩ := ihe (b + 1) (by omega) (by omega)
        by_cases c1 : wrap64 (shl .i64 1 a + shl .i64 1 b) = x
        · exact ⟨(0, a, 0, b, false, true), goodA h0 (by omega) hb (by omega) false (by simpa using c1), spec_round x a b h0 hb (by omega) (by rw [if_pos c1]), impl_round x a b h0 hb (by omega) (by rw [if_pos c1])⟩
        by_cases c2 : wrap64 (shl .i64 1 a - shl .i64 1 b) = x
        · exact ⟨(0, a, 0, b, true, true), goodA h0 (by omega) hb (by omega) true (by simpa using c2), spec_round x a b h0 hb (by omega) (by rw [if_neg c1, if_pos c2]), impl_round x a b h0 hb (by omega) (by rw [if_neg c1, if_pos c2])⟩
        exact ⟨r, hg, spec_round x a b h0 hb (by omega) (by rw [if_neg c1, if_neg c2]; exact h1), impl_round x a b h0 hb (by omega) (by rw [if_neg c1, if_neg c2]; exact h2)⟩
    obtain ⟨r, hg, h1, h2⟩ := inner 21 0 (by omega) (by omega)
    refine ⟨r, hg, up ?_, up ?_⟩
    · simp only [spec_OneAdder.l0, if_pos (show a ≤ 20 by omega)]; exact h1
    · simp only [impl_OneAdder.l0, if_pos (show a < 21 by omega)]; exact h2
theorem bothA (n : Int) : ∃ r, (r.2.2.2.2.2 = true → (-1000000 ≤ n ∧ n ≤ 1000000) ∧ GoodA n r) ∧ Ev (fun k => spec_OneAdder.f k n) r ∧ Ev (fun k => impl_OneAdder.f k n) r := by
  by_cases h : -1000000 ≤ n ∧ n ≤ 1000000
  · obtain ⟨h0, h1⟩ := h
    obtain ⟨r, hg, hs, hi⟩ := rows n 21 0 (by omega) (by omega)
    refine ⟨r, fun _ => ⟨⟨h0, h1⟩, hg⟩, ?_, ?_⟩
    · simp only [spec_OneAdder.f, spec_siNumber.f, spec_l1In.f, ge_iff_le, h0, h1, decide_true, if_true, Option.bind_some]; exact hs
    · simp only [impl_OneAdder.f, impl_signedOk.f, impl_in.f, ge_iff_le, h0, h1, decide_true, if_true, Option.bind_some]; exact hi
  · refine ⟨(0, 0, 0, 0, false, false), (fun h => by cases h), ⟨0, fun k _ => ?_⟩, ⟨0, fun k _ => ?_⟩⟩
    · simp only [spec_OneAdder.f, spec_siNumber.f, spec_l1In.f]
      by_cases a : n ≥ -1000000 <;> by_cases b : n ≤ 1000000 <;> simp [a, b] <;> omega
    · simp only [impl_OneAdder.f, impl_signedOk.f, impl_in.f]
      by_cases a : n ≥ -1000000 <;> by_cases b : n ≤ 1000000 <;> simp [a, b] <;> omega
theorem implWeight_loop (l : List Int) (hl : l.length ≤ 1000000) : ∀ (d i : Nat) (n : Nat), i + d = l.length → n ≤ i → Ev (fun k => impl_weight.l0 k n l (l.length : Int) i) ((n + wt (l.drop i) : Nat) : Int) := by
  intro d
  induction d with
  | zero =>
    intro i n h hn
    refine up ?_
    simp only [impl_weight.l0, if_neg (show ¬ (i : Int) < (l.length : Int) by omega)]
    rw [List.drop_of_length_le (by omega)]
    exact Ev.now _
  | succ d ih =>
    intro i n h hn
    have hi : i < l.length := by omega
    refine up ?_
    simp only [impl_weight.l0, if_pos (show (i : Int) < (l.length : Int) by omega), if_pos (show (0 : Int) ≤ (i : Int) by omega), wid (x := (i : Int) + 1) (by omega) (by omega), wid (x := (n : Int) + 1) (by omega) (by omega), rd_at hi]
    rw [List.drop_eq_getElem_cons hi, wt]
    by_cases hz : l[i] = 0
    · simp only [hz, if_true]
      have := ih (i + 1) n (by omega) (by omega)
      rw [show n + (0 + wt (l.drop (i + 1))) = n + wt (l.drop (i + 1)) by omega]; exact this
    · simp only [hz, if_false]
      have := ih (i + 1) (n + 1) (by omega) (by omega)
      rw [show n + (1 + wt (l.drop (i + 1))) = n + 1 + wt (l.drop (i + 1)) by omega]; exact this
theorem implWeight (l : List Int) (hl : l.length ≤ 1000000) : Ev (fun k => impl_weight.f k l) (wt l : Int) := by
  have := implWeight_loop l hl l.length 0 0 (by omega) (by omega)
  simpa [impl_weight.f] using this
theorem wf_byte {x : Int} (h : (Lit.int .u8 x).wf = true) : 0 ≤ x ∧ x ≤ 255 := by
  simp only [Lit.wf, Bool.and_eq_true, decide_eq_true_eq] at h
  exact h
theorem rd_byte {l : List Int} (hl : ∀ x ∈ l, (Lit.int .u8 x).wf = true) (i : Int) (h0 : 0 ≤ i) (h1 : i < l.length) : 0 ≤ rd l i ∧ rd l i ≤ 255 := by
  unfold rd
  have hi : i.toNat < l.length := by omega
  rw [List.getD_eq_getElem?_getD, List.getElem?_eq_getElem hi]
  exact wf_byte (hl _ (List.getElem_mem hi))
theorem wrapU_range (n : Int) : 0 ≤ IntKind.u64.wrap n ∧ IntKind.u64.wrap n < 18446744073709551616 := by
  simp only [IntKind.wrap, IntKind.bits, IntKind.signed, Bool.false_eq_true, false_and, if_false]
  simp
  omega
theorem and255 (x : Int) : 0 ≤ Go.bits .and .u64 (IntKind.u64.wrap x / 1099511627776) 255 ∧ Go.bits .and .u64 (IntKind.u64.wrap x / 1099511627776) 255 ≤ 255 := by
  have h := wrapU_range x
  have hw : ∀ n : Int, 0 ≤ n → n < 2 ^ 40 → IntKind.u64.wrap n = n := by
    intro n h0 h1
    have e : (2 : Int) ^ 40 = 1099511627776 := by decide
    simp only [IntKind.wrap, IntKind.bits, IntKind.signed, Bool.false_eq_true, false_and, if_false]
    simp
    omega
  have e : (2 : Int) ^ 40 = 1099511627776 := by decide
  have hb : Go.bits .and .u64 (IntKind.u64.wrap x / 1099511627776) ((2 : Int) ^ 8 - 1) = (IntKind.u64.wrap x / 1099511627776) % 2 ^ 8 := bits_mask .u64 40 (by decide) hw 8 (by decide) _ (by omega) (by omega)
  have e1 : (2 : Int) ^ 8 - 1 = 255 := by decide
  have e2 : (2 : Int) ^ 8 = 256 := by decide
  rw [e1, e2] at hb
  rw [hb]; omega
theorem next_ok {l : List Int} (hl : ∀ x ∈ l, (Lit.int .u8 x).wf = true) (p s : Int) (h0 : 0 ≤ p) (h1 : p ≤ 1000000000000) : ∃ v s', spec_l1Cur_next.f l p s = some (v, p + 1, s') ∧ 0 ≤ v ∧ v ≤ 255 := by
  unfold spec_l1Cur_next.f
  rw [wid (x := p + 1) (by omega) (by omega)]
  by_cases hlt : p < (l.length : Int)
  · have hb := rd_byte hl p h0 hlt
    rw [if_pos hlt, if_pos h0, if_pos (show p + 1 ≤ (l.length : Int) by omega), wid (x := rd l p) (by omega) (by omega)]
    exact ⟨_, _, rfl, by omega, by omega⟩
  · rw [if_neg hlt]
    by_cases hle : p + 1 ≤ (l.length : Int)
    · omega
    · rw [if_neg hle]
      have := and255 (IntKind.u64.wrap (IntKind.u64.wrap (s * 6364136223846793005)) + 1442695040888963407)
      rw [wid (by omega) (by omega)]
      exact ⟨_, _, rfl, this.1, this.2⟩
theorem pick_ok {l : List Int} (hl : ∀ x ∈ l, (Lit.int .u8 x).wf = true) (p s n : Int) (h0 : 0 ≤ p) (h1 : p ≤ 100000000000) : ∃ v p' s', spec_l1Cur_pick.f l p s n = some (v, p', s') ∧ 0 ≤ v ∧ (1 ≤ n → v < n) ∧ p ≤ p' ∧ p' ≤ p + 2 := by
  unfold spec_l1Cur_pick.f
  by_cases hn : n ≤ 1
  · rw [if_pos hn]; exact ⟨0, p, s, rfl, by omega, by omega, by omega, by omega⟩
  · rw [if_neg hn]
    obtain ⟨v, s1, e1, hv0, hv1⟩ := next_ok hl p s h0 (by omega)
    rw [e1]; simp only [Option.bind_some]
    by_cases hb : n > 200
    · obtain ⟨u, s2, e2, hu0, hu1⟩ := next_ok hl (p + 1) s1 (by omega) (by omega)
      rw [if_pos hb, e2]; simp only [Option.bind_some]
      rw [if_neg (by omega), wid (x := v * 256) (by omega) (by omega), wid (x := v * 256 + u) (by omega) (by omega), Int.tmod_eq_emod_of_nonneg (by omega)]
      have r1 := Int.emod_nonneg (v * 256 + u) (show n ≠ 0 by omega)
      have r2 := Int.emod_lt_of_pos (v * 256 + u) (show 0 < n by omega)
      exact ⟨_, _, _, rfl, r1, fun _ => r2, by omega, by omega⟩
    · rw [if_neg hb, if_neg (by omega), Int.tmod_eq_emod_of_nonneg (by omega)]
      have r1 := Int.emod_nonneg v (show n ≠ 0 by omega)
      have r2 := Int.emod_lt_of_pos v (show 0 < n by omega)
      exact ⟨_, _, _, rfl, r1, fun _ => r2, by omega, by omega⟩
theorem among_ok {l : List Int} (hl : ∀ x ∈ l, (Lit.int .u8 x).wf = true) (p s : Int) (h0 : 0 ≤ p) (h1 : p ≤ 100000000000) (t : List Int) (ht : 1 ≤ t.length) : ∃ v p' s', spec_l1Cur_among.f l p s t = some (v, p', s') ∧ v ∈ t ∧ p ≤ p' ∧ p' ≤ p + 2 := by
  obtain ⟨v, p', s', e, v0, v1, a, b⟩ := pick_ok hl p s t.length h0 h1
  have hv := v1 (by omega)
  refine ⟨rd t v, p', s', by simp only [spec_l1Cur_among.f, e, Option.bind_some, if_pos v0, if_pos hv], ?_, a, b⟩
  unfold rd
  have hi : v.toNat < t.length := by omega
  rw [List.getD_eq_getElem?_getD, List.getElem?_eq_getElem hi]
  exact List.getElem_mem hi
theorem one_ok {l : List Int} (hl : ∀ x ∈ l, (Lit.int .u8 x).wf = true) (p s n : Int) (h0 : 0 ≤ p) (h1 : p ≤ 100000000000) : ∃ v p' s', spec_l1Cur_one.f l p s n = some (v, p', s') ∧ p ≤ p' ∧ p' ≤ p + 2 := by
  obtain ⟨v, p', s', e, _, _, a, b⟩ := pick_ok hl p s n h0 h1
  exact ⟨(v == 0), p', s', by simp only [spec_l1Cur_one.f, e, Option.bind_some], a, b⟩
theorem number9_ok {l : List Int} (hl : ∀ x ∈ l, (Lit.int .u8 x).wf = true) (p s : Int) (h0 : 0 ≤ p) (h1 : p ≤ 10000000000) : ∃ v p' s', spec_l1Cur_number9.f l p s = some (v, p', s') ∧ p ≤ p' ∧ p' ≤ p + 8 := by
  unfold spec_l1Cur_number9.f
  obtain ⟨v, p1, s1, e, _, _, a, b⟩ := pick_ok hl p s 10 h0 (by omega)
  rw [e]; simp only [Option.bind_some]
  by_cases c0 : v = 0
  · obtain ⟨u, p2, s2, e2, _, a2, b2⟩ := among_ok hl p1 s1 (by omega) (by omega) [0, 1, (-1), 1000000, (-1000000), 1000001, (-1000001), 4611686018427387904, (-9223372036854775808)] (by simp)
    rw [if_pos c0, e2]; exact ⟨_, p2, s2, rfl, by omega, by omega⟩
  rw [if_neg c0]
  by_cases c1 : v = 1
  · obtain ⟨u, p2, s2, e2, _, _, a2, b2⟩ := pick_ok hl p1 s1 60000 (by omega) (by omega)
    rw [if_pos c1, e2]; exact ⟨_, p2, s2, rfl, by omega, by omega⟩
  rw [if_neg c1]
  by_cases c2 : v = 2
  · obtain ⟨u, p2, s2, e2, u0, _, a2, b2⟩ := pick_ok hl p1 s1 20 (by omega) (by omega)
    obtain ⟨t, p3, s3, e3, _, _, a3, b3⟩ := pick_ok hl p2 s2 3 (by omega) (by omega)
    rw [if_pos c2, e2]; simp only [Option.bind_some]
    rw [if_pos u0, e3]; exact ⟨_, p3, s3, rfl, by omega, by omega⟩
  rw [if_neg c2]
  obtain ⟨u, p2, s2, e2, _, a2, b2⟩ := among_ok hl p1 s1 (by omega) (by omega) [20, 200, 2000] (by simp)
  obtain ⟨t, p3, s3, e3, _, _, a3, b3⟩ := pick_ok hl p2 s2 u (by omega) (by omega)
  obtain ⟨q, p4, s4, e4, _, a4, b4⟩ := among_ok hl p3 s3 (by omega) (by omega) [0, 10, 100] (by simp)
  rw [e2]; simp only [Option.bind_some]
  rw [e3]; simp only [Option.bind_some]
  rw [e4]; exact ⟨_, p4, s4, rfl, by omega, by omega⟩
theorem rSameAd_loop (l : List Ad) (hl : l.length ≤ 2000000) : ∀ (d i : Nat), i + d = l.length → Ev (fun k => laws_rSameAdders.l0 k l l (l.length : Int) i) true := by
  intro d
  induction d with
  | zero =>
    intro i h
    refine up ?_
    simp only [laws_rSameAdders.l0, if_neg (show ¬ (i : Int) < (l.length : Int) by omega)]
    exact Ev.now _
  | succ d ih =>
    intro i h
    refine up ?_
    simp only [laws_rSameAdders.l0, if_pos (show (i : Int) < (l.length : Int) by omega), if_pos (show (0 : Int) ≤ (i : Int) by omega), wid (x := (i : Int) + 1) (by omega) (by omega), beq_self_eq_true, Bool.not_true, Bool.or_self, Bool.false_eq_true, if_false]
    exact ih (i + 1) (by omega)
theorem rSameAd (l : List Ad) (hl : l.length ≤ 2000000) : Ev (fun k => laws_rSameAdders.f k l l) true := by
  simp only [laws_rSameAdders.f, if_true]
  exact rSameAd_loop l hl l.length 0 (by omega)
theorem byte_rd {l : List Int} (hl : ∀ x ∈ l, (Lit.int .u8 x).wf = true) (i : Int) : 0 ≤ rd l i ∧ rd l i ≤ 255 := by
  unfold rd
  rcases Nat.lt_or_ge i.toNat l.length with h | h
  · rw [List.getD_eq_getElem?_getD, List.getElem?_eq_getElem h]
    have := hl _ (List.getElem_mem h)
    have e0 : IntKind.u8.min = 0 := rfl
    have e1 : IntKind.u8.max = 255 := rfl
    simp [Lit.wf, e0, e1] at this
    simp only [Option.getD_some]; omega
  · rw [List.getD_eq_getElem?_getD, List.getElem?_eq_none h]
    simp
theorem numberOf_loop {l : List Int} (hl : ∀ x ∈ l, (Lit.int .u8 x).wf = true) (hn : l.length ≤ 2000000) : ∀ (d i : Nat) (n : Int), i + d = l.length → 0 ≤ n → n ≤ 1000002 → ∃ t, (0 ≤ t ∧ t ≤ 1000002) ∧ Ev (fun k => laws_numberOf.l0 k n l (l.length : Int) i) t := by
  intro d
  induction d with
  | zero =>
    intro i n h h0 h1
    refine ⟨n, ⟨h0, h1⟩, up ?_⟩
    simp only [laws_numberOf.l0, if_neg (show ¬ (i : Int) < (l.length : Int) by omega)]
    exact Ev.now _
  | succ d ih =>
    intro i n h h0 h1
    have hb := byte_rd hl (i : Int)
    have hm : Int.tmod (31 * n + rd l (i : Int)) 1000003 = (31 * n + rd l (i : Int)) % 1000003 := Int.tmod_eq_emod_of_nonneg (by omega)
    obtain ⟨t, ht, hE⟩ := ih (i + 1) (Int.tmod (31 * n + rd l (i : Int)) 1000003) (by omega) (by omega) (by omega)
    refine ⟨t, ht, up ?_⟩
    simp only [laws_numberOf.l0, if_pos (show (i : Int) < (l.length : Int) by omega), if_pos (show (0 : Int) ≤ (i : Int) by omega), wid (x := 31 * n) (by omega) (by omega), wid (x := rd l (i : Int)) (by omega) (by omega), wid (x := 31 * n + rd l (i : Int)) (by omega) (by omega), wid (x := (i : Int) + 1) (by omega) (by omega)]
    exact hE
theorem drawOne_ok {l : List Int} (hl : ∀ x ∈ l, (Lit.int .u8 x).wf = true) : ∃ v, spec_DrawOneAdder.f l = some v := by
  unfold spec_DrawOneAdder.f
  obtain ⟨v1, p1, s1, e1, a1, b1⟩ := one_ok hl 0 0 3 (by omega) (by omega)
  rw [e1]; simp only [Option.bind_some]
  by_cases c1 : v1 = true
  · obtain ⟨v2, p2, s2, e2, a2, b2⟩ := number9_ok hl p1 s1 (by omega) (by omega)
    rw [if_pos c1, e2]; exact ⟨_, rfl⟩
  rw [if_neg c1]
  obtain ⟨v2, p2, s2, e2, u2, _, a2, b2⟩ := pick_ok hl p1 s1 21 (by omega) (by omega)
  rw [e2]; simp only [Option.bind_some]
  rw [if_pos u2]
  obtain ⟨v3, p3, s3, e3, a3, b3⟩ := one_ok hl p2 s2 2 (by omega) (by omega)
  rw [e3]; simp only [Option.bind_some]
  obtain ⟨v4, p4, s4, e4, u4, _, a4, b4⟩ := pick_ok hl p3 s3 21 (by omega) (by omega)
  rw [e4]; simp only [Option.bind_some, if_pos u4]
  split <;> exact ⟨_, rfl⟩
theorem signed_W4 {n : Int} (h0 : -1000000 ≤ n) (h1 : n ≤ 1000000) : signedB (win 4 20 n) = true := by
  have hl := win_length 4 20 n
  rw [win_W4 h0 h1] at hl ⊢
  have hd := W4_digits n
  unfold signedB
  rw [Bool.and_eq_true, decide_eq_true_eq, List.all_eq_true]
  refine ⟨by omega, fun d hm => ?_⟩
  have := hd d hm
  rw [Bool.and_eq_true, decide_eq_true_eq, decide_eq_true_eq]; omega
theorem addersB_of {L : List Ad} {ms : List Int} (hl : L.length ≤ 24) (h : chk 0 [1] L = some ms) : addersB L = true := by
  unfold addersB; rw [h, decide_eq_true hl]; rfl
theorem runV_of {L : List Ad} {ms : List Int} (hl : L.length ≤ 24) (h : chk 0 [1] L = some ms) {x : Int} (h0 : -1000 ≤ x) (h1 : x ≤ 1000) : runV L x = (ms.map (· * x), true) := by
  unfold runV
  rw [if_pos (addersB_of hl h), decide_eq_true h0, decide_eq_true h1, h]; rfl
theorem rd_map (ms : List Int) (x i : Int) : rd (ms.map (· * x)) i = rd ms i * x := by
  unfold rd
  rw [List.getD_eq_getElem?_getD, List.getD_eq_getElem?_getD, List.getElem?_map]
  cases ms[i.toNat]? <;> simp
theorem j1_ok {l : List Int} (hl : ∀ x ∈ l, (Lit.int .u8 x).wf = true) {x : Int} (h0 : -1000 ≤ x) (h1 : x ≤ 1000) : Ev (fun k => laws_FnMultiplesByAdders.j1 k l x) true := by
  obtain ⟨n, hn⟩ := drawOne_ok hl
  obtain ⟨⟨r0, r1, r2, r3, r4, r5⟩, hg, hs, hi⟩ := bothA n
  refine up ?_
  simp only [laws_FnMultiplesByAdders.j1, hn, Option.bind_some]
  refine Ev.bind hi ?_
  refine Ev.bind hs ?_
  simp only [bne_self_eq_false, beq_self_eq_true, Bool.not_true, Bool.or_self, Bool.false_eq_true, if_false]
  refine up ?_
  simp only [laws_FnMultiplesByAdders.j2, Bool.false_eq_true, if_false]
  by_cases hr : r5 = true
  · obtain ⟨hb, hG⟩ := hg hr
    obtain ⟨a, b, m, e, ha, hbb, hv⟩ := hG hr
    simp only [Prod.mk.injEq] at e
    obtain ⟨rfl, rfl, rfl, rfl, rfl, rfl⟩ := e
    simp only [if_true]
    have hav : av [1] (⟨0, r1, 0, r3, r4⟩ : Ad) = n := by
      unfold av
      rw [show rd [1] 0 = 1 from rfl, Int.one_mul, Int.one_mul]
      exact hv
    have hc := chk_one (L := []) (ms := [1]) rfl (⟨0, r1, 0, r3, r4⟩ : Ad) (by rw [okA_iff]; simp only [List.length_nil]; omega) (by rw [hav, inM_iff]; omega)
    rw [hav, List.nil_append] at hc
    have hrun := implRun [(⟨0, r1, 0, r3, r4⟩ : Ad)] x (by simp)
    rw [runV_of (by simp) hc h0 h1] at hrun
    refine Ev.bind hrun ?_
    have hnx : n * x = n * x := rfl
    have hp : -1000000000 ≤ n * x ∧ n * x ≤ 1000000000 := by
      rcases Int.le_total 0 x with hx | hx
      · have a1 := Int.mul_le_mul_of_nonneg_right hb.2 hx
        have a0 := Int.mul_le_mul_of_nonneg_right hb.1 hx
        omega
      · have a1 := Int.mul_le_mul_of_nonpos_right hb.2 hx
        have a0 := Int.mul_le_mul_of_nonpos_right hb.1 hx
        omega
    have hrd : rd (([1] ++ [n]).map (· * x)) 1 = n * x := by rw [rd_map]; rfl
    simp only [hrd, wid (x := n * x) (by omega) (by omega), beq_self_eq_true, if_true, if_pos (show (((([1] ++ [n]).map (· * x)).length : Nat) : Int) = 2 by rfl), if_pos (show (1 : Int) < (((([1] ++ [n]).map (· * x)).length : Nat) : Int) by simp)]
    exact Ev.now _
  · have : r5 = false := by simpa using hr
    simp only [this, Bool.false_eq_true, if_false]
    exact Ev.now _
theorem main : laws_FnMultiplesByAdders.Pure := by
  intro code more _ hc hcode _ hm hmore
  refine Ev.rounds ?_
  simp only [laws_FnMultiplesByAdders.f, laws_big.f]
  by_cases hb : (code.length : Int) > 1048576
  · exact ⟨0, fun k _ => by simp only [if_pos hb, Option.bind_some, if_true]⟩
  simp only [if_neg hb, Option.bind_some, wid (x := 1048576 - (code.length : Int)) (by omega) (by omega)]
  by_cases hb2 : (more.length : Int) > 1048576 - (code.length : Int)
  · exact ⟨0, fun k _ => by simp only [hb2, decide_true, if_true]⟩
  simp only [hb2, decide_false, Bool.false_eq_true, if_false]
  have hdraw : ∃ n, spec_DrawAddersOf.f code = some n := by
    obtain ⟨v, p, s, e, _, _⟩ := number9_ok hcode 0 0 (by omega) (by omega)
    exact ⟨v, by simp only [spec_DrawAddersOf.f, spec_DrawSignedDigits.f, e, Option.bind_some]⟩
  obtain ⟨n, hd⟩ := hdraw
  have hl := addersV_len n
  simp only [hd, Option.bind_some]
  refine Ev.bind (implAddersOf n) ?_
  refine Ev.bind (specAddersOf n) ?_
  simp only [bne_self_eq_false, Bool.false_eq_true, if_false]
  refine Ev.bind (rSameAd (addersV n).1 (by omega)) ?_
  simp only [Bool.not_true]
  refine up ?_
  simp only [laws_FnMultiplesByAdders.j0, Bool.false_eq_true, if_false]
  obtain ⟨t, ht, hE⟩ := numberOf_loop hmore (by omega) more.length 0 0 (by omega) (by omega) (by omega)
  have hE' : Ev (fun k => laws_numberOf.f k more) t := by simpa [laws_numberOf.f] using hE
  refine Ev.bind hE' ?_
  have hmd : Int.tmod t 2001 = t % 2001 := Int.tmod_eq_emod_of_nonneg ht.1
  obtain ⟨x, hx⟩ : ∃ x, wrap64 (Int.tmod t 2001 - 1000) = x := ⟨_, rfl⟩
  have hxb : -1000 ≤ x ∧ x ≤ 1000 := by rw [← hx, hmd, wid (by omega) (by omega)]; omega
  simp only [hx]
  have J := j1_ok hmore hxb.1 hxb.2
  by_cases ho : okNum n = true
  · obtain ⟨⟨ms, hch, he⟩, h2, hwl⟩ := addersV_chk ho
    have hn := okNum_iff.1 ho
    have hlen := chk_len _ _ _ _ hch
    simp only [List.length_singleton] at hlen
    simp only [h2, if_true]
    have hrun := implRun (addersV n).1 x (by omega)
    rw [runV_of (by omega) hch hxb.1 hxb.2] at hrun
    refine Ev.bind hrun ?_
    have hsd : Ev (fun k => impl_SignedDigits.f k n) (win 4 20 n, true) := by
      simp only [impl_SignedDigits.f, signedOk_eq, ho, Option.bind_some, if_true]
      exact Ev.bind (implWin (t := 4) (w := 2) (Or.inl rfl) (by omega) (by omega) (by decide) (by decide) n hn.1 hn.2) (Ev.now _)
    refine Ev.bind hsd ?_
    have hwo : Ev (fun k => impl_WeightOf.f k (win 4 20 n)) ((wt (win 4 20 n) : Int), true) := by
      have hwl20 := win_length 4 20 n
      simp only [impl_WeightOf.f, impl_isDigits.f, signed_W4 hn.1 hn.2, Option.bind_some, if_true]
      exact Ev.bind (implWeight _ (by omega)) (Ev.now _)
    refine Ev.bind hwo ?_
    have hidx : wrap64 (((ms.map (· * x)).length : Int) - 1) = ((addersV n).1.length : Int) := by
      rw [List.length_map, wid (by omega) (by omega)]; omega
    have hp : -1000000000 ≤ n * x ∧ n * x ≤ 1000000000 := by
      rcases Int.le_total 0 x with hx | hx
      · have a1 := Int.mul_le_mul_of_nonneg_right hn.2 hx
        have a0 := Int.mul_le_mul_of_nonneg_right hn.1 hx
        omega
      · have a1 := Int.mul_le_mul_of_nonpos_right hn.2 hx
        have a0 := Int.mul_le_mul_of_nonpos_right hn.1 hx
        omega
    simp only [hidx, if_true, if_pos (show (0 : Int) ≤ ((addersV n).1.length : Int) by omega), if_pos (show ((addersV n).1.length : Int) < ((ms.map (· * x)).length : Int) by rw [List.length_map]; omega), rd_map, he, wid (x := n * x) (by omega) (by omega)]
    by_cases hpos : n > 0
    · by_cases hw1 : ((wt (win 4 20 n) : Nat) : Int) > 1
      · rw [win_W4 hn.1 hn.2] at hw1 ⊢
        have := hwl hpos (by omega)
        have hwb := wt_le (W4 n)
        have hl4 := win_length 4 20 n
        rw [win_W4 hn.1 hn.2] at hl4
        simp only [if_pos hpos, if_pos hw1, wid (x := ((wt (W4 n) : Nat) : Int) - 1) (by omega) (by omega), if_pos (show ((addersV n).1.length : Int) = ((wt (W4 n) : Nat) : Int) - 1 by omega)]
        exact J
      · simp only [if_pos hpos, if_neg hw1]; exact J
    · simp only [if_neg hpos]; exact J
  · have h2 : (addersV n).2 = false := by unfold addersV; rw [if_neg ho]
    simp only [h2, Bool.false_eq_true, if_false]
    exact J
end Go.Proofs.Ytafnnnpcochnnaa.PureFnMultiplesByAddersL
namespace Go.Proofs.Ytafnnnpcochnnaa.Pure
open Go.Proofs.Ytafnnnpcochnnaa.PFnMultiplesByAdders
theorem FnMultiplesByAdders : laws_FnMultiplesByAdders.Pure := PureFnMultiplesByAddersL.main
end Go.Proofs.Ytafnnnpcochnnaa.Pure
