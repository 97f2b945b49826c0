/- The program's AllSigned returns what the reference's returns, in memory that nothing else holds: the statement FnExactAllSigned holds for all numbers and lengths. -/
import Derived.Test.YtldbcglgfabopaaPFnExactAllSignedx1
import Derived.Test.YtldbcglgfabopaaPFnExactAllSignedx2
import Derived.Test.YtldbcglgfabopaaPFnExactAllSignedx3
import Derived.Test.YtldbcglgfabopaaPFnExactAllSignedx9
set_option linter.unusedVariables false
set_option linter.unusedSimpArgs false
namespace Go.Proofs.Ytldbcglgfabopaa.PureFnExactAllSignedL
open Go.RowKit Go.Proofs.Ytldbcglgfabopaa.PFnExactAllSigned Go.Proofs.YtldbcglgfabopaaW.PrintWords Go.Proofs.YtldbcglgfabopaaW.PrintLast Go.Proofs.YtldbcglgfabopaaW.PrintMore
theorem up {α : Type} {g : Nat → Option α} {r : α} (h : Ev (fun k => g (k + 1)) r) : Ev g r := by
  obtain ⟨K, h⟩ := h
  refine ⟨K + 1, fun k hk => ?_⟩
  obtain ⟨m, rfl⟩ : ∃ m, k = m + 1 := ⟨k - 1, by omega⟩
  exact h m (by omega)
theorem wid {x : Int} (h0 : -9223372036854775808 ≤ x) (h1 : x ≤ 9223372036854775807) : wrap64 x = x := by unfold wrap64; omega
theorem ite_yes {α : Type} {c : Prop} [Decidable c] {a b : α} (h : c) : (if c then a else b) = a := if_pos h
theorem ite_no {α : Type} {c : Prop} [Decidable c] {a b : α} (h : ¬ c) : (if c then a else b) = b := if_neg h
theorem evsome {α β : Type} {x : Option α} {a : α} {f : Nat → α → Option β} {r : β} (hx : x = some a) (h : Ev (fun k => f k a) r) : Ev (fun k => x.bind (f k)) r := by subst hx; exact h
theorem if_pos_ev {α : Type} {c : Prop} [Decidable c] {f g : Nat → Option α} (h : c) : (fun k => if c then f k else g k) = f := funext fun k => if_pos h
theorem if_neg_ev {α : Type} {c : Prop} [Decidable c] {f g : Nat → Option α} (h : ¬ c) : (fun k => if c then f k else g k) = g := funext fun k => if_neg h
theorem rd_at {l : List Int} {i : Nat} (h : i < l.length) : rd l (i : Int) = l[i] := by
  unfold rd
  rw [Int.toNat_natCast, List.getD_eq_getElem?_getD, List.getElem?_eq_getElem h]; rfl
/-- The number that digits stand for. -/
def val : List Int → Int
  | [] => 0
  | d :: l => d + 2 * val l
def small (l : List Int) : Prop := ∀ d ∈ l, -31 ≤ d ∧ d ≤ 31
theorem small_tail {d : Int} {l : List Int} (h : small (d :: l)) : small l := fun x hx => h x (List.mem_cons_of_mem _ hx)
theorem p2 (n : Nat) : (2 : Int) ^ (n + 1) = 2 * 2 ^ n := by rw [Int.pow_succ]; omega
theorem p2_pos (n : Nat) : (1 : Int) ≤ 2 ^ n := by
  induction n with
  | zero => decide
  | succ n ih => rw [p2]; omega
theorem p2_le {f : Nat} (hf : f ≤ 24) : (2 : Int) ^ f ≤ 16777216 := by
  have h := Nat.pow_le_pow_right (n := 2) (by omega) hf
  have e : ((2 ^ f : Nat) : Int) = (2 : Int) ^ f := by simp
  omega
theorem val_bound : ∀ (l : List Int), small l → -(31 * (2 ^ l.length - 1)) ≤ val l ∧ val l ≤ 31 * (2 ^ l.length - 1)
  | [], _ => by simp [val]
  | d :: l, h => by
    have hd := h d (List.mem_cons_self ..)
    have ih := val_bound l (small_tail h)
    have e := p2 l.length
    simp only [val, List.length_cons]
    omega
theorem val_big {l : List Int} (h : small l) (hl : l.length ≤ 24) : -520093696 ≤ val l ∧ val l ≤ 520093696 := by
  have := val_bound l h
  have := p2_le hl
  omega
theorem shl_small_val {d : Int} {i : Nat} (h0 : -31 ≤ d) (h1 : d ≤ 31) (hi : i ≤ 24) : shl .i64 d (i : Int) = d * 2 ^ i := by
  unfold shl
  rw [Int.toNat_natCast, Nat.min_eq_left (show i ≤ IntKind.i64.bits by simp [IntKind.bits]; omega)]
  have hp := p2_le hi
  have hq := p2_pos i
  have hb : -520093696 ≤ d * 2 ^ i ∧ d * 2 ^ i ≤ 520093696 := by
    constructor
    · have := Int.mul_le_mul_of_nonneg_right h0 (show (0 : Int) ≤ 2 ^ i by omega); omega
    · have := Int.mul_le_mul_of_nonneg_right h1 (show (0 : Int) ≤ 2 ^ i by omega); omega
  generalize d * 2 ^ i = x at hb
  simp only [IntKind.wrap, IntKind.bits, IntKind.signed]
  simp
  omega
theorem tmod_in {a b : Int} (hb : 0 < b) : -b < Int.tmod a b ∧ Int.tmod a b < b := ⟨Int.lt_tmod_of_pos a hb, Int.tmod_lt_of_pos a hb⟩
theorem posmod {a b : Int} (hb : 0 < b) (hb2 : b ≤ 1000000000000000) : Int.tmod (wrap64 ((Int.tmod a b) + b)) b = a % b := by
  have h := tmod_in (a := a) hb
  rw [wid (by omega) (by omega), Int.tmod_eq_emod_of_nonneg (by omega), Int.add_emod_right]
  rw [Int.tmod_def, Int.sub_mul_emod_self_left]
theorem odd_test (x : Int) : Int.tmod x 2 = 0 ↔ x % 2 = 0 := by
  rw [← Int.dvd_iff_tmod_eq_zero, ← Int.dvd_iff_emod_eq_zero]
theorem half_even {x : Int} (h : x % 2 = 0) : Int.tdiv x 2 = x / 2 := Int.tdiv_eq_ediv_of_dvd (Int.dvd_of_emod_eq_zero h)
theorem siOdd_val (x : Int) : spec_siOdd.f x = some (decide (¬ x % 2 = 0)) := by
  unfold spec_siOdd.f
  by_cases h : x % 2 = 0
  · have := (odd_test x).2 h; simp [h, this]
  · have := mt (odd_test x).1 h; simp [h, this]
theorem l1In_val (x a b : Int) : spec_l1In.f x a b = some (decide (a ≤ x) && decide (x ≤ b)) := by
  unfold spec_l1In.f
  by_cases h : a ≤ x
  · rw [if_pos h]; simp [h]
  · rw [if_neg h]; simp [h]
open Go.Proofs.YtldbcglgfabopaaLists (LV acc put1 sz okP LV_ok three_le three_pos sz_nonneg)
theorem siTask_val (n L : Int) : spec_siTask.f n L = some ((decide (-1000000 ≤ n) && decide (n ≤ 1000000)) && (decide (0 ≤ L) && decide (L ≤ 24))) := by
  simp only [spec_siTask.f, spec_siNumber.f, l1In_val, Option.bind_some]
  cases (decide (-1000000 ≤ n) && decide (n ≤ 1000000)) <;> simp
/-- What CountSigned and LeastWeight answer. -/
def cntV (n L : Int) : Int × Bool := if (-1000000 ≤ n ∧ n ≤ 1000000) ∧ 0 ≤ L ∧ L ≤ 24 then ((LV L.toNat n).1, true) else (0, false)
def lwV (n L : Int) : Int × Bool := if (-1000000 ≤ n ∧ n ≤ 1000000) ∧ 0 ≤ L ∧ L ≤ 24 then ((LV L.toNat n).2, decide ((LV L.toNat n).1 > 0)) else (0, false)
theorem implCount (n L : Int) : impl_CountSigned.f n L = some (cntV n L) := by
  unfold impl_CountSigned.f cntV
  split <;> rfl
theorem task_no {n L : Int} (h : ¬ ((-1000000 ≤ n ∧ n ≤ 1000000) ∧ 0 ≤ L ∧ L ≤ 24)) : spec_siTask.f n L = some false := by
  rw [siTask_val]
  congr 1
  rw [Bool.and_eq_false_iff, Bool.and_eq_false_iff, Bool.and_eq_false_iff, decide_eq_false_iff_not, decide_eq_false_iff_not, decide_eq_false_iff_not, decide_eq_false_iff_not]
  omega
theorem task_yes {n L : Int} (h : (-1000000 ≤ n ∧ n ≤ 1000000) ∧ 0 ≤ L ∧ L ≤ 24) : spec_siTask.f n L = some true := by
  obtain ⟨⟨h0, h1⟩, h2, h3⟩ := h
  simp only [siTask_val, decide_eq_true h0, decide_eq_true h1, decide_eq_true h2, decide_eq_true h3, Bool.and_self]
/-- How many digits are other than 0. -/
def wt : List Int → Nat
  | [] => 0
  | d :: l => (if d = 0 then 0 else 1) + wt l
theorem wt_le : ∀ l, wt l ≤ l.length
  | [] => Nat.le_refl _
  | d :: l => by have := wt_le l; unfold wt; split <;> simp only [List.length_cons] <;> omega
/-! All lists of so many digits for a number, in order. -/
theorem accL_mem {f : Int → List (List Int)} {n : Int} {l : List Int} : ∀ i, l ∈ accL f n i ↔ ∃ j, j < i ∧ (n - ((j : Int) - 1)) % 2 = 0 ∧ ∃ t ∈ f ((n - ((j : Int) - 1)) / 2), l = ((j : Int) - 1) :: t
  | 0 => by simp [accL]
  | i + 1 => by
    have ih := accL_mem (f := f) (n := n) (l := l) i
    unfold accL
    split
    · rename_i h
      rw [List.mem_append, ih]
      constructor
      · rintro (⟨j, hj, r⟩ | h2)
        · exact ⟨j, by omega, r⟩
        · obtain ⟨t, ht, e⟩ := List.mem_map.1 h2
          exact ⟨i, by omega, h, t, ht, e.symm⟩
      · rintro ⟨j, hj, h1, t, ht, e⟩
        by_cases hji : j = i
        · subst hji; exact Or.inr (List.mem_map.2 ⟨t, ht, e.symm⟩)
        · exact Or.inl ⟨j, by omega, h1, t, ht, e⟩
    · rename_i h
      rw [ih]
      constructor
      · rintro ⟨j, hj, r⟩; exact ⟨j, by omega, r⟩
      · rintro ⟨j, hj, h1, r⟩
        by_cases hji : j = i
        · subst hji; exact absurd h1 h
        · exact ⟨j, by omega, h1, r⟩
/-- Each of them stands for the number. -/
theorem LL_val : ∀ (L : Nat) (n : Int), ∀ l ∈ LL L n, l.length = L ∧ val l = n ∧ ∀ d ∈ l, d = -1 ∨ d = 0 ∨ d = 1
  | 0, n, l, h => by
    unfold LL at h
    split at h
    · rename_i hn
      rw [List.mem_singleton] at h; subst h; subst hn
      exact ⟨rfl, rfl, fun d hd => by cases hd⟩
    · cases h
  | L + 1, n, l, h => by
    unfold LL at h
    split at h
    · cases h
    · obtain ⟨j, hj, hm, t, ht, rfl⟩ := (accL_mem 3).1 h
      have ih := LL_val L _ t ht
      refine ⟨by simp [ih.1], ?_, fun d hd => ?_⟩
      · show ((j : Int) - 1) + 2 * val t = n
        rw [ih.2.1]; omega
      · rcases List.mem_cons.1 hd with rfl | hd
        · omega
        · exact ih.2.2 d hd
/-- Their least weight and their number, as LV tells them. -/
def leastOf (ls : List (List Int)) (p : Int × Int) : Prop := p.1 = ls.length ∧ (∀ l ∈ ls, p.2 ≤ wt l) ∧ (ls ≠ [] → ∃ l ∈ ls, p.2 = wt l)
theorem wt_cons (d : Int) (l : List Int) : wt (d :: l) = (if d = 0 then 0 else 1) + wt l := rfl
theorem sz_one {d : Int} (h : d = -1 ∨ d = 0 ∨ d = 1) : sz d = if d = 0 then 0 else 1 := by
  rcases h with rfl | rfl | rfl <;> decide
theorem least_put {A B : List (List Int)} {a b : Int × Int} {d : Int} (hd : d = -1 ∨ d = 0 ∨ d = 1) (hA : leastOf A a) (hB : leastOf B b) : leastOf (A ++ B.map (d :: ·)) (put1 d a b) := by
  obtain ⟨a1, a2, a3⟩ := hA
  obtain ⟨b1, b2, b3⟩ := hB
  have hs := sz_one hd
  unfold put1
  by_cases h0 : b.1 = 0
  · have : B = [] := List.eq_nil_of_length_eq_zero (by omega)
    subst this
    rw [if_pos h0]
    simpa using ⟨a1, a2, a3⟩
  · rw [if_neg h0]
    have hB0 : B ≠ [] := fun e => h0 (by rw [b1, e]; rfl)
    obtain ⟨lb, hlb, eb⟩ := b3 hB0
    refine ⟨by simp [a1, b1], fun l hl => ?_, fun _ => ?_⟩
    · show (if a.1 = 0 ∨ b.2 + sz d < a.2 then b.2 + sz d else a.2) ≤ _
      rcases List.mem_append.1 hl with h1 | h1
      · have := a2 l h1
        have : a.1 ≠ 0 := by
          have := List.length_pos_of_mem h1
          omega
        split <;> omega
      · obtain ⟨t, ht, rfl⟩ := List.mem_map.1 h1
        have h2 := b2 t ht
        have h3 : ((wt (d :: t) : Nat) : Int) = sz d + wt t := by
          rw [wt_cons, hs]; split <;> simp
        split <;> omega
    · show ∃ l ∈ _, (if a.1 = 0 ∨ b.2 + sz d < a.2 then b.2 + sz d else a.2) = _
      split
      · refine ⟨d :: lb, List.mem_append.2 (Or.inr (List.mem_map.2 ⟨lb, hlb, rfl⟩)), ?_⟩
        have h3 : ((wt (d :: lb) : Nat) : Int) = sz d + wt lb := by
          rw [wt_cons, hs]; split <;> simp
        omega
      · rename_i hc
        have hA0 : A ≠ [] := fun e => hc (Or.inl (by rw [a1, e]; rfl))
        obtain ⟨la, hla, ea⟩ := a3 hA0
        exact ⟨la, List.mem_append.2 (Or.inl hla), ea⟩
theorem least_acc {f : Int → List (List Int)} {g : Int → Int × Int} (h : ∀ x, leastOf (f x) (g x)) (n : Int) : ∀ i, i ≤ 3 → leastOf (accL f n i) (acc g n i)
  | 0, _ => ⟨rfl, fun l hl => (by cases hl), fun h => absurd rfl h⟩
  | i + 1, hi => by
    have ih := least_acc h n i (by omega)
    unfold accL acc
    split
    · exact least_put (by omega) ih (h _)
    · exact ih
theorem LL_LV : ∀ (L : Nat) (n : Int), leastOf (LL L n) (LV L n)
  | 0, n => by
    unfold LL LV
    by_cases h : n = 0
    · subst h
      rw [if_pos rfl, if_neg (by decide)]
      exact ⟨rfl, fun l hl => (by rw [List.mem_singleton] at hl; subst hl; decide), fun _ => ⟨[], List.mem_singleton.2 rfl, rfl⟩⟩
    · rw [if_neg h, if_pos (by unfold sz; split <;> omega)]
      exact ⟨rfl, fun l hl => (by cases hl), fun h => absurd rfl h⟩
  | L + 1, n => by
    unfold LL LV
    split
    · exact ⟨rfl, fun l hl => (by cases hl), fun h => absurd rfl h⟩
    · exact least_acc (LL_LV L) n 3 (by omega)
/-- The order of lists. -/
def lessB : List Int → List Int → Bool
  | [], b => decide (0 < b.length)
  | _ :: _, [] => false
  | x :: a, y :: b => if x = y then lessB a b else decide (x < y)
theorem lessB_head {x y : Int} (h : x < y) (a b : List Int) : lessB (x :: a) (y :: b) = true := by
  unfold lessB
  rw [if_neg (by omega), decide_eq_true h]
theorem lessB_same (x : Int) (a b : List Int) : lessB (x :: a) (x :: b) = lessB a b := by
  show (if x = x then lessB a b else decide (x < x)) = _
  rw [if_pos rfl]
theorem accL_sorted {f : Int → List (List Int)} (h : ∀ x, (f x).Pairwise (fun a b => lessB a b = true)) (n : Int) : ∀ i, (accL f n i).Pairwise (fun a b => lessB a b = true)
  | 0 => List.Pairwise.nil
  | i + 1 => by
    have ih := accL_sorted h n i
    unfold accL
    split
    · rw [List.pairwise_append]
      refine ⟨ih, ?_, fun a ha b hb => ?_⟩
      · rw [List.pairwise_map]
        exact (h _).imp (fun {a b} hab => by rw [lessB_same]; exact hab)
      · obtain ⟨j, hj, _, t, _, rfl⟩ := (accL_mem i).1 ha
        obtain ⟨s, _, rfl⟩ := List.mem_map.1 hb
        exact lessB_head (by omega) _ _
    · exact ih
theorem LL_sorted : ∀ (L : Nat) (n : Int), (LL L n).Pairwise (fun a b => lessB a b = true)
  | 0, n => by
    unfold LL
    split
    · exact List.pairwise_singleton _ _
    · exact List.Pairwise.nil
  | L + 1, n => by
    unfold LL
    split
    · exact List.Pairwise.nil
    · exact accL_sorted (LL_sorted L) n 3
def SV (L : Nat) (n : Int) (M : Nat) : List (List Int) := if L = 0 then LL 0 n else (LL L n).take M
theorem SV_take (L : Nat) (n d : Int) (M : Nat) : ((SV L n M).map (d :: ·)).take M = ((LL L n).map (d :: ·)).take M := by
  unfold SV
  split
  · rename_i h; subst h; rfl
  · rw [List.map_take, List.take_take, Nat.min_self]
theorem SV_mem {L : Nat} {n : Int} {M : Nat} {l : List Int} (h : l ∈ SV L n M) : l ∈ LL L n := by
  unfold SV at h
  split at h
  · rename_i h0; subst h0; exact h
  · exact List.mem_of_mem_take h
theorem rdSL_at {P : List (List Int)} {i : Nat} (h : i < P.length) : rd_L1 P (i : Int) = P[i] := by
  unfold rd_L1
  rw [Int.toNat_natCast, List.getD_eq_getElem?_getD, List.getElem?_eq_getElem h]; rfl
theorem siAll_inner (n : Int) (L0 : Int) (M : Nat) (hM : M ≤ 1000) (d : Int) (T : List (List Int)) (hT : T.length ≤ 1000000) (hr : ∀ l ∈ T, l.length ≤ 1000) {r : List (List Int)} : ∀ (e i : Nat) (X : List (List Int)), i + e = T.length →
    Ev (fun k => spec_siAll.l0 k n L0 (M : Int) (X ++ ((T.drop i).map (d :: ·)).take (M - X.length)) (wrap64 (d + 1))) r → Ev (fun k => spec_siAll.l1 k n L0 (M : Int) X d T (T.length : Int) i) r := by
  intro e
  induction e with
  | zero =>
    intro i X h hx
    rw [List.drop_of_length_le (by omega), List.map_nil, List.take_nil, List.append_nil] at hx
    refine up ?_
    simp only [spec_siAll.l1, if_neg (show ¬ (i : Int) < (T.length : Int) by omega)]
    exact hx
  | succ e ih =>
    intro i X h hx
    have hi : i < T.length := by omega
    have hl := hr _ (List.getElem_mem hi)
    rw [List.drop_eq_getElem_cons hi, List.map_cons] at hx
    refine up ?_
    simp only [spec_siAll.l1, if_pos (show (i : Int) < (T.length : Int) by omega), if_pos (show (0 : Int) ≤ (i : Int) by omega), rdSL_at hi, wid (x := (i : Int) + 1) (by omega) (by omega), Option.bind_some]
    by_cases hc : X.length < M
    · simp only [if_pos (show (X.length : Int) < (M : Int) by omega), if_pos (show ([d] : List Int).length + (T[i]).length < 17592186044416 by simp only [List.length_singleton]; omega), if_pos (show X.length < 5864062014805 by omega)]
      refine ih (i + 1) _ (by omega) ?_
      obtain ⟨m, hm⟩ : ∃ m, M - X.length = m + 1 := ⟨M - X.length - 1, by omega⟩
      rw [hm, List.take_succ_cons] at hx
      have e2 : M - (X ++ [[d] ++ T[i]]).length = m := by rw [List.length_append, List.length_singleton]; omega
      rw [e2, List.append_assoc]
      exact hx
    · simp only [if_neg (show ¬ (X.length : Int) < (M : Int) by omega)]
      refine ih (i + 1) X (by omega) ?_
      rw [show M - X.length = 0 by omega, List.take_zero] at hx ⊢
      exact hx
theorem take_step (a b : List (List Int)) (M : Nat) : a.take M ++ b.take (M - (a.take M).length) = (a ++ b).take M := by
  rw [List.take_append, List.length_take]
  congr 2
  omega
theorem accL_short (L : Nat) (n : Int) (i : Nat) (hi : i ≤ 3) (hL : L ≤ 23) : ∀ x, (LL L x).length ≤ 282429536481 := fun x => by
  have h1 := LL_len L x
  have h2 := (LV_ok L x).2.1
  have h3 := three_le (show L ≤ 24 by omega)
  omega
theorem siAll_val : ∀ (L : Nat), L ≤ 24 → ∀ (n : Int) (M : Nat), M ≤ 1000 → -1000000000000 ≤ n → n ≤ 1000000000000 → (L = 0 ∨ True) → Ev (fun k => spec_siAll.f k n (L : Int) (M : Int)) (SV L n M) := by
  intro L
  induction L with
  | zero =>
    intro _ n M hM h0 h1 _
    refine up ?_
    simp only [spec_siAll.f, if_pos (show ((0 : Nat) : Int) = 0 from rfl)]
    unfold SV
    rw [if_pos rfl]
    unfold LL
    by_cases h : n = 0
    · simp only [if_pos h]; exact Ev.now _
    · simp only [if_neg h]; exact Ev.now _
  | succ L ih =>
    intro hL n M hM h0 h1 _
    have hsh : shl .i64 1 (((L + 1 : Nat)) : Int) = 2 ^ (L + 1) := by rw [shl_small_val (by decide) (by decide) hL]; omega
    have hl1 : wrap64 (((L + 1 : Nat) : Int) - 1) = (L : Int) := by rw [wid (by omega) (by omega)]; omega
    have hno : sz n ≥ 2 ^ (L + 1) → SV (L + 1) n M = [] := fun h => by
      unfold SV
      rw [if_neg (by omega), LL, if_pos h, List.take_nil]
    refine up ?_
    simp only [spec_siAll.f, if_neg (show ¬ ((L + 1 : Nat) : Int) = 0 by omega), if_pos (show (0 : Int) ≤ ((L + 1 : Nat) : Int) by omega), hsh, wid (x := -n) (by omega) (by omega)]
    by_cases hb1 : n ≥ 2 ^ (L + 1)
    · simp only [if_pos hb1]
      rw [hno (by unfold sz; split <;> omega)]
      refine up ?_
      simp only [spec_siAll.j0, if_true]
      exact Ev.now _
    simp only [if_neg hb1]
    by_cases hb2 : -n ≥ 2 ^ (L + 1)
    · rw [hno (by unfold sz; split <;> omega)]
      refine up ?_
      simp only [spec_siAll.j0, decide_eq_true hb2, if_true]
      exact Ev.now _
    have hb : ¬ sz n ≥ 2 ^ (L + 1) := by unfold sz; split <;> omega
    refine up ?_
    simp only [spec_siAll.j0, decide_eq_false hb2, Bool.false_eq_true, if_false]
    have hSV : SV (L + 1) n M = (accL (LL L) n 3).take M := by
      unfold SV
      rw [if_neg (by omega), LL, if_neg hb]
    rw [hSV]
    have key : ∀ (e i : Nat), i + e = 3 → Ev (fun k => spec_siAll.l0 k n ((L + 1 : Nat) : Int) (M : Int) ((accL (LL L) n i).take M) ((i : Int) - 1)) ((accL (LL L) n 3).take M) := by
      intro e
      induction e with
      | zero =>
        intro i hi
        obtain rfl : i = 3 := by omega
        refine up ?_
        simp only [spec_siAll.l0, if_neg (show ¬ ((3 : Nat) : Int) - 1 ≤ 1 by omega)]
        exact Ev.now _
      | succ e ihe =>
        intro i hi
        have hnext := ihe (i + 1) (by omega)
        have hstep : accL (LL L) n (i + 1) = (if (n - ((i : Int) - 1)) % 2 = 0 then accL (LL L) n i ++ (LL L ((n - ((i : Int) - 1)) / 2)).map (((i : Int) - 1) :: ·) else accL (LL L) n i) := rfl
        have hd : ((i + 1 : Nat) : Int) - 1 = (i : Int) - 1 + 1 := by omega
        rw [hd] at hnext
        generalize hdd : (i : Int) - 1 = d at hnext hstep ⊢
        refine up ?_
        simp only [spec_siAll.l0, if_pos (show d ≤ 1 by omega), siOdd_val, Option.bind_some, wid (x := n - d) (by omega) (by omega), wid (x := d + 1) (by omega) (by omega), hl1]
        by_cases hev : (n - d) % 2 = 0
        · rw [if_pos hev] at hstep
          have ht : Int.tdiv (n - d) 2 = (n - d) / 2 := half_even hev
          have hlt : ((accL (LL L) n i).take M).length ≤ M := by rw [List.length_take]; omega
          simp only [hev, not_true_eq_false, decide_false, Bool.false_eq_true, if_false, ht, wid (x := (n - d) / 2) (by omega) (by omega), wid (x := (M : Int) - (((accL (LL L) n i).take M).length : Int)) (by omega) (by omega)]
          rw [show (M : Int) - (((accL (LL L) n i).take M).length : Int) = ((M - ((accL (LL L) n i).take M).length : Nat) : Int) by omega]
          refine Ev.bind (ih (by omega) ((n - d) / 2) (M - ((accL (LL L) n i).take M).length) (by omega) (by omega) (by omega) (Or.inr trivial)) ?_
          have hTl : (SV L ((n - d) / 2) (M - ((accL (LL L) n i).take M).length)).length ≤ 1000000 := by
            unfold SV
            split
            · unfold LL; split <;> simp
            · rw [List.length_take]; omega
          refine siAll_inner n _ M hM d _ hTl (fun l hl => by have := (LL_val L _ l (SV_mem hl)).1; omega) _ 0 _ (Nat.zero_add _) ?_
          rw [List.drop_zero, SV_take, take_step, ← hstep, wid (x := d + 1) (by omega) (by omega)]
          exact hnext
        · rw [if_neg hev] at hstep
          simp only [hev, not_false_eq_true, decide_true, if_true]
          rw [hstep] at hnext
          exact hnext
    have := key 3 0 (by omega)
    have e0 : (accL (LL L) n 0).take M = [] := by simp [accL]
    rw [e0] at this
    exact this
/-- What AllSigned answers. -/
def asV (n L : Int) : List (List Int) × Bool := if (cntV n L).2 = true ∧ (cntV n L).1 ≤ 300 then (LL L.toNat n, true) else ([], false)
theorem implAll (n L : Int) : impl_AllSigned.f n L = some (asV n L) := by
  unfold impl_AllSigned.f asV
  rw [implCount, Option.bind_some]
  split <;> rfl
theorem specAll (n L : Int) : Ev (fun k => spec_AllSigned.f k n L) (asV n L) := by
  unfold asV cntV
  by_cases h : (-1000000 ≤ n ∧ n ≤ 1000000) ∧ 0 ≤ L ∧ L ≤ 24
  · rw [if_pos h]
    simp only [spec_AllSigned.f, task_yes h, Option.bind_some, if_true]
    obtain ⟨⟨h0, h1⟩, h2, h3⟩ := h
    obtain ⟨l, rfl⟩ : ∃ l : Nat, L = (l : Int) := ⟨L.toNat, by omega⟩
    have hl : l ≤ 24 := by omega
    refine Ev.bind (siAll_val l hl n 301 (by omega) (by omega) (by omega) (Or.inr trivial)) ?_
    rw [Int.toNat_natCast]
    have hlen := LL_len l n
    by_cases h300 : (LV l n).1 ≤ 300
    · have e : SV l n 301 = LL l n := by
        unfold SV
        split
        · rename_i h0; subst h0; rfl
        · rw [List.take_of_length_le (by omega)]
      rw [e]
      simp only [true_and, if_pos h300, if_neg (show ¬ ((LL l n).length : Int) > 300 by omega)]
      exact Ev.now _
    · have e : ((SV l n 301).length : Int) > 300 := by
        unfold SV
        split
        · rename_i h0; subst h0; omega
        · rw [List.length_take]; omega
      simp only [true_and, if_neg h300, if_pos e]
      exact Ev.now _
  · rw [if_neg h]
    simp only [spec_AllSigned.f, task_no h, Option.bind_some, Bool.false_eq_true, if_false, false_and]
    exact Ev.now _
theorem eqIntS_loop (l : List Int) (hl : l.length ≤ 140737488351232) : ∀ (d : Nat) (i : Int), 0 ≤ i → i + d = l.length → Ev (fun k => laws_eqIntS.l0 k l l i) true := by
  intro d
  induction d with
  | zero =>
    intro i h0 h
    refine up ?_
    simp only [laws_eqIntS.l0, if_neg (show ¬ i < (l.length : Int) by omega)]
    exact Ev.now _
  | succ d ih =>
    intro i h0 h
    refine up ?_
    simp only [laws_eqIntS.l0, if_pos (show i < (l.length : Int) by omega), if_pos h0, if_true, wid (x := i + 1) (by omega) (by omega)]
    exact ih (i + 1) (by omega) (by omega)
theorem eqIntS_same (l : List Int) (hl : l.length ≤ 140737488351232) : Ev (fun k => laws_eqIntS.f k l l) true := by
  simp only [laws_eqIntS.f, if_true]
  exact eqIntS_loop l hl l.length 0 (by omega) (by omega)
def marks : Int → Nat → List Int
  | _, 0 => []
  | a, n + 1 => a :: marks (a + 1) n
theorem mark_loop : ∀ (rest done : List Int) (a : Int), done.length + rest.length ≤ 140737488351232 → 0 ≤ a → a ≤ 140737488351232 →
    Ev (fun k => laws_markIntS.l0 k (done ++ rest) (a + done.length) done.length) (a + done.length + rest.length, done ++ marks (a + done.length) rest.length) := by
  intro rest
  induction rest with
  | nil =>
    intro done a h h0 h1
    refine up ?_
    simp only [laws_markIntS.l0, List.append_nil, if_neg (show ¬ (done.length : Int) < (done.length : Int) by omega), List.length_nil, marks]
    exact ⟨0, fun _ _ => by simp⟩
  | cons x rest ih =>
    intro done a h h0 h1
    simp only [List.length_cons] at h
    refine up ?_
    have e : (done ++ x :: rest).set ((done.length : Int)).toNat (a + done.length) = (done ++ [a + done.length]) ++ rest := by
      rw [Int.toNat_natCast, List.set_append_right _ _ (Nat.le_refl _)]; simp
    simp only [laws_markIntS.l0, if_pos (show (done.length : Int) < ((done ++ x :: rest).length : Int) by simp; omega), if_pos (show (0 : Int) ≤ (done.length : Int) by omega), e, wid (x := a + done.length + 1) (by omega) (by omega), wid (x := (done.length : Int) + 1) (by omega) (by omega)]
    have := ih (done ++ [a + done.length]) a (by simp; omega) h0 h1
    simp only [List.length_append, List.length_singleton, List.append_assoc, List.singleton_append, Int.natCast_add, Int.natCast_one] at this
    simp only [List.append_assoc, List.singleton_append, List.length_cons, marks, Int.natCast_add, Int.natCast_one]
    rw [show a + (done.length : Int) + ((rest.length : Int) + 1) = a + ((done.length : Int) + 1) + rest.length by omega, show a + (done.length : Int) + 1 = a + ((done.length : Int) + 1) by omega]
    exact this
theorem mark_all (l : List Int) (hl : l.length ≤ 140737488351232) : Ev (fun k => laws_markIntS.f k l 1) (1 + l.length, marks 1 l.length) := by
  have := mark_loop l [] 1 (by simpa using hl) (by omega) (by omega)
  simpa [laws_markIntS.f] using this
theorem marks_length (a : Int) (n : Nat) : (marks a n).length = n := by
  induction n generalizing a with
  | zero => rfl
  | succ n ih => simp [marks, ih]
theorem held_loop : ∀ (n : Nat) (done : List Int) (a : Int), done.length + n ≤ 140737488351232 → 0 ≤ a → a ≤ 140737488351232 →
    Ev (fun k => laws_heldIntS.l0 k (done ++ marks (a + done.length) n) (a + done.length) done.length) (a + done.length + n) := by
  intro n
  induction n with
  | zero =>
    intro done a h h0 h1
    refine up ?_
    simp only [laws_heldIntS.l0, marks, List.append_nil, if_neg (show ¬ (done.length : Int) < (done.length : Int) by omega)]
    exact ⟨0, fun _ _ => by simp⟩
  | succ n ih =>
    intro done a h h0 h1
    refine up ?_
    have e : rd (done ++ marks (a + done.length) (n + 1)) (done.length : Int) = a + done.length := by
      unfold rd; rw [Int.toNat_natCast]; simp [marks]
    simp only [laws_heldIntS.l0, if_pos (show (done.length : Int) < ((done ++ marks (a + done.length) (n + 1)).length : Int) by simp [marks_length]; omega), if_pos (show (0 : Int) ≤ (done.length : Int) by omega), e, if_true, wid (x := a + done.length + 1) (by omega) (by omega), wid (x := (done.length : Int) + 1) (by omega) (by omega)]
    have := ih (done ++ [a + done.length]) a (by simp; omega) h0 h1
    simp only [List.length_append, List.length_singleton, List.append_assoc, List.singleton_append, Int.natCast_add, Int.natCast_one] at this
    simp only [marks, Int.natCast_add, Int.natCast_one]
    rw [show a + (done.length : Int) + ((n : Int) + 1) = a + ((done.length : Int) + 1) + n by omega, show a + (done.length : Int) + 1 = a + ((done.length : Int) + 1) by omega]
    exact this
theorem held_all (n : Nat) (hl : n ≤ 140737488351232) : Ev (fun k => laws_heldIntS.f k (marks 1 n) 1) (1 + n) := by
  have := held_loop n [] 1 (by simpa using hl) (by omega) (by omega)
  simpa [laws_heldIntS.f] using this
theorem eqSS_loop (E : List (List Int)) (hE : E.length ≤ 1000000) (hr : ∀ l ∈ E, l.length ≤ 1000) : ∀ (d i : Nat), i + d = E.length → Ev (fun k => laws_eqIntSS.l0 k E E (i : Int)) true := by
  intro d
  induction d with
  | zero =>
    intro i h
    refine up ?_
    simp only [laws_eqIntSS.l0, if_neg (show ¬ (i : Int) < (E.length : Int) by omega)]
    exact Ev.now _
  | succ d ih =>
    intro i h
    have hi : i < E.length := by omega
    have := hr _ (List.getElem_mem hi)
    refine up ?_
    simp only [laws_eqIntSS.l0, if_pos (show (i : Int) < (E.length : Int) by omega), if_pos (show (0 : Int) ≤ (i : Int) by omega), rdSL_at hi, wid (x := (i : Int) + 1) (by omega) (by omega)]
    refine Ev.bind (eqIntS_same E[i] (by omega)) ?_
    simp only [if_true]
    exact ih (i + 1) (by omega)
theorem eqSS_same (E : List (List Int)) (hE : E.length ≤ 1000000) (hr : ∀ l ∈ E, l.length ≤ 1000) : Ev (fun k => laws_eqIntSS.f k E E) true := by
  simp only [laws_eqIntSS.f, if_true]
  exact eqSS_loop E hE hr E.length 0 (by omega)
def endSS : List (List Int) → Int → Int
  | [], a => a
  | l :: r, a => endSS r (a + l.length)
def marksSS : List (List Int) → Int → List (List Int)
  | [], _ => []
  | l :: r, a => marks a l.length :: marksSS r (a + l.length)
theorem marksSS_length : ∀ (E : List (List Int)) (a : Int), (marksSS E a).length = E.length
  | [], _ => rfl
  | l :: r, a => by rw [marksSS, List.length_cons, marksSS_length r, List.length_cons]
theorem endSS_ge : ∀ (E : List (List Int)) (a : Int), a ≤ endSS E a
  | [], _ => Int.le_refl _
  | l :: r, a => by have := endSS_ge r (a + l.length); rw [endSS]; omega
theorem marks_len (a : Int) (n : Nat) : (marks a n).length = n := by
  induction n generalizing a with
  | zero => rfl
  | succ n ih => simp [marks, ih]
theorem markSS_val : ∀ (E : List (List Int)) (a : Int), (∀ l ∈ E, l.length ≤ 1000) → E.length ≤ 1000 → 0 ≤ a → a + 1000 * E.length ≤ 10000000 → Ev (fun k => laws_markIntSS.f k E a) (endSS E a, marksSS E a)
  | [], a, _, _, _, _ => by
    simp only [laws_markIntSS.f]
    exact Ev.now _
  | l :: r, a, hr, hE, h0, h1 => by
    have hl := hr l List.mem_cons_self
    simp only [List.length_cons] at hE h1
    simp only [laws_markIntSS.f]
    have hm : Ev (fun k => laws_markIntS.f k l a) (a + l.length, marks a l.length) := by
      have := mark_loop l [] a (by simp; omega) h0 (by omega)
      simpa [laws_markIntS.f] using this
    refine Ev.bind hm ?_
    refine Ev.bind (markSS_val r (a + l.length) (fun x hx => hr x (List.mem_cons_of_mem _ hx)) (by omega) (by omega) (by omega)) ?_
    exact Ev.now _
theorem heldSS_loop (E : List (List Int)) (hr : ∀ l ∈ E, l.length ≤ 1000) (hE : E.length ≤ 1000) : ∀ (d i : Nat) (a : Int) (done : List (List Int)), i + d = E.length → done.length = i → 0 ≤ a → a + 1000 * d ≤ 10000000 → Ev (fun k => laws_heldIntSS.l0 k (done ++ marksSS (E.drop i) a) a (i : Int)) (endSS (E.drop i) a) := by
  intro d
  induction d with
  | zero =>
    intro i a done h hd h0 h1
    rw [List.drop_of_length_le (by omega)]
    refine up ?_
    simp only [laws_heldIntSS.l0, marksSS, List.append_nil, if_neg (show ¬ (i : Int) < (done.length : Int) by omega)]
    exact Ev.now _
  | succ d ih =>
    intro i a done h hd h0 h1
    have hi : i < E.length := by omega
    have hl := hr _ (List.getElem_mem hi)
    rw [List.drop_eq_getElem_cons hi, marksSS, endSS]
    have hlen : (done ++ marks a (E[i]).length :: marksSS (E.drop (i + 1)) (a + (E[i]).length)).length = E.length := by
      rw [List.length_append, List.length_cons, marksSS_length, List.length_drop]; omega
    have hget : rd_L1 (done ++ marks a (E[i]).length :: marksSS (E.drop (i + 1)) (a + (E[i]).length)) (i : Int) = marks a (E[i]).length := by
      rw [rdSL_at (by omega), List.getElem_append_right (by omega)]
      simp [hd]
    have hh : Ev (fun k => laws_heldIntS.f k (marks a (E[i]).length) a) (a + (E[i]).length) := by
      have := held_loop (E[i]).length [] a (by simp; omega) h0 (by omega)
      simpa [laws_heldIntS.f] using this
    refine up ?_
    simp only [laws_heldIntSS.l0, hlen, if_pos (show (i : Int) < (E.length : Int) by omega), if_pos (show (0 : Int) ≤ (i : Int) by omega), hget, wid (x := (i : Int) + 1) (by omega) (by omega)]
    refine Ev.bind hh ?_
    simp only [if_neg (show ¬ a + ((E[i]).length : Int) < 0 by omega)]
    have := ih (i + 1) (a + (E[i]).length) (done ++ [marks a (E[i]).length]) (by omega) (by rw [List.length_append, List.length_singleton]; omega) (by omega) (by omega)
    rw [List.append_assoc, List.singleton_append] at this
    exact this
theorem main : laws_FnExactAllSigned.Pure := by
  intro n L _ _
  refine Ev.rounds ?_
  simp only [laws_FnExactAllSigned.f, implAll, Option.bind_some]
  refine Ev.bind (specAll n L) ?_
  have hA : (∀ l ∈ (asV n L).1, l.length ≤ 1000) ∧ (asV n L).1.length ≤ 1000 := by
    unfold asV cntV
    by_cases h : (-1000000 ≤ n ∧ n ≤ 1000000) ∧ 0 ≤ L ∧ L ≤ 24
    · rw [if_pos h]
      by_cases h3 : (LV L.toNat n).1 ≤ 300
      · rw [if_pos ⟨rfl, h3⟩]
        refine ⟨fun l hl => ?_, ?_⟩
        · have := (LL_val L.toNat n l hl).1; omega
        · have := LL_len L.toNat n
          show (LL L.toNat n).length ≤ 1000
          omega
      · rw [if_neg (fun h => h3 h.2)]
        exact ⟨fun l hl => (by cases hl), by simp⟩
    · rw [if_neg h, if_neg (fun h => by cases h.1)]
      exact ⟨fun l hl => (by cases hl), by simp⟩
  generalize asV n L = V at hA ⊢
  obtain ⟨E, b⟩ := V
  dsimp only at hA ⊢
  simp only [true_and, if_pos hA.2]
  refine Ev.bind (eqSS_same E (by omega) hA.1) ?_
  refine Ev.bind (markSS_val E 1 hA.1 hA.2 (by omega) (by omega)) ?_
  have hh := heldSS_loop E hA.1 hA.2 E.length 0 1 [] (by omega) rfl (by omega) (by omega)
  rw [List.drop_zero, List.nil_append] at hh
  refine Ev.bind (show Ev (fun k => laws_heldIntSS.f k (marksSS E 1) 1) (endSS E 1) from hh) ?_
  have := endSS_ge E 1
  simp only [true_and, if_pos (show 0 ≤ endSS E 1 by omega)]
  exact Ev.now _
end Go.Proofs.Ytldbcglgfabopaa.PureFnExactAllSignedL
namespace Go.Proofs.Ytldbcglgfabopaa.Pure
open Go.Proofs.Ytldbcglgfabopaa.PFnExactAllSigned
theorem FnExactAllSigned : laws_FnExactAllSigned.Pure := PureFnExactAllSignedL.main
end Go.Proofs.Ytldbcglgfabopaa.Pure
