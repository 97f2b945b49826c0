/- The program's LucasPlanCosts returns what the reference's LucasPlanCosts returns, for all arguments of the type int; nothing else is asked of the argument. -/
import Derived.Test.YtoiamgeaieefmaaPFnExactLucasPlanCostsx1
import Derived.Test.YtoiamgeaieefmaaPFnExactLucasPlanCostsx2
import Derived.Test.YtoiamgeaieefmaaPFnExactLucasPlanCostsx3
import Derived.Test.YtoiamgeaieefmaaPFnExactLucasPlanCostsx4
import Derived.Test.YtoiamgeaieefmaaPFnExactLucasPlanCostsx5
set_option linter.unusedVariables false
set_option linter.unusedSimpArgs false
namespace Go.Proofs.Ytoiamgeaieefmaa.PureFnExactLucasPlanCostsL
open Go.RowKit Go.Proofs.Ytoiamgeaieefmaa.PFnExactLucasPlanCosts Go.Proofs.YtoiamgeaieefmaaW.PrintWords Go.Proofs.YtoiamgeaieefmaaW.PrintLast Go.Proofs.YtoiamgeaieefmaaW.PrintMore
theorem up {α : Type} {g : Nat → Option α} {r : α} (h : Ev (fun k => g (k + 1)) r) : Ev g r := by
  obtain ⟨K, h⟩ := h
  refine ⟨K + 1, fun k hk => ?_⟩
  obtain ⟨m, rfl⟩ : ∃ m, k = m + 1 := ⟨k - 1, by omega⟩
  exact h m (by omega)
theorem wid {x : Int} (h0 : -9223372036854775808 ≤ x) (h1 : x ≤ 9223372036854775807) : wrap64 x = x := by unfold wrap64; omega
theorem ite_yes {α : Type} {c : Prop} [Decidable c] {a b : α} (h : c) : (if c then a else b) = a := if_pos h
theorem ite_no {α : Type} {c : Prop} [Decidable c] {a b : α} (h : ¬ c) : (if c then a else b) = b := if_neg h
theorem evsome {α β : Type} {x : Option α} {a : α} {f : Nat → α → Option β} {r : β} (hx : x = some a) (h : Ev (fun k => f k a) r) : Ev (fun k => x.bind (f k)) r := by subst hx; exact h
theorem if_pos_ev {α : Type} {c : Prop} [Decidable c] {f g : Nat → Option α} (h : c) : (fun k => if c then f k else g k) = f := funext fun k => if_pos h
theorem if_neg_ev {α : Type} {c : Prop} [Decidable c] {f g : Nat → Option α} (h : ¬ c) : (fun k => if c then f k else g k) = g := funext fun k => if_neg h
theorem rd_at {l : List Int} {i : Nat} (h : i < l.length) : rd l (i : Int) = l[i] := by
  unfold rd
  rw [Int.toNat_natCast, List.getD_eq_getElem?_getD, List.getElem?_eq_getElem h]; rfl
/-- A number put into a list in order. -/
def putB : List Int → Int → List Int
  | [], x => [x]
  | y :: l, x => if y < x then y :: putB l x else if y = x then y :: l else x :: y :: l
theorem putB_mem (x z : Int) : ∀ l, z ∈ putB l x ↔ z = x ∨ z ∈ l
  | [] => by simp [putB]
  | y :: l => by
    have ih := putB_mem x z l
    unfold putB
    split
    · rw [List.mem_cons, ih, List.mem_cons]
      constructor
      · rintro (h | h | h)
        · exact .inr (.inl h)
        · exact .inl h
        · exact .inr (.inr h)
      · rintro (h | h | h)
        · exact .inr (.inl h)
        · exact .inl h
        · exact .inr (.inr h)
    · split
      · rename_i e
        constructor
        · exact .inr
        · rintro (rfl | h)
          · rw [e]; exact List.mem_cons_self
          · exact h
      · rw [List.mem_cons]
theorem putB_sorted (x : Int) : ∀ l, l.Pairwise (· < ·) → (putB l x).Pairwise (· < ·)
  | [], _ => by simp [putB]
  | y :: l, h => by
    rw [List.pairwise_cons] at h
    unfold putB
    split
    · rename_i hlt
      rw [List.pairwise_cons]
      refine ⟨fun z hz => ?_, putB_sorted x l h.2⟩
      rcases (putB_mem x z l).1 hz with rfl | hz
      · exact hlt
      · exact h.1 z hz
    · split
      · exact List.pairwise_cons.2 h
      · rw [List.pairwise_cons]
        refine ⟨fun z hz => ?_, List.pairwise_cons.2 h⟩
        rcases List.mem_cons.1 hz with rfl | hz
        · omega
        · have := h.1 z hz; omega
theorem putB_len (x : Int) : ∀ l, (putB l x).length ≤ l.length + 1
  | [] => by simp [putB]
  | y :: l => by
    have := putB_len x l
    unfold putB
    split
    · simp only [List.length_cons]; omega
    · split <;> simp only [List.length_cons] <;> omega
theorem put_loop (x : Int) (l : List Int) (hl : l.length ≤ 1000000) : ∀ (d i : Nat), i + d = l.length → Ev (fun q => spec_l1Put.l0 q l x i) (l.take i ++ putB (l.drop i) x) := by
  intro d
  induction d with
  | zero =>
    intro i h
    have e : i = l.length := by omega
    subst e
    refine up ?_
    simp only [spec_l1Put.l0, if_neg (show ¬ (l.length : Int) < (l.length : Int) by omega), Option.bind_some, if_pos (show (0 : Int) ≤ (l.length : Int) by omega), if_pos (show (l.length : Int) ≤ (l.length : Int) by omega), Int.toNat_natCast, List.take_length, List.drop_length, List.length_nil, List.nil_append, List.length_append, List.length_singleton, List.append_nil, putB, Nat.zero_add, Nat.add_zero, if_pos (show l.length < 17592186044416 by omega), if_pos (show l.length + 1 < 17592186044416 by omega)]
    exact Ev.now _
  | succ d ih =>
    intro i h
    have hi : i < l.length := by omega
    refine up ?_
    simp only [spec_l1Put.l0, if_pos (show (i : Int) < (l.length : Int) by omega), if_pos (show (0 : Int) ≤ (i : Int) by omega), rd_at hi, wid (x := (i : Int) + 1) (by omega) (by omega)]
    rw [List.drop_eq_getElem_cons hi]
    unfold putB
    by_cases h1 : l[i] < x
    · rw [if_pos_ev h1, if_pos h1]
      have ih := ih (i + 1) (by omega)
      rw [List.take_succ_eq_append_getElem hi, List.append_assoc, List.singleton_append] at ih
      exact ih
    · rw [if_neg_ev h1, if_neg h1]
      by_cases h2 : l[i] = x
      · rw [if_pos_ev h2, if_pos h2, ← List.drop_eq_getElem_cons hi, List.take_append_drop]; exact Ev.now _
      · rw [if_neg_ev h2, if_neg h2, ← List.drop_eq_getElem_cons hi]
        have ht : (l.take i).length = i := by rw [List.length_take]; omega
        simp only [Option.bind_some, if_pos (show (i : Int) ≤ (l.length : Int) by omega), Int.toNat_natCast, List.length_nil, List.nil_append, List.length_append, List.length_singleton, ht, List.length_drop, Nat.zero_add, if_pos (show i < 17592186044416 by omega), if_pos (show i + 1 + (l.length - i) < 17592186044416 by omega), List.append_assoc, List.singleton_append]
        exact Ev.now _
theorem put_val (x : Int) (l : List Int) (hl : l.length ≤ 1000000) : Ev (fun q => spec_l1Put.f q l x) (putB l x) := by
  have := put_loop x l hl l.length 0 (by omega)
  simpa [spec_l1Put.f] using this
theorem bl_bounds : ∀ (f x : Nat), x < 2 ^ f → x < 2 ^ (Go.Lib.bitLenAux f x) ∧ (x ≠ 0 → 1 ≤ Go.Lib.bitLenAux f x ∧ 2 ^ (Go.Lib.bitLenAux f x - 1) ≤ x)
  | 0, x, h => by simp at h; subst h; simp [Go.Lib.bitLenAux]
  | f + 1, x, h => by
    unfold Go.Lib.bitLenAux
    by_cases h0 : x = 0
    · simp [h0]
    · rw [if_neg h0]
      have ih := bl_bounds f (x / 2) (by rw [Nat.pow_succ] at h; omega)
      refine ⟨?_, fun _ => ⟨by omega, ?_⟩⟩
      · rw [Nat.add_comm, Nat.pow_succ]; omega
      · by_cases h1 : x / 2 = 0
        · have : x = 1 := by omega
          subst this
          rw [h1]
          cases f <;> simp [Go.Lib.bitLenAux]
        · have := ih.2 h1
          have e : 1 + Go.Lib.bitLenAux f (x / 2) - 1 = (Go.Lib.bitLenAux f (x / 2) - 1) + 1 := by omega
          rw [e, Nat.pow_succ]; omega
def bl (n : Nat) : Nat := Go.Lib.bitLen n
theorem bl_lt {n : Nat} (h : n < 2 ^ 64) : n < 2 ^ bl n := (bl_bounds 64 n h).1
theorem bl_ge {n i : Nat} (h : n < 2 ^ 64) (hi : i < bl n) : 2 ^ i ≤ n := by
  by_cases h0 : n = 0
  · subst h0; have e : bl 0 = 0 := by decide
    omega
  · have := (bl_bounds 64 n h).2 h0
    have e : bl n = Go.Lib.bitLenAux 64 n := rfl
    exact Nat.le_trans (Nat.pow_le_pow_right (by omega) (by omega)) this.2
theorem bl_small {n : Nat} (h : n ≤ 1000000) : bl n ≤ 20 := by
  rcases Nat.lt_or_ge 20 (bl n) with h1 | h1
  · have := bl_ge (n := n) (i := 20) (by omega) h1; omega
  · exact h1
theorem shr_nat (n i : Nat) (hi : i ≤ 64) : shr .i64 (n : Int) (i : Int) = ((n / 2 ^ i : Nat) : Int) := by
  unfold shr
  rw [Int.toNat_natCast, Nat.min_eq_left (by simpa [IntKind.bits] using hi)]
  simp
theorem wrapu {n : Int} (h0 : 0 ≤ n) (h1 : n ≤ 1000000000000) : IntKind.u64.wrap n = n := by
  simp only [IntKind.wrap, IntKind.bits, IntKind.signed, Bool.false_eq_true, false_and, if_false]
  simp
  omega
theorem wrap62 (n : Int) (h0 : 0 ≤ n) (h1 : n < 2 ^ 62) : IntKind.i64.wrap n = n := by
  have e : (2 : Int) ^ 62 = 4611686018427387904 := by decide
  simp only [IntKind.wrap, IntKind.bits, IntKind.signed]
  simp
  omega
theorem bit_and (q : Nat) (h : q ≤ 1000000) : (Go.bits .and .i64 (q : Int) 1 = 1) ↔ q % 2 = 1 := by
  have e : (2 : Int) ^ 62 = 4611686018427387904 := by decide
  have hb : Go.bits .and .i64 (q : Int) ((2 : Int) ^ 1 - 1) = (q : Int) % 2 ^ 1 := bits_mask .i64 62 (by decide) wrap62 1 (by decide) (q : Int) (by omega) (by omega)
  have e1 : (2 : Int) ^ 1 - 1 = 1 := by decide
  have e2 : (2 : Int) ^ 1 = 2 := by decide
  rw [e1, e2] at hb
  rw [hb]; omega
theorem bit_mod (q : Nat) : (Int.tmod (q : Int) 2 = 1) ↔ q % 2 = 1 := by
  rw [Int.tmod_eq_emod_of_nonneg (by omega)]; omega
theorem half_step (n i : Nat) : n / 2 ^ i = 2 * (n / 2 ^ (i + 1)) + (n / 2 ^ i) % 2 := by
  have : n / 2 ^ (i + 1) = (n / 2 ^ i) / 2 := by rw [Nat.pow_succ, Nat.div_div_eq_div_mul]
  rw [this]; omega
theorem chLength_loop {n : Nat} (h : n ≤ 1000000) : ∀ (d i : Nat), i + d = bl n → Ev (fun k => spec_chLength.l0 k n i) (bl n : Int) := by
  have hs := bl_small h
  intro d
  induction d with
  | zero =>
    intro i hi
    have hlt := bl_lt (n := n) (by omega)
    have e : n / 2 ^ i = 0 := Nat.div_eq_of_lt (by rw [show i = bl n by omega]; exact hlt)
    refine up ?_
    simp only [spec_chLength.l0, if_pos (show (0 : Int) ≤ (i : Int) by omega), shr_nat n i (by omega), e, if_neg (show ¬ ((0 : Nat) : Int) > 0 by omega)]
    rw [show i = bl n by omega]
    exact Ev.now _
  | succ d ih =>
    intro i hi
    have hge := bl_ge (n := n) (i := i) (by omega) (by omega)
    have e : 0 < n / 2 ^ i := Nat.div_pos hge (Nat.pow_pos (by omega))
    refine up ?_
    simp only [spec_chLength.l0, if_pos (show (0 : Int) ≤ (i : Int) by omega), shr_nat n i (by omega), if_pos (show ((n / 2 ^ i : Nat) : Int) > 0 by omega), wid (x := (i : Int) + 1) (by omega) (by omega)]
    exact ih (i + 1) (by omega)
theorem chLength_val {n : Nat} (h : n ≤ 1000000) : Ev (fun k => spec_chLength.f k n) (bl n : Int) := chLength_loop h (bl n) 0 (by omega)
theorem bitsLen_val {n : Nat} (h : n ≤ 1000000) : bits_Len.f (IntKind.u64.wrap (n : Int)) = some (bl n : Int) := by
  rw [wrapu (by omega) (by omega)]
  unfold bits_Len.f
  rw [if_pos (by omega), Int.toNat_natCast]; rfl
/-- The beginnings of a number in binary, from the i-th on. -/
def begins (n : Nat) : Nat → List Int
  | 0 => []
  | i + 1 => ((n / 2 ^ i : Nat) : Int) :: begins n i
theorem begins_length (n : Nat) : ∀ i, (begins n i).length = i
  | 0 => rfl
  | i + 1 => by simp [begins, begins_length n i]
theorem specOf_loop {n : Nat} : ∀ (i : Nat) (acc : List Int), i ≤ 64 → acc.length + i ≤ 1000 → Ev (fun k => spec_luOf.l0 k n acc ((i : Int) - 1)) (acc ++ begins n i) := by
  intro i
  induction i with
  | zero =>
    intro acc _ _
    refine up ?_
    simp only [spec_luOf.l0, if_neg (show ¬ ((0 : Nat) : Int) - 1 ≥ 0 by omega), begins, List.append_nil]
    exact Ev.now _
  | succ i ih =>
    intro acc hi ha
    refine up ?_
    simp only [spec_luOf.l0, show ((i + 1 : Nat) : Int) - 1 = (i : Int) by omega, if_pos (show (i : Int) ≥ 0 by omega), if_pos (show (0 : Int) ≤ (i : Int) by omega), if_pos (show acc.length < 17592186044416 by omega), shr_nat n i (by omega), wid (x := (i : Int) - 1) (by omega) (by omega)]
    have := ih (acc ++ [((n / 2 ^ i : Nat) : Int)]) (by omega) (by simp; omega)
    simpa [begins] using this
theorem implOf_loop {n : Nat} : ∀ (i : Nat) (acc : List Int), i ≤ 64 → acc.length + i ≤ 1000 → Ev (fun k => impl_ladderOf.l0 k n acc ((i : Int) - 1)) (acc ++ begins n i) := by
  intro i
  induction i with
  | zero =>
    intro acc _ _
    refine up ?_
    simp only [impl_ladderOf.l0, if_neg (show ¬ ((0 : Nat) : Int) - 1 ≥ 0 by omega), begins, List.append_nil]
    exact Ev.now _
  | succ i ih =>
    intro acc hi ha
    refine up ?_
    simp only [impl_ladderOf.l0, show ((i + 1 : Nat) : Int) - 1 = (i : Int) by omega, if_pos (show (i : Int) ≥ 0 by omega), if_pos (show (0 : Int) ≤ (i : Int) by omega), if_pos (show acc.length < 17592186044416 by omega), shr_nat n i (by omega), wid (x := (i : Int) - 1) (by omega) (by omega)]
    have := ih (acc ++ [((n / 2 ^ i : Nat) : Int)]) (by omega) (by simp; omega)
    simpa [begins] using this
theorem specOf {n : Nat} (hn : n ≤ 1000000) : Ev (fun k => spec_luOf.f k n) (begins n (bl n)) := by
  have hs := bl_small hn
  simp only [spec_luOf.f]
  refine Ev.bind (chLength_val hn) ?_
  have h := specOf_loop (n := n) (bl n) [] (by omega) (by simp; omega)
  simpa [wid (x := (bl n : Int) - 1) (by omega) (by omega)] using h
theorem implOf {n : Nat} (hn : n ≤ 1000000) : Ev (fun k => impl_ladderOf.f k n) (begins n (bl n)) := by
  have hs := bl_small hn
  simp only [impl_ladderOf.f, bitsLen_val hn, Option.bind_some]
  have h := implOf_loop (n := n) (bl n) [] (by omega) (by simp; omega)
  simpa [wid (x := (bl n : Int) - 1) (by omega) (by omega)] using h
theorem l1In_val (x a b : Int) : spec_l1In.f x a b = some (decide (a ≤ x) && decide (x ≤ b)) := by
  unfold spec_l1In.f
  by_cases h : a ≤ x
  · rw [if_pos h]; simp [h]
  · rw [if_neg h]; simp [h]
theorem begins_range (n : Nat) : ∀ i, ∀ k ∈ begins n i, 0 ≤ k ∧ k ≤ n
  | 0, k, h => by simp [begins] at h
  | i + 1, k, h => by
    unfold begins at h
    rcases List.mem_cons.1 h with rfl | h
    · have := Nat.div_le_self n (2 ^ i)
      exact ⟨Int.natCast_nonneg _, Int.ofNat_le.2 this⟩
    · exact begins_range n i k h
theorem sCh_loop {n : Nat} (hn : n ≤ 1000000) (L : List Int) (hL : ∀ k ∈ L, 0 ≤ k ∧ k ≤ n) (hl : L.length ≤ 1000) : ∀ (d i : Nat) (out : List Int), i + d = L.length → out.length ≤ 2 * i + 1 → out.Pairwise (· < ·) → (∀ x, x ∈ out ↔ x ∈ lcRaw n (L.take i)) → Ev (fun q => spec_luChain.l0 q n out L (L.length : Int) i) (YtoiamgeaieefmaaInc.incOf (lcRaw n L)) := by
  intro d
  induction d with
  | zero =>
    intro i out h _ hs hm
    refine up ?_
    simp only [spec_luChain.l0, if_neg (show ¬ (i : Int) < (L.length : Int) by omega)]
    rw [List.take_of_length_le (by omega)] at hm
    rw [YtoiamgeaieefmaaInc.inc_unique hs hm]
    exact Ev.now _
  | succ d ih =>
    intro i out h ho hs hm
    have hi : i < L.length := by omega
    obtain ⟨k0, k1⟩ := hL L[i] (List.getElem_mem hi)
    have hst : lcRaw n (L.take (i + 1)) = lcRaw n (L.take i) ++ (if L[i] = (n : Int) then [] else [L[i], wrap64 (L[i] + 1)]) := by
      rw [List.take_succ_eq_append_getElem hi, lcRaw_snoc]
    refine up ?_
    simp only [spec_luChain.l0, if_pos (show (i : Int) < (L.length : Int) by omega), if_pos (show (0 : Int) ≤ (i : Int) by omega), rd_at hi, wid (x := (i : Int) + 1) (by omega) (by omega), wid (x := L[i] + 1) (by omega) (by omega)]
    by_cases e : L[i] = (n : Int)
    · rw [if_pos_ev e]
      rw [if_pos e, List.append_nil] at hst
      exact ih (i + 1) out (by omega) (by omega) hs (by rw [hst]; exact hm)
    · rw [if_neg_ev e]
      rw [if_neg e, wid (x := L[i] + 1) (by omega) (by omega)] at hst
      have l1 := putB_len L[i] out
      have l2 := putB_len (L[i] + 1) (putB out L[i])
      refine Ev.bind (put_val _ out (by omega)) ?_
      refine Ev.bind (put_val _ _ (by omega)) ?_
      refine ih (i + 1) _ (by omega) (by omega) (putB_sorted _ _ (putB_sorted _ _ hs)) fun x => ?_
      rw [putB_mem, putB_mem, hm, hst, List.mem_append]
      simp only [List.mem_cons, List.not_mem_nil, or_false]
      constructor
      · rintro (h | h | h)
        · exact .inr (.inr h)
        · exact .inr (.inl h)
        · exact .inl h
      · rintro (h | h | h)
        · exact .inr (.inr h)
        · exact .inr (.inl h)
        · exact .inl h
def lcOf (n : Nat) : List Int := YtoiamgeaieefmaaInc.incOf (lcRaw n (begins n (bl n)))
theorem lcOf_len {n : Nat} (hn : n ≤ 1000000) : (lcOf n).length ≤ 41 := by
  have h1 := YtoiamgeaieefmaaInc.inc_length (lcRaw n (begins n (bl n)))
  have h2 := lcRaw_len n (begins n (bl n))
  rw [begins_length] at h2
  have := bl_small hn
  unfold lcOf; omega
theorem specLc {n : Nat} (hn : n ≤ 1000000) : Ev (fun q => spec_luChain.f q n) (lcOf n) := by
  have hs := bl_small hn
  simp only [spec_luChain.f]
  refine Ev.bind (specOf hn) ?_
  exact sCh_loop hn _ (begins_range n _) (by rw [begins_length]; omega) (begins n (bl n)).length 0 [(n : Int)] (by omega) (by simp) (by simp) (by rw [List.take_zero, lcRaw_nil]; exact fun _ => Iff.rfl)
theorem implLc {n : Nat} (hn : n ≤ 1000000) : Ev (fun q => impl_ladderChain.f q n) (lcOf n) := by
  have hs := bl_small hn
  simp only [impl_ladderChain.f]
  refine Ev.bind (implOf hn) ?_
  rw [if_pos_ev (by rw [begins_length]; omega)]
  exact Ev.now _
def allIn (a b : Int) (l : List Int) : Bool := l.all fun d => decide (a ≤ d) && decide (d ≤ b)
theorem l1Least_val (a b : Int) : spec_l1Least.f a b = some (min a b) := by
  unfold spec_l1Least.f
  split
  · rw [Int.min_eq_left (by omega)]
  · rw [Int.min_eq_right (by omega)]
/-! Plans: the reference's test is the program's. -/
theorem rdPlan_at {T : List S79} {i : Nat} (h : i < T.length) : rd_T79 T (i : Int) = T[i] := by
  unfold rd_T79
  rw [Int.toNat_natCast, List.getD_eq_getElem?_getD, List.getElem?_eq_getElem h]; rfl
def rowOk (n : Nat) (r : List Int) : Prop := r.length = n ∧ ∀ x ∈ r, 0 ≤ x ∧ x ≤ 1000001
theorem exGood_at {n : Nat} {P : List (List Int)} (h : exGood n P) {x : Int} (h0 : 0 ≤ x) (h1 : x < (P.length : Int)) : rowOk n (P.getD x.toNat []) := by
  rw [List.getD_eq_getElem?_getD, List.getElem?_eq_getElem (show x.toNat < P.length by omega)]
  exact h _ (List.getElem_mem _)
theorem exRow_ok {n : Nat} {a b : List Int} (ha : rowOk n a) (hb : rowOk n b) : rowOk n (exRow a b) := exRow_good ha hb
theorem stepsB_head {inp : Int} {s : S79} {r : List S79} {i : Nat} (h : stepsB inp (s :: r) i = true) : (0 ≤ s.f0 ∧ s.f0 ≤ s.f1 ∧ s.f1 < inp + i) ∧ stepsB inp r (i + 1) = true := by
  rw [stepsB_cons, Bool.and_eq_true] at h
  have hs := h.1
  unfold stepB at hs
  rw [Bool.and_eq_true, Bool.and_eq_true, decide_eq_true_iff, decide_eq_true_iff, decide_eq_true_iff] at hs
  exact ⟨hs, h.2⟩
theorem exLoop_len : ∀ (r : List S79) (P : List (List Int)), (exLoop r P).length = P.length + r.length
  | [], P => rfl
  | s :: r, P => by
    show (exLoop r (P ++ _)).length = _
    rw [exLoop_len r]; simp only [List.length_append, List.length_cons, List.length_nil]; omega
theorem exLoop_good {n : Nat} : ∀ (r : List S79) (P : List (List Int)) (j : Nat), P.length = n + j → exGood n P → stepsB (n : Int) r j = true → exGood n (exLoop r P)
  | [], P, _, _, hg, _ => hg
  | s :: r, P, j, hl, hg, hs => by
    obtain ⟨⟨h0, h1, h2⟩, h3⟩ := stepsB_head hs
    exact exLoop_good r _ (j + 1) (by rw [List.length_append, List.length_singleton]; omega) (exGood_app hg (exRow_ok (exGood_at hg h0 (by omega)) (exGood_at hg (by omega) (by omega)))) h3
def allRows (E : List (List Int)) : Bool := E.all (allIn 0 1000000)
def planB (inp : Int) (steps : List S79) (outs : List Int) : Bool := formedB inp steps outs && allRows (exAll inp steps)
theorem outsB_all (inp : Int) (n : Nat) (outs : List Int) : outsB inp n outs = allIn 0 (inp + n - 1) outs := by
  unfold outsB allIn
  rw [List.all_eq_not_any_not]
theorem maxOf_le {l : List Int} (h : l ≠ []) {m : Int} : Go.Lib.maxOf l ≤ m ↔ ∀ x ∈ l, x ≤ m := by
  have key : ∀ (l : List Int) (a : Int), l.foldl max a ≤ m ↔ a ≤ m ∧ ∀ x ∈ l, x ≤ m := by
    intro l
    induction l with
    | nil => intro a; simp
    | cons y l ih =>
      intro a
      rw [List.foldl_cons, ih]
      constructor
      · rintro ⟨h1, h2⟩
        refine ⟨by omega, fun x hx => ?_⟩
        rcases List.mem_cons.1 hx with rfl | hx
        · omega
        · exact h2 x hx
      · rintro ⟨h1, h2⟩
        have := h2 y List.mem_cons_self
        exact ⟨by omega, fun x hx => h2 x (List.mem_cons_of_mem _ hx)⟩
  unfold Go.Lib.maxOf
  rw [key]
  cases l with
  | nil => exact absurd rfl h
  | cons y l =>
    exact ⟨fun h => h.2, fun h => ⟨h y List.mem_cons_self, h⟩⟩
theorem allRows_max {n : Nat} (hn : 0 < n) {E : List (List Int)} (h : exGood n E) : allRows E = !(E.any fun r => decide (1000000 < Go.Lib.maxOf r)) := by
  unfold allRows
  rw [List.all_eq_not_any_not]
  have : ∀ r ∈ E, (!allIn 0 1000000 r) = decide (1000000 < Go.Lib.maxOf r) := fun r hr => by
    obtain ⟨h1, h2⟩ := h r hr
    have hne : r ≠ [] := fun e => by subst e; simp at h1; omega
    by_cases hc : 1000000 < Go.Lib.maxOf r
    · rw [decide_eq_true hc]
      have : ¬ ∀ x ∈ r, x ≤ 1000000 := fun hx => by have := (maxOf_le hne).2 hx; omega
      rw [Bool.not_eq_true', Bool.eq_false_iff]
      intro ha
      refine this fun x hx => ?_
      unfold allIn at ha
      have := List.all_eq_true.1 ha x hx
      rw [Bool.and_eq_true, decide_eq_true_iff, decide_eq_true_iff] at this
      exact this.2
    · rw [decide_eq_false hc]
      have : ∀ x ∈ r, x ≤ 1000000 := (maxOf_le hne).1 (by omega)
      rw [Bool.not_eq_false']
      unfold allIn
      refine List.all_eq_true.2 fun x hx => ?_
      rw [Bool.and_eq_true, decide_eq_true_iff, decide_eq_true_iff]
      exact ⟨(h2 x hx).1, this x hx⟩
  congr 1
  rw [Bool.eq_iff_iff, List.any_eq_true, List.any_eq_true]
  exact ⟨fun ⟨r, hr, hx⟩ => ⟨r, hr, by rw [← this r hr]; exact hx⟩, fun ⟨r, hr, hx⟩ => ⟨r, hr, by rw [this r hr]; exact hx⟩⟩
theorem implPlan (inp : Int) (steps : List S79) (outs : List Int) : impl_IsPlan.f inp steps outs = some (planB inp steps outs) := by
  unfold impl_IsPlan.f planB
  cases hf : formedB inp steps outs with
  | false => rfl
  | true =>
    obtain ⟨h1, _, _, h4, _⟩ := formedB_parts hf
    obtain ⟨n, rfl⟩ : ∃ n : Nat, inp = (n : Int) := ⟨inp.toNat, by omega⟩
    have hg := exLoop_good (n := n) steps (exBase n n) 0 (by rw [exBase_length]; rfl) (exBase_good n n) h4
    have hE : exAll (n : Int) steps = exLoop steps (exBase n n) := by unfold exAll; rw [Int.toNat_natCast]
    rw [← hE] at hg
    rw [allRows_max (n := n) (by omega) hg]
/-! Plans made step by step: what the reference's steps give, and exponents of what is made. -/
theorem mn_eq (a b : Int) : mn a b = min a b := by unfold mn; omega
theorem mx_eq (a b : Int) : mx a b = max a b := by unfold mx; omega
theorem mkStep_val (a b : Int) : spec_plStep.f a b = some (mn a b, mx a b) := by
  have e1 : spec_l1Least.f a b = some (mn a b) := by
    unfold spec_l1Least.f mn
    split <;> split <;> first | rfl | (congr 1; omega)
  have e2 : spec_l1Most.f a b = some (mx a b) := by
    unfold spec_l1Most.f mx
    split <;> split <;> first | rfl | (congr 1; omega)
  simp only [spec_plStep.f, e1, e2, Option.bind_some]
def mkS (T : List S79) (a b : Int) : List S79 := T ++ [⟨mn a b, mx a b⟩]
theorem meTimes_val (inp : Int) (T : List S79) (o : List Int) (a b : Int) (hT : T.length ≤ 100000) (hi : 0 ≤ inp ∧ inp ≤ 1000) : spec_meTimes.f inp T o a b = some (inp, mkS T a b, [], inp + T.length) := by
  simp only [spec_meTimes.f, Option.bind_some, mkStep_val, List.nil_append, List.length_nil, List.length_singleton]
  rw [if_pos (by omega), if_pos (by omega), wid (by omega) (by omega)]
  rfl
def toldV (inp : Int) (T : List S79) (o : List Int) : Int × List S79 × List Int × Bool := if planB inp T o = true then (inp, T, o, true) else (0, [], [], false)
theorem told_val (inp : Int) (T : List S79) (o : List Int) : impl_told.f inp T o = some (toldV inp T o) := by
  simp only [impl_told.f, implPlan, Option.bind_some, toldV]
  split <;> rfl
theorem exLoop_app : ∀ (a b : List S79) (P : List (List Int)), exLoop (a ++ b) P = exLoop b (exLoop a P)
  | [], _, _ => rfl
  | s :: a, b, P => by
    rw [List.cons_append]
    show exLoop (a ++ b) _ = exLoop b (exLoop a _)
    exact exLoop_app a b _
theorem exRow_comm : ∀ (a b : List Int), exRow a b = exRow b a
  | [], [] => rfl
  | [], _ :: _ => rfl
  | _ :: _, [] => rfl
  | x :: a, y :: b => by
    show min (x + y) 1000001 :: exRow a b = min (y + x) 1000001 :: exRow b a
    rw [exRow_comm a b, Int.add_comm]
theorem exAll_mul (inp : Int) (T : List S79) (a b : Int) : exAll inp (mkS T a b) = exAll inp T ++ [exRow ((exAll inp T).getD a.toNat []) ((exAll inp T).getD b.toNat [])] := by
  unfold exAll mkS
  rw [exLoop_app]
  show exLoop [] (_ ++ [exRow _ _]) = _
  show _ ++ [exRow _ _] = _
  congr 2
  show exRow ((exLoop T _).getD (mn a b).toNat []) ((exLoop T _).getD (mx a b).toNat []) = _
  unfold mn mx
  by_cases h : b < a
  · rw [if_pos h, if_neg (by omega), exRow_comm]
  · rw [if_neg h]
    by_cases h2 : a < b
    · rw [if_pos h2]
    · rw [if_neg h2, show a = b by omega]
theorem exAll_length (inp : Int) (T : List S79) : (exAll inp T).length = inp.toNat + T.length := by
  unfold exAll
  rw [exLoop_len, exBase_length]
theorem exLoop_old : ∀ (r : List S79) (P : List (List Int)) (k : Nat), k < P.length → (exLoop r P).getD k [] = P.getD k []
  | [], _, _, _ => rfl
  | s :: r, P, k, h => by
    show (exLoop r (P ++ [_])).getD k [] = _
    rw [exLoop_old r (P ++ [_]) k (by rw [List.length_append]; omega)]
    simp only [List.getD_eq_getElem?_getD, List.getElem?_append_left h]
theorem exAll_unit (n k : Nat) (T : List S79) (h : k < n) : (exAll (n : Int) T).getD k [] = exUnit n k := by
  unfold exAll
  rw [Int.toNat_natCast, exLoop_old _ _ _ (by rw [exBase_length]; exact h)]
  unfold exBase
  rw [List.getD_eq_getElem?_getD, List.getElem?_map, List.getElem?_range h]; rfl
theorem exAll_old (inp : Int) (T : List S79) (a b : Int) (k : Nat) (h : k < inp.toNat + T.length) : (exAll inp (mkS T a b)).getD k [] = (exAll inp T).getD k [] := by
  rw [exAll_mul]
  simp only [List.getD_eq_getElem?_getD, List.getElem?_append_left (show k < (exAll inp T).length by rw [exAll_length]; exact h)]
theorem exAll_last (inp : Int) (T : List S79) (a b : Int) (hi : 0 ≤ inp) : (exAll inp (mkS T a b)).getD (inp + T.length).toNat [] = exRow ((exAll inp T).getD a.toNat []) ((exAll inp T).getD b.toNat []) := by
  rw [exAll_mul, List.getD_eq_getElem?_getD, List.getElem?_append_right (by rw [exAll_length]; omega), exAll_length, show (inp + T.length).toNat - (inp.toNat + T.length) = 0 by omega]
  rfl
/-- A row of exponents that are told by a function. -/
def rowOf (n : Nat) (f : Nat → Nat) : List Int := (List.range n).map fun k => (f k : Int)
theorem rowOf_length (n : Nat) (f : Nat → Nat) : (rowOf n f).length = n := by simp [rowOf]
theorem rowOf_get {n : Nat} {f : Nat → Nat} {k : Nat} (h : k < (rowOf n f).length) : (rowOf n f)[k] = (f k : Int) := by simp [rowOf]
theorem rowOf_congr {n : Nat} {f g : Nat → Nat} (h : ∀ k, k < n → f k = g k) : rowOf n f = rowOf n g := by
  unfold rowOf
  refine List.map_congr_left fun k hk => ?_
  rw [h k (List.mem_range.1 hk)]
theorem exUnit_row (n i : Nat) : exUnit n i = rowOf n (fun k => if k = i then 1 else 0) := by
  refine List.ext_getElem (by rw [exUnit_length, rowOf_length]) fun k h1 h2 => ?_
  rw [rowOf_get]
  show ((List.replicate n (0 : Int)).set i 1)[k]'(by simpa [exUnit] using h1) = _
  rw [List.getElem_set]
  by_cases h : i = k
  · rw [if_pos h, if_pos h.symm]; rfl
  · rw [if_neg h, if_neg (fun e => h e.symm), List.getElem_replicate]; rfl
theorem exRow_row (n : Nat) (f g : Nat → Nat) (h : ∀ k, k < n → f k + g k ≤ 1000001) : exRow (rowOf n f) (rowOf n g) = rowOf n (fun k => f k + g k) := by
  unfold exRow
  refine List.ext_getElem (by rw [List.length_zipWith, rowOf_length, rowOf_length, rowOf_length, Nat.min_self]) fun k h1 h2 => ?_
  rw [List.getElem_zipWith, rowOf_get, rowOf_get, rowOf_get]
  have := h k (by rw [rowOf_length] at h2; exact h2)
  omega
/-! BinaryPlan: digits, the reference's plan, and that it is a plan. -/
def dgF : Nat → Nat → List Int
  | 0, _ => []
  | f + 1, n => if n = 0 then [] else ((n % 2 : Nat) : Int) :: dgF f (n / 2)
theorem dgF_more : ∀ (f n : Nat), n < 2 ^ f → dgF (f + 1) n = dgF f n
  | 0, n, h => by simp at h; subst h; rfl
  | f + 1, n, h => by
    show (if n = 0 then [] else _ :: dgF (f + 1) (n / 2)) = (if n = 0 then [] else _ :: dgF f (n / 2))
    rw [dgF_more f (n / 2) (by rw [Nat.pow_succ] at h; omega)]
def dg (n : Nat) : List Int := dgF 20 n
theorem dg_step {n : Nat} (h : n < 2 ^ 20) (h0 : n ≠ 0) : dg n = ((n % 2 : Nat) : Int) :: dg (n / 2) := by
  show (if n = 0 then [] else _ :: dgF 19 (n / 2)) = _ :: dgF 20 (n / 2)
  rw [if_neg h0, dgF_more 19 (n / 2) (by omega)]
theorem dgF_len : ∀ (f n : Nat), (dgF f n).length ≤ f
  | 0, _ => Nat.le_refl _
  | f + 1, n => by
    unfold dgF
    split
    · simp
    · have := dgF_len f (n / 2)
      rw [List.length_cons]; omega
theorem dg_zero : dg 0 = [] := by decide
theorem dg_one : dg 1 = [1] := by decide
theorem dg_pos {n : Nat} (h : n < 2 ^ 20) (h0 : n ≠ 0) : 1 ≤ (dg n).length := by rw [dg_step h h0]; simp
theorem half_i {n : Nat} (h : n < 2 ^ 20) : wrap64 (Int.tdiv (n : Int) 2) = ((n / 2 : Nat) : Int) ∧ Int.tmod (n : Int) 2 = ((n % 2 : Nat) : Int) := by
  rw [Int.tdiv_eq_ediv_of_nonneg (by omega), Int.tmod_eq_emod_of_nonneg (by omega), wid (by omega) (by omega)]
  omega
theorem digits_loop : ∀ (n : Nat), n < 2 ^ 20 → ∀ (out : List Int), out.length + n ≤ 10000000 → Ev (fun k => impl_digits.l0 k n 2 out) (out ++ dg n) := by
  intro n
  induction n using Nat.strongRecOn with
  | ind n ih =>
    intro h out ho
    refine up ?_
    by_cases h0 : n = 0
    · subst h0
      simp only [impl_digits.l0, if_neg (show ¬ ((0 : Nat) : Int) > 0 by omega)]
      rw [dg_zero, List.append_nil]
      exact Ev.now _
    · simp only [impl_digits.l0, if_pos (show (n : Int) > 0 by omega), if_neg (show ¬ (2 : Int) = 0 by omega), if_pos (show out.length < 17592186044416 by omega), (half_i h).1, (half_i h).2]
      have := ih (n / 2) (by omega) (by omega) (out ++ [((n % 2 : Nat) : Int)]) (by rw [List.length_append, List.length_singleton]; omega)
      rw [List.append_assoc, List.singleton_append, ← dg_step h h0] at this
      exact this
theorem digits_spec_loop : ∀ (n : Nat), n < 2 ^ 20 → ∀ (out : List Int), out.length + n ≤ 10000000 → Ev (fun k => spec_meDigits.l0 k n 2 out) (out ++ dg n) := by
  intro n
  induction n using Nat.strongRecOn with
  | ind n ih =>
    intro h out ho
    refine up ?_
    by_cases h0 : n = 0
    · subst h0
      simp only [spec_meDigits.l0, if_neg (show ¬ ((0 : Nat) : Int) > 0 by omega)]
      rw [dg_zero, List.append_nil]
      exact Ev.now _
    · simp only [spec_meDigits.l0, if_pos (show (n : Int) > 0 by omega), if_neg (show ¬ (2 : Int) = 0 by omega), if_pos (show out.length < 17592186044416 by omega), (half_i h).1, (half_i h).2]
      have := ih (n / 2) (by omega) (by omega) (out ++ [((n % 2 : Nat) : Int)]) (by rw [List.length_append, List.length_singleton]; omega)
      rw [List.append_assoc, List.singleton_append, ← dg_step h h0] at this
      exact this
theorem digits_val {n : Nat} (h : n < 2 ^ 20) : Ev (fun k => impl_digits.f k n 2) (dg n) := digits_loop n h [] (by simp; omega)
theorem digits_spec {n : Nat} (h : n < 2 ^ 20) : Ev (fun k => spec_meDigits.f k n 2) (dg n) := digits_spec_loop n h [] (by simp; omega)
/-- Steps whose factors are there and whose exponents are small. -/
def PlOk (inp : Int) (T : List S79) : Prop := stepsB inp T 0 = true ∧ ∀ r ∈ exAll inp T, ∀ x ∈ r, 0 ≤ x ∧ x ≤ 1000000
theorem stepsB_snoc (inp : Int) (s : S79) : ∀ (T : List S79) (i : Nat), stepsB inp (T ++ [s]) i = (stepsB inp T i && stepB inp (i + T.length) s)
  | [], i => by
    show (stepB inp i s && stepsB inp [] (i + 1)) = (true && stepB inp (i + 0) s)
    show (stepB inp i s && true) = _
    rw [Bool.and_true, Bool.true_and, Nat.add_zero]
  | t :: T, i => by
    show (stepB inp i t && stepsB inp (T ++ [s]) (i + 1)) = (stepB inp i t && stepsB inp T (i + 1) && stepB inp (i + (T.length + 1)) s)
    rw [stepsB_snoc inp s T (i + 1), Bool.and_assoc, show i + 1 + T.length = i + (T.length + 1) by omega]
theorem PlOk_mul {inp : Int} {T : List S79} {a b : Int} (h : PlOk inp T) (ha : 0 ≤ a ∧ a < inp + T.length) (hb : 0 ≤ b ∧ b < inp + T.length) (hr : ∀ x ∈ exRow ((exAll inp T).getD a.toNat []) ((exAll inp T).getD b.toNat []), 0 ≤ x ∧ x ≤ 1000000) : PlOk inp (mkS T a b) := by
  refine ⟨?_, fun r hm => ?_⟩
  · unfold mkS
    rw [stepsB_snoc, h.1, Bool.true_and, Nat.zero_add]
    unfold stepB
    have h1 : 0 ≤ mn a b := by rw [mn_eq]; omega
    have h2 : mn a b ≤ mx a b := by rw [mn_eq, mx_eq]; omega
    have h3 : mx a b < inp + (T.length : Int) := by rw [mx_eq]; omega
    rw [decide_eq_true h1, decide_eq_true h2, decide_eq_true h3]; rfl
  · rw [exAll_mul] at hm
    rcases List.mem_append.1 hm with hm | hm
    · exact h.2 r hm
    · rw [List.mem_singleton] at hm
      subst hm
      exact hr
theorem PlOk_plan {inp : Int} {T : List S79} {outs : List Int} (h : PlOk inp T) (hi : 1 ≤ inp ∧ inp ≤ 6) (hT : T.length ≤ 40) (ho : outs.length ≤ 6) (hv : ∀ v ∈ outs, 0 ≤ v ∧ v ≤ inp + T.length - 1) : planB inp T outs = true := by
  unfold planB formedB
  rw [decide_eq_true hi, decide_eq_true hT, decide_eq_true ho, h.1]
  have h1 : outsB inp T.length outs = true := by
    unfold outsB
    rw [Bool.not_eq_true', List.any_eq_false]
    intro v hm
    have := hv v hm
    rw [decide_eq_true this.1, decide_eq_true this.2]; decide
  have h2 : allRows (exAll inp T) = true := by
    unfold allRows
    rw [List.all_eq_true]
    intro r hm
    unfold allIn
    rw [List.all_eq_true]
    intro x hx
    have := h.2 r hm x hx
    rw [decide_eq_true this.1, decide_eq_true this.2]; rfl
  rw [h1, h2]; rfl
theorem PlOk_nil (n : Nat) : PlOk (n : Int) [] := by
  refine ⟨rfl, fun r hm x hx => ?_⟩
  unfold exAll at hm
  have hm2 : r ∈ exBase (n : Int).toNat (n : Int).toNat := hm
  unfold exBase at hm2
  obtain ⟨j, _, rfl⟩ := List.mem_map.1 hm2
  unfold exUnit at hx
  rcases List.mem_or_eq_of_mem_set hx with h | h
  · have := (List.mem_replicate.1 h).2
    omega
  · omega
/-- What has been made of the digits so far. -/
def BnI (s : List S79 × Int) (v : Nat) : Prop := PlOk 1 s.1 ∧ 0 ≤ s.2 ∧ s.2 < 1 + (s.1.length : Int) ∧ (exAll 1 s.1).getD s.2.toNat [] = [(v : Int)]
theorem BnI_mul {T : List S79} {a b : Int} {u v : Nat} (h : PlOk 1 T) (ha : 0 ≤ a ∧ a < 1 + T.length) (hb : 0 ≤ b ∧ b < 1 + T.length) (ea : (exAll 1 T).getD a.toNat [] = [(u : Int)]) (eb : (exAll 1 T).getD b.toNat [] = [(v : Int)]) (huv : u + v ≤ 1000000) : BnI (mkS T a b, 1 + (T.length : Int)) (u + v) := by
  have er : exRow [(u : Int)] [(v : Int)] = [((u + v : Nat) : Int)] := by
    show [min ((u : Int) + (v : Int)) 1000001] = _
    congr 1
    omega
  refine ⟨PlOk_mul h ha hb (by rw [ea, eb, er]; intro x hx; rw [List.mem_singleton] at hx; subst hx; omega), by show 0 ≤ 1 + (T.length : Int); omega, ?_, ?_⟩
  · show 1 + (T.length : Int) < 1 + ((T ++ [_]).length : Int)
    rw [List.length_append, List.length_singleton]; omega
  · show (exAll 1 (mkS T a b)).getD (1 + (T.length : Int)).toNat [] = _
    rw [exAll_last _ _ _ _ (by omega), ea, eb, er]
theorem exAll_in (T : List S79) : (exAll 1 T).getD (0 : Int).toNat [] = [((1 : Nat) : Int)] := exAll_unit 1 0 T (by omega)
theorem BnI_step {s : List S79 × Int} {v : Nat} (h : BnI s v) (d : Nat) (hd : d = 0 ∨ d = 1) (hv : 2 * v + d ≤ 1000000) : BnI (bnStep s (d : Int)) (2 * v + d) := by
  obtain ⟨h1, h2, h3, h4⟩ := h
  have hs := BnI_mul h1 ⟨h2, h3⟩ ⟨h2, h3⟩ h4 h4 (by omega)
  unfold bnStep
  rcases hd with rfl | rfl
  · rw [if_neg (by decide)]
    rw [show 2 * v + 0 = v + v by omega]
    exact hs
  · rw [if_pos (by decide)]
    have := BnI_mul hs.1 ⟨hs.2.1, hs.2.2.1⟩ (b := 0) ⟨by omega, by omega⟩ hs.2.2.2 (exAll_in _) (by omega)
    rw [show 2 * v + 1 = v + v + 1 by omega]
    exact this
theorem bnAll_cons (x : Int) (l : List Int) (hl : 1 ≤ l.length) : bnAll (x :: l) = bnStep (bnAll l) x := by
  unfold bnAll
  rw [List.length_cons, show l.length + 1 - 1 = (l.length - 1) + 1 by omega, List.take_succ_cons, List.reverse_cons, List.foldl_append]
  rfl
theorem bn_val : ∀ (n : Nat), 1 ≤ n → n ≤ 1000000 → BnI (bnAll (dg n)) n ∧ (bnAll (dg n)).1.length ≤ 2 * ((dg n).length - 1) := by
  intro n
  induction n using Nat.strongRecOn with
  | ind n ih =>
    intro h1 h2
    by_cases h : n = 1
    · subst h
      rw [dg_one]
      exact ⟨⟨PlOk_nil 1, by decide, by decide, exAll_in _⟩, by decide⟩
    · obtain ⟨i1, i2⟩ := ih (n / 2) (by omega) (by omega) (by omega)
      rw [dg_step (by omega) (by omega), bnAll_cons _ _ (dg_pos (by omega) (by omega))]
      have hp := dg_pos (n := n / 2) (by omega) (by omega)
      have h3 := BnI_step i1 (n % 2) (by omega) (by omega)
      rw [show 2 * (n / 2) + n % 2 = n by omega] at h3
      refine ⟨h3, ?_⟩
      have := bnStep_len (bnAll (dg (n / 2))) ((n % 2 : Nat) : Int)
      rw [List.length_cons]; omega
theorem bn_plan {n : Nat} (h1 : 1 ≤ n) (h2 : n ≤ 1000000) : planB 1 (bnAll (dg n)).1 [(bnAll (dg n)).2] = true := by
  obtain ⟨⟨i1, i2, i3, _⟩, i5⟩ := bn_val n h1 h2
  have hl := dgF_len 20 n
  have hl2 : (dg n).length ≤ 20 := hl
  refine PlOk_plan i1 (by omega) (by omega) (by simp) (fun v hv => ?_)
  rw [List.mem_singleton] at hv
  subst hv
  omega
theorem bn_spec_loop (l : List Int) (hl : l.length ≤ 100) : ∀ (j : Nat) (s : List S79 × Int), j ≤ l.length → s.1.length + 2 * j ≤ 1000 → Ev (fun k => spec_meBinary.l0 k l s.2 ((j : Int) - 1) 1 s.1 []) (1, ((l.take j).reverse.foldl bnStep s).1, [((l.take j).reverse.foldl bnStep s).2]) := by
  intro j
  induction j with
  | zero =>
    intro s _ _
    refine up ?_
    simp only [spec_meBinary.l0, if_neg (show ¬ ((0 : Nat) : Int) - 1 ≥ 0 by omega), spec_meEnd.f, Option.bind_some]
    exact Ev.now _
  | succ j ih =>
    intro s hj hs
    have hlt : j < l.length := by omega
    have hrd : rd l (j : Int) = l[j] := by
      unfold rd
      rw [Int.toNat_natCast, List.getD_eq_getElem?_getD, List.getElem?_eq_getElem hlt]; rfl
    have hsl := bnStep_len s l[j]
    have hnext := ih (bnStep s l[j]) (by omega) (by omega)
    rw [List.take_succ_eq_append_getElem hlt, List.reverse_append, List.foldl_append]
    show Ev _ (1, ((l.take j).reverse.foldl bnStep (bnStep s l[j])).1, [((l.take j).reverse.foldl bnStep (bnStep s l[j])).2])
    refine up ?_
    simp only [spec_meBinary.l0, show ((j + 1 : Nat) : Int) - 1 = (j : Int) by omega, if_pos (show (j : Int) ≥ 0 by omega), meTimes_val 1 s.1 [] s.2 s.2 (by omega) (by omega), Option.bind_some, if_pos (show (0 : Int) ≤ (j : Int) by omega), if_pos (show (j : Int) < (l.length : Int) by omega), hrd, wid (x := (j : Int) - 1) (by omega) (by omega)]
    have hml : (mkS s.1 s.2 s.2).length = s.1.length + 1 := by simp [mkS]
    unfold bnStep at hnext ⊢
    by_cases hd : l[j] = 1
    · rw [if_pos hd] at hnext
      simp only [if_pos hd, meTimes_val 1 (mkS s.1 s.2 s.2) [] (1 + (s.1.length : Int)) 0 (by rw [hml]; omega) (by omega), Option.bind_some]
      exact hnext
    · rw [if_neg hd] at hnext
      simp only [if_neg hd]
      exact hnext
theorem bn_spec {n : Nat} (h1 : 1 ≤ n) (h2 : n ≤ 1000000) : Ev (fun k => spec_meBinary.f k n) (1, (bnAll (dg n)).1, [(bnAll (dg n)).2]) := by
  have hl := dgF_len 20 n
  have hl2 : (dg n).length ≤ 20 := hl
  have hp := dg_pos (n := n) (by omega) (by omega)
  simp only [spec_meBinary.f]
  refine Ev.bind (digits_spec (by omega)) ?_
  have := bn_spec_loop (dg n) (by omega) ((dg n).length - 1) ([], 0) (by omega) (by simp; omega)
  rw [wid (x := ((dg n).length : Int) - 2) (by omega) (by omega), show ((dg n).length : Int) - 2 = (((dg n).length - 1 : Nat) : Int) - 1 by omega]
  exact this
theorem bn_impl {n : Nat} (h1 : 1 ≤ n) (h2 : n ≤ 1000000) : Ev (fun k => impl_BinaryPlan.f k n) (1, (bnAll (dg n)).1, [(bnAll (dg n)).2], true) := by
  have hl := dgF_len 20 n
  have hl2 : (dg n).length ≤ 20 := hl
  have hp := dg_pos (n := n) (by omega) (by omega)
  simp only [impl_BinaryPlan.f, impl_isNumber.f, impl_in.f, if_pos (show (n : Int) ≥ 1 by omega), decide_eq_true (show (n : Int) ≤ 1000000 by omega), Option.bind_some, if_true]
  refine Ev.bind (digits_val (by omega)) ?_
  simp only [if_pos (show 1 ≤ (dg n).length ∧ (dg n).length ≤ 1000 by omega), told_val, toldV, if_pos (bn_plan h1 h2)]
  exact Ev.now _
theorem bn_impl_no {n : Int} (h : ¬ (1 ≤ n ∧ n ≤ 1000000)) : Ev (fun k => impl_BinaryPlan.f k n) (0, [], [], false) := by
  simp only [impl_BinaryPlan.f, impl_isNumber.f, impl_in.f]
  by_cases a : n ≥ 1
  · have b : ¬ n ≤ 1000000 := fun b => h ⟨a, b⟩
    simp only [if_pos a, decide_eq_false b, Option.bind_some, Bool.false_eq_true, if_false]
    exact Ev.now _
  · simp only [if_neg a, Option.bind_some, Bool.false_eq_true, if_false]
    exact Ev.now _
theorem both (n : Int) : ∃ a b c, Ev (fun k => spec_LucasPlanCosts.f k n) (a, b, c) ∧ Ev (fun k => impl_LucasPlanCosts.f k n) (a, b, c) := by
  by_cases h : 1 ≤ n ∧ n ≤ 1000000
  · obtain ⟨h0, h1⟩ := h
    obtain ⟨N, rfl⟩ := Int.eq_ofNat_of_zero_le (show 0 ≤ n by omega)
    refine ⟨wrap64 (((lcOf N).length : Int) - 1), ((bnAll (dg N)).1.length : Int), true, ?_, ?_⟩
    · simp only [spec_LucasPlanCosts.f, spec_luIndex.f, spec_l1In.f, ge_iff_le, h0, h1, decide_true, if_true, Option.bind_some]
      refine Ev.bind (specLc (by omega)) ?_
      exact Ev.bind (bn_spec (by omega) (by omega)) (Ev.now _)
    · simp only [impl_LucasPlanCosts.f, impl_BinaryCost.f]
      refine Ev.bind (Ev.bind (bn_impl (by omega) (by omega)) (Ev.now _)) ?_
      simp only [impl_in.f, ge_iff_le, h0, h1, decide_true, if_true, Option.bind_some]
      exact Ev.bind (implLc (by omega)) (Ev.now _)
  · refine ⟨0, 0, false, ⟨0, fun k _ => ?_⟩, ?_⟩
    · simp only [spec_LucasPlanCosts.f, spec_luIndex.f, spec_l1In.f]
      by_cases a : n ≥ 1 <;> by_cases b : n ≤ 1000000 <;> simp [a, b] <;> omega
    · simp only [impl_LucasPlanCosts.f, impl_BinaryCost.f]
      refine Ev.bind (Ev.bind (bn_impl_no h) (Ev.now _)) ?_
      have hin : impl_in.f n 1 1000000 = some false := by
        unfold impl_in.f
        by_cases a : n ≥ 1
        · rw [if_pos a, decide_eq_false (fun b => h ⟨a, b⟩)]
        · rw [if_neg a]
      simp only [hin, Option.bind_some, Bool.false_eq_true, if_false]
      exact Ev.now _
theorem main : laws_FnExactLucasPlanCosts.Pure := by
  intro a0 _
  obtain ⟨a, b, c, hs, hi⟩ := both a0
  refine Ev.rounds ?_
  simp only [laws_FnExactLucasPlanCosts.f]
  refine Ev.bind hs ?_
  refine Ev.bind hi ?_
  simp only [if_true, bne_self_eq_false, Bool.false_eq_true, if_false]
  exact Ev.now _
end Go.Proofs.Ytoiamgeaieefmaa.PureFnExactLucasPlanCostsL
namespace Go.Proofs.Ytoiamgeaieefmaa.Pure
open Go.Proofs.Ytoiamgeaieefmaa.PFnExactLucasPlanCosts
theorem FnExactLucasPlanCosts : laws_FnExactLucasPlanCosts.Pure := PureFnExactLucasPlanCostsL.main
end Go.Proofs.Ytoiamgeaieefmaa.Pure
