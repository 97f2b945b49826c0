/- The program's LadderChain returns what the reference's LadderChain returns, for all arguments of the type int; nothing else is asked of the argument. -/
import Derived.Test.YtgpdmgbnefoegaaPFnExactLadderChainx1
import Derived.Test.YtgpdmgbnefoegaaPFnExactLadderChainx2
set_option linter.unusedVariables false
set_option linter.unusedSimpArgs false
namespace Go.Proofs.Ytgpdmgbnefoegaa.PureFnExactLadderChainL
open Go.RowKit Go.Proofs.Ytgpdmgbnefoegaa.PFnExactLadderChain Go.Proofs.YtgpdmgbnefoegaaW.PrintWords Go.Proofs.YtgpdmgbnefoegaaW.PrintLast Go.Proofs.YtgpdmgbnefoegaaW.PrintMore
theorem up {α : Type} {g : Nat → Option α} {r : α} (h : Ev (fun k => g (k + 1)) r) : Ev g r := by
  obtain ⟨K, h⟩ := h
  refine ⟨K + 1, fun k hk => ?_⟩
  obtain ⟨m, rfl⟩ : ∃ m, k = m + 1 := ⟨k - 1, by omega⟩
  exact h m (by omega)
theorem wid {x : Int} (h0 : -9223372036854775808 ≤ x) (h1 : x ≤ 9223372036854775807) : wrap64 x = x := by unfold wrap64; omega
theorem ite_yes {α : Type} {c : Prop} [Decidable c] {a b : α} (h : c) : (if c then a else b) = a := if_pos h
theorem ite_no {α : Type} {c : Prop} [Decidable c] {a b : α} (h : ¬ c) : (if c then a else b) = b := if_neg h
theorem evsome {α β : Type} {x : Option α} {a : α} {f : Nat → α → Option β} {r : β} (hx : x = some a) (h : Ev (fun k => f k a) r) : Ev (fun k => x.bind (f k)) r := by subst hx; exact h
theorem if_pos_ev {α : Type} {c : Prop} [Decidable c] {f g : Nat → Option α} (h : c) : (fun k => if c then f k else g k) = f := funext fun k => if_pos h
theorem if_neg_ev {α : Type} {c : Prop} [Decidable c] {f g : Nat → Option α} (h : ¬ c) : (fun k => if c then f k else g k) = g := funext fun k => if_neg h
theorem rd_at {l : List Int} {i : Nat} (h : i < l.length) : rd l (i : Int) = l[i] := by
  unfold rd
  rw [Int.toNat_natCast, List.getD_eq_getElem?_getD, List.getElem?_eq_getElem h]; rfl
/-- A number put into a list in order. -/
def putB : List Int → Int → List Int
  | [], x => [x]
  | y :: l, x => if y < x then y :: putB l x else if y = x then y :: l else x :: y :: l
theorem putB_mem (x z : Int) : ∀ l, z ∈ putB l x ↔ z = x ∨ z ∈ l
  | [] => by simp [putB]
  | y :: l => by
    have ih := putB_mem x z l
    unfold putB
    split
    · rw [List.mem_cons, ih, List.mem_cons]
      constructor
      · rintro (h | h | h)
        · exact .inr (.inl h)
        · exact .inl h
        · exact .inr (.inr h)
      · rintro (h | h | h)
        · exact .inr (.inl h)
        · exact .inl h
        · exact .inr (.inr h)
    · split
      · rename_i e
        constructor
        · exact .inr
        · rintro (rfl | h)
          · rw [e]; exact List.mem_cons_self
          · exact h
      · rw [List.mem_cons]
theorem putB_sorted (x : Int) : ∀ l, l.Pairwise (· < ·) → (putB l x).Pairwise (· < ·)
  | [], _ => by simp [putB]
  | y :: l, h => by
    rw [List.pairwise_cons] at h
    unfold putB
    split
    · rename_i hlt
      rw [List.pairwise_cons]
      refine ⟨fun z hz => ?_, putB_sorted x l h.2⟩
      rcases (putB_mem x z l).1 hz with rfl | hz
      · exact hlt
      · exact h.1 z hz
    · split
      · exact List.pairwise_cons.2 h
      · rw [List.pairwise_cons]
        refine ⟨fun z hz => ?_, List.pairwise_cons.2 h⟩
        rcases List.mem_cons.1 hz with rfl | hz
        · omega
        · have := h.1 z hz; omega
theorem putB_len (x : Int) : ∀ l, (putB l x).length ≤ l.length + 1
  | [] => by simp [putB]
  | y :: l => by
    have := putB_len x l
    unfold putB
    split
    · simp only [List.length_cons]; omega
    · split <;> simp only [List.length_cons] <;> omega
theorem put_loop (x : Int) (l : List Int) (hl : l.length ≤ 1000000) : ∀ (d i : Nat), i + d = l.length → Ev (fun q => spec_l1Put.l0 q l x i) (l.take i ++ putB (l.drop i) x) := by
  intro d
  induction d with
  | zero =>
    intro i h
    have e : i = l.length := by omega
    subst e
    refine up ?_
    simp only [spec_l1Put.l0, if_neg (show ¬ (l.length : Int) < (l.length : Int) by omega), Option.bind_some, if_pos (show (0 : Int) ≤ (l.length : Int) by omega), if_pos (show (l.length : Int) ≤ (l.length : Int) by omega), Int.toNat_natCast, List.take_length, List.drop_length, List.length_nil, List.nil_append, List.length_append, List.length_singleton, List.append_nil, putB, Nat.zero_add, Nat.add_zero, if_pos (show l.length < 17592186044416 by omega), if_pos (show l.length + 1 < 17592186044416 by omega)]
    exact Ev.now _
  | succ d ih =>
    intro i h
    have hi : i < l.length := by omega
    refine up ?_
    simp only [spec_l1Put.l0, if_pos (show (i : Int) < (l.length : Int) by omega), if_pos (show (0 : Int) ≤ (i : Int) by omega), rd_at hi, wid (x := (i : Int) + 1) (by omega) (by omega)]
    rw [List.drop_eq_getElem_cons hi]
    unfold putB
    by_cases h1 : l[i] < x
    · rw [if_pos_ev h1, if_pos h1]
      have ih := ih (i + 1) (by omega)
      rw [List.take_succ_eq_append_getElem hi, List.append_assoc, List.singleton_append] at ih
      exact ih
    · rw [if_neg_ev h1, if_neg h1]
      by_cases h2 : l[i] = x
      · rw [if_pos_ev h2, if_pos h2, ← List.drop_eq_getElem_cons hi, List.take_append_drop]; exact Ev.now _
      · rw [if_neg_ev h2, if_neg h2, ← List.drop_eq_getElem_cons hi]
        have ht : (l.take i).length = i := by rw [List.length_take]; omega
        simp only [Option.bind_some, if_pos (show (i : Int) ≤ (l.length : Int) by omega), Int.toNat_natCast, List.length_nil, List.nil_append, List.length_append, List.length_singleton, ht, List.length_drop, Nat.zero_add, if_pos (show i < 17592186044416 by omega), if_pos (show i + 1 + (l.length - i) < 17592186044416 by omega), List.append_assoc, List.singleton_append]
        exact Ev.now _
theorem put_val (x : Int) (l : List Int) (hl : l.length ≤ 1000000) : Ev (fun q => spec_l1Put.f q l x) (putB l x) := by
  have := put_loop x l hl l.length 0 (by omega)
  simpa [spec_l1Put.f] using this
theorem bl_bounds : ∀ (f x : Nat), x < 2 ^ f → x < 2 ^ (Go.Lib.bitLenAux f x) ∧ (x ≠ 0 → 1 ≤ Go.Lib.bitLenAux f x ∧ 2 ^ (Go.Lib.bitLenAux f x - 1) ≤ x)
  | 0, x, h => by simp at h; subst h; simp [Go.Lib.bitLenAux]
  | f + 1, x, h => by
    unfold Go.Lib.bitLenAux
    by_cases h0 : x = 0
    · simp [h0]
    · rw [if_neg h0]
      have ih := bl_bounds f (x / 2) (by rw [Nat.pow_succ] at h; omega)
      refine ⟨?_, fun _ => ⟨by omega, ?_⟩⟩
      · rw [Nat.add_comm, Nat.pow_succ]; omega
      · by_cases h1 : x / 2 = 0
        · have : x = 1 := by omega
          subst this
          rw [h1]
          cases f <;> simp [Go.Lib.bitLenAux]
        · have := ih.2 h1
          have e : 1 + Go.Lib.bitLenAux f (x / 2) - 1 = (Go.Lib.bitLenAux f (x / 2) - 1) + 1 := by omega
          rw [e, Nat.pow_succ]; omega
def bl (n : Nat) : Nat := Go.Lib.bitLen n
theorem bl_lt {n : Nat} (h : n < 2 ^ 64) : n < 2 ^ bl n := (bl_bounds 64 n h).1
theorem bl_ge {n i : Nat} (h : n < 2 ^ 64) (hi : i < bl n) : 2 ^ i ≤ n := by
  by_cases h0 : n = 0
  · subst h0; have e : bl 0 = 0 := by decide
    omega
  · have := (bl_bounds 64 n h).2 h0
    have e : bl n = Go.Lib.bitLenAux 64 n := rfl
    exact Nat.le_trans (Nat.pow_le_pow_right (by omega) (by omega)) this.2
theorem bl_small {n : Nat} (h : n ≤ 1000000) : bl n ≤ 20 := by
  rcases Nat.lt_or_ge 20 (bl n) with h1 | h1
  · have := bl_ge (n := n) (i := 20) (by omega) h1; omega
  · exact h1
theorem shr_nat (n i : Nat) (hi : i ≤ 64) : shr .i64 (n : Int) (i : Int) = ((n / 2 ^ i : Nat) : Int) := by
  unfold shr
  rw [Int.toNat_natCast, Nat.min_eq_left (by simpa [IntKind.bits] using hi)]
  simp
theorem wrapu {n : Int} (h0 : 0 ≤ n) (h1 : n ≤ 1000000000000) : IntKind.u64.wrap n = n := by
  simp only [IntKind.wrap, IntKind.bits, IntKind.signed, Bool.false_eq_true, false_and, if_false]
  simp
  omega
theorem wrap62 (n : Int) (h0 : 0 ≤ n) (h1 : n < 2 ^ 62) : IntKind.i64.wrap n = n := by
  have e : (2 : Int) ^ 62 = 4611686018427387904 := by decide
  simp only [IntKind.wrap, IntKind.bits, IntKind.signed]
  simp
  omega
theorem bit_and (q : Nat) (h : q ≤ 1000000) : (Go.bits .and .i64 (q : Int) 1 = 1) ↔ q % 2 = 1 := by
  have e : (2 : Int) ^ 62 = 4611686018427387904 := by decide
  have hb : Go.bits .and .i64 (q : Int) ((2 : Int) ^ 1 - 1) = (q : Int) % 2 ^ 1 := bits_mask .i64 62 (by decide) wrap62 1 (by decide) (q : Int) (by omega) (by omega)
  have e1 : (2 : Int) ^ 1 - 1 = 1 := by decide
  have e2 : (2 : Int) ^ 1 = 2 := by decide
  rw [e1, e2] at hb
  rw [hb]; omega
theorem bit_mod (q : Nat) : (Int.tmod (q : Int) 2 = 1) ↔ q % 2 = 1 := by
  rw [Int.tmod_eq_emod_of_nonneg (by omega)]; omega
theorem half_step (n i : Nat) : n / 2 ^ i = 2 * (n / 2 ^ (i + 1)) + (n / 2 ^ i) % 2 := by
  have : n / 2 ^ (i + 1) = (n / 2 ^ i) / 2 := by rw [Nat.pow_succ, Nat.div_div_eq_div_mul]
  rw [this]; omega
theorem chLength_loop {n : Nat} (h : n ≤ 1000000) : ∀ (d i : Nat), i + d = bl n → Ev (fun k => spec_chLength.l0 k n i) (bl n : Int) := by
  have hs := bl_small h
  intro d
  induction d with
  | zero =>
    intro i hi
    have hlt := bl_lt (n := n) (by omega)
    have e : n / 2 ^ i = 0 := Nat.div_eq_of_lt (by rw [show i = bl n by omega]; exact hlt)
    refine up ?_
    simp only [spec_chLength.l0, if_pos (show (0 : Int) ≤ (i : Int) by omega), shr_nat n i (by omega), e, if_neg (show ¬ ((0 : Nat) : Int) > 0 by omega)]
    rw [show i = bl n by omega]
    exact Ev.now _
  | succ d ih =>
    intro i hi
    have hge := bl_ge (n := n) (i := i) (by omega) (by omega)
    have e : 0 < n / 2 ^ i := Nat.div_pos hge (Nat.pow_pos (by omega))
    refine up ?_
    simp only [spec_chLength.l0, if_pos (show (0 : Int) ≤ (i : Int) by omega), shr_nat n i (by omega), if_pos (show ((n / 2 ^ i : Nat) : Int) > 0 by omega), wid (x := (i : Int) + 1) (by omega) (by omega)]
    exact ih (i + 1) (by omega)
theorem chLength_val {n : Nat} (h : n ≤ 1000000) : Ev (fun k => spec_chLength.f k n) (bl n : Int) := chLength_loop h (bl n) 0 (by omega)
theorem bitsLen_val {n : Nat} (h : n ≤ 1000000) : bits_Len.f (IntKind.u64.wrap (n : Int)) = some (bl n : Int) := by
  rw [wrapu (by omega) (by omega)]
  unfold bits_Len.f
  rw [if_pos (by omega), Int.toNat_natCast]; rfl
/-- The beginnings of a number in binary, from the i-th on. -/
def begins (n : Nat) : Nat → List Int
  | 0 => []
  | i + 1 => ((n / 2 ^ i : Nat) : Int) :: begins n i
theorem begins_length (n : Nat) : ∀ i, (begins n i).length = i
  | 0 => rfl
  | i + 1 => by simp [begins, begins_length n i]
theorem specOf_loop {n : Nat} : ∀ (i : Nat) (acc : List Int), i ≤ 64 → acc.length + i ≤ 1000 → Ev (fun k => spec_luOf.l0 k n acc ((i : Int) - 1)) (acc ++ begins n i) := by
  intro i
  induction i with
  | zero =>
    intro acc _ _
    refine up ?_
    simp only [spec_luOf.l0, if_neg (show ¬ ((0 : Nat) : Int) - 1 ≥ 0 by omega), begins, List.append_nil]
    exact Ev.now _
  | succ i ih =>
    intro acc hi ha
    refine up ?_
    simp only [spec_luOf.l0, show ((i + 1 : Nat) : Int) - 1 = (i : Int) by omega, if_pos (show (i : Int) ≥ 0 by omega), if_pos (show (0 : Int) ≤ (i : Int) by omega), if_pos (show acc.length < 17592186044416 by omega), shr_nat n i (by omega), wid (x := (i : Int) - 1) (by omega) (by omega)]
    have := ih (acc ++ [((n / 2 ^ i : Nat) : Int)]) (by omega) (by simp; omega)
    simpa [begins] using this
theorem implOf_loop {n : Nat} : ∀ (i : Nat) (acc : List Int), i ≤ 64 → acc.length + i ≤ 1000 → Ev (fun k => impl_ladderOf.l0 k n acc ((i : Int) - 1)) (acc ++ begins n i) := by
  intro i
  induction i with
  | zero =>
    intro acc _ _
    refine up ?_
    simp only [impl_ladderOf.l0, if_neg (show ¬ ((0 : Nat) : Int) - 1 ≥ 0 by omega), begins, List.append_nil]
    exact Ev.now _
  | succ i ih =>
    intro acc hi ha
    refine up ?_
    simp only [impl_ladderOf.l0, show ((i + 1 : Nat) : Int) - 1 = (i : Int) by omega, if_pos (show (i : Int) ≥ 0 by omega), if_pos (show (0 : Int) ≤ (i : Int) by omega), if_pos (show acc.length < 17592186044416 by omega), shr_nat n i (by omega), wid (x := (i : Int) - 1) (by omega) (by omega)]
    have := ih (acc ++ [((n / 2 ^ i : Nat) : Int)]) (by omega) (by simp; omega)
    simpa [begins] using this
theorem specOf {n : Nat} (hn : n ≤ 1000000) : Ev (fun k => spec_luOf.f k n) (begins n (bl n)) := by
  have hs := bl_small hn
  simp only [spec_luOf.f]
  refine Ev.bind (chLength_val hn) ?_
  have h := specOf_loop (n := n) (bl n) [] (by omega) (by simp; omega)
  simpa [wid (x := (bl n : Int) - 1) (by omega) (by omega)] using h
theorem implOf {n : Nat} (hn : n ≤ 1000000) : Ev (fun k => impl_ladderOf.f k n) (begins n (bl n)) := by
  have hs := bl_small hn
  simp only [impl_ladderOf.f, bitsLen_val hn, Option.bind_some]
  have h := implOf_loop (n := n) (bl n) [] (by omega) (by simp; omega)
  simpa [wid (x := (bl n : Int) - 1) (by omega) (by omega)] using h
theorem l1In_val (x a b : Int) : spec_l1In.f x a b = some (decide (a ≤ x) && decide (x ≤ b)) := by
  unfold spec_l1In.f
  by_cases h : a ≤ x
  · rw [if_pos h]; simp [h]
  · rw [if_neg h]; simp [h]
theorem begins_range (n : Nat) : ∀ i, ∀ k ∈ begins n i, 0 ≤ k ∧ k ≤ n
  | 0, k, h => by simp [begins] at h
  | i + 1, k, h => by
    unfold begins at h
    rcases List.mem_cons.1 h with rfl | h
    · have := Nat.div_le_self n (2 ^ i)
      exact ⟨Int.natCast_nonneg _, Int.ofNat_le.2 this⟩
    · exact begins_range n i k h
theorem sCh_loop {n : Nat} (hn : n ≤ 1000000) (L : List Int) (hL : ∀ k ∈ L, 0 ≤ k ∧ k ≤ n) (hl : L.length ≤ 1000) : ∀ (d i : Nat) (out : List Int), i + d = L.length → out.length ≤ 2 * i + 1 → out.Pairwise (· < ·) → (∀ x, x ∈ out ↔ x ∈ lcRaw n (L.take i)) → Ev (fun q => spec_luChain.l0 q n out L (L.length : Int) i) (YtgpdmgbnefoegaaInc.incOf (lcRaw n L)) := by
  intro d
  induction d with
  | zero =>
    intro i out h _ hs hm
    refine up ?_
    simp only [spec_luChain.l0, if_neg (show ¬ (i : Int) < (L.length : Int) by omega)]
    rw [List.take_of_length_le (by omega)] at hm
    rw [YtgpdmgbnefoegaaInc.inc_unique hs hm]
    exact Ev.now _
  | succ d ih =>
    intro i out h ho hs hm
    have hi : i < L.length := by omega
    obtain ⟨k0, k1⟩ := hL L[i] (List.getElem_mem hi)
    have hst : lcRaw n (L.take (i + 1)) = lcRaw n (L.take i) ++ (if L[i] = (n : Int) then [] else [L[i], wrap64 (L[i] + 1)]) := by
      rw [List.take_succ_eq_append_getElem hi, lcRaw_snoc]
    refine up ?_
    simp only [spec_luChain.l0, if_pos (show (i : Int) < (L.length : Int) by omega), if_pos (show (0 : Int) ≤ (i : Int) by omega), rd_at hi, wid (x := (i : Int) + 1) (by omega) (by omega), wid (x := L[i] + 1) (by omega) (by omega)]
    by_cases e : L[i] = (n : Int)
    · rw [if_pos_ev e]
      rw [if_pos e, List.append_nil] at hst
      exact ih (i + 1) out (by omega) (by omega) hs (by rw [hst]; exact hm)
    · rw [if_neg_ev e]
      rw [if_neg e, wid (x := L[i] + 1) (by omega) (by omega)] at hst
      have l1 := putB_len L[i] out
      have l2 := putB_len (L[i] + 1) (putB out L[i])
      refine Ev.bind (put_val _ out (by omega)) ?_
      refine Ev.bind (put_val _ _ (by omega)) ?_
      refine ih (i + 1) _ (by omega) (by omega) (putB_sorted _ _ (putB_sorted _ _ hs)) fun x => ?_
      rw [putB_mem, putB_mem, hm, hst, List.mem_append]
      simp only [List.mem_cons, List.not_mem_nil, or_false]
      constructor
      · rintro (h | h | h)
        · exact .inr (.inr h)
        · exact .inr (.inl h)
        · exact .inl h
      · rintro (h | h | h)
        · exact .inr (.inr h)
        · exact .inr (.inl h)
        · exact .inl h
def lcOf (n : Nat) : List Int := YtgpdmgbnefoegaaInc.incOf (lcRaw n (begins n (bl n)))
theorem lcOf_len {n : Nat} (hn : n ≤ 1000000) : (lcOf n).length ≤ 41 := by
  have h1 := YtgpdmgbnefoegaaInc.inc_length (lcRaw n (begins n (bl n)))
  have h2 := lcRaw_len n (begins n (bl n))
  rw [begins_length] at h2
  have := bl_small hn
  unfold lcOf; omega
theorem specLc {n : Nat} (hn : n ≤ 1000000) : Ev (fun q => spec_luChain.f q n) (lcOf n) := by
  have hs := bl_small hn
  simp only [spec_luChain.f]
  refine Ev.bind (specOf hn) ?_
  exact sCh_loop hn _ (begins_range n _) (by rw [begins_length]; omega) (begins n (bl n)).length 0 [(n : Int)] (by omega) (by simp) (by simp) (by rw [List.take_zero, lcRaw_nil]; exact fun _ => Iff.rfl)
theorem implLc {n : Nat} (hn : n ≤ 1000000) : Ev (fun q => impl_ladderChain.f q n) (lcOf n) := by
  have hs := bl_small hn
  simp only [impl_ladderChain.f]
  refine Ev.bind (implOf hn) ?_
  rw [if_pos_ev (by rw [begins_length]; omega)]
  exact Ev.now _
theorem eqIntS_loop (l : List Int) (hl : l.length ≤ 140737488351232) : ∀ (d : Nat) (i : Int), 0 ≤ i → i + d = l.length → Ev (fun k => laws_eqIntS.l0 k l l i) true := by
  intro d
  induction d with
  | zero =>
    intro i h0 h
    refine up ?_
    simp only [laws_eqIntS.l0, if_neg (show ¬ i < (l.length : Int) by omega)]
    exact Ev.now _
  | succ d ih =>
    intro i h0 h
    refine up ?_
    simp only [laws_eqIntS.l0, if_pos (show i < (l.length : Int) by omega), if_pos h0, if_true, wid (x := i + 1) (by omega) (by omega)]
    exact ih (i + 1) (by omega) (by omega)
theorem eqIntS_same (l : List Int) (hl : l.length ≤ 140737488351232) : Ev (fun k => laws_eqIntS.f k l l) true := by
  simp only [laws_eqIntS.f, if_true]
  exact eqIntS_loop l hl l.length 0 (by omega) (by omega)
def marks : Int → Nat → List Int
  | _, 0 => []
  | a, n + 1 => a :: marks (a + 1) n
theorem mark_loop : ∀ (rest done : List Int) (a : Int), done.length + rest.length ≤ 140737488351232 → 0 ≤ a → a ≤ 140737488351232 →
    Ev (fun k => laws_markIntS.l0 k (done ++ rest) (a + done.length) done.length) (a + done.length + rest.length, done ++ marks (a + done.length) rest.length) := by
  intro rest
  induction rest with
  | nil =>
    intro done a h h0 h1
    refine up ?_
    simp only [laws_markIntS.l0, List.append_nil, if_neg (show ¬ (done.length : Int) < (done.length : Int) by omega), List.length_nil, marks]
    exact ⟨0, fun _ _ => by simp⟩
  | cons x rest ih =>
    intro done a h h0 h1
    simp only [List.length_cons] at h
    refine up ?_
    have e : (done ++ x :: rest).set ((done.length : Int)).toNat (a + done.length) = (done ++ [a + done.length]) ++ rest := by
      rw [Int.toNat_natCast, List.set_append_right _ _ (Nat.le_refl _)]; simp
    simp only [laws_markIntS.l0, if_pos (show (done.length : Int) < ((done ++ x :: rest).length : Int) by simp; omega), if_pos (show (0 : Int) ≤ (done.length : Int) by omega), e, wid (x := a + done.length + 1) (by omega) (by omega), wid (x := (done.length : Int) + 1) (by omega) (by omega)]
    have := ih (done ++ [a + done.length]) a (by simp; omega) h0 h1
    simp only [List.length_append, List.length_singleton, List.append_assoc, List.singleton_append, Int.natCast_add, Int.natCast_one] at this
    simp only [List.append_assoc, List.singleton_append, List.length_cons, marks, Int.natCast_add, Int.natCast_one]
    rw [show a + (done.length : Int) + ((rest.length : Int) + 1) = a + ((done.length : Int) + 1) + rest.length by omega, show a + (done.length : Int) + 1 = a + ((done.length : Int) + 1) by omega]
    exact this
theorem mark_all (l : List Int) (hl : l.length ≤ 140737488351232) : Ev (fun k => laws_markIntS.f k l 1) (1 + l.length, marks 1 l.length) := by
  have := mark_loop l [] 1 (by simpa using hl) (by omega) (by omega)
  simpa [laws_markIntS.f] using this
theorem marks_length (a : Int) (n : Nat) : (marks a n).length = n := by
  induction n generalizing a with
  | zero => rfl
  | succ n ih => simp [marks, ih]
theorem held_loop : ∀ (n : Nat) (done : List Int) (a : Int), done.length + n ≤ 140737488351232 → 0 ≤ a → a ≤ 140737488351232 →
    Ev (fun k => laws_heldIntS.l0 k (done ++ marks (a + done.length) n) (a + done.length) done.length) (a + done.length + n) := by
  intro n
  induction n with
  | zero =>
    intro done a h h0 h1
    refine up ?_
    simp only [laws_heldIntS.l0, marks, List.append_nil, if_neg (show ¬ (done.length : Int) < (done.length : Int) by omega)]
    exact ⟨0, fun _ _ => by simp⟩
  | succ n ih =>
    intro done a h h0 h1
    refine up ?_
    have e : rd (done ++ marks (a + done.length) (n + 1)) (done.length : Int) = a + done.length := by
      unfold rd; rw [Int.toNat_natCast]; simp [marks]
    simp only [laws_heldIntS.l0, if_pos (show (done.length : Int) < ((done ++ marks (a + done.length) (n + 1)).length : Int) by simp [marks_length]; omega), if_pos (show (0 : Int) ≤ (done.length : Int) by omega), e, if_true, wid (x := a + done.length + 1) (by omega) (by omega), wid (x := (done.length : Int) + 1) (by omega) (by omega)]
    have := ih (done ++ [a + done.length]) a (by simp; omega) h0 h1
    simp only [List.length_append, List.length_singleton, List.append_assoc, List.singleton_append, Int.natCast_add, Int.natCast_one] at this
    simp only [marks, Int.natCast_add, Int.natCast_one]
    rw [show a + (done.length : Int) + ((n : Int) + 1) = a + ((done.length : Int) + 1) + n by omega, show a + (done.length : Int) + 1 = a + ((done.length : Int) + 1) by omega]
    exact this
theorem held_all (n : Nat) (hl : n ≤ 140737488351232) : Ev (fun k => laws_heldIntS.f k (marks 1 n) 1) (1 + n) := by
  have := held_loop n [] 1 (by simpa using hl) (by omega) (by omega)
  simpa [laws_heldIntS.f] using this
theorem both (n : Int) : ∃ r b, r.length ≤ 140737488351232 ∧ Ev (fun k => spec_LadderChain.f k n) (r, b) ∧ Ev (fun k => impl_LadderChain.f k n) (r, b) := by
  by_cases h : 1 ≤ n ∧ n ≤ 1000000
  · obtain ⟨h0, h1⟩ := h
    obtain ⟨N, rfl⟩ := Int.eq_ofNat_of_zero_le (show 0 ≤ n by omega)
    have hl := lcOf_len (n := N) (by omega)
    refine ⟨lcOf N, true, by omega, ?_, ?_⟩
    · simp only [spec_LadderChain.f, spec_luIndex.f, spec_l1In.f, ge_iff_le, h0, h1, decide_true, if_true, Option.bind_some]
      exact Ev.bind (specLc (by omega)) (Ev.now _)
    · simp only [impl_LadderChain.f, impl_in.f, ge_iff_le, h0, h1, decide_true, if_true, Option.bind_some]
      exact Ev.bind (implLc (by omega)) (Ev.now _)
  · refine ⟨[], false, by simp, ⟨0, fun k _ => ?_⟩, ⟨0, fun k _ => ?_⟩⟩
    · simp only [spec_LadderChain.f, spec_luIndex.f, spec_l1In.f]
      by_cases a : n ≥ 1 <;> by_cases b : n ≤ 1000000 <;> simp [a, b] <;> omega
    · simp only [impl_LadderChain.f, impl_in.f]
      by_cases a : n ≥ 1 <;> by_cases b : n ≤ 1000000 <;> simp [a, b] <;> omega
theorem main : laws_FnExactLadderChain.Pure := by
  intro a0 _
  obtain ⟨r, b, hl, hs, hi⟩ := both a0
  refine Ev.rounds ?_
  simp only [laws_FnExactLadderChain.f]
  refine Ev.bind hs ?_
  refine Ev.bind hi ?_
  refine Ev.bind (eqIntS_same r hl) ?_
  simp only [if_true]
  refine up ?_
  simp only [laws_FnExactLadderChain.j0, bne_self_eq_false, Bool.false_eq_true, if_false]
  refine Ev.bind (mark_all r hl) ?_
  refine Ev.bind (held_all r.length hl) ?_
  simp only [if_neg (show ¬ (1 + (r.length : Int)) < 0 by omega), if_true]
  refine Ev.bind hi ?_
  refine Ev.bind (eqIntS_same r hl) ?_
  simp only [if_true]
  refine up ?_
  simp only [laws_FnExactLadderChain.j1, bne_self_eq_false, Bool.false_eq_true, if_false]
  refine Ev.bind (held_all r.length hl) ?_
  simp only [if_neg (show ¬ (1 + (r.length : Int)) < 0 by omega), if_true]
  exact Ev.now _
end Go.Proofs.Ytgpdmgbnefoegaa.PureFnExactLadderChainL
namespace Go.Proofs.Ytgpdmgbnefoegaa.Pure
open Go.Proofs.Ytgpdmgbnefoegaa.PFnExactLadderChain
theorem FnExactLadderChain : laws_FnExactLadderChain.Pure := PureFnExactLadderChainL.main
end Go.Proofs.Ytgpdmgbnefoegaa.Pure
