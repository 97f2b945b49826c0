/- The ladder tells the values that the rule tells, values at products are values of values, and each step of the rule holds: the statement FnLaddersOfLucas holds for all its drawn arguments; nothing is asked of them. -/
import Derived.Test.YtdmpgpmdgmejpaaPFnLaddersOfLucasx1
import Derived.Test.YtdmpgpmdgmejpaaPFnLaddersOfLucasx2
import Derived.Test.YtdmpgpmdgmejpaaPFnLaddersOfLucasx3
set_option linter.unusedVariables false
set_option linter.unusedSimpArgs false
namespace Go.Proofs.Ytdmpgpmdgmejpaa.PureFnLaddersOfLucasL
open Go.RowKit Go.Proofs.Ytdmpgpmdgmejpaa.PFnLaddersOfLucas Go.Proofs.YtdmpgpmdgmejpaaW.PrintWords Go.Proofs.YtdmpgpmdgmejpaaW.PrintLast Go.Proofs.YtdmpgpmdgmejpaaW.PrintMore
theorem up {α : Type} {g : Nat → Option α} {r : α} (h : Ev (fun k => g (k + 1)) r) : Ev g r := by
  obtain ⟨K, h⟩ := h
  refine ⟨K + 1, fun k hk => ?_⟩
  obtain ⟨m, rfl⟩ : ∃ m, k = m + 1 := ⟨k - 1, by omega⟩
  exact h m (by omega)
theorem wid {x : Int} (h0 : -9223372036854775808 ≤ x) (h1 : x ≤ 9223372036854775807) : wrap64 x = x := by unfold wrap64; omega
theorem ite_yes {α : Type} {c : Prop} [Decidable c] {a b : α} (h : c) : (if c then a else b) = a := if_pos h
theorem ite_no {α : Type} {c : Prop} [Decidable c] {a b : α} (h : ¬ c) : (if c then a else b) = b := if_neg h
theorem evsome {α β : Type} {x : Option α} {a : α} {f : Nat → α → Option β} {r : β} (hx : x = some a) (h : Ev (fun k => f k a) r) : Ev (fun k => x.bind (f k)) r := by subst hx; exact h
theorem if_pos_ev {α : Type} {c : Prop} [Decidable c] {f g : Nat → Option α} (h : c) : (fun k => if c then f k else g k) = f := funext fun k => if_pos h
theorem if_neg_ev {α : Type} {c : Prop} [Decidable c] {f g : Nat → Option α} (h : ¬ c) : (fun k => if c then f k else g k) = g := funext fun k => if_neg h
theorem poMod_val {a b : Int} (hb : 0 < b) (hb2 : b ≤ 1000000000000000) : spec_poMod.f a b = some (a % b) := by
  have h : -b < Int.tmod a b ∧ Int.tmod a b < b := ⟨Int.lt_tmod_of_pos a hb, Int.tmod_lt_of_pos a hb⟩
  unfold spec_poMod.f
  rw [if_neg (by omega), wid (by omega) (by omega), Int.tmod_eq_emod_of_nonneg (by omega), Int.add_emod_right]
  congr 1
  rw [Int.tmod_def, Int.sub_mul_emod_self_left]
theorem c_mul {m a a' b b' : Int} (h : a % m = a' % m) (h' : b % m = b' % m) : (a * b) % m = (a' * b') % m := by rw [Int.mul_emod, h, h', ← Int.mul_emod]
theorem c_sub {m a a' b b' : Int} (h : a % m = a' % m) (h' : b % m = b' % m) : (a - b) % m = (a' - b') % m := by rw [Int.sub_emod, h, h', ← Int.sub_emod]
theorem c_add {m a a' b b' : Int} (h : a % m = a' % m) (h' : b % m = b' % m) : (a + b) % m = (a' + b') % m := by rw [Int.add_emod, h, h', ← Int.add_emod]
theorem c_self (m a : Int) : (a % m) % m = a % m := Int.emod_emod_of_dvd a (Int.dvd_refl m)
theorem m_range {m a : Int} (hm : 1 ≤ m) : 0 ≤ a % m ∧ a % m < m := ⟨Int.emod_nonneg _ (by omega), Int.emod_lt_of_pos _ (by omega)⟩
theorem mul_range {a b M : Int} (ha0 : 0 ≤ a) (ha : a ≤ M) (hb0 : 0 ≤ b) (hb : b ≤ M) : 0 ≤ a * b ∧ a * b ≤ M * M := ⟨Int.mul_nonneg ha0 hb0, Int.mul_le_mul ha hb hb0 (by omega)⟩
/-- The Lucas values. -/
def V (p : Int) : Nat → Int
  | 0 => 2
  | 1 => p
  | n + 2 => p * V p (n + 1) - V p n
theorem V_step (p : Int) (n : Nat) : V p (n + 2) = p * V p (n + 1) - V p n := rfl
theorem V_prod (p : Int) : ∀ k n, V p (n + k) * V p k = V p (n + 2 * k) + V p n
  | 0, n => by simp only [V, Nat.add_zero, Nat.mul_zero]; grind
  | 1, n => by
    have := V_step p n
    simp only [V, Nat.mul_one]; grind
  | k + 2, n => by
    have h1 := V_prod p (k + 1) (n + 1)
    have h0 := V_prod p k (n + 2)
    have e1 := V_step p k
    have e2 := V_step p n
    have e3 := V_step p (n + 2 * k + 2)
    rw [show n + (k + 2) = n + k + 2 by omega, e1, show n + 2 * (k + 2) = n + 2 * k + 2 + 2 by omega, e3]
    rw [show n + 1 + (k + 1) = n + k + 2 by omega, show n + 1 + 2 * (k + 1) = n + 2 * k + 2 + 1 by omega] at h1
    rw [show n + 2 + k = n + k + 2 by omega, show n + 2 + 2 * k = n + 2 * k + 2 by omega] at h0
    grind
theorem V_double (p : Int) (q : Nat) : V p (2 * q) = V p q * V p q - 2 := by
  have := V_prod p q 0
  simp only [Nat.zero_add, V] at this; omega
theorem V_odd (p : Int) (q : Nat) : V p (2 * q + 1) = V p q * V p (q + 1) - p := by
  have := V_prod p q 1
  rw [show 1 + q = q + 1 by omega, show 1 + 2 * q = 2 * q + 1 by omega] at this
  have e : V p 1 = p := rfl
  rw [e, Int.mul_comm] at this; omega
theorem V_next (p : Int) (q : Nat) : V p (2 * q + 2) = V p (q + 1) * V p (q + 1) - 2 := by
  rw [show 2 * q + 2 = 2 * (q + 1) by omega, V_double]
theorem V_comp (p : Int) (k : Nat) : ∀ n, V p (n * k) = V (V p k) n
  | 0 => by simp [V]
  | 1 => by simp [V]
  | n + 2 => by
    have h1 := V_comp p k (n + 1)
    have h0 := V_comp p k n
    have := V_prod p k (n * k)
    rw [V_step, ← h1, ← h0, show (n + 2) * k = n * k + 2 * k by rw [Nat.add_mul], show (n + 1) * k = n * k + k by rw [Nat.add_mul, Nat.one_mul], Int.mul_comm]
    omega
theorem V_mod (p m : Int) : ∀ n, V (p % m) n % m = V p n % m
  | 0 => rfl
  | 1 => by simp only [V]; exact c_self _ _
  | n + 2 => by
    rw [V_step, V_step]
    exact c_sub (c_mul (c_self _ _) (V_mod p m (n + 1))) (V_mod p m n)
theorem ladder_sizes {a b c m : Int} (hm : 1 ≤ m) (hm2 : m ≤ 1000000) (hc : -1000000 ≤ c) (hc2 : c ≤ 1000000) : -9000000000000 ≤ (a % m) * (b % m) - c ∧ (a % m) * (b % m) - c ≤ 9000000000000 ∧ -9000000000000 ≤ (a % m) * (b % m) ∧ (a % m) * (b % m) ≤ 9000000000000 := by
  have h1 := m_range (m := m) (a := a) hm
  have h2 := m_range (m := m) (a := b) hm
  have h4 := mul_range (M := 1000000) h1.1 (by omega) h2.1 (by omega)
  omega
theorem l_double {p m : Int} (q : Nat) : ((V p q % m) * (V p q % m) - 2) % m = V p (2 * q) % m := by
  rw [V_double]; exact c_sub (c_mul (c_self _ _) (c_self _ _)) rfl
theorem l_odd {p m c : Int} (q : Nat) (hc : c % m = p % m) : ((V p q % m) * (V p (q + 1) % m) - c) % m = V p (2 * q + 1) % m := by
  rw [V_odd]; exact c_sub (c_mul (c_self _ _) (c_self _ _)) hc
theorem l_next {p m : Int} (q : Nat) : ((V p (q + 1) % m) * (V p (q + 1) % m) - 2) % m = V p (2 * q + 2) % m := by
  rw [V_next]; exact c_sub (c_mul (c_self _ _) (c_self _ _)) rfl
theorem bl_bounds : ∀ (f x : Nat), x < 2 ^ f → x < 2 ^ (Go.Lib.bitLenAux f x) ∧ (x ≠ 0 → 1 ≤ Go.Lib.bitLenAux f x ∧ 2 ^ (Go.Lib.bitLenAux f x - 1) ≤ x)
  | 0, x, h => by simp at h; subst h; simp [Go.Lib.bitLenAux]
  | f + 1, x, h => by
    unfold Go.Lib.bitLenAux
    by_cases h0 : x = 0
    · simp [h0]
    · rw [if_neg h0]
      have ih := bl_bounds f (x / 2) (by rw [Nat.pow_succ] at h; omega)
      refine ⟨?_, fun _ => ⟨by omega, ?_⟩⟩
      · rw [Nat.add_comm, Nat.pow_succ]; omega
      · by_cases h1 : x / 2 = 0
        · have : x = 1 := by omega
          subst this
          rw [h1]
          cases f <;> simp [Go.Lib.bitLenAux]
        · have := ih.2 h1
          have e : 1 + Go.Lib.bitLenAux f (x / 2) - 1 = (Go.Lib.bitLenAux f (x / 2) - 1) + 1 := by omega
          rw [e, Nat.pow_succ]; omega
def bl (n : Nat) : Nat := Go.Lib.bitLen n
theorem bl_lt {n : Nat} (h : n < 2 ^ 64) : n < 2 ^ bl n := (bl_bounds 64 n h).1
theorem bl_ge {n i : Nat} (h : n < 2 ^ 64) (hi : i < bl n) : 2 ^ i ≤ n := by
  by_cases h0 : n = 0
  · subst h0; have e : bl 0 = 0 := by decide
    omega
  · have := (bl_bounds 64 n h).2 h0
    have e : bl n = Go.Lib.bitLenAux 64 n := rfl
    exact Nat.le_trans (Nat.pow_le_pow_right (by omega) (by omega)) this.2
theorem bl_small {n : Nat} (h : n ≤ 1000000) : bl n ≤ 20 := by
  rcases Nat.lt_or_ge 20 (bl n) with h1 | h1
  · have := bl_ge (n := n) (i := 20) (by omega) h1; omega
  · exact h1
theorem shr_nat (n i : Nat) (hi : i ≤ 64) : shr .i64 (n : Int) (i : Int) = ((n / 2 ^ i : Nat) : Int) := by
  unfold shr
  rw [Int.toNat_natCast, Nat.min_eq_left (by simpa [IntKind.bits] using hi)]
  simp
theorem wrapu {n : Int} (h0 : 0 ≤ n) (h1 : n ≤ 1000000000000) : IntKind.u64.wrap n = n := by
  simp only [IntKind.wrap, IntKind.bits, IntKind.signed, Bool.false_eq_true, false_and, if_false]
  simp
  omega
theorem bitsLen_val {n : Nat} (h : n ≤ 1000000) : bits_Len.f (IntKind.u64.wrap (n : Int)) = some (bl n : Int) := by
  rw [wrapu (by omega) (by omega)]
  unfold bits_Len.f
  rw [if_pos (by omega), Int.toNat_natCast]; rfl
theorem wrap62 (n : Int) (h0 : 0 ≤ n) (h1 : n < 2 ^ 62) : IntKind.i64.wrap n = n := by
  have e : (2 : Int) ^ 62 = 4611686018427387904 := by decide
  simp only [IntKind.wrap, IntKind.bits, IntKind.signed]
  simp
  omega
theorem bit_and (q : Nat) (h : q ≤ 1000000) : (Go.bits .and .i64 (q : Int) 1 = 1) ↔ q % 2 = 1 := by
  have e : (2 : Int) ^ 62 = 4611686018427387904 := by decide
  have hb : Go.bits .and .i64 (q : Int) ((2 : Int) ^ 1 - 1) = (q : Int) % 2 ^ 1 := bits_mask .i64 62 (by decide) wrap62 1 (by decide) (q : Int) (by omega) (by omega)
  have e1 : (2 : Int) ^ 1 - 1 = 1 := by decide
  have e2 : (2 : Int) ^ 1 = 2 := by decide
  rw [e1, e2] at hb
  rw [hb]; omega
theorem bit_mod (q : Nat) : (Int.tmod (q : Int) 2 = 1) ↔ q % 2 = 1 := by
  rw [Int.tmod_eq_emod_of_nonneg (by omega)]; omega
theorem half_step (n i : Nat) : n / 2 ^ i = 2 * (n / 2 ^ (i + 1)) + (n / 2 ^ i) % 2 := by
  have : n / 2 ^ (i + 1) = (n / 2 ^ i) / 2 := by rw [Nat.pow_succ, Nat.div_div_eq_div_mul]
  rw [this]; omega
theorem chLength_loop {n : Nat} (h : n ≤ 1000000) : ∀ (d i : Nat), i + d = bl n → Ev (fun k => spec_chLength.l0 k n i) (bl n : Int) := by
  have hs := bl_small h
  intro d
  induction d with
  | zero =>
    intro i hi
    have hlt := bl_lt (n := n) (by omega)
    have e : n / 2 ^ i = 0 := Nat.div_eq_of_lt (by rw [show i = bl n by omega]; exact hlt)
    refine up ?_
    simp only [spec_chLength.l0, if_pos (show (0 : Int) ≤ (i : Int) by omega), shr_nat n i (by omega), e, if_neg (show ¬ ((0 : Nat) : Int) > 0 by omega)]
    rw [show i = bl n by omega]
    exact Ev.now _
  | succ d ih =>
    intro i hi
    have hge := bl_ge (n := n) (i := i) (by omega) (by omega)
    have e : 0 < n / 2 ^ i := Nat.div_pos hge (Nat.pow_pos (by omega))
    refine up ?_
    simp only [spec_chLength.l0, if_pos (show (0 : Int) ≤ (i : Int) by omega), shr_nat n i (by omega), if_pos (show ((n / 2 ^ i : Nat) : Int) > 0 by omega), wid (x := (i : Int) + 1) (by omega) (by omega)]
    exact ih (i + 1) (by omega)
theorem chLength_val {n : Nat} (h : n ≤ 1000000) : Ev (fun k => spec_chLength.f k n) (bl n : Int) := chLength_loop h (bl n) 0 (by omega)
theorem specLadder_loop {p m : Int} (hp : -1000000 ≤ p) (hp2 : p ≤ 1000000) (hm : 1 ≤ m) (hm2 : m ≤ 1000000) {n : Nat} (hn : n ≤ 1000000) : ∀ (i : Nat), i ≤ 20 →
    Ev (fun k => spec_luLadder.l0 k p n m (V p (n / 2 ^ i) % m) (V p (n / 2 ^ i + 1) % m) ((i : Int) - 1)) (V p n % m, V p (n + 1) % m) := by
  intro i
  induction i with
  | zero =>
    intro _
    refine up ?_
    simp only [spec_luLadder.l0, if_neg (show ¬ ((0 : Nat) : Int) - 1 ≥ 0 by omega), Nat.pow_zero, Nat.div_one]
    exact Ev.now _
  | succ i ih =>
    intro hi
    have ih := ih (by omega)
    have e := half_step n i
    have hb1 := ladder_sizes (a := V p (n / 2 ^ (i + 1))) (b := V p (n / 2 ^ (i + 1))) (c := 2) hm hm2 (by omega) (by omega)
    have hb2 := ladder_sizes (a := V p (n / 2 ^ (i + 1))) (b := V p (n / 2 ^ (i + 1) + 1)) (c := p) hm hm2 hp hp2
    have hb3 := ladder_sizes (a := V p (n / 2 ^ (i + 1) + 1)) (b := V p (n / 2 ^ (i + 1) + 1)) (c := 2) hm hm2 (by omega) (by omega)
    generalize n / 2 ^ (i + 1) = q at *
    refine up ?_
    simp only [spec_luLadder.l0, show ((i + 1 : Nat) : Int) - 1 = (i : Int) by omega, if_pos (show (i : Int) ≥ 0 by omega), if_pos (show (0 : Int) ≤ (i : Int) by omega),
      wid (x := V p q % m * (V p q % m)) (by omega) (by omega), wid (x := V p q % m * (V p q % m) - 2) (by omega) (by omega),
      wid (x := V p q % m * (V p (q + 1) % m)) (by omega) (by omega), wid (x := V p q % m * (V p (q + 1) % m) - p) (by omega) (by omega),
      wid (x := V p (q + 1) % m * (V p (q + 1) % m)) (by omega) (by omega), wid (x := V p (q + 1) % m * (V p (q + 1) % m) - 2) (by omega) (by omega),
      poMod_val (a := V p q % m * (V p q % m) - 2) (b := m) (by omega) (by omega), poMod_val (a := V p q % m * (V p (q + 1) % m) - p) (b := m) (by omega) (by omega), poMod_val (a := V p (q + 1) % m * (V p (q + 1) % m) - 2) (b := m) (by omega) (by omega),
      Option.bind_some, l_double, l_odd q rfl, l_next, shr_nat n i (by omega), bit_mod, wid (x := (i : Int) - 1) (by omega) (by omega)]
    by_cases hr : n / 2 ^ i % 2 = 1
    · rw [if_pos_ev hr]
      rw [show 2 * q + 1 = n / 2 ^ i by omega, show 2 * (q + 1) = n / 2 ^ i + 1 by omega]
      exact ih
    · rw [if_neg_ev hr]
      rw [show 2 * q + 1 = n / 2 ^ i + 1 by omega, show 2 * q = n / 2 ^ i by omega]
      exact ih
theorem specLadder {p m : Int} (hp : -1000000 ≤ p) (hp2 : p ≤ 1000000) (hm : 1 ≤ m) (hm2 : m ≤ 1000000) {n : Nat} (hn : n ≤ 1000000) : Ev (fun k => spec_luLadder.f k p n m) (V p n % m, V p (n + 1) % m) := by
  have hs := bl_small hn
  simp only [spec_luLadder.f, poMod_val (a := 2) (b := m) (by omega) (by omega), poMod_val (a := p) (b := m) (by omega) (by omega), Option.bind_some]
  refine Ev.bind (chLength_val hn) ?_
  have h := specLadder_loop hp hp2 hm hm2 hn (bl n) hs
  rw [Nat.div_eq_of_lt (bl_lt (n := n) (by omega))] at h
  simpa [V, wid (x := (bl n : Int) - 1) (by omega) (by omega)] using h
theorem specByLadder {p m : Int} (n : Nat) (hp : -1000000 ≤ p) (hp2 : p ≤ 1000000) (hm : 1 ≤ m) (hm2 : m ≤ 1000000) (hn : n ≤ 1000000) : Ev (fun k => spec_LucasByLadder.f k p n m) (V p n % m, true) := by
  have h4 : (0 : Int) ≤ (n : Int) := by omega
  have h5 : (n : Int) ≤ 1000000 := by omega
  simp only [spec_LucasByLadder.f, spec_luGiven.f, spec_l1In.f, ge_iff_le, hp, hp2, hm, hm2, h4, h5, decide_true, if_true, Option.bind_some]
  exact Ev.bind (specLadder hp hp2 hm hm2 hn) (Ev.now _)
theorem specByLadder_no {p n m : Int} (h : ¬ ((-1000000 ≤ p ∧ p ≤ 1000000) ∧ (1 ≤ m ∧ m ≤ 1000000) ∧ 0 ≤ n ∧ n ≤ 1000000)) : Ev (fun k => spec_LucasByLadder.f k p n m) (0, false) := by
  simp only [spec_LucasByLadder.f, spec_luGiven.f, spec_l1In.f, ge_iff_le]
  by_cases a : -1000000 ≤ p <;> by_cases b : p ≤ 1000000 <;> by_cases c : 1 ≤ m <;> by_cases d : m ≤ 1000000 <;> by_cases f : 0 ≤ n <;> by_cases g : n ≤ 1000000 <;> first | (exfalso; omega) | exact ⟨0, fun k _ => by simp [a, b, c, d, f, g]⟩
theorem tmod_in {a b : Int} (hb : 0 < b) : -b < Int.tmod a b ∧ Int.tmod a b < b := by
  have h1 := Int.tmod_lt_of_pos a hb
  have h2 := Int.lt_tmod_of_pos a hb
  exact ⟨h2, h1⟩
theorem rest_val {a b : Int} (hb : 0 < b) (hb2 : b ≤ 1000000000000000) : impl_rest.f a b = some (a % b) := by
  have h := tmod_in (a := a) hb
  unfold impl_rest.f
  rw [if_neg (by omega), wid (by omega) (by omega), Int.tmod_eq_emod_of_nonneg (by omega), Int.add_emod_right]
  congr 1
  rw [Int.tmod_def, Int.sub_mul_emod_self_left]
theorem posmod {a b : Int} (hb : 0 < b) (hb2 : b ≤ 1000000000000000) : Int.tmod (wrap64 ((Int.tmod a b) + b)) b = a % b := by
  have h := rest_val (a := a) hb hb2
  unfold impl_rest.f at h
  rw [if_neg (by omega)] at h
  exact Option.some.inj h
theorem odd_test (x : Int) : Int.tmod x 2 = 0 ↔ x % 2 = 0 := by
  rw [← Int.dvd_iff_tmod_eq_zero, ← Int.dvd_iff_emod_eq_zero]
theorem half_even {x : Int} (h : x % 2 = 0) : Int.tdiv x 2 = x / 2 := Int.tdiv_eq_ediv_of_dvd (Int.dvd_of_emod_eq_zero h)
theorem implLadder_loop {p c m : Int} (hp : -1000000 ≤ c) (hp2 : c ≤ 1000000) (hc : c % m = p % m) (hm : 1 ≤ m) (hm2 : m ≤ 1000000) {n : Nat} (hn : n ≤ 1000000) : ∀ (i : Nat), i ≤ 20 →
    Ev (fun k => impl_ladder.l0 k c n m (V p (n / 2 ^ i) % m) (V p (n / 2 ^ i + 1) % m) ((i : Int) - 1)) (V p n % m, V p (n + 1) % m) := by
  intro i
  induction i with
  | zero =>
    intro _
    refine up ?_
    simp only [impl_ladder.l0, if_neg (show ¬ ((0 : Nat) : Int) - 1 ≥ 0 by omega), Nat.pow_zero, Nat.div_one]
    exact Ev.now _
  | succ i ih =>
    intro hi
    have ih := ih (by omega)
    have e := half_step n i
    have hq : n / 2 ^ i ≤ 1000000 := Nat.le_trans (Nat.div_le_self _ _) hn
    have hb1 := ladder_sizes (a := V p (n / 2 ^ (i + 1))) (b := V p (n / 2 ^ (i + 1))) (c := 2) hm hm2 (by omega) (by omega)
    have hb2 := ladder_sizes (a := V p (n / 2 ^ (i + 1))) (b := V p (n / 2 ^ (i + 1) + 1)) (c := c) hm hm2 hp hp2
    have hb3 := ladder_sizes (a := V p (n / 2 ^ (i + 1) + 1)) (b := V p (n / 2 ^ (i + 1) + 1)) (c := 2) hm hm2 (by omega) (by omega)
    generalize n / 2 ^ (i + 1) = q at *
    refine up ?_
    simp only [impl_ladder.l0, show ((i + 1 : Nat) : Int) - 1 = (i : Int) by omega, if_pos (show (i : Int) ≥ 0 by omega), if_pos (show (0 : Int) ≤ (i : Int) by omega),
      wid (x := V p q % m * (V p q % m)) (by omega) (by omega), wid (x := V p q % m * (V p q % m) - 2) (by omega) (by omega),
      wid (x := V p q % m * (V p (q + 1) % m)) (by omega) (by omega), wid (x := V p q % m * (V p (q + 1) % m) - c) (by omega) (by omega),
      wid (x := V p (q + 1) % m * (V p (q + 1) % m)) (by omega) (by omega), wid (x := V p (q + 1) % m * (V p (q + 1) % m) - 2) (by omega) (by omega),
      rest_val (a := V p q % m * (V p q % m) - 2) (b := m) (by omega) (by omega), rest_val (a := V p q % m * (V p (q + 1) % m) - c) (b := m) (by omega) (by omega), rest_val (a := V p (q + 1) % m * (V p (q + 1) % m) - 2) (b := m) (by omega) (by omega),
      Option.bind_some, l_double, l_odd q hc, l_next, shr_nat n i (by omega), bit_and _ hq, wid (x := (i : Int) - 1) (by omega) (by omega)]
    by_cases hr : n / 2 ^ i % 2 = 1
    · rw [if_pos_ev hr]
      rw [show 2 * q + 1 = n / 2 ^ i by omega, show 2 * (q + 1) = n / 2 ^ i + 1 by omega]
      exact ih
    · rw [if_neg_ev hr]
      rw [show 2 * q + 1 = n / 2 ^ i + 1 by omega, show 2 * q = n / 2 ^ i by omega]
      exact ih
theorem implLadder {p m : Int} (hm : 1 ≤ m) (hm2 : m ≤ 1000000) {n : Nat} (hn : n ≤ 1000000) : Ev (fun k => impl_ladder.f k p n m) (V p n % m, V p (n + 1) % m) := by
  have hs := bl_small hn
  have hr := m_range (m := m) (a := p) hm
  simp only [impl_ladder.f, rest_val (a := 2) (b := m) (by omega) (by omega), rest_val (a := p) (b := m) (by omega) (by omega), Option.bind_some, bitsLen_val hn]
  have h := implLadder_loop (p := p) (c := p % m) (by omega) (by omega) (c_self _ _) hm hm2 hn (bl n) hs
  rw [Nat.div_eq_of_lt (bl_lt (n := n) (by omega))] at h
  simpa [V, wid (x := (bl n : Int) - 1) (by omega) (by omega)] using h
theorem implByLadder {p m : Int} (n : Nat) (hp : -1000000 ≤ p) (hp2 : p ≤ 1000000) (hm : 1 ≤ m) (hm2 : m ≤ 1000000) (hn : n ≤ 1000000) : Ev (fun k => impl_LucasByLadder.f k p n m) (V p n % m, true) := by
  have h4 : (0 : Int) ≤ (n : Int) := by omega
  have h5 : (n : Int) ≤ 1000000 := by omega
  simp only [impl_LucasByLadder.f, impl_lucasOk.f, impl_in.f, ge_iff_le, hp, hp2, hm, hm2, h4, h5, decide_true, if_true, Option.bind_some]
  exact Ev.bind (implLadder hm hm2 hn) (Ev.now _)
theorem implByLadder_no {p n m : Int} (h : ¬ ((-1000000 ≤ p ∧ p ≤ 1000000) ∧ (1 ≤ m ∧ m ≤ 1000000) ∧ 0 ≤ n ∧ n ≤ 1000000)) : Ev (fun k => impl_LucasByLadder.f k p n m) (0, false) := by
  simp only [impl_LucasByLadder.f, impl_lucasOk.f, impl_in.f, ge_iff_le]
  by_cases a : -1000000 ≤ p <;> by_cases b : p ≤ 1000000 <;> by_cases c : 1 ≤ m <;> by_cases d : m ≤ 1000000 <;> by_cases f : 0 ≤ n <;> by_cases g : n ≤ 1000000 <;> first | (exfalso; omega) | exact ⟨0, fun k _ => by simp [a, b, c, d, f, g]⟩

theorem rule_step {p m : Int} (hm : 1 ≤ m) (n : Nat) : ((p % m) * (V p (n + 1) % m) - V p n % m) % m = V p (n + 2) % m := by
  rw [V]; exact c_sub (c_mul (c_self _ _) (c_self _ _)) (c_self _ _)
theorem rule_bounds {p a b m : Int} (hm : 1 ≤ m) (hm2 : m ≤ 1000000) : -9000000000000 ≤ (p % m) * (a % m) - b % m ∧ (p % m) * (a % m) - b % m ≤ 9000000000000 ∧ -9000000000000 ≤ (p % m) * (a % m) ∧ (p % m) * (a % m) ≤ 9000000000000 := by
  have h1 := m_range (m := m) (a := p) hm
  have h2 := m_range (m := m) (a := a) hm
  have h3 := m_range (m := m) (a := b) hm
  have h4 := mul_range (M := 1000000) h1.1 (by omega) h2.1 (by omega)
  omega
theorem specRule_loop {p m : Int} (hm : 1 ≤ m) (hm2 : m ≤ 1000000) : ∀ (d n : Nat), d ≤ 2000 → Ev (fun k => spec_LucasByRule.l0 k p d m (V p n % m) (V p (n + 1) % m)) (V p (n + d) % m, true) := by
  intro d
  induction d with
  | zero => intro n _; refine up ?_; simp only [spec_LucasByRule.l0, if_neg (show ¬ ((0 : Nat) : Int) > 0 by omega)]; exact Ev.now _
  | succ d ih =>
    intro n hd
    have hb := rule_bounds (p := p) (a := V p (n + 1)) (b := V p n) hm hm2
    refine up ?_
    simp only [spec_LucasByRule.l0, if_pos (show ((d + 1 : Nat) : Int) > 0 by omega), poMod_val (a := p) (b := m) (by omega) (by omega), Option.bind_some, wid (x := p % m * (V p (n + 1) % m)) (by omega) (by omega), wid (x := p % m * (V p (n + 1) % m) - V p n % m) (by omega) (by omega), poMod_val (a := p % m * (V p (n + 1) % m) - V p n % m) (b := m) (by omega) (by omega), rule_step hm n, wid (x := (d : Int)) (by omega) (by omega), show ((d + 1 : Nat) : Int) - 1 = (d : Int) by omega]
    have := ih (n + 1) (by omega)
    rw [show n + 1 + d = n + (d + 1) by omega] at this
    exact this
theorem implRule_loop {p m N : Int} (hm : 1 ≤ m) (hm2 : m ≤ 1000000) : ∀ (d n : Nat), d ≤ 2000 → (n : Int) + d = N → N ≤ 2000 → Ev (fun k => impl_LucasByRule.l0 k p m (V p n % m) (V p (n + 1) % m) N n) (V p (n + d) % m, true) := by
  intro d
  induction d with
  | zero => intro n _ h _; refine up ?_; simp only [impl_LucasByRule.l0, if_neg (show ¬ (n : Int) < N by omega)]; exact Ev.now _
  | succ d ih =>
    intro n hd h hN
    have hb := rule_bounds (p := p) (a := V p (n + 1)) (b := V p n) hm hm2
    refine up ?_
    simp only [impl_LucasByRule.l0, if_pos (show (n : Int) < N by omega), rest_val (a := p) (b := m) (by omega) (by omega), Option.bind_some, wid (x := p % m * (V p (n + 1) % m)) (by omega) (by omega), wid (x := p % m * (V p (n + 1) % m) - V p n % m) (by omega) (by omega), rest_val (a := p % m * (V p (n + 1) % m) - V p n % m) (b := m) (by omega) (by omega), rule_step hm n, wid (x := (n : Int) + 1) (by omega) (by omega)]
    have := ih (n + 1) (by omega) (by omega) hN
    rw [show n + 1 + d = n + (d + 1) by omega] at this
    exact this
theorem specRule_no {p n m : Int} (h : ¬ ((-1000000 ≤ p ∧ p ≤ 1000000) ∧ (1 ≤ m ∧ m ≤ 1000000) ∧ 0 ≤ n ∧ n ≤ 2000)) : Ev (fun k => spec_LucasByRule.f k p n m) (0, false) := by
  have e : Ev (fun k => spec_LucasByRule.j0 k p n m true) (0, false) := by refine up ?_; simp only [spec_LucasByRule.j0, if_true]; exact Ev.now _
  simp only [spec_LucasByRule.f, spec_luGiven.f, spec_l1In.f, ge_iff_le]
  by_cases a : -1000000 ≤ p <;> by_cases b : p ≤ 1000000 <;> by_cases c : 1 ≤ m <;> by_cases d : m ≤ 1000000 <;> by_cases f : 0 ≤ n <;> by_cases g : n ≤ 2000 <;> first | (exfalso; omega) | (simpa [a, b, c, d, f, g] using e)
theorem implRule_no {p n m : Int} (h : ¬ ((-1000000 ≤ p ∧ p ≤ 1000000) ∧ (1 ≤ m ∧ m ≤ 1000000) ∧ 0 ≤ n ∧ n ≤ 2000)) : Ev (fun k => impl_LucasByRule.f k p n m) (0, false) := by
  have e : Ev (fun k => impl_LucasByRule.j0 k p n m true) (0, false) := by refine up ?_; simp only [impl_LucasByRule.j0, if_true]; exact Ev.now _
  simp only [impl_LucasByRule.f, impl_lucasOk.f, impl_in.f, ge_iff_le]
  by_cases a : -1000000 ≤ p <;> by_cases b : p ≤ 1000000 <;> by_cases c : 1 ≤ m <;> by_cases d : m ≤ 1000000 <;> by_cases f : 0 ≤ n <;> by_cases g : n ≤ 2000 <;> first | (exfalso; omega) | (simpa [a, b, c, d, f, g] using e)
theorem specRule {p m : Int} (n : Nat) (h0 : -1000000 ≤ p) (h1 : p ≤ 1000000) (h2 : 1 ≤ m) (h3 : m ≤ 1000000) (h5 : n ≤ 2000) : Ev (fun k => spec_LucasByRule.f k p n m) (V p n % m, true) := by
  have h4 : (0 : Int) ≤ (n : Int) := by omega
  have h5' : (n : Int) ≤ 2000 := by omega
  simp only [spec_LucasByRule.f, spec_luGiven.f, spec_l1In.f, ge_iff_le, h0, h1, h2, h3, h4, h5', decide_true, if_true, Option.bind_some, Bool.not_true]
  refine up ?_
  simp only [spec_LucasByRule.j0, Bool.false_eq_true, if_false, poMod_val (a := 2) (b := m) (by omega) (by omega), poMod_val (a := p) (b := m) (by omega) (by omega), Option.bind_some]
  have := specRule_loop (p := p) h2 h3 n 0 h5
  simpa [V] using this
theorem implRule {p m : Int} (n : Nat) (h0 : -1000000 ≤ p) (h1 : p ≤ 1000000) (h2 : 1 ≤ m) (h3 : m ≤ 1000000) (h5 : n ≤ 2000) : Ev (fun k => impl_LucasByRule.f k p n m) (V p n % m, true) := by
  have h4 : (0 : Int) ≤ (n : Int) := by omega
  have h5' : (n : Int) ≤ 2000 := by omega
  simp only [impl_LucasByRule.f, impl_lucasOk.f, impl_in.f, ge_iff_le, h0, h1, h2, h3, h4, h5', decide_true, if_true, Option.bind_some, Bool.not_true]
  refine up ?_
  simp only [impl_LucasByRule.j0, Bool.false_eq_true, if_false, rest_val (a := 2) (b := m) (by omega) (by omega), rest_val (a := p) (b := m) (by omega) (by omega), Option.bind_some]
  have := implRule_loop (p := p) (N := n) h2 h3 n 0 h5 (by omega) h5'
  simpa [V] using this
theorem wf_byte {x : Int} (h : (Lit.int .u8 x).wf = true) : 0 ≤ x ∧ x ≤ 255 := by
  simp only [Lit.wf, Bool.and_eq_true, decide_eq_true_eq] at h
  exact h
theorem rd_byte {l : List Int} (hl : ∀ x ∈ l, (Lit.int .u8 x).wf = true) (i : Int) (h0 : 0 ≤ i) (h1 : i < l.length) : 0 ≤ rd l i ∧ rd l i ≤ 255 := by
  unfold rd
  have hi : i.toNat < l.length := by omega
  rw [List.getD_eq_getElem?_getD, List.getElem?_eq_getElem hi]
  exact wf_byte (hl _ (List.getElem_mem hi))
theorem wrapU_range (n : Int) : 0 ≤ IntKind.u64.wrap n ∧ IntKind.u64.wrap n < 18446744073709551616 := by
  simp only [IntKind.wrap, IntKind.bits, IntKind.signed, Bool.false_eq_true, false_and, if_false]
  simp
  omega
theorem and255 (x : Int) : 0 ≤ Go.bits .and .u64 (IntKind.u64.wrap x / 1099511627776) 255 ∧ Go.bits .and .u64 (IntKind.u64.wrap x / 1099511627776) 255 ≤ 255 := by
  have h := wrapU_range x
  have hw : ∀ n : Int, 0 ≤ n → n < 2 ^ 40 → IntKind.u64.wrap n = n := by
    intro n h0 h1
    have e : (2 : Int) ^ 40 = 1099511627776 := by decide
    simp only [IntKind.wrap, IntKind.bits, IntKind.signed, Bool.false_eq_true, false_and, if_false]
    simp
    omega
  have e : (2 : Int) ^ 40 = 1099511627776 := by decide
  have hb : Go.bits .and .u64 (IntKind.u64.wrap x / 1099511627776) ((2 : Int) ^ 8 - 1) = (IntKind.u64.wrap x / 1099511627776) % 2 ^ 8 := bits_mask .u64 40 (by decide) hw 8 (by decide) _ (by omega) (by omega)
  have e1 : (2 : Int) ^ 8 - 1 = 255 := by decide
  have e2 : (2 : Int) ^ 8 = 256 := by decide
  rw [e1, e2] at hb
  rw [hb]; omega
theorem next_ok {l : List Int} (hl : ∀ x ∈ l, (Lit.int .u8 x).wf = true) (p s : Int) (h0 : 0 ≤ p) (h1 : p ≤ 1000000000000) : ∃ v s', spec_l1Cur_next.f l p s = some (v, p + 1, s') ∧ 0 ≤ v ∧ v ≤ 255 := by
  unfold spec_l1Cur_next.f
  rw [wid (x := p + 1) (by omega) (by omega)]
  by_cases hlt : p < (l.length : Int)
  · have hb := rd_byte hl p h0 hlt
    rw [if_pos hlt, if_pos h0, if_pos (show p + 1 ≤ (l.length : Int) by omega), wid (x := rd l p) (by omega) (by omega)]
    exact ⟨_, _, rfl, by omega, by omega⟩
  · rw [if_neg hlt]
    by_cases hle : p + 1 ≤ (l.length : Int)
    · omega
    · rw [if_neg hle]
      have := and255 (IntKind.u64.wrap (IntKind.u64.wrap (s * 6364136223846793005)) + 1442695040888963407)
      rw [wid (by omega) (by omega)]
      exact ⟨_, _, rfl, this.1, this.2⟩
theorem pick_ok {l : List Int} (hl : ∀ x ∈ l, (Lit.int .u8 x).wf = true) (p s n : Int) (h0 : 0 ≤ p) (h1 : p ≤ 100000000000) : ∃ v p' s', spec_l1Cur_pick.f l p s n = some (v, p', s') ∧ 0 ≤ v ∧ (1 ≤ n → v < n) ∧ p ≤ p' ∧ p' ≤ p + 2 := by
  unfold spec_l1Cur_pick.f
  by_cases hn : n ≤ 1
  · rw [if_pos hn]; exact ⟨0, p, s, rfl, by omega, by omega, by omega, by omega⟩
  · rw [if_neg hn]
    obtain ⟨v, s1, e1, hv0, hv1⟩ := next_ok hl p s h0 (by omega)
    rw [e1]; simp only [Option.bind_some]
    by_cases hb : n > 200
    · obtain ⟨u, s2, e2, hu0, hu1⟩ := next_ok hl (p + 1) s1 (by omega) (by omega)
      rw [if_pos hb, e2]; simp only [Option.bind_some]
      rw [if_neg (by omega), wid (x := v * 256) (by omega) (by omega), wid (x := v * 256 + u) (by omega) (by omega), Int.tmod_eq_emod_of_nonneg (by omega)]
      have r1 := Int.emod_nonneg (v * 256 + u) (show n ≠ 0 by omega)
      have r2 := Int.emod_lt_of_pos (v * 256 + u) (show 0 < n by omega)
      exact ⟨_, _, _, rfl, r1, fun _ => r2, by omega, by omega⟩
    · rw [if_neg hb, if_neg (by omega), Int.tmod_eq_emod_of_nonneg (by omega)]
      have r1 := Int.emod_nonneg v (show n ≠ 0 by omega)
      have r2 := Int.emod_lt_of_pos v (show 0 < n by omega)
      exact ⟨_, _, _, rfl, r1, fun _ => r2, by omega, by omega⟩
theorem one_ok {l : List Int} (hl : ∀ x ∈ l, (Lit.int .u8 x).wf = true) (p s n : Int) (h0 : 0 ≤ p) (h1 : p ≤ 100000000000) : ∃ v p' s', spec_l1Cur_one.f l p s n = some (v, p', s') ∧ p ≤ p' ∧ p' ≤ p + 2 := by
  obtain ⟨v, p', s', e, _, _, a, b⟩ := pick_ok hl p s n h0 h1
  exact ⟨(v == 0), p', s', by simp only [spec_l1Cur_one.f, e, Option.bind_some], a, b⟩
theorem among_ok {l : List Int} (hl : ∀ x ∈ l, (Lit.int .u8 x).wf = true) (p s : Int) (h0 : 0 ≤ p) (h1 : p ≤ 100000000000) (t : List Int) (ht : 1 ≤ t.length) : ∃ v p' s', spec_l1Cur_among.f l p s t = some (v, p', s') ∧ v ∈ t ∧ p ≤ p' ∧ p' ≤ p + 2 := by
  obtain ⟨v, p', s', e, v0, v1, a, b⟩ := pick_ok hl p s t.length h0 h1
  have hv := v1 (by omega)
  refine ⟨rd t v, p', s', by simp only [spec_l1Cur_among.f, e, Option.bind_some, if_pos v0, if_pos hv], ?_, a, b⟩
  unfold rd
  have hi : v.toNat < t.length := by omega
  rw [List.getD_eq_getElem?_getD, List.getElem?_eq_getElem hi]
  exact List.getElem_mem hi
theorem index_ok {l : List Int} (hl : ∀ x ∈ l, (Lit.int .u8 x).wf = true) (p s : Int) (h0 : 0 ≤ p) (h1 : p ≤ 10000000000) : ∃ v p' s', spec_l1Cur_index.f l p s = some (v, p', s') ∧ p ≤ p' ∧ p' ≤ p + 4 := by
  unfold spec_l1Cur_index.f
  obtain ⟨v, p1, s1, e, _, _, a, b⟩ := pick_ok hl p s 8 h0 (by omega)
  rw [e]; simp only [Option.bind_some]
  by_cases c0 : v = 0
  · obtain ⟨u, p2, s2, e2, _, a2, b2⟩ := among_ok hl p1 s1 (by omega) (by omega) [(-1), 0, 1, 2000, 2001, 1000000, 1000001] (by simp)
    rw [if_pos c0, e2]; exact ⟨_, p2, s2, rfl, by omega, by omega⟩
  · rw [if_neg c0]
    by_cases c1 : v = 1
    · obtain ⟨u, p2, s2, e2, _, _, a2, b2⟩ := pick_ok hl p1 s1 1000000 (by omega) (by omega)
      rw [if_pos c1, e2]; exact ⟨_, p2, s2, rfl, by omega, by omega⟩
    · obtain ⟨u, p2, s2, e2, _, _, a2, b2⟩ := pick_ok hl p1 s1 100 (by omega) (by omega)
      rw [if_neg c1, e2]; exact ⟨_, p2, s2, rfl, by omega, by omega⟩
theorem modulus_ok {l : List Int} (hl : ∀ x ∈ l, (Lit.int .u8 x).wf = true) (p s : Int) (h0 : 0 ≤ p) (h1 : p ≤ 10000000000) : ∃ v p' s', spec_l1Cur_modulus.f l p s = some (v, p', s') ∧ p ≤ p' ∧ p' ≤ p + 4 := by
  unfold spec_l1Cur_modulus.f
  obtain ⟨v, p1, s1, e, a, b⟩ := one_ok hl p s 6 h0 (by omega)
  rw [e]; simp only [Option.bind_some]
  by_cases c0 : v = true
  · obtain ⟨u, p2, s2, e2, _, a2, b2⟩ := among_ok hl p1 s1 (by omega) (by omega) [(-1), 0, 1, 1000000, 1000001] (by simp)
    rw [if_pos c0, e2]; exact ⟨_, p2, s2, rfl, by omega, by omega⟩
  · obtain ⟨u, p2, s2, e2, _, _, a2, b2⟩ := pick_ok hl p1 s1 1000 (by omega) (by omega)
    rw [if_neg c0, e2]; exact ⟨_, p2, s2, rfl, by omega, by omega⟩
theorem factor_ok {l : List Int} (hl : ∀ x ∈ l, (Lit.int .u8 x).wf = true) (p s : Int) (h0 : 0 ≤ p) (h1 : p ≤ 10000000000) : ∃ v p' s', spec_l1Cur_factor9.f l p s = some (v, p', s') ∧ p ≤ p' ∧ p' ≤ p + 4 := by
  unfold spec_l1Cur_factor9.f
  obtain ⟨v, p1, s1, e, a, b⟩ := one_ok hl p s 8 h0 (by omega)
  rw [e]; simp only [Option.bind_some]
  by_cases c0 : v = true
  · obtain ⟨u, p2, s2, e2, _, a2, b2⟩ := among_ok hl p1 s1 (by omega) (by omega) [(-1000001), (-1000000), 1000000, 1000001] (by simp)
    rw [if_pos c0, e2]; exact ⟨_, p2, s2, rfl, by omega, by omega⟩
  · obtain ⟨u, p2, s2, e2, _, _, a2, b2⟩ := pick_ok hl p1 s1 50 (by omega) (by omega)
    rw [if_neg c0, e2]; exact ⟨_, p2, s2, rfl, by omega, by omega⟩
theorem pMod_val {a b : Int} (hb : 0 < b) (hb2 : b ≤ 1000000000000000) : laws_pMod.f a b = some (a % b) := rest_val (a := a) hb hb2
theorem mul20 {a q : Nat} (ha : a ≤ 1000000) (hq : q ≤ 20) : a * q ≤ 20000000 := by
  have h := Nat.mul_le_mul ha hq
  have e : 1000000 * 20 = 20000000 := by decide
  rw [e] at h; exact h
theorem too_big {p m : Int} {x : Nat} (h : ¬ x ≤ 1000000) : ¬ ((-1000000 ≤ p ∧ p ≤ 1000000) ∧ (1 ≤ m ∧ m ≤ 1000000) ∧ 0 ≤ (x : Int) ∧ (x : Int) ≤ 1000000) := by omega
theorem main : laws_FnLaddersOfLucas.Pure := by
  intro code more _ hc hcode _ hm _
  refine Ev.rounds ?_
  simp only [laws_FnLaddersOfLucas.f, laws_big.f]
  by_cases hb : (code.length : Int) > 1048576
  · exact ⟨0, fun k _ => by simp only [if_pos hb, Option.bind_some, if_true]⟩
  simp only [if_neg hb, Option.bind_some, wid (x := 1048576 - (code.length : Int)) (by omega) (by omega)]
  by_cases hb2 : (more.length : Int) > 1048576 - (code.length : Int)
  · exact ⟨0, fun k _ => by simp only [hb2, decide_true, if_true]⟩
  simp only [hb2, decide_false, Bool.false_eq_true, if_false]
  obtain ⟨p, p1, s1, e1, a1, b1⟩ := factor_ok hcode 0 0 (by omega) (by omega)
  obtain ⟨n, p2, s2, e2, a2, b2⟩ := index_ok hcode p1 s1 (by omega) (by omega)
  obtain ⟨m, p3, s3, e3, a3, b3⟩ := modulus_ok hcode p2 s2 (by omega) (by omega)
  have hd : spec_DrawLucasByLadder.f code = some (p, n, m) := by simp only [spec_DrawLucasByLadder.f, e1, e2, e3, Option.bind_some]
  simp only [hd, Option.bind_some]
  -- what follows behind the second comparison, where the ladder does not succeed
  have J2t : ∀ v : Int, Ev (fun k => laws_FnLaddersOfLucas.j2 k more p n m v true) true := fun v => by
    refine up ?_
    simp only [laws_FnLaddersOfLucas.j2, if_true]
    exact Ev.now _
  by_cases h : (-1000000 ≤ p ∧ p ≤ 1000000) ∧ (1 ≤ m ∧ m ≤ 1000000) ∧ 0 ≤ n ∧ n ≤ 1000000
  · obtain ⟨⟨h0, h1⟩, ⟨h2, h3⟩, h4, h5⟩ := h
    obtain ⟨N, rfl⟩ := Int.eq_ofNat_of_zero_le h4
    have hN : N ≤ 1000000 := by omega
    refine Ev.bind (implByLadder N h0 h1 h2 h3 hN) ?_
    refine Ev.bind (specByLadder N h0 h1 h2 h3 hN) ?_
    simp only [bne_self_eq_false, Bool.false_eq_true, if_false]
    have J2 : 1 ≤ N → N + 1 ≤ 1000000 → Ev (fun k => laws_FnLaddersOfLucas.j2 k more p N m (V p N % m) false) true := by
      intro hN1 hN2
      obtain ⟨M, rfl⟩ : ∃ M, N = M + 1 := ⟨N - 1, by omega⟩
      have hM : M ≤ 1000000 := by omega
      have hM2 : M + 2 ≤ 1000000 := by omega
      obtain ⟨q, hq, hq0, hq1⟩ : ∃ q : Nat, 1 + (more.length : Int) % 20 = (q : Int) ∧ 1 ≤ q ∧ q ≤ 20 := ⟨(1 + (more.length : Int) % 20).toNat, by omega, by omega, by omega⟩
      have f1 : wrap64 (((M + 1 : Nat) : Int) - 1) = ((M : Nat) : Int) := by rw [wid (by omega) (by omega)]; omega
      have f2 : wrap64 (((M + 1 : Nat) : Int) + 1) = ((M + 2 : Nat) : Int) := by rw [wid (by omega) (by omega)]; omega
      have hmul : ((M + 1 : Nat) : Int) * (q : Int) = (((M + 1) * q : Nat) : Int) := by simp
      have hle : (M + 1) * q ≤ 20000000 := mul20 (by omega) hq1
      have f3 : wrap64 (((M + 1 : Nat) : Int) * (q : Int)) = (((M + 1) * q : Nat) : Int) := by rw [hmul]; exact wid (by omega) (by omega)
      refine up ?_
      simp only [laws_FnLaddersOfLucas.j2, Bool.false_eq_true, if_false, f1, f2, hq, f3]
      refine Ev.bind (implByLadder M h0 h1 h2 h3 hM) ?_
      refine Ev.bind (implByLadder (M + 2) h0 h1 h2 h3 hM2) ?_
      refine Ev.bind (implByLadder q h0 h1 h2 h3 (Nat.le_trans hq1 (by decide))) ?_
      have rk := m_range (m := m) (a := V p q) h2
      refine Ev.bind (implByLadder (p := V p q % m) (M + 1) (by omega) (by omega) h2 h3 hN) ?_
      have hs := rule_bounds (p := p) (a := V p (M + 1)) (b := V p M) h2 h3
      have ho : V (V p q % m) (M + 1) % m = V p ((M + 1) * q) % m := by rw [V_mod, V_comp]
      simp only [if_true, pMod_val (a := p) (b := m) (by omega) (by omega), Option.bind_some, wid (x := p % m * (V p (M + 1) % m)) (by omega) (by omega), wid (x := p % m * (V p (M + 1) % m) - V p M % m) (by omega) (by omega), pMod_val (a := p % m * (V p (M + 1) % m) - V p M % m) (b := m) (by omega) (by omega), rule_step h2 M]
      by_cases hk : (M + 1) * q ≤ 1000000
      · refine Ev.bind (implByLadder ((M + 1) * q) h0 h1 h2 h3 hk) ?_
        simp only [if_true, ho]
        exact ⟨0, fun k _ => by simp⟩
      · refine Ev.bind (implByLadder_no (p := p) (m := m) (n := (((M + 1) * q : Nat) : Int)) (too_big hk)) ?_
        simp only [Bool.false_eq_true, if_false]
        exact Ev.now _
    have J1 : Ev (fun k => laws_FnLaddersOfLucas.j1 k more p N m (V p N % m) true false) true := by
      refine up ?_
      simp only [laws_FnLaddersOfLucas.j1, Bool.false_eq_true, if_false, if_true]
      by_cases hz : (N : Int) = 0
      · simp only [if_pos hz]; exact J2t _
      · simp only [if_neg hz, wid (x := (N : Int) + 1) (by omega) (by omega)]
        by_cases hx : (N : Int) + 1 > 1000000
        · simp only [hx, decide_true]; exact J2t _
        · simp only [hx, decide_false]; exact J2 (by omega) (by omega)
    refine up ?_
    simp only [laws_FnLaddersOfLucas.j0, Bool.false_eq_true, if_false]
    by_cases hr : N ≤ 2000
    · refine Ev.bind (implRule N h0 h1 h2 h3 hr) ?_
      refine Ev.bind (specRule N h0 h1 h2 h3 hr) ?_
      simp only [bne_self_eq_false, Bool.false_eq_true, if_false, if_true]
      exact J1
    · refine Ev.bind (implRule_no (p := p) (m := m) (n := (N : Int)) (by omega)) ?_
      refine Ev.bind (specRule_no (p := p) (m := m) (n := (N : Int)) (by omega)) ?_
      simp only [bne_self_eq_false, Bool.false_eq_true, if_false, if_true]
      exact J1
  · refine Ev.bind (implByLadder_no h) ?_
    refine Ev.bind (specByLadder_no h) ?_
    simp only [bne_self_eq_false, Bool.false_eq_true, if_false]
    refine up ?_
    simp only [laws_FnLaddersOfLucas.j0, Bool.false_eq_true, if_false]
    have hr : ¬ ((-1000000 ≤ p ∧ p ≤ 1000000) ∧ (1 ≤ m ∧ m ≤ 1000000) ∧ 0 ≤ n ∧ n ≤ 2000) := by omega
    refine Ev.bind (implRule_no hr) ?_
    refine Ev.bind (specRule_no hr) ?_
    simp only [bne_self_eq_false, Bool.false_eq_true, if_false, if_true]
    refine up ?_
    simp only [laws_FnLaddersOfLucas.j1, Bool.false_eq_true, if_false]
    exact J2t _
end Go.Proofs.Ytdmpgpmdgmejpaa.PureFnLaddersOfLucasL
namespace Go.Proofs.Ytdmpgpmdgmejpaa.Pure
open Go.Proofs.Ytdmpgpmdgmejpaa.PFnLaddersOfLucas
theorem FnLaddersOfLucas : laws_FnLaddersOfLucas.Pure := PureFnLaddersOfLucasL.main
end Go.Proofs.Ytdmpgpmdgmejpaa.Pure
