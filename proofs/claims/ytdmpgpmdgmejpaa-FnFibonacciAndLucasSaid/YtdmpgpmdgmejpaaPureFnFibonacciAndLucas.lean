/- Fibonacci numbers follow their rule, and twice as far they make the Lucas values of 3: the statement FnFibonacciAndLucas holds for all its drawn arguments; nothing is asked of them. -/
import Derived.Test.YtdmpgpmdgmejpaaPFnFibonacciAndLucasx1
import Derived.Test.YtdmpgpmdgmejpaaPFnFibonacciAndLucasx2
import Derived.Test.YtdmpgpmdgmejpaaPFnFibonacciAndLucasx3
set_option linter.unusedVariables false
set_option linter.unusedSimpArgs false
namespace Go.Proofs.Ytdmpgpmdgmejpaa.PureFnFibonacciAndLucasL
open Go.RowKit Go.Proofs.Ytdmpgpmdgmejpaa.PFnFibonacciAndLucas Go.Proofs.YtdmpgpmdgmejpaaW.PrintWords Go.Proofs.YtdmpgpmdgmejpaaW.PrintLast Go.Proofs.YtdmpgpmdgmejpaaW.PrintMore
theorem up {α : Type} {g : Nat → Option α} {r : α} (h : Ev (fun k => g (k + 1)) r) : Ev g r := by
  obtain ⟨K, h⟩ := h
  refine ⟨K + 1, fun k hk => ?_⟩
  obtain ⟨m, rfl⟩ : ∃ m, k = m + 1 := ⟨k - 1, by omega⟩
  exact h m (by omega)
theorem wid {x : Int} (h0 : -9223372036854775808 ≤ x) (h1 : x ≤ 9223372036854775807) : wrap64 x = x := by unfold wrap64; omega
theorem ite_yes {α : Type} {c : Prop} [Decidable c] {a b : α} (h : c) : (if c then a else b) = a := if_pos h
theorem ite_no {α : Type} {c : Prop} [Decidable c] {a b : α} (h : ¬ c) : (if c then a else b) = b := if_neg h
theorem evsome {α β : Type} {x : Option α} {a : α} {f : Nat → α → Option β} {r : β} (hx : x = some a) (h : Ev (fun k => f k a) r) : Ev (fun k => x.bind (f k)) r := by subst hx; exact h
theorem if_pos_ev {α : Type} {c : Prop} [Decidable c] {f g : Nat → Option α} (h : c) : (fun k => if c then f k else g k) = f := funext fun k => if_pos h
theorem if_neg_ev {α : Type} {c : Prop} [Decidable c] {f g : Nat → Option α} (h : ¬ c) : (fun k => if c then f k else g k) = g := funext fun k => if_neg h
theorem tmod_in {a b : Int} (hb : 0 < b) : -b < Int.tmod a b ∧ Int.tmod a b < b := by
  have h1 := Int.tmod_lt_of_pos a hb
  have h2 := Int.lt_tmod_of_pos a hb
  exact ⟨h2, h1⟩
theorem rest_val {a b : Int} (hb : 0 < b) (hb2 : b ≤ 1000000000000000) : impl_rest.f a b = some (a % b) := by
  have h := tmod_in (a := a) hb
  unfold impl_rest.f
  rw [if_neg (by omega), wid (by omega) (by omega), Int.tmod_eq_emod_of_nonneg (by omega), Int.add_emod_right]
  congr 1
  rw [Int.tmod_def, Int.sub_mul_emod_self_left]
theorem posmod {a b : Int} (hb : 0 < b) (hb2 : b ≤ 1000000000000000) : Int.tmod (wrap64 ((Int.tmod a b) + b)) b = a % b := by
  have h := rest_val (a := a) hb hb2
  unfold impl_rest.f at h
  rw [if_neg (by omega)] at h
  exact Option.some.inj h
theorem odd_test (x : Int) : Int.tmod x 2 = 0 ↔ x % 2 = 0 := by
  rw [← Int.dvd_iff_tmod_eq_zero, ← Int.dvd_iff_emod_eq_zero]
theorem half_even {x : Int} (h : x % 2 = 0) : Int.tdiv x 2 = x / 2 := Int.tdiv_eq_ediv_of_dvd (Int.dvd_of_emod_eq_zero h)
theorem poMod_val {a b : Int} (hb : 0 < b) (hb2 : b ≤ 1000000000000000) : spec_poMod.f a b = some (a % b) := by
  have h : -b < Int.tmod a b ∧ Int.tmod a b < b := ⟨Int.lt_tmod_of_pos a hb, Int.tmod_lt_of_pos a hb⟩
  unfold spec_poMod.f
  rw [if_neg (by omega), wid (by omega) (by omega), Int.tmod_eq_emod_of_nonneg (by omega), Int.add_emod_right]
  congr 1
  rw [Int.tmod_def, Int.sub_mul_emod_self_left]
theorem c_mul {m a a' b b' : Int} (h : a % m = a' % m) (h' : b % m = b' % m) : (a * b) % m = (a' * b') % m := by rw [Int.mul_emod, h, h', ← Int.mul_emod]
theorem c_sub {m a a' b b' : Int} (h : a % m = a' % m) (h' : b % m = b' % m) : (a - b) % m = (a' - b') % m := by rw [Int.sub_emod, h, h', ← Int.sub_emod]
theorem c_add {m a a' b b' : Int} (h : a % m = a' % m) (h' : b % m = b' % m) : (a + b) % m = (a' + b') % m := by rw [Int.add_emod, h, h', ← Int.add_emod]
theorem c_self (m a : Int) : (a % m) % m = a % m := Int.emod_emod_of_dvd a (Int.dvd_refl m)
theorem m_range {m a : Int} (hm : 1 ≤ m) : 0 ≤ a % m ∧ a % m < m := ⟨Int.emod_nonneg _ (by omega), Int.emod_lt_of_pos _ (by omega)⟩
theorem mul_range {a b M : Int} (ha0 : 0 ≤ a) (ha : a ≤ M) (hb0 : 0 ≤ b) (hb : b ≤ M) : 0 ≤ a * b ∧ a * b ≤ M * M := ⟨Int.mul_nonneg ha0 hb0, Int.mul_le_mul ha hb hb0 (by omega)⟩
theorem bl_bounds : ∀ (f x : Nat), x < 2 ^ f → x < 2 ^ (Go.Lib.bitLenAux f x) ∧ (x ≠ 0 → 1 ≤ Go.Lib.bitLenAux f x ∧ 2 ^ (Go.Lib.bitLenAux f x - 1) ≤ x)
  | 0, x, h => by simp at h; subst h; simp [Go.Lib.bitLenAux]
  | f + 1, x, h => by
    unfold Go.Lib.bitLenAux
    by_cases h0 : x = 0
    · simp [h0]
    · rw [if_neg h0]
      have ih := bl_bounds f (x / 2) (by rw [Nat.pow_succ] at h; omega)
      refine ⟨?_, fun _ => ⟨by omega, ?_⟩⟩
      · rw [Nat.add_comm, Nat.pow_succ]; omega
      · by_cases h1 : x / 2 = 0
        · have : x = 1 := by omega
          subst this
          rw [h1]
          cases f <;> simp [Go.Lib.bitLenAux]
        · have := ih.2 h1
          have e : 1 + Go.Lib.bitLenAux f (x / 2) - 1 = (Go.Lib.bitLenAux f (x / 2) - 1) + 1 := by omega
          rw [e, Nat.pow_succ]; omega
def bl (n : Nat) : Nat := Go.Lib.bitLen n
theorem bl_lt {n : Nat} (h : n < 2 ^ 64) : n < 2 ^ bl n := (bl_bounds 64 n h).1
theorem bl_ge {n i : Nat} (h : n < 2 ^ 64) (hi : i < bl n) : 2 ^ i ≤ n := by
  by_cases h0 : n = 0
  · subst h0; have e : bl 0 = 0 := by decide
    omega
  · have := (bl_bounds 64 n h).2 h0
    have e : bl n = Go.Lib.bitLenAux 64 n := rfl
    exact Nat.le_trans (Nat.pow_le_pow_right (by omega) (by omega)) this.2
theorem bl_small {n : Nat} (h : n ≤ 1000000) : bl n ≤ 20 := by
  rcases Nat.lt_or_ge 20 (bl n) with h1 | h1
  · have := bl_ge (n := n) (i := 20) (by omega) h1; omega
  · exact h1
theorem shr_nat (n i : Nat) (hi : i ≤ 64) : shr .i64 (n : Int) (i : Int) = ((n / 2 ^ i : Nat) : Int) := by
  unfold shr
  rw [Int.toNat_natCast, Nat.min_eq_left (by simpa [IntKind.bits] using hi)]
  simp
theorem wrapu {n : Int} (h0 : 0 ≤ n) (h1 : n ≤ 1000000000000) : IntKind.u64.wrap n = n := by
  simp only [IntKind.wrap, IntKind.bits, IntKind.signed, Bool.false_eq_true, false_and, if_false]
  simp
  omega
theorem bitsLen_val {n : Nat} (h : n ≤ 1000000) : bits_Len.f (IntKind.u64.wrap (n : Int)) = some (bl n : Int) := by
  rw [wrapu (by omega) (by omega)]
  unfold bits_Len.f
  rw [if_pos (by omega), Int.toNat_natCast]; rfl
theorem wrap62 (n : Int) (h0 : 0 ≤ n) (h1 : n < 2 ^ 62) : IntKind.i64.wrap n = n := by
  have e : (2 : Int) ^ 62 = 4611686018427387904 := by decide
  simp only [IntKind.wrap, IntKind.bits, IntKind.signed]
  simp
  omega
theorem bit_and (q : Nat) (h : q ≤ 1000000) : (Go.bits .and .i64 (q : Int) 1 = 1) ↔ q % 2 = 1 := by
  have e : (2 : Int) ^ 62 = 4611686018427387904 := by decide
  have hb : Go.bits .and .i64 (q : Int) ((2 : Int) ^ 1 - 1) = (q : Int) % 2 ^ 1 := bits_mask .i64 62 (by decide) wrap62 1 (by decide) (q : Int) (by omega) (by omega)
  have e1 : (2 : Int) ^ 1 - 1 = 1 := by decide
  have e2 : (2 : Int) ^ 1 = 2 := by decide
  rw [e1, e2] at hb
  rw [hb]; omega
theorem bit_mod (q : Nat) : (Int.tmod (q : Int) 2 = 1) ↔ q % 2 = 1 := by
  rw [Int.tmod_eq_emod_of_nonneg (by omega)]; omega
theorem half_step (n i : Nat) : n / 2 ^ i = 2 * (n / 2 ^ (i + 1)) + (n / 2 ^ i) % 2 := by
  have : n / 2 ^ (i + 1) = (n / 2 ^ i) / 2 := by rw [Nat.pow_succ, Nat.div_div_eq_div_mul]
  rw [this]; omega
theorem chLength_loop {n : Nat} (h : n ≤ 1000000) : ∀ (d i : Nat), i + d = bl n → Ev (fun k => spec_chLength.l0 k n i) (bl n : Int) := by
  have hs := bl_small h
  intro d
  induction d with
  | zero =>
    intro i hi
    have hlt := bl_lt (n := n) (by omega)
    have e : n / 2 ^ i = 0 := Nat.div_eq_of_lt (by rw [show i = bl n by omega]; exact hlt)
    refine up ?_
    simp only [spec_chLength.l0, if_pos (show (0 : Int) ≤ (i : Int) by omega), shr_nat n i (by omega), e, if_neg (show ¬ ((0 : Nat) : Int) > 0 by omega)]
    rw [show i = bl n by omega]
    exact Ev.now _
  | succ d ih =>
    intro i hi
    have hge := bl_ge (n := n) (i := i) (by omega) (by omega)
    have e : 0 < n / 2 ^ i := Nat.div_pos hge (Nat.pow_pos (by omega))
    refine up ?_
    simp only [spec_chLength.l0, if_pos (show (0 : Int) ≤ (i : Int) by omega), shr_nat n i (by omega), if_pos (show ((n / 2 ^ i : Nat) : Int) > 0 by omega), wid (x := (i : Int) + 1) (by omega) (by omega)]
    exact ih (i + 1) (by omega)
theorem chLength_val {n : Nat} (h : n ≤ 1000000) : Ev (fun k => spec_chLength.f k n) (bl n : Int) := chLength_loop h (bl n) 0 (by omega)
/-- The Fibonacci numbers. -/
def Fb : Nat → Int
  | 0 => 0
  | 1 => 1
  | n + 2 => Fb (n + 1) + Fb n
theorem Fb_step (n : Nat) : Fb (n + 2) = Fb (n + 1) + Fb n := rfl
theorem Fb_add (m : Nat) : ∀ n, Fb (m + n + 1) = Fb (m + 1) * Fb (n + 1) + Fb m * Fb n
  | 0 => by simp [Fb]
  | 1 => by simp only [Fb]; omega
  | n + 2 => by
    have h1 := Fb_add m (n + 1)
    have h0 := Fb_add m n
    have e1 := Fb_step (m + n + 1)
    have e2 := Fb_step (n + 1)
    have e3 := Fb_step n
    rw [show m + (n + 2) + 1 = m + n + 1 + 2 by omega, e1, show n + 2 + 1 = n + 1 + 2 by omega, e2, e3]
    rw [show m + (n + 1) + 1 = m + n + 1 + 1 by omega, show n + 1 + 1 = n + 2 by omega, e3] at h1
    grind
theorem Fb_odd (q : Nat) : Fb (2 * q + 1) = Fb q * Fb q + Fb (q + 1) * Fb (q + 1) := by
  have := Fb_add q q
  rw [show q + q + 1 = 2 * q + 1 by omega] at this; omega
theorem Fb_even (q : Nat) : Fb (2 * q) = Fb q * (2 * Fb (q + 1) - Fb q) := by
  cases q with
  | zero => simp [Fb]
  | succ q =>
    have h := Fb_add (q + 1) q
    have e := Fb_step q
    rw [show q + 1 + q + 1 = 2 * (q + 1) by omega] at h
    rw [h, show q + 1 + 1 = q + 2 by omega, e]
    grind
theorem Fb_next (q : Nat) : Fb (2 * q + 2) = Fb (2 * q) + Fb (2 * q + 1) := by rw [Fb_step]; omega
theorem fib_sizes {a b m : Int} (hm : 1 ≤ m) (hm2 : m ≤ 1000000) : -9000000000000 ≤ (a % m) * (b % m) ∧ (a % m) * (b % m) ≤ 3000000000000 := by
  have h1 := m_range (m := m) (a := a) hm
  have h2 := m_range (m := m) (a := b) hm
  have h4 := mul_range (M := 1000000) h1.1 (by omega) h2.1 (by omega)
  omega
theorem f_twice {m : Int} (q : Nat) : (Fb q % m * ((2 * (Fb (q + 1) % m) - Fb q % m) % m)) % m = Fb (2 * q) % m := by
  rw [Fb_even]
  exact c_mul (c_self _ _) (by rw [c_self]; exact c_sub (c_mul rfl (c_self _ _)) (c_self _ _))
theorem f_odd {m : Int} (q : Nat) : (Fb q % m * (Fb q % m) + Fb (q + 1) % m * (Fb (q + 1) % m)) % m = Fb (2 * q + 1) % m := by
  rw [Fb_odd]; exact c_add (c_mul (c_self _ _) (c_self _ _)) (c_mul (c_self _ _) (c_self _ _))
theorem f_next {m : Int} (q : Nat) : (Fb (2 * q) % m + Fb (2 * q + 1) % m) % m = Fb (2 * q + 2) % m := by
  rw [Fb_next]; exact c_add (c_self _ _) (c_self _ _)
theorem specFib_loop {m : Int} (hm : 1 ≤ m) (hm2 : m ≤ 1000000) {n : Nat} (hn : n ≤ 1000000) : ∀ (i : Nat), i ≤ 20 →
    Ev (fun k => spec_luFib.l0 k n m (Fb (n / 2 ^ i) % m) (Fb (n / 2 ^ i + 1) % m) ((i : Int) - 1)) (Fb n % m, Fb (n + 1) % m) := by
  intro i
  induction i with
  | zero =>
    intro _
    refine up ?_
    simp only [spec_luFib.l0, if_neg (show ¬ ((0 : Nat) : Int) - 1 ≥ 0 by omega), Nat.pow_zero, Nat.div_one]
    exact Ev.now _
  | succ i ih =>
    intro hi
    have ih := ih (by omega)
    have e := half_step n i
    have r1 := m_range (m := m) (a := Fb (n / 2 ^ (i + 1))) hm
    have r2 := m_range (m := m) (a := Fb (n / 2 ^ (i + 1) + 1)) hm
    have r3 := m_range (m := m) (a := Fb (2 * (n / 2 ^ (i + 1)))) hm
    have r4 := m_range (m := m) (a := Fb (2 * (n / 2 ^ (i + 1)) + 1)) hm
    have hb1 := fib_sizes (a := Fb (n / 2 ^ (i + 1))) (b := Fb (n / 2 ^ (i + 1))) hm hm2
    have hb2 := fib_sizes (a := Fb (n / 2 ^ (i + 1) + 1)) (b := Fb (n / 2 ^ (i + 1) + 1)) hm hm2
    have hb3 := fib_sizes (a := Fb (n / 2 ^ (i + 1))) (b := 2 * (Fb (n / 2 ^ (i + 1) + 1) % m) - Fb (n / 2 ^ (i + 1)) % m) hm hm2
    generalize n / 2 ^ (i + 1) = q at *
    refine up ?_
    simp only [spec_luFib.l0, show ((i + 1 : Nat) : Int) - 1 = (i : Int) by omega, if_pos (show (i : Int) ≥ 0 by omega), if_pos (show (0 : Int) ≤ (i : Int) by omega),
      wid (x := 2 * (Fb (q + 1) % m)) (by omega) (by omega), wid (x := 2 * (Fb (q + 1) % m) - Fb q % m) (by omega) (by omega),
      poMod_val (a := 2 * (Fb (q + 1) % m) - Fb q % m) (b := m) (by omega) (by omega), Option.bind_some,
      wid (x := Fb q % m * ((2 * (Fb (q + 1) % m) - Fb q % m) % m)) (by omega) (by omega), poMod_val (a := Fb q % m * ((2 * (Fb (q + 1) % m) - Fb q % m) % m)) (b := m) (by omega) (by omega),
      wid (x := Fb q % m * (Fb q % m)) (by omega) (by omega), wid (x := Fb (q + 1) % m * (Fb (q + 1) % m)) (by omega) (by omega), wid (x := Fb q % m * (Fb q % m) + Fb (q + 1) % m * (Fb (q + 1) % m)) (by omega) (by omega),
      poMod_val (a := Fb q % m * (Fb q % m) + Fb (q + 1) % m * (Fb (q + 1) % m)) (b := m) (by omega) (by omega), f_twice, f_odd, wid (x := Fb (2 * q) % m + Fb (2 * q + 1) % m) (by omega) (by omega), poMod_val (a := Fb (2 * q) % m + Fb (2 * q + 1) % m) (b := m) (by omega) (by omega), f_next,
      shr_nat n i (by omega), bit_mod, wid (x := (i : Int) - 1) (by omega) (by omega)]
    by_cases hr : n / 2 ^ i % 2 = 1
    · rw [if_pos_ev hr]
      rw [show 2 * q + 1 = n / 2 ^ i by omega, show 2 * q + 2 = n / 2 ^ i + 1 by omega]
      exact ih
    · rw [if_neg_ev hr]
      rw [show 2 * q + 1 = n / 2 ^ i + 1 by omega, show 2 * q = n / 2 ^ i by omega]
      exact ih
theorem implFib_loop {m : Int} (hm : 1 ≤ m) (hm2 : m ≤ 1000000) {n : Nat} (hn : n ≤ 1000000) : ∀ (i : Nat), i ≤ 20 →
    Ev (fun k => impl_FibonacciPair.l0 k n m (Fb (n / 2 ^ i) % m) (Fb (n / 2 ^ i + 1) % m) ((i : Int) - 1)) (Fb n % m, Fb (n + 1) % m, true) := by
  intro i
  induction i with
  | zero =>
    intro _
    refine up ?_
    simp only [impl_FibonacciPair.l0, if_neg (show ¬ ((0 : Nat) : Int) - 1 ≥ 0 by omega), Nat.pow_zero, Nat.div_one]
    exact Ev.now _
  | succ i ih =>
    intro hi
    have ih := ih (by omega)
    have e := half_step n i
    have hq : n / 2 ^ i ≤ 1000000 := Nat.le_trans (Nat.div_le_self _ _) hn
    have r1 := m_range (m := m) (a := Fb (n / 2 ^ (i + 1))) hm
    have r2 := m_range (m := m) (a := Fb (n / 2 ^ (i + 1) + 1)) hm
    have r3 := m_range (m := m) (a := Fb (2 * (n / 2 ^ (i + 1)))) hm
    have r4 := m_range (m := m) (a := Fb (2 * (n / 2 ^ (i + 1)) + 1)) hm
    have hb1 := fib_sizes (a := Fb (n / 2 ^ (i + 1))) (b := Fb (n / 2 ^ (i + 1))) hm hm2
    have hb2 := fib_sizes (a := Fb (n / 2 ^ (i + 1) + 1)) (b := Fb (n / 2 ^ (i + 1) + 1)) hm hm2
    have hb3 := fib_sizes (a := Fb (n / 2 ^ (i + 1))) (b := 2 * (Fb (n / 2 ^ (i + 1) + 1) % m) - Fb (n / 2 ^ (i + 1)) % m) hm hm2
    generalize n / 2 ^ (i + 1) = q at *
    refine up ?_
    simp only [impl_FibonacciPair.l0, show ((i + 1 : Nat) : Int) - 1 = (i : Int) by omega, if_pos (show (i : Int) ≥ 0 by omega), if_pos (show (0 : Int) ≤ (i : Int) by omega),
      wid (x := 2 * (Fb (q + 1) % m)) (by omega) (by omega), wid (x := 2 * (Fb (q + 1) % m) - Fb q % m) (by omega) (by omega),
      rest_val (a := 2 * (Fb (q + 1) % m) - Fb q % m) (b := m) (by omega) (by omega), Option.bind_some,
      wid (x := Fb q % m * ((2 * (Fb (q + 1) % m) - Fb q % m) % m)) (by omega) (by omega), rest_val (a := Fb q % m * ((2 * (Fb (q + 1) % m) - Fb q % m) % m)) (b := m) (by omega) (by omega),
      wid (x := Fb q % m * (Fb q % m)) (by omega) (by omega), wid (x := Fb (q + 1) % m * (Fb (q + 1) % m)) (by omega) (by omega), wid (x := Fb q % m * (Fb q % m) + Fb (q + 1) % m * (Fb (q + 1) % m)) (by omega) (by omega),
      rest_val (a := Fb q % m * (Fb q % m) + Fb (q + 1) % m * (Fb (q + 1) % m)) (b := m) (by omega) (by omega), f_twice, f_odd, wid (x := Fb (2 * q) % m + Fb (2 * q + 1) % m) (by omega) (by omega), rest_val (a := Fb (2 * q) % m + Fb (2 * q + 1) % m) (b := m) (by omega) (by omega), f_next,
      shr_nat n i (by omega), bit_and _ hq, wid (x := (i : Int) - 1) (by omega) (by omega)]
    by_cases hr : n / 2 ^ i % 2 = 1
    · rw [if_pos_ev hr]
      rw [show 2 * q + 1 = n / 2 ^ i by omega, show 2 * q + 2 = n / 2 ^ i + 1 by omega]
      exact ih
    · rw [if_neg_ev hr]
      rw [show 2 * q + 1 = n / 2 ^ i + 1 by omega, show 2 * q = n / 2 ^ i by omega]
      exact ih
theorem specFib {m : Int} (n : Nat) (hm : 1 ≤ m) (hm2 : m ≤ 1000000) (hn : n ≤ 1000000) : Ev (fun k => spec_FibonacciPair.f k n m) (Fb n % m, Fb (n + 1) % m, true) := by
  have hs := bl_small hn
  have h4 : (0 : Int) ≤ (n : Int) := by omega
  have h5 : (n : Int) ≤ 1000000 := by omega
  simp only [spec_FibonacciPair.f, spec_luFib.f, spec_l1In.f, ge_iff_le, hm, hm2, h4, h5, decide_true, if_true, Option.bind_some, poMod_val (a := 1) (b := m) (by omega) (by omega)]
  refine Ev.bind (a := (Fb n % m, Fb (n + 1) % m)) (Ev.bind (chLength_val hn) ?_) (Ev.now _)
  have h := specFib_loop hm hm2 hn (bl n) hs
  rw [Nat.div_eq_of_lt (bl_lt (n := n) (by omega))] at h
  simpa [Fb, wid (x := (bl n : Int) - 1) (by omega) (by omega)] using h
theorem implFib {m : Int} (n : Nat) (hm : 1 ≤ m) (hm2 : m ≤ 1000000) (hn : n ≤ 1000000) : Ev (fun k => impl_FibonacciPair.f k n m) (Fb n % m, Fb (n + 1) % m, true) := by
  have hs := bl_small hn
  have h4 : (0 : Int) ≤ (n : Int) := by omega
  have h5 : (n : Int) ≤ 1000000 := by omega
  simp only [impl_FibonacciPair.f, impl_in.f, ge_iff_le, hm, hm2, h4, h5, decide_true, if_true, Option.bind_some, Bool.not_true]
  refine up ?_
  simp only [impl_FibonacciPair.j0, Bool.false_eq_true, if_false, rest_val (a := 1) (b := m) (by omega) (by omega), Option.bind_some, bitsLen_val hn]
  have h := implFib_loop hm hm2 hn (bl n) hs
  rw [Nat.div_eq_of_lt (bl_lt (n := n) (by omega))] at h
  simpa [Fb, wid (x := (bl n : Int) - 1) (by omega) (by omega)] using h
theorem specFib_no {n m : Int} (h : ¬ ((1 ≤ m ∧ m ≤ 1000000) ∧ 0 ≤ n ∧ n ≤ 1000000)) : Ev (fun k => spec_FibonacciPair.f k n m) (0, 0, false) := by
  simp only [spec_FibonacciPair.f, spec_l1In.f, ge_iff_le]
  by_cases c : 1 ≤ m <;> by_cases d : m ≤ 1000000 <;> by_cases f : 0 ≤ n <;> by_cases g : n ≤ 1000000 <;> first | (exfalso; omega) | exact ⟨0, fun k _ => by simp [c, d, f, g]⟩
theorem implFib_no {n m : Int} (h : ¬ ((1 ≤ m ∧ m ≤ 1000000) ∧ 0 ≤ n ∧ n ≤ 1000000)) : Ev (fun k => impl_FibonacciPair.f k n m) (0, 0, false) := by
  have e : Ev (fun k => impl_FibonacciPair.j0 k n m true) (0, 0, false) := by refine up ?_; simp only [impl_FibonacciPair.j0, if_true]; exact Ev.now _
  simp only [impl_FibonacciPair.f, impl_in.f, ge_iff_le]
  by_cases c : 1 ≤ m <;> by_cases d : m ≤ 1000000 <;> by_cases f : 0 ≤ n <;> by_cases g : n ≤ 1000000 <;> first | (exfalso; omega) | (simpa [c, d, f, g] using e)
/-- The Lucas values. -/
def V (p : Int) : Nat → Int
  | 0 => 2
  | 1 => p
  | n + 2 => p * V p (n + 1) - V p n
theorem V_step (p : Int) (n : Nat) : V p (n + 2) = p * V p (n + 1) - V p n := rfl
theorem V_prod (p : Int) : ∀ k n, V p (n + k) * V p k = V p (n + 2 * k) + V p n
  | 0, n => by simp only [V, Nat.add_zero, Nat.mul_zero]; grind
  | 1, n => by
    have := V_step p n
    simp only [V, Nat.mul_one]; grind
  | k + 2, n => by
    have h1 := V_prod p (k + 1) (n + 1)
    have h0 := V_prod p k (n + 2)
    have e1 := V_step p k
    have e2 := V_step p n
    have e3 := V_step p (n + 2 * k + 2)
    rw [show n + (k + 2) = n + k + 2 by omega, e1, show n + 2 * (k + 2) = n + 2 * k + 2 + 2 by omega, e3]
    rw [show n + 1 + (k + 1) = n + k + 2 by omega, show n + 1 + 2 * (k + 1) = n + 2 * k + 2 + 1 by omega] at h1
    rw [show n + 2 + k = n + k + 2 by omega, show n + 2 + 2 * k = n + 2 * k + 2 by omega] at h0
    grind
theorem V_double (p : Int) (q : Nat) : V p (2 * q) = V p q * V p q - 2 := by
  have := V_prod p q 0
  simp only [Nat.zero_add, V] at this; omega
theorem V_odd (p : Int) (q : Nat) : V p (2 * q + 1) = V p q * V p (q + 1) - p := by
  have := V_prod p q 1
  rw [show 1 + q = q + 1 by omega, show 1 + 2 * q = 2 * q + 1 by omega] at this
  have e : V p 1 = p := rfl
  rw [e, Int.mul_comm] at this; omega
theorem V_next (p : Int) (q : Nat) : V p (2 * q + 2) = V p (q + 1) * V p (q + 1) - 2 := by
  rw [show 2 * q + 2 = 2 * (q + 1) by omega, V_double]
theorem V_comp (p : Int) (k : Nat) : ∀ n, V p (n * k) = V (V p k) n
  | 0 => by simp [V]
  | 1 => by simp [V]
  | n + 2 => by
    have h1 := V_comp p k (n + 1)
    have h0 := V_comp p k n
    have := V_prod p k (n * k)
    rw [V_step, ← h1, ← h0, show (n + 2) * k = n * k + 2 * k by rw [Nat.add_mul], show (n + 1) * k = n * k + k by rw [Nat.add_mul, Nat.one_mul], Int.mul_comm]
    omega
theorem V_mod (p m : Int) : ∀ n, V (p % m) n % m = V p n % m
  | 0 => rfl
  | 1 => by simp only [V]; exact c_self _ _
  | n + 2 => by
    rw [V_step, V_step]
    exact c_sub (c_mul (c_self _ _) (V_mod p m (n + 1))) (V_mod p m n)
theorem ladder_sizes {a b c m : Int} (hm : 1 ≤ m) (hm2 : m ≤ 1000000) (hc : -1000000 ≤ c) (hc2 : c ≤ 1000000) : -9000000000000 ≤ (a % m) * (b % m) - c ∧ (a % m) * (b % m) - c ≤ 9000000000000 ∧ -9000000000000 ≤ (a % m) * (b % m) ∧ (a % m) * (b % m) ≤ 9000000000000 := by
  have h1 := m_range (m := m) (a := a) hm
  have h2 := m_range (m := m) (a := b) hm
  have h4 := mul_range (M := 1000000) h1.1 (by omega) h2.1 (by omega)
  omega
theorem l_double {p m : Int} (q : Nat) : ((V p q % m) * (V p q % m) - 2) % m = V p (2 * q) % m := by
  rw [V_double]; exact c_sub (c_mul (c_self _ _) (c_self _ _)) rfl
theorem l_odd {p m c : Int} (q : Nat) (hc : c % m = p % m) : ((V p q % m) * (V p (q + 1) % m) - c) % m = V p (2 * q + 1) % m := by
  rw [V_odd]; exact c_sub (c_mul (c_self _ _) (c_self _ _)) hc
theorem l_next {p m : Int} (q : Nat) : ((V p (q + 1) % m) * (V p (q + 1) % m) - 2) % m = V p (2 * q + 2) % m := by
  rw [V_next]; exact c_sub (c_mul (c_self _ _) (c_self _ _)) rfl
theorem implLadder_loop {p c m : Int} (hp : -1000000 ≤ c) (hp2 : c ≤ 1000000) (hc : c % m = p % m) (hm : 1 ≤ m) (hm2 : m ≤ 1000000) {n : Nat} (hn : n ≤ 1000000) : ∀ (i : Nat), i ≤ 20 →
    Ev (fun k => impl_ladder.l0 k c n m (V p (n / 2 ^ i) % m) (V p (n / 2 ^ i + 1) % m) ((i : Int) - 1)) (V p n % m, V p (n + 1) % m) := by
  intro i
  induction i with
  | zero =>
    intro _
    refine up ?_
    simp only [impl_ladder.l0, if_neg (show ¬ ((0 : Nat) : Int) - 1 ≥ 0 by omega), Nat.pow_zero, Nat.div_one]
    exact Ev.now _
  | succ i ih =>
    intro hi
    have ih := ih (by omega)
    have e := half_step n i
    have hq : n / 2 ^ i ≤ 1000000 := Nat.le_trans (Nat.div_le_self _ _) hn
    have hb1 := ladder_sizes (a := V p (n / 2 ^ (i + 1))) (b := V p (n / 2 ^ (i + 1))) (c := 2) hm hm2 (by omega) (by omega)
    have hb2 := ladder_sizes (a := V p (n / 2 ^ (i + 1))) (b := V p (n / 2 ^ (i + 1) + 1)) (c := c) hm hm2 hp hp2
    have hb3 := ladder_sizes (a := V p (n / 2 ^ (i + 1) + 1)) (b := V p (n / 2 ^ (i + 1) + 1)) (c := 2) hm hm2 (by omega) (by omega)
    generalize n / 2 ^ (i + 1) = q at *
    refine up ?_
    simp only [impl_ladder.l0, show ((i + 1 : Nat) : Int) - 1 = (i : Int) by omega, if_pos (show (i : Int) ≥ 0 by omega), if_pos (show (0 : Int) ≤ (i : Int) by omega),
      wid (x := V p q % m * (V p q % m)) (by omega) (by omega), wid (x := V p q % m * (V p q % m) - 2) (by omega) (by omega),
      wid (x := V p q % m * (V p (q + 1) % m)) (by omega) (by omega), wid (x := V p q % m * (V p (q + 1) % m) - c) (by omega) (by omega),
      wid (x := V p (q + 1) % m * (V p (q + 1) % m)) (by omega) (by omega), wid (x := V p (q + 1) % m * (V p (q + 1) % m) - 2) (by omega) (by omega),
      rest_val (a := V p q % m * (V p q % m) - 2) (b := m) (by omega) (by omega), rest_val (a := V p q % m * (V p (q + 1) % m) - c) (b := m) (by omega) (by omega), rest_val (a := V p (q + 1) % m * (V p (q + 1) % m) - 2) (b := m) (by omega) (by omega),
      Option.bind_some, l_double, l_odd q hc, l_next, shr_nat n i (by omega), bit_and _ hq, wid (x := (i : Int) - 1) (by omega) (by omega)]
    by_cases hr : n / 2 ^ i % 2 = 1
    · rw [if_pos_ev hr]
      rw [show 2 * q + 1 = n / 2 ^ i by omega, show 2 * (q + 1) = n / 2 ^ i + 1 by omega]
      exact ih
    · rw [if_neg_ev hr]
      rw [show 2 * q + 1 = n / 2 ^ i + 1 by omega, show 2 * q = n / 2 ^ i by omega]
      exact ih
theorem implLadder {p m : Int} (hm : 1 ≤ m) (hm2 : m ≤ 1000000) {n : Nat} (hn : n ≤ 1000000) : Ev (fun k => impl_ladder.f k p n m) (V p n % m, V p (n + 1) % m) := by
  have hs := bl_small hn
  have hr := m_range (m := m) (a := p) hm
  simp only [impl_ladder.f, rest_val (a := 2) (b := m) (by omega) (by omega), rest_val (a := p) (b := m) (by omega) (by omega), Option.bind_some, bitsLen_val hn]
  have h := implLadder_loop (p := p) (c := p % m) (by omega) (by omega) (c_self _ _) hm hm2 hn (bl n) hs
  rw [Nat.div_eq_of_lt (bl_lt (n := n) (by omega))] at h
  simpa [V, wid (x := (bl n : Int) - 1) (by omega) (by omega)] using h
theorem implByLadder {p m : Int} (n : Nat) (hp : -1000000 ≤ p) (hp2 : p ≤ 1000000) (hm : 1 ≤ m) (hm2 : m ≤ 1000000) (hn : n ≤ 1000000) : Ev (fun k => impl_LucasByLadder.f k p n m) (V p n % m, true) := by
  have h4 : (0 : Int) ≤ (n : Int) := by omega
  have h5 : (n : Int) ≤ 1000000 := by omega
  simp only [impl_LucasByLadder.f, impl_lucasOk.f, impl_in.f, ge_iff_le, hp, hp2, hm, hm2, h4, h5, decide_true, if_true, Option.bind_some]
  exact Ev.bind (implLadder hm hm2 hn) (Ev.now _)
theorem implByLadder_no {p n m : Int} (h : ¬ ((-1000000 ≤ p ∧ p ≤ 1000000) ∧ (1 ≤ m ∧ m ≤ 1000000) ∧ 0 ≤ n ∧ n ≤ 1000000)) : Ev (fun k => impl_LucasByLadder.f k p n m) (0, false) := by
  simp only [impl_LucasByLadder.f, impl_lucasOk.f, impl_in.f, ge_iff_le]
  by_cases a : -1000000 ≤ p <;> by_cases b : p ≤ 1000000 <;> by_cases c : 1 ≤ m <;> by_cases d : m ≤ 1000000 <;> by_cases f : 0 ≤ n <;> by_cases g : n ≤ 1000000 <;> first | (exfalso; omega) | exact ⟨0, fun k _ => by simp [a, b, c, d, f, g]⟩
theorem wf_byte {x : Int} (h : (Lit.int .u8 x).wf = true) : 0 ≤ x ∧ x ≤ 255 := by
  simp only [Lit.wf, Bool.and_eq_true, decide_eq_true_eq] at h
  exact h
theorem rd_byte {l : List Int} (hl : ∀ x ∈ l, (Lit.int .u8 x).wf = true) (i : Int) (h0 : 0 ≤ i) (h1 : i < l.length) : 0 ≤ rd l i ∧ rd l i ≤ 255 := by
  unfold rd
  have hi : i.toNat < l.length := by omega
  rw [List.getD_eq_getElem?_getD, List.getElem?_eq_getElem hi]
  exact wf_byte (hl _ (List.getElem_mem hi))
theorem wrapU_range (n : Int) : 0 ≤ IntKind.u64.wrap n ∧ IntKind.u64.wrap n < 18446744073709551616 := by
  simp only [IntKind.wrap, IntKind.bits, IntKind.signed, Bool.false_eq_true, false_and, if_false]
  simp
  omega
theorem and255 (x : Int) : 0 ≤ Go.bits .and .u64 (IntKind.u64.wrap x / 1099511627776) 255 ∧ Go.bits .and .u64 (IntKind.u64.wrap x / 1099511627776) 255 ≤ 255 := by
  have h := wrapU_range x
  have hw : ∀ n : Int, 0 ≤ n → n < 2 ^ 40 → IntKind.u64.wrap n = n := by
    intro n h0 h1
    have e : (2 : Int) ^ 40 = 1099511627776 := by decide
    simp only [IntKind.wrap, IntKind.bits, IntKind.signed, Bool.false_eq_true, false_and, if_false]
    simp
    omega
  have e : (2 : Int) ^ 40 = 1099511627776 := by decide
  have hb : Go.bits .and .u64 (IntKind.u64.wrap x / 1099511627776) ((2 : Int) ^ 8 - 1) = (IntKind.u64.wrap x / 1099511627776) % 2 ^ 8 := bits_mask .u64 40 (by decide) hw 8 (by decide) _ (by omega) (by omega)
  have e1 : (2 : Int) ^ 8 - 1 = 255 := by decide
  have e2 : (2 : Int) ^ 8 = 256 := by decide
  rw [e1, e2] at hb
  rw [hb]; omega
theorem next_ok {l : List Int} (hl : ∀ x ∈ l, (Lit.int .u8 x).wf = true) (p s : Int) (h0 : 0 ≤ p) (h1 : p ≤ 1000000000000) : ∃ v s', spec_l1Cur_next.f l p s = some (v, p + 1, s') ∧ 0 ≤ v ∧ v ≤ 255 := by
  unfold spec_l1Cur_next.f
  rw [wid (x := p + 1) (by omega) (by omega)]
  by_cases hlt : p < (l.length : Int)
  · have hb := rd_byte hl p h0 hlt
    rw [if_pos hlt, if_pos h0, if_pos (show p + 1 ≤ (l.length : Int) by omega), wid (x := rd l p) (by omega) (by omega)]
    exact ⟨_, _, rfl, by omega, by omega⟩
  · rw [if_neg hlt]
    by_cases hle : p + 1 ≤ (l.length : Int)
    · omega
    · rw [if_neg hle]
      have := and255 (IntKind.u64.wrap (IntKind.u64.wrap (s * 6364136223846793005)) + 1442695040888963407)
      rw [wid (by omega) (by omega)]
      exact ⟨_, _, rfl, this.1, this.2⟩
theorem pick_ok {l : List Int} (hl : ∀ x ∈ l, (Lit.int .u8 x).wf = true) (p s n : Int) (h0 : 0 ≤ p) (h1 : p ≤ 100000000000) : ∃ v p' s', spec_l1Cur_pick.f l p s n = some (v, p', s') ∧ 0 ≤ v ∧ (1 ≤ n → v < n) ∧ p ≤ p' ∧ p' ≤ p + 2 := by
  unfold spec_l1Cur_pick.f
  by_cases hn : n ≤ 1
  · rw [if_pos hn]; exact ⟨0, p, s, rfl, by omega, by omega, by omega, by omega⟩
  · rw [if_neg hn]
    obtain ⟨v, s1, e1, hv0, hv1⟩ := next_ok hl p s h0 (by omega)
    rw [e1]; simp only [Option.bind_some]
    by_cases hb : n > 200
    · obtain ⟨u, s2, e2, hu0, hu1⟩ := next_ok hl (p + 1) s1 (by omega) (by omega)
      rw [if_pos hb, e2]; simp only [Option.bind_some]
      rw [if_neg (by omega), wid (x := v * 256) (by omega) (by omega), wid (x := v * 256 + u) (by omega) (by omega), Int.tmod_eq_emod_of_nonneg (by omega)]
      have r1 := Int.emod_nonneg (v * 256 + u) (show n ≠ 0 by omega)
      have r2 := Int.emod_lt_of_pos (v * 256 + u) (show 0 < n by omega)
      exact ⟨_, _, _, rfl, r1, fun _ => r2, by omega, by omega⟩
    · rw [if_neg hb, if_neg (by omega), Int.tmod_eq_emod_of_nonneg (by omega)]
      have r1 := Int.emod_nonneg v (show n ≠ 0 by omega)
      have r2 := Int.emod_lt_of_pos v (show 0 < n by omega)
      exact ⟨_, _, _, rfl, r1, fun _ => r2, by omega, by omega⟩
theorem one_ok {l : List Int} (hl : ∀ x ∈ l, (Lit.int .u8 x).wf = true) (p s n : Int) (h0 : 0 ≤ p) (h1 : p ≤ 100000000000) : ∃ v p' s', spec_l1Cur_one.f l p s n = some (v, p', s') ∧ p ≤ p' ∧ p' ≤ p + 2 := by
  obtain ⟨v, p', s', e, _, _, a, b⟩ := pick_ok hl p s n h0 h1
  exact ⟨(v == 0), p', s', by simp only [spec_l1Cur_one.f, e, Option.bind_some], a, b⟩
theorem among_ok {l : List Int} (hl : ∀ x ∈ l, (Lit.int .u8 x).wf = true) (p s : Int) (h0 : 0 ≤ p) (h1 : p ≤ 100000000000) (t : List Int) (ht : 1 ≤ t.length) : ∃ v p' s', spec_l1Cur_among.f l p s t = some (v, p', s') ∧ v ∈ t ∧ p ≤ p' ∧ p' ≤ p + 2 := by
  obtain ⟨v, p', s', e, v0, v1, a, b⟩ := pick_ok hl p s t.length h0 h1
  have hv := v1 (by omega)
  refine ⟨rd t v, p', s', by simp only [spec_l1Cur_among.f, e, Option.bind_some, if_pos v0, if_pos hv], ?_, a, b⟩
  unfold rd
  have hi : v.toNat < t.length := by omega
  rw [List.getD_eq_getElem?_getD, List.getElem?_eq_getElem hi]
  exact List.getElem_mem hi
theorem index_ok {l : List Int} (hl : ∀ x ∈ l, (Lit.int .u8 x).wf = true) (p s : Int) (h0 : 0 ≤ p) (h1 : p ≤ 10000000000) : ∃ v p' s', spec_l1Cur_index.f l p s = some (v, p', s') ∧ p ≤ p' ∧ p' ≤ p + 4 := by
  unfold spec_l1Cur_index.f
  obtain ⟨v, p1, s1, e, _, _, a, b⟩ := pick_ok hl p s 8 h0 (by omega)
  rw [e]; simp only [Option.bind_some]
  by_cases c0 : v = 0
  · obtain ⟨u, p2, s2, e2, _, a2, b2⟩ := among_ok hl p1 s1 (by omega) (by omega) [(-1), 0, 1, 2000, 2001, 1000000, 1000001] (by simp)
    rw [if_pos c0, e2]; exact ⟨_, p2, s2, rfl, by omega, by omega⟩
  · rw [if_neg c0]
    by_cases c1 : v = 1
    · obtain ⟨u, p2, s2, e2, _, _, a2, b2⟩ := pick_ok hl p1 s1 1000000 (by omega) (by omega)
      rw [if_pos c1, e2]; exact ⟨_, p2, s2, rfl, by omega, by omega⟩
    · obtain ⟨u, p2, s2, e2, _, _, a2, b2⟩ := pick_ok hl p1 s1 100 (by omega) (by omega)
      rw [if_neg c1, e2]; exact ⟨_, p2, s2, rfl, by omega, by omega⟩
theorem modulus_ok {l : List Int} (hl : ∀ x ∈ l, (Lit.int .u8 x).wf = true) (p s : Int) (h0 : 0 ≤ p) (h1 : p ≤ 10000000000) : ∃ v p' s', spec_l1Cur_modulus.f l p s = some (v, p', s') ∧ p ≤ p' ∧ p' ≤ p + 4 := by
  unfold spec_l1Cur_modulus.f
  obtain ⟨v, p1, s1, e, a, b⟩ := one_ok hl p s 6 h0 (by omega)
  rw [e]; simp only [Option.bind_some]
  by_cases c0 : v = true
  · obtain ⟨u, p2, s2, e2, _, a2, b2⟩ := among_ok hl p1 s1 (by omega) (by omega) [(-1), 0, 1, 1000000, 1000001] (by simp)
    rw [if_pos c0, e2]; exact ⟨_, p2, s2, rfl, by omega, by omega⟩
  · obtain ⟨u, p2, s2, e2, _, _, a2, b2⟩ := pick_ok hl p1 s1 1000 (by omega) (by omega)
    rw [if_neg c0, e2]; exact ⟨_, p2, s2, rfl, by omega, by omega⟩
theorem pMod_val {a b : Int} (hb : 0 < b) (hb2 : b ≤ 1000000000000000) : laws_pMod.f a b = some (a % b) := rest_val (a := a) hb hb2
theorem W_eq : ∀ n, V 3 n = 2 * Fb (2 * n + 1) - Fb (2 * n)
  | 0 => by simp [V, Fb]
  | 1 => by simp [V, Fb]
  | n + 2 => by
    have h1 := W_eq (n + 1)
    have h0 := W_eq n
    have e1 := Fb_step (2 * n)
    have e2 := Fb_step (2 * n + 1)
    have e3 := Fb_step (2 * n + 2)
    have e4 := Fb_step (2 * n + 3)
    rw [V_step, h1, h0, show 2 * (n + 2) + 1 = 2 * n + 3 + 2 by omega, show 2 * (n + 2) = 2 * n + 2 + 2 by omega, show 2 * (n + 1) + 1 = 2 * n + 1 + 2 by omega, show 2 * (n + 1) = 2 * n + 2 by omega]
    rw [show 2 * n + 2 + 1 = 2 * n + 1 + 2 by omega] at e3
    rw [show 2 * n + 3 + 1 = 2 * n + 2 + 2 by omega, show 2 * n + 3 = 2 * n + 1 + 2 by omega] at e4
    rw [show 2 * n + 1 + 1 = 2 * n + 2 by omega] at e2
    rw [show 2 * n + 3 + 2 = 2 * n + 1 + 2 + 2 by omega]
    omega
theorem W_sum (n : Nat) : Fb (2 * n + 1) + Fb (2 * n + 3) = V 3 (n + 1) := by
  have e2 := Fb_step (2 * n + 1)
  rw [W_eq, show 2 * (n + 1) + 1 = 2 * n + 3 by omega, show 2 * (n + 1) = 2 * n + 2 by omega]
  rw [show 2 * n + 1 + 2 = 2 * n + 3 by omega, show 2 * n + 1 + 1 = 2 * n + 2 by omega] at e2
  omega
theorem main : laws_FnFibonacciAndLucas.Pure := by
  intro code more _ hc hcode _ hm _
  refine Ev.rounds ?_
  simp only [laws_FnFibonacciAndLucas.f, laws_big.f]
  by_cases hb : (code.length : Int) > 1048576
  · exact ⟨0, fun k _ => by simp only [if_pos hb, Option.bind_some, if_true]⟩
  simp only [if_neg hb, Option.bind_some, wid (x := 1048576 - (code.length : Int)) (by omega) (by omega)]
  by_cases hb2 : (more.length : Int) > 1048576 - (code.length : Int)
  · exact ⟨0, fun k _ => by simp only [hb2, decide_true, if_true]⟩
  simp only [hb2, decide_false, Bool.false_eq_true, if_false]
  obtain ⟨n, p1, s1, e1, a1, b1⟩ := index_ok hcode 0 0 (by omega) (by omega)
  obtain ⟨m, p2, s2, e2, a2, b2⟩ := modulus_ok hcode p1 s1 (by omega) (by omega)
  have hd : spec_DrawFibonacciPair.f code = some (n, m) := by simp only [spec_DrawFibonacciPair.f, e1, e2, Option.bind_some]
  simp only [hd, Option.bind_some]
  by_cases h : (1 ≤ m ∧ m ≤ 1000000) ∧ 0 ≤ n ∧ n ≤ 1000000
  · obtain ⟨⟨h2, h3⟩, h4, h5⟩ := h
    obtain ⟨N, rfl⟩ := Int.eq_ofNat_of_zero_le h4
    have hN : N ≤ 1000000 := by omega
    refine Ev.bind (implFib N h2 h3 hN) ?_
    refine Ev.bind (specFib N h2 h3 hN) ?_
    simp only [bne_self_eq_false, Bool.false_eq_true, if_false, if_true]
    have r1 := m_range (m := m) (a := Fb N) h2
    have r2 := m_range (m := m) (a := Fb (N + 1)) h2
    -- the three pieces behind the first comparison, from the last one on
    have J2 : ∀ b : Bool, (N = 0 ∨ 2 * N > 1000000 → b = true) → Ev (fun k => laws_FnFibonacciAndLucas.j2 k N m (Fb N % m) (Fb (N + 1) % m) b) true := by
      intro b hbt
      refine up ?_
      cases b with
      | true => simp only [laws_FnFibonacciAndLucas.j2, if_true]; exact Ev.now _
      | false =>
        have hN0 : ¬ (N = 0 ∨ 2 * N > 1000000) := fun h => absurd (hbt h) (by simp)
        obtain ⟨M, rfl⟩ : ∃ M, N = M + 1 := ⟨N - 1, by omega⟩
        have e1 : wrap64 (2 * ((M + 1 : Nat) : Int)) = ((2 * M + 2 : Nat) : Int) := by rw [wid (by omega) (by omega)]; omega
        have e2 : wrap64 (((2 * M + 2 : Nat) : Int) - 1) = ((2 * M + 1 : Nat) : Int) := by rw [wid (by omega) (by omega)]; omega
        simp only [laws_FnFibonacciAndLucas.j2, Bool.false_eq_true, if_false, e1, e2]
        refine Ev.bind (implFib (2 * M + 1) h2 h3 (by omega)) ?_
        refine Ev.bind (implFib (2 * M + 2) h2 h3 (by omega)) ?_
        refine Ev.bind (implByLadder (p := 3) (M + 1) (by omega) (by omega) h2 h3 hN) ?_
        have hs := fib_sizes (a := Fb (M + 1)) (b := 2 * (Fb (M + 1 + 1) % m) - Fb (M + 1) % m) h2 h3
        have hs1 := mul_range (M := 3000000) r1.1 (show Fb (M + 1) % m ≤ 3000000 by omega) (show (0 : Int) ≤ 2 * (Fb (M + 1 + 1) % m) + m - Fb (M + 1) % m by omega) (by omega)
        have hs2 := mul_range (M := 3000000) r1.1 (show Fb (M + 1) % m ≤ 3000000 by omega) (show (0 : Int) ≤ m by omega) (by omega)
        have hs3 : Fb (M + 1) % m * (2 * (Fb (M + 1 + 1) % m) - Fb (M + 1) % m) = Fb (M + 1) % m * (2 * (Fb (M + 1 + 1) % m) + m - Fb (M + 1) % m) - Fb (M + 1) % m * m := by grind
        have k1 : (Fb (M + 1) % m * (2 * (Fb (M + 1 + 1) % m) - Fb (M + 1) % m)) % m = Fb (2 * M + 1 + 1) % m := by
          rw [show 2 * M + 1 + 1 = 2 * (M + 1) by omega, Fb_even]
          exact c_mul (c_self _ _) (c_sub (c_mul rfl (c_self _ _)) (c_self _ _))
        have q1 := m_range (m := m) (a := Fb (2 * M + 1)) h2
        have q2 := m_range (m := m) (a := Fb (2 * M + 2 + 1)) h2
        have k2 : (Fb (2 * M + 1) % m + Fb (2 * M + 2 + 1) % m) % m = V 3 (M + 1) % m := by
          rw [← W_sum]; exact c_add (c_self _ _) (c_self _ _)
        simp only [if_true, wid (x := 2 * (Fb (M + 1 + 1) % m)) (by omega) (by omega), wid (x := 2 * (Fb (M + 1 + 1) % m) - Fb (M + 1) % m) (by omega) (by omega), wid (x := Fb (M + 1) % m * (2 * (Fb (M + 1 + 1) % m) - Fb (M + 1) % m)) (by omega) (by omega),
          pMod_val (a := Fb (M + 1) % m * (2 * (Fb (M + 1 + 1) % m) - Fb (M + 1) % m)) (b := m) (by omega) (by omega), Option.bind_some, k1, wid (x := Fb (2 * M + 1) % m + Fb (2 * M + 2 + 1) % m) (by omega) (by omega), pMod_val (a := Fb (2 * M + 1) % m + Fb (2 * M + 2 + 1) % m) (b := m) (by omega) (by omega), k2]
        exact ⟨0, fun k _ => by simp⟩
    have J1 : Ev (fun k => laws_FnFibonacciAndLucas.j1 k N m (Fb N % m) (Fb (N + 1) % m) false) true := by
      refine up ?_
      simp only [laws_FnFibonacciAndLucas.j1, Bool.false_eq_true, if_false]
      by_cases hz : (N : Int) = 0
      · simp only [if_pos hz]; exact J2 true (fun _ => rfl)
      · simp only [if_neg hz, wid (x := 2 * (N : Int)) (by omega) (by omega)]
        exact J2 _ (fun h => by rw [decide_eq_true_eq]; omega)
    refine up ?_
    simp only [laws_FnFibonacciAndLucas.j0, Bool.false_eq_true, if_false, if_true, wid (x := (N : Int) + 1) (by omega) (by omega)]
    by_cases hmax : N + 1 ≤ 1000000
    · refine Ev.bind (implFib (N + 1) h2 h3 hmax) ?_
      have k0 : (Fb N % m + Fb (N + 1) % m) % m = Fb (N + 1 + 1) % m := by
        rw [show N + 1 + 1 = N + 2 by omega, Fb_step, Int.add_comm]; exact c_add (c_self _ _) (c_self _ _)
      simp only [if_true, wid (x := Fb N % m + Fb (N + 1) % m) (by omega) (by omega), pMod_val (a := Fb N % m + Fb (N + 1) % m) (b := m) (by omega) (by omega), Option.bind_some, k0, bne_self_eq_false]
      exact J1
    · refine Ev.bind (implFib_no (n := (N : Int) + 1) (m := m) (by omega)) ?_
      simp only [Bool.false_eq_true, if_false]
      exact J1
  · refine Ev.bind (implFib_no h) ?_
    refine Ev.bind (specFib_no h) ?_
    simp only [bne_self_eq_false, Bool.false_eq_true, if_false, if_true]
    refine up ?_
    simp only [laws_FnFibonacciAndLucas.j0, Bool.false_eq_true, if_false]
    exact Ev.now _
end Go.Proofs.Ytdmpgpmdgmejpaa.PureFnFibonacciAndLucasL
namespace Go.Proofs.Ytdmpgpmdgmejpaa.Pure
open Go.Proofs.Ytdmpgpmdgmejpaa.PFnFibonacciAndLucas
theorem FnFibonacciAndLucas : laws_FnFibonacciAndLucas.Pure := PureFnFibonacciAndLucasL.main
end Go.Proofs.Ytdmpgpmdgmejpaa.Pure
