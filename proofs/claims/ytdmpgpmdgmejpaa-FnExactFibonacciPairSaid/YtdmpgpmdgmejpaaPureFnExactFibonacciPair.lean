/- The program's FibonacciPair returns what the reference's FibonacciPair returns, for all arguments of the type int; nothing else is asked of them. -/
import Derived.Test.YtdmpgpmdgmejpaaPFnExactFibonacciPairx1
set_option linter.unusedVariables false
set_option linter.unusedSimpArgs false
namespace Go.Proofs.Ytdmpgpmdgmejpaa.PureFnExactFibonacciPairL
open Go.RowKit Go.Proofs.Ytdmpgpmdgmejpaa.PFnExactFibonacciPair Go.Proofs.YtdmpgpmdgmejpaaW.PrintWords Go.Proofs.YtdmpgpmdgmejpaaW.PrintLast Go.Proofs.YtdmpgpmdgmejpaaW.PrintMore
theorem up {α : Type} {g : Nat → Option α} {r : α} (h : Ev (fun k => g (k + 1)) r) : Ev g r := by
  obtain ⟨K, h⟩ := h
  refine ⟨K + 1, fun k hk => ?_⟩
  obtain ⟨m, rfl⟩ : ∃ m, k = m + 1 := ⟨k - 1, by omega⟩
  exact h m (by omega)
theorem wid {x : Int} (h0 : -9223372036854775808 ≤ x) (h1 : x ≤ 9223372036854775807) : wrap64 x = x := by unfold wrap64; omega
theorem ite_yes {α : Type} {c : Prop} [Decidable c] {a b : α} (h : c) : (if c then a else b) = a := if_pos h
theorem ite_no {α : Type} {c : Prop} [Decidable c] {a b : α} (h : ¬ c) : (if c then a else b) = b := if_neg h
theorem evsome {α β : Type} {x : Option α} {a : α} {f : Nat → α → Option β} {r : β} (hx : x = some a) (h : Ev (fun k => f k a) r) : Ev (fun k => x.bind (f k)) r := by subst hx; exact h
theorem if_pos_ev {α : Type} {c : Prop} [Decidable c] {f g : Nat → Option α} (h : c) : (fun k => if c then f k else g k) = f := funext fun k => if_pos h
theorem if_neg_ev {α : Type} {c : Prop} [Decidable c] {f g : Nat → Option α} (h : ¬ c) : (fun k => if c then f k else g k) = g := funext fun k => if_neg h
theorem tmod_in {a b : Int} (hb : 0 < b) : -b < Int.tmod a b ∧ Int.tmod a b < b := by
  have h1 := Int.tmod_lt_of_pos a hb
  have h2 := Int.lt_tmod_of_pos a hb
  exact ⟨h2, h1⟩
theorem rest_val {a b : Int} (hb : 0 < b) (hb2 : b ≤ 1000000000000000) : impl_rest.f a b = some (a % b) := by
  have h := tmod_in (a := a) hb
  unfold impl_rest.f
  rw [if_neg (by omega), wid (by omega) (by omega), Int.tmod_eq_emod_of_nonneg (by omega), Int.add_emod_right]
  congr 1
  rw [Int.tmod_def, Int.sub_mul_emod_self_left]
theorem posmod {a b : Int} (hb : 0 < b) (hb2 : b ≤ 1000000000000000) : Int.tmod (wrap64 ((Int.tmod a b) + b)) b = a % b := by
  have h := rest_val (a := a) hb hb2
  unfold impl_rest.f at h
  rw [if_neg (by omega)] at h
  exact Option.some.inj h
theorem odd_test (x : Int) : Int.tmod x 2 = 0 ↔ x % 2 = 0 := by
  rw [← Int.dvd_iff_tmod_eq_zero, ← Int.dvd_iff_emod_eq_zero]
theorem half_even {x : Int} (h : x % 2 = 0) : Int.tdiv x 2 = x / 2 := Int.tdiv_eq_ediv_of_dvd (Int.dvd_of_emod_eq_zero h)
theorem poMod_val {a b : Int} (hb : 0 < b) (hb2 : b ≤ 1000000000000000) : spec_poMod.f a b = some (a % b) := by
  have h : -b < Int.tmod a b ∧ Int.tmod a b < b := ⟨Int.lt_tmod_of_pos a hb, Int.tmod_lt_of_pos a hb⟩
  unfold spec_poMod.f
  rw [if_neg (by omega), wid (by omega) (by omega), Int.tmod_eq_emod_of_nonneg (by omega), Int.add_emod_right]
  congr 1
  rw [Int.tmod_def, Int.sub_mul_emod_self_left]
theorem c_mul {m a a' b b' : Int} (h : a % m = a' % m) (h' : b % m = b' % m) : (a * b) % m = (a' * b') % m := by rw [Int.mul_emod, h, h', ← Int.mul_emod]
theorem c_sub {m a a' b b' : Int} (h : a % m = a' % m) (h' : b % m = b' % m) : (a - b) % m = (a' - b') % m := by rw [Int.sub_emod, h, h', ← Int.sub_emod]
theorem c_add {m a a' b b' : Int} (h : a % m = a' % m) (h' : b % m = b' % m) : (a + b) % m = (a' + b') % m := by rw [Int.add_emod, h, h', ← Int.add_emod]
theorem c_self (m a : Int) : (a % m) % m = a % m := Int.emod_emod_of_dvd a (Int.dvd_refl m)
theorem m_range {m a : Int} (hm : 1 ≤ m) : 0 ≤ a % m ∧ a % m < m := ⟨Int.emod_nonneg _ (by omega), Int.emod_lt_of_pos _ (by omega)⟩
theorem mul_range {a b M : Int} (ha0 : 0 ≤ a) (ha : a ≤ M) (hb0 : 0 ≤ b) (hb : b ≤ M) : 0 ≤ a * b ∧ a * b ≤ M * M := ⟨Int.mul_nonneg ha0 hb0, Int.mul_le_mul ha hb hb0 (by omega)⟩
theorem bl_bounds : ∀ (f x : Nat), x < 2 ^ f → x < 2 ^ (Go.Lib.bitLenAux f x) ∧ (x ≠ 0 → 1 ≤ Go.Lib.bitLenAux f x ∧ 2 ^ (Go.Lib.bitLenAux f x - 1) ≤ x)
  | 0, x, h => by simp at h; subst h; simp [Go.Lib.bitLenAux]
  | f + 1, x, h => by
    unfold Go.Lib.bitLenAux
    by_cases h0 : x = 0
    · simp [h0]
    · rw [if_neg h0]
      have ih := bl_bounds f (x / 2) (by rw [Nat.pow_succ] at h; omega)
      refine ⟨?_, fun _ => ⟨by omega, ?_⟩⟩
      · rw [Nat.add_comm, Nat.pow_succ]; omega
      · by_cases h1 : x / 2 = 0
        · have : x = 1 := by omega
          subst this
          rw [h1]
          cases f <;> simp [Go.Lib.bitLenAux]
        · have := ih.2 h1
          have e : 1 + Go.Lib.bitLenAux f (x / 2) - 1 = (Go.Lib.bitLenAux f (x / 2) - 1) + 1 := by omega
          rw [e, Nat.pow_succ]; omega
def bl (n : Nat) : Nat := Go.Lib.bitLen n
theorem bl_lt {n : Nat} (h : n < 2 ^ 64) : n < 2 ^ bl n := (bl_bounds 64 n h).1
theorem bl_ge {n i : Nat} (h : n < 2 ^ 64) (hi : i < bl n) : 2 ^ i ≤ n := by
  by_cases h0 : n = 0
  · subst h0; have e : bl 0 = 0 := by decide
    omega
  · have := (bl_bounds 64 n h).2 h0
    have e : bl n = Go.Lib.bitLenAux 64 n := rfl
    exact Nat.le_trans (Nat.pow_le_pow_right (by omega) (by omega)) this.2
theorem bl_small {n : Nat} (h : n ≤ 1000000) : bl n ≤ 20 := by
  rcases Nat.lt_or_ge 20 (bl n) with h1 | h1
  · have := bl_ge (n := n) (i := 20) (by omega) h1; omega
  · exact h1
theorem shr_nat (n i : Nat) (hi : i ≤ 64) : shr .i64 (n : Int) (i : Int) = ((n / 2 ^ i : Nat) : Int) := by
  unfold shr
  rw [Int.toNat_natCast, Nat.min_eq_left (by simpa [IntKind.bits] using hi)]
  simp
theorem wrapu {n : Int} (h0 : 0 ≤ n) (h1 : n ≤ 1000000000000) : IntKind.u64.wrap n = n := by
  simp only [IntKind.wrap, IntKind.bits, IntKind.signed, Bool.false_eq_true, false_and, if_false]
  simp
  omega
theorem bitsLen_val {n : Nat} (h : n ≤ 1000000) : bits_Len.f (IntKind.u64.wrap (n : Int)) = some (bl n : Int) := by
  rw [wrapu (by omega) (by omega)]
  unfold bits_Len.f
  rw [if_pos (by omega), Int.toNat_natCast]; rfl
theorem wrap62 (n : Int) (h0 : 0 ≤ n) (h1 : n < 2 ^ 62) : IntKind.i64.wrap n = n := by
  have e : (2 : Int) ^ 62 = 4611686018427387904 := by decide
  simp only [IntKind.wrap, IntKind.bits, IntKind.signed]
  simp
  omega
theorem bit_and (q : Nat) (h : q ≤ 1000000) : (Go.bits .and .i64 (q : Int) 1 = 1) ↔ q % 2 = 1 := by
  have e : (2 : Int) ^ 62 = 4611686018427387904 := by decide
  have hb : Go.bits .and .i64 (q : Int) ((2 : Int) ^ 1 - 1) = (q : Int) % 2 ^ 1 := bits_mask .i64 62 (by decide) wrap62 1 (by decide) (q : Int) (by omega) (by omega)
  have e1 : (2 : Int) ^ 1 - 1 = 1 := by decide
  have e2 : (2 : Int) ^ 1 = 2 := by decide
  rw [e1, e2] at hb
  rw [hb]; omega
theorem bit_mod (q : Nat) : (Int.tmod (q : Int) 2 = 1) ↔ q % 2 = 1 := by
  rw [Int.tmod_eq_emod_of_nonneg (by omega)]; omega
theorem chLength_loop {n : Nat} (h : n ≤ 1000000) : ∀ (d i : Nat), i + d = bl n → Ev (fun k => spec_chLength.l0 k n i) (bl n : Int) := by
  have hs := bl_small h
  intro d
  induction d with
  | zero =>
    intro i hi
    have hlt := bl_lt (n := n) (by omega)
    have e : n / 2 ^ i = 0 := Nat.div_eq_of_lt (by rw [show i = bl n by omega]; exact hlt)
    refine up ?_
    simp only [spec_chLength.l0, if_pos (show (0 : Int) ≤ (i : Int) by omega), shr_nat n i (by omega), e, if_neg (show ¬ ((0 : Nat) : Int) > 0 by omega)]
    rw [show i = bl n by omega]
    exact Ev.now _
  | succ d ih =>
    intro i hi
    have hge := bl_ge (n := n) (i := i) (by omega) (by omega)
    have e : 0 < n / 2 ^ i := Nat.div_pos hge (Nat.pow_pos (by omega))
    refine up ?_
    simp only [spec_chLength.l0, if_pos (show (0 : Int) ≤ (i : Int) by omega), shr_nat n i (by omega), if_pos (show ((n / 2 ^ i : Nat) : Int) > 0 by omega), wid (x := (i : Int) + 1) (by omega) (by omega)]
    exact ih (i + 1) (by omega)
theorem chLength_val {n : Nat} (h : n ≤ 1000000) : Ev (fun k => spec_chLength.f k n) (bl n : Int) := chLength_loop h (bl n) 0 (by omega)
theorem half_step (n i : Nat) : n / 2 ^ i = 2 * (n / 2 ^ (i + 1)) + (n / 2 ^ i) % 2 := by
  have : n / 2 ^ (i + 1) = (n / 2 ^ i) / 2 := by rw [Nat.pow_succ, Nat.div_div_eq_div_mul]
  rw [this]; omega
/-- The Fibonacci numbers. -/
def Fb : Nat → Int
  | 0 => 0
  | 1 => 1
  | n + 2 => Fb (n + 1) + Fb n
theorem Fb_step (n : Nat) : Fb (n + 2) = Fb (n + 1) + Fb n := rfl
theorem Fb_add (m : Nat) : ∀ n, Fb (m + n + 1) = Fb (m + 1) * Fb (n + 1) + Fb m * Fb n
  | 0 => by simp [Fb]
  | 1 => by simp only [Fb]; omega
  | n + 2 => by
    have h1 := Fb_add m (n + 1)
    have h0 := Fb_add m n
    have e1 := Fb_step (m + n + 1)
    have e2 := Fb_step (n + 1)
    have e3 := Fb_step n
    rw [show m + (n + 2) + 1 = m + n + 1 + 2 by omega, e1, show n + 2 + 1 = n + 1 + 2 by omega, e2, e3]
    rw [show m + (n + 1) + 1 = m + n + 1 + 1 by omega, show n + 1 + 1 = n + 2 by omega, e3] at h1
    grind
theorem Fb_odd (q : Nat) : Fb (2 * q + 1) = Fb q * Fb q + Fb (q + 1) * Fb (q + 1) := by
  have := Fb_add q q
  rw [show q + q + 1 = 2 * q + 1 by omega] at this; omega
theorem Fb_even (q : Nat) : Fb (2 * q) = Fb q * (2 * Fb (q + 1) - Fb q) := by
  cases q with
  | zero => simp [Fb]
  | succ q =>
    have h := Fb_add (q + 1) q
    have e := Fb_step q
    rw [show q + 1 + q + 1 = 2 * (q + 1) by omega] at h
    rw [h, show q + 1 + 1 = q + 2 by omega, e]
    grind
theorem Fb_next (q : Nat) : Fb (2 * q + 2) = Fb (2 * q) + Fb (2 * q + 1) := by rw [Fb_step]; omega
theorem fib_sizes {a b m : Int} (hm : 1 ≤ m) (hm2 : m ≤ 1000000) : -9000000000000 ≤ (a % m) * (b % m) ∧ (a % m) * (b % m) ≤ 3000000000000 := by
  have h1 := m_range (m := m) (a := a) hm
  have h2 := m_range (m := m) (a := b) hm
  have h4 := mul_range (M := 1000000) h1.1 (by omega) h2.1 (by omega)
  omega
theorem f_twice {m : Int} (q : Nat) : (Fb q % m * ((2 * (Fb (q + 1) % m) - Fb q % m) % m)) % m = Fb (2 * q) % m := by
  rw [Fb_even]
  exact c_mul (c_self _ _) (by rw [c_self]; exact c_sub (c_mul rfl (c_self _ _)) (c_self _ _))
theorem f_odd {m : Int} (q : Nat) : (Fb q % m * (Fb q % m) + Fb (q + 1) % m * (Fb (q + 1) % m)) % m = Fb (2 * q + 1) % m := by
  rw [Fb_odd]; exact c_add (c_mul (c_self _ _) (c_self _ _)) (c_mul (c_self _ _) (c_self _ _))
theorem f_next {m : Int} (q : Nat) : (Fb (2 * q) % m + Fb (2 * q + 1) % m) % m = Fb (2 * q + 2) % m := by
  rw [Fb_next]; exact c_add (c_self _ _) (c_self _ _)
theorem specFib_loop {m : Int} (hm : 1 ≤ m) (hm2 : m ≤ 1000000) {n : Nat} (hn : n ≤ 1000000) : ∀ (i : Nat), i ≤ 20 →
    Ev (fun k => spec_luFib.l0 k n m (Fb (n / 2 ^ i) % m) (Fb (n / 2 ^ i + 1) % m) ((i : Int) - 1)) (Fb n % m, Fb (n + 1) % m) := by
  intro i
  induction i with
  | zero =>
    intro _
    refine up ?_
    simp only [spec_luFib.l0, if_neg (show ¬ ((0 : Nat) : Int) - 1 ≥ 0 by omega), Nat.pow_zero, Nat.div_one]
    exact Ev.now _
  | succ i ih =>
    intro hi
    have ih := ih (by omega)
    have e := half_step n i
    have r1 := m_range (m := m) (a := Fb (n / 2 ^ (i + 1))) hm
    have r2 := m_range (m := m) (a := Fb (n / 2 ^ (i + 1) + 1)) hm
    have r3 := m_range (m := m) (a := Fb (2 * (n / 2 ^ (i + 1)))) hm
    have r4 := m_range (m := m) (a := Fb (2 * (n / 2 ^ (i + 1)) + 1)) hm
    have hb1 := fib_sizes (a := Fb (n / 2 ^ (i + 1))) (b := Fb (n / 2 ^ (i + 1))) hm hm2
    have hb2 := fib_sizes (a := Fb (n / 2 ^ (i + 1) + 1)) (b := Fb (n / 2 ^ (i + 1) + 1)) hm hm2
    have hb3 := fib_sizes (a := Fb (n / 2 ^ (i + 1))) (b := 2 * (Fb (n / 2 ^ (i + 1) + 1) % m) - Fb (n / 2 ^ (i + 1)) % m) hm hm2
    generalize n / 2 ^ (i + 1) = q at *
    refine up ?_
    simp only [spec_luFib.l0, show ((i + 1 : Nat) : Int) - 1 = (i : Int) by omega, if_pos (show (i : Int) ≥ 0 by omega), if_pos (show (0 : Int) ≤ (i : Int) by omega),
      wid (x := 2 * (Fb (q + 1) % m)) (by omega) (by omega), wid (x := 2 * (Fb (q + 1) % m) - Fb q % m) (by omega) (by omega),
      poMod_val (a := 2 * (Fb (q + 1) % m) - Fb q % m) (b := m) (by omega) (by omega), Option.bind_some,
      wid (x := Fb q % m * ((2 * (Fb (q + 1) % m) - Fb q % m) % m)) (by omega) (by omega), poMod_val (a := Fb q % m * ((2 * (Fb (q + 1) % m) - Fb q % m) % m)) (b := m) (by omega) (by omega),
      wid (x := Fb q % m * (Fb q % m)) (by omega) (by omega), wid (x := Fb (q + 1) % m * (Fb (q + 1) % m)) (by omega) (by omega), wid (x := Fb q % m * (Fb q % m) + Fb (q + 1) % m * (Fb (q + 1) % m)) (by omega) (by omega),
      poMod_val (a := Fb q % m * (Fb q % m) + Fb (q + 1) % m * (Fb (q + 1) % m)) (b := m) (by omega) (by omega), f_twice, f_odd, wid (x := Fb (2 * q) % m + Fb (2 * q + 1) % m) (by omega) (by omega), poMod_val (a := Fb (2 * q) % m + Fb (2 * q + 1) % m) (b := m) (by omega) (by omega), f_next,
      shr_nat n i (by omega), bit_mod, wid (x := (i : Int) - 1) (by omega) (by omega)]
    by_cases hr : n / 2 ^ i % 2 = 1
    · rw [if_pos_ev hr]
      rw [show 2 * q + 1 = n / 2 ^ i by omega, show 2 * q + 2 = n / 2 ^ i + 1 by omega]
      exact ih
    · rw [if_neg_ev hr]
      rw [show 2 * q + 1 = n / 2 ^ i + 1 by omega, show 2 * q = n / 2 ^ i by omega]
      exact ih
theorem implFib_loop {m : Int} (hm : 1 ≤ m) (hm2 : m ≤ 1000000) {n : Nat} (hn : n ≤ 1000000) : ∀ (i : Nat), i ≤ 20 →
    Ev (fun k => impl_FibonacciPair.l0 k n m (Fb (n / 2 ^ i) % m) (Fb (n / 2 ^ i + 1) % m) ((i : Int) - 1)) (Fb n % m, Fb (n + 1) % m, true) := by
  intro i
  induction i with
  | zero =>
    intro _
    refine up ?_
    simp only [impl_FibonacciPair.l0, if_neg (show ¬ ((0 : Nat) : Int) - 1 ≥ 0 by omega), Nat.pow_zero, Nat.div_one]
    exact Ev.now _
  | succ i ih =>
    intro hi
    have ih := ih (by omega)
    have e := half_step n i
    have hq : n / 2 ^ i ≤ 1000000 := Nat.le_trans (Nat.div_le_self _ _) hn
    have r1 := m_range (m := m) (a := Fb (n / 2 ^ (i + 1))) hm
    have r2 := m_range (m := m) (a := Fb (n / 2 ^ (i + 1) + 1)) hm
    have r3 := m_range (m := m) (a := Fb (2 * (n / 2 ^ (i + 1)))) hm
    have r4 := m_range (m := m) (a := Fb (2 * (n / 2 ^ (i + 1)) + 1)) hm
    have hb1 := fib_sizes (a := Fb (n / 2 ^ (i + 1))) (b := Fb (n / 2 ^ (i + 1))) hm hm2
    have hb2 := fib_sizes (a := Fb (n / 2 ^ (i + 1) + 1)) (b := Fb (n / 2 ^ (i + 1) + 1)) hm hm2
    have hb3 := fib_sizes (a := Fb (n / 2 ^ (i + 1))) (b := 2 * (Fb (n / 2 ^ (i + 1) + 1) % m) - Fb (n / 2 ^ (i + 1)) % m) hm hm2
    generalize n / 2 ^ (i + 1) = q at *
    refine up ?_
    simp only [impl_FibonacciPair.l0, show ((i + 1 : Nat) : Int) - 1 = (i : Int) by omega, if_pos (show (i : Int) ≥ 0 by omega), if_pos (show (0 : Int) ≤ (i : Int) by omega),
      wid (x := 2 * (Fb (q + 1) % m)) (by omega) (by omega), wid (x := 2 * (Fb (q + 1) % m) - Fb q % m) (by omega) (by omega),
      rest_val (a := 2 * (Fb (q + 1) % m) - Fb q % m) (b := m) (by omega) (by omega), Option.bind_some,
      wid (x := Fb q % m * ((2 * (Fb (q + 1) % m) - Fb q % m) % m)) (by omega) (by omega), rest_val (a := Fb q % m * ((2 * (Fb (q + 1) % m) - Fb q % m) % m)) (b := m) (by omega) (by omega),
      wid (x := Fb q % m * (Fb q % m)) (by omega) (by omega), wid (x := Fb (q + 1) % m * (Fb (q + 1) % m)) (by omega) (by omega), wid (x := Fb q % m * (Fb q % m) + Fb (q + 1) % m * (Fb (q + 1) % m)) (by omega) (by omega),
      rest_val (a := Fb q % m * (Fb q % m) + Fb (q + 1) % m * (Fb (q + 1) % m)) (b := m) (by omega) (by omega), f_twice, f_odd, wid (x := Fb (2 * q) % m + Fb (2 * q + 1) % m) (by omega) (by omega), rest_val (a := Fb (2 * q) % m + Fb (2 * q + 1) % m) (b := m) (by omega) (by omega), f_next,
      shr_nat n i (by omega), bit_and _ hq, wid (x := (i : Int) - 1) (by omega) (by omega)]
    by_cases hr : n / 2 ^ i % 2 = 1
    · rw [if_pos_ev hr]
      rw [show 2 * q + 1 = n / 2 ^ i by omega, show 2 * q + 2 = n / 2 ^ i + 1 by omega]
      exact ih
    · rw [if_neg_ev hr]
      rw [show 2 * q + 1 = n / 2 ^ i + 1 by omega, show 2 * q = n / 2 ^ i by omega]
      exact ih
theorem specFib {m : Int} (n : Nat) (hm : 1 ≤ m) (hm2 : m ≤ 1000000) (hn : n ≤ 1000000) : Ev (fun k => spec_FibonacciPair.f k n m) (Fb n % m, Fb (n + 1) % m, true) := by
  have hs := bl_small hn
  have h4 : (0 : Int) ≤ (n : Int) := by omega
  have h5 : (n : Int) ≤ 1000000 := by omega
  simp only [spec_FibonacciPair.f, spec_luFib.f, spec_l1In.f, ge_iff_le, hm, hm2, h4, h5, decide_true, if_true, Option.bind_some, poMod_val (a := 1) (b := m) (by omega) (by omega)]
  refine Ev.bind (a := (Fb n % m, Fb (n + 1) % m)) (Ev.bind (chLength_val hn) ?_) (Ev.now _)
  have h := specFib_loop hm hm2 hn (bl n) hs
  rw [Nat.div_eq_of_lt (bl_lt (n := n) (by omega))] at h
  simpa [Fb, wid (x := (bl n : Int) - 1) (by omega) (by omega)] using h
theorem implFib {m : Int} (n : Nat) (hm : 1 ≤ m) (hm2 : m ≤ 1000000) (hn : n ≤ 1000000) : Ev (fun k => impl_FibonacciPair.f k n m) (Fb n % m, Fb (n + 1) % m, true) := by
  have hs := bl_small hn
  have h4 : (0 : Int) ≤ (n : Int) := by omega
  have h5 : (n : Int) ≤ 1000000 := by omega
  simp only [impl_FibonacciPair.f, impl_in.f, ge_iff_le, hm, hm2, h4, h5, decide_true, if_true, Option.bind_some, Bool.not_true]
  refine up ?_
  simp only [impl_FibonacciPair.j0, Bool.false_eq_true, if_false, rest_val (a := 1) (b := m) (by omega) (by omega), Option.bind_some, bitsLen_val hn]
  have h := implFib_loop hm hm2 hn (bl n) hs
  rw [Nat.div_eq_of_lt (bl_lt (n := n) (by omega))] at h
  simpa [Fb, wid (x := (bl n : Int) - 1) (by omega) (by omega)] using h
theorem specFib_no {n m : Int} (h : ¬ ((1 ≤ m ∧ m ≤ 1000000) ∧ 0 ≤ n ∧ n ≤ 1000000)) : Ev (fun k => spec_FibonacciPair.f k n m) (0, 0, false) := by
  simp only [spec_FibonacciPair.f, spec_l1In.f, ge_iff_le]
  by_cases c : 1 ≤ m <;> by_cases d : m ≤ 1000000 <;> by_cases f : 0 ≤ n <;> by_cases g : n ≤ 1000000 <;> first | (exfalso; omega) | exact ⟨0, fun k _ => by simp [c, d, f, g]⟩
theorem implFib_no {n m : Int} (h : ¬ ((1 ≤ m ∧ m ≤ 1000000) ∧ 0 ≤ n ∧ n ≤ 1000000)) : Ev (fun k => impl_FibonacciPair.f k n m) (0, 0, false) := by
  have e : Ev (fun k => impl_FibonacciPair.j0 k n m true) (0, 0, false) := by refine up ?_; simp only [impl_FibonacciPair.j0, if_true]; exact Ev.now _
  simp only [impl_FibonacciPair.f, impl_in.f, ge_iff_le]
  by_cases c : 1 ≤ m <;> by_cases d : m ≤ 1000000 <;> by_cases f : 0 ≤ n <;> by_cases g : n ≤ 1000000 <;> first | (exfalso; omega) | (simpa [c, d, f, g] using e)
theorem main : laws_FnExactFibonacciPair.Pure := by
  intro n m _ _
  refine Ev.rounds ?_
  simp only [laws_FnExactFibonacciPair.f]
  by_cases h : (1 ≤ m ∧ m ≤ 1000000) ∧ 0 ≤ n ∧ n ≤ 1000000
  · obtain ⟨⟨h2, h3⟩, h4, h5⟩ := h
    obtain ⟨N, rfl⟩ := Int.eq_ofNat_of_zero_le h4
    refine Ev.bind (specFib N h2 h3 (by omega)) ?_
    refine Ev.bind (implFib N h2 h3 (by omega)) ?_
    exact ⟨0, fun k _ => by simp⟩
  · refine Ev.bind (specFib_no h) ?_
    refine Ev.bind (implFib_no h) ?_
    exact ⟨0, fun k _ => by simp⟩
end Go.Proofs.Ytdmpgpmdgmejpaa.PureFnExactFibonacciPairL
namespace Go.Proofs.Ytdmpgpmdgmejpaa.Pure
open Go.Proofs.Ytdmpgpmdgmejpaa.PFnExactFibonacciPair
theorem FnExactFibonacciPair : laws_FnExactFibonacciPair.Pure := PureFnExactFibonacciPairL.main
end Go.Proofs.Ytdmpgpmdgmejpaa.Pure
