/- The program's LucasByRule returns what the reference's LucasByRule returns, for all arguments of the type int; nothing else is asked of them. -/
import Derived.Test.YtdmpgpmdgmejpaaPFnExactLucasByRulex1
set_option linter.unusedVariables false
set_option linter.unusedSimpArgs false
namespace Go.Proofs.Ytdmpgpmdgmejpaa.PureFnExactLucasByRuleL
open Go.RowKit Go.Proofs.Ytdmpgpmdgmejpaa.PFnExactLucasByRule Go.Proofs.YtdmpgpmdgmejpaaW.PrintWords Go.Proofs.YtdmpgpmdgmejpaaW.PrintLast Go.Proofs.YtdmpgpmdgmejpaaW.PrintMore
theorem up {α : Type} {g : Nat → Option α} {r : α} (h : Ev (fun k => g (k + 1)) r) : Ev g r := by
  obtain ⟨K, h⟩ := h
  refine ⟨K + 1, fun k hk => ?_⟩
  obtain ⟨m, rfl⟩ : ∃ m, k = m + 1 := ⟨k - 1, by omega⟩
  exact h m (by omega)
theorem wid {x : Int} (h0 : -9223372036854775808 ≤ x) (h1 : x ≤ 9223372036854775807) : wrap64 x = x := by unfold wrap64; omega
theorem ite_yes {α : Type} {c : Prop} [Decidable c] {a b : α} (h : c) : (if c then a else b) = a := if_pos h
theorem ite_no {α : Type} {c : Prop} [Decidable c] {a b : α} (h : ¬ c) : (if c then a else b) = b := if_neg h
theorem evsome {α β : Type} {x : Option α} {a : α} {f : Nat → α → Option β} {r : β} (hx : x = some a) (h : Ev (fun k => f k a) r) : Ev (fun k => x.bind (f k)) r := by subst hx; exact h
theorem tmod_in {a b : Int} (hb : 0 < b) : -b < Int.tmod a b ∧ Int.tmod a b < b := by
  have h1 := Int.tmod_lt_of_pos a hb
  have h2 := Int.lt_tmod_of_pos a hb
  exact ⟨h2, h1⟩
theorem rest_val {a b : Int} (hb : 0 < b) (hb2 : b ≤ 1000000000000000) : impl_rest.f a b = some (a % b) := by
  have h := tmod_in (a := a) hb
  unfold impl_rest.f
  rw [if_neg (by omega), wid (by omega) (by omega), Int.tmod_eq_emod_of_nonneg (by omega), Int.add_emod_right]
  congr 1
  rw [Int.tmod_def, Int.sub_mul_emod_self_left]
theorem posmod {a b : Int} (hb : 0 < b) (hb2 : b ≤ 1000000000000000) : Int.tmod (wrap64 ((Int.tmod a b) + b)) b = a % b := by
  have h := rest_val (a := a) hb hb2
  unfold impl_rest.f at h
  rw [if_neg (by omega)] at h
  exact Option.some.inj h
theorem odd_test (x : Int) : Int.tmod x 2 = 0 ↔ x % 2 = 0 := by
  rw [← Int.dvd_iff_tmod_eq_zero, ← Int.dvd_iff_emod_eq_zero]
theorem half_even {x : Int} (h : x % 2 = 0) : Int.tdiv x 2 = x / 2 := Int.tdiv_eq_ediv_of_dvd (Int.dvd_of_emod_eq_zero h)
theorem poMod_val {a b : Int} (hb : 0 < b) (hb2 : b ≤ 1000000000000000) : spec_poMod.f a b = some (a % b) := by
  have h : -b < Int.tmod a b ∧ Int.tmod a b < b := ⟨Int.lt_tmod_of_pos a hb, Int.tmod_lt_of_pos a hb⟩
  unfold spec_poMod.f
  rw [if_neg (by omega), wid (by omega) (by omega), Int.tmod_eq_emod_of_nonneg (by omega), Int.add_emod_right]
  congr 1
  rw [Int.tmod_def, Int.sub_mul_emod_self_left]
theorem c_mul {m a a' b b' : Int} (h : a % m = a' % m) (h' : b % m = b' % m) : (a * b) % m = (a' * b') % m := by rw [Int.mul_emod, h, h', ← Int.mul_emod]
theorem c_sub {m a a' b b' : Int} (h : a % m = a' % m) (h' : b % m = b' % m) : (a - b) % m = (a' - b') % m := by rw [Int.sub_emod, h, h', ← Int.sub_emod]
theorem c_add {m a a' b b' : Int} (h : a % m = a' % m) (h' : b % m = b' % m) : (a + b) % m = (a' + b') % m := by rw [Int.add_emod, h, h', ← Int.add_emod]
theorem c_self (m a : Int) : (a % m) % m = a % m := Int.emod_emod_of_dvd a (Int.dvd_refl m)
theorem m_range {m a : Int} (hm : 1 ≤ m) : 0 ≤ a % m ∧ a % m < m := ⟨Int.emod_nonneg _ (by omega), Int.emod_lt_of_pos _ (by omega)⟩
theorem mul_range {a b M : Int} (ha0 : 0 ≤ a) (ha : a ≤ M) (hb0 : 0 ≤ b) (hb : b ≤ M) : 0 ≤ a * b ∧ a * b ≤ M * M := ⟨Int.mul_nonneg ha0 hb0, Int.mul_le_mul ha hb hb0 (by omega)⟩
/-- The Lucas values. -/
def V (p : Int) : Nat → Int
  | 0 => 2
  | 1 => p
  | n + 2 => p * V p (n + 1) - V p n
theorem rule_step {p m : Int} (hm : 1 ≤ m) (n : Nat) : ((p % m) * (V p (n + 1) % m) - V p n % m) % m = V p (n + 2) % m := by
  rw [V]; exact c_sub (c_mul (c_self _ _) (c_self _ _)) (c_self _ _)
theorem rule_bounds {p a b m : Int} (hm : 1 ≤ m) (hm2 : m ≤ 1000000) : -9000000000000 ≤ (p % m) * (a % m) - b % m ∧ (p % m) * (a % m) - b % m ≤ 9000000000000 ∧ -9000000000000 ≤ (p % m) * (a % m) ∧ (p % m) * (a % m) ≤ 9000000000000 := by
  have h1 := m_range (m := m) (a := p) hm
  have h2 := m_range (m := m) (a := a) hm
  have h3 := m_range (m := m) (a := b) hm
  have h4 := mul_range (M := 1000000) h1.1 (by omega) h2.1 (by omega)
  omega
theorem specRule_loop {p m : Int} (hm : 1 ≤ m) (hm2 : m ≤ 1000000) : ∀ (d n : Nat), d ≤ 2000 → Ev (fun k => spec_LucasByRule.l0 k p d m (V p n % m) (V p (n + 1) % m)) (V p (n + d) % m, true) := by
  intro d
  induction d with
  | zero => intro n _; refine up ?_; simp only [spec_LucasByRule.l0, if_neg (show ¬ ((0 : Nat) : Int) > 0 by omega)]; exact Ev.now _
  | succ d ih =>
    intro n hd
    have hb := rule_bounds (p := p) (a := V p (n + 1)) (b := V p n) hm hm2
    refine up ?_
    simp only [spec_LucasByRule.l0, if_pos (show ((d + 1 : Nat) : Int) > 0 by omega), poMod_val (a := p) (b := m) (by omega) (by omega), Option.bind_some, wid (x := p % m * (V p (n + 1) % m)) (by omega) (by omega), wid (x := p % m * (V p (n + 1) % m) - V p n % m) (by omega) (by omega), poMod_val (a := p % m * (V p (n + 1) % m) - V p n % m) (b := m) (by omega) (by omega), rule_step hm n, wid (x := (d : Int)) (by omega) (by omega), show ((d + 1 : Nat) : Int) - 1 = (d : Int) by omega]
    have := ih (n + 1) (by omega)
    rw [show n + 1 + d = n + (d + 1) by omega] at this
    exact this
theorem implRule_loop {p m N : Int} (hm : 1 ≤ m) (hm2 : m ≤ 1000000) : ∀ (d n : Nat), d ≤ 2000 → (n : Int) + d = N → N ≤ 2000 → Ev (fun k => impl_LucasByRule.l0 k p m (V p n % m) (V p (n + 1) % m) N n) (V p (n + d) % m, true) := by
  intro d
  induction d with
  | zero => intro n _ h _; refine up ?_; simp only [impl_LucasByRule.l0, if_neg (show ¬ (n : Int) < N by omega)]; exact Ev.now _
  | succ d ih =>
    intro n hd h hN
    have hb := rule_bounds (p := p) (a := V p (n + 1)) (b := V p n) hm hm2
    refine up ?_
    simp only [impl_LucasByRule.l0, if_pos (show (n : Int) < N by omega), rest_val (a := p) (b := m) (by omega) (by omega), Option.bind_some, wid (x := p % m * (V p (n + 1) % m)) (by omega) (by omega), wid (x := p % m * (V p (n + 1) % m) - V p n % m) (by omega) (by omega), rest_val (a := p % m * (V p (n + 1) % m) - V p n % m) (b := m) (by omega) (by omega), rule_step hm n, wid (x := (n : Int) + 1) (by omega) (by omega)]
    have := ih (n + 1) (by omega) (by omega) hN
    rw [show n + 1 + d = n + (d + 1) by omega] at this
    exact this
theorem specRule_no {p n m : Int} (h : ¬ ((-1000000 ≤ p ∧ p ≤ 1000000) ∧ (1 ≤ m ∧ m ≤ 1000000) ∧ 0 ≤ n ∧ n ≤ 2000)) : Ev (fun k => spec_LucasByRule.f k p n m) (0, false) := by
  have e : Ev (fun k => spec_LucasByRule.j0 k p n m true) (0, false) := by refine up ?_; simp only [spec_LucasByRule.j0, if_true]; exact Ev.now _
  simp only [spec_LucasByRule.f, spec_luGiven.f, spec_l1In.f, ge_iff_le]
  by_cases a : -1000000 ≤ p <;> by_cases b : p ≤ 1000000 <;> by_cases c : 1 ≤ m <;> by_cases d : m ≤ 1000000 <;> by_cases f : 0 ≤ n <;> by_cases g : n ≤ 2000 <;> first | (exfalso; omega) | (simpa [a, b, c, d, f, g] using e)
theorem implRule_no {p n m : Int} (h : ¬ ((-1000000 ≤ p ∧ p ≤ 1000000) ∧ (1 ≤ m ∧ m ≤ 1000000) ∧ 0 ≤ n ∧ n ≤ 2000)) : Ev (fun k => impl_LucasByRule.f k p n m) (0, false) := by
  have e : Ev (fun k => impl_LucasByRule.j0 k p n m true) (0, false) := by refine up ?_; simp only [impl_LucasByRule.j0, if_true]; exact Ev.now _
  simp only [impl_LucasByRule.f, impl_lucasOk.f, impl_in.f, ge_iff_le]
  by_cases a : -1000000 ≤ p <;> by_cases b : p ≤ 1000000 <;> by_cases c : 1 ≤ m <;> by_cases d : m ≤ 1000000 <;> by_cases f : 0 ≤ n <;> by_cases g : n ≤ 2000 <;> first | (exfalso; omega) | (simpa [a, b, c, d, f, g] using e)
theorem specRule {p m : Int} (n : Nat) (h0 : -1000000 ≤ p) (h1 : p ≤ 1000000) (h2 : 1 ≤ m) (h3 : m ≤ 1000000) (h5 : n ≤ 2000) : Ev (fun k => spec_LucasByRule.f k p n m) (V p n % m, true) := by
  have h4 : (0 : Int) ≤ (n : Int) := by omega
  have h5' : (n : Int) ≤ 2000 := by omega
  simp only [spec_LucasByRule.f, spec_luGiven.f, spec_l1In.f, ge_iff_le, h0, h1, h2, h3, h4, h5', decide_true, if_true, Option.bind_some, Bool.not_true]
  refine up ?_
  simp only [spec_LucasByRule.j0, Bool.false_eq_true, if_false, poMod_val (a := 2) (b := m) (by omega) (by omega), poMod_val (a := p) (b := m) (by omega) (by omega), Option.bind_some]
  have := specRule_loop (p := p) h2 h3 n 0 h5
  simpa [V] using this
theorem implRule {p m : Int} (n : Nat) (h0 : -1000000 ≤ p) (h1 : p ≤ 1000000) (h2 : 1 ≤ m) (h3 : m ≤ 1000000) (h5 : n ≤ 2000) : Ev (fun k => impl_LucasByRule.f k p n m) (V p n % m, true) := by
  have h4 : (0 : Int) ≤ (n : Int) := by omega
  have h5' : (n : Int) ≤ 2000 := by omega
  simp only [impl_LucasByRule.f, impl_lucasOk.f, impl_in.f, ge_iff_le, h0, h1, h2, h3, h4, h5', decide_true, if_true, Option.bind_some, Bool.not_true]
  refine up ?_
  simp only [impl_LucasByRule.j0, Bool.false_eq_true, if_false, rest_val (a := 2) (b := m) (by omega) (by omega), rest_val (a := p) (b := m) (by omega) (by omega), Option.bind_some]
  have := implRule_loop (p := p) (N := n) h2 h3 n 0 h5 (by omega) h5'
  simpa [V] using this
theorem main : laws_FnExactLucasByRule.Pure := by
  intro p n m _ _ _
  refine Ev.rounds ?_
  simp only [laws_FnExactLucasByRule.f]
  by_cases h : (-1000000 ≤ p ∧ p ≤ 1000000) ∧ (1 ≤ m ∧ m ≤ 1000000) ∧ 0 ≤ n ∧ n ≤ 2000
  · obtain ⟨⟨h0, h1⟩, ⟨h2, h3⟩, h4, h5⟩ := h
    obtain ⟨N, rfl⟩ := Int.eq_ofNat_of_zero_le h4
    refine Ev.bind (specRule N h0 h1 h2 h3 (by omega)) ?_
    refine Ev.bind (implRule N h0 h1 h2 h3 (by omega)) ?_
    exact ⟨0, fun k _ => by simp⟩
  · refine Ev.bind (specRule_no h) ?_
    refine Ev.bind (implRule_no h) ?_
    exact ⟨0, fun k _ => by simp⟩
end Go.Proofs.Ytdmpgpmdgmejpaa.PureFnExactLucasByRuleL
namespace Go.Proofs.Ytdmpgpmdgmejpaa.Pure
open Go.Proofs.Ytdmpgpmdgmejpaa.PFnExactLucasByRule
theorem FnExactLucasByRule : laws_FnExactLucasByRule.Pure := PureFnExactLucasByRuleL.main
end Go.Proofs.Ytdmpgpmdgmejpaa.Pure
