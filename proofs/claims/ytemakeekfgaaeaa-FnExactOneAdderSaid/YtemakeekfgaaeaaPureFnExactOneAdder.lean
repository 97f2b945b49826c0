/- The program's OneAdder returns what the reference's OneAdder returns, for all arguments of the type int; nothing else is asked of the argument. -/
import Derived.Test.YtemakeekfgaaeaaPFnExactOneAdderx1
set_option linter.unusedVariables false
set_option linter.unusedSimpArgs false
namespace Go.Proofs.Ytemakeekfgaaeaa.PureFnExactOneAdderL
open Go.RowKit Go.Proofs.Ytemakeekfgaaeaa.PFnExactOneAdder Go.Proofs.YtemakeekfgaaeaaW.PrintWords Go.Proofs.YtemakeekfgaaeaaW.PrintLast Go.Proofs.YtemakeekfgaaeaaW.PrintMore
theorem up {α : Type} {g : Nat → Option α} {r : α} (h : Ev (fun k => g (k + 1)) r) : Ev g r := by
  obtain ⟨K, h⟩ := h
  refine ⟨K + 1, fun k hk => ?_⟩
  obtain ⟨m, rfl⟩ : ∃ m, k = m + 1 := ⟨k - 1, by omega⟩
  exact h m (by omega)
theorem wid {x : Int} (h0 : -9223372036854775808 ≤ x) (h1 : x ≤ 9223372036854775807) : wrap64 x = x := by unfold wrap64; omega
theorem ite_yes {α : Type} {c : Prop} [Decidable c] {a b : α} (h : c) : (if c then a else b) = a := if_pos h
theorem ite_no {α : Type} {c : Prop} [Decidable c] {a b : α} (h : ¬ c) : (if c then a else b) = b := if_neg h
theorem evsome {α β : Type} {x : Option α} {a : α} {f : Nat → α → Option β} {r : β} (hx : x = some a) (h : Ev (fun k => f k a) r) : Ev (fun k => x.bind (f k)) r := by subst hx; exact h
theorem value_one (a b : Int) (m : Bool) (ha : 0 ≤ a) (hb : 0 ≤ b) : impl_Adder_value.f 0 a 0 b m [1] = some (if m = true then wrap64 (shl .i64 1 a - shl .i64 1 b) else wrap64 (shl .i64 1 a + shl .i64 1 b)) := by
  unfold impl_Adder_value.f
  cases m <;> simp [ha, hb, rd]
theorem impl_round (x a b : Int) (ha : 0 ≤ a) (hb : 0 ≤ b) (hb2 : b < 21) {r : Int × Int × Int × Int × Bool × Bool}
    (h : if wrap64 (shl .i64 1 a + shl .i64 1 b) = x then r = (0, a, 0, b, false, true) else if wrap64 (shl .i64 1 a - shl .i64 1 b) = x then r = (0, a, 0, b, true, true) else Ev (fun k => impl_OneAdder.l1 k x a a (b + 1)) r) :
    Ev (fun k => impl_OneAdder.l1 k x a a b) r := by
  have w1 : wrap64 ((0 : Int) + 1) = 1 := wid (by decide) (by decide)
  have w2 : wrap64 ((1 : Int) + 1) = 2 := wid (by decide) (by decide)
  have g0 : rdOf false ([false, true] : List Bool) 0 = false := rfl
  have g1 : rdOf false ([false, true] : List Bool) 1 = true := rfl
  have l2 : ((([false, true] : List Bool).length : Nat) : Int) = 2 := rfl
  refine up ?_
  simp only [impl_OneAdder.l1, if_pos hb2, Option.bind_some]
  refine up ?_
  simp only [impl_OneAdder.l2, l2, if_pos (show (0 : Int) < 2 by omega), if_pos (show (0 : Int) ≤ 0 by omega), g0, value_one a b false ha hb, Option.bind_some, Bool.false_eq_true, if_false, w1]
  by_cases c1 : wrap64 (shl .i64 1 a + shl .i64 1 b) = x
  · rw [if_pos c1] at h; subst h; simp only [if_pos c1]; exact Ev.now _
  · rw [if_neg c1] at h
    simp only [if_neg c1]
    refine up ?_
    simp only [impl_OneAdder.l2, l2, if_pos (show (1 : Int) < 2 by omega), if_pos (show (0 : Int) ≤ 1 by omega), g1, value_one a b true ha hb, Option.bind_some, if_true, w2]
    by_cases c2 : wrap64 (shl .i64 1 a - shl .i64 1 b) = x
    · rw [if_pos c2] at h; subst h; simp only [if_pos c2]; exact Ev.now _
    · rw [if_neg c2] at h
      simp only [if_neg c2]
      refine up ?_
      simp only [impl_OneAdder.l2, if_neg (show ¬ (2 : Int) < 2 by omega), wid (x := b + 1) (by omega) (by omega)]
      exact h
theorem spec_round (x a b : Int) (ha : 0 ≤ a) (hb : 0 ≤ b) (hb2 : b < 21) {r : Int × Int × Int × Int × Bool × Bool}
    (h : if wrap64 (shl .i64 1 a + shl .i64 1 b) = x then r = (0, a, 0, b, false, true) else if wrap64 (shl .i64 1 a - shl .i64 1 b) = x then r = (0, a, 0, b, true, true) else Ev (fun k => spec_OneAdder.l1 k x a (b + 1)) r) :
    Ev (fun k => spec_OneAdder.l1 k x a b) r := by
  refine up ?_
  simp only [spec_OneAdder.l1, if_pos (show b ≤ 20 by omega), if_pos ha, if_pos hb]
  by_cases c1 : wrap64 (shl .i64 1 a + shl .i64 1 b) = x
  · rw [if_pos c1] at h; subst h; simp only [if_pos c1]; exact Ev.now _
  · rw [if_neg c1] at h
    by_cases c2 : wrap64 (shl .i64 1 a - shl .i64 1 b) = x
    · rw [if_pos c2] at h; subst h; simp only [if_neg c1, if_pos c2]; exact Ev.now _
    · rw [if_neg c2] at h
      simp only [if_neg c1, if_neg c2, wid (x := b + 1) (by omega) (by omega)]
      exact h
theorem rows (x : Int) : ∀ (d : Nat) (a : Int), 0 ≤ a → a + d = 21 → ∃ r, Ev (fun k => spec_OneAdder.l0 k x a) r ∧ Ev (fun k => impl_OneAdder.l0 k x a) r := by
  intro d
  induction d with
  | zero =>
    intro a h0 h
    refine ⟨(0, 0, 0, 0, false, false), up ?_, up ?_⟩
    · simp only [spec_OneAdder.l0, if_neg (show ¬ a ≤ 20 by omega)]; exact Ev.now _
    · simp only [impl_OneAdder.l0, if_neg (show ¬ a < 21 by omega)]; exact Ev.now _
  | succ d ih =>
    intro a h0 h
    have inner : ∀ (e : Nat) (b : Int), 0 ≤ b → b + e = 21 → ∃ r, Ev (fun k => spec_OneAdder.l1 k x a b) r ∧ Ev (fun k => impl_OneAdder.l1 k x a a b) r := by
      intro e
      induction e with
      | zero =>
        intro b hb hb2
        obtain ⟨r, h1, h2⟩ := ih (a + 1) (by omega) (by omega)
        refine ⟨r, up ?_, up ?_⟩
        · simp only [spec_OneAdder.l1, if_neg (show ¬ b ≤ 20 by omega), wid (x := a + 1) (by omega) (by omega)]; exact h1
        · simp only [impl_OneAdder.l1, if_neg (show ¬ b < 21 by omega), wid (x := a + 1) (by omega) (by omega)]; exact h2
      | succ e ihe =>
        intro b hb hb2
        obtain ⟨r, h1, h2⟩ := ihe (b + 1) (by omega) (by omega)
        by_cases c1 : wrap64 (shl .i64 1 a + shl .i64 1 b) = x
        · exact ⟨(0, a, 0, b, false, true), spec_round x a b h0 hb (by omega) (by rw [if_pos c1]), impl_round x a b h0 hb (by omega) (by rw [if_pos c1])⟩
        by_cases c2 : wrap64 (shl .i64 1 a - shl .i64 1 b) = x
        · exact ⟨(0, a, 0, b, true, true), spec_round x a b h0 hb (by omega) (by rw [if_neg c1, if_pos c2]), impl_round x a b h0 hb (by omega) (by rw [if_neg c1, if_pos c2])⟩
        exact ⟨r, spec_round x a b h0 hb (by omega) (by rw [if_neg c1, if_neg c2]; exact h1), impl_round x a b h0 hb (by omega) (by rw [if_neg c1, if_neg c2]; exact h2)⟩
    obtain ⟨r, h1, h2⟩ := inner 21 0 (by omega) (by omega)
    refine ⟨r, up ?_, up ?_⟩
    · simp only [spec_OneAdder.l0, if_pos (show a ≤ 20 by omega)]; exact h1
    · simp only [impl_OneAdder.l0, if_pos (show a < 21 by omega)]; exact h2
theorem both (n : Int) : ∃ r, Ev (fun k => spec_OneAdder.f k n) r ∧ Ev (fun k => impl_OneAdder.f k n) r := by
  by_cases h : -1000000 ≤ n ∧ n ≤ 1000000
  · obtain ⟨h0, h1⟩ := h
    obtain ⟨r, hs, hi⟩ := rows n 21 0 (by omega) (by omega)
    refine ⟨r, ?_, ?_⟩
    · simp only [spec_OneAdder.f, spec_siNumber.f, spec_l1In.f, ge_iff_le, h0, h1, decide_true, if_true, Option.bind_some]; exact hs
    · simp only [impl_OneAdder.f, impl_signedOk.f, impl_in.f, ge_iff_le, h0, h1, decide_true, if_true, Option.bind_some]; exact hi
  · refine ⟨(0, 0, 0, 0, false, false), ⟨0, fun k _ => ?_⟩, ⟨0, fun k _ => ?_⟩⟩
    · simp only [spec_OneAdder.f, spec_siNumber.f, spec_l1In.f]
      by_cases a : n ≥ -1000000 <;> by_cases b : n ≤ 1000000 <;> simp [a, b] <;> omega
    · simp only [impl_OneAdder.f, impl_signedOk.f, impl_in.f]
      by_cases a : n ≥ -1000000 <;> by_cases b : n ≤ 1000000 <;> simp [a, b] <;> omega
theorem main : laws_FnExactOneAdder.Pure := by
  intro a0 _
  obtain ⟨r, hs, hi⟩ := both a0
  refine Ev.rounds ?_
  simp only [laws_FnExactOneAdder.f]
  refine Ev.bind hs ?_
  refine Ev.bind hi ?_
  exact ⟨0, fun k _ => by simp [laws_eqAdder.f]⟩
end Go.Proofs.Ytemakeekfgaaeaa.PureFnExactOneAdderL
namespace Go.Proofs.Ytemakeekfgaaeaa.Pure
open Go.Proofs.Ytemakeekfgaaeaa.PFnExactOneAdder
theorem FnExactOneAdder : laws_FnExactOneAdder.Pure := PureFnExactOneAdderL.main
end Go.Proofs.Ytemakeekfgaaeaa.Pure
