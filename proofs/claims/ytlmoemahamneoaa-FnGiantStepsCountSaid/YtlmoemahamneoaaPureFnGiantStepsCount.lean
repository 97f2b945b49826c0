/- Products of giant steps are counted as told, the best group has the fewest of them, and Horner's rule has one for each degree: the statement FnGiantStepsCount holds for all its drawn arguments; nothing is asked of them. -/
import Derived.Test.YtlmoemahamneoaaPFnGiantStepsCountx1
import Derived.Test.YtlmoemahamneoaaPFnGiantStepsCountx2
import Derived.Test.YtlmoemahamneoaaPFnGiantStepsCountx3
import Derived.Test.YtlmoemahamneoaaPFnGiantStepsCountx4
import Derived.Test.YtlmoemahamneoaaPFnGiantStepsCountx5
import Derived.Test.YtlmoemahamneoaaPFnGiantStepsCountx6
import Derived.Test.YtlmoemahamneoaaPFnGiantStepsCountx7
import Derived.Test.YtlmoemahamneoaaPFnGiantStepsCountx8
import Derived.Test.YtlmoemahamneoaaPFnGiantStepsCountx9
import Derived.Test.YtlmoemahamneoaaPFnGiantStepsCountx10
import Derived.Test.YtlmoemahamneoaaPFnGiantStepsCountx11
set_option linter.unusedVariables false
set_option linter.unusedSimpArgs false
namespace Go.Proofs.Ytlmoemahamneoaa.PureFnGiantStepsCountL
open Go.RowKit Go.Proofs.Ytlmoemahamneoaa.PFnGiantStepsCount Go.Proofs.YtlmoemahamneoaaW.PrintWords Go.Proofs.YtlmoemahamneoaaW.PrintLast Go.Proofs.YtlmoemahamneoaaW.PrintMore
theorem up {α : Type} {g : Nat → Option α} {r : α} (h : Ev (fun k => g (k + 1)) r) : Ev g r := by
  obtain ⟨K, h⟩ := h
  refine ⟨K + 1, fun k hk => ?_⟩
  obtain ⟨m, rfl⟩ : ∃ m, k = m + 1 := ⟨k - 1, by omega⟩
  exact h m (by omega)
theorem wid {x : Int} (h0 : -9223372036854775808 ≤ x) (h1 : x ≤ 9223372036854775807) : wrap64 x = x := by unfold wrap64; omega
theorem if_pos_ev {α : Type} {c : Prop} [Decidable c] {f g : Nat → Option α} (h : c) : (fun k => if c then f k else g k) = f := funext fun k => if_pos h
theorem if_neg_ev {α : Type} {c : Prop} [Decidable c] {f g : Nat → Option α} (h : ¬ c) : (fun k => if c then f k else g k) = g := funext fun k => if_neg h
theorem rd_at {l : List Int} {i : Nat} (h : i < l.length) : rd l (i : Int) = l[i] := by
  unfold rd
  rw [Int.toNat_natCast, List.getD_eq_getElem?_getD, List.getElem?_eq_getElem h]; rfl
theorem l1In_val (x a b : Int) : spec_l1In.f x a b = some (decide (a ≤ x) && decide (x ≤ b)) := by
  unfold spec_l1In.f
  by_cases h : a ≤ x
  · rw [if_pos h]; simp [h]
  · rw [if_neg h]; simp [h]
theorem l1Least_val (a b : Int) : spec_l1Least.f a b = some (min a b) := by
  unfold spec_l1Least.f
  split
  · rw [Int.min_eq_left (by omega)]
  · rw [Int.min_eq_right (by omega)]
/-- A polynomial without zeros at its end. -/
def cutB (l : List Int) : List Int := (l.reverse.dropWhile (· == 0)).reverse
theorem cutB_zero (l : List Int) : cutB (l ++ [0]) = cutB l := by unfold cutB; simp
theorem cutB_ne (l : List Int) {x : Int} (h : x ≠ 0) : cutB (l ++ [x]) = l ++ [x] := by unfold cutB; simp [h]
theorem rd_last (l : List Int) (x : Int) : rd (l ++ [x]) (l.length : Int) = x := by
  rw [rd_at (by simp)]; simp
theorem cut_val : ∀ (n : Nat) (l : List Int), l.length = n → n ≤ 1000000000 → Ev (fun q => impl_cut.f q l) (cutB l) := by
  intro n
  induction n with
  | zero =>
    intro l h _
    obtain rfl := List.eq_nil_of_length_eq_zero h
    simp only [impl_cut.f]
    refine up ?_
    simp only [impl_cut.l0, List.length_nil, if_neg (show ¬ ((0 : Nat) : Int) > 0 by omega)]
    exact Ev.now _
  | succ n ih =>
    intro l h hn
    obtain ⟨l', x, rfl⟩ : ∃ l' x, l = l' ++ [x] := by
      rcases List.eq_nil_or_concat l with h0 | ⟨l', x, h0⟩
      · subst h0; simp at h
      · exact ⟨l', x, by rw [h0, List.concat_eq_append]⟩
    have hl : l'.length = n := by simpa using h
    have e1 : (((l' ++ [x]).length : Nat) : Int) - 1 = (l'.length : Int) := by rw [List.length_append, List.length_singleton]; omega
    simp only [impl_cut.f]
    refine up ?_
    simp only [impl_cut.l0, e1, wid (x := (l'.length : Int)) (by omega) (by omega), if_pos (show ((l' ++ [x]).length : Int) > 0 by rw [List.length_append, List.length_singleton]; omega), if_pos (show (0 : Int) ≤ (l'.length : Int) by omega), if_pos (show (l'.length : Int) < ((l' ++ [x]).length : Int) by rw [List.length_append, List.length_singleton]; omega), if_pos (show (l'.length : Int) ≤ ((l' ++ [x]).length : Int) by rw [List.length_append, List.length_singleton]; omega), rd_last, Int.toNat_natCast, List.take_left]
    by_cases hx : x = 0
    · subst hx
      rw [cutB_zero]
      simp only [if_true]
      exact ih l' hl (by omega)
    · rw [cutB_ne l' hx]
      simp only [if_neg hx]
      exact Ev.now _
theorem cutB_len (l : List Int) : (cutB l).length ≤ l.length := by
  unfold cutB
  rw [List.length_reverse]
  have := (List.dropWhile_sublist (fun x : Int => x == 0) (l := l.reverse)).length_le
  rw [List.length_reverse] at this
  exact this
/-- x is added to a row, from place i on. -/
def addTo (x : List Int) : List Int → Nat → Nat → List Int
  | out, _, 0 => out
  | out, i, d + 1 => addTo x (out.set i (wrap64 (rd out i + rd x i))) (i + 1) d
theorem addTo_len (x : List Int) : ∀ d i out, (addTo x out i d).length = out.length
  | 0, _, _ => rfl
  | d + 1, i, out => by unfold addTo; rw [addTo_len x d, List.length_set]
def sumP (a b : List Int) : List Int := cutB (addTo b (addTo a (List.replicate (max a.length b.length) 0) 0 a.length) 0 b.length)
theorem iSum_l1 (b : List Int) (hb : b.length ≤ 1000000) : ∀ (d i : Nat) (out : List Int), i + d = b.length → b.length ≤ out.length → out.length ≤ 1000000 → Ev (fun q => impl_sumOf.l1 q out b (b.length : Int) i) (cutB (addTo b out i d)) := by
  intro d
  induction d with
  | zero =>
    intro i out h ho ho2
    refine up ?_
    simp only [impl_sumOf.l1, if_neg (show ¬ (i : Int) < (b.length : Int) by omega), addTo]
    exact Ev.bind (cut_val _ out rfl (by omega)) (Ev.now _)
  | succ d ih =>
    intro i out h ho ho2
    refine up ?_
    simp only [impl_sumOf.l1, if_pos (show (i : Int) < (b.length : Int) by omega), if_pos (show (0 : Int) ≤ (i : Int) by omega), if_pos (show (i : Int) < (out.length : Int) by omega), Int.toNat_natCast, wid (x := (i : Int) + 1) (by omega) (by omega), addTo]
    exact ih (i + 1) _ (by omega) (by rw [List.length_set]; exact ho) (by rw [List.length_set]; exact ho2)
theorem iSum_l0 (a b : List Int) (hb : b.length ≤ 1000000) : ∀ (d i : Nat) (out : List Int), i + d = a.length → a.length ≤ out.length → b.length ≤ out.length → out.length ≤ 1000000 → Ev (fun q => impl_sumOf.l0 q b out a (a.length : Int) i) (cutB (addTo b (addTo a out i d) 0 b.length)) := by
  intro d
  induction d with
  | zero =>
    intro i out h ho hb2 ho2
    refine up ?_
    simp only [impl_sumOf.l0, if_neg (show ¬ (i : Int) < (a.length : Int) by omega), addTo]
    exact iSum_l1 b hb b.length 0 out (by omega) hb2 ho2
  | succ d ih =>
    intro i out h ho hb2 ho2
    refine up ?_
    simp only [impl_sumOf.l0, if_pos (show (i : Int) < (a.length : Int) by omega), if_pos (show (0 : Int) ≤ (i : Int) by omega), if_pos (show (i : Int) < (out.length : Int) by omega), Int.toNat_natCast, wid (x := (i : Int) + 1) (by omega) (by omega), addTo]
    exact ih (i + 1) _ (by omega) (by rw [List.length_set]; exact ho) (by rw [List.length_set]; exact hb2) (by rw [List.length_set]; exact ho2)
theorem mx_nat (a b : Nat) : mx (a : Int) (b : Int) = ((max a b : Nat) : Int) := by unfold mx; split <;> omega
theorem iSum_val (a b : List Int) (ha : a.length ≤ 1000) (hb : b.length ≤ 1000) : Ev (fun q => impl_sumOf.f q a b) (sumP a b) := by
  simp only [impl_sumOf.f, mx_nat, Int.toNat_natCast, if_pos (show (0 : Int) ≤ ((max a.length b.length : Nat) : Int) by omega), if_pos (show max a.length b.length ≤ 35184372088832 by omega)]
  exact iSum_l0 a b (by omega) a.length 0 _ (by omega) (by rw [List.length_replicate]; omega) (by rw [List.length_replicate]; omega) (by rw [List.length_replicate]; omega)
/-- x times a row is added to a row, from place k of it on. -/
def mulIn (x : Int) (b : List Int) (i : Nat) : List Int → Nat → Nat → List Int
  | out, _, 0 => out
  | out, k, d + 1 => mulIn x b i (out.set (i + k) (wrap64 (rd out ((i + k : Nat) : Int) + wrap64 (x * rd b k)))) (k + 1) d
def mulOut (a b : List Int) : List Int → Nat → Nat → List Int
  | out, _, 0 => out
  | out, i, d + 1 => mulOut a b (mulIn (rd a i) b i out 0 b.length) (i + 1) d
theorem mulIn_len (x : Int) (b : List Int) (i : Nat) : ∀ d k out, (mulIn x b i out k d).length = out.length
  | 0, _, _ => rfl
  | d + 1, k, out => by unfold mulIn; rw [mulIn_len x b i d, List.length_set]
def prodP (a b : List Int) : List Int := cutB (mulOut a b (List.replicate (a.length + b.length) 0) 0 a.length)
theorem iMul_l1 (a b : List Int) (hb : b.length ≤ 1000) {R : List Int} {i : Nat} (hi : i ≤ 1000) {x : Int} : ∀ (d k : Nat) (out : List Int), k + d = b.length → i + b.length ≤ out.length → Ev (fun q => impl_productOf.l0 q b (mulIn x b i out k d) a (a.length : Int) ((i + 1 : Nat) : Int)) R → Ev (fun q => impl_productOf.l1 q b out i x a (a.length : Int) i b (b.length : Int) k) R := by
  intro d
  induction d with
  | zero =>
    intro k out h ho hE
    refine up ?_
    simp only [impl_productOf.l1, if_neg (show ¬ (k : Int) < (b.length : Int) by omega), wid (x := (i : Int) + 1) (by omega) (by omega)]
    exact hE
  | succ d ih =>
    intro k out h ho hE
    refine up ?_
    have e : (i : Int) + (k : Int) = ((i + k : Nat) : Int) := by omega
    simp only [impl_productOf.l1, if_pos (show (k : Int) < (b.length : Int) by omega), if_pos (show (0 : Int) ≤ (k : Int) by omega), e, wid (x := ((i + k : Nat) : Int)) (by omega) (by omega), if_pos (show (0 : Int) ≤ ((i + k : Nat) : Int) by omega), if_pos (show ((i + k : Nat) : Int) < (out.length : Int) by omega), Int.toNat_natCast, wid (x := (k : Int) + 1) (by omega) (by omega)]
    exact ih (k + 1) _ (by omega) (by rw [List.length_set]; exact ho) hE
theorem iMul_l0 (a b : List Int) (ha : a.length ≤ 1000) (hb : b.length ≤ 1000) : ∀ (d i : Nat) (out : List Int), i + d = a.length → (a.length + b.length ≤ out.length + 1 ∨ b.length = 0) → out.length ≤ 100000 → Ev (fun q => impl_productOf.l0 q b out a (a.length : Int) i) (cutB (mulOut a b out i d)) := by
  intro d
  induction d with
  | zero =>
    intro i out h ho ho2
    refine up ?_
    simp only [impl_productOf.l0, if_neg (show ¬ (i : Int) < (a.length : Int) by omega), mulOut]
    exact Ev.bind (cut_val _ out rfl (by omega)) (Ev.now _)
  | succ d ih =>
    intro i out h ho ho2
    refine up ?_
    simp only [impl_productOf.l0, if_pos (show (i : Int) < (a.length : Int) by omega), if_pos (show (0 : Int) ≤ (i : Int) by omega)]
    have hnext := ih (i + 1) (mulIn (rd a i) b i out 0 b.length) (by omega) (by rw [mulIn_len]; exact ho) (by rw [mulIn_len]; exact ho2)
    by_cases h0 : b.length = 0
    · refine up ?_
      simp only [impl_productOf.l1, h0, if_neg (show ¬ (0 : Int) < ((0 : Nat) : Int) by omega), wid (x := (i : Int) + 1) (by omega) (by omega)]
      rw [h0] at hnext
      rw [show mulOut a b out i (d + 1) = mulOut a b (mulIn (rd a i) b i out 0 b.length) (i + 1) d from rfl, h0]
      exact hnext
    · exact iMul_l1 a b hb (by omega) b.length 0 out (by omega) (by omega) hnext
theorem iMul_val (a b : List Int) (ha : a.length ≤ 1000) (hb : b.length ≤ 1000) : Ev (fun q => impl_productOf.f q a b) (prodP a b) := by
  have e : (a.length : Int) + (b.length : Int) = ((a.length + b.length : Nat) : Int) := by omega
  simp only [impl_productOf.f, e, wid (x := ((a.length + b.length : Nat) : Int)) (by omega) (by omega), Int.toNat_natCast, if_pos (show (0 : Int) ≤ ((a.length + b.length : Nat) : Int) by omega), if_pos (show a.length + b.length ≤ 35184372088832 by omega)]
  exact iMul_l0 a b ha hb a.length 0 _ (by omega) (.inl (by rw [List.length_replicate]; omega)) (by rw [List.length_replicate]; omega)
theorem rd_left {l m : List Int} {j : Nat} (h : j < l.length) : rd (l ++ m) (j : Int) = rd l (j : Int) := by
  unfold rd
  rw [Int.toNat_natCast, List.getD_eq_getElem?_getD, List.getD_eq_getElem?_getD, List.getElem?_append_left h]
def coefB (n : Int) : Bool := decide (-1000000 ≤ n) && decide (n ≤ 1000000)
def inB (x lo hi : Int) : Bool := decide (lo ≤ x) && decide (x ≤ hi)
theorem iIn_val (x a b : Int) : impl_in.f x a b = some (inB x a b) := by
  unfold impl_in.f inB
  by_cases h : a ≤ x
  · rw [if_pos h]; simp [h]
  · rw [if_neg h]; simp [h]
theorem iCoef_val (n : Int) : impl_coefOk.f n = some (coefB n) := by simp only [impl_coefOk.f, iIn_val, Option.bind_some]; rfl
/-- Whether an op is right at its place. -/
def opB (o : S109) (i : Int) : Bool :=
  if o.f0 = 0 then coefB o.f1 && (o.f2 == 0)
  else if o.f0 = 1 ∨ o.f0 = 3 then inB o.f1 0 i && inB o.f2 0 i
  else if o.f0 = 2 then inB o.f1 0 i && coefB o.f2
  else false
theorem opok_val (o : S109) (i : Int) : Ev (fun q => impl_Op_ok.f q o.f0 o.f1 o.f2 i) (opB o i) := by
  obtain ⟨x, a, b⟩ := o
  dsimp only
  unfold opB
  dsimp only
  simp only [impl_Op_ok.f]
  by_cases h0 : x = 0
  · rw [if_pos_ev h0, if_pos h0]
    simp only [iCoef_val, Option.bind_some]
    cases coefB a <;> simp <;> exact Ev.now _
  · rw [if_neg_ev h0, if_neg h0]
    have hj : ∀ y : Bool, Ev (fun q => impl_Op_ok.j0 q i x y x a b) (if y = true then inB a 0 i && inB b 0 i else if x = 2 then inB a 0 i && coefB b else false) := fun y => by
      refine up ?_
      cases y with
      | true =>
        simp only [impl_Op_ok.j0, if_true, iIn_val, Option.bind_some]
        cases inB a 0 i <;> simp <;> exact Ev.now _
      | false =>
        simp only [impl_Op_ok.j0, Bool.false_eq_true, if_false]
        by_cases h2 : x = 2
        · simp only [if_pos h2, iIn_val, iCoef_val, Option.bind_some]
          cases inB a 0 i <;> simp <;> exact Ev.now _
        · simp only [if_neg h2]; exact Ev.now _
    by_cases h1 : x = 1
    · rw [if_pos_ev h1, if_pos (.inl h1)]
      have := hj (x == 1)
      rw [show (x == 1) = true by simp [h1]] at this ⊢
      exact this
    · rw [if_neg_ev h1]
      have := hj (x == 3)
      by_cases h3 : x = 3
      · rw [if_pos (.inr h3)]
        rw [show (x == 3) = true by simp [h3]] at this ⊢
        exact this
      · rw [if_neg (by omega)]
        rw [show (x == 3) = false by simp [h3]] at this ⊢
        exact this
/-- The next polynomial, as both make it. -/
def nextP (o : S109) (P : List (List Int)) : List Int :=
  if o.f0 = 0 then cutB [o.f1] else if o.f0 = 1 then sumP (rdLL P o.f1) (rdLL P o.f2) else if o.f0 = 2 then prodP (rdLL P o.f1) [o.f2] else prodP (rdLL P o.f1) (rdLL P o.f2)
theorem inB_iff {x lo hi : Int} : inB x lo hi = true ↔ lo ≤ x ∧ x ≤ hi := by unfold inB; simp
theorem rdLL_small {P : List (List Int)} (hP : ∀ p ∈ P, p.length ≤ 17) {x : Int} : (rdLL P x).length ≤ 17 := by
  unfold rdLL
  rw [List.getD_eq_getElem?_getD]
  by_cases h : x.toNat < P.length
  · rw [List.getElem?_eq_getElem h]; exact hP _ (List.getElem_mem h)
  · rw [List.getElem?_eq_none (by omega)]; simp
theorem pcNext_val (o : S109) (P : List (List Int)) (hP : ∀ p ∈ P, p.length ≤ 17) (h : opB o ((P.length : Int) - 1) = true) : Ev (fun q => pcNext q o P) (nextP o P) := by
  obtain ⟨x, a, b⟩ := o
  unfold opB at h
  unfold nextP
  simp only [pcNext]
  dsimp only at h ⊢
  by_cases h0 : x = 0
  · simp only [if_pos h0]; exact cut_val _ _ rfl (by simp)
  · simp only [if_neg h0] at h ⊢
    by_cases h1 : x = 1
    · simp only [if_pos h1, if_pos (show x = 1 ∨ x = 3 from .inl h1)] at h ⊢
      rw [Bool.and_eq_true, inB_iff, inB_iff] at h
      rw [if_pos_ev (by omega)]
      have := rdLL_small hP (x := a); have := rdLL_small hP (x := b)
      exact iSum_val _ _ (by omega) (by omega)
    · simp only [if_neg h1] at ⊢
      by_cases h2 : x = 2
      · simp only [if_neg (show ¬ (x = 1 ∨ x = 3) by omega), if_pos h2] at h ⊢
        rw [Bool.and_eq_true, inB_iff] at h
        rw [if_pos_ev (by omega)]
        have := rdLL_small hP (x := a)
        exact iMul_val _ _ (by omega) (by simp)
      · by_cases h3 : x = 3
        · simp only [if_pos (show x = 1 ∨ x = 3 from .inr h3)] at h
          simp only [if_neg h2, if_pos h3]
          rw [Bool.and_eq_true, inB_iff, inB_iff] at h
          rw [if_pos_ev (by omega)]
          have := rdLL_small hP (x := a); have := rdLL_small hP (x := b)
          exact iMul_val _ _ (by omega) (by omega)
        · simp only [if_neg (show ¬ (x = 1 ∨ x = 3) by omega), if_neg h2] at h
          cases h
/-- All polynomials of a code: none where one is not right. -/
def polysB : List S109 → List (List Int) → Option (List (List Int))
  | [], P => some P
  | o :: r, P => if opB o ((P.length : Int) - 1) = true then (if polyB (nextP o P) = true then polysB r (P ++ [nextP o P]) else none) else none
theorem polyB_len {l : List Int} (h : polyB l = true) : l.length ≤ 17 := by
  unfold polyB at h
  rw [Bool.and_eq_true] at h
  exact of_decide_eq_true h.1
theorem small_app {P : List (List Int)} (hP : ∀ p ∈ P, p.length ≤ 17) {n : List Int} (hn : n.length ≤ 17) : ∀ p ∈ P ++ [n], p.length ≤ 17 := by
  intro p hp
  rcases List.mem_append.1 hp with hp | hp
  · exact hP p hp
  · rw [List.mem_singleton] at hp; subst hp; exact hn
def resB (x : Option (List (List Int))) : List (List Int) × Bool := match x with | some P => (P, true) | none => ([], false)
theorem pcLoop_val : ∀ (ops : List S109) (P : List (List Int)), (∀ p ∈ P, p.length ≤ 17) → P.length + ops.length ≤ 900 → Ev (fun q => pcLoop q ops ((P.length : Int) - 1) P) (resB (polysB ops P))
  | [], P, _, _ => by simp only [pcLoop, polysB, resB]; exact Ev.now _
  | o :: r, P, hP, hl => by
    rw [List.length_cons] at hl
    simp only [pcLoop, polysB]
    cases h : opB o ((P.length : Int) - 1) with
    | false =>
      have hs : Ev (fun q => pcStep q o ((P.length : Int) - 1) P) none := by
        have hop := opok_val o ((P.length : Int) - 1)
        rw [h] at hop
        simp only [pcStep]
        refine Ev.bind hop ?_
        simp only [Bool.false_eq_true, if_false]
        exact Ev.now _
      refine Ev.bind hs ?_
      simp only [Bool.false_eq_true, if_false, resB]
      exact Ev.now _
    | true =>
      have hop := opok_val o ((P.length : Int) - 1)
      rw [h] at hop
      have hn := pcNext_val o P hP h
      simp only [if_true]
      cases hb : polyB (nextP o P) with
      | false =>
        have hs : Ev (fun q => pcStep q o ((P.length : Int) - 1) P) none := by
          simp only [pcStep]
          refine Ev.bind hop ?_
          simp only [if_true]
          refine Ev.bind hn ?_
          simp only [impl_polynomialOk.f, hb, Option.bind_some, Bool.false_eq_true, if_false]
          exact Ev.now _
        refine Ev.bind hs ?_
        simp only [Bool.false_eq_true, if_false, resB]
        exact Ev.now _
      | true =>
        have hs : Ev (fun q => pcStep q o ((P.length : Int) - 1) P) (some (nextP o P)) := by
          simp only [pcStep]
          refine Ev.bind hop ?_
          simp only [if_true]
          refine Ev.bind hn ?_
          simp only [impl_polynomialOk.f, hb, Option.bind_some, if_true]
          exact Ev.now _
        refine Ev.bind hs ?_
        simp only [if_true, if_pos (show P.length < 1000 by omega)]
        have := pcLoop_val r (P ++ [nextP o P]) (small_app hP (polyB_len hb)) (by rw [List.length_append, List.length_singleton]; omega)
        rw [List.length_append, List.length_singleton, show ((P.length + 1 : Nat) : Int) - 1 = ((P.length : Int) - 1) + 1 by omega] at this
        exact this
/-- Whether something is a code. -/
def codeB (ops : List S109) (out : Int) : Bool := decide (ops.length ≤ 120) && (inB out 0 ops.length && (polysB ops [[0, 1]]).isSome)
theorem start_small : ∀ p ∈ ([[0, 1]] : List (List Int)), p.length ≤ 17 := by intro p hp; rw [List.mem_singleton] at hp; subst hp; simp
theorem implCode (ops : List S109) (out : Int) : Ev (fun q => impl_IsCode.f q ops out) (codeB ops out) := by
  simp only [impl_IsCode.f, polysF, codeB]
  by_cases h1 : ops.length > 120
  · rw [show decide (ops.length ≤ 120) = false from decide_eq_false (by omega), Bool.false_and]
    simp only [if_pos h1, Option.bind_some]; exact Ev.now _
  · rw [show decide (ops.length ≤ 120) = true from decide_eq_true (by omega), Bool.true_and]
    simp only [if_neg h1]
    by_cases h2 : 0 ≤ out ∧ out ≤ (ops.length : Int)
    · rw [show inB out 0 ops.length = true from inB_iff.2 h2, Bool.true_and]
      simp only [if_pos h2]
      have := pcLoop_val ops [[0, 1]] start_small (by simp; omega)
      refine Ev.bind this ?_
      cases h : polysB ops [[0, 1]] <;> simp only [resB, Option.isSome] <;> exact Ev.now _
    · rw [show inB out 0 ops.length = false from by rw [Bool.eq_false_iff]; exact fun h => h2 (inB_iff.1 h), Bool.false_and]
      simp only [if_neg h2, Option.bind_some]; exact Ev.now _
theorem opB_f0 {o : S109} {i : Int} (h : opB o i = true) : o.f0 = 0 ∨ o.f0 = 1 ∨ o.f0 = 2 ∨ o.f0 = 3 := by
  unfold opB at h
  by_cases h0 : o.f0 = 0
  · exact .inl h0
  · rw [if_neg h0] at h
    by_cases h1 : o.f0 = 1 ∨ o.f0 = 3
    · omega
    · rw [if_neg h1] at h
      by_cases h2 : o.f0 = 2
      · omega
      · rw [if_neg h2] at h; cases h
theorem rdOp_at {T : List S109} {i : Nat} (h : i < T.length) : rd_T109 T (i : Int) = T[i] := by
  unfold rd_T109
  rw [Int.toNat_natCast, List.getD_eq_getElem?_getD, List.getElem?_eq_getElem h]; rfl
/-- What a code is told as, if it is one. -/
def ifV (ops : List S109) (out : Int) : List S109 × Int × Bool := if codeB ops out = true then (ops, out, true) else ([], 0, false)
theorem told_val (ops : List S109) (out : Int) : Ev (fun q => impl_toldCode.f q ops out) (ifV ops out) := by
  simp only [impl_toldCode.f]
  refine Ev.bind (implCode ops out) ?_
  unfold ifV
  cases codeB ops out with
  | true => simp only [if_true]; exact Ev.now _
  | false => simp only [Bool.false_eq_true, if_false]; exact Ev.now _
/-! The code by groups: the reference's is the program's. -/
def spw (n : Nat) : List Int := (List.range (n + 1)).map fun i => ((i : Nat) : Int)
theorem spw_length (n : Nat) : (spw n).length = n + 1 := by simp [spw]
theorem spw_succ (n : Nat) : spw (n + 1) = spw n ++ [(n : Int) + 1] := by simp [spw, List.range_succ]
theorem gcPw_cons (n : Nat) : gcPw n = (-1) :: spw n := rfl
theorem rd_cons (a : Int) (l : List Int) (i : Nat) : rd (a :: l) ((i : Int) + 1) = rd l (i : Int) := by
  unfold rd
  rw [Int.toNat_natCast, show ((i : Int) + 1).toNat = i + 1 by omega, List.getD_cons_succ]
theorem poAdd_val (l : List S109) (o a b c : Int) (hl : l.length ≤ 1000000) : spec_poAdd.f l o a b c = some (l ++ [⟨a, b, c⟩], 0, (l.length : Int) + 1) := by
  simp only [spec_poAdd.f, Option.bind_some, List.nil_append, List.length_nil, Nat.zero_add, if_pos (show l.length < 5864062014805 by omega), List.length_append, List.length_singleton]
  rfl
theorem powers_loop (most : Int) (n : Nat) (hn : (n : Int) = most - 1 ∨ n = 0 ∧ most ≤ 1) (hn2 : n ≤ 100) : ∀ (d i : Nat), i + d = n → Ev (fun k => spec_poPowers.l0 k most (spw i) (i : Int) ((i : Int) + 2) (gcPops i) 0) (gcPops n, 0, spw n) := by
  intro d
  induction d with
  | zero =>
    intro i h
    obtain rfl : i = n := by omega
    refine up ?_
    simp only [spec_poPowers.l0, if_neg (show ¬ (i : Int) + 2 ≤ most by omega)]
    exact Ev.now _
  | succ d ih =>
    intro i h
    refine up ?_
    have hp := poAdd_val (gcPops i) 0 3 (i : Int) 0 (by rw [gcPops_length]; omega)
    rw [← gcPops_succ, gcPops_length] at hp
    simp only [spec_poPowers.l0, if_pos (show (i : Int) + 2 ≤ most by omega), hp, Option.bind_some, if_pos (show (spw i).length < 17592186044416 by rw [spw_length]; omega), wid (x := (i : Int) + 2 + 1) (by omega) (by omega)]
    have := ih (i + 1) (by omega)
    rw [spw_succ, show ((i + 1 : Nat) : Int) + 2 = (i : Int) + 2 + 1 by omega, show ((i + 1 : Nat) : Int) = (i : Int) + 1 by omega] at this
    exact this
theorem powers_val (most : Int) (n : Nat) (hn : (n : Int) = most - 1 ∨ n = 0 ∧ most ≤ 1) (hn2 : n ≤ 100) : Ev (fun k => spec_poPowers.f k [] 0 most) (gcPops n, 0, spw n) := powers_loop most n hn hn2 n 0 (by omega)
theorem group_loop (c0 : Int) (r sp : List Int) (hr : r.length ≤ 1000) (hsp : r.length ≤ sp.length) : ∀ (d i : Nat) (os : List S109) (a : Int), i + d = r.length → os.length + 2 * d ≤ 100000 →
    Ev (fun k => spec_poGroup.l0 k (c0 :: r) sp a ((i : Int) + 1) os 0) ((gcGrp ((-1) :: sp) (r.drop i) i os a).1, 0, (gcGrp ((-1) :: sp) (r.drop i) i os a).2) := by
  intro d
  induction d with
  | zero =>
    intro i os a h hl
    refine up ?_
    simp only [spec_poGroup.l0, if_neg (show ¬ (i : Int) + 1 < ((c0 :: r).length : Int) by rw [List.length_cons]; omega)]
    rw [List.drop_of_length_le (by omega)]
    exact Ev.now _
  | succ d ih =>
    intro i os a h hl
    have hi : i < r.length := by omega
    have h1 := poAdd_val os 0 2 (rd sp (i : Int)) r[i] (by omega)
    have e : ((os ++ [(⟨2, rd sp (i : Int), r[i]⟩ : S109)]).length : Int) + 1 = (os.length : Int) + 1 + 1 := by rw [List.length_append, List.length_singleton]; rfl
    have h2 := poAdd_val (os ++ [⟨2, rd sp (i : Int), r[i]⟩]) 0 1 a ((os.length : Int) + 1) (by rw [List.length_append, List.length_singleton]; omega)
    rw [e] at h2
    have hrd : rd (c0 :: r) ((i : Int) + 1) = r[i] := by rw [rd_cons, rd_at hi]
    refine up ?_
    simp only [spec_poGroup.l0, if_pos (show (i : Int) + 1 < ((c0 :: r).length : Int) by rw [List.length_cons]; omega), wid (x := (i : Int) + 1 - 1) (by omega) (by omega), show (i : Int) + 1 - 1 = (i : Int) by omega, wid (x := (i : Int)) (by omega) (by omega), if_pos (show (0 : Int) ≤ (i : Int) by omega), if_pos (show (i : Int) < (sp.length : Int) by omega), if_pos (show (0 : Int) ≤ (i : Int) + 1 by omega), hrd, h1, h2, Option.bind_some, wid (x := (i : Int) + 1 + 1) (by omega) (by omega)]
    have := ih (i + 1) (os ++ [⟨2, rd sp (i : Int), r[i]⟩] ++ [⟨1, a, (os.length : Int) + 1⟩]) ((os.length : Int) + 1 + 1) (by omega) (by simp only [List.length_append, List.length_singleton]; omega)
    rw [List.drop_eq_getElem_cons hi, gcGrp, rd_cons]
    rw [show ((i + 1 : Nat) : Int) + 1 = (i : Int) + 1 + 1 by omega] at this
    exact this
theorem group_val (c0 : Int) (r sp : List Int) (os : List S109) (hr : r.length ≤ 1000) (hsp : r.length ≤ sp.length) (hl : os.length ≤ 50000) : Ev (fun k => spec_poGroup.f k os 0 (c0 :: r) sp) ((gcGroup ((-1) :: sp) c0 r os).1, 0, (gcGroup ((-1) :: sp) c0 r os).2) := by
  have h1 := poAdd_val os 0 0 c0 0 (by omega)
  have hrd : rd (c0 :: r) 0 = c0 := rfl
  simp only [spec_poGroup.f, if_pos (show 0 < ((c0 :: r).length : Int) by rw [List.length_cons]; omega), hrd, h1, Option.bind_some]
  have := group_loop c0 r sp hr hsp r.length 0 (os ++ [⟨0, c0, 0⟩]) ((os.length : Int) + 1) (by omega) (by rw [List.length_append, List.length_singleton]; omega)
  rw [List.drop_zero] at this
  exact this
theorem take_cut (l : List Int) (f k : Nat) : (l.take (min (f + k) l.length)).drop f = (l.drop f).take k := by
  rw [List.drop_take]
  by_cases h : f + k ≤ l.length
  · rw [Nat.min_eq_left h, Nat.add_sub_cancel_left]
  · rw [Nat.min_eq_right (by omega), List.take_of_length_le (by rw [List.length_drop]; omega), List.take_of_length_le (by rw [List.length_drop]; omega)]
theorem cut_cons {l : List Int} {f k : Nat} (hf : f < l.length) (hk : 1 ≤ k) : ∃ c0 r, (l.drop f).take k = c0 :: r ∧ r.length + 1 = min k (l.length - f) := by
  have hlen : ((l.drop f).take k).length = min k (l.length - f) := by rw [List.length_take, List.length_drop]
  cases h : (l.drop f).take k with
  | nil => rw [h] at hlen; simp at hlen; omega
  | cons c0 r => rw [h, List.length_cons] at hlen; exact ⟨c0, r, rfl, hlen⟩
theorem giant_loop (l : List Int) (kk n J : Nat) (hl1 : 1 ≤ l.length) (hl2 : l.length ≤ 17) (hk1 : 1 ≤ kk) (hk2 : kk ≤ 17) (hJk : J * kk ≤ l.length - 1) (hkn : 1 ≤ J → kk < n + 2) (hnr : min kk l.length ≤ n + 2) : ∀ (j : Nat) (os : List S109) (a : Int), j ≤ J + 1 → (0 ≤ a → j ≤ J) → os.length + 40 * j ≤ 10000 →
    Ev (fun k => spec_poGiant.l0 k l (kk : Int) (spw n) a ((j : Int) * (kk : Int) - (kk : Int)) os 0) (gcGiant l kk (gcPw n) j os a) := by
  intro j
  induction j with
  | zero =>
    intro os a _ _ _
    refine up ?_
    simp only [spec_poGiant.l0, if_neg (show ¬ ((0 : Nat) : Int) * (kk : Int) - (kk : Int) ≥ 0 by omega)]
    exact Ev.now _
  | succ j ih =>
    intro os a hj ha hos
    obtain ⟨f, hf⟩ : ∃ f : Nat, j * kk = f := ⟨_, rfl⟩
    have hjk : j * kk ≤ J * kk := Nat.mul_le_mul_right _ (by omega)
    have hfl : f < l.length := by omega
    have e0 : ((j + 1 : Nat) : Int) * (kk : Int) - (kk : Int) = (f : Int) := by rw [← hf, Int.natCast_add, Int.add_mul]; simp
    have en : (f : Int) - (kk : Int) = (j : Int) * (kk : Int) - (kk : Int) := by rw [← hf]; simp
    obtain ⟨c0, r, hcs, hrm⟩ := cut_cons hfl hk1
    have hcs2 : (l.drop (j * kk)).take kk = c0 :: r := by rw [hf]; exact hcs
    rw [e0]
    have hm : min ((f : Int) + (kk : Int)) (l.length : Int) = ((min (f + kk) l.length : Nat) : Int) := by omega
    have hj1 : ∀ (a2 : Int) (os2 : List S109) (R : List S109 × Int), os2.length ≤ 20000 → (a2 < 0 → Ev (fun k => spec_poGiant.l0 k l (kk : Int) (spw n) (gcGroup (gcPw n) c0 r os2).2 ((f : Int) - (kk : Int)) (gcGroup (gcPw n) c0 r os2).1 0) R) → (0 ≤ a2 → Ev (fun k => spec_poGiant.l0 k l (kk : Int) (spw n) (((gcGroup (gcPw n) c0 r os2).1.length : Int) + 1) ((f : Int) - (kk : Int)) ((gcGroup (gcPw n) c0 r os2).1 ++ [⟨1, a2, (gcGroup (gcPw n) c0 r os2).2⟩]) 0) R) → Ev (fun k => spec_poGiant.j1 k l (kk : Int) (spw n) a2 (f : Int) os2 0) R := by
      intro a2 os2 R ho2 hneg hpos
      have hgl := gcGroup_length (gcPw n) c0 r os2
      have hg := group_val c0 r (spw n) os2 (by omega) (by rw [spw_length]; omega) (by omega)
      rw [← gcPw_cons] at hg
      refine up ?_
      simp only [spec_poGiant.j1, wid (x := (f : Int) + (kk : Int)) (by omega) (by omega), l1Least_val, hm, Option.bind_some, if_pos (show (0 : Int) ≤ (f : Int) by omega), if_pos (show (f : Int) ≤ ((min (f + kk) l.length : Nat) : Int) by omega), if_pos (show ((min (f + kk) l.length : Nat) : Int) ≤ (l.length : Int) by omega), Int.toNat_natCast, take_cut, hcs, wid (x := (f : Int) - (kk : Int)) (by omega) (by omega)]
      refine Ev.bind hg ?_
      by_cases h2 : a2 < 0
      · simp only [if_pos h2]
        exact hneg h2
      · have hp := poAdd_val (gcGroup (gcPw n) c0 r os2).1 0 1 a2 (gcGroup (gcPw n) c0 r os2).2 (by omega)
        simp only [if_neg h2, hp, Option.bind_some]
        exact hpos (by omega)
    refine up ?_
    by_cases hat : 0 ≤ a
    · have hki := hkn (by have := ha hat; omega)
      have hrp : rd (spw n) ((kk : Int) - 1) = rd (gcPw n) (kk : Int) := by
        obtain ⟨m, rfl⟩ : ∃ m, kk = m + 1 := ⟨kk - 1, by omega⟩
        rw [gcPw_cons, show ((m + 1 : Nat) : Int) = (m : Int) + 1 by omega, rd_cons, show (m : Int) + 1 - 1 = (m : Int) by omega]
      have h1 := poAdd_val os 0 3 a (rd (gcPw n) (kk : Int)) (by omega)
      simp only [spec_poGiant.l0, if_pos (show (f : Int) ≥ 0 by omega), if_pos (show a ≥ 0 from hat), wid (x := (kk : Int) - 1) (by omega) (by omega), if_pos (show (0 : Int) ≤ (kk : Int) - 1 by omega), if_pos (show (kk : Int) - 1 < ((spw n).length : Int) by rw [spw_length]; omega), hrp, h1, Option.bind_some]
      rw [gcGiant_pos hat hcs2]
      refine hj1 _ _ _ (by rw [List.length_append, List.length_singleton]; omega) (fun h => by omega) (fun _ => ?_)
      rw [en]
      have hgl := gcGroup_length (gcPw n) c0 r (os ++ [⟨3, a, rd (gcPw n) (kk : Int)⟩])
      rw [List.length_append, List.length_singleton] at hgl
      exact ih _ _ (by omega) (fun _ => by omega) (by rw [List.length_append, List.length_singleton]; omega)
    · simp only [spec_poGiant.l0, if_pos (show (f : Int) ≥ 0 by omega), if_neg (show ¬ a ≥ 0 from hat)]
      rw [gcGiant_neg hat hcs2]
      refine hj1 _ _ _ (by omega) (fun _ => ?_) (fun h => by omega)
      rw [en]
      have hgl := gcGroup_length (gcPw n) c0 r os
      exact ih _ _ (by omega) (fun _ => by omega) (by omega)
theorem gcGrp_end (pw : List Int) : ∀ (r : List Int) (i : Nat) (os : List S109) (a : Int), a = (os.length : Int) → (gcGrp pw r i os a).2 = ((gcGrp pw r i os a).1.length : Int)
  | [], _, _, _, h => h
  | n :: r, i, os, a, _ => by
    rw [gcGrp]
    exact gcGrp_end pw r _ _ _ (by simp only [List.length_append, List.length_singleton]; omega)
theorem gcGroup_end (pw : List Int) (c0 : Int) (r : List Int) (os : List S109) : (gcGroup pw c0 r os).2 = ((gcGroup pw c0 r os).1.length : Int) := gcGrp_end pw r 0 _ _ (by rw [List.length_append, List.length_singleton]; rfl)
theorem gcGiant_end (l : List Int) (k : Nat) (pw : List Int) (hk : 1 ≤ k) : ∀ (j : Nat) (os : List S109) (a : Int), (a = (os.length : Int) ∨ 0 < j) → j * k < l.length + k → (gcGiant l k pw j os a).2 = ((gcGiant l k pw j os a).1.length : Int) ∧ (gcGiant l k pw j os a).1.length ≤ os.length + j * (2 * k + 2)
  | 0, os, a, h, _ => by
    rcases h with h | h
    · exact ⟨h, by show os.length ≤ os.length + 0 * (2 * k + 2); omega⟩
    · omega
  | j + 1, os, a, _, hj => by
    have hjk : j * k < l.length := by rw [Nat.add_mul] at hj; omega
    obtain ⟨c0, r, hcs, hrm⟩ := cut_cons hjk hk
    have e : (j + 1) * (2 * k + 2) = j * (2 * k + 2) + (2 * k + 2) := by rw [Nat.add_mul]; omega
    by_cases ha : 0 ≤ a
    · rw [gcGiant_pos ha hcs]
      have := gcGiant_end l k pw hk j ((gcGroup pw c0 r (os ++ [⟨3, a, rd pw (k : Int)⟩])).1 ++ [⟨1, (os.length : Int) + 1, (gcGroup pw c0 r (os ++ [⟨3, a, rd pw (k : Int)⟩])).2⟩]) (((gcGroup pw c0 r (os ++ [⟨3, a, rd pw (k : Int)⟩])).1.length : Int) + 1) (Or.inl (by rw [List.length_append, List.length_singleton]; rfl)) (by omega)
      refine ⟨this.1, Nat.le_trans this.2 ?_⟩
      rw [List.length_append, List.length_singleton, gcGroup_length, List.length_append, List.length_singleton]
      omega
    · rw [gcGiant_neg ha hcs]
      have := gcGiant_end l k pw hk j (gcGroup pw c0 r os).1 (gcGroup pw c0 r os).2 (Or.inl (gcGroup_end _ _ _ _)) (by omega)
      refine ⟨this.1, Nat.le_trans this.2 ?_⟩
      rw [gcGroup_length]
      omega
/-! Polynomials by what they weigh: every weight of a sum, of a product, of what is cut. -/
def lin (φ : Nat → Int) : List Int → Int
  | [] => 0
  | a :: l => a * φ 0 + lin (fun i => φ (i + 1)) l
theorem lin_app : ∀ (a b : List Int) (φ : Nat → Int), lin φ (a ++ b) = lin φ a + lin (fun i => φ (a.length + i)) b
  | [], b, φ => by simp [lin]
  | x :: a, b, φ => by
    rw [List.cons_append, lin, lin_app a b, lin, List.length_cons]
    have e : (fun i => φ (a.length + i + 1)) = fun i => φ (a.length + 1 + i) := funext fun i => congrArg φ (by omega)
    rw [e]; omega
theorem lin_zeros : ∀ (n : Nat) (φ : Nat → Int), lin φ (List.replicate n 0) = 0
  | 0, _ => rfl
  | n + 1, φ => by rw [List.replicate_succ, lin, lin_zeros n]; simp
theorem lin_cut (φ : Nat → Int) : ∀ (n : Nat) (l : List Int), l.length = n → lin φ (cutB l) = lin φ l := by
  intro n
  induction n with
  | zero => intro l h; obtain rfl := List.eq_nil_of_length_eq_zero h; rfl
  | succ n ih =>
    intro l h
    obtain ⟨l', x, rfl⟩ : ∃ l' x, l = l' ++ [x] := by
      rcases List.eq_nil_or_concat l with h0 | ⟨l', x, h0⟩
      · subst h0; simp at h
      · exact ⟨l', x, by rw [h0, List.concat_eq_append]⟩
    by_cases hx : x = 0
    · subst hx
      rw [cutB_zero, ih l' (by simpa using h), lin_app]
      simp [lin]
    · rw [cutB_ne _ hx]
theorem lin_set : ∀ (l : List Int) (i : Nat) (v : Int) (φ : Nat → Int), i < l.length → lin φ (l.set i v) = lin φ l + (v - rd l (i : Int)) * φ i
  | [], i, v, φ, h => by simp at h
  | a :: l, 0, v, φ, _ => by
    have e : rd (a :: l) ((0 : Nat) : Int) = a := rfl
    rw [List.set_cons_zero, lin, lin, e, Int.sub_mul]; omega
  | a :: l, i + 1, v, φ, h => by
    have e : rd (a :: l) ((i + 1 : Nat) : Int) = rd l (i : Int) := by
      unfold rd
      rw [Int.toNat_natCast, Int.toNat_natCast, List.getD_cons_succ]
    rw [List.set_cons_succ, lin, lin, e, lin_set l i v _ (by simpa using h)]; omega
def bnd (M : Int) (l : List Int) : Prop := ∀ x ∈ l, -M ≤ x ∧ x ≤ M
theorem bnd_mono {M N : Int} {l : List Int} (h : bnd M l) (hMN : M ≤ N) : bnd N l := fun x hx => by have := h x hx; omega
theorem bnd_rd {M : Int} {l : List Int} (h : bnd M l) (hM : 0 ≤ M) (i : Int) : -M ≤ rd l i ∧ rd l i ≤ M := by
  unfold rd
  rw [List.getD_eq_getElem?_getD]
  by_cases hi : i.toNat < l.length
  · rw [List.getElem?_eq_getElem hi]; exact h _ (List.getElem_mem hi)
  · rw [List.getElem?_eq_none (by omega)]; simp only [Option.getD_none]; omega
theorem bnd_set {M : Int} {l : List Int} {i : Nat} {v : Int} (h : bnd M l) (hv : -M ≤ v ∧ v ≤ M) : bnd M (l.set i v) := fun x hx => by
  rcases List.mem_or_eq_of_mem_set hx with h1 | h1
  · exact h x h1
  · rw [h1]; exact hv
theorem bnd_zeros (M : Int) (hM : 0 ≤ M) (n : Nat) : bnd M (List.replicate n 0) := fun x hx => by
  obtain ⟨_, rfl⟩ := List.mem_replicate.1 hx; omega
theorem cutB_pre : ∀ (n : Nat) (l : List Int), l.length = n → ∃ m, l = cutB l ++ List.replicate m 0 := by
  intro n
  induction n with
  | zero => intro l h; obtain rfl := List.eq_nil_of_length_eq_zero h; exact ⟨0, rfl⟩
  | succ n ih =>
    intro l h
    obtain ⟨l', x, rfl⟩ : ∃ l' x, l = l' ++ [x] := by
      rcases List.eq_nil_or_concat l with h0 | ⟨l', x, h0⟩
      · subst h0; simp at h
      · exact ⟨l', x, by rw [h0, List.concat_eq_append]⟩
    by_cases hx : x = 0
    · subst hx
      obtain ⟨m, hm⟩ := ih l' (by simpa using h)
      refine ⟨m + 1, ?_⟩
      rw [cutB_zero, List.replicate_succ', ← List.append_assoc, ← hm]
    · exact ⟨0, by rw [cutB_ne _ hx]; simp⟩
theorem cutB_mem {l : List Int} {x : Int} (h : x ∈ cutB l) : x ∈ l := by
  obtain ⟨m, hm⟩ := cutB_pre _ l rfl
  rw [hm]; exact List.mem_append_left _ h
theorem bnd_cut {M : Int} {l : List Int} (h : bnd M l) : bnd M (cutB l) := fun x hx => h x (cutB_mem hx)
theorem cutB_app_zeros (l : List Int) : ∀ n, cutB (l ++ List.replicate n 0) = cutB l
  | 0 => by simp
  | n + 1 => by rw [List.replicate_succ', ← List.append_assoc, cutB_zero, cutB_app_zeros l n]
theorem cutB_cut (l : List Int) : cutB (cutB l) = cutB l := by
  obtain ⟨m, hm⟩ := cutB_pre _ l rfl
  conv => rhs; rw [hm]
  rw [cutB_app_zeros]
def dl (n i : Nat) : Int := if i = n then 1 else 0
theorem lin_none : ∀ (l : List Int), lin (fun _ => 0) l = 0
  | [] => rfl
  | a :: l => by rw [lin, lin_none l]; simp
theorem lin_dl : ∀ (l : List Int) (n : Nat), lin (dl n) l = rd l (n : Int)
  | [], n => by unfold rd; simp [lin]
  | a :: l, 0 => by
    have e : (fun i => dl 0 (i + 1)) = fun _ => 0 := funext fun i => by simp [dl]
    rw [lin, e, lin_none]
    have e1 : dl 0 0 = 1 := rfl
    have e2 : rd (a :: l) ((0 : Nat) : Int) = a := rfl
    rw [e1, e2]; omega
  | a :: l, n + 1 => by
    have e : (fun i => dl (n + 1) (i + 1)) = dl n := funext fun i => by simp [dl]
    have e2 : rd (a :: l) ((n + 1 : Nat) : Int) = rd l (n : Int) := by
      unfold rd
      rw [Int.toNat_natCast, Int.toNat_natCast, List.getD_cons_succ]
    have e1 : dl (n + 1) 0 = 0 := rfl
    rw [lin, e, lin_dl l n, e2, e1]; omega
theorem pad_eq {a b : List Int} (h : ∀ n : Nat, rd a (n : Int) = rd b (n : Int)) : a ++ List.replicate (b.length - a.length) 0 = b ++ List.replicate (a.length - b.length) 0 := by
  apply List.ext_getElem?
  intro i
  have hi := h i
  unfold rd at hi
  rw [Int.toNat_natCast, List.getD_eq_getElem?_getD, List.getD_eq_getElem?_getD] at hi
  rw [List.getElem?_append, List.getElem?_append, List.getElem?_replicate, List.getElem?_replicate]
  by_cases h1 : i < a.length
  · rw [if_pos h1, List.getElem?_eq_getElem h1]
    rw [List.getElem?_eq_getElem h1] at hi
    by_cases h2 : i < b.length
    · rw [if_pos h2, List.getElem?_eq_getElem h2]
      rw [List.getElem?_eq_getElem h2] at hi
      simpa using hi
    · rw [if_neg h2, if_pos (by omega)]
      rw [List.getElem?_eq_none (by omega)] at hi
      simpa using hi
  · rw [if_neg h1]
    rw [List.getElem?_eq_none (l := a) (by omega)] at hi
    by_cases h2 : i < b.length
    · rw [if_pos h2, if_pos (by omega), List.getElem?_eq_getElem h2]
      rw [List.getElem?_eq_getElem h2] at hi
      simpa using hi
    · rw [if_neg h2, if_neg (by omega), if_neg (by omega)]
/-- Rows of the same weights are the same when cut. -/
theorem cut_ext {a b : List Int} (h : ∀ φ, lin φ a = lin φ b) : cutB a = cutB b := by
  have hr : ∀ n : Nat, rd a (n : Int) = rd b (n : Int) := fun n => by rw [← lin_dl, ← lin_dl]; exact h _
  rw [← cutB_app_zeros a (b.length - a.length), pad_eq hr, cutB_app_zeros]
theorem mul_bound {a b : Int} (ha : -1000000 ≤ a ∧ a ≤ 1000000) (hb : -1000000 ≤ b ∧ b ≤ 1000000) : -1000000000000 ≤ a * b ∧ a * b ≤ 1000000000000 := by
  have h1 : a.natAbs ≤ 1000000 := by omega
  have h2 : b.natAbs ≤ 1000000 := by omega
  have h3 : (a * b).natAbs ≤ 1000000 * 1000000 := by rw [Int.natAbs_mul]; exact Nat.mul_le_mul h1 h2
  omega
theorem addTo_lin (x : List Int) (hx : bnd 1000000000000 x) (φ : Nat → Int) : ∀ (d i s : Nat) (out : List Int), i + d = x.length → x.length ≤ out.length → bnd ((s : Int) * 1000000000000) out → s + d ≤ 1000000 →
    lin φ (addTo x out i d) = lin φ out + lin (fun j => φ (i + j)) (x.drop i) ∧ bnd (((s + d : Nat) : Int) * 1000000000000) (addTo x out i d) := by
  intro d
  induction d with
  | zero =>
    intro i s out h _ hb _
    rw [List.drop_of_length_le (by omega)]
    exact ⟨by simp only [addTo, lin]; omega, hb⟩
  | succ d ih =>
    intro i s out h ho hb hs
    have hi : i < x.length := by omega
    have b1 := bnd_rd hb (by omega) (i : Int)
    have b2 := bnd_rd hx (by omega) (i : Int)
    have hw : wrap64 (rd out (i : Int) + rd x (i : Int)) = rd out (i : Int) + rd x (i : Int) := wid (by omega) (by omega)
    unfold addTo
    rw [hw]
    obtain ⟨h1, h2⟩ := ih (i + 1) (s + 1) (out.set i (rd out (i : Int) + rd x (i : Int))) (by omega) (by rw [List.length_set]; exact ho) (bnd_set (bnd_mono hb (by omega)) (by omega)) (by omega)
    refine ⟨?_, by rw [show s + (d + 1) = s + 1 + d by omega]; exact h2⟩
    rw [h1, lin_set _ _ _ _ (by omega), List.drop_eq_getElem_cons hi, lin, rd_at hi]
    have e : (fun j => φ (i + (j + 1))) = fun j => φ (i + 1 + j) := funext fun j => congrArg φ (by omega)
    rw [e, show rd out (i : Int) + x[i] - rd out (i : Int) = x[i] by omega]
    simp only [Nat.add_zero]
    omega
theorem sumP_lin (a b : List Int) (ha : bnd 1000000000000 a) (hb : bnd 1000000000000 b) (hla : a.length ≤ 1000) (hlb : b.length ≤ 1000) (φ : Nat → Int) : lin φ (sumP a b) = lin φ a + lin φ b := by
  unfold sumP
  obtain ⟨h1, h2⟩ := addTo_lin a ha φ a.length 0 0 (List.replicate (max a.length b.length) 0) (by omega) (by rw [List.length_replicate]; omega) (bnd_zeros _ (by omega) _) (by omega)
  obtain ⟨h3, _⟩ := addTo_lin b hb φ b.length 0 (0 + a.length) (addTo a (List.replicate (max a.length b.length) 0) 0 a.length) (by omega) (by rw [addTo_len, List.length_replicate]; omega) h2 (by omega)
  have e0 : (fun j => φ (0 + j)) = φ := funext fun j => congrArg φ (Nat.zero_add j)
  rw [lin_cut φ _ _ rfl, h3, h1, lin_zeros, List.drop_zero, List.drop_zero, e0]
  omega
theorem sumP_cut (a b : List Int) : cutB (sumP a b) = sumP a b := by unfold sumP; exact cutB_cut _
theorem prodP_cutt (a b : List Int) : cutB (prodP a b) = prodP a b := by unfold prodP; exact cutB_cut _
theorem mulIn_lin (x : Int) (hx : -1000000 ≤ x ∧ x ≤ 1000000) (b : List Int) (hb : bnd 1000000 b) (i : Nat) (φ : Nat → Int) : ∀ (d k s : Nat) (out : List Int), k + d = b.length → i + b.length ≤ out.length → bnd ((s : Int) * 1000000000000) out → s + d ≤ 1000000 →
    lin φ (mulIn x b i out k d) = lin φ out + x * lin (fun j => φ (i + k + j)) (b.drop k) ∧ bnd (((s + d : Nat) : Int) * 1000000000000) (mulIn x b i out k d) := by
  intro d
  induction d with
  | zero =>
    intro k s out h _ hbo _
    rw [List.drop_of_length_le (by omega)]
    exact ⟨by simp only [mulIn, lin, Int.mul_zero]; omega, hbo⟩
  | succ d ih =>
    intro k s out h ho hbo hs
    have hk : k < b.length := by omega
    have b1 := bnd_rd hbo (by omega) ((i + k : Nat) : Int)
    have b2 := mul_bound hx (bnd_rd hb (by omega) (k : Int))
    have hw : wrap64 (x * rd b (k : Int)) = x * rd b (k : Int) := wid (by omega) (by omega)
    have hw2 : wrap64 (rd out ((i + k : Nat) : Int) + x * rd b (k : Int)) = rd out ((i + k : Nat) : Int) + x * rd b (k : Int) := wid (by omega) (by omega)
    unfold mulIn
    rw [hw, hw2]
    obtain ⟨h1, h2⟩ := ih (k + 1) (s + 1) (out.set (i + k) (rd out ((i + k : Nat) : Int) + x * rd b (k : Int))) (by omega) (by rw [List.length_set]; exact ho) (bnd_set (bnd_mono hbo (by omega)) (by omega)) (by omega)
    refine ⟨?_, by rw [show s + (d + 1) = s + 1 + d by omega]; exact h2⟩
    rw [h1, lin_set _ _ _ _ (by omega), List.drop_eq_getElem_cons hk, lin, rd_at hk]
    have e : (fun j => φ (i + k + (j + 1))) = fun j => φ (i + (k + 1) + j) := funext fun j => congrArg φ (by omega)
    rw [e, show rd out ((i + k : Nat) : Int) + x * b[k] - rd out ((i + k : Nat) : Int) = x * b[k] by omega]
    simp only [Nat.add_zero]
    rw [Int.mul_add, Int.mul_assoc]
    omega
theorem mulOut_lin (a b : List Int) (ha : bnd 1000000 a) (hb : bnd 1000000 b) (hlb : b.length ≤ 17) (φ : Nat → Int) : ∀ (d i s : Nat) (out : List Int), i + d = a.length → a.length + b.length ≤ out.length → bnd ((s : Int) * 1000000000000) out → s + d * 17 ≤ 1000000 →
    lin φ (mulOut a b out i d) = lin φ out + lin (fun p => lin (fun j => φ (i + p + j)) b) (a.drop i) := by
  intro d
  induction d with
  | zero =>
    intro i s out h _ hbo _
    rw [List.drop_of_length_le (by omega)]
    simp only [mulOut, lin]; omega
  | succ d ih =>
    intro i s out h ho hbo hs
    have hi : i < a.length := by omega
    obtain ⟨h1, h2⟩ := mulIn_lin (rd a (i : Int)) (bnd_rd ha (by omega) _) b hb i φ b.length 0 s out (by omega) (by omega) hbo (by omega)
    unfold mulOut
    rw [ih (i + 1) (s + 17) (mulIn (rd a (i : Int)) b i out 0 b.length) (by omega) (by rw [mulIn_len]; exact ho) (bnd_mono h2 (by omega)) (by omega), h1, List.drop_zero, List.drop_eq_getElem_cons hi, lin, rd_at hi]
    have e : (fun p => lin (fun j => φ (i + (p + 1) + j)) b) = fun p => lin (fun j => φ (i + 1 + p + j)) b := funext fun p => congrArg (fun ψ => lin ψ b) (funext fun j => congrArg φ (by omega))
    rw [e]
    simp only [Nat.add_zero]
    omega
theorem prodP_lin (a b : List Int) (ha : bnd 1000000 a) (hb : bnd 1000000 b) (hla : a.length ≤ 1000) (hlb : b.length ≤ 17) (φ : Nat → Int) : lin φ (prodP a b) = lin (fun p => lin (fun j => φ (p + j)) b) a := by
  unfold prodP
  rw [lin_cut φ _ _ rfl, mulOut_lin a b ha hb hlb φ a.length 0 0 _ (by omega) (by rw [List.length_replicate]; omega) (bnd_zeros _ (by omega) _) (by omega), lin_zeros, List.drop_zero]
  simp only [Nat.zero_add]
  omega
/-- The power of x. -/
def mono (e : Nat) : List Int := List.replicate e 0 ++ [1]
theorem lin_mono (e : Nat) (φ : Nat → Int) : lin φ (mono e) = φ e := by
  unfold mono
  rw [lin_app, lin_zeros, List.length_replicate]
  simp [lin]
theorem mono_len (e : Nat) : (mono e).length = e + 1 := by simp [mono]
theorem mono_cut (e : Nat) : cutB (mono e) = mono e := cutB_ne _ (by decide)
theorem bnd_mono1 (e : Nat) : bnd 1000000 (mono e) := fun x hx => by
  unfold mono at hx
  rcases List.mem_append.1 hx with h | h
  · obtain ⟨_, rfl⟩ := List.mem_replicate.1 h; omega
  · rw [List.mem_singleton] at h; subst h; omega
theorem bnd_app {M : Int} {a b : List Int} (ha : bnd M a) (hb : bnd M b) : bnd M (a ++ b) := fun x hx => by
  rcases List.mem_append.1 hx with h | h
  · exact ha x h
  · exact hb x h
theorem shiftP (l : List Int) (e : Nat) (hl : bnd 1000000 l) (hll : l.length ≤ 17) (he : e ≤ 16) : prodP (cutB l) (mono e) = cutB (List.replicate e 0 ++ l) := by
  rw [← prodP_cutt]
  refine cut_ext fun φ => ?_
  have := cutB_len l
  rw [prodP_lin _ _ (bnd_cut hl) (bnd_mono1 e) (by omega) (by rw [mono_len]; omega), lin_cut _ _ _ rfl, lin_app, lin_zeros, List.length_replicate]
  simp only [lin_mono]
  have e1 : (fun p => φ (p + e)) = fun i => φ (e + i) := funext fun i => congrArg φ (by omega)
  rw [e1]; omega
theorem scaleP (e : Nat) (n : Int) (hn : -1000000 ≤ n ∧ n ≤ 1000000) (he : e ≤ 16) : prodP (mono e) [n] = cutB (List.replicate e 0 ++ [n]) := by
  rw [← prodP_cutt]
  refine cut_ext fun φ => ?_
  rw [prodP_lin _ _ (bnd_mono1 e) (fun x hx => by rw [List.mem_singleton] at hx; subst hx; exact hn) (by rw [mono_len]; omega) (by simp), lin_mono, lin_app, lin_zeros, List.length_replicate]
  simp [lin]
theorem monoP (a b : Nat) (ha : a ≤ 16) (hb : b ≤ 16) : prodP (mono a) (mono b) = mono (a + b) := by
  rw [← prodP_cutt, ← mono_cut (a + b)]
  refine cut_ext fun φ => ?_
  rw [prodP_lin _ _ (bnd_mono1 a) (bnd_mono1 b) (by rw [mono_len]; omega) (by rw [mono_len]; omega)]
  simp only [lin_mono]
/-- Two pieces, the second one shifted, are one. -/
theorem joinP (g l : List Int) (hg : bnd 1000000 g) (hl : bnd 1000000 l) (hlen : g.length + l.length ≤ 1000) : sumP (cutB g) (cutB (List.replicate g.length 0 ++ l)) = cutB (g ++ l) := by
  rw [← sumP_cut]
  refine cut_ext fun φ => ?_
  have h1 := cutB_len g
  have h2 := cutB_len (List.replicate g.length 0 ++ l)
  rw [List.length_append, List.length_replicate] at h2
  rw [sumP_lin _ _ (bnd_mono (bnd_cut hg) (by omega)) (bnd_mono (bnd_cut (bnd_app (bnd_zeros _ (by omega) _) hl)) (by omega)) (by omega) (by omega), lin_cut _ _ _ rfl, lin_cut _ _ _ rfl, lin_app, lin_app, lin_zeros, List.length_replicate]
  omega
theorem joinP' (g l : List Int) (hg : bnd 1000000 g) (hl : bnd 1000000 l) (hlen : g.length + l.length ≤ 1000) : sumP (cutB (List.replicate g.length 0 ++ l)) (cutB g) = cutB (g ++ l) := by
  rw [← sumP_cut]
  refine cut_ext fun φ => ?_
  have h1 := cutB_len g
  have h2 := cutB_len (List.replicate g.length 0 ++ l)
  rw [List.length_append, List.length_replicate] at h2
  rw [sumP_lin _ _ (bnd_mono (bnd_cut (bnd_app (bnd_zeros _ (by omega) _) hl)) (by omega)) (bnd_mono (bnd_cut hg) (by omega)) (by omega) (by omega), lin_cut _ _ _ rfl, lin_cut _ _ _ rfl, lin_app, lin_app, lin_zeros, List.length_replicate]
  omega
theorem polyB_of {l : List Int} (h : bnd 1000000 l) (hl : l.length ≤ 17) : polyB (cutB l) = true := by
  have := cutB_len l
  unfold polyB
  rw [Bool.and_eq_true]
  refine ⟨decide_eq_true (by omega), ?_⟩
  rw [List.all_eq_true]
  intro x hx
  have := bnd_cut h x hx
  simp
  omega
/-! Codes that are made op by op, with the polynomials of their values. -/
theorem polysB_app : ∀ (a b : List S109) (P : List (List Int)), polysB (a ++ b) P = (polysB a P).bind fun Q => polysB b Q
  | [], b, P => by simp [polysB]
  | o :: r, b, P => by
    rw [List.cons_append, polysB, polysB]
    by_cases h : opB o ((P.length : Int) - 1) = true
    · rw [if_pos h, if_pos h]
      by_cases h2 : polyB (nextP o P) = true
      · rw [if_pos h2, if_pos h2, polysB_app r b]
      · rw [if_neg h2, if_neg h2]; rfl
    · rw [if_neg h, if_neg h]; rfl
/-- What ops have made. -/
def Made (os : List S109) (P : List (List Int)) : Prop := polysB os [[0, 1]] = some P ∧ P.length = os.length + 1
theorem made_start : Made [] [[0, 1]] := ⟨rfl, rfl⟩
theorem made_put {os : List S109} {P : List (List Int)} (h : Made os P) (o : S109) (q : List Int) (ho : opB o (os.length : Int) = true) (hq : nextP o P = q) (hs : polyB q = true) : Made (os ++ [o]) (P ++ [q]) := by
  obtain ⟨h1, h2⟩ := h
  refine ⟨?_, by rw [List.length_append, List.length_append, h2]; rfl⟩
  rw [polysB_app, h1]
  show polysB [o] P = _
  rw [polysB, show (P.length : Int) - 1 = (os.length : Int) by omega, if_pos ho, hq, if_pos hs]
  rfl
theorem rdLL_some {P : List (List Int)} {i : Nat} {q : List Int} (h : P[i]? = some q) : rdLL P (i : Int) = q := by
  unfold rdLL
  rw [Int.toNat_natCast, List.getD_eq_getElem?_getD, h]; rfl
theorem some_lt {P : List (List Int)} {i : Nat} {q : List Int} (h : P[i]? = some q) : i < P.length := (List.getElem?_eq_some_iff.1 h).1
theorem coefB_of {n : Int} (h : -1000000 ≤ n ∧ n ≤ 1000000) : coefB n = true := by unfold coefB; simp; omega
theorem made_const {os : List S109} {P : List (List Int)} (h : Made os P) (n : Int) (hn : -1000000 ≤ n ∧ n ≤ 1000000) : Made (os ++ [⟨0, n, 0⟩]) (P ++ [cutB [n]]) :=
  made_put h _ _ (by unfold opB; simp [coefB_of hn]) (by unfold nextP; rfl) (polyB_of (fun x hx => by rw [List.mem_singleton] at hx; subst hx; exact hn) (by simp))
theorem made_sum {os : List S109} {P : List (List Int)} (h : Made os P) (i j : Nat) {a b q : List Int} (hi : P[i]? = some a) (hj : P[j]? = some b) (hq : sumP a b = q) (hs : polyB q = true) : Made (os ++ [⟨1, (i : Int), (j : Int)⟩]) (P ++ [q]) := by
  have h1 := some_lt hi
  have h2 := some_lt hj
  have h3 := h.2
  refine made_put h _ q ?_ ?_ hs
  · have e1 : inB (i : Int) 0 (os.length : Int) = true := inB_iff.2 (by omega)
    have e2 : inB (j : Int) 0 (os.length : Int) = true := inB_iff.2 (by omega)
    unfold opB
    simp [e1, e2]
  · unfold nextP
    rw [if_neg (show ¬ (1 : Int) = 0 by decide), if_pos (show (1 : Int) = 1 from rfl)]
    dsimp only
    rw [rdLL_some hi, rdLL_some hj, hq]
theorem made_scale {os : List S109} {P : List (List Int)} (h : Made os P) (i : Nat) (n : Int) {a q : List Int} (hi : P[i]? = some a) (hn : -1000000 ≤ n ∧ n ≤ 1000000) (hq : prodP a [n] = q) (hs : polyB q = true) : Made (os ++ [⟨2, (i : Int), n⟩]) (P ++ [q]) := by
  have h1 := some_lt hi
  have h3 := h.2
  refine made_put h _ q ?_ ?_ hs
  · have e1 : inB (i : Int) 0 (os.length : Int) = true := inB_iff.2 (by omega)
    unfold opB
    simp [e1, coefB_of hn]
  · unfold nextP
    rw [if_neg (show ¬ (2 : Int) = 0 by decide), if_neg (show ¬ (2 : Int) = 1 by decide), if_pos (show (2 : Int) = 2 from rfl)]
    dsimp only
    rw [rdLL_some hi, hq]
theorem made_prod {os : List S109} {P : List (List Int)} (h : Made os P) (i j : Nat) {a b q : List Int} (hi : P[i]? = some a) (hj : P[j]? = some b) (hq : prodP a b = q) (hs : polyB q = true) : Made (os ++ [⟨3, (i : Int), (j : Int)⟩]) (P ++ [q]) := by
  have h1 := some_lt hi
  have h2 := some_lt hj
  have h3 := h.2
  refine made_put h _ q ?_ ?_ hs
  · have e1 : inB (i : Int) 0 (os.length : Int) = true := inB_iff.2 (by omega)
    have e2 : inB (j : Int) 0 (os.length : Int) = true := inB_iff.2 (by omega)
    unfold opB
    simp [e1, e2]
  · unfold nextP
    rw [if_neg (show ¬ (3 : Int) = 0 by decide), if_neg (show ¬ (3 : Int) = 1 by decide), if_neg (show ¬ (3 : Int) = 2 by decide)]
    dsimp only
    rw [rdLL_some hi, rdLL_some hj, hq]
theorem at_old {P T : List (List Int)} {i : Nat} {q : List Int} (h : P[i]? = some q) : (P ++ T)[i]? = some q := by
  rw [List.getElem?_append_left (some_lt h)]; exact h
theorem at_new (P : List (List Int)) (q : List Int) {n : Nat} (h : P.length = n) : (P ++ [q])[n]? = some q := by subst h; simp
theorem bnd_cons {M x : Int} {l : List Int} (hx : -M ≤ x ∧ x ≤ M) (h : bnd M l) : bnd M (x :: l) := fun y hy => by
  rcases List.mem_cons.1 hy with h1 | h1
  · subst h1; exact hx
  · exact h y h1
theorem bnd_one {M x : Int} (hx : -M ≤ x ∧ x ≤ M) : bnd M [x] := bnd_cons hx (fun _ h => by simp at h)
/-! Horner's rule -/
theorem horner_step {os : List S109} {P : List (List Int)} {cs : List Int} (n : Int) (h : Made os P) (h0 : P[0]? = some [0, 1]) (hat : P[os.length]? = some (cutB cs)) (hn : -1000000 ≤ n ∧ n ≤ 1000000) (hb : bnd 1000000 cs) (hl : cs.length ≤ 16) :
    ∃ P', Made (hcStep (os, (os.length : Int)) n).1 P' ∧ P'[0]? = some [0, 1] ∧ (hcStep (os, (os.length : Int)) n).2 = ((hcStep (os, (os.length : Int)) n).1.length : Int) ∧ P'[(hcStep (os, (os.length : Int)) n).1.length]? = some (cutB (n :: cs)) := by
  have hz : bnd 1000000 (List.replicate 1 0 ++ cs) := bnd_app (bnd_zeros _ (by omega) _) hb
  have m1 := made_prod h os.length 0 hat h0 (shiftP cs 1 hb (by omega) (by omega)) (polyB_of hz (by rw [List.length_append]; simp; omega))
  have m2 := made_const m1 n hn
  have hP := h.2
  have a1 : (P ++ [cutB (List.replicate 1 0 ++ cs)] ++ [cutB [n]])[os.length + 1]? = some (cutB (List.replicate 1 0 ++ cs)) := at_old (at_new P _ hP)
  have a2 : (P ++ [cutB (List.replicate 1 0 ++ cs)] ++ [cutB [n]])[os.length + 2]? = some (cutB [n]) := at_new _ _ (by rw [List.length_append, hP]; rfl)
  have m3 := made_sum m2 (os.length + 1) (os.length + 2) a1 a2 (joinP' [n] cs (bnd_one hn) hb (by simp; omega)) (polyB_of (bnd_cons hn hb) (by simp; omega))
  refine ⟨_, m3, at_old (at_old (at_old h0)), ?_, ?_⟩
  · simp [hcStep]
  · have e : (hcStep (os, (os.length : Int)) n).1.length = os.length + 3 := by simp [hcStep]
    rw [e]
    exact at_new _ _ (by rw [List.length_append, List.length_append, hP]; rfl)
theorem horner_all : ∀ (ds : List Int) (os : List S109) (P : List (List Int)) (cs : List Int), Made os P → P[0]? = some [0, 1] → P[os.length]? = some (cutB cs) → bnd 1000000 ds → bnd 1000000 cs → ds.length + cs.length ≤ 17 →
    ∃ P', Made (ds.foldl hcStep (os, (os.length : Int))).1 P' ∧ P'[0]? = some [0, 1] ∧ (ds.foldl hcStep (os, (os.length : Int))).2 = ((ds.foldl hcStep (os, (os.length : Int))).1.length : Int) ∧ P'[(ds.foldl hcStep (os, (os.length : Int))).1.length]? = some (cutB (ds.reverse ++ cs)) ∧ (ds.foldl hcStep (os, (os.length : Int))).1.length = os.length + 3 * ds.length
  | [], os, P, cs, h, h0, hat, _, _, _ => ⟨P, h, h0, rfl, hat, rfl⟩
  | n :: ds, os, P, cs, h, h0, hat, hd, hc, hl => by
    rw [List.length_cons] at hl
    obtain ⟨P1, k1, k2, k3, k4⟩ := horner_step n h h0 hat (hd n (List.mem_cons_self ..)) hc (by omega)
    have hlen : (hcStep (os, (os.length : Int)) n).1.length = os.length + 3 := by simp [hcStep]
    rcases hs : hcStep (os, (os.length : Int)) n with ⟨s1, s2⟩
    rw [hs] at k1 k3 k4 hlen
    dsimp only at k1 k3 k4 hlen
    subst k3
    obtain ⟨P2, j1, j2, j3, j4, j5⟩ := horner_all ds s1 P1 (n :: cs) k1 k2 k4 (fun x hx => hd x (List.mem_cons_of_mem _ hx)) (bnd_cons (hd n (List.mem_cons_self ..)) hc) (by rw [List.length_cons]; omega)
    rw [List.foldl_cons, hs, List.reverse_cons, List.append_assoc]
    exact ⟨P2, j1, j2, j3, j4, by rw [j5, List.length_cons]; omega⟩
theorem polyB_bnd {l : List Int} (h : polyB l = true) : bnd 1000000 l ∧ l.length ≤ 17 := by
  refine ⟨?_, polyB_len h⟩
  unfold polyB at h
  rw [Bool.and_eq_true, List.all_eq_true] at h
  intro x hx
  have := h.2 x hx
  simp at this
  exact this
theorem take_last {l : List Int} (h : 1 ≤ l.length) : l.take (l.length - 1) ++ [rd l ((l.length : Int) - 1)] = l := by
  have e : (l.length : Int) - 1 = ((l.length - 1 : Nat) : Int) := by omega
  rw [e, rd_at (by omega), ← List.take_succ_eq_append_getElem (by omega), Nat.sub_add_cancel h, List.take_length]
/-- Horner's code: its ops are as many as told, and its polynomial is that of the coefficients. -/
theorem horner_made {l : List Int} (h1 : 1 ≤ l.length) (hp : polyB l = true) : ∃ P, Made (hcAll l).1 P ∧ (hcAll l).2 = ((hcAll l).1.length : Int) ∧ P[(hcAll l).1.length]? = some (cutB l) ∧ (hcAll l).1.length = 1 + 3 * (l.length - 1) := by
  obtain ⟨hb, hl⟩ := polyB_bnd hp
  have hx := bnd_rd hb (by omega) ((l.length : Int) - 1)
  have m0 := made_const made_start (rd l ((l.length : Int) - 1)) hx
  obtain ⟨P, k1, _, k3, k4, k5⟩ := horner_all (l.take (l.length - 1)).reverse [⟨0, rd l ((l.length : Int) - 1), 0⟩] [[0, 1], cutB [rd l ((l.length : Int) - 1)]] [rd l ((l.length : Int) - 1)] m0 rfl rfl (fun x hx => hb x (List.mem_of_mem_take (List.mem_reverse.1 hx))) (bnd_one hx) (by rw [List.length_reverse, List.length_take]; simp; omega)
  rw [List.reverse_reverse, take_last h1] at k4
  refine ⟨P, k1, k3, k4, ?_⟩
  rw [List.length_reverse, List.length_take] at k5
  refine k5.trans ?_
  simp
theorem codeB_made {os : List S109} {P : List (List Int)} (h : Made os P) (hl : os.length ≤ 120) {out : Int} (h0 : 0 ≤ out) (h1 : out ≤ (os.length : Int)) : codeB os out = true := by
  unfold codeB
  rw [decide_eq_true hl, inB_iff.2 ⟨h0, h1⟩, h.1]; rfl
/-! Powers, groups and giant steps, with their polynomials. -/
def monos (n : Nat) : List (List Int) := (List.range (n + 1)).map fun i => mono (i + 1)
theorem monos_succ (n : Nat) : monos (n + 1) = monos n ++ [mono (n + 2)] := by simp [monos, List.range_succ]
theorem monos_at {n e : Nat} (h1 : 1 ≤ e) (h : e ≤ n + 1) : (monos n)[e - 1]? = some (mono e) := by
  unfold monos
  rw [List.getElem?_map, List.getElem?_range (by omega)]
  show some (mono (e - 1 + 1)) = _
  rw [Nat.sub_add_cancel h1]
theorem polyB_mono {e : Nat} (h : e ≤ 16) : polyB (mono e) = true := by
  have := polyB_of (bnd_mono1 e) (by rw [mono_len]; omega)
  rw [mono_cut] at this
  exact this
theorem powers_made : ∀ n, n ≤ 15 → Made (gcPops n) (monos n)
  | 0, _ => made_start
  | n + 1, h => by
    have ih := powers_made n (by omega)
    rw [gcPops_succ, monos_succ]
    exact made_prod ih n 0 (monos_at (e := n + 1) (by omega) (by omega)) (monos_at (e := 1) (by omega) (by omega)) (monoP (n + 1) 1 (by omega) (by omega)) (polyB_mono (by omega))
theorem bnd_tail {M x : Int} {l : List Int} (h : bnd M (x :: l)) : bnd M l := fun y hy => h y (List.mem_cons_of_mem _ hy)
theorem bnd_head {M x : Int} {l : List Int} (h : bnd M (x :: l)) : -M ≤ x ∧ x ≤ M := h x (List.mem_cons_self ..)
theorem grp_made (n : Nat) : ∀ (r : List Int) (i : Nat) (os : List S109) (P : List (List Int)) (cs : List Int), Made os P → (∀ e, 1 ≤ e → e ≤ i + r.length → P[e - 1]? = some (mono e)) → P[os.length]? = some (cutB cs) → cs.length = i + 1 → bnd 1000000 cs → bnd 1000000 r → i + 1 + r.length ≤ 17 → i + r.length ≤ n + 1 →
    ∃ T, Made (gcGrp (gcPw n) r i os (os.length : Int)).1 (P ++ T) ∧ (gcGrp (gcPw n) r i os (os.length : Int)).2 = ((gcGrp (gcPw n) r i os (os.length : Int)).1.length : Int) ∧ (P ++ T)[(gcGrp (gcPw n) r i os (os.length : Int)).1.length]? = some (cutB (cs ++ r))
  | [], i, os, P, cs, h, _, hat, _, _, _, _, _ => ⟨[], by rw [List.append_nil]; exact h, rfl, by rw [List.append_nil, List.append_nil]; exact hat⟩
  | x :: r, i, os, P, cs, h, hm, hat, hcl, hcb, hrb, hl, hn => by
    rw [List.length_cons] at hl hn hm
    have hx := bnd_head hrb
    have hP := h.2
    have e1 : rd (gcPw n) ((i : Int) + 1) = (i : Int) := gcPw_at n i (by omega)
    have mi : P[i]? = some (mono (i + 1)) := hm (i + 1) (by omega) (by omega)
    have hb1 : bnd 1000000 (List.replicate (i + 1) 0 ++ [x]) := bnd_app (bnd_zeros _ (by omega) _) (bnd_one hx)
    have m1 := made_scale h i x mi hx (scaleP (i + 1) x hx (by omega)) (polyB_of hb1 (by simp; omega))
    have a1 : (P ++ [cutB (List.replicate (i + 1) 0 ++ [x])])[os.length]? = some (cutB cs) := at_old hat
    have a2 : (P ++ [cutB (List.replicate (i + 1) 0 ++ [x])])[os.length + 1]? = some (cutB (List.replicate (i + 1) 0 ++ [x])) := at_new _ _ hP
    have hj := joinP cs [x] hcb (bnd_one hx) (by simp; omega)
    rw [hcl] at hj
    have m2 := made_sum m1 os.length (os.length + 1) a1 a2 hj (polyB_of (bnd_app hcb (bnd_one hx)) (by rw [List.length_append]; simp; omega))
    have hlen : (os ++ [(⟨2, (i : Int), x⟩ : S109)] ++ [(⟨1, (os.length : Int), ((os.length + 1 : Nat) : Int)⟩ : S109)]).length = os.length + 2 := by simp
    have a3 : (P ++ [cutB (List.replicate (i + 1) 0 ++ [x])] ++ [cutB (cs ++ [x])])[os.length + 2]? = some (cutB (cs ++ [x])) := at_new _ _ (by rw [List.length_append, hP]; rfl)
    obtain ⟨T, k1, k2, k3⟩ := grp_made n r (i + 1) (os ++ [⟨2, (i : Int), x⟩] ++ [⟨1, (os.length : Int), ((os.length + 1 : Nat) : Int)⟩]) _ (cs ++ [x]) m2 (fun e h1 h2 => at_old (at_old (hm e h1 (by omega)))) (by rw [hlen]; exact a3) (by rw [List.length_append, hcl]; rfl) (bnd_app hcb (bnd_one hx)) (bnd_tail hrb) (by omega) (by omega)
    have e2 : gcGrp (gcPw n) (x :: r) i os (os.length : Int) = gcGrp (gcPw n) r (i + 1) (os ++ [⟨2, (i : Int), x⟩] ++ [⟨1, (os.length : Int), ((os.length + 1 : Nat) : Int)⟩]) ((os ++ [(⟨2, (i : Int), x⟩ : S109)] ++ [(⟨1, (os.length : Int), ((os.length + 1 : Nat) : Int)⟩ : S109)]).length : Int) := by
      rw [gcGrp, e1, hlen]; rfl
    rw [e2]
    refine ⟨[cutB (List.replicate (i + 1) 0 ++ [x])] ++ [cutB (cs ++ [x])] ++ T, ?_, k2, ?_⟩
    · rw [← List.append_assoc, ← List.append_assoc]; exact k1
    · rw [← List.append_assoc, ← List.append_assoc, k3, List.append_assoc]; rfl
theorem group_made (n : Nat) {os : List S109} {P : List (List Int)} (c0 : Int) (r : List Int) (h : Made os P) (hm : ∀ e, 1 ≤ e → e ≤ r.length → P[e - 1]? = some (mono e)) (hb : bnd 1000000 (c0 :: r)) (hl : r.length ≤ 16) (hn : r.length ≤ n + 1) :
    ∃ T, Made (gcGroup (gcPw n) c0 r os).1 (P ++ T) ∧ (gcGroup (gcPw n) c0 r os).2 = ((gcGroup (gcPw n) c0 r os).1.length : Int) ∧ (P ++ T)[(gcGroup (gcPw n) c0 r os).1.length]? = some (cutB (c0 :: r)) := by
  have m1 := made_const h c0 (bnd_head hb)
  have hlen : (os ++ [(⟨0, c0, 0⟩ : S109)]).length = os.length + 1 := by simp
  obtain ⟨T, k1, k2, k3⟩ := grp_made n r 0 (os ++ [⟨0, c0, 0⟩]) (P ++ [cutB [c0]]) [c0] m1 (fun e h1 h2 => at_old (hm e h1 (by omega))) (by rw [hlen]; exact at_new _ _ h.2) rfl (bnd_one (bnd_head hb)) (bnd_tail hb) (by omega) (by omega)
  have e : gcGroup (gcPw n) c0 r os = gcGrp (gcPw n) r 0 (os ++ [⟨0, c0, 0⟩]) ((os ++ [(⟨0, c0, 0⟩ : S109)]).length : Int) := by rw [hlen]; rfl
  rw [e]
  exact ⟨[cutB [c0]] ++ T, by rw [← List.append_assoc]; exact k1, k2, by rw [← List.append_assoc]; exact k3⟩
theorem bnd_drop {M : Int} {l : List Int} (h : bnd M l) (n : Nat) : bnd M (l.drop n) := fun x hx => h x (List.mem_of_mem_drop hx)
theorem bnd_take {M : Int} {l : List Int} (h : bnd M l) (n : Nat) : bnd M (l.take n) := fun x hx => h x (List.mem_of_mem_take hx)
theorem giant_made_pos (l : List Int) (kk n : Nat) (hb : bnd 1000000 l) (hl : l.length ≤ 17) (hk1 : 1 ≤ kk) (hkn : kk ≤ n + 1) : ∀ (j : Nat) (os : List S109) (P : List (List Int)), Made os P → (∀ e, 1 ≤ e → e ≤ n + 1 → P[e - 1]? = some (mono e)) → P[os.length]? = some (cutB (l.drop (j * kk))) → j * kk < l.length →
    ∃ P', Made (gcGiant l kk (gcPw n) j os (os.length : Int)).1 P' ∧ P'[(gcGiant l kk (gcPw n) j os (os.length : Int)).1.length]? = some (cutB l)
  | 0, os, P, h, _, hat, _ => ⟨P, h, by rw [Nat.zero_mul, List.drop_zero] at hat; exact hat⟩
  | j + 1, os, P, h, hm, hat, hj => by
    have hmul : (j + 1) * kk = j * kk + kk := by rw [Nat.add_mul, Nat.one_mul]
    obtain ⟨f, hf⟩ : ∃ f, j * kk = f := ⟨_, rfl⟩
    rw [hmul, hf] at hat hj
    obtain ⟨c0, r, hcs, hrl⟩ := cut_cons (l := l) (f := f) (k := kk) (by omega) hk1
    have hrk : r.length + 1 = kk := by rw [hrl]; omega
    have hP := h.2
    have hcb : bnd 1000000 (c0 :: r) := by rw [← hcs]; exact bnd_take (bnd_drop hb _) _
    have hdb : bnd 1000000 (l.drop (f + kk)) := bnd_drop hb _
    have hdl : (l.drop (f + kk)).length = l.length - (f + kk) := List.length_drop
    have e1 : rd (gcPw n) (kk : Int) = ((kk - 1 : Nat) : Int) := by
      have := gcPw_at n (kk - 1) (by omega)
      rw [Nat.sub_add_cancel hk1] at this
      exact this
    have hzb : bnd 1000000 (List.replicate kk 0 ++ l.drop (f + kk)) := bnd_app (bnd_zeros _ (by omega) _) hdb
    have m1 := made_prod h os.length (kk - 1) hat (hm kk hk1 hkn) (shiftP _ kk hdb (by omega) (by omega)) (polyB_of hzb (by rw [List.length_append, List.length_replicate]; omega))
    have hlen : (os ++ [(⟨3, (os.length : Int), ((kk - 1 : Nat) : Int)⟩ : S109)]).length = os.length + 1 := by simp
    obtain ⟨T, k1, k2, k3⟩ := group_made n c0 r m1 (fun e h1 h2 => at_old (hm e h1 (by omega))) hcb (by omega) (by omega)
    obtain ⟨g, hg⟩ : ∃ g, gcGroup (gcPw n) c0 r (os ++ [⟨3, (os.length : Int), ((kk - 1 : Nat) : Int)⟩]) = g := ⟨_, rfl⟩
    rw [hg] at k1 k2 k3
    have a1 : (P ++ [cutB (List.replicate kk 0 ++ l.drop (f + kk))] ++ T)[os.length + 1]? = some (cutB (List.replicate kk 0 ++ l.drop (f + kk))) := at_old (at_new _ _ hP)
    have hjo := joinP' (c0 :: r) (l.drop (f + kk)) hcb hdb (by rw [List.length_cons]; omega)
    rw [List.length_cons, hrk] at hjo
    have e3 : (c0 :: r) ++ l.drop (f + kk) = l.drop f := by rw [← hcs, ← List.drop_drop, List.take_append_drop]
    rw [e3] at hjo
    have m2 := made_sum k1 (os.length + 1) g.1.length a1 k3 hjo (polyB_of (bnd_drop hb _) (by rw [List.length_drop]; omega))
    have e4 : gcGiant l kk (gcPw n) (j + 1) os (os.length : Int) = gcGiant l kk (gcPw n) j (g.1 ++ [⟨1, ((os.length + 1 : Nat) : Int), (g.1.length : Int)⟩]) ((g.1 ++ [(⟨1, ((os.length + 1 : Nat) : Int), (g.1.length : Int)⟩ : S109)]).length : Int) := by
      rw [gcGiant_pos (c0 := c0) (r := r) (by omega) (by rw [hf]; exact hcs), e1, hg, k2, List.length_append]; rfl
    rw [e4]
    refine giant_made_pos l kk n hb hl hk1 hkn j _ _ m2 (fun e h1 h2 => at_old (at_old (at_old (hm e h1 h2)))) ?_ (by omega)
    rw [List.length_append, hf]
    exact at_new _ _ k1.2
theorem giant_made {l : List Int} {kk : Nat} (hp : polyB l = true) (hl1 : 1 ≤ l.length) (hk1 : 1 ≤ kk) : ∃ P, Made (gcOps l kk) P ∧ P[(gcOps l kk).length]? = some (cutB l) := by
  obtain ⟨hb, hl⟩ := polyB_bnd hp
  obtain ⟨n, hn⟩ : ∃ n, gcN l kk = n := ⟨_, rfl⟩
  obtain ⟨J, hJ⟩ : ∃ J, (l.length - 1) / kk = J := ⟨_, rfl⟩
  have hn2 : n = min kk (l.length - 1) - 1 := hn.symm
  have hJk : J * kk ≤ l.length - 1 := by rw [← hJ]; exact Nat.div_mul_le_self _ _
  have hJ2 : l.length - 1 < J * kk + kk := by
    have := Nat.lt_div_mul_add (a := l.length - 1) (b := kk) (by omega)
    rw [hJ] at this
    exact this
  obtain ⟨f, hf⟩ : ∃ f, J * kk = f := ⟨_, rfl⟩
  obtain ⟨c0, r, hcs, hrl⟩ := cut_cons (l := l) (f := f) (k := kk) (by omega) hk1
  have hcb : bnd 1000000 (c0 :: r) := by rw [← hcs]; exact bnd_take (bnd_drop hb _) _
  have hd : c0 :: r = l.drop f := by rw [← hcs]; exact List.take_of_length_le (by rw [List.length_drop]; omega)
  have hm := powers_made n (by omega)
  obtain ⟨T, k1, k2, k3⟩ := group_made n c0 r hm (fun e h1 h2 => monos_at h1 (by omega)) hcb (by omega) (by omega)
  have e1 : gcOps l kk = (gcGiant l kk (gcPw n) J (gcGroup (gcPw n) c0 r (gcPops n)).1 ((gcGroup (gcPw n) c0 r (gcPops n)).1.length : Int)).1 := by
    unfold gcOps
    rw [hn, hJ, gcGiant_neg (c0 := c0) (r := r) (by decide) (by rw [hf]; exact hcs), k2]
  rw [e1]
  have hat : (monos n ++ T)[(gcGroup (gcPw n) c0 r (gcPops n)).1.length]? = some (cutB (l.drop (J * kk))) := by rw [hf, ← hd]; exact k3
  by_cases hJ0 : J = 0
  · subst hJ0
    rw [Nat.zero_mul, List.drop_zero] at hat
    exact ⟨_, k1, hat⟩
  · have : kk ≤ J * kk := Nat.le_mul_of_pos_left kk (by omega)
    exact giant_made_pos l kk n hb hl hk1 (by omega) J _ _ k1 (fun e h1 h2 => at_old (monos_at h1 h2)) hat (by omega)
/-- The code by powers. -/
theorem powers_code {l : List Int} (hp : polyB l = true) (hl1 : 1 ≤ l.length) : ∃ P, Made (pcGroup l).1 P ∧ (pcGroup l).2 = ((pcGroup l).1.length : Int) ∧ P[(pcGroup l).1.length]? = some (cutB l) ∧ (pcGroup l).1.length = (l.length - 2) + 1 + 2 * (l.length - 1) := by
  obtain ⟨hb, hl⟩ := polyB_bnd hp
  cases l with
  | nil => simp at hl1
  | cons c0 r =>
    rw [List.length_cons] at hl hl1
    have hm := powers_made ((c0 :: r).length - 2) (by rw [List.length_cons]; omega)
    obtain ⟨T, k1, k2, k3⟩ := group_made ((c0 :: r).length - 2) c0 r hm (fun e h1 h2 => monos_at h1 (by rw [List.length_cons]; omega)) hb (by omega) (by rw [List.length_cons]; omega)
    refine ⟨_, k1, k2, k3, ?_⟩
    unfold pcGroup
    rw [gcGroup_length, gcPops_length]; rfl
/-! How many products -/
theorem gpCount_app : ∀ a b : List S109, gpCount (a ++ b) = gpCount a + gpCount b
  | [], b => by simp [gpCount]
  | o :: a, b => by rw [List.cons_append, gpCount, gpCount, gpCount_app a b]; omega
theorem gpCount_one (o : S109) : gpCount [o] = if o.f0 = 3 then 1 else 0 := by simp [gpCount]
theorem gcGrp_count (pw : List Int) : ∀ (r : List Int) (i : Nat) (os : List S109) (a : Int), gpCount (gcGrp pw r i os a).1 = gpCount os ∧ (0 ≤ a → 0 ≤ (gcGrp pw r i os a).2)
  | [], _, _, _ => ⟨rfl, fun h => h⟩
  | x :: r, i, os, a => by
    obtain ⟨h1, h2⟩ := gcGrp_count pw r (i + 1) (os ++ [⟨2, rd pw ((i : Int) + 1), x⟩] ++ [⟨1, a, (os.length : Int) + 1⟩]) ((os.length : Int) + 1 + 1)
    rw [gcGrp, h1, gpCount_app, gpCount_app, gpCount_one, gpCount_one]
    refine ⟨by simp, fun _ => h2 (by omega)⟩
theorem gcGroup_count (pw : List Int) (c0 : Int) (r : List Int) (os : List S109) : gpCount (gcGroup pw c0 r os).1 = gpCount os ∧ 0 ≤ (gcGroup pw c0 r os).2 := by
  obtain ⟨h1, h2⟩ := gcGrp_count pw r 0 (os ++ [⟨0, c0, 0⟩]) ((os.length : Int) + 1)
  unfold gcGroup
  rw [h1, gpCount_app, gpCount_one]
  exact ⟨by simp, h2 (by omega)⟩
theorem gcGiant_count (l : List Int) (k : Nat) (pw : List Int) : ∀ (j : Nat) (os : List S109) (a : Int), gpCount (gcGiant l k pw j os a).1 = gpCount os + (if 0 ≤ a then (j : Int) else ((j - 1 : Nat) : Int))
  | 0, os, a => by simp [gcGiant]
  | j + 1, os, a => by
    rw [gcGiant]
    by_cases h : 0 ≤ a
    · simp only [if_pos h]
      obtain ⟨h1, h2⟩ := gcGroup_count pw (((l.drop (j * k)).take k).headD 0) ((l.drop (j * k)).take k).tail (os ++ [⟨3, a, rd pw (k : Int)⟩])
      rw [if_pos (show (0 : Int) ≤ (os.length : Int) + 1 by omega), gcGiant_count l k pw j, gpCount_app, h1, gpCount_app, gpCount_one, gpCount_one, if_pos (show (0 : Int) ≤ _ by omega)]
      simp
      omega
    · simp only [if_neg h]
      obtain ⟨h1, h2⟩ := gcGroup_count pw (((l.drop (j * k)).take k).headD 0) ((l.drop (j * k)).take k).tail os
      rw [gcGiant_count l k pw j, h1, if_pos h2]
      simp
theorem gcPops_count : ∀ n, gpCount (gcPops n) = (n : Int)
  | 0 => rfl
  | n + 1 => by rw [gcPops_succ, gpCount_app, gcPops_count n, gpCount_one]; simp
/-- How many products the code by groups has, of so many coefficients. -/
def gpV (d k : Nat) : Int := ((min k d - 1 + d / k : Nat) : Int)
theorem gcOps_count (l : List Int) (k : Nat) : gpCount (gcOps l k) = gpV (l.length - 1) k := by
  unfold gcOps gpV gcN
  rw [gcGiant_count, gcPops_count, if_neg (by decide)]
  simp
theorem hcStep_count (s : List S109 × Int) (n : Int) : gpCount (hcStep s n).1 = gpCount s.1 + 1 := by
  unfold hcStep
  rw [gpCount_app, gpCount_app, gpCount_app, gpCount_one, gpCount_one, gpCount_one]
  simp
theorem hcAll_count (l : List Int) : gpCount (hcAll l).1 = ((l.length - 1 : Nat) : Int) := by
  have key : ∀ (ds : List Int) (s : List S109 × Int), gpCount (ds.foldl hcStep s).1 = gpCount s.1 + ds.length := by
    intro ds
    induction ds with
    | nil => intro s; simp
    | cons d ds ih => intro s; rw [List.foldl_cons, ih, hcStep_count, List.length_cons]; omega
  unfold hcAll
  rw [key, List.length_reverse, List.length_take, gpCount_one]
  simp
theorem pcGroup_count (l : List Int) : gpCount (pcGroup l).1 = ((l.length - 2 : Nat) : Int) := by
  unfold pcGroup
  rw [(gcGroup_count _ _ _ _).1, gcPops_count]
def coefsB (l : List Int) : Bool := decide (0 < l.length) && polyB l
theorem implCoefs (l : List Int) : impl_coefsOk.f l = some (coefsB l) := by
  unfold coefsB impl_coefsOk.f impl_polynomialOk.f
  by_cases h : 0 < l.length
  · rw [if_pos (by omega), decide_eq_true h]; rfl
  · rw [if_neg (by omega), decide_eq_false h]; rfl
def kB (a : Int) : Bool := decide (1 ≤ a) && decide (a ≤ 17)
theorem implK (a : Int) : impl_giantOk.f a = some (kB a) := by
  unfold impl_giantOk.f kB
  rw [iIn_val]; rfl
theorem specK (a : Int) : spec_l1In.f a 1 17 = some (kB a) := l1In_val a 1 17
/-- What GiantCode answers. -/
def gV (l : List Int) (a : Int) : List S109 × Int × Bool := if coefsB l = true ∧ kB a = true then ifV (gcOps l a.toNat) ((gcOps l a.toNat).length : Int) else ([], 0, false)
theorem giant_val (l : List Int) (kk : Nat) (hl1 : 1 ≤ l.length) (hl2 : l.length ≤ 17) (hk1 : 1 ≤ kk) (hk2 : kk ≤ 17) : Ev (fun k => spec_poGiant.f k l (kk : Int)) (gcOps l kk, ((gcOps l kk).length : Int)) ∧ (gcOps l kk).length ≤ 1000 := by
  obtain ⟨n, hn⟩ : ∃ n, gcN l kk = n := ⟨_, rfl⟩
  obtain ⟨J, hJ⟩ : ∃ J, (l.length - 1) / kk = J := ⟨_, rfl⟩
  have hn2 : n = min kk (l.length - 1) - 1 := hn.symm
  have hJ17 : J ≤ 17 := by rw [← hJ]; exact Nat.le_trans (Nat.div_le_self _ _) (by omega)
  have hJk : J * kk ≤ l.length - 1 := by rw [← hJ]; exact Nat.div_mul_le_self _ _
  have hkn : 1 ≤ J → kk < n + 2 := fun h => by have := Nat.le_mul_of_pos_left kk h; omega
  have hnr : min kk l.length ≤ n + 2 := by omega
  have hloop := giant_loop l kk n J hl1 hl2 hk1 hk2 hJk hkn hnr (J + 1) (gcPops n) (-1) (Nat.le_refl _) (fun h => by omega) (by rw [gcPops_length]; omega)
  have hend := gcGiant_end l kk (gcPw n) hk1 (J + 1) (gcPops n) (-1) (Or.inr (by omega)) (by rw [Nat.add_mul]; omega)
  have hgo : gcOps l kk = (gcGiant l kk (gcPw n) (J + 1) (gcPops n) (-1)).1 := by unfold gcOps; rw [hn, hJ]
  have hb : (J + 1) * (2 * kk + 2) ≤ 18 * 36 := Nat.mul_le_mul (by omega) (by omega)
  rw [gcPops_length] at hend
  refine ⟨?_, by rw [hgo]; omega⟩
  have hq : Int.tdiv ((l.length : Int) - 1) (kk : Int) = (J : Int) := by
    rw [show (l.length : Int) - 1 = ((l.length - 1 : Nat) : Int) by omega, Int.tdiv_eq_ediv_of_nonneg (by omega), ← Int.natCast_ediv, hJ]
  have hF : (J : Int) * (kk : Int) = ((J * kk : Nat) : Int) := by simp
  simp only [spec_poGiant.f, wid (x := (l.length : Int) - 1) (by omega) (by omega), l1Least_val, Option.bind_some, hq, wid (x := (J : Int)) (by omega) (by omega)]
  refine Ev.bind (powers_val _ n (by omega) (by omega)) ?_
  simp only [if_neg (show ¬ (kk : Int) = 0 by omega), wid (x := (J : Int) * (kk : Int)) (by omega) (by omega)]
  rw [show ((J + 1 : Nat) : Int) * (kk : Int) - (kk : Int) = (J : Int) * (kk : Int) by rw [Int.natCast_add, Int.add_mul]; simp] at hloop
  rw [hgo, ← hend.1]
  exact hloop
theorem gImpl (l : List Int) (a : Int) : Ev (fun k => impl_GiantCode.f k l a) (gV l a) := by
  simp only [impl_GiantCode.f, implCoefs, implK, Option.bind_some]
  unfold gV
  by_cases h : coefsB l = true ∧ kB a = true
  · simp only [if_pos h]; exact told_val _ _
  · simp only [if_neg h]; exact Ev.now _
theorem ifV_made {os : List S109} {P : List (List Int)} (h : Made os P) (hl : os.length ≤ 120) : ifV os (os.length : Int) = (os, (os.length : Int), true) := by
  unfold ifV
  rw [if_pos (codeB_made h hl (by omega) (Int.le_refl _))]
theorem giant_len {l : List Int} {kk : Nat} (hl1 : 1 ≤ l.length) (hl2 : l.length ≤ 17) (hk1 : 1 ≤ kk) : (gcOps l kk).length ≤ 120 := by
  obtain ⟨n, hn⟩ : ∃ n, gcN l kk = n := ⟨_, rfl⟩
  obtain ⟨J, hJ⟩ : ∃ J, (l.length - 1) / kk = J := ⟨_, rfl⟩
  have hn2 : n = min kk (l.length - 1) - 1 := hn.symm
  have hJk : J * kk ≤ l.length - 1 := by rw [← hJ]; exact Nat.div_mul_le_self _ _
  have hJ17 : J ≤ 17 := by rw [← hJ]; exact Nat.le_trans (Nat.div_le_self _ _) (by omega)
  have key : ∀ (j : Nat) (os : List S109) (a : Int), j * kk < l.length + kk → (gcGiant l kk (gcPw n) j os a).1.length ≤ os.length + j + 2 * (min (j * kk) l.length) + j := by
    intro j
    induction j with
    | zero => intro os a _; simp [gcGiant]
    | succ j ih =>
      intro os a hj
      have hjk : j * kk < l.length := by rw [Nat.add_mul] at hj; omega
      have hm : (j + 1) * kk = j * kk + kk := by rw [Nat.add_mul, Nat.one_mul]
      obtain ⟨c0, r, hcs, hrm⟩ := cut_cons hjk hk1
      by_cases ha : 0 ≤ a
      · rw [gcGiant_pos ha hcs]
        refine Nat.le_trans (ih _ _ (by omega)) ?_
        rw [List.length_append, List.length_singleton, gcGroup_length, List.length_append, List.length_singleton, hm]
        omega
      · rw [gcGiant_neg ha hcs]
        refine Nat.le_trans (ih _ _ (by omega)) ?_
        rw [gcGroup_length, hm]
        omega
  have h1 := key (J + 1) (gcPops n) (-1) (by rw [Nat.add_mul]; omega)
  unfold gcOps
  rw [hn, hJ]
  rw [gcPops_length] at h1
  omega
/-! CountOps -/
def kindCount (j : Int) : List S109 → Nat
  | [] => 0
  | o :: os => (if o.f0 = j then 1 else 0) + kindCount j os
theorem kindCount_le (j : Int) : ∀ os, kindCount j os ≤ os.length
  | [] => Nat.le_refl _
  | o :: os => by
    have := kindCount_le j os
    rw [kindCount, List.length_cons]
    split <;> omega
theorem kindCount_three : ∀ os : List S109, ((kindCount 3 os : Nat) : Int) = gpCount os
  | [] => rfl
  | o :: os => by
    have := kindCount_three os
    rw [kindCount, gpCount]
    split <;> omega
def kinds (os : List S109) : List Int := [((kindCount 0 os : Nat) : Int), ((kindCount 1 os : Nat) : Int), ((kindCount 2 os : Nat) : Int), ((kindCount 3 os : Nat) : Int)]
theorem polysB_kinds : ∀ (os : List S109) (P : List (List Int)), (polysB os P).isSome = true → ∀ o ∈ os, o.f0 = 0 ∨ o.f0 = 1 ∨ o.f0 = 2 ∨ o.f0 = 3
  | [], _, _ => fun o h => by simp at h
  | o :: os, P, h => by
    rw [polysB] at h
    by_cases h1 : opB o ((P.length : Int) - 1) = true
    · rw [if_pos h1] at h
      by_cases h2 : polyB (nextP o P) = true
      · rw [if_pos h2] at h
        intro x hx
        rcases List.mem_cons.1 hx with e | e
        · subst e; exact opB_f0 h1
        · exact polysB_kinds os _ h x e
      · rw [if_neg h2] at h; cases h
    · rw [if_neg h1] at h; cases h
theorem codeB_parts {os : List S109} {out : Int} (h : codeB os out = true) : os.length ≤ 120 ∧ (0 ≤ out ∧ out ≤ (os.length : Int)) ∧ (polysB os [[0, 1]]).isSome = true := by
  unfold codeB at h
  rw [Bool.and_eq_true, Bool.and_eq_true, inB_iff] at h
  exact ⟨of_decide_eq_true h.1, h.2.1, h.2.2⟩
theorem kinds_step (o : S109) (a : List S109) (ho : o.f0 = 0 ∨ o.f0 = 1 ∨ o.f0 = 2 ∨ o.f0 = 3) (hl : a.length ≤ 1000) : 0 ≤ o.f0 ∧ o.f0 < 4 ∧ (kinds a).set o.f0.toNat (wrap64 (rd (kinds a) o.f0 + 1)) = kinds (a ++ [o]) := by
  have app : ∀ (j : Int) (a : List S109), kindCount j (a ++ [o]) = kindCount j a + (if o.f0 = j then 1 else 0) := by
    intro j a
    induction a with
    | nil => simp [kindCount]
    | cons x a ih => rw [List.cons_append, kindCount, kindCount, ih]; omega
  have h0 := kindCount_le 0 a
  have h1 := kindCount_le 1 a
  have h2 := kindCount_le 2 a
  have h3 := kindCount_le 3 a
  refine ⟨by omega, by omega, ?_⟩
  unfold kinds
  rw [app, app, app, app]
  rcases ho with e | e | e | e
  · rw [e, show rd [((kindCount 0 a : Nat) : Int), ((kindCount 1 a : Nat) : Int), ((kindCount 2 a : Nat) : Int), ((kindCount 3 a : Nat) : Int)] 0 = ((kindCount 0 a : Nat) : Int) from rfl, wid (by omega) (by omega)]; simp
  · rw [e, show rd [((kindCount 0 a : Nat) : Int), ((kindCount 1 a : Nat) : Int), ((kindCount 2 a : Nat) : Int), ((kindCount 3 a : Nat) : Int)] 1 = ((kindCount 1 a : Nat) : Int) from rfl, wid (by omega) (by omega)]; simp
  · rw [e, show rd [((kindCount 0 a : Nat) : Int), ((kindCount 1 a : Nat) : Int), ((kindCount 2 a : Nat) : Int), ((kindCount 3 a : Nat) : Int)] 2 = ((kindCount 2 a : Nat) : Int) from rfl, wid (by omega) (by omega)]; simp
  · rw [e, show rd [((kindCount 0 a : Nat) : Int), ((kindCount 1 a : Nat) : Int), ((kindCount 2 a : Nat) : Int), ((kindCount 3 a : Nat) : Int)] 3 = ((kindCount 3 a : Nat) : Int) from rfl, wid (by omega) (by omega)]; simp
theorem countOps_loop (os : List S109) (hk : ∀ o ∈ os, o.f0 = 0 ∨ o.f0 = 1 ∨ o.f0 = 2 ∨ o.f0 = 3) (hl : os.length ≤ 120) : ∀ (d i : Nat), i + d = os.length → Ev (fun q => impl_CountOps.l0 q (kinds (os.take i)) os (os.length : Int) i) (kinds os, true) := by
  intro d
  induction d with
  | zero =>
    intro i h
    refine up ?_
    simp only [impl_CountOps.l0, if_neg (show ¬ (i : Int) < (os.length : Int) by omega)]
    rw [List.take_of_length_le (by omega)]
    exact Ev.now _
  | succ d ih =>
    intro i h
    have hi : i < os.length := by omega
    obtain ⟨k1, k2, k3⟩ := kinds_step os[i] (os.take i) (hk _ (List.getElem_mem hi)) (by rw [List.length_take]; omega)
    rw [← List.take_succ_eq_append_getElem hi] at k3
    refine up ?_
    simp only [impl_CountOps.l0, if_pos (show (i : Int) < (os.length : Int) by omega), if_pos (show (0 : Int) ≤ (i : Int) by omega), rdOp_at hi, if_pos k1, if_pos (show os[i].f0 < ((kinds (os.take i)).length : Int) from k2), k3, wid (x := (i : Int) + 1) (by omega) (by omega)]
    exact ih (i + 1) (by omega)
theorem countOps_val (os : List S109) (out : Int) : Ev (fun q => impl_CountOps.f q os out) (if codeB os out = true then (kinds os, true) else ([], false)) := by
  simp only [impl_CountOps.f]
  refine Ev.bind (implCode os out) ?_
  cases h : codeB os out with
  | false => simp only [Bool.false_eq_true, if_false]; exact Ev.now _
  | true =>
    obtain ⟨h1, _, h3⟩ := codeB_parts h
    simp only [if_true, if_pos (show (4 : Nat) ≤ 35184372088832 by omega)]
    have := countOps_loop os (polysB_kinds os _ h3) h1 os.length 0 (by omega)
    exact this
/-! CodeDepth -/
/-- How deep the next value lies. -/
def depN (o : S109) (D : List Int) : Int :=
  if o.f0 = 0 then 0 else if o.f0 = 2 then mx 0 (rd D o.f1) else if o.f0 = 3 then mx (mx 0 (rd D o.f1)) (rd D o.f2) + 1 else mx (mx 0 (rd D o.f1)) (rd D o.f2)
def depAll : List S109 → List Int → List Int
  | [], D => D
  | o :: os, D => depAll os (D ++ [depN o D])
theorem depAll_app : ∀ (a b : List S109) (D : List Int), depAll (a ++ b) D = depAll b (depAll a D)
  | [], _, _ => rfl
  | o :: a, b, D => by rw [List.cons_append, depAll, depAll, depAll_app a b]
theorem depAll_len : ∀ (a : List S109) (D : List Int), (depAll a D).length = D.length + a.length
  | [], _ => rfl
  | o :: a, D => by rw [depAll, depAll_len a, List.length_append, List.length_cons]; simp; omega
/-- What lies within: not less than 0, not greater than how many there are. -/
def depOk (D : List Int) : Prop := ∀ x ∈ D, 0 ≤ x ∧ x < (D.length : Int)
theorem depOk_rd {D : List Int} (h : depOk D) (h1 : 1 ≤ D.length) (i : Int) : 0 ≤ rd D i ∧ rd D i < (D.length : Int) := by
  unfold rd
  rw [List.getD_eq_getElem?_getD]
  by_cases hi : i.toNat < D.length
  · rw [List.getElem?_eq_getElem hi]; exact h _ (List.getElem_mem hi)
  · rw [List.getElem?_eq_none (by omega)]; simp only [Option.getD_none]; omega
theorem mx_eq (a b : Int) : mx a b = max a b := by unfold mx; split <;> omega
theorem depN_ok (o : S109) {D : List Int} (h : depOk D) (h1 : 1 ≤ D.length) : 0 ≤ depN o D ∧ depN o D ≤ (D.length : Int) := by
  have ha := depOk_rd h h1 o.f1
  have hb := depOk_rd h h1 o.f2
  unfold depN
  simp only [mx_eq]
  split
  · omega
  · split
    · omega
    · split <;> omega
theorem depOk_put (o : S109) {D : List Int} (h : depOk D) (h1 : 1 ≤ D.length) : depOk (D ++ [depN o D]) := by
  have := depN_ok o h h1
  intro x hx
  rw [List.length_append, List.length_singleton]
  rcases List.mem_append.1 hx with hx | hx
  · have := h x hx; omega
  · rw [List.mem_singleton] at hx; subst hx; omega
/-- The values of an op lie ahead of it. -/
theorem opB_vals {o : S109} {n : Int} (h : opB o n = true) : o.f0 = 0 ∨ o.f0 = 2 ∧ (0 ≤ o.f1 ∧ o.f1 ≤ n) ∨ (o.f0 = 1 ∨ o.f0 = 3) ∧ (0 ≤ o.f1 ∧ o.f1 ≤ n) ∧ (0 ≤ o.f2 ∧ o.f2 ≤ n) := by
  unfold opB at h
  by_cases h0 : o.f0 = 0
  · exact .inl h0
  · rw [if_neg h0] at h
    by_cases h1 : o.f0 = 1 ∨ o.f0 = 3
    · rw [if_pos h1, Bool.and_eq_true, inB_iff, inB_iff] at h
      exact .inr (.inr ⟨h1, h⟩)
    · rw [if_neg h1] at h
      by_cases h2 : o.f0 = 2
      · rw [if_pos h2, Bool.and_eq_true, inB_iff] at h
        exact .inr (.inl ⟨h2, h.1⟩)
      · rw [if_neg h2] at h; cases h
theorem dep_loop (ops : List S109) (out : Int) (x288000 : List S109) (hl : ops.length ≤ 120) (h0 : 0 ≤ out) (ho : out ≤ (ops.length : Int)) : ∀ (d i : Nat) (D : List Int) (P : List (List Int)), i + d = ops.length → D.length = i + 1 → P.length = i + 1 → depOk D → (polysB (ops.drop i) P).isSome = true → Ev (fun q => impl_CodeDepth.l0 q D ops (ops.length : Int) i x288000 out) (rd (depAll (ops.drop i) D) out, true) := by
  intro d
  induction d with
  | zero =>
    intro i D P h hD _ _ _
    refine up ?_
    rw [List.drop_of_length_le (by omega)]
    simp only [impl_CodeDepth.l0, depAll, if_neg (show ¬ (i : Int) < (ops.length : Int) by omega), if_pos h0, if_pos (show out < (D.length : Int) by omega)]
    exact Ev.now _
  | succ d ih =>
    intro i D P h hD hP hok hs
    have hi : i < ops.length := by omega
    obtain ⟨o, hoo⟩ : ∃ o, ops[i] = o := ⟨_, rfl⟩
    rw [List.drop_eq_getElem_cons hi, hoo] at hs ⊢
    rw [polysB] at hs
    by_cases hb : opB o ((P.length : Int) - 1) = true
    rotate_left
    · rw [if_neg hb] at hs; cases hs
    rw [if_pos hb] at hs
    by_cases hb2 : polyB (nextP o P) = true
    rotate_left
    · rw [if_neg hb2] at hs; cases hs
    rw [if_pos hb2] at hs
    have hnext := ih (i + 1) (D ++ [depN o D]) (P ++ [nextP o P]) (by omega) (by rw [List.length_append, hD]; rfl) (by rw [List.length_append, hP]; rfl) (depOk_put o hok (by omega)) hs
    have hra := depOk_rd hok (by omega) o.f1
    have hrb := depOk_rd hok (by omega) o.f2
    rw [show (P.length : Int) - 1 = (i : Int) by omega] at hb
    refine up ?_
    simp only [impl_CodeDepth.l0, if_pos (show (i : Int) < (ops.length : Int) by omega), if_pos (show (0 : Int) ≤ (i : Int) by omega), rdOp_at hi, hoo]
    rw [depAll]
    have hend : ∀ (x7 : Int) (n : Nat) (L : List Int), L.length = n → (if o.f0 = 3 then wrap64 (x7 + 1) else x7) = depN o D → Ev (fun q => impl_CodeDepth.l1 q D x7 ops (ops.length : Int) i L (L.length : Int) (n : Int) x288000 out o.f0 o.f1 o.f2) (rd (depAll (ops.drop (i + 1)) (D ++ [depN o D])) out, true) := by
      intro x7 n L hn hx
      refine up ?_
      simp only [impl_CodeDepth.l1, if_neg (show ¬ (n : Int) < (L.length : Int) by omega), if_pos (show D.length < 17592186044416 by omega), wid (x := (i : Int) + 1) (by omega) (by omega)]
      by_cases h3 : o.f0 = 3
      · rw [if_pos h3] at hx
        simp only [if_pos h3, hx]
        exact hnext
      · rw [if_neg h3] at hx
        simp only [if_neg h3, hx]
        exact hnext
    rcases opB_vals hb with e | ⟨e, ha⟩ | ⟨e, ha, hb'⟩
    · have ev : impl_Op_values.f o.f0 o.f1 o.f2 = some [] := by unfold impl_Op_values.f; rw [if_pos e]
      simp only [ev, Option.bind_some]
      exact hend 0 0 [] rfl (by unfold depN; rw [if_neg (by omega), if_pos e])
    · have ev : impl_Op_values.f o.f0 o.f1 o.f2 = some [o.f1] := by unfold impl_Op_values.f; rw [if_neg (by omega), if_pos e]
      simp only [ev, Option.bind_some]
      refine up ?_
      have er : rd [o.f1] 0 = o.f1 := rfl
      simp only [impl_CodeDepth.l1, List.length_singleton, if_pos (show (0 : Int) < ((1 : Nat) : Int) by omega), if_pos (show (0 : Int) ≤ 0 by omega), er, if_pos ha.1, if_pos (show o.f1 < (D.length : Int) by omega), wid (x := (0 : Int) + 1) (by omega) (by omega)]
      have := hend (mx 0 (rd D o.f1)) 1 [o.f1] rfl (by unfold depN; rw [if_neg (by omega), if_neg (by omega), if_pos e])
      exact this
    · have ev : impl_Op_values.f o.f0 o.f1 o.f2 = some [o.f1, o.f2] := by unfold impl_Op_values.f; rw [if_neg (by omega), if_neg (by omega)]
      simp only [ev, Option.bind_some]
      refine up ?_
      have er : rd [o.f1, o.f2] 0 = o.f1 := rfl
      have er2 : rd [o.f1, o.f2] (0 + 1) = o.f2 := rfl
      simp only [impl_CodeDepth.l1, show ([o.f1, o.f2] : List Int).length = 2 from rfl, if_pos (show (0 : Int) < ((2 : Nat) : Int) by omega), if_pos (show (0 : Int) ≤ 0 by omega), er, if_pos ha.1, if_pos (show o.f1 < (D.length : Int) by omega), wid (x := (0 : Int) + 1) (by omega) (by omega)]
      refine up ?_
      simp only [impl_CodeDepth.l1, if_pos (show (0 : Int) + 1 < ((2 : Nat) : Int) by omega), if_pos (show (0 : Int) ≤ 0 + 1 by omega), er2, if_pos hb'.1, if_pos (show o.f2 < (D.length : Int) by omega), wid (x := (0 : Int) + 1 + 1) (by omega) (by omega)]
      have := hend (mx (mx 0 (rd D o.f1)) (rd D o.f2)) 2 [o.f1, o.f2] rfl (by
        unfold depN
        rw [if_neg (show ¬ o.f0 = 0 by omega), if_neg (show ¬ o.f0 = 2 by omega)]
        by_cases h3 : o.f0 = 3
        · rw [if_pos h3, if_pos h3, mx_eq, mx_eq, wid (by omega) (by omega)]
        · rw [if_neg h3, if_neg h3])
      exact this
theorem depth_val (os : List S109) (out : Int) : Ev (fun q => impl_CodeDepth.f q os out) (if codeB os out = true then (rd (depAll os [0]) out, true) else (0, false)) := by
  simp only [impl_CodeDepth.f]
  refine Ev.bind (implCode os out) ?_
  cases h : codeB os out with
  | false => simp only [Bool.false_eq_true, if_false]; exact Ev.now _
  | true =>
    obtain ⟨h1, h2, h3⟩ := codeB_parts h
    simp only [if_true]
    have := dep_loop os out os h1 h2.1 h2.2 os.length 0 [0] [[0, 1]] (by omega) rfl rfl (fun x hx => by rw [List.mem_singleton] at hx; subst hx; simp) (by rw [List.drop_zero]; exact h3)
    rw [List.drop_zero] at this
    exact this
theorem rd_app_last (D : List Int) (x : Int) {n : Nat} (h : D.length = n) : rd (D ++ [x]) (n : Int) = x := by subst h; exact rd_last D x
theorem hornerDepth_all : ∀ (ds : List Int) (os : List S109) (j : Int), rd (depAll os [0]) (os.length : Int) = j → 0 ≤ j → rd (depAll os [0]) 0 = 0 → rd (depAll (ds.foldl hcStep (os, (os.length : Int))).1 [0]) ((ds.foldl hcStep (os, (os.length : Int))).1.length : Int) = j + ds.length
  | [], os, j, h, _, _ => by rw [List.foldl_nil, h]; simp
  | n :: ds, os, j, h, h0, hz => by
    have hl : (depAll os [0]).length = os.length + 1 := by rw [depAll_len]; simp; omega
    obtain ⟨D, hD⟩ : ∃ D, depAll os [0] = D := ⟨_, rfl⟩
    rw [hD] at h hz hl
    have hstep : hcStep (os, (os.length : Int)) n = (os ++ [⟨3, (os.length : Int), 0⟩] ++ [⟨0, n, 0⟩] ++ [⟨1, (os.length : Int) + 1, (os.length : Int) + 2⟩], (os.length : Int) + 3) := rfl
    have e1 : depN ⟨3, (os.length : Int), 0⟩ D = j + 1 := by
      unfold depN
      rw [if_neg (show ¬ (3 : Int) = 0 by decide), if_neg (show ¬ (3 : Int) = 2 by decide), if_pos (show (3 : Int) = 3 from rfl)]
      dsimp only
      rw [h, hz, mx_eq, mx_eq]; omega
    have e2 : depN ⟨0, n, 0⟩ (D ++ [j + 1]) = 0 := by unfold depN; rw [if_pos (show (0 : Int) = 0 from rfl)]
    have f1 : rd (D ++ [j + 1] ++ [0]) ((os.length : Int) + 1) = j + 1 := by
      rw [show (os.length : Int) + 1 = ((os.length + 1 : Nat) : Int) from rfl, rd_left (by rw [List.length_append, hl]; simp)]
      exact rd_app_last D _ hl
    have f2 : rd (D ++ [j + 1] ++ [0]) ((os.length : Int) + 2) = 0 := by
      rw [show (os.length : Int) + 2 = ((os.length + 2 : Nat) : Int) from rfl]
      exact rd_app_last _ _ (by rw [List.length_append, hl]; rfl)
    have e3 : depN ⟨1, (os.length : Int) + 1, (os.length : Int) + 2⟩ (D ++ [j + 1] ++ [0]) = j + 1 := by
      unfold depN
      rw [if_neg (show ¬ (1 : Int) = 0 by decide), if_neg (show ¬ (1 : Int) = 2 by decide), if_neg (show ¬ (1 : Int) = 3 by decide)]
      dsimp only
      rw [f1, f2, mx_eq, mx_eq]; omega
    have hall : depAll (hcStep (os, (os.length : Int)) n).1 [0] = D ++ [j + 1] ++ [0] ++ [j + 1] := by
      rw [hstep]
      dsimp only
      rw [depAll_app, depAll_app, depAll_app, hD]
      simp only [depAll, e1, e2, e3]
    have hlen : (hcStep (os, (os.length : Int)) n).1.length = os.length + 3 := by rw [hstep]; simp
    have hs2 : (hcStep (os, (os.length : Int)) n).2 = ((hcStep (os, (os.length : Int)) n).1.length : Int) := by rw [hlen, hstep]; rfl
    rcases hs : hcStep (os, (os.length : Int)) n with ⟨s1, s2⟩
    rw [hs] at hall hlen hs2
    dsimp only at hall hlen hs2
    rw [List.foldl_cons, hs, hs2]
    have := hornerDepth_all ds s1 (j + 1) (by rw [hall, hlen]; exact rd_app_last _ _ (by rw [List.length_append, List.length_append, hl]; rfl)) (by omega) (by rw [hall, show (0 : Int) = ((0 : Nat) : Int) from rfl, rd_left (by simp), rd_left (by simp), rd_left (by omega)]; exact hz)
    rw [this, List.length_cons]
    omega
theorem horner_depth (l : List Int) : rd (depAll (hcAll l).1 [0]) ((hcAll l).1.length : Int) = ((l.length - 1 : Nat) : Int) := by
  have h0 : depAll [(⟨0, rd l ((l.length : Int) - 1), 0⟩ : S109)] [0] = [0, 0] := by
    simp only [depAll, depN, if_pos]; rfl
  have := hornerDepth_all (l.take (l.length - 1)).reverse [⟨0, rd l ((l.length : Int) - 1), 0⟩] 0 (by rw [h0]; rfl) (by omega) (by rw [h0]; rfl)
  rw [List.length_reverse, List.length_take] at this
  unfold hcAll
  refine this.trans ?_
  omega
theorem wf_byte {x : Int} (h : (Lit.int .u8 x).wf = true) : 0 ≤ x ∧ x ≤ 255 := by
  simp only [Lit.wf, Bool.and_eq_true, decide_eq_true_eq] at h
  exact h
theorem rd_byte {l : List Int} (hl : ∀ x ∈ l, (Lit.int .u8 x).wf = true) (i : Int) (h0 : 0 ≤ i) (h1 : i < l.length) : 0 ≤ rd l i ∧ rd l i ≤ 255 := by
  unfold rd
  have hi : i.toNat < l.length := by omega
  rw [List.getD_eq_getElem?_getD, List.getElem?_eq_getElem hi]
  exact wf_byte (hl _ (List.getElem_mem hi))
theorem wrapU_range (n : Int) : 0 ≤ IntKind.u64.wrap n ∧ IntKind.u64.wrap n < 18446744073709551616 := by
  simp only [IntKind.wrap, IntKind.bits, IntKind.signed, Bool.false_eq_true, false_and, if_false]
  simp
  omega
theorem and255 (x : Int) : 0 ≤ Go.bits .and .u64 (IntKind.u64.wrap x / 1099511627776) 255 ∧ Go.bits .and .u64 (IntKind.u64.wrap x / 1099511627776) 255 ≤ 255 := by
  have h := wrapU_range x
  have hw : ∀ n : Int, 0 ≤ n → n < 2 ^ 40 → IntKind.u64.wrap n = n := by
    intro n h0 h1
    have e : (2 : Int) ^ 40 = 1099511627776 := by decide
    simp only [IntKind.wrap, IntKind.bits, IntKind.signed, Bool.false_eq_true, false_and, if_false]
    simp
    omega
  have e : (2 : Int) ^ 40 = 1099511627776 := by decide
  have hb : Go.bits .and .u64 (IntKind.u64.wrap x / 1099511627776) ((2 : Int) ^ 8 - 1) = (IntKind.u64.wrap x / 1099511627776) % 2 ^ 8 := bits_mask .u64 40 (by decide) hw 8 (by decide) _ (by omega) (by omega)
  have e1 : (2 : Int) ^ 8 - 1 = 255 := by decide
  have e2 : (2 : Int) ^ 8 = 256 := by decide
  rw [e1, e2] at hb
  rw [hb]; omega
theorem next_ok {l : List Int} (hl : ∀ x ∈ l, (Lit.int .u8 x).wf = true) (p s : Int) (h0 : 0 ≤ p) (h1 : p ≤ 1000000000000) : ∃ v s', spec_l1Cur_next.f l p s = some (v, p + 1, s') ∧ 0 ≤ v ∧ v ≤ 255 := by
  unfold spec_l1Cur_next.f
  rw [wid (x := p + 1) (by omega) (by omega)]
  by_cases hlt : p < (l.length : Int)
  · have hb := rd_byte hl p h0 hlt
    rw [if_pos hlt, if_pos h0, if_pos (show p + 1 ≤ (l.length : Int) by omega), wid (x := rd l p) (by omega) (by omega)]
    exact ⟨_, _, rfl, by omega, by omega⟩
  · rw [if_neg hlt]
    by_cases hle : p + 1 ≤ (l.length : Int)
    · omega
    · rw [if_neg hle]
      have := and255 (IntKind.u64.wrap (IntKind.u64.wrap (s * 6364136223846793005)) + 1442695040888963407)
      rw [wid (by omega) (by omega)]
      exact ⟨_, _, rfl, this.1, this.2⟩
theorem pick_ok {l : List Int} (hl : ∀ x ∈ l, (Lit.int .u8 x).wf = true) (p s n : Int) (h0 : 0 ≤ p) (h1 : p ≤ 100000000000) : ∃ v p' s', spec_l1Cur_pick.f l p s n = some (v, p', s') ∧ 0 ≤ v ∧ (1 ≤ n → v < n) ∧ p ≤ p' ∧ p' ≤ p + 2 := by
  unfold spec_l1Cur_pick.f
  by_cases hn : n ≤ 1
  · rw [if_pos hn]; exact ⟨0, p, s, rfl, by omega, by omega, by omega, by omega⟩
  · rw [if_neg hn]
    obtain ⟨v, s1, e1, hv0, hv1⟩ := next_ok hl p s h0 (by omega)
    rw [e1]; simp only [Option.bind_some]
    by_cases hb : n > 200
    · obtain ⟨u, s2, e2, hu0, hu1⟩ := next_ok hl (p + 1) s1 (by omega) (by omega)
      rw [if_pos hb, e2]; simp only [Option.bind_some]
      rw [if_neg (by omega), wid (x := v * 256) (by omega) (by omega), wid (x := v * 256 + u) (by omega) (by omega), Int.tmod_eq_emod_of_nonneg (by omega)]
      have r1 := Int.emod_nonneg (v * 256 + u) (show n ≠ 0 by omega)
      have r2 := Int.emod_lt_of_pos (v * 256 + u) (show 0 < n by omega)
      exact ⟨_, _, _, rfl, r1, fun _ => r2, by omega, by omega⟩
    · rw [if_neg hb, if_neg (by omega), Int.tmod_eq_emod_of_nonneg (by omega)]
      have r1 := Int.emod_nonneg v (show n ≠ 0 by omega)
      have r2 := Int.emod_lt_of_pos v (show 0 < n by omega)
      exact ⟨_, _, _, rfl, r1, fun _ => r2, by omega, by omega⟩
theorem among_ok {l : List Int} (hl : ∀ x ∈ l, (Lit.int .u8 x).wf = true) (p s : Int) (h0 : 0 ≤ p) (h1 : p ≤ 100000000000) (t : List Int) (ht : 1 ≤ t.length) : ∃ v p' s', spec_l1Cur_among.f l p s t = some (v, p', s') ∧ v ∈ t ∧ p ≤ p' ∧ p' ≤ p + 2 := by
  obtain ⟨v, p', s', e, v0, v1, a, b⟩ := pick_ok hl p s t.length h0 h1
  have hv := v1 (by omega)
  refine ⟨rd t v, p', s', by simp only [spec_l1Cur_among.f, e, Option.bind_some, if_pos v0, if_pos hv], ?_, a, b⟩
  unfold rd
  have hi : v.toNat < t.length := by omega
  rw [List.getD_eq_getElem?_getD, List.getElem?_eq_getElem hi]
  exact List.getElem_mem hi
theorem one_ok {l : List Int} (hl : ∀ x ∈ l, (Lit.int .u8 x).wf = true) (p s n : Int) (h0 : 0 ≤ p) (h1 : p ≤ 100000000000) : ∃ v p' s', spec_l1Cur_one.f l p s n = some (v, p', s') ∧ p ≤ p' ∧ p' ≤ p + 2 := by
  obtain ⟨v, p', s', e, _, _, a, b⟩ := pick_ok hl p s n h0 h1
  exact ⟨(v == 0), p', s', by simp only [spec_l1Cur_one.f, e, Option.bind_some], a, b⟩
theorem group_ok {l : List Int} (hl : ∀ x ∈ l, (Lit.int .u8 x).wf = true) (p s : Int) (h0 : 0 ≤ p) (h1 : p ≤ 10000000000) : ∃ v p' s', spec_l1Cur_group.f l p s = some (v, p', s') ∧ p ≤ p' ∧ p' ≤ p + 4 := by
  unfold spec_l1Cur_group.f
  obtain ⟨v, p1, s1, e, a, b⟩ := one_ok hl p s 8 h0 (by omega)
  rw [e]; simp only [Option.bind_some]
  by_cases c0 : v = true
  · obtain ⟨u, p2, s2, e2, _, a2, b2⟩ := among_ok hl p1 s1 (by omega) (by omega) [(-1), 0, 17, 18] (by simp)
    rw [if_pos c0, e2]; exact ⟨_, p2, s2, rfl, by omega, by omega⟩
  · obtain ⟨u, p2, s2, e2, _, _, a2, b2⟩ := pick_ok hl p1 s1 6 (by omega) (by omega)
    rw [if_neg c0, e2]; exact ⟨_, p2, s2, rfl, by omega, by omega⟩
theorem implGP {d k : Nat} (hd : d ≤ 16) (hk1 : 1 ≤ k) (hk2 : k ≤ 17) : impl_giantProducts.f (d : Int) (k : Int) = some (gpV d k) := by
  have hl : (List.replicate (d + 1) (0 : Int)).length = d + 1 := List.length_replicate
  have h := giant_len (l := List.replicate (d + 1) 0) (kk := k) (by omega) (by omega) hk1
  unfold impl_giantProducts.f
  simp only [Int.toNat_natCast]
  rw [if_pos ⟨by omega, by omega, by omega⟩, gcOps_count, hl, Nat.add_sub_cancel]
theorem products_loop (os : List S109) (hl : os.length ≤ 1000) : ∀ (d i : Nat), i + d = os.length → Ev (fun q => spec_poProducts.l0 q (gpCount (os.take i)) os (os.length : Int) i) (gpCount os) := by
  intro d
  induction d with
  | zero =>
    intro i h
    refine up ?_
    simp only [spec_poProducts.l0, if_neg (show ¬ (i : Int) < (os.length : Int) by omega)]
    rw [List.take_of_length_le (by omega)]
    exact Ev.now _
  | succ d ih =>
    intro i h
    have hi : i < os.length := by omega
    have hc := gpCount_le (os.take i)
    rw [List.length_take] at hc
    have hn := ih (i + 1) (by omega)
    rw [List.take_succ_eq_append_getElem hi, gpCount_app, gpCount_one] at hn
    refine up ?_
    simp only [spec_poProducts.l0, if_pos (show (i : Int) < (os.length : Int) by omega), if_pos (show (0 : Int) ≤ (i : Int) by omega), rdOp_at hi, wid (x := (i : Int) + 1) (by omega) (by omega)]
    by_cases h3 : os[i].f0 = 3
    · rw [if_pos h3] at hn
      simp only [if_pos h3, wid (x := gpCount (os.take i) + 1) (by omega) (by omega)]
      exact hn
    · rw [if_neg h3, Int.add_zero] at hn
      simp only [if_neg h3]
      exact hn
theorem specGP {d k : Nat} (hd : d ≤ 16) (hk1 : 1 ≤ k) (hk2 : k ≤ 17) : Ev (fun q => spec_poProducts.f q (d : Int) (k : Int)) (gpV d k) := by
  have hl : (List.replicate (d + 1) (0 : Int)).length = d + 1 := List.length_replicate
  obtain ⟨h1, h2⟩ := giant_val (List.replicate (d + 1) 0) k (by omega) (by omega) hk1 hk2
  have e : wrap64 ((d : Int) + 1) = ((d + 1 : Nat) : Int) := wid (by omega) (by omega)
  simp only [spec_poProducts.f, e, if_pos (show (0 : Int) ≤ ((d + 1 : Nat) : Int) by omega), Int.toNat_natCast, if_pos (show d + 1 ≤ 35184372088832 by omega)]
  refine Ev.bind h1 ?_
  have := products_loop (gcOps (List.replicate (d + 1) 0) k) (by omega) (gcOps (List.replicate (d + 1) 0) k).length 0 (by omega)
  rw [gcOps_count, hl, Nat.add_sub_cancel] at this
  exact this
/-- The best group, sought from one on. -/
def bestF (d : Nat) : Nat → Nat → Nat → Nat
  | 0, b, _ => b
  | n + 1, b, k => bestF d n (if gpV d k < gpV d b then k else b) (k + 1)
theorem bestF_least (d : Nat) : ∀ (n b k : Nat), 1 ≤ b → b < k → (∀ j, 1 ≤ j → j < k → gpV d b ≤ gpV d j ∧ (j < b → gpV d b < gpV d j)) → (1 ≤ bestF d n b k ∧ bestF d n b k < k + n) ∧ ∀ j, 1 ≤ j → j < k + n → gpV d (bestF d n b k) ≤ gpV d j ∧ (j < bestF d n b k → gpV d (bestF d n b k) < gpV d j)
  | 0, b, k, h1, h2, h => ⟨⟨h1, h2⟩, h⟩
  | n + 1, b, k, h1, h2, h => by
    rw [bestF]
    by_cases hk : gpV d k < gpV d b
    · rw [if_pos hk]
      obtain ⟨h3, h4⟩ := bestF_least d n k (k + 1) (by omega) (by omega) (fun j j1 j2 => by
        by_cases e : j = k
        · subst e; exact ⟨Int.le_refl _, fun h => absurd h (Nat.lt_irrefl _)⟩
        · have := (h j j1 (by omega)).1; exact ⟨by omega, fun _ => by omega⟩)
      exact ⟨⟨h3.1, by omega⟩, fun j j1 j2 => h4 j j1 (by omega)⟩
    · rw [if_neg hk]
      obtain ⟨h3, h4⟩ := bestF_least d n b (k + 1) h1 (by omega) (fun j j1 j2 => by
        by_cases e : j = k
        · subst e; exact ⟨by omega, fun h => by omega⟩
        · exact h j j1 (by omega))
      exact ⟨⟨h3.1, by omega⟩, fun j j1 j2 => h4 j j1 (by omega)⟩
theorem implBest_loop {d : Nat} (hd : d ≤ 16) : ∀ (n b k : Nat), k + n = 18 → 1 ≤ b → b < k → Ev (fun q => impl_BestGiant.l0 q (d : Int) (b : Int) (k : Int)) ((bestF d n b k : Nat), true)
  | 0, b, k, h, h1, h2 => by
    refine up ?_
    simp only [impl_BestGiant.l0, if_neg (show ¬ (k : Int) ≤ 17 by omega), bestF]
    exact Ev.now _
  | n + 1, b, k, h, h1, h2 => by
    refine up ?_
    simp only [impl_BestGiant.l0, if_pos (show (k : Int) ≤ 17 by omega), implGP hd (show 1 ≤ k by omega) (show k ≤ 17 by omega), implGP hd h1 (show b ≤ 17 by omega), Option.bind_some, wid (x := (k : Int) + 1) (by omega) (by omega), bestF]
    by_cases hk : gpV d k < gpV d b
    · simp only [if_pos hk]; exact implBest_loop hd n k (k + 1) (by omega) (by omega) (by omega)
    · simp only [if_neg hk]; exact implBest_loop hd n b (k + 1) (by omega) h1 (by omega)
theorem specBest_loop {d : Nat} (hd : d ≤ 16) : ∀ (n b k : Nat), k + n = 18 → 1 ≤ b → b < k → Ev (fun q => spec_BestGiant.l0 q (d : Int) (b : Int) (k : Int)) ((bestF d n b k : Nat), true)
  | 0, b, k, h, h1, h2 => by
    refine up ?_
    simp only [spec_BestGiant.l0, if_neg (show ¬ (k : Int) ≤ 17 by omega), bestF]
    exact Ev.now _
  | n + 1, b, k, h, h1, h2 => by
    refine up ?_
    simp only [spec_BestGiant.l0, if_pos (show (k : Int) ≤ 17 by omega), wid (x := (k : Int) + 1) (by omega) (by omega), bestF]
    refine Ev.bind (specGP hd (show 1 ≤ k by omega) (show k ≤ 17 by omega)) ?_
    refine Ev.bind (specGP hd h1 (show b ≤ 17 by omega)) ?_
    by_cases hk : gpV d k < gpV d b
    · simp only [if_pos hk]; exact specBest_loop hd n k (k + 1) (by omega) (by omega) (by omega)
    · simp only [if_neg hk]; exact specBest_loop hd n b (k + 1) (by omega) h1 (by omega)
def dB (a : Int) : Bool := decide (0 ≤ a) && decide (a ≤ 16)
theorem implD (a : Int) : impl_degreeOk.f a = some (dB a) := by unfold impl_degreeOk.f dB; rw [iIn_val]; rfl
theorem specD (a : Int) : spec_l1In.f a 0 16 = some (dB a) := l1In_val a 0 16
def gpA (a b : Int) : Int × Bool := if dB a = true ∧ kB b = true then (gpV a.toNat b.toNat, true) else (0, false)
theorem d_range {a : Int} (h : dB a = true) : ∃ d : Nat, a = (d : Int) ∧ d ≤ 16 := by
  unfold dB at h
  simp only [Bool.and_eq_true, decide_eq_true_eq] at h
  exact ⟨a.toNat, by omega, by omega⟩
theorem k_range {a : Int} (h : kB a = true) : ∃ k : Nat, a = (k : Int) ∧ 1 ≤ k ∧ k ≤ 17 := by
  unfold kB at h
  simp only [Bool.and_eq_true, decide_eq_true_eq] at h
  exact ⟨a.toNat, by omega, by omega, by omega⟩
theorem implGPs (a b : Int) : impl_GiantProducts.f a b = some (gpA a b) := by
  unfold impl_GiantProducts.f gpA
  rw [implD]
  simp only [Option.bind_some]
  cases hd : dB a with
  | false => simp
  | true =>
    simp only [if_true]
    rw [implK]
    simp only [Option.bind_some]
    cases hk : kB b with
    | false => simp
    | true =>
      obtain ⟨d, rfl, h1⟩ := d_range hd
      obtain ⟨k, rfl, h2, h3⟩ := k_range hk
      simp only [if_true, implGP h1 h2 h3, Option.bind_some, Int.toNat_natCast, and_self]
theorem specGPs (a b : Int) : Ev (fun q => spec_GiantProducts.f q a b) (gpA a b) := by
  unfold gpA
  simp only [spec_GiantProducts.f, specD, Option.bind_some]
  cases hd : dB a with
  | false => simp only [Bool.false_eq_true, if_false, false_and]; exact Ev.now _
  | true =>
    simp only [if_true, specK, Option.bind_some]
    cases hk : kB b with
    | false => simp only [Bool.false_eq_true, if_false, and_false]; exact Ev.now _
    | true =>
      obtain ⟨d, rfl, h1⟩ := d_range hd
      obtain ⟨k, rfl, h2, h3⟩ := k_range hk
      simp only [if_true, and_self, Int.toNat_natCast]
      exact Ev.bind (specGP h1 h2 h3) (Ev.now _)
def bestA (a : Int) : Int × Bool := if dB a = true then ((bestF a.toNat 16 1 2 : Nat), true) else (0, false)
theorem implBest (a : Int) : Ev (fun q => impl_BestGiant.f q a) (bestA a) := by
  unfold bestA
  simp only [impl_BestGiant.f, implD, Option.bind_some]
  cases hd : dB a with
  | false => simp only [Bool.false_eq_true, if_false]; exact Ev.now _
  | true =>
    obtain ⟨d, rfl, h1⟩ := d_range hd
    simp only [if_true, Int.toNat_natCast]
    exact implBest_loop h1 16 1 2 rfl (by omega) (by omega)
theorem specBest (a : Int) : Ev (fun q => spec_BestGiant.f q a) (bestA a) := by
  unfold bestA
  simp only [spec_BestGiant.f, specD, Option.bind_some]
  cases hd : dB a with
  | false => simp only [Bool.false_eq_true, if_false]; exact Ev.now _
  | true =>
    obtain ⟨d, rfl, h1⟩ := d_range hd
    simp only [if_true, Int.toNat_natCast]
    exact specBest_loop h1 16 1 2 rfl (by omega) (by omega)
theorem rd_kinds (os : List S109) : rd (kinds os) 3 = gpCount os := kindCount_three os
theorem coefs_good {C : List Int} (h : ∀ x ∈ C, 1 ≤ x ∧ x ≤ 3) (h1 : 1 ≤ C.length) (h2 : C.length ≤ 17) : polyB C = true ∧ coefsB C = true := by
  have e : polyB C = true := by
    unfold polyB
    rw [Bool.and_eq_true, List.all_eq_true]
    refine ⟨decide_eq_true h2, fun x hx => ?_⟩
    have := h x hx
    simp; omega
  exact ⟨e, by unfold coefsB; rw [e, Bool.and_true]; exact decide_eq_true h1⟩
theorem hornerV {C : List Int} (h : coefsB C = true) (hp : polyB C = true) (h1 : 1 ≤ C.length) (h2 : C.length ≤ 17) : Ev (fun q => impl_HornerCode.f q C) ((hcAll C).1, ((hcAll C).1.length : Int), true) ∧ codeB (hcAll C).1 ((hcAll C).1.length : Int) = true := by
  obtain ⟨P, hm, he, _, hl⟩ := horner_made h1 hp
  have hc := codeB_made hm (by omega) (out := ((hcAll C).1.length : Int)) (by omega) (Int.le_refl _)
  refine ⟨?_, hc⟩
  simp only [impl_HornerCode.f, implCoefs, h, Option.bind_some, if_true, he]
  have := told_val (hcAll C).1 ((hcAll C).1.length : Int)
  unfold ifV at this
  rw [if_pos hc] at this
  exact this
theorem powersV {C : List Int} (h : coefsB C = true) (hp : polyB C = true) (h1 : 1 ≤ C.length) (h2 : C.length ≤ 17) : Ev (fun q => impl_PowersCode.f q C) ((pcGroup C).1, ((pcGroup C).1.length : Int), true) ∧ codeB (pcGroup C).1 ((pcGroup C).1.length : Int) = true := by
  obtain ⟨P, hm, he, _, hl⟩ := powers_code hp h1
  have hc := codeB_made hm (by omega) (out := ((pcGroup C).1.length : Int)) (by omega) (Int.le_refl _)
  refine ⟨?_, hc⟩
  simp only [impl_PowersCode.f, implCoefs, h, Option.bind_some, if_true, he]
  have := told_val (pcGroup C).1 ((pcGroup C).1.length : Int)
  unfold ifV at this
  rw [if_pos hc] at this
  exact this
theorem giantV {C : List Int} {kk : Nat} (h : coefsB C = true) (hp : polyB C = true) (h1 : 1 ≤ C.length) (h2 : C.length ≤ 17) (hk1 : 1 ≤ kk) (hk2 : kk ≤ 17) : Ev (fun q => impl_GiantCode.f q C (kk : Int)) (gcOps C kk, ((gcOps C kk).length : Int), true) ∧ codeB (gcOps C kk) ((gcOps C kk).length : Int) = true := by
  obtain ⟨P, hm, _⟩ := giant_made (kk := kk) hp h1 hk1
  have hl := giant_len (kk := kk) h1 h2 hk1
  have hc := codeB_made hm hl (out := ((gcOps C kk).length : Int)) (by omega) (Int.le_refl _)
  refine ⟨?_, hc⟩
  have := gImpl C (kk : Int)
  unfold gV at this
  rw [if_pos ⟨h, by unfold kB; simp; omega⟩, Int.toNat_natCast, ifV_made hm hl] at this
  exact this
theorem end3 {C : List Int} {d : Nat} {x : Int} (hd : d ≤ 16) (hC : C.length = d + 1) (h : coefsB C = true) (hp : polyB C = true) (hx : x ≤ (d : Int)) : Ev (fun k => laws_FnGiantStepsCount.j3 k (d : Int) C x false (hcAll C).1 ((hcAll C).1.length : Int)) true := by
  obtain ⟨h1, h2⟩ := powersV h hp (by omega) (by omega)
  obtain ⟨_, h4⟩ := hornerV h hp (by omega) (by omega)
  have c1 := countOps_val (pcGroup C).1 ((pcGroup C).1.length : Int)
  rw [if_pos h2] at c1
  have c2 := depth_val (hcAll C).1 ((hcAll C).1.length : Int)
  rw [if_pos h4, horner_depth, hC, Nat.add_sub_cancel] at c2
  refine up ?_
  simp only [laws_FnGiantStepsCount.j3, Bool.false_eq_true, if_false]
  refine Ev.bind h1 ?_
  refine Ev.bind c1 ?_
  refine Ev.bind c2 ?_
  simp only [if_true, rd_kinds, pcGroup_count, hC]
  by_cases h0 : (d : Int) = 0
  · simp only [if_pos h0, decide_eq_true hx]; exact Ev.now _
  · simp only [if_neg h0, if_pos (show (3 : Int) < ((kinds (pcGroup C).1).length : Int) from by simp [kinds]), wid (x := (d : Int) - 1) (by omega) (by omega), if_pos (show ((d + 1 - 2 : Nat) : Int) = (d : Int) - 1 by omega), decide_eq_true hx]
    exact Ev.now _
theorem gpV_one (d : Nat) : gpV d 1 = (d : Int) := by
  unfold gpV
  rw [Nat.div_one]
  omega
theorem loopL {d kk : Nat} (hd : d ≤ 16) (hk1 : 1 ≤ kk) (hk2 : kk ≤ 17) (more : List Int) (hmore : more.length ≤ 2000000) : ∀ (r i : Nat) (C : List Int), i + r = d + 1 → C.length = i → (∀ x ∈ C, 1 ≤ x ∧ x ≤ 3) →
    Ev (fun k => laws_FnGiantStepsCount.l0 k more (d : Int) (kk : Int) (gpV d kk) ((bestF d 16 1 2 : Nat) : Int) C (i : Int)) true := by
  intro r
  induction r with
  | zero =>
    intro i C h hC hx
    obtain ⟨hp, hc⟩ := coefs_good hx (by omega) (by omega)
    obtain ⟨⟨b1, b2⟩, b3⟩ := bestF_least d 16 1 2 (by omega) (by omega) (fun j j1 j2 => by
      obtain rfl : j = 1 := by omega
      exact ⟨Int.le_refl _, fun h => absurd h (Nat.lt_irrefl _)⟩)
    obtain ⟨g1, g2⟩ := giantV (kk := kk) hc hp (by omega) (by omega) hk1 hk2
    obtain ⟨h1, h2⟩ := hornerV hc hp (by omega) (by omega)
    have c1 := countOps_val (gcOps C kk) ((gcOps C kk).length : Int)
    rw [if_pos g2] at c1
    have c2 := countOps_val (hcAll C).1 ((hcAll C).1.length : Int)
    rw [if_pos h2] at c2
    have hdl : C.length - 1 = d := by omega
    obtain ⟨best, hbest⟩ : ∃ b, bestF d 16 1 2 = b := ⟨_, rfl⟩
    rw [hbest] at b1 b2 b3 ⊢
    have hle := (b3 kk hk1 (by omega))
    have hle1 := (b3 1 (by omega) (by omega)).1
    rw [gpV_one] at hle1
    have hgp : impl_GiantProducts.f (d : Int) (best : Int) = some (gpV d best, true) := by
      rw [implGPs]
      unfold gpA
      rw [if_pos ⟨by unfold dB; simp; omega, by unfold kB; simp; omega⟩, Int.toNat_natCast, Int.toNat_natCast]
    have e3 := end3 (x := gpV d best) hd (show C.length = d + 1 by omega) hc hp (by omega)
    have k4 : (3 : Int) < ((kinds (gcOps C kk)).length : Int) := by simp [kinds]
    have k5 : (3 : Int) < ((kinds (hcAll C).1).length : Int) := by simp [kinds]
    refine up ?_
    simp only [laws_FnGiantStepsCount.l0, if_neg (show ¬ (i : Int) ≤ (d : Int) by omega)]
    refine Ev.bind g1 ?_
    refine Ev.bind c1 ?_
    simp only [hgp, Option.bind_some]
    refine Ev.bind h1 ?_
    refine Ev.bind c2 ?_
    simp only [if_true, if_pos k4, if_pos k5, rd_kinds, gcOps_count, hcAll_count, hdl, bne_self_eq_false]
    rw [if_neg_ev (show ¬ gpV d best > gpV d kk by omega)]
    by_cases heq : gpV d best = gpV d kk
    · have hb : ¬ (best : Int) > (kk : Int) := fun hgt => by
        have := hle.2 (by omega)
        omega
      simp only [if_pos heq, if_neg hb]
      exact e3
    · simp only [if_neg heq]
      exact e3
  | succ r ih =>
    intro i C h hC hx
    have hm : wrap64 ((i : Int) + (more.length : Int)) = (i : Int) + (more.length : Int) := wid (by omega) (by omega)
    have hr : (0 : Int) ≤ Int.tmod ((i : Int) + (more.length : Int)) 3 ∧ Int.tmod ((i : Int) + (more.length : Int)) 3 < 3 := by
      rw [Int.tmod_eq_emod_of_nonneg (by omega)]
      exact ⟨Int.emod_nonneg _ (by omega), Int.emod_lt_of_pos _ (by omega)⟩
    refine up ?_
    simp only [laws_FnGiantStepsCount.l0, if_pos (show (i : Int) ≤ (d : Int) by omega), if_pos (show C.length < 17592186044416 by omega), hm, wid (x := 1 + Int.tmod ((i : Int) + (more.length : Int)) 3) (by omega) (by omega), wid (x := (i : Int) + 1) (by omega) (by omega)]
    refine ih (i + 1) _ (by omega) (by rw [List.length_append, hC]; rfl) (fun x hx2 => ?_)
    rcases List.mem_append.1 hx2 with h3 | h3
    · exact hx x h3
    · rw [List.mem_singleton] at h3; subst h3; omega
theorem main : laws_FnGiantStepsCount.Pure := by
  intro code more _ hc hcode _ hm _
  refine Ev.rounds ?_
  simp only [laws_FnGiantStepsCount.f, laws_big.f]
  by_cases hb : (code.length : Int) > 1048576
  · exact ⟨0, fun k _ => by simp only [if_pos hb, Option.bind_some, if_true]⟩
  simp only [if_neg hb, Option.bind_some, wid (x := 1048576 - (code.length : Int)) (by omega) (by omega)]
  by_cases hb2 : (more.length : Int) > 1048576 - (code.length : Int)
  · exact ⟨0, fun k _ => by simp only [hb2, decide_true, if_true]⟩
  simp only [hb2, decide_false, Bool.false_eq_true, if_false]
  obtain ⟨n, p1, s1, e1, a0, a1, a2, a3⟩ := pick_ok hcode 0 0 19 (by omega) (by omega)
  obtain ⟨kk, p2, s2, e2, b2, b3⟩ := group_ok hcode p1 s1 (by omega) (by omega)
  have hd : spec_DrawGiantProducts.f code = some (wrap64 (n - 1), kk) := by simp only [spec_DrawGiantProducts.f, e1, e2, Option.bind_some]
  obtain ⟨dg, hdg⟩ : ∃ dg, wrap64 (n - 1) = dg := ⟨_, rfl⟩
  rw [hdg] at hd
  simp only [hd, Option.bind_some, implGPs]
  refine Ev.bind (specGPs dg kk) ?_
  simp only [bne_self_eq_false, Bool.false_eq_true, if_false]
  refine up ?_
  simp only [laws_FnGiantStepsCount.j0, Bool.false_eq_true, if_false]
  refine Ev.bind (implBest dg) ?_
  refine Ev.bind (specBest dg) ?_
  simp only [bne_self_eq_false, Bool.false_eq_true, if_false]
  refine up ?_
  simp only [laws_FnGiantStepsCount.j1, Bool.false_eq_true, if_false]
  unfold gpA bestA
  by_cases h : dB dg = true ∧ kB kk = true
  · obtain ⟨d, rfl, h1⟩ := d_range h.1
    obtain ⟨k, rfl, h2, h3⟩ := k_range h.2
    simp only [if_pos h, if_pos h.1, if_true, Int.toNat_natCast]
    exact loopL h1 h2 h3 more (by omega) (d + 1) 0 [] (by omega) rfl (fun x hx => by simp at hx)
  · simp only [if_neg h, Bool.false_eq_true, if_false]
    exact Ev.now _
end Go.Proofs.Ytlmoemahamneoaa.PureFnGiantStepsCountL
namespace Go.Proofs.Ytlmoemahamneoaa.Pure
open Go.Proofs.Ytlmoemahamneoaa.PFnGiantStepsCount
theorem FnGiantStepsCount : laws_FnGiantStepsCount.Pure := PureFnGiantStepsCountL.main
end Go.Proofs.Ytlmoemahamneoaa.Pure
