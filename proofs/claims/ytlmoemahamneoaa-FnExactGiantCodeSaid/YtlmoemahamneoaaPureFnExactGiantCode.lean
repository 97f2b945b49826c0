/- The program's GiantCode returns what the reference's GiantCode returns, for all rows of coefficients (of at most 2^20, as the statement itself says) and all group sizes. -/
import Derived.Test.YtlmoemahamneoaaPFnExactGiantCodex1
import Derived.Test.YtlmoemahamneoaaPFnExactGiantCodex2
import Derived.Test.YtlmoemahamneoaaPFnExactGiantCodex3
import Derived.Test.YtlmoemahamneoaaPFnExactGiantCodex4
import Derived.Test.YtlmoemahamneoaaPFnExactGiantCodex5
import Derived.Test.YtlmoemahamneoaaPFnExactGiantCodex6
import Derived.Test.YtlmoemahamneoaaPFnExactGiantCodex7
import Derived.Test.YtlmoemahamneoaaPFnExactGiantCodex8
import Derived.Test.YtlmoemahamneoaaPFnExactGiantCodex9
import Derived.Test.YtlmoemahamneoaaPFnExactGiantCodex10
import Derived.Test.YtlmoemahamneoaaPFnExactGiantCodex11
import Derived.Test.YtlmoemahamneoaaPFnExactGiantCodex12
set_option linter.unusedVariables false
set_option linter.unusedSimpArgs false
namespace Go.Proofs.Ytlmoemahamneoaa.PureFnExactGiantCodeL
open Go.RowKit Go.Proofs.Ytlmoemahamneoaa.PFnExactGiantCode Go.Proofs.YtlmoemahamneoaaW.PrintWords Go.Proofs.YtlmoemahamneoaaW.PrintLast Go.Proofs.YtlmoemahamneoaaW.PrintMore
theorem up {α : Type} {g : Nat → Option α} {r : α} (h : Ev (fun k => g (k + 1)) r) : Ev g r := by
  obtain ⟨K, h⟩ := h
  refine ⟨K + 1, fun k hk => ?_⟩
  obtain ⟨m, rfl⟩ : ∃ m, k = m + 1 := ⟨k - 1, by omega⟩
  exact h m (by omega)
theorem wid {x : Int} (h0 : -9223372036854775808 ≤ x) (h1 : x ≤ 9223372036854775807) : wrap64 x = x := by unfold wrap64; omega
theorem if_pos_ev {α : Type} {c : Prop} [Decidable c] {f g : Nat → Option α} (h : c) : (fun k => if c then f k else g k) = f := funext fun k => if_pos h
theorem if_neg_ev {α : Type} {c : Prop} [Decidable c] {f g : Nat → Option α} (h : ¬ c) : (fun k => if c then f k else g k) = g := funext fun k => if_neg h
theorem rd_at {l : List Int} {i : Nat} (h : i < l.length) : rd l (i : Int) = l[i] := by
  unfold rd
  rw [Int.toNat_natCast, List.getD_eq_getElem?_getD, List.getElem?_eq_getElem h]; rfl
theorem l1In_val (x a b : Int) : spec_l1In.f x a b = some (decide (a ≤ x) && decide (x ≤ b)) := by
  unfold spec_l1In.f
  by_cases h : a ≤ x
  · rw [if_pos h]; simp [h]
  · rw [if_neg h]; simp [h]
theorem l1Least_val (a b : Int) : spec_l1Least.f a b = some (min a b) := by
  unfold spec_l1Least.f
  split
  · rw [Int.min_eq_left (by omega)]
  · rw [Int.min_eq_right (by omega)]
def allIn (a b : Int) (l : List Int) : Bool := l.all fun d => decide (a ≤ d) && decide (d ≤ b)
theorem l1All_loop (a b : Int) (l : List Int) (hl : l.length ≤ 17592186044416) : ∀ (d i : Nat), i + d = l.length → Ev (fun k => spec_l1All.l0 k a b l (l.length : Int) i) (allIn a b (l.drop i)) := by
  intro d
  induction d with
  | zero =>
    intro i h
    refine up ?_
    simp only [spec_l1All.l0, if_neg (show ¬ (i : Int) < (l.length : Int) by omega)]
    rw [List.drop_of_length_le (by omega)]
    exact Ev.now _
  | succ d ih =>
    intro i h
    have hi : i < l.length := by omega
    refine up ?_
    simp only [spec_l1All.l0, if_pos (show (i : Int) < (l.length : Int) by omega), if_pos (show (0 : Int) ≤ (i : Int) by omega), l1In_val, Option.bind_some, wid (x := (i : Int) + 1) (by omega) (by omega), rd_at hi]
    have e : allIn a b (l.drop i) = ((decide (a ≤ l[i]) && decide (l[i] ≤ b)) && allIn a b (l.drop (i + 1))) := by
      rw [List.drop_eq_getElem_cons hi]; rfl
    rw [e]
    cases hb : (decide (a ≤ l[i]) && decide (l[i] ≤ b)) with
    | true => simp only [if_true, Bool.true_and]; exact ih (i + 1) (by omega)
    | false => simp only [Bool.false_eq_true, if_false, Bool.false_and]; exact Ev.now _
theorem l1All_val (a b : Int) (l : List Int) (hl : l.length ≤ 17592186044416) : Ev (fun k => spec_l1All.f k l a b) (allIn a b l) := l1All_loop a b l hl l.length 0 (by omega)
/-- A polynomial without zeros at its end. -/
def cutB (l : List Int) : List Int := (l.reverse.dropWhile (· == 0)).reverse
theorem cutB_nil : cutB [] = [] := rfl
theorem cutB_zero (l : List Int) : cutB (l ++ [0]) = cutB l := by unfold cutB; simp
theorem cutB_ne (l : List Int) {x : Int} (h : x ≠ 0) : cutB (l ++ [x]) = l ++ [x] := by unfold cutB; simp [h]
theorem rd_last (l : List Int) (x : Int) : rd (l ++ [x]) (l.length : Int) = x := by
  rw [rd_at (by simp)]; simp
theorem cut_val : ∀ (n : Nat) (l : List Int), l.length = n → n ≤ 1000000000 → Ev (fun q => impl_cut.f q l) (cutB l) := by
  intro n
  induction n with
  | zero =>
    intro l h _
    obtain rfl := List.eq_nil_of_length_eq_zero h
    simp only [impl_cut.f]
    refine up ?_
    simp only [impl_cut.l0, List.length_nil, if_neg (show ¬ ((0 : Nat) : Int) > 0 by omega)]
    exact Ev.now _
  | succ n ih =>
    intro l h hn
    obtain ⟨l', x, rfl⟩ : ∃ l' x, l = l' ++ [x] := by
      rcases List.eq_nil_or_concat l with h0 | ⟨l', x, h0⟩
      · subst h0; simp at h
      · exact ⟨l', x, by rw [h0, List.concat_eq_append]⟩
    have hl : l'.length = n := by simpa using h
    have e1 : (((l' ++ [x]).length : Nat) : Int) - 1 = (l'.length : Int) := by rw [List.length_append, List.length_singleton]; omega
    simp only [impl_cut.f]
    refine up ?_
    simp only [impl_cut.l0, e1, wid (x := (l'.length : Int)) (by omega) (by omega), if_pos (show ((l' ++ [x]).length : Int) > 0 by rw [List.length_append, List.length_singleton]; omega), if_pos (show (0 : Int) ≤ (l'.length : Int) by omega), if_pos (show (l'.length : Int) < ((l' ++ [x]).length : Int) by rw [List.length_append, List.length_singleton]; omega), if_pos (show (l'.length : Int) ≤ ((l' ++ [x]).length : Int) by rw [List.length_append, List.length_singleton]; omega), rd_last, Int.toNat_natCast, List.take_left]
    by_cases hx : x = 0
    · subst hx
      rw [cutB_zero]
      simp only [if_true]
      exact ih l' hl (by omega)
    · rw [cutB_ne l' hx]
      simp only [if_neg hx]
      exact Ev.now _
theorem cutB_len (l : List Int) : (cutB l).length ≤ l.length := by
  unfold cutB
  rw [List.length_reverse]
  have := (List.dropWhile_sublist (fun x : Int => x == 0) (l := l.reverse)).length_le
  rw [List.length_reverse] at this
  exact this
theorem own_val (l : List Int) (h : l.length < 1000000000) : spec_l1Own.f l = some l := by
  simp only [spec_l1Own.f, Option.bind_some, List.length_nil, Nat.zero_add, List.nil_append, if_pos (show l.length < 17592186044416 by omega)]
theorem trim_loop (l : List Int) (hl : l.length < 1000000000) : ∀ n, n ≤ l.length → Ev (fun q => spec_poTrim.l0 q l n) (cutB (l.take n)) := by
  intro n
  induction n with
  | zero =>
    intro _
    refine up ?_
    simp only [spec_poTrim.l0, if_neg (show ¬ ((0 : Nat) : Int) > 0 by omega), if_pos (show (0 : Int) ≤ ((0 : Nat) : Int) by omega), if_pos (show ((0 : Nat) : Int) ≤ (l.length : Int) by omega), Int.toNat_natCast, List.take_zero, own_val [] (by simp), Option.bind_some, cutB_nil]
    exact Ev.now _
  | succ n ih =>
    intro hn
    have e : l.take (n + 1) = l.take n ++ [l[n]] := List.take_succ_eq_append_getElem (by omega)
    have ht : (l.take (n + 1)).length < 1000000000 := by rw [List.length_take]; omega
    refine up ?_
    simp only [spec_poTrim.l0, if_pos (show ((n + 1 : Nat) : Int) > 0 by omega), show ((n + 1 : Nat) : Int) - 1 = (n : Int) by omega, wid (x := (n : Int)) (by omega) (by omega), if_pos (show (0 : Int) ≤ (n : Int) by omega), if_pos (show (n : Int) < (l.length : Int) by omega), rd_at (show n < l.length by omega), if_pos (show (0 : Int) ≤ ((n + 1 : Nat) : Int) by omega), if_pos (show ((n + 1 : Nat) : Int) ≤ (l.length : Int) by omega), Int.toNat_natCast, own_val _ ht, Option.bind_some]
    rw [e]
    by_cases hx : l[n] = 0
    · rw [if_pos_ev hx, hx, cutB_zero]
      exact ih (by omega)
    · rw [if_neg_ev hx, cutB_ne _ hx]
      exact Ev.now _
theorem trim_val (l : List Int) (hl : l.length < 1000000000) : Ev (fun q => spec_poTrim.f q l) (cutB l) := by
  have := trim_loop l hl l.length (Nat.le_refl _)
  rw [List.take_length] at this
  simpa [spec_poTrim.f] using this
/-- x is added to a row, from place i on. -/
def addTo (x : List Int) : List Int → Nat → Nat → List Int
  | out, _, 0 => out
  | out, i, d + 1 => addTo x (out.set i (wrap64 (rd out i + rd x i))) (i + 1) d
theorem addTo_len (x : List Int) : ∀ d i out, (addTo x out i d).length = out.length
  | 0, _, _ => rfl
  | d + 1, i, out => by unfold addTo; rw [addTo_len x d, List.length_set]
def sumP (a b : List Int) : List Int := cutB (addTo b (addTo a (List.replicate (max a.length b.length) 0) 0 a.length) 0 b.length)
theorem iSum_l1 (b : List Int) (hb : b.length ≤ 1000000) : ∀ (d i : Nat) (out : List Int), i + d = b.length → b.length ≤ out.length → out.length ≤ 1000000 → Ev (fun q => impl_sumOf.l1 q out b (b.length : Int) i) (cutB (addTo b out i d)) := by
  intro d
  induction d with
  | zero =>
    intro i out h ho ho2
    refine up ?_
    simp only [impl_sumOf.l1, if_neg (show ¬ (i : Int) < (b.length : Int) by omega), addTo]
    exact Ev.bind (cut_val _ out rfl (by omega)) (Ev.now _)
  | succ d ih =>
    intro i out h ho ho2
    refine up ?_
    simp only [impl_sumOf.l1, if_pos (show (i : Int) < (b.length : Int) by omega), if_pos (show (0 : Int) ≤ (i : Int) by omega), if_pos (show (i : Int) < (out.length : Int) by omega), Int.toNat_natCast, wid (x := (i : Int) + 1) (by omega) (by omega), addTo]
    exact ih (i + 1) _ (by omega) (by rw [List.length_set]; exact ho) (by rw [List.length_set]; exact ho2)
theorem iSum_l0 (a b : List Int) (hb : b.length ≤ 1000000) : ∀ (d i : Nat) (out : List Int), i + d = a.length → a.length ≤ out.length → b.length ≤ out.length → out.length ≤ 1000000 → Ev (fun q => impl_sumOf.l0 q b out a (a.length : Int) i) (cutB (addTo b (addTo a out i d) 0 b.length)) := by
  intro d
  induction d with
  | zero =>
    intro i out h ho hb2 ho2
    refine up ?_
    simp only [impl_sumOf.l0, if_neg (show ¬ (i : Int) < (a.length : Int) by omega), addTo]
    exact iSum_l1 b hb b.length 0 out (by omega) hb2 ho2
  | succ d ih =>
    intro i out h ho hb2 ho2
    refine up ?_
    simp only [impl_sumOf.l0, if_pos (show (i : Int) < (a.length : Int) by omega), if_pos (show (0 : Int) ≤ (i : Int) by omega), if_pos (show (i : Int) < (out.length : Int) by omega), Int.toNat_natCast, wid (x := (i : Int) + 1) (by omega) (by omega), addTo]
    exact ih (i + 1) _ (by omega) (by rw [List.length_set]; exact ho) (by rw [List.length_set]; exact hb2) (by rw [List.length_set]; exact ho2)
theorem mx_nat (a b : Nat) : mx (a : Int) (b : Int) = ((max a b : Nat) : Int) := by unfold mx; split <;> omega
theorem iSum_val (a b : List Int) (ha : a.length ≤ 1000) (hb : b.length ≤ 1000) : Ev (fun q => impl_sumOf.f q a b) (sumP a b) := by
  simp only [impl_sumOf.f, mx_nat, Int.toNat_natCast, if_pos (show (0 : Int) ≤ ((max a.length b.length : Nat) : Int) by omega), if_pos (show max a.length b.length ≤ 35184372088832 by omega)]
  exact iSum_l0 a b (by omega) a.length 0 _ (by omega) (by rw [List.length_replicate]; omega) (by rw [List.length_replicate]; omega) (by rw [List.length_replicate]; omega)
theorem sSum_l1 (b : List Int) (hb : b.length ≤ 1000000) : ∀ (d i : Nat) (out : List Int), i + d = b.length → b.length ≤ out.length → out.length ≤ 1000000 → Ev (fun q => spec_poSum.l1 q out b (b.length : Int) i) (cutB (addTo b out i d)) := by
  intro d
  induction d with
  | zero =>
    intro i out h ho ho2
    refine up ?_
    simp only [spec_poSum.l1, if_neg (show ¬ (i : Int) < (b.length : Int) by omega), addTo]
    exact Ev.bind (trim_val out (by omega)) (Ev.now _)
  | succ d ih =>
    intro i out h ho ho2
    refine up ?_
    simp only [spec_poSum.l1, if_pos (show (i : Int) < (b.length : Int) by omega), if_pos (show (0 : Int) ≤ (i : Int) by omega), if_pos (show (i : Int) < (out.length : Int) by omega), Int.toNat_natCast, wid (x := (i : Int) + 1) (by omega) (by omega), addTo]
    exact ih (i + 1) _ (by omega) (by rw [List.length_set]; exact ho) (by rw [List.length_set]; exact ho2)
theorem sSum_l0 (a b : List Int) (hb : b.length ≤ 1000000) : ∀ (d i : Nat) (out : List Int), i + d = a.length → a.length ≤ out.length → b.length ≤ out.length → out.length ≤ 1000000 → Ev (fun q => spec_poSum.l0 q b out a (a.length : Int) i) (cutB (addTo b (addTo a out i d) 0 b.length)) := by
  intro d
  induction d with
  | zero =>
    intro i out h ho hb2 ho2
    refine up ?_
    simp only [spec_poSum.l0, if_neg (show ¬ (i : Int) < (a.length : Int) by omega), addTo]
    exact sSum_l1 b hb b.length 0 out (by omega) hb2 ho2
  | succ d ih =>
    intro i out h ho hb2 ho2
    refine up ?_
    simp only [spec_poSum.l0, if_pos (show (i : Int) < (a.length : Int) by omega), if_pos (show (0 : Int) ≤ (i : Int) by omega), if_pos (show (i : Int) < (out.length : Int) by omega), Int.toNat_natCast, wid (x := (i : Int) + 1) (by omega) (by omega), addTo]
    exact ih (i + 1) _ (by omega) (by rw [List.length_set]; exact ho) (by rw [List.length_set]; exact hb2) (by rw [List.length_set]; exact ho2)
theorem l1Most_val (a b : Nat) : spec_l1Most.f (a : Int) (b : Int) = some ((max a b : Nat) : Int) := by
  unfold spec_l1Most.f
  split <;> congr 1 <;> omega
theorem sSum_val (a b : List Int) (ha : a.length ≤ 1000) (hb : b.length ≤ 1000) : Ev (fun q => spec_poSum.f q a b) (sumP a b) := by
  simp only [spec_poSum.f, l1Most_val, Option.bind_some, Int.toNat_natCast, if_pos (show (0 : Int) ≤ ((max a.length b.length : Nat) : Int) by omega), if_pos (show max a.length b.length ≤ 35184372088832 by omega)]
  exact sSum_l0 a b (by omega) a.length 0 _ (by omega) (by rw [List.length_replicate]; omega) (by rw [List.length_replicate]; omega) (by rw [List.length_replicate]; omega)
/-- x times a row is added to a row, from place k of it on. -/
def mulIn (x : Int) (b : List Int) (i : Nat) : List Int → Nat → Nat → List Int
  | out, _, 0 => out
  | out, k, d + 1 => mulIn x b i (out.set (i + k) (wrap64 (rd out ((i + k : Nat) : Int) + wrap64 (x * rd b k)))) (k + 1) d
def mulOut (a b : List Int) : List Int → Nat → Nat → List Int
  | out, _, 0 => out
  | out, i, d + 1 => mulOut a b (mulIn (rd a i) b i out 0 b.length) (i + 1) d
theorem mulIn_len (x : Int) (b : List Int) (i : Nat) : ∀ d k out, (mulIn x b i out k d).length = out.length
  | 0, _, _ => rfl
  | d + 1, k, out => by unfold mulIn; rw [mulIn_len x b i d, List.length_set]
theorem mulOut_len (a b : List Int) : ∀ d i out, (mulOut a b out i d).length = out.length
  | 0, _, _ => rfl
  | d + 1, i, out => by unfold mulOut; rw [mulOut_len a b d, mulIn_len]
def prodP (a b : List Int) : List Int := cutB (mulOut a b (List.replicate (a.length + b.length) 0) 0 a.length)
theorem iMul_l1 (a b : List Int) (hb : b.length ≤ 1000) {R : List Int} {i : Nat} (hi : i ≤ 1000) {x : Int} : ∀ (d k : Nat) (out : List Int), k + d = b.length → i + b.length ≤ out.length → Ev (fun q => impl_productOf.l0 q b (mulIn x b i out k d) a (a.length : Int) ((i + 1 : Nat) : Int)) R → Ev (fun q => impl_productOf.l1 q b out i x a (a.length : Int) i b (b.length : Int) k) R := by
  intro d
  induction d with
  | zero =>
    intro k out h ho hE
    refine up ?_
    simp only [impl_productOf.l1, if_neg (show ¬ (k : Int) < (b.length : Int) by omega), wid (x := (i : Int) + 1) (by omega) (by omega)]
    exact hE
  | succ d ih =>
    intro k out h ho hE
    refine up ?_
    have e : (i : Int) + (k : Int) = ((i + k : Nat) : Int) := by omega
    simp only [impl_productOf.l1, if_pos (show (k : Int) < (b.length : Int) by omega), if_pos (show (0 : Int) ≤ (k : Int) by omega), e, wid (x := ((i + k : Nat) : Int)) (by omega) (by omega), if_pos (show (0 : Int) ≤ ((i + k : Nat) : Int) by omega), if_pos (show ((i + k : Nat) : Int) < (out.length : Int) by omega), Int.toNat_natCast, wid (x := (k : Int) + 1) (by omega) (by omega)]
    exact ih (k + 1) _ (by omega) (by rw [List.length_set]; exact ho) hE
theorem iMul_l0 (a b : List Int) (ha : a.length ≤ 1000) (hb : b.length ≤ 1000) : ∀ (d i : Nat) (out : List Int), i + d = a.length → (a.length + b.length ≤ out.length + 1 ∨ b.length = 0) → out.length ≤ 100000 → Ev (fun q => impl_productOf.l0 q b out a (a.length : Int) i) (cutB (mulOut a b out i d)) := by
  intro d
  induction d with
  | zero =>
    intro i out h ho ho2
    refine up ?_
    simp only [impl_productOf.l0, if_neg (show ¬ (i : Int) < (a.length : Int) by omega), mulOut]
    exact Ev.bind (cut_val _ out rfl (by omega)) (Ev.now _)
  | succ d ih =>
    intro i out h ho ho2
    refine up ?_
    simp only [impl_productOf.l0, if_pos (show (i : Int) < (a.length : Int) by omega), if_pos (show (0 : Int) ≤ (i : Int) by omega)]
    have hnext := ih (i + 1) (mulIn (rd a i) b i out 0 b.length) (by omega) (by rw [mulIn_len]; exact ho) (by rw [mulIn_len]; exact ho2)
    by_cases h0 : b.length = 0
    · refine up ?_
      simp only [impl_productOf.l1, h0, if_neg (show ¬ (0 : Int) < ((0 : Nat) : Int) by omega), wid (x := (i : Int) + 1) (by omega) (by omega)]
      rw [h0] at hnext
      rw [show mulOut a b out i (d + 1) = mulOut a b (mulIn (rd a i) b i out 0 b.length) (i + 1) d from rfl, h0]
      exact hnext
    · exact iMul_l1 a b hb (by omega) b.length 0 out (by omega) (by omega) hnext
theorem iMul_val (a b : List Int) (ha : a.length ≤ 1000) (hb : b.length ≤ 1000) : Ev (fun q => impl_productOf.f q a b) (prodP a b) := by
  have e : (a.length : Int) + (b.length : Int) = ((a.length + b.length : Nat) : Int) := by omega
  simp only [impl_productOf.f, e, wid (x := ((a.length + b.length : Nat) : Int)) (by omega) (by omega), Int.toNat_natCast, if_pos (show (0 : Int) ≤ ((a.length + b.length : Nat) : Int) by omega), if_pos (show a.length + b.length ≤ 35184372088832 by omega)]
  exact iMul_l0 a b ha hb a.length 0 _ (by omega) (.inl (by rw [List.length_replicate]; omega)) (by rw [List.length_replicate]; omega)
theorem sMul_l1 (a b : List Int) (hb : b.length ≤ 1000) {R : List Int} {i : Nat} (hi : i ≤ 1000) {x : Int} : ∀ (d k : Nat) (out : List Int), k + d = b.length → i + b.length ≤ out.length → Ev (fun q => spec_poProduct.l0 q b (mulIn x b i out k d) a (a.length : Int) ((i + 1 : Nat) : Int)) R → Ev (fun q => spec_poProduct.l1 q b out i x a (a.length : Int) i b (b.length : Int) k) R := by
  intro d
  induction d with
  | zero =>
    intro k out h ho hE
    refine up ?_
    simp only [spec_poProduct.l1, if_neg (show ¬ (k : Int) < (b.length : Int) by omega), wid (x := (i : Int) + 1) (by omega) (by omega)]
    exact hE
  | succ d ih =>
    intro k out h ho hE
    refine up ?_
    have e : (i : Int) + (k : Int) = ((i + k : Nat) : Int) := by omega
    simp only [spec_poProduct.l1, if_pos (show (k : Int) < (b.length : Int) by omega), if_pos (show (0 : Int) ≤ (k : Int) by omega), e, wid (x := ((i + k : Nat) : Int)) (by omega) (by omega), if_pos (show (0 : Int) ≤ ((i + k : Nat) : Int) by omega), if_pos (show ((i + k : Nat) : Int) < (out.length : Int) by omega), Int.toNat_natCast, wid (x := (k : Int) + 1) (by omega) (by omega)]
    exact ih (k + 1) _ (by omega) (by rw [List.length_set]; exact ho) hE
theorem sMul_l0 (a b : List Int) (ha : a.length ≤ 1000) (hb : b.length ≤ 1000) (hb0 : 0 < b.length) : ∀ (d i : Nat) (out : List Int), i + d = a.length → a.length + b.length ≤ out.length + 1 → out.length ≤ 100000 → Ev (fun q => spec_poProduct.l0 q b out a (a.length : Int) i) (cutB (mulOut a b out i d)) := by
  intro d
  induction d with
  | zero =>
    intro i out h ho ho2
    refine up ?_
    simp only [spec_poProduct.l0, if_neg (show ¬ (i : Int) < (a.length : Int) by omega), mulOut]
    exact Ev.bind (trim_val out (by omega)) (Ev.now _)
  | succ d ih =>
    intro i out h ho ho2
    refine up ?_
    simp only [spec_poProduct.l0, if_pos (show (i : Int) < (a.length : Int) by omega), if_pos (show (0 : Int) ≤ (i : Int) by omega)]
    exact sMul_l1 a b hb (by omega) b.length 0 out (by omega) (by omega) (ih (i + 1) (mulIn (rd a i) b i out 0 b.length) (by omega) (by rw [mulIn_len]; exact ho) (by rw [mulIn_len]; exact ho2))
theorem rd_left {l m : List Int} {j : Nat} (h : j < l.length) : rd (l ++ m) (j : Int) = rd l (j : Int) := by
  unfold rd
  rw [Int.toNat_natCast, List.getD_eq_getElem?_getD, List.getD_eq_getElem?_getD, List.getElem?_append_left h]
theorem mulIn_more (x : Int) (b : List Int) (i : Nat) (t : List Int) : ∀ d k out, i + k + d ≤ out.length → mulIn x b i (out ++ t) k d = mulIn x b i out k d ++ t
  | 0, _, _, _ => rfl
  | d + 1, k, out, h => by
    unfold mulIn
    rw [rd_left (by omega), List.set_append_left _ _ (by omega)]
    exact mulIn_more x b i t d (k + 1) _ (by rw [List.length_set]; omega)
theorem mulOut_more (a b t : List Int) : ∀ d i out, i + d + b.length ≤ out.length + 1 → mulOut a b (out ++ t) i d = mulOut a b out i d ++ t
  | 0, _, _, _ => rfl
  | d + 1, i, out, h => by
    unfold mulOut
    rw [mulIn_more _ b i t b.length 0 out (by omega)]
    exact mulOut_more a b t d (i + 1) _ (by rw [mulIn_len]; omega)
theorem cutB_zeros (n : Nat) : cutB (List.replicate n 0) = [] := by
  induction n with
  | zero => rfl
  | succ n ih => rw [List.replicate_succ', cutB_zero, ih]
theorem mulOut_nil (a : List Int) : ∀ d i out, mulOut a [] out i d = out
  | 0, _, _ => rfl
  | d + 1, i, out => by unfold mulOut; exact mulOut_nil a d (i + 1) out
theorem sMul_val (a b : List Int) (ha : a.length ≤ 1000) (hb : b.length ≤ 1000) : Ev (fun q => spec_poProduct.f q a b) (prodP a b) := by
  have jt : Ev (fun q => spec_poProduct.j0 q a b true) [] := by refine up ?_; simp only [spec_poProduct.j0, if_true]; exact Ev.now _
  simp only [spec_poProduct.f]
  by_cases h0 : a.length = 0
  · rw [if_pos_ev (show (a.length : Int) = 0 by omega)]
    obtain rfl := List.eq_nil_of_length_eq_zero h0
    have e : prodP [] b = [] := by unfold prodP mulOut; exact cutB_zeros _
    rw [e]; exact jt
  · rw [if_neg_ev (show ¬ (a.length : Int) = 0 by omega)]
    by_cases h1 : b.length = 0
    · obtain rfl := List.eq_nil_of_length_eq_zero h1
      have e : prodP a [] = [] := by unfold prodP; rw [mulOut_nil]; exact cutB_zeros _
      rw [e]; exact jt
    · have e : ((b.length : Int) == 0) = false := beq_eq_false_iff_ne.mpr (by omega)
      rw [e]
      refine up ?_
      have e2 : wrap64 (wrap64 ((a.length : Int) + (b.length : Int)) - 1) = ((a.length + b.length - 1 : Nat) : Int) := by
        rw [wid (x := (a.length : Int) + (b.length : Int)) (by omega) (by omega), wid (x := (a.length : Int) + (b.length : Int) - 1) (by omega) (by omega)]; omega
      simp only [spec_poProduct.j0, Bool.false_eq_true, if_false, e2, Int.toNat_natCast, if_pos (show (0 : Int) ≤ ((a.length + b.length - 1 : Nat) : Int) by omega), if_pos (show a.length + b.length - 1 ≤ 35184372088832 by omega)]
      have h := sMul_l0 a b ha hb (by omega) a.length 0 (List.replicate (a.length + b.length - 1) 0) (by omega) (by rw [List.length_replicate]; omega) (by rw [List.length_replicate]; omega)
      have e3 : prodP a b = cutB (mulOut a b (List.replicate (a.length + b.length - 1) 0) 0 a.length) := by
        unfold prodP
        have e4 : List.replicate (a.length + b.length) (0 : Int) = List.replicate (a.length + b.length - 1) 0 ++ [0] := by
          have e5 : a.length + b.length = a.length + b.length - 1 + 1 := by omega
          conv => lhs; rw [e5]
          exact List.replicate_succ'
        rw [e4, mulOut_more a b [0] a.length 0 _ (by rw [List.length_replicate]; omega), cutB_zero]
      rw [e3]; exact h
theorem mulIn_zeros (x : Int) (i : Nat) : ∀ n, i < n → mulIn x [0] i (List.replicate n 0) 0 1 = List.replicate n 0 := by
  intro n h
  have e1 : rd (List.replicate n 0) ((i + 0 : Nat) : Int) = 0 := by
    rw [rd_at (by rw [List.length_replicate]; omega)]; simp
  have e2 : rd [0] ((0 : Nat) : Int) = 0 := rfl
  simp only [mulIn, e1, e2, Int.mul_zero]
  have w0 : wrap64 0 = 0 := wid (by decide) (by decide)
  rw [w0, Int.add_zero, w0]
  apply List.ext_getElem
  · simp
  · intro j h1 h2
    rw [List.getElem_set]
    split <;> simp
theorem mulOut_zeros (a : List Int) (n : Nat) : ∀ d i, i + d ≤ n → mulOut a [0] (List.replicate n 0) i d = List.replicate n 0
  | 0, _, _ => rfl
  | d + 1, i, h => by
    unfold mulOut
    rw [show ([0] : List Int).length = 1 from rfl, mulIn_zeros _ i n (by omega)]
    exact mulOut_zeros a n d (i + 1) (by omega)
theorem prodP_zero (a : List Int) : prodP a [0] = [] := by
  unfold prodP
  rw [mulOut_zeros a _ a.length 0 (by simp)]
  exact cutB_zeros _
theorem prodP_nil (a : List Int) : prodP a [] = [] := by unfold prodP; rw [mulOut_nil]; exact cutB_zeros _
theorem prodP_cut (a : List Int) (c : Int) : prodP a (cutB [c]) = prodP a [c] := by
  by_cases h : c = 0
  · subst h
    rw [prodP_zero, show cutB [0] = [] from rfl, prodP_nil]
  · rw [show cutB [c] = [c] from cutB_ne [] h]
def coefB (n : Int) : Bool := decide (-1000000 ≤ n) && decide (n ≤ 1000000)
def inB (x lo hi : Int) : Bool := decide (lo ≤ x) && decide (x ≤ hi)
theorem iIn_val (x a b : Int) : impl_in.f x a b = some (inB x a b) := by
  unfold impl_in.f inB
  by_cases h : a ≤ x
  · rw [if_pos h]; simp [h]
  · rw [if_neg h]; simp [h]
theorem iCoef_val (n : Int) : impl_coefOk.f n = some (coefB n) := by simp only [impl_coefOk.f, iIn_val, Option.bind_some]; rfl
/-- Whether an op is right at its place. -/
def opB (o : S109) (i : Int) : Bool :=
  if o.f0 = 0 then coefB o.f1 && (o.f2 == 0)
  else if o.f0 = 1 ∨ o.f0 = 3 then inB o.f1 0 i && inB o.f2 0 i
  else if o.f0 = 2 then inB o.f1 0 i && coefB o.f2
  else false
theorem opok_val (o : S109) (i : Int) : Ev (fun q => impl_Op_ok.f q o.f0 o.f1 o.f2 i) (opB o i) := by
  obtain ⟨x, a, b⟩ := o
  dsimp only
  unfold opB
  dsimp only
  simp only [impl_Op_ok.f]
  by_cases h0 : x = 0
  · rw [if_pos_ev h0, if_pos h0]
    simp only [iCoef_val, Option.bind_some]
    cases coefB a <;> simp <;> exact Ev.now _
  · rw [if_neg_ev h0, if_neg h0]
    have hj : ∀ y : Bool, Ev (fun q => impl_Op_ok.j0 q i x y x a b) (if y = true then inB a 0 i && inB b 0 i else if x = 2 then inB a 0 i && coefB b else false) := fun y => by
      refine up ?_
      cases y with
      | true =>
        simp only [impl_Op_ok.j0, if_true, iIn_val, Option.bind_some]
        cases inB a 0 i <;> simp <;> exact Ev.now _
      | false =>
        simp only [impl_Op_ok.j0, Bool.false_eq_true, if_false]
        by_cases h2 : x = 2
        · simp only [if_pos h2, iIn_val, iCoef_val, Option.bind_some]
          cases inB a 0 i <;> simp <;> exact Ev.now _
        · simp only [if_neg h2]; exact Ev.now _
    by_cases h1 : x = 1
    · rw [if_pos_ev h1, if_pos (.inl h1)]
      have := hj (x == 1)
      rw [show (x == 1) = true by simp [h1]] at this ⊢
      exact this
    · rw [if_neg_ev h1]
      have := hj (x == 3)
      by_cases h3 : x = 3
      · rw [if_pos (.inr h3)]
        rw [show (x == 3) = true by simp [h3]] at this ⊢
        exact this
      · rw [if_neg (by omega)]
        rw [show (x == 3) = false by simp [h3]] at this ⊢
        exact this
/-- The next polynomial, as both make it. -/
def nextP (o : S109) (P : List (List Int)) : List Int :=
  if o.f0 = 0 then cutB [o.f1] else if o.f0 = 1 then sumP (rdLL P o.f1) (rdLL P o.f2) else if o.f0 = 2 then prodP (rdLL P o.f1) [o.f2] else prodP (rdLL P o.f1) (rdLL P o.f2)
theorem inB_iff {x lo hi : Int} : inB x lo hi = true ↔ lo ≤ x ∧ x ≤ hi := by unfold inB; simp
theorem rdLL_small {P : List (List Int)} (hP : ∀ p ∈ P, p.length ≤ 17) {x : Int} : (rdLL P x).length ≤ 17 := by
  unfold rdLL
  rw [List.getD_eq_getElem?_getD]
  by_cases h : x.toNat < P.length
  · rw [List.getElem?_eq_getElem h]; exact hP _ (List.getElem_mem h)
  · rw [List.getElem?_eq_none (by omega)]; simp
theorem pcNext_val (o : S109) (P : List (List Int)) (hP : ∀ p ∈ P, p.length ≤ 17) (h : opB o ((P.length : Int) - 1) = true) : Ev (fun q => pcNext q o P) (nextP o P) := by
  obtain ⟨x, a, b⟩ := o
  unfold opB at h
  unfold nextP
  simp only [pcNext]
  dsimp only at h ⊢
  by_cases h0 : x = 0
  · simp only [if_pos h0]; exact cut_val _ _ rfl (by simp)
  · simp only [if_neg h0] at h ⊢
    by_cases h1 : x = 1
    · simp only [if_pos h1, if_pos (show x = 1 ∨ x = 3 from .inl h1)] at h ⊢
      rw [Bool.and_eq_true, inB_iff, inB_iff] at h
      rw [if_pos_ev (by omega)]
      have := rdLL_small hP (x := a); have := rdLL_small hP (x := b)
      exact iSum_val _ _ (by omega) (by omega)
    · simp only [if_neg h1] at ⊢
      by_cases h2 : x = 2
      · simp only [if_neg (show ¬ (x = 1 ∨ x = 3) by omega), if_pos h2] at h ⊢
        rw [Bool.and_eq_true, inB_iff] at h
        rw [if_pos_ev (by omega)]
        have := rdLL_small hP (x := a)
        exact iMul_val _ _ (by omega) (by simp)
      · by_cases h3 : x = 3
        · simp only [if_pos (show x = 1 ∨ x = 3 from .inr h3)] at h
          simp only [if_neg h2, if_pos h3]
          rw [Bool.and_eq_true, inB_iff, inB_iff] at h
          rw [if_pos_ev (by omega)]
          have := rdLL_small hP (x := a); have := rdLL_small hP (x := b)
          exact iMul_val _ _ (by omega) (by omega)
        · simp only [if_neg (show ¬ (x = 1 ∨ x = 3) by omega), if_neg h2] at h
          cases h
/-- All polynomials of a code: none where one is not right. -/
def polysB : List S109 → List (List Int) → Option (List (List Int))
  | [], P => some P
  | o :: r, P => if opB o ((P.length : Int) - 1) = true then (if polyB (nextP o P) = true then polysB r (P ++ [nextP o P]) else none) else none
theorem polyB_len {l : List Int} (h : polyB l = true) : l.length ≤ 17 := by
  unfold polyB at h
  rw [Bool.and_eq_true] at h
  exact of_decide_eq_true h.1
theorem small_app {P : List (List Int)} (hP : ∀ p ∈ P, p.length ≤ 17) {n : List Int} (hn : n.length ≤ 17) : ∀ p ∈ P ++ [n], p.length ≤ 17 := by
  intro p hp
  rcases List.mem_append.1 hp with hp | hp
  · exact hP p hp
  · rw [List.mem_singleton] at hp; subst hp; exact hn
def resB (x : Option (List (List Int))) : List (List Int) × Bool := match x with | some P => (P, true) | none => ([], false)
theorem pcLoop_val : ∀ (ops : List S109) (P : List (List Int)), (∀ p ∈ P, p.length ≤ 17) → P.length + ops.length ≤ 900 → Ev (fun q => pcLoop q ops ((P.length : Int) - 1) P) (resB (polysB ops P))
  | [], P, _, _ => by simp only [pcLoop, polysB, resB]; exact Ev.now _
  | o :: r, P, hP, hl => by
    rw [List.length_cons] at hl
    simp only [pcLoop, polysB]
    cases h : opB o ((P.length : Int) - 1) with
    | false =>
      have hs : Ev (fun q => pcStep q o ((P.length : Int) - 1) P) none := by
        have hop := opok_val o ((P.length : Int) - 1)
        rw [h] at hop
        simp only [pcStep]
        refine Ev.bind hop ?_
        simp only [Bool.false_eq_true, if_false]
        exact Ev.now _
      refine Ev.bind hs ?_
      simp only [Bool.false_eq_true, if_false, resB]
      exact Ev.now _
    | true =>
      have hop := opok_val o ((P.length : Int) - 1)
      rw [h] at hop
      have hn := pcNext_val o P hP h
      simp only [if_true]
      cases hb : polyB (nextP o P) with
      | false =>
        have hs : Ev (fun q => pcStep q o ((P.length : Int) - 1) P) none := by
          simp only [pcStep]
          refine Ev.bind hop ?_
          simp only [if_true]
          refine Ev.bind hn ?_
          simp only [impl_polynomialOk.f, hb, Option.bind_some, Bool.false_eq_true, if_false]
          exact Ev.now _
        refine Ev.bind hs ?_
        simp only [Bool.false_eq_true, if_false, resB]
        exact Ev.now _
      | true =>
        have hs : Ev (fun q => pcStep q o ((P.length : Int) - 1) P) (some (nextP o P)) := by
          simp only [pcStep]
          refine Ev.bind hop ?_
          simp only [if_true]
          refine Ev.bind hn ?_
          simp only [impl_polynomialOk.f, hb, Option.bind_some, if_true]
          exact Ev.now _
        refine Ev.bind hs ?_
        simp only [if_true, if_pos (show P.length < 1000 by omega)]
        have := pcLoop_val r (P ++ [nextP o P]) (small_app hP (polyB_len hb)) (by rw [List.length_append, List.length_singleton]; omega)
        rw [List.length_append, List.length_singleton, show ((P.length + 1 : Nat) : Int) - 1 = ((P.length : Int) - 1) + 1 by omega] at this
        exact this
/-- Whether something is a code. -/
def codeB (ops : List S109) (out : Int) : Bool := decide (ops.length ≤ 120) && (inB out 0 ops.length && (polysB ops [[0, 1]]).isSome)
theorem start_small : ∀ p ∈ ([[0, 1]] : List (List Int)), p.length ≤ 17 := by intro p hp; rw [List.mem_singleton] at hp; subst hp; simp
theorem implCode (ops : List S109) (out : Int) : Ev (fun q => impl_IsCode.f q ops out) (codeB ops out) := by
  simp only [impl_IsCode.f, polysF, codeB]
  by_cases h1 : ops.length > 120
  · rw [show decide (ops.length ≤ 120) = false from decide_eq_false (by omega), Bool.false_and]
    simp only [if_pos h1, Option.bind_some]; exact Ev.now _
  · rw [show decide (ops.length ≤ 120) = true from decide_eq_true (by omega), Bool.true_and]
    simp only [if_neg h1]
    by_cases h2 : 0 ≤ out ∧ out ≤ (ops.length : Int)
    · rw [show inB out 0 ops.length = true from inB_iff.2 h2, Bool.true_and]
      simp only [if_pos h2]
      have := pcLoop_val ops [[0, 1]] start_small (by simp; omega)
      refine Ev.bind this ?_
      cases h : polysB ops [[0, 1]] <;> simp only [resB, Option.isSome] <;> exact Ev.now _
    · rw [show inB out 0 ops.length = false from by rw [Bool.eq_false_iff]; exact fun h => h2 (inB_iff.1 h), Bool.false_and]
      simp only [if_neg h2, Option.bind_some]; exact Ev.now _
theorem small_val (l : List Int) (hl : l.length ≤ 1000000) : Ev (fun q => spec_poSmall.f q l) (polyB l) := by
  simp only [spec_poSmall.f]
  by_cases h : l.length ≤ 17
  · rw [if_pos_ev (show (l.length : Int) ≤ 17 by omega)]
    refine Ev.bind (l1All_val (-1000000) 1000000 l (by omega)) ?_
    have e : polyB l = allIn (-1000000) 1000000 l := by
      unfold polyB
      rw [show decide (l.length ≤ 17) = true from decide_eq_true h, Bool.true_and]
      rfl
    rw [e]; exact Ev.now _
  · rw [if_neg_ev (show ¬ (l.length : Int) ≤ 17 by omega), show polyB l = false by unfold polyB; rw [show decide (l.length ≤ 17) = false from decide_eq_false h]; rfl]
    exact Ev.now _
/-- What the reference tells of an op: its polynomial if it is right. -/
theorem poOp_val (o : S109) (P : List (List Int)) (hP : ∀ p ∈ P, p.length ≤ 17) (hl : P.length ≤ 1000000) (h1 : 1 ≤ P.length) : ∃ r, Ev (fun q => spec_poOp.f q o.f0 o.f1 o.f2 P) (r, opB o ((P.length : Int) - 1)) ∧ (opB o ((P.length : Int) - 1) = true → r = nextP o P) := by
  obtain ⟨x, a, b⟩ := o
  dsimp only
  have hn : wrap64 ((P.length : Int) - 1) = (P.length : Int) - 1 := wid (by omega) (by omega)
  obtain ⟨n, hn2⟩ : ∃ n, n = (P.length : Int) - 1 := ⟨_, rfl⟩
  have key : ∀ A B : Bool, A = inB a 0 n → B = (A && inB b 0 n) → ∃ r, Ev (fun q => spec_poOp.j0 q P A B x a b) (r, opB ⟨x, a, b⟩ n) ∧ (opB ⟨x, a, b⟩ n = true → r = nextP ⟨x, a, b⟩ P) := by
    intro A B hA hB
    by_cases h0 : x = 0
    · refine ⟨cutB [a], up ?_, fun _ => by unfold nextP; rw [if_pos h0]⟩
      simp only [spec_poOp.j0, if_pos h0]
      refine Ev.bind (trim_val [a] (by simp)) ?_
      simp only [l1In_val, Option.bind_some]
      have e : opB ⟨x, a, b⟩ n = (coefB a && (b == 0)) := by unfold opB; rw [if_pos h0]
      rw [e]
      unfold coefB
      cases (decide (-1000000 ≤ a) && decide (a ≤ 1000000)) with
      | true => simp only [if_true, Bool.true_and]; exact Ev.now _
      | false => simp only [Bool.false_eq_true, if_false, Bool.false_and]; exact Ev.now _
    · have hsmall := fun y : Int => rdLL_small hP (x := y)
      have hrd : ∀ y : Int, rd_L1 P y = rdLL P y := fun _ => rfl
      have hj2 : ∀ C : Bool, C = (decide (x = 2) && (A && coefB b)) → x ≠ 1 → ∃ r, Ev (fun q => spec_poOp.j2 q P B C x a b) (r, opB ⟨x, a, b⟩ n) ∧ (opB ⟨x, a, b⟩ n = true → r = nextP ⟨x, a, b⟩ P) := by
        intro C hC hx1
        by_cases h2 : x = 2
        · have e : opB ⟨x, a, b⟩ n = C := by unfold opB; rw [if_neg h0, if_neg (by dsimp only; omega), if_pos h2, hC, hA]; simp [h2]
          rw [e]
          cases hc : C with
          | true =>
            have hA2 : inB a 0 n = true := by
              rw [hc] at hC
              simp only [h2, decide_true, Bool.true_and] at hC
              have := hC.symm
              rw [Bool.and_eq_true] at this
              rw [← hA]; exact this.1
            rw [inB_iff] at hA2
            refine ⟨prodP (rdLL P a) [b], up ?_, fun _ => by unfold nextP; rw [if_neg h0, if_neg (by dsimp only; omega), if_pos h2]⟩
            simp only [spec_poOp.j2, if_true, if_pos hA2.1, if_pos (show a < (P.length : Int) by omega), hrd]
            refine Ev.bind (trim_val [b] (by simp)) ?_
            have hq : (cutB [b]).length ≤ 1 := cutB_len [b]
            have := sMul_val (rdLL P a) (cutB [b]) (by have := hsmall a; omega) (by omega)
            rw [prodP_cut] at this
            exact Ev.bind this (Ev.now _)
          | false =>
            refine ⟨[], up ?_, fun h => by cases h⟩
            simp only [spec_poOp.j2, Bool.false_eq_true, if_false, if_neg (show ¬ x = 3 by omega)]
            exact Ev.now _
        · have hC2 : C = false := by rw [hC]; simp [h2]
          subst hC2
          by_cases h3 : x = 3
          · have e : opB ⟨x, a, b⟩ n = B := by unfold opB; rw [if_neg h0, if_pos (.inr h3), hB, hA]
            rw [e]
            cases hb : B with
            | true =>
              have hAB : inB a 0 n = true ∧ inB b 0 n = true := by
                rw [hb, hA] at hB
                have := hB.symm
                rw [Bool.and_eq_true] at this
                exact this
              rw [inB_iff, inB_iff] at hAB
              refine ⟨prodP (rdLL P a) (rdLL P b), up ?_, fun _ => by unfold nextP; rw [if_neg h0, if_neg (by dsimp only; omega), if_neg (by dsimp only; omega)]⟩
              simp only [spec_poOp.j2, Bool.false_eq_true, if_false, if_pos h3, if_true, if_pos hAB.1.1, if_pos (show a < (P.length : Int) by omega), if_pos hAB.2.1, if_pos (show b < (P.length : Int) by omega), hrd]
              exact Ev.bind (sMul_val _ _ (by have := hsmall a; omega) (by have := hsmall b; omega)) (Ev.now _)
            | false =>
              refine ⟨[], up ?_, fun h => by cases h⟩
              simp only [spec_poOp.j2, Bool.false_eq_true, if_false, if_pos h3]
              exact Ev.now _
          · have e : opB ⟨x, a, b⟩ n = false := by unfold opB; rw [if_neg h0, if_neg (by dsimp only; omega), if_neg h2]
            rw [e]
            refine ⟨[], up ?_, fun h => by cases h⟩
            simp only [spec_poOp.j2, Bool.false_eq_true, if_false, if_neg h3]
            exact Ev.now _
      have hj1f : x ≠ 1 → ∃ r, Ev (fun q => spec_poOp.j1 q P A B false x a b) (r, opB ⟨x, a, b⟩ n) ∧ (opB ⟨x, a, b⟩ n = true → r = nextP ⟨x, a, b⟩ P) := by
        intro hx1
        by_cases h2 : x = 2
        · cases hAv : A with
          | true =>
            obtain ⟨r, h3, h4⟩ := hj2 (coefB b) (by rw [hAv]; simp [h2]) hx1
            refine ⟨r, up ?_, h4⟩
            simp only [spec_poOp.j1, Bool.false_eq_true, if_false, if_pos h2, if_true, l1In_val, Option.bind_some]
            exact h3
          | false =>
            obtain ⟨r, h3, h4⟩ := hj2 false (by rw [hAv]; simp) hx1
            refine ⟨r, up ?_, h4⟩
            simp only [spec_poOp.j1, Bool.false_eq_true, if_false, if_pos h2]
            exact h3
        · obtain ⟨r, h3, h4⟩ := hj2 false (by simp [h2]) hx1
          refine ⟨r, up ?_, h4⟩
          simp only [spec_poOp.j1, Bool.false_eq_true, if_false, if_neg h2]
          exact h3
      by_cases h1 : x = 1
      · have e : opB ⟨x, a, b⟩ n = B := by unfold opB; rw [if_neg h0, if_pos (.inl h1), hB, hA]
        rw [e]
        cases hb : B with
        | true =>
          have hAB : inB a 0 n = true ∧ inB b 0 n = true := by
            rw [hb, hA] at hB
            have := hB.symm
            rw [Bool.and_eq_true] at this
            exact this
          rw [inB_iff, inB_iff] at hAB
          refine ⟨sumP (rdLL P a) (rdLL P b), up ?_, fun _ => by unfold nextP; rw [if_neg h0, if_pos h1]⟩
          simp only [spec_poOp.j0, if_neg h0, if_pos h1]
          refine up ?_
          simp only [spec_poOp.j1, if_true, if_pos hAB.1.1, if_pos (show a < (P.length : Int) by omega), if_pos hAB.2.1, if_pos (show b < (P.length : Int) by omega), hrd]
          exact Ev.bind (sSum_val _ _ (by have := hsmall a; omega) (by have := hsmall b; omega)) (Ev.now _)
        | false =>
          refine ⟨[], up ?_, fun h => by cases h⟩
          simp only [spec_poOp.j0, if_neg h0, if_pos h1]
          refine up ?_
          simp only [spec_poOp.j1, Bool.false_eq_true, if_false, if_neg (show ¬ x = 2 by omega)]
          refine up ?_
          simp only [spec_poOp.j2, Bool.false_eq_true, if_false, if_neg (show ¬ x = 3 by omega)]
          exact Ev.now _
      · obtain ⟨r, h3, h4⟩ := hj1f h1
        refine ⟨r, up ?_, h4⟩
        simp only [spec_poOp.j0, if_neg h0, if_neg h1]
        exact h3
  rw [← hn2]
  have e1 : ∀ y : Int, (decide ((0 : Int) ≤ y) && decide (y ≤ n)) = inB y 0 n := fun _ => rfl
  cases hA : inB a 0 n with
  | true =>
    obtain ⟨r, h3, h4⟩ := key true (inB b 0 n) hA.symm (by rw [Bool.true_and])
    refine ⟨r, ?_, h4⟩
    simp only [spec_poOp.f, show wrap64 ((P.length : Int) - 1) = n from hn.trans hn2.symm, l1In_val, Option.bind_some, e1, hA, if_true]
    exact h3
  | false =>
    obtain ⟨r, h3, h4⟩ := key false false hA.symm (by rw [Bool.false_and])
    refine ⟨r, ?_, h4⟩
    simp only [spec_poOp.f, show wrap64 ((P.length : Int) - 1) = n from hn.trans hn2.symm, l1In_val, Option.bind_some, e1, hA, Bool.false_eq_true, if_false]
    exact h3
theorem rdOp_at {T : List S109} {i : Nat} (h : i < T.length) : rd_T109 T (i : Int) = T[i] := by
  unfold rd_T109
  rw [Int.toNat_natCast, List.getD_eq_getElem?_getD, List.getElem?_eq_getElem h]; rfl
theorem nextP_len (o : S109) (P : List (List Int)) (hP : ∀ p ∈ P, p.length ≤ 17) : (nextP o P).length ≤ 100 := by
  have h1 := rdLL_small hP (x := o.f1)
  have h2 := rdLL_small hP (x := o.f2)
  unfold nextP
  split
  · have := cutB_len [o.f1]; simp at this; omega
  · split
    · unfold sumP
      refine Nat.le_trans (cutB_len _) ?_
      rw [addTo_len, addTo_len, List.length_replicate]; omega
    · split
      · unfold prodP
        refine Nat.le_trans (cutB_len _) ?_
        rw [mulOut_len, List.length_replicate, List.length_singleton]; omega
      · unfold prodP
        refine Nat.le_trans (cutB_len _) ?_
        rw [mulOut_len, List.length_replicate]; omega
theorem poValues_loop (ops : List S109) (out : Int) (hl : ops.length ≤ 120) : ∀ (d i : Nat) (P : List (List Int)), i + d = ops.length → P.length = i + 1 → (∀ p ∈ P, p.length ≤ 17) → ∃ R : List (List Int) × Bool, Ev (fun q => spec_poValues.l0 q P ops (ops.length : Int) i ops out) R ∧ R = (match polysB (ops.drop i) P with | some P' => (P', inB out 0 ops.length) | none => ([], false)) := by
  intro d
  induction d with
  | zero =>
    intro i P h hp hP
    rw [List.drop_of_length_le (by omega)]
    refine ⟨_, up ?_, rfl⟩
    simp only [spec_poValues.l0, if_neg (show ¬ (i : Int) < (ops.length : Int) by omega), l1In_val, Option.bind_some, polysB]
    exact Ev.now _
  | succ d ih =>
    intro i P h hp hP
    have hi : i < ops.length := by omega
    obtain ⟨r, h1, h2⟩ := poOp_val ops[i] P hP (by omega) (by omega)
    have e : (P.length : Int) - 1 = (i : Int) := by omega
    rw [List.drop_eq_getElem_cons hi]
    unfold polysB
    have hgo : ∀ R, Ev (fun q => (if (opB ops[i] ((P.length : Int) - 1)) = true then ((spec_poSmall.f q r).bind fun t => if t = true then (if P.length < 5864062014805 then spec_poValues.l0 q (P ++ [r]) ops (ops.length : Int) ((i + 1 : Nat) : Int) ops out else none) else some ([], false)) else some ([], false))) R → Ev (fun q => spec_poValues.l0 q P ops (ops.length : Int) i ops out) R := by
      intro R hR
      refine up ?_
      simp only [spec_poValues.l0, if_pos (show (i : Int) < (ops.length : Int) by omega), if_pos (show (0 : Int) ≤ (i : Int) by omega), rdOp_at hi, wid (x := (i : Int) + 1) (by omega) (by omega)]
      exact Ev.bind h1 hR
    cases hb : opB ops[i] ((P.length : Int) - 1) with
    | false =>
      refine ⟨([], false), hgo _ ?_, by simp⟩
      rw [hb]
      simp only [Bool.false_eq_true, if_false]
      exact Ev.now _
    | true =>
      obtain rfl := h2 hb
      have hnl := nextP_len ops[i] P hP
      simp only [if_true]
      cases hs : polyB (nextP ops[i] P) with
      | false =>
        refine ⟨([], false), hgo _ ?_, by simp⟩
        rw [hb]
        simp only [if_true]
        have := small_val (nextP ops[i] P) (by omega)
        rw [hs] at this
        refine Ev.bind this ?_
        simp only [Bool.false_eq_true, if_false]
        exact Ev.now _
      | true =>
        obtain ⟨R, h3, h4⟩ := ih (i + 1) (P ++ [nextP ops[i] P]) (by omega) (by rw [List.length_append, List.length_singleton]; omega) (small_app hP (polyB_len hs))
        refine ⟨R, hgo _ ?_, by simpa using h4⟩
        rw [hb]
        simp only [if_true]
        have := small_val (nextP ops[i] P) (by omega)
        rw [hs] at this
        refine Ev.bind this ?_
        simp only [if_true, if_pos (show P.length < 5864062014805 by omega)]
        exact h3
theorem specGood (ops : List S109) (out : Int) : Ev (fun q => spec_poGood.f q ops out) (codeB ops out) := by
  simp only [spec_poGood.f, spec_poValues.f, codeB]
  by_cases h1 : ops.length > 120
  · rw [show decide (ops.length ≤ 120) = false from decide_eq_false (by omega), Bool.false_and]
    simp only [if_pos (show (ops.length : Int) > 120 by omega), Option.bind_some]; exact Ev.now _
  · rw [show decide (ops.length ≤ 120) = true from decide_eq_true (by omega), Bool.true_and]
    simp only [if_neg (show ¬ (ops.length : Int) > 120 by omega)]
    obtain ⟨R, h2, h3⟩ := poValues_loop ops out (by omega) ops.length 0 [[0, 1]] (by omega) rfl start_small
    refine Ev.bind h2 ?_
    rw [h3, List.drop_zero]
    cases polysB ops [[0, 1]] with
    | none => simp only [Option.isSome, Bool.and_false]; exact Ev.now _
    | some P => simp only [Option.isSome, Bool.and_true]; exact Ev.now _
/-- What a code is told as, if it is one. -/
def ifV (ops : List S109) (out : Int) : List S109 × Int × Bool := if codeB ops out = true then (ops, out, true) else ([], 0, false)
theorem poIf_val (ops : List S109) (out : Int) : Ev (fun q => spec_poIf.f q ops out) (ifV ops out) := by
  simp only [spec_poIf.f]
  refine Ev.bind (specGood ops out) ?_
  unfold ifV
  cases codeB ops out with
  | true => simp only [if_true]; exact Ev.now _
  | false => simp only [Bool.false_eq_true, if_false]; exact Ev.now _
theorem told_val (ops : List S109) (out : Int) : Ev (fun q => impl_toldCode.f q ops out) (ifV ops out) := by
  simp only [impl_toldCode.f]
  refine Ev.bind (implCode ops out) ?_
  unfold ifV
  cases codeB ops out with
  | true => simp only [if_true]; exact Ev.now _
  | false => simp only [Bool.false_eq_true, if_false]; exact Ev.now _
theorem ifV_len (ops : List S109) (out : Int) : (ifV ops out).1.length ≤ ops.length := by
  unfold ifV
  split
  · exact Nat.le_refl _
  · exact Nat.zero_le _
/-! The code by groups: the reference's is the program's. -/
def spw (n : Nat) : List Int := (List.range (n + 1)).map fun i => ((i : Nat) : Int)
theorem spw_length (n : Nat) : (spw n).length = n + 1 := by simp [spw]
theorem spw_succ (n : Nat) : spw (n + 1) = spw n ++ [(n : Int) + 1] := by simp [spw, List.range_succ]
theorem gcPw_cons (n : Nat) : gcPw n = (-1) :: spw n := rfl
theorem rd_cons (a : Int) (l : List Int) (i : Nat) : rd (a :: l) ((i : Int) + 1) = rd l (i : Int) := by
  unfold rd
  rw [Int.toNat_natCast, show ((i : Int) + 1).toNat = i + 1 by omega, List.getD_cons_succ]
theorem poAdd_val (l : List S109) (o a b c : Int) (hl : l.length ≤ 1000000) : spec_poAdd.f l o a b c = some (l ++ [⟨a, b, c⟩], 0, (l.length : Int) + 1) := by
  simp only [spec_poAdd.f, Option.bind_some, List.nil_append, List.length_nil, Nat.zero_add, if_pos (show l.length < 5864062014805 by omega), List.length_append, List.length_singleton]
  rfl
theorem powers_loop (most : Int) (n : Nat) (hn : (n : Int) = most - 1 ∨ n = 0 ∧ most ≤ 1) (hn2 : n ≤ 100) : ∀ (d i : Nat), i + d = n → Ev (fun k => spec_poPowers.l0 k most (spw i) (i : Int) ((i : Int) + 2) (gcPops i) 0) (gcPops n, 0, spw n) := by
  intro d
  induction d with
  | zero =>
    intro i h
    obtain rfl : i = n := by omega
    refine up ?_
    simp only [spec_poPowers.l0, if_neg (show ¬ (i : Int) + 2 ≤ most by omega)]
    exact Ev.now _
  | succ d ih =>
    intro i h
    refine up ?_
    have hp := poAdd_val (gcPops i) 0 3 (i : Int) 0 (by rw [gcPops_length]; omega)
    rw [← gcPops_succ, gcPops_length] at hp
    simp only [spec_poPowers.l0, if_pos (show (i : Int) + 2 ≤ most by omega), hp, Option.bind_some, if_pos (show (spw i).length < 17592186044416 by rw [spw_length]; omega), wid (x := (i : Int) + 2 + 1) (by omega) (by omega)]
    have := ih (i + 1) (by omega)
    rw [spw_succ, show ((i + 1 : Nat) : Int) + 2 = (i : Int) + 2 + 1 by omega, show ((i + 1 : Nat) : Int) = (i : Int) + 1 by omega] at this
    exact this
theorem powers_val (most : Int) (n : Nat) (hn : (n : Int) = most - 1 ∨ n = 0 ∧ most ≤ 1) (hn2 : n ≤ 100) : Ev (fun k => spec_poPowers.f k [] 0 most) (gcPops n, 0, spw n) := powers_loop most n hn hn2 n 0 (by omega)
theorem group_loop (c0 : Int) (r sp : List Int) (hr : r.length ≤ 1000) (hsp : r.length ≤ sp.length) : ∀ (d i : Nat) (os : List S109) (a : Int), i + d = r.length → os.length + 2 * d ≤ 100000 →
    Ev (fun k => spec_poGroup.l0 k (c0 :: r) sp a ((i : Int) + 1) os 0) ((gcGrp ((-1) :: sp) (r.drop i) i os a).1, 0, (gcGrp ((-1) :: sp) (r.drop i) i os a).2) := by
  intro d
  induction d with
  | zero =>
    intro i os a h hl
    refine up ?_
    simp only [spec_poGroup.l0, if_neg (show ¬ (i : Int) + 1 < ((c0 :: r).length : Int) by rw [List.length_cons]; omega)]
    rw [List.drop_of_length_le (by omega)]
    exact Ev.now _
  | succ d ih =>
    intro i os a h hl
    have hi : i < r.length := by omega
    have h1 := poAdd_val os 0 2 (rd sp (i : Int)) r[i] (by omega)
    have e : ((os ++ [(⟨2, rd sp (i : Int), r[i]⟩ : S109)]).length : Int) + 1 = (os.length : Int) + 1 + 1 := by rw [List.length_append, List.length_singleton]; rfl
    have h2 := poAdd_val (os ++ [⟨2, rd sp (i : Int), r[i]⟩]) 0 1 a ((os.length : Int) + 1) (by rw [List.length_append, List.length_singleton]; omega)
    rw [e] at h2
    have hrd : rd (c0 :: r) ((i : Int) + 1) = r[i] := by rw [rd_cons, rd_at hi]
    refine up ?_
    simp only [spec_poGroup.l0, if_pos (show (i : Int) + 1 < ((c0 :: r).length : Int) by rw [List.length_cons]; omega), wid (x := (i : Int) + 1 - 1) (by omega) (by omega), show (i : Int) + 1 - 1 = (i : Int) by omega, wid (x := (i : Int)) (by omega) (by omega), if_pos (show (0 : Int) ≤ (i : Int) by omega), if_pos (show (i : Int) < (sp.length : Int) by omega), if_pos (show (0 : Int) ≤ (i : Int) + 1 by omega), hrd, h1, h2, Option.bind_some, wid (x := (i : Int) + 1 + 1) (by omega) (by omega)]
    have := ih (i + 1) (os ++ [⟨2, rd sp (i : Int), r[i]⟩] ++ [⟨1, a, (os.length : Int) + 1⟩]) ((os.length : Int) + 1 + 1) (by omega) (by simp only [List.length_append, List.length_singleton]; omega)
    rw [List.drop_eq_getElem_cons hi, gcGrp, rd_cons]
    rw [show ((i + 1 : Nat) : Int) + 1 = (i : Int) + 1 + 1 by omega] at this
    exact this
theorem group_val (c0 : Int) (r sp : List Int) (os : List S109) (hr : r.length ≤ 1000) (hsp : r.length ≤ sp.length) (hl : os.length ≤ 50000) : Ev (fun k => spec_poGroup.f k os 0 (c0 :: r) sp) ((gcGroup ((-1) :: sp) c0 r os).1, 0, (gcGroup ((-1) :: sp) c0 r os).2) := by
  have h1 := poAdd_val os 0 0 c0 0 (by omega)
  have hrd : rd (c0 :: r) 0 = c0 := rfl
  simp only [spec_poGroup.f, if_pos (show 0 < ((c0 :: r).length : Int) by rw [List.length_cons]; omega), hrd, h1, Option.bind_some]
  have := group_loop c0 r sp hr hsp r.length 0 (os ++ [⟨0, c0, 0⟩]) ((os.length : Int) + 1) (by omega) (by rw [List.length_append, List.length_singleton]; omega)
  rw [List.drop_zero] at this
  exact this
theorem take_cut (l : List Int) (f k : Nat) : (l.take (min (f + k) l.length)).drop f = (l.drop f).take k := by
  rw [List.drop_take]
  by_cases h : f + k ≤ l.length
  · rw [Nat.min_eq_left h, Nat.add_sub_cancel_left]
  · rw [Nat.min_eq_right (by omega), List.take_of_length_le (by rw [List.length_drop]; omega), List.take_of_length_le (by rw [List.length_drop]; omega)]
theorem cut_cons {l : List Int} {f k : Nat} (hf : f < l.length) (hk : 1 ≤ k) : ∃ c0 r, (l.drop f).take k = c0 :: r ∧ r.length + 1 = min k (l.length - f) := by
  have hlen : ((l.drop f).take k).length = min k (l.length - f) := by rw [List.length_take, List.length_drop]
  cases h : (l.drop f).take k with
  | nil => rw [h] at hlen; simp at hlen; omega
  | cons c0 r => rw [h, List.length_cons] at hlen; exact ⟨c0, r, rfl, hlen⟩
theorem giant_loop (l : List Int) (kk n J : Nat) (hl1 : 1 ≤ l.length) (hl2 : l.length ≤ 17) (hk1 : 1 ≤ kk) (hk2 : kk ≤ 17) (hJk : J * kk ≤ l.length - 1) (hkn : 1 ≤ J → kk < n + 2) (hnr : min kk l.length ≤ n + 2) : ∀ (j : Nat) (os : List S109) (a : Int), j ≤ J + 1 → (0 ≤ a → j ≤ J) → os.length + 40 * j ≤ 10000 →
    Ev (fun k => spec_poGiant.l0 k l (kk : Int) (spw n) a ((j : Int) * (kk : Int) - (kk : Int)) os 0) (gcGiant l kk (gcPw n) j os a) := by
  intro j
  induction j with
  | zero =>
    intro os a _ _ _
    refine up ?_
    simp only [spec_poGiant.l0, if_neg (show ¬ ((0 : Nat) : Int) * (kk : Int) - (kk : Int) ≥ 0 by omega)]
    exact Ev.now _
  | succ j ih =>
    intro os a hj ha hos
    obtain ⟨f, hf⟩ : ∃ f : Nat, j * kk = f := ⟨_, rfl⟩
    have hjk : j * kk ≤ J * kk := Nat.mul_le_mul_right _ (by omega)
    have hfl : f < l.length := by omega
    have e0 : ((j + 1 : Nat) : Int) * (kk : Int) - (kk : Int) = (f : Int) := by rw [← hf, Int.natCast_add, Int.add_mul]; simp
    have en : (f : Int) - (kk : Int) = (j : Int) * (kk : Int) - (kk : Int) := by rw [← hf]; simp
    obtain ⟨c0, r, hcs, hrm⟩ := cut_cons hfl hk1
    have hcs2 : (l.drop (j * kk)).take kk = c0 :: r := by rw [hf]; exact hcs
    rw [e0]
    have hm : min ((f : Int) + (kk : Int)) (l.length : Int) = ((min (f + kk) l.length : Nat) : Int) := by omega
    have hj1 : ∀ (a2 : Int) (os2 : List S109) (R : List S109 × Int), os2.length ≤ 20000 → (a2 < 0 → Ev (fun k => spec_poGiant.l0 k l (kk : Int) (spw n) (gcGroup (gcPw n) c0 r os2).2 ((f : Int) - (kk : Int)) (gcGroup (gcPw n) c0 r os2).1 0) R) → (0 ≤ a2 → Ev (fun k => spec_poGiant.l0 k l (kk : Int) (spw n) (((gcGroup (gcPw n) c0 r os2).1.length : Int) + 1) ((f : Int) - (kk : Int)) ((gcGroup (gcPw n) c0 r os2).1 ++ [⟨1, a2, (gcGroup (gcPw n) c0 r os2).2⟩]) 0) R) → Ev (fun k => spec_poGiant.j1 k l (kk : Int) (spw n) a2 (f : Int) os2 0) R := by
      intro a2 os2 R ho2 hneg hpos
      have hgl := gcGroup_length (gcPw n) c0 r os2
      have hg := group_val c0 r (spw n) os2 (by omega) (by rw [spw_length]; omega) (by omega)
      rw [← gcPw_cons] at hg
      refine up ?_
      simp only [spec_poGiant.j1, wid (x := (f : Int) + (kk : Int)) (by omega) (by omega), l1Least_val, hm, Option.bind_some, if_pos (show (0 : Int) ≤ (f : Int) by omega), if_pos (show (f : Int) ≤ ((min (f + kk) l.length : Nat) : Int) by omega), if_pos (show ((min (f + kk) l.length : Nat) : Int) ≤ (l.length : Int) by omega), Int.toNat_natCast, take_cut, hcs, wid (x := (f : Int) - (kk : Int)) (by omega) (by omega)]
      refine Ev.bind hg ?_
      by_cases h2 : a2 < 0
      · simp only [if_pos h2]
        exact hneg h2
      · have hp := poAdd_val (gcGroup (gcPw n) c0 r os2).1 0 1 a2 (gcGroup (gcPw n) c0 r os2).2 (by omega)
        simp only [if_neg h2, hp, Option.bind_some]
        exact hpos (by omega)
    refine up ?_
    by_cases hat : 0 ≤ a
    · have hki := hkn (by have := ha hat; omega)
      have hrp : rd (spw n) ((kk : Int) - 1) = rd (gcPw n) (kk : Int) := by
        obtain ⟨m, rfl⟩ : ∃ m, kk = m + 1 := ⟨kk - 1, by omega⟩
        rw [gcPw_cons, show ((m + 1 : Nat) : Int) = (m : Int) + 1 by omega, rd_cons, show (m : Int) + 1 - 1 = (m : Int) by omega]
      have h1 := poAdd_val os 0 3 a (rd (gcPw n) (kk : Int)) (by omega)
      simp only [spec_poGiant.l0, if_pos (show (f : Int) ≥ 0 by omega), if_pos (show a ≥ 0 from hat), wid (x := (kk : Int) - 1) (by omega) (by omega), if_pos (show (0 : Int) ≤ (kk : Int) - 1 by omega), if_pos (show (kk : Int) - 1 < ((spw n).length : Int) by rw [spw_length]; omega), hrp, h1, Option.bind_some]
      rw [gcGiant_pos hat hcs2]
      refine hj1 _ _ _ (by rw [List.length_append, List.length_singleton]; omega) (fun h => by omega) (fun _ => ?_)
      rw [en]
      have hgl := gcGroup_length (gcPw n) c0 r (os ++ [⟨3, a, rd (gcPw n) (kk : Int)⟩])
      rw [List.length_append, List.length_singleton] at hgl
      exact ih _ _ (by omega) (fun _ => by omega) (by rw [List.length_append, List.length_singleton]; omega)
    · simp only [spec_poGiant.l0, if_pos (show (f : Int) ≥ 0 by omega), if_neg (show ¬ a ≥ 0 from hat)]
      rw [gcGiant_neg hat hcs2]
      refine hj1 _ _ _ (by omega) (fun _ => ?_) (fun h => by omega)
      rw [en]
      have hgl := gcGroup_length (gcPw n) c0 r os
      exact ih _ _ (by omega) (fun _ => by omega) (by omega)
theorem gcGrp_end (pw : List Int) : ∀ (r : List Int) (i : Nat) (os : List S109) (a : Int), a = (os.length : Int) → (gcGrp pw r i os a).2 = ((gcGrp pw r i os a).1.length : Int)
  | [], _, _, _, h => h
  | n :: r, i, os, a, _ => by
    rw [gcGrp]
    exact gcGrp_end pw r _ _ _ (by simp only [List.length_append, List.length_singleton]; omega)
theorem gcGroup_end (pw : List Int) (c0 : Int) (r : List Int) (os : List S109) : (gcGroup pw c0 r os).2 = ((gcGroup pw c0 r os).1.length : Int) := gcGrp_end pw r 0 _ _ (by rw [List.length_append, List.length_singleton]; rfl)
theorem gcGiant_end (l : List Int) (k : Nat) (pw : List Int) (hk : 1 ≤ k) : ∀ (j : Nat) (os : List S109) (a : Int), (a = (os.length : Int) ∨ 0 < j) → j * k < l.length + k → (gcGiant l k pw j os a).2 = ((gcGiant l k pw j os a).1.length : Int) ∧ (gcGiant l k pw j os a).1.length ≤ os.length + j * (2 * k + 2)
  | 0, os, a, h, _ => by
    rcases h with h | h
    · exact ⟨h, by show os.length ≤ os.length + 0 * (2 * k + 2); omega⟩
    · omega
  | j + 1, os, a, _, hj => by
    have hjk : j * k < l.length := by rw [Nat.add_mul] at hj; omega
    obtain ⟨c0, r, hcs, hrm⟩ := cut_cons hjk hk
    have e : (j + 1) * (2 * k + 2) = j * (2 * k + 2) + (2 * k + 2) := by rw [Nat.add_mul]; omega
    by_cases ha : 0 ≤ a
    · rw [gcGiant_pos ha hcs]
      have := gcGiant_end l k pw hk j ((gcGroup pw c0 r (os ++ [⟨3, a, rd pw (k : Int)⟩])).1 ++ [⟨1, (os.length : Int) + 1, (gcGroup pw c0 r (os ++ [⟨3, a, rd pw (k : Int)⟩])).2⟩]) (((gcGroup pw c0 r (os ++ [⟨3, a, rd pw (k : Int)⟩])).1.length : Int) + 1) (Or.inl (by rw [List.length_append, List.length_singleton]; rfl)) (by omega)
      refine ⟨this.1, Nat.le_trans this.2 ?_⟩
      rw [List.length_append, List.length_singleton, gcGroup_length, List.length_append, List.length_singleton]
      omega
    · rw [gcGiant_neg ha hcs]
      have := gcGiant_end l k pw hk j (gcGroup pw c0 r os).1 (gcGroup pw c0 r os).2 (Or.inl (gcGroup_end _ _ _ _)) (by omega)
      refine ⟨this.1, Nat.le_trans this.2 ?_⟩
      rw [gcGroup_length]
      omega
/-! Rows of ops: copied, compared, marked, held. -/
theorem rdT_get {T : List S109} {i : Nat} (h : i < T.length) : rd_T109 T (i : Int) = T[i] := by
  unfold rd_T109
  rw [Int.toNat_natCast, List.getD_eq_getElem?_getD, List.getElem?_eq_getElem h]; rfl
theorem rdT_mid (a b : List S109) (x : S109) : rd_T109 (a ++ x :: b) (a.length : Int) = x := by
  rw [rdT_get (by simp)]; simp
theorem eqOpS_loop (T : List S109) (hl : T.length ≤ 140737488351232) : ∀ (d i : Nat), i + d = T.length → Ev (fun k => laws_eqOpS.l0 k T T i) true := by
  intro d
  induction d with
  | zero =>
    intro i h
    refine up ?_
    simp only [laws_eqOpS.l0, if_neg (show ¬ (i : Int) < (T.length : Int) by omega)]
    exact Ev.now _
  | succ d ih =>
    intro i h
    refine up ?_
    simp only [laws_eqOpS.l0, if_pos (show (i : Int) < (T.length : Int) by omega), if_pos (show (0 : Int) ≤ (i : Int) by omega), laws_eqOp.f, if_true, Option.bind_some, wid (x := (i : Int) + 1) (by omega) (by omega)]
    exact ih (i + 1) (by omega)
theorem eqOpS_same (T : List S109) (hl : T.length ≤ 140737488351232) : Ev (fun k => laws_eqOpS.f k T T) true := by
  simp only [laws_eqOpS.f, if_true]
  exact eqOpS_loop T hl T.length 0 (by omega)
theorem eqCode_same (T : List S109) (o : Int) (hl : T.length ≤ 140737488351232) : Ev (fun k => laws_eqCode.f k T o T o) true := by
  simp only [laws_eqCode.f]
  refine Ev.bind (eqOpS_same T hl) ?_
  simp only [if_true]
  exact Ev.now _
def marksO : Int → Nat → List S109
  | _, 0 => []
  | a, n + 1 => ⟨a, a + 1, a + 1 + 1⟩ :: marksO (a + 1 + 1 + 1) n
theorem marksO_length (a : Int) (n : Nat) : (marksO a n).length = n := by
  induction n generalizing a with
  | zero => rfl
  | succ n ih => simp [marksO, ih]
theorem markO_loop : ∀ (rest done : List S109) (a : Int), done.length + rest.length ≤ 140737488351232 → 0 ≤ a → a + 3 * rest.length ≤ 1407374883512320 →
    Ev (fun k => laws_markOpS.l0 k (done ++ rest) a done.length) (a + 3 * rest.length, done ++ marksO a rest.length) := by
  intro rest
  induction rest with
  | nil =>
    intro done a h h0 h1
    refine up ?_
    simp only [laws_markOpS.l0, List.append_nil, if_neg (show ¬ (done.length : Int) < (done.length : Int) by omega), List.length_nil, marksO]
    exact ⟨0, fun _ _ => by simp⟩
  | cons x rest ih =>
    intro done a h h0 h1
    simp only [List.length_cons] at h h1
    refine up ?_
    have e : ∀ y : S109, ∀ z : S109, (done ++ y :: rest).set ((done.length : Int)).toNat z = done ++ z :: rest := by
      intro y z
      rw [Int.toNat_natCast, List.set_append_right _ _ (Nat.le_refl _)]; simp
    simp only [laws_markOpS.l0, if_pos (show (done.length : Int) < ((done ++ x :: rest).length : Int) by simp; omega), if_pos (show (0 : Int) ≤ (done.length : Int) by omega), e, rdT_mid, Option.bind_some, wid (x := a + 1) (by omega) (by omega), wid (x := a + 1 + 1) (by omega) (by omega), wid (x := a + 1 + 1 + 1) (by omega) (by omega), wid (x := (done.length : Int) + 1) (by omega) (by omega)]
    have := ih (done ++ [⟨a, a + 1, a + 1 + 1⟩]) (a + 1 + 1 + 1) (by simp; omega) (by omega) (by omega)
    simp only [List.length_append, List.length_singleton, List.append_assoc, List.singleton_append, Int.natCast_add, Int.natCast_one] at this
    simp only [List.length_cons, marksO, Int.natCast_add, Int.natCast_one]
    rw [show a + 3 * ((rest.length : Int) + 1) = a + 1 + 1 + 1 + 3 * rest.length by omega]
    exact this
theorem markC_all (T : List S109) (o : Int) (hl : T.length ≤ 140737488351232) : Ev (fun k => laws_markCode.f k T o 1) (1 + 3 * T.length, marksO 1 T.length) := by
  have := markO_loop T [] 1 (by simpa using hl) (by omega) (by omega)
  simp only [laws_markCode.f]
  refine Ev.bind (show Ev (fun k => laws_markOpS.f k T 1) (1 + 3 * T.length, marksO 1 T.length) by simpa [laws_markOpS.f] using this) ?_
  exact Ev.now _
theorem heldO_loop : ∀ (n : Nat) (done : List S109) (a : Int), done.length + n ≤ 140737488351232 → 0 ≤ a → a + 3 * n ≤ 1407374883512320 →
    Ev (fun k => laws_heldOpS.l0 k (done ++ marksO a n) a done.length) (a + 3 * n) := by
  intro n
  induction n with
  | zero =>
    intro done a h h0 h1
    refine up ?_
    simp only [laws_heldOpS.l0, marksO, List.append_nil, if_neg (show ¬ (done.length : Int) < (done.length : Int) by omega)]
    exact ⟨0, fun _ _ => by simp⟩
  | succ n ih =>
    intro done a h h0 h1
    refine up ?_
    simp only [marksO]
    simp only [laws_heldOpS.l0, if_pos (show (done.length : Int) < ((done ++ (⟨a, a + 1, a + 1 + 1⟩ : S109) :: marksO (a + 1 + 1 + 1) n).length : Int) by simp [marksO_length]; omega), if_pos (show (0 : Int) ≤ (done.length : Int) by omega), rdT_mid, if_true, wid (x := a + 1) (by omega) (by omega), wid (x := a + 1 + 1) (by omega) (by omega), wid (x := a + 1 + 1 + 1) (by omega) (by omega), wid (x := (done.length : Int) + 1) (by omega) (by omega)]
    have := ih (done ++ [⟨a, a + 1, a + 1 + 1⟩]) (a + 1 + 1 + 1) (by simp; omega) (by omega) (by omega)
    simp only [List.length_append, List.length_singleton, List.append_assoc, List.singleton_append, Int.natCast_add, Int.natCast_one] at this
    rw [show a + 3 * ((n + 1 : Nat) : Int) = a + 1 + 1 + 1 + 3 * n by omega]
    exact this
theorem heldC_all (n : Nat) (o : Int) (hl : n ≤ 140737488351232) : Ev (fun k => laws_heldCode.f k (marksO 1 n) o 1) (1 + 3 * n) := by
  have := heldO_loop n [] 1 (by simpa using hl) (by omega) (by omega)
  simp only [laws_heldCode.f]
  refine Ev.bind (show Ev (fun k => laws_heldOpS.f k (marksO 1 n) 1) (1 + 3 * n) by simpa [laws_heldOpS.f] using this) ?_
  rw [if_neg_ev (show ¬ (1 + 3 * (n : Int)) < 0 by omega)]
  exact Ev.now _
theorem eqIntS_loop (l : List Int) (hl : l.length ≤ 140737488351232) : ∀ (d : Nat) (i : Int), 0 ≤ i → i + d = l.length → Ev (fun k => laws_eqIntS.l0 k l l i) true := by
  intro d
  induction d with
  | zero =>
    intro i h0 h
    refine up ?_
    simp only [laws_eqIntS.l0, if_neg (show ¬ i < (l.length : Int) by omega)]
    exact Ev.now _
  | succ d ih =>
    intro i h0 h
    refine up ?_
    simp only [laws_eqIntS.l0, if_pos (show i < (l.length : Int) by omega), if_pos h0, if_true, wid (x := i + 1) (by omega) (by omega)]
    exact ih (i + 1) (by omega) (by omega)
theorem eqIntS_same (l : List Int) (hl : l.length ≤ 140737488351232) : Ev (fun k => laws_eqIntS.f k l l) true := by
  simp only [laws_eqIntS.f, if_true]
  exact eqIntS_loop l hl l.length 0 (by omega) (by omega)
theorem toIntS_loop (l : List Int) (hl : l.length ≤ 17592186044416) : ∀ (d : Nat) (i : Nat) (acc : List Int), i + d = l.length → acc.length = l.length → (∀ j, j < i → acc[j]? = l[j]?) → Ev (fun k => laws_toIntS.l0 k l acc i) l := by
  intro d
  induction d with
  | zero =>
    intro i acc h ha hj
    refine up ?_
    simp only [laws_toIntS.l0, if_neg (show ¬ (i : Int) < (l.length : Int) by omega)]
    have : acc = l := List.ext_getElem? fun j => by
      rcases Nat.lt_or_ge j i with h1 | h1
      · exact hj j h1
      · rw [List.getElem?_eq_none (by omega), List.getElem?_eq_none (by omega)]
    rw [this]
    exact Ev.now _
  | succ d ih =>
    intro i acc h ha hj
    refine up ?_
    simp only [laws_toIntS.l0, if_pos (show (i : Int) < (l.length : Int) by omega), if_pos (show (0 : Int) ≤ (i : Int) by omega), if_pos (show (i : Int) < (acc.length : Int) by omega), wid (x := (i : Int) + 1) (by omega) (by omega), Int.toNat_natCast]
    refine ih (i + 1) _ (by omega) (by simp [ha]) fun j hj2 => ?_
    by_cases e : j = i
    · subst e
      rw [List.getElem?_set_self (by omega)]
      unfold rd
      rw [Int.toNat_natCast, List.getD_eq_getElem?_getD, List.getElem?_eq_getElem (show j < l.length by omega)]; rfl
    · rw [List.getElem?_set_ne (by omega)]
      exact hj j (by omega)
theorem toIntS_val (l : List Int) (hl : l.length ≤ 17592186044416) : Ev (fun k => laws_toIntS.f k l) l := by
  simp only [laws_toIntS.f, if_pos (show (0 : Int) ≤ (l.length : Int) by omega), Int.toNat_natCast, if_pos (show l.length ≤ 35184372088832 by omega)]
  exact toIntS_loop l hl l.length 0 _ (by omega) (by simp) (fun j hj => by omega)
def marks : Int → Nat → List Int
  | _, 0 => []
  | a, n + 1 => a :: marks (a + 1) n
theorem mark_loop : ∀ (rest done : List Int) (a : Int), done.length + rest.length ≤ 140737488351232 → 0 ≤ a → a ≤ 140737488351232 →
    Ev (fun k => laws_markIntS.l0 k (done ++ rest) (a + done.length) done.length) (a + done.length + rest.length, done ++ marks (a + done.length) rest.length) := by
  intro rest
  induction rest with
  | nil =>
    intro done a h h0 h1
    refine up ?_
    simp only [laws_markIntS.l0, List.append_nil, if_neg (show ¬ (done.length : Int) < (done.length : Int) by omega), List.length_nil, marks]
    exact ⟨0, fun _ _ => by simp⟩
  | cons x rest ih =>
    intro done a h h0 h1
    simp only [List.length_cons] at h
    refine up ?_
    have e : (done ++ x :: rest).set ((done.length : Int)).toNat (a + done.length) = (done ++ [a + done.length]) ++ rest := by
      rw [Int.toNat_natCast, List.set_append_right _ _ (Nat.le_refl _)]; simp
    simp only [laws_markIntS.l0, if_pos (show (done.length : Int) < ((done ++ x :: rest).length : Int) by simp; omega), if_pos (show (0 : Int) ≤ (done.length : Int) by omega), e, wid (x := a + done.length + 1) (by omega) (by omega), wid (x := (done.length : Int) + 1) (by omega) (by omega)]
    have := ih (done ++ [a + done.length]) a (by simp; omega) h0 h1
    simp only [List.length_append, List.length_singleton, List.append_assoc, List.singleton_append, Int.natCast_add, Int.natCast_one] at this
    simp only [List.append_assoc, List.singleton_append, List.length_cons, marks, Int.natCast_add, Int.natCast_one]
    rw [show a + (done.length : Int) + ((rest.length : Int) + 1) = a + ((done.length : Int) + 1) + rest.length by omega, show a + (done.length : Int) + 1 = a + ((done.length : Int) + 1) by omega]
    exact this
theorem mark_all (l : List Int) (hl : l.length ≤ 140737488351232) : Ev (fun k => laws_markIntS.f k l 1) (1 + l.length, marks 1 l.length) := by
  have := mark_loop l [] 1 (by simpa using hl) (by omega) (by omega)
  simpa [laws_markIntS.f] using this
def coefsB (l : List Int) : Bool := decide (0 < l.length) && polyB l
theorem specCoefs (l : List Int) (hl : l.length ≤ 2000000) : Ev (fun k => spec_poCoefs.f k l) (coefsB l) := by
  unfold coefsB
  by_cases h : 0 < l.length
  · simp only [spec_poCoefs.f, if_pos (show (l.length : Int) > 0 by omega), decide_eq_true h, Bool.true_and]
    by_cases h17 : l.length ≤ 17
    · exact Ev.bind (small_val l (by omega)) (Ev.now _)
    · have e : polyB l = false := by unfold polyB; rw [decide_eq_false h17, Bool.false_and]
      rw [e]
      simp only [spec_poSmall.f, if_neg (show ¬ (l.length : Int) ≤ 17 by omega), Option.bind_some]
      exact Ev.now _
  · simp only [spec_poCoefs.f, if_neg (show ¬ (l.length : Int) > 0 by omega), decide_eq_false h, Bool.false_and]
    exact Ev.now _
theorem implCoefs (l : List Int) : impl_coefsOk.f l = some (coefsB l) := by
  unfold coefsB impl_coefsOk.f impl_polynomialOk.f
  by_cases h : 0 < l.length
  · rw [if_pos (by omega), decide_eq_true h]; rfl
  · rw [if_neg (by omega), decide_eq_false h]; rfl
def kB (a : Int) : Bool := decide (1 ≤ a) && decide (a ≤ 17)
theorem implK (a : Int) : impl_giantOk.f a = some (kB a) := by
  unfold impl_giantOk.f kB
  rw [iIn_val]; rfl
theorem specK (a : Int) : spec_l1In.f a 1 17 = some (kB a) := l1In_val a 1 17
/-- What GiantCode answers. -/
def gV (l : List Int) (a : Int) : List S109 × Int × Bool := if coefsB l = true ∧ kB a = true then ifV (gcOps l a.toNat) ((gcOps l a.toNat).length : Int) else ([], 0, false)
theorem gc_range {l : List Int} {a : Int} (h : coefsB l = true ∧ kB a = true) : (1 ≤ l.length ∧ l.length ≤ 17) ∧ 1 ≤ a ∧ a ≤ 17 := by
  obtain ⟨h1, h2⟩ := h
  unfold coefsB polyB at h1
  unfold kB at h2
  simp only [Bool.and_eq_true, decide_eq_true_eq] at h1 h2
  exact ⟨⟨h1.1, h1.2.1⟩, h2⟩
theorem giant_val (l : List Int) (kk : Nat) (hl1 : 1 ≤ l.length) (hl2 : l.length ≤ 17) (hk1 : 1 ≤ kk) (hk2 : kk ≤ 17) : Ev (fun k => spec_poGiant.f k l (kk : Int)) (gcOps l kk, ((gcOps l kk).length : Int)) ∧ (gcOps l kk).length ≤ 1000 := by
  obtain ⟨n, hn⟩ : ∃ n, gcN l kk = n := ⟨_, rfl⟩
  obtain ⟨J, hJ⟩ : ∃ J, (l.length - 1) / kk = J := ⟨_, rfl⟩
  have hn2 : n = min kk (l.length - 1) - 1 := hn.symm
  have hJ17 : J ≤ 17 := by rw [← hJ]; exact Nat.le_trans (Nat.div_le_self _ _) (by omega)
  have hJk : J * kk ≤ l.length - 1 := by rw [← hJ]; exact Nat.div_mul_le_self _ _
  have hkn : 1 ≤ J → kk < n + 2 := fun h => by have := Nat.le_mul_of_pos_left kk h; omega
  have hnr : min kk l.length ≤ n + 2 := by omega
  have hloop := giant_loop l kk n J hl1 hl2 hk1 hk2 hJk hkn hnr (J + 1) (gcPops n) (-1) (Nat.le_refl _) (fun h => by omega) (by rw [gcPops_length]; omega)
  have hend := gcGiant_end l kk (gcPw n) hk1 (J + 1) (gcPops n) (-1) (Or.inr (by omega)) (by rw [Nat.add_mul]; omega)
  have hgo : gcOps l kk = (gcGiant l kk (gcPw n) (J + 1) (gcPops n) (-1)).1 := by unfold gcOps; rw [hn, hJ]
  have hb : (J + 1) * (2 * kk + 2) ≤ 18 * 36 := Nat.mul_le_mul (by omega) (by omega)
  rw [gcPops_length] at hend
  refine ⟨?_, by rw [hgo]; omega⟩
  have hq : Int.tdiv ((l.length : Int) - 1) (kk : Int) = (J : Int) := by
    rw [show (l.length : Int) - 1 = ((l.length - 1 : Nat) : Int) by omega, Int.tdiv_eq_ediv_of_nonneg (by omega), ← Int.natCast_ediv, hJ]
  have hF : (J : Int) * (kk : Int) = ((J * kk : Nat) : Int) := by simp
  simp only [spec_poGiant.f, wid (x := (l.length : Int) - 1) (by omega) (by omega), l1Least_val, Option.bind_some, hq, wid (x := (J : Int)) (by omega) (by omega)]
  refine Ev.bind (powers_val _ n (by omega) (by omega)) ?_
  simp only [if_neg (show ¬ (kk : Int) = 0 by omega), wid (x := (J : Int) * (kk : Int)) (by omega) (by omega)]
  rw [show ((J + 1 : Nat) : Int) * (kk : Int) - (kk : Int) = (J : Int) * (kk : Int) by rw [Int.natCast_add, Int.add_mul]; simp] at hloop
  rw [hgo, ← hend.1]
  exact hloop
theorem gSpec (l : List Int) (a : Int) (hl : l.length ≤ 2000000) : Ev (fun k => spec_GiantCode.f k l a) (gV l a) := by
  simp only [spec_GiantCode.f, specK, Option.bind_some]
  refine Ev.bind (specCoefs l hl) ?_
  unfold gV
  by_cases h : coefsB l = true ∧ kB a = true
  · simp only [if_pos h]
    obtain ⟨⟨h1, h2⟩, h3, h4⟩ := gc_range h
    obtain ⟨kk, rfl⟩ : ∃ kk : Nat, a = (kk : Int) := ⟨a.toNat, by omega⟩
    rw [Int.toNat_natCast]
    refine Ev.bind (giant_val l kk h1 h2 (by omega) (by omega)).1 ?_
    exact poIf_val _ _
  · simp only [if_neg h]; exact Ev.now _
theorem gImpl (l : List Int) (a : Int) : Ev (fun k => impl_GiantCode.f k l a) (gV l a) := by
  simp only [impl_GiantCode.f, implCoefs, implK, Option.bind_some]
  unfold gV
  by_cases h : coefsB l = true ∧ kB a = true
  · simp only [if_pos h]; exact told_val _ _
  · simp only [if_neg h]; exact Ev.now _
theorem gV_len (l : List Int) (a : Int) : (gV l a).1.length ≤ 1000 := by
  unfold gV
  by_cases h : coefsB l = true ∧ kB a = true
  · rw [if_pos h]
    obtain ⟨⟨h1, h2⟩, h3, h4⟩ := gc_range h
    obtain ⟨kk, rfl⟩ : ∃ kk : Nat, a = (kk : Int) := ⟨a.toNat, by omega⟩
    rw [Int.toNat_natCast]
    exact Nat.le_trans (ifV_len _ _) (giant_val l kk h1 h2 (by omega) (by omega)).2
  · rw [if_neg h]; exact Nat.zero_le _
theorem main : laws_FnExactGiantCode.Pure := by
  intro l a _ _ _ _
  by_cases hbig : (l.length : Int) > 1048576
  · exact ⟨0, by simp only [laws_FnExactGiantCode.f, if_pos hbig]⟩
  refine Ev.rounds ?_
  simp only [laws_FnExactGiantCode.f, if_neg hbig]
  have ht := toIntS_val l (by omega)
  have hs := gSpec l a (by omega)
  have hi := gImpl l a
  have hlen := gV_len l a
  generalize gV l a = V at hs hi hlen
  obtain ⟨r, q, b⟩ := V
  dsimp only at hlen
  refine Ev.bind ht ?_
  refine Ev.bind hs ?_
  refine Ev.bind ht ?_
  refine Ev.bind hi ?_
  refine Ev.bind (eqCode_same r q (by omega)) ?_
  simp only [if_true]
  refine up ?_
  simp only [laws_FnExactGiantCode.j0, bne_self_eq_false, Bool.false_eq_true, if_false]
  refine Ev.bind ht ?_
  refine Ev.bind (eqIntS_same l (by omega)) ?_
  simp only [if_true]
  refine Ev.bind (mark_all l (by omega)) ?_
  simp only [if_neg (show ¬ (1 + (l.length : Int)) < 0 by omega)]
  refine Ev.bind (eqCode_same r q (by omega)) ?_
  simp only [if_true]
  refine up ?_
  simp only [laws_FnExactGiantCode.j1, bne_self_eq_false, Bool.false_eq_true, if_false]
  refine Ev.bind (markC_all r q (by omega)) ?_
  refine Ev.bind (heldC_all r.length q (by omega)) ?_
  simp only [if_neg (show ¬ (1 + 3 * (r.length : Int)) < 0 by omega), if_true]
  refine Ev.bind ht ?_
  refine Ev.bind hi ?_
  refine Ev.bind (eqCode_same r q (by omega)) ?_
  simp only [if_true]
  refine up ?_
  simp only [laws_FnExactGiantCode.j2, bne_self_eq_false, Bool.false_eq_true, if_false]
  refine Ev.bind (heldC_all r.length q (by omega)) ?_
  simp only [if_neg (show ¬ (1 + 3 * (r.length : Int)) < 0 by omega), if_true]
  exact Ev.now _
end Go.Proofs.Ytlmoemahamneoaa.PureFnExactGiantCodeL
namespace Go.Proofs.Ytlmoemahamneoaa.Pure
open Go.Proofs.Ytlmoemahamneoaa.PFnExactGiantCode
theorem FnExactGiantCode : laws_FnExactGiantCode.Pure := PureFnExactGiantCodeL.main
end Go.Proofs.Ytlmoemahamneoaa.Pure
