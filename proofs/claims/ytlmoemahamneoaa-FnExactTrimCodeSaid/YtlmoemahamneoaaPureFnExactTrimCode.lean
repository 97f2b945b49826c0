/- The program's TrimCode returns what the reference's TrimCode returns, for all codes (of at most 2^20 ops, as the statement itself says; nothing else is asked). -/
import Derived.Test.YtlmoemahamneoaaPFnExactTrimCodex1
import Derived.Test.YtlmoemahamneoaaPFnExactTrimCodex2
import Derived.Test.YtlmoemahamneoaaPFnExactTrimCodex3
import Derived.Test.YtlmoemahamneoaaPFnExactTrimCodex4
import Derived.Test.YtlmoemahamneoaaPFnExactTrimCodex5
import Derived.Test.YtlmoemahamneoaaPFnExactTrimCodex6
import Derived.Test.YtlmoemahamneoaaPFnExactTrimCodex7
import Derived.Test.YtlmoemahamneoaaPFnExactTrimCodex8
import Derived.Test.YtlmoemahamneoaaPFnExactTrimCodex9
import Derived.Test.YtlmoemahamneoaaPFnExactTrimCodex10
set_option linter.unusedVariables false
set_option linter.unusedSimpArgs false
namespace Go.Proofs.Ytlmoemahamneoaa.PureFnExactTrimCodeL
open Go.RowKit Go.Proofs.Ytlmoemahamneoaa.PFnExactTrimCode Go.Proofs.YtlmoemahamneoaaW.PrintWords Go.Proofs.YtlmoemahamneoaaW.PrintLast Go.Proofs.YtlmoemahamneoaaW.PrintMore
def hasB (l : List Int) (x : Int) : Bool := l.contains x
theorem up {α : Type} {g : Nat → Option α} {r : α} (h : Ev (fun k => g (k + 1)) r) : Ev g r := by
  obtain ⟨K, h⟩ := h
  refine ⟨K + 1, fun k hk => ?_⟩
  obtain ⟨m, rfl⟩ : ∃ m, k = m + 1 := ⟨k - 1, by omega⟩
  exact h m (by omega)
theorem wid {x : Int} (h0 : -9223372036854775808 ≤ x) (h1 : x ≤ 9223372036854775807) : wrap64 x = x := by unfold wrap64; omega
theorem if_pos_ev {α : Type} {c : Prop} [Decidable c] {f g : Nat → Option α} (h : c) : (fun k => if c then f k else g k) = f := funext fun k => if_pos h
theorem if_neg_ev {α : Type} {c : Prop} [Decidable c] {f g : Nat → Option α} (h : ¬ c) : (fun k => if c then f k else g k) = g := funext fun k => if_neg h
theorem rd_at {l : List Int} {i : Nat} (h : i < l.length) : rd l (i : Int) = l[i] := by
  unfold rd
  rw [Int.toNat_natCast, List.getD_eq_getElem?_getD, List.getElem?_eq_getElem h]; rfl
theorem l1In_val (x a b : Int) : spec_l1In.f x a b = some (decide (a ≤ x) && decide (x ≤ b)) := by
  unfold spec_l1In.f
  by_cases h : a ≤ x
  · rw [if_pos h]; simp [h]
  · rw [if_neg h]; simp [h]
def allIn (a b : Int) (l : List Int) : Bool := l.all fun d => decide (a ≤ d) && decide (d ≤ b)
theorem l1All_loop (a b : Int) (l : List Int) (hl : l.length ≤ 17592186044416) : ∀ (d i : Nat), i + d = l.length → Ev (fun k => spec_l1All.l0 k a b l (l.length : Int) i) (allIn a b (l.drop i)) := by
  intro d
  induction d with
  | zero =>
    intro i h
    refine up ?_
    simp only [spec_l1All.l0, if_neg (show ¬ (i : Int) < (l.length : Int) by omega)]
    rw [List.drop_of_length_le (by omega)]
    exact Ev.now _
  | succ d ih =>
    intro i h
    have hi : i < l.length := by omega
    refine up ?_
    simp only [spec_l1All.l0, if_pos (show (i : Int) < (l.length : Int) by omega), if_pos (show (0 : Int) ≤ (i : Int) by omega), l1In_val, Option.bind_some, wid (x := (i : Int) + 1) (by omega) (by omega), rd_at hi]
    have e : allIn a b (l.drop i) = ((decide (a ≤ l[i]) && decide (l[i] ≤ b)) && allIn a b (l.drop (i + 1))) := by
      rw [List.drop_eq_getElem_cons hi]; rfl
    rw [e]
    cases hb : (decide (a ≤ l[i]) && decide (l[i] ≤ b)) with
    | true => simp only [if_true, Bool.true_and]; exact ih (i + 1) (by omega)
    | false => simp only [Bool.false_eq_true, if_false, Bool.false_and]; exact Ev.now _
theorem l1All_val (a b : Int) (l : List Int) (hl : l.length ≤ 17592186044416) : Ev (fun k => spec_l1All.f k l a b) (allIn a b l) := l1All_loop a b l hl l.length 0 (by omega)
/-- A polynomial without zeros at its end. -/
def cutB (l : List Int) : List Int := (l.reverse.dropWhile (· == 0)).reverse
theorem cutB_nil : cutB [] = [] := rfl
theorem cutB_zero (l : List Int) : cutB (l ++ [0]) = cutB l := by unfold cutB; simp
theorem cutB_ne (l : List Int) {x : Int} (h : x ≠ 0) : cutB (l ++ [x]) = l ++ [x] := by unfold cutB; simp [h]
theorem rd_last (l : List Int) (x : Int) : rd (l ++ [x]) (l.length : Int) = x := by
  rw [rd_at (by simp)]; simp
theorem cut_val : ∀ (n : Nat) (l : List Int), l.length = n → n ≤ 1000000000 → Ev (fun q => impl_cut.f q l) (cutB l) := by
  intro n
  induction n with
  | zero =>
    intro l h _
    obtain rfl := List.eq_nil_of_length_eq_zero h
    simp only [impl_cut.f]
    refine up ?_
    simp only [impl_cut.l0, List.length_nil, if_neg (show ¬ ((0 : Nat) : Int) > 0 by omega)]
    exact Ev.now _
  | succ n ih =>
    intro l h hn
    obtain ⟨l', x, rfl⟩ : ∃ l' x, l = l' ++ [x] := by
      rcases List.eq_nil_or_concat l with h0 | ⟨l', x, h0⟩
      · subst h0; simp at h
      · exact ⟨l', x, by rw [h0, List.concat_eq_append]⟩
    have hl : l'.length = n := by simpa using h
    have e1 : (((l' ++ [x]).length : Nat) : Int) - 1 = (l'.length : Int) := by rw [List.length_append, List.length_singleton]; omega
    simp only [impl_cut.f]
    refine up ?_
    simp only [impl_cut.l0, e1, wid (x := (l'.length : Int)) (by omega) (by omega), if_pos (show ((l' ++ [x]).length : Int) > 0 by rw [List.length_append, List.length_singleton]; omega), if_pos (show (0 : Int) ≤ (l'.length : Int) by omega), if_pos (show (l'.length : Int) < ((l' ++ [x]).length : Int) by rw [List.length_append, List.length_singleton]; omega), if_pos (show (l'.length : Int) ≤ ((l' ++ [x]).length : Int) by rw [List.length_append, List.length_singleton]; omega), rd_last, Int.toNat_natCast, List.take_left]
    by_cases hx : x = 0
    · subst hx
      rw [cutB_zero]
      simp only [if_true]
      exact ih l' hl (by omega)
    · rw [cutB_ne l' hx]
      simp only [if_neg hx]
      exact Ev.now _
theorem cutB_len (l : List Int) : (cutB l).length ≤ l.length := by
  unfold cutB
  rw [List.length_reverse]
  have := (List.dropWhile_sublist (fun x : Int => x == 0) (l := l.reverse)).length_le
  rw [List.length_reverse] at this
  exact this
theorem own_val (l : List Int) (h : l.length < 1000000000) : spec_l1Own.f l = some l := by
  simp only [spec_l1Own.f, Option.bind_some, List.length_nil, Nat.zero_add, List.nil_append, if_pos (show l.length < 17592186044416 by omega)]
theorem trim_loop (l : List Int) (hl : l.length < 1000000000) : ∀ n, n ≤ l.length → Ev (fun q => spec_poTrim.l0 q l n) (cutB (l.take n)) := by
  intro n
  induction n with
  | zero =>
    intro _
    refine up ?_
    simp only [spec_poTrim.l0, if_neg (show ¬ ((0 : Nat) : Int) > 0 by omega), if_pos (show (0 : Int) ≤ ((0 : Nat) : Int) by omega), if_pos (show ((0 : Nat) : Int) ≤ (l.length : Int) by omega), Int.toNat_natCast, List.take_zero, own_val [] (by simp), Option.bind_some, cutB_nil]
    exact Ev.now _
  | succ n ih =>
    intro hn
    have e : l.take (n + 1) = l.take n ++ [l[n]] := List.take_succ_eq_append_getElem (by omega)
    have ht : (l.take (n + 1)).length < 1000000000 := by rw [List.length_take]; omega
    refine up ?_
    simp only [spec_poTrim.l0, if_pos (show ((n + 1 : Nat) : Int) > 0 by omega), show ((n + 1 : Nat) : Int) - 1 = (n : Int) by omega, wid (x := (n : Int)) (by omega) (by omega), if_pos (show (0 : Int) ≤ (n : Int) by omega), if_pos (show (n : Int) < (l.length : Int) by omega), rd_at (show n < l.length by omega), if_pos (show (0 : Int) ≤ ((n + 1 : Nat) : Int) by omega), if_pos (show ((n + 1 : Nat) : Int) ≤ (l.length : Int) by omega), Int.toNat_natCast, own_val _ ht, Option.bind_some]
    rw [e]
    by_cases hx : l[n] = 0
    · rw [if_pos_ev hx, hx, cutB_zero]
      exact ih (by omega)
    · rw [if_neg_ev hx, cutB_ne _ hx]
      exact Ev.now _
theorem trim_val (l : List Int) (hl : l.length < 1000000000) : Ev (fun q => spec_poTrim.f q l) (cutB l) := by
  have := trim_loop l hl l.length (Nat.le_refl _)
  rw [List.take_length] at this
  simpa [spec_poTrim.f] using this
/-- x is added to a row, from place i on. -/
def addTo (x : List Int) : List Int → Nat → Nat → List Int
  | out, _, 0 => out
  | out, i, d + 1 => addTo x (out.set i (wrap64 (rd out i + rd x i))) (i + 1) d
theorem addTo_len (x : List Int) : ∀ d i out, (addTo x out i d).length = out.length
  | 0, _, _ => rfl
  | d + 1, i, out => by unfold addTo; rw [addTo_len x d, List.length_set]
def sumP (a b : List Int) : List Int := cutB (addTo b (addTo a (List.replicate (max a.length b.length) 0) 0 a.length) 0 b.length)
theorem iSum_l1 (b : List Int) (hb : b.length ≤ 1000000) : ∀ (d i : Nat) (out : List Int), i + d = b.length → b.length ≤ out.length → out.length ≤ 1000000 → Ev (fun q => impl_sumOf.l1 q out b (b.length : Int) i) (cutB (addTo b out i d)) := by
  intro d
  induction d with
  | zero =>
    intro i out h ho ho2
    refine up ?_
    simp only [impl_sumOf.l1, if_neg (show ¬ (i : Int) < (b.length : Int) by omega), addTo]
    exact Ev.bind (cut_val _ out rfl (by omega)) (Ev.now _)
  | succ d ih =>
    intro i out h ho ho2
    refine up ?_
    simp only [impl_sumOf.l1, if_pos (show (i : Int) < (b.length : Int) by omega), if_pos (show (0 : Int) ≤ (i : Int) by omega), if_pos (show (i : Int) < (out.length : Int) by omega), Int.toNat_natCast, wid (x := (i : Int) + 1) (by omega) (by omega), addTo]
    exact ih (i + 1) _ (by omega) (by rw [List.length_set]; exact ho) (by rw [List.length_set]; exact ho2)
theorem iSum_l0 (a b : List Int) (hb : b.length ≤ 1000000) : ∀ (d i : Nat) (out : List Int), i + d = a.length → a.length ≤ out.length → b.length ≤ out.length → out.length ≤ 1000000 → Ev (fun q => impl_sumOf.l0 q b out a (a.length : Int) i) (cutB (addTo b (addTo a out i d) 0 b.length)) := by
  intro d
  induction d with
  | zero =>
    intro i out h ho hb2 ho2
    refine up ?_
    simp only [impl_sumOf.l0, if_neg (show ¬ (i : Int) < (a.length : Int) by omega), addTo]
    exact iSum_l1 b hb b.length 0 out (by omega) hb2 ho2
  | succ d ih =>
    intro i out h ho hb2 ho2
    refine up ?_
    simp only [impl_sumOf.l0, if_pos (show (i : Int) < (a.length : Int) by omega), if_pos (show (0 : Int) ≤ (i : Int) by omega), if_pos (show (i : Int) < (out.length : Int) by omega), Int.toNat_natCast, wid (x := (i : Int) + 1) (by omega) (by omega), addTo]
    exact ih (i + 1) _ (by omega) (by rw [List.length_set]; exact ho) (by rw [List.length_set]; exact hb2) (by rw [List.length_set]; exact ho2)
theorem mx_nat (a b : Nat) : mx (a : Int) (b : Int) = ((max a b : Nat) : Int) := by unfold mx; split <;> omega
theorem iSum_val (a b : List Int) (ha : a.length ≤ 1000) (hb : b.length ≤ 1000) : Ev (fun q => impl_sumOf.f q a b) (sumP a b) := by
  simp only [impl_sumOf.f, mx_nat, Int.toNat_natCast, if_pos (show (0 : Int) ≤ ((max a.length b.length : Nat) : Int) by omega), if_pos (show max a.length b.length ≤ 35184372088832 by omega)]
  exact iSum_l0 a b (by omega) a.length 0 _ (by omega) (by rw [List.length_replicate]; omega) (by rw [List.length_replicate]; omega) (by rw [List.length_replicate]; omega)
theorem sSum_l1 (b : List Int) (hb : b.length ≤ 1000000) : ∀ (d i : Nat) (out : List Int), i + d = b.length → b.length ≤ out.length → out.length ≤ 1000000 → Ev (fun q => spec_poSum.l1 q out b (b.length : Int) i) (cutB (addTo b out i d)) := by
  intro d
  induction d with
  | zero =>
    intro i out h ho ho2
    refine up ?_
    simp only [spec_poSum.l1, if_neg (show ¬ (i : Int) < (b.length : Int) by omega), addTo]
    exact Ev.bind (trim_val out (by omega)) (Ev.now _)
  | succ d ih =>
    intro i out h ho ho2
    refine up ?_
    simp only [spec_poSum.l1, if_pos (show (i : Int) < (b.length : Int) by omega), if_pos (show (0 : Int) ≤ (i : Int) by omega), if_pos (show (i : Int) < (out.length : Int) by omega), Int.toNat_natCast, wid (x := (i : Int) + 1) (by omega) (by omega), addTo]
    exact ih (i + 1) _ (by omega) (by rw [List.length_set]; exact ho) (by rw [List.length_set]; exact ho2)
theorem sSum_l0 (a b : List Int) (hb : b.length ≤ 1000000) : ∀ (d i : Nat) (out : List Int), i + d = a.length → a.length ≤ out.length → b.length ≤ out.length → out.length ≤ 1000000 → Ev (fun q => spec_poSum.l0 q b out a (a.length : Int) i) (cutB (addTo b (addTo a out i d) 0 b.length)) := by
  intro d
  induction d with
  | zero =>
    intro i out h ho hb2 ho2
    refine up ?_
    simp only [spec_poSum.l0, if_neg (show ¬ (i : Int) < (a.length : Int) by omega), addTo]
    exact sSum_l1 b hb b.length 0 out (by omega) hb2 ho2
  | succ d ih =>
    intro i out h ho hb2 ho2
    refine up ?_
    simp only [spec_poSum.l0, if_pos (show (i : Int) < (a.length : Int) by omega), if_pos (show (0 : Int) ≤ (i : Int) by omega), if_pos (show (i : Int) < (out.length : Int) by omega), Int.toNat_natCast, wid (x := (i : Int) + 1) (by omega) (by omega), addTo]
    exact ih (i + 1) _ (by omega) (by rw [List.length_set]; exact ho) (by rw [List.length_set]; exact hb2) (by rw [List.length_set]; exact ho2)
theorem l1Most_val (a b : Nat) : spec_l1Most.f (a : Int) (b : Int) = some ((max a b : Nat) : Int) := by
  unfold spec_l1Most.f
  split <;> congr 1 <;> omega
theorem sSum_val (a b : List Int) (ha : a.length ≤ 1000) (hb : b.length ≤ 1000) : Ev (fun q => spec_poSum.f q a b) (sumP a b) := by
  simp only [spec_poSum.f, l1Most_val, Option.bind_some, Int.toNat_natCast, if_pos (show (0 : Int) ≤ ((max a.length b.length : Nat) : Int) by omega), if_pos (show max a.length b.length ≤ 35184372088832 by omega)]
  exact sSum_l0 a b (by omega) a.length 0 _ (by omega) (by rw [List.length_replicate]; omega) (by rw [List.length_replicate]; omega) (by rw [List.length_replicate]; omega)
/-- x times a row is added to a row, from place k of it on. -/
def mulIn (x : Int) (b : List Int) (i : Nat) : List Int → Nat → Nat → List Int
  | out, _, 0 => out
  | out, k, d + 1 => mulIn x b i (out.set (i + k) (wrap64 (rd out ((i + k : Nat) : Int) + wrap64 (x * rd b k)))) (k + 1) d
def mulOut (a b : List Int) : List Int → Nat → Nat → List Int
  | out, _, 0 => out
  | out, i, d + 1 => mulOut a b (mulIn (rd a i) b i out 0 b.length) (i + 1) d
theorem mulIn_len (x : Int) (b : List Int) (i : Nat) : ∀ d k out, (mulIn x b i out k d).length = out.length
  | 0, _, _ => rfl
  | d + 1, k, out => by unfold mulIn; rw [mulIn_len x b i d, List.length_set]
theorem mulOut_len (a b : List Int) : ∀ d i out, (mulOut a b out i d).length = out.length
  | 0, _, _ => rfl
  | d + 1, i, out => by unfold mulOut; rw [mulOut_len a b d, mulIn_len]
def prodP (a b : List Int) : List Int := cutB (mulOut a b (List.replicate (a.length + b.length) 0) 0 a.length)
theorem iMul_l1 (a b : List Int) (hb : b.length ≤ 1000) {R : List Int} {i : Nat} (hi : i ≤ 1000) {x : Int} : ∀ (d k : Nat) (out : List Int), k + d = b.length → i + b.length ≤ out.length → Ev (fun q => impl_productOf.l0 q b (mulIn x b i out k d) a (a.length : Int) ((i + 1 : Nat) : Int)) R → Ev (fun q => impl_productOf.l1 q b out i x a (a.length : Int) i b (b.length : Int) k) R := by
  intro d
  induction d with
  | zero =>
    intro k out h ho hE
    refine up ?_
    simp only [impl_productOf.l1, if_neg (show ¬ (k : Int) < (b.length : Int) by omega), wid (x := (i : Int) + 1) (by omega) (by omega)]
    exact hE
  | succ d ih =>
    intro k out h ho hE
    refine up ?_
    have e : (i : Int) + (k : Int) = ((i + k : Nat) : Int) := by omega
    simp only [impl_productOf.l1, if_pos (show (k : Int) < (b.length : Int) by omega), if_pos (show (0 : Int) ≤ (k : Int) by omega), e, wid (x := ((i + k : Nat) : Int)) (by omega) (by omega), if_pos (show (0 : Int) ≤ ((i + k : Nat) : Int) by omega), if_pos (show ((i + k : Nat) : Int) < (out.length : Int) by omega), Int.toNat_natCast, wid (x := (k : Int) + 1) (by omega) (by omega)]
    exact ih (k + 1) _ (by omega) (by rw [List.length_set]; exact ho) hE
theorem iMul_l0 (a b : List Int) (ha : a.length ≤ 1000) (hb : b.length ≤ 1000) : ∀ (d i : Nat) (out : List Int), i + d = a.length → (a.length + b.length ≤ out.length + 1 ∨ b.length = 0) → out.length ≤ 100000 → Ev (fun q => impl_productOf.l0 q b out a (a.length : Int) i) (cutB (mulOut a b out i d)) := by
  intro d
  induction d with
  | zero =>
    intro i out h ho ho2
    refine up ?_
    simp only [impl_productOf.l0, if_neg (show ¬ (i : Int) < (a.length : Int) by omega), mulOut]
    exact Ev.bind (cut_val _ out rfl (by omega)) (Ev.now _)
  | succ d ih =>
    intro i out h ho ho2
    refine up ?_
    simp only [impl_productOf.l0, if_pos (show (i : Int) < (a.length : Int) by omega), if_pos (show (0 : Int) ≤ (i : Int) by omega)]
    have hnext := ih (i + 1) (mulIn (rd a i) b i out 0 b.length) (by omega) (by rw [mulIn_len]; exact ho) (by rw [mulIn_len]; exact ho2)
    by_cases h0 : b.length = 0
    · refine up ?_
      simp only [impl_productOf.l1, h0, if_neg (show ¬ (0 : Int) < ((0 : Nat) : Int) by omega), wid (x := (i : Int) + 1) (by omega) (by omega)]
      rw [h0] at hnext
      rw [show mulOut a b out i (d + 1) = mulOut a b (mulIn (rd a i) b i out 0 b.length) (i + 1) d from rfl, h0]
      exact hnext
    · exact iMul_l1 a b hb (by omega) b.length 0 out (by omega) (by omega) hnext
theorem iMul_val (a b : List Int) (ha : a.length ≤ 1000) (hb : b.length ≤ 1000) : Ev (fun q => impl_productOf.f q a b) (prodP a b) := by
  have e : (a.length : Int) + (b.length : Int) = ((a.length + b.length : Nat) : Int) := by omega
  simp only [impl_productOf.f, e, wid (x := ((a.length + b.length : Nat) : Int)) (by omega) (by omega), Int.toNat_natCast, if_pos (show (0 : Int) ≤ ((a.length + b.length : Nat) : Int) by omega), if_pos (show a.length + b.length ≤ 35184372088832 by omega)]
  exact iMul_l0 a b ha hb a.length 0 _ (by omega) (.inl (by rw [List.length_replicate]; omega)) (by rw [List.length_replicate]; omega)
theorem sMul_l1 (a b : List Int) (hb : b.length ≤ 1000) {R : List Int} {i : Nat} (hi : i ≤ 1000) {x : Int} : ∀ (d k : Nat) (out : List Int), k + d = b.length → i + b.length ≤ out.length → Ev (fun q => spec_poProduct.l0 q b (mulIn x b i out k d) a (a.length : Int) ((i + 1 : Nat) : Int)) R → Ev (fun q => spec_poProduct.l1 q b out i x a (a.length : Int) i b (b.length : Int) k) R := by
  intro d
  induction d with
  | zero =>
    intro k out h ho hE
    refine up ?_
    simp only [spec_poProduct.l1, if_neg (show ¬ (k : Int) < (b.length : Int) by omega), wid (x := (i : Int) + 1) (by omega) (by omega)]
    exact hE
  | succ d ih =>
    intro k out h ho hE
    refine up ?_
    have e : (i : Int) + (k : Int) = ((i + k : Nat) : Int) := by omega
    simp only [spec_poProduct.l1, if_pos (show (k : Int) < (b.length : Int) by omega), if_pos (show (0 : Int) ≤ (k : Int) by omega), e, wid (x := ((i + k : Nat) : Int)) (by omega) (by omega), if_pos (show (0 : Int) ≤ ((i + k : Nat) : Int) by omega), if_pos (show ((i + k : Nat) : Int) < (out.length : Int) by omega), Int.toNat_natCast, wid (x := (k : Int) + 1) (by omega) (by omega)]
    exact ih (k + 1) _ (by omega) (by rw [List.length_set]; exact ho) hE
theorem sMul_l0 (a b : List Int) (ha : a.length ≤ 1000) (hb : b.length ≤ 1000) (hb0 : 0 < b.length) : ∀ (d i : Nat) (out : List Int), i + d = a.length → a.length + b.length ≤ out.length + 1 → out.length ≤ 100000 → Ev (fun q => spec_poProduct.l0 q b out a (a.length : Int) i) (cutB (mulOut a b out i d)) := by
  intro d
  induction d with
  | zero =>
    intro i out h ho ho2
    refine up ?_
    simp only [spec_poProduct.l0, if_neg (show ¬ (i : Int) < (a.length : Int) by omega), mulOut]
    exact Ev.bind (trim_val out (by omega)) (Ev.now _)
  | succ d ih =>
    intro i out h ho ho2
    refine up ?_
    simp only [spec_poProduct.l0, if_pos (show (i : Int) < (a.length : Int) by omega), if_pos (show (0 : Int) ≤ (i : Int) by omega)]
    exact sMul_l1 a b hb (by omega) b.length 0 out (by omega) (by omega) (ih (i + 1) (mulIn (rd a i) b i out 0 b.length) (by omega) (by rw [mulIn_len]; exact ho) (by rw [mulIn_len]; exact ho2))
theorem rd_left {l m : List Int} {j : Nat} (h : j < l.length) : rd (l ++ m) (j : Int) = rd l (j : Int) := by
  unfold rd
  rw [Int.toNat_natCast, List.getD_eq_getElem?_getD, List.getD_eq_getElem?_getD, List.getElem?_append_left h]
theorem mulIn_more (x : Int) (b : List Int) (i : Nat) (t : List Int) : ∀ d k out, i + k + d ≤ out.length → mulIn x b i (out ++ t) k d = mulIn x b i out k d ++ t
  | 0, _, _, _ => rfl
  | d + 1, k, out, h => by
    unfold mulIn
    rw [rd_left (by omega), List.set_append_left _ _ (by omega)]
    exact mulIn_more x b i t d (k + 1) _ (by rw [List.length_set]; omega)
theorem mulOut_more (a b t : List Int) : ∀ d i out, i + d + b.length ≤ out.length + 1 → mulOut a b (out ++ t) i d = mulOut a b out i d ++ t
  | 0, _, _, _ => rfl
  | d + 1, i, out, h => by
    unfold mulOut
    rw [mulIn_more _ b i t b.length 0 out (by omega)]
    exact mulOut_more a b t d (i + 1) _ (by rw [mulIn_len]; omega)
theorem cutB_zeros (n : Nat) : cutB (List.replicate n 0) = [] := by
  induction n with
  | zero => rfl
  | succ n ih => rw [List.replicate_succ', cutB_zero, ih]
theorem mulOut_nil (a : List Int) : ∀ d i out, mulOut a [] out i d = out
  | 0, _, _ => rfl
  | d + 1, i, out => by unfold mulOut; exact mulOut_nil a d (i + 1) out
theorem sMul_val (a b : List Int) (ha : a.length ≤ 1000) (hb : b.length ≤ 1000) : Ev (fun q => spec_poProduct.f q a b) (prodP a b) := by
  have jt : Ev (fun q => spec_poProduct.j0 q a b true) [] := by refine up ?_; simp only [spec_poProduct.j0, if_true]; exact Ev.now _
  simp only [spec_poProduct.f]
  by_cases h0 : a.length = 0
  · rw [if_pos_ev (show (a.length : Int) = 0 by omega)]
    obtain rfl := List.eq_nil_of_length_eq_zero h0
    have e : prodP [] b = [] := by unfold prodP mulOut; exact cutB_zeros _
    rw [e]; exact jt
  · rw [if_neg_ev (show ¬ (a.length : Int) = 0 by omega)]
    by_cases h1 : b.length = 0
    · obtain rfl := List.eq_nil_of_length_eq_zero h1
      have e : prodP a [] = [] := by unfold prodP; rw [mulOut_nil]; exact cutB_zeros _
      rw [e]; exact jt
    · have e : ((b.length : Int) == 0) = false := beq_eq_false_iff_ne.mpr (by omega)
      rw [e]
      refine up ?_
      have e2 : wrap64 (wrap64 ((a.length : Int) + (b.length : Int)) - 1) = ((a.length + b.length - 1 : Nat) : Int) := by
        rw [wid (x := (a.length : Int) + (b.length : Int)) (by omega) (by omega), wid (x := (a.length : Int) + (b.length : Int) - 1) (by omega) (by omega)]; omega
      simp only [spec_poProduct.j0, Bool.false_eq_true, if_false, e2, Int.toNat_natCast, if_pos (show (0 : Int) ≤ ((a.length + b.length - 1 : Nat) : Int) by omega), if_pos (show a.length + b.length - 1 ≤ 35184372088832 by omega)]
      have h := sMul_l0 a b ha hb (by omega) a.length 0 (List.replicate (a.length + b.length - 1) 0) (by omega) (by rw [List.length_replicate]; omega) (by rw [List.length_replicate]; omega)
      have e3 : prodP a b = cutB (mulOut a b (List.replicate (a.length + b.length - 1) 0) 0 a.length) := by
        unfold prodP
        have e4 : List.replicate (a.length + b.length) (0 : Int) = List.replicate (a.length + b.length - 1) 0 ++ [0] := by
          have e5 : a.length + b.length = a.length + b.length - 1 + 1 := by omega
          conv => lhs; rw [e5]
          exact List.replicate_succ'
        rw [e4, mulOut_more a b [0] a.length 0 _ (by rw [List.length_replicate]; omega), cutB_zero]
      rw [e3]; exact h
theorem mulIn_zeros (x : Int) (i : Nat) : ∀ n, i < n → mulIn x [0] i (List.replicate n 0) 0 1 = List.replicate n 0 := by
  intro n h
  have e1 : rd (List.replicate n 0) ((i + 0 : Nat) : Int) = 0 := by
    rw [rd_at (by rw [List.length_replicate]; omega)]; simp
  have e2 : rd [0] ((0 : Nat) : Int) = 0 := rfl
  simp only [mulIn, e1, e2, Int.mul_zero]
  have w0 : wrap64 0 = 0 := wid (by decide) (by decide)
  rw [w0, Int.add_zero, w0]
  apply List.ext_getElem
  · simp
  · intro j h1 h2
    rw [List.getElem_set]
    split <;> simp
theorem mulOut_zeros (a : List Int) (n : Nat) : ∀ d i, i + d ≤ n → mulOut a [0] (List.replicate n 0) i d = List.replicate n 0
  | 0, _, _ => rfl
  | d + 1, i, h => by
    unfold mulOut
    rw [show ([0] : List Int).length = 1 from rfl, mulIn_zeros _ i n (by omega)]
    exact mulOut_zeros a n d (i + 1) (by omega)
theorem prodP_zero (a : List Int) : prodP a [0] = [] := by
  unfold prodP
  rw [mulOut_zeros a _ a.length 0 (by simp)]
  exact cutB_zeros _
theorem prodP_nil (a : List Int) : prodP a [] = [] := by unfold prodP; rw [mulOut_nil]; exact cutB_zeros _
theorem prodP_cut (a : List Int) (c : Int) : prodP a (cutB [c]) = prodP a [c] := by
  by_cases h : c = 0
  · subst h
    rw [prodP_zero, show cutB [0] = [] from rfl, prodP_nil]
  · rw [show cutB [c] = [c] from cutB_ne [] h]
def coefB (n : Int) : Bool := decide (-1000000 ≤ n) && decide (n ≤ 1000000)
def inB (x lo hi : Int) : Bool := decide (lo ≤ x) && decide (x ≤ hi)
theorem iIn_val (x a b : Int) : impl_in.f x a b = some (inB x a b) := by
  unfold impl_in.f inB
  by_cases h : a ≤ x
  · rw [if_pos h]; simp [h]
  · rw [if_neg h]; simp [h]
theorem iCoef_val (n : Int) : impl_coefOk.f n = some (coefB n) := by simp only [impl_coefOk.f, iIn_val, Option.bind_some]; rfl
/-- Whether an op is right at its place. -/
def opB (o : S109) (i : Int) : Bool :=
  if o.f0 = 0 then coefB o.f1 && (o.f2 == 0)
  else if o.f0 = 1 ∨ o.f0 = 3 then inB o.f1 0 i && inB o.f2 0 i
  else if o.f0 = 2 then inB o.f1 0 i && coefB o.f2
  else false
theorem opok_val (o : S109) (i : Int) : Ev (fun q => impl_Op_ok.f q o.f0 o.f1 o.f2 i) (opB o i) := by
  obtain ⟨x, a, b⟩ := o
  dsimp only
  unfold opB
  dsimp only
  simp only [impl_Op_ok.f]
  by_cases h0 : x = 0
  · rw [if_pos_ev h0, if_pos h0]
    simp only [iCoef_val, Option.bind_some]
    cases coefB a <;> simp <;> exact Ev.now _
  · rw [if_neg_ev h0, if_neg h0]
    have hj : ∀ y : Bool, Ev (fun q => impl_Op_ok.j0 q i x y x a b) (if y = true then inB a 0 i && inB b 0 i else if x = 2 then inB a 0 i && coefB b else false) := fun y => by
      refine up ?_
      cases y with
      | true =>
        simp only [impl_Op_ok.j0, if_true, iIn_val, Option.bind_some]
        cases inB a 0 i <;> simp <;> exact Ev.now _
      | false =>
        simp only [impl_Op_ok.j0, Bool.false_eq_true, if_false]
        by_cases h2 : x = 2
        · simp only [if_pos h2, iIn_val, iCoef_val, Option.bind_some]
          cases inB a 0 i <;> simp <;> exact Ev.now _
        · simp only [if_neg h2]; exact Ev.now _
    by_cases h1 : x = 1
    · rw [if_pos_ev h1, if_pos (.inl h1)]
      have := hj (x == 1)
      rw [show (x == 1) = true by simp [h1]] at this ⊢
      exact this
    · rw [if_neg_ev h1]
      have := hj (x == 3)
      by_cases h3 : x = 3
      · rw [if_pos (.inr h3)]
        rw [show (x == 3) = true by simp [h3]] at this ⊢
        exact this
      · rw [if_neg (by omega)]
        rw [show (x == 3) = false by simp [h3]] at this ⊢
        exact this
/-- The next polynomial, as both make it. -/
def nextP (o : S109) (P : List (List Int)) : List Int :=
  if o.f0 = 0 then cutB [o.f1] else if o.f0 = 1 then sumP (rdLL P o.f1) (rdLL P o.f2) else if o.f0 = 2 then prodP (rdLL P o.f1) [o.f2] else prodP (rdLL P o.f1) (rdLL P o.f2)
theorem inB_iff {x lo hi : Int} : inB x lo hi = true ↔ lo ≤ x ∧ x ≤ hi := by unfold inB; simp
theorem rdLL_small {P : List (List Int)} (hP : ∀ p ∈ P, p.length ≤ 17) {x : Int} : (rdLL P x).length ≤ 17 := by
  unfold rdLL
  rw [List.getD_eq_getElem?_getD]
  by_cases h : x.toNat < P.length
  · rw [List.getElem?_eq_getElem h]; exact hP _ (List.getElem_mem h)
  · rw [List.getElem?_eq_none (by omega)]; simp
theorem pcNext_val (o : S109) (P : List (List Int)) (hP : ∀ p ∈ P, p.length ≤ 17) (h : opB o ((P.length : Int) - 1) = true) : Ev (fun q => pcNext q o P) (nextP o P) := by
  obtain ⟨x, a, b⟩ := o
  unfold opB at h
  unfold nextP
  simp only [pcNext]
  dsimp only at h ⊢
  by_cases h0 : x = 0
  · simp only [if_pos h0]; exact cut_val _ _ rfl (by simp)
  · simp only [if_neg h0] at h ⊢
    by_cases h1 : x = 1
    · simp only [if_pos h1, if_pos (show x = 1 ∨ x = 3 from .inl h1)] at h ⊢
      rw [Bool.and_eq_true, inB_iff, inB_iff] at h
      rw [if_pos_ev (by omega)]
      have := rdLL_small hP (x := a); have := rdLL_small hP (x := b)
      exact iSum_val _ _ (by omega) (by omega)
    · simp only [if_neg h1] at ⊢
      by_cases h2 : x = 2
      · simp only [if_neg (show ¬ (x = 1 ∨ x = 3) by omega), if_pos h2] at h ⊢
        rw [Bool.and_eq_true, inB_iff] at h
        rw [if_pos_ev (by omega)]
        have := rdLL_small hP (x := a)
        exact iMul_val _ _ (by omega) (by simp)
      · by_cases h3 : x = 3
        · simp only [if_pos (show x = 1 ∨ x = 3 from .inr h3)] at h
          simp only [if_neg h2, if_pos h3]
          rw [Bool.and_eq_true, inB_iff, inB_iff] at h
          rw [if_pos_ev (by omega)]
          have := rdLL_small hP (x := a); have := rdLL_small hP (x := b)
          exact iMul_val _ _ (by omega) (by omega)
        · simp only [if_neg (show ¬ (x = 1 ∨ x = 3) by omega), if_neg h2] at h
          cases h
/-- All polynomials of a code: none where one is not right. -/
def polysB : List S109 → List (List Int) → Option (List (List Int))
  | [], P => some P
  | o :: r, P => if opB o ((P.length : Int) - 1) = true then (if polyB (nextP o P) = true then polysB r (P ++ [nextP o P]) else none) else none
theorem polyB_len {l : List Int} (h : polyB l = true) : l.length ≤ 17 := by
  unfold polyB at h
  rw [Bool.and_eq_true] at h
  exact of_decide_eq_true h.1
theorem small_app {P : List (List Int)} (hP : ∀ p ∈ P, p.length ≤ 17) {n : List Int} (hn : n.length ≤ 17) : ∀ p ∈ P ++ [n], p.length ≤ 17 := by
  intro p hp
  rcases List.mem_append.1 hp with hp | hp
  · exact hP p hp
  · rw [List.mem_singleton] at hp; subst hp; exact hn
def resB (x : Option (List (List Int))) : List (List Int) × Bool := match x with | some P => (P, true) | none => ([], false)
theorem pcLoop_val : ∀ (ops : List S109) (P : List (List Int)), (∀ p ∈ P, p.length ≤ 17) → P.length + ops.length ≤ 900 → Ev (fun q => pcLoop q ops ((P.length : Int) - 1) P) (resB (polysB ops P))
  | [], P, _, _ => by simp only [pcLoop, polysB, resB]; exact Ev.now _
  | o :: r, P, hP, hl => by
    rw [List.length_cons] at hl
    simp only [pcLoop, polysB]
    cases h : opB o ((P.length : Int) - 1) with
    | false =>
      have hs : Ev (fun q => pcStep q o ((P.length : Int) - 1) P) none := by
        have hop := opok_val o ((P.length : Int) - 1)
        rw [h] at hop
        simp only [pcStep]
        refine Ev.bind hop ?_
        simp only [Bool.false_eq_true, if_false]
        exact Ev.now _
      refine Ev.bind hs ?_
      simp only [Bool.false_eq_true, if_false, resB]
      exact Ev.now _
    | true =>
      have hop := opok_val o ((P.length : Int) - 1)
      rw [h] at hop
      have hn := pcNext_val o P hP h
      simp only [if_true]
      cases hb : polyB (nextP o P) with
      | false =>
        have hs : Ev (fun q => pcStep q o ((P.length : Int) - 1) P) none := by
          simp only [pcStep]
          refine Ev.bind hop ?_
          simp only [if_true]
          refine Ev.bind hn ?_
          simp only [impl_polynomialOk.f, hb, Option.bind_some, Bool.false_eq_true, if_false]
          exact Ev.now _
        refine Ev.bind hs ?_
        simp only [Bool.false_eq_true, if_false, resB]
        exact Ev.now _
      | true =>
        have hs : Ev (fun q => pcStep q o ((P.length : Int) - 1) P) (some (nextP o P)) := by
          simp only [pcStep]
          refine Ev.bind hop ?_
          simp only [if_true]
          refine Ev.bind hn ?_
          simp only [impl_polynomialOk.f, hb, Option.bind_some, if_true]
          exact Ev.now _
        refine Ev.bind hs ?_
        simp only [if_true, if_pos (show P.length < 1000 by omega)]
        have := pcLoop_val r (P ++ [nextP o P]) (small_app hP (polyB_len hb)) (by rw [List.length_append, List.length_singleton]; omega)
        rw [List.length_append, List.length_singleton, show ((P.length + 1 : Nat) : Int) - 1 = ((P.length : Int) - 1) + 1 by omega] at this
        exact this
/-- Whether something is a code. -/
def codeB (ops : List S109) (out : Int) : Bool := decide (ops.length ≤ 120) && (inB out 0 ops.length && (polysB ops [[0, 1]]).isSome)
theorem start_small : ∀ p ∈ ([[0, 1]] : List (List Int)), p.length ≤ 17 := by intro p hp; rw [List.mem_singleton] at hp; subst hp; simp
theorem implCode (ops : List S109) (out : Int) : Ev (fun q => impl_IsCode.f q ops out) (codeB ops out) := by
  simp only [impl_IsCode.f, polysF, codeB]
  by_cases h1 : ops.length > 120
  · rw [show decide (ops.length ≤ 120) = false from decide_eq_false (by omega), Bool.false_and]
    simp only [if_pos h1, Option.bind_some]; exact Ev.now _
  · rw [show decide (ops.length ≤ 120) = true from decide_eq_true (by omega), Bool.true_and]
    simp only [if_neg h1]
    by_cases h2 : 0 ≤ out ∧ out ≤ (ops.length : Int)
    · rw [show inB out 0 ops.length = true from inB_iff.2 h2, Bool.true_and]
      simp only [if_pos h2]
      have := pcLoop_val ops [[0, 1]] start_small (by simp; omega)
      refine Ev.bind this ?_
      cases h : polysB ops [[0, 1]] <;> simp only [resB, Option.isSome] <;> exact Ev.now _
    · rw [show inB out 0 ops.length = false from by rw [Bool.eq_false_iff]; exact fun h => h2 (inB_iff.1 h), Bool.false_and]
      simp only [if_neg h2, Option.bind_some]; exact Ev.now _
theorem small_val (l : List Int) (hl : l.length ≤ 1000000) : Ev (fun q => spec_poSmall.f q l) (polyB l) := by
  simp only [spec_poSmall.f]
  by_cases h : l.length ≤ 17
  · rw [if_pos_ev (show (l.length : Int) ≤ 17 by omega)]
    refine Ev.bind (l1All_val (-1000000) 1000000 l (by omega)) ?_
    have e : polyB l = allIn (-1000000) 1000000 l := by
      unfold polyB
      rw [show decide (l.length ≤ 17) = true from decide_eq_true h, Bool.true_and]
      rfl
    rw [e]; exact Ev.now _
  · rw [if_neg_ev (show ¬ (l.length : Int) ≤ 17 by omega), show polyB l = false by unfold polyB; rw [show decide (l.length ≤ 17) = false from decide_eq_false h]; rfl]
    exact Ev.now _
theorem opB_f0 {o : S109} {i : Int} (h : opB o i = true) : o.f0 = 0 ∨ o.f0 = 1 ∨ o.f0 = 2 ∨ o.f0 = 3 := by
  unfold opB at h
  by_cases h0 : o.f0 = 0
  · exact .inl h0
  · rw [if_neg h0] at h
    by_cases h1 : o.f0 = 1 ∨ o.f0 = 3
    · omega
    · rw [if_neg h1] at h
      by_cases h2 : o.f0 = 2
      · omega
      · rw [if_neg h2] at h; cases h
/-- What the reference tells of an op: its polynomial if it is right. -/
theorem poOp_val (o : S109) (P : List (List Int)) (hP : ∀ p ∈ P, p.length ≤ 17) (hl : P.length ≤ 1000000) (h1 : 1 ≤ P.length) : ∃ r, Ev (fun q => spec_poOp.f q o.f0 o.f1 o.f2 P) (r, opB o ((P.length : Int) - 1)) ∧ (opB o ((P.length : Int) - 1) = true → r = nextP o P) := by
  obtain ⟨x, a, b⟩ := o
  dsimp only
  have hn : wrap64 ((P.length : Int) - 1) = (P.length : Int) - 1 := wid (by omega) (by omega)
  obtain ⟨n, hn2⟩ : ∃ n, n = (P.length : Int) - 1 := ⟨_, rfl⟩
  have key : ∀ A B : Bool, A = inB a 0 n → B = (A && inB b 0 n) → ∃ r, Ev (fun q => spec_poOp.j0 q P A B x a b) (r, opB ⟨x, a, b⟩ n) ∧ (opB ⟨x, a, b⟩ n = true → r = nextP ⟨x, a, b⟩ P) := by
    intro A B hA hB
    by_cases h0 : x = 0
    · refine ⟨cutB [a], up ?_, fun _ => by unfold nextP; rw [if_pos h0]⟩
      simp only [spec_poOp.j0, if_pos h0]
      refine Ev.bind (trim_val [a] (by simp)) ?_
      simp only [l1In_val, Option.bind_some]
      have e : opB ⟨x, a, b⟩ n = (coefB a && (b == 0)) := by unfold opB; rw [if_pos h0]
      rw [e]
      unfold coefB
      cases (decide (-1000000 ≤ a) && decide (a ≤ 1000000)) with
      | true => simp only [if_true, Bool.true_and]; exact Ev.now _
      | false => simp only [Bool.false_eq_true, if_false, Bool.false_and]; exact Ev.now _
    · have hsmall := fun y : Int => rdLL_small hP (x := y)
      have hrd : ∀ y : Int, rd_L3 P y = rdLL P y := fun _ => rfl
      have hj2 : ∀ C : Bool, C = (decide (x = 2) && (A && coefB b)) → x ≠ 1 → ∃ r, Ev (fun q => spec_poOp.j2 q P B C x a b) (r, opB ⟨x, a, b⟩ n) ∧ (opB ⟨x, a, b⟩ n = true → r = nextP ⟨x, a, b⟩ P) := by
        intro C hC hx1
        by_cases h2 : x = 2
        · have e : opB ⟨x, a, b⟩ n = C := by unfold opB; rw [if_neg h0, if_neg (by dsimp only; omega), if_pos h2, hC, hA]; simp [h2]
          rw [e]
          cases hc : C with
          | true =>
            have hA2 : inB a 0 n = true := by
              rw [hc] at hC
              simp only [h2, decide_true, Bool.true_and] at hC
              have := hC.symm
              rw [Bool.and_eq_true] at this
              rw [← hA]; exact this.1
            rw [inB_iff] at hA2
            refine ⟨prodP (rdLL P a) [b], up ?_, fun _ => by unfold nextP; rw [if_neg h0, if_neg (by dsimp only; omega), if_pos h2]⟩
            simp only [spec_poOp.j2, if_true, if_pos hA2.1, if_pos (show a < (P.length : Int) by omega), hrd]
            refine Ev.bind (trim_val [b] (by simp)) ?_
            have hq : (cutB [b]).length ≤ 1 := cutB_len [b]
            have := sMul_val (rdLL P a) (cutB [b]) (by have := hsmall a; omega) (by omega)
            rw [prodP_cut] at this
            exact Ev.bind this (Ev.now _)
          | false =>
            refine ⟨[], up ?_, fun h => by cases h⟩
            simp only [spec_poOp.j2, Bool.false_eq_true, if_false, if_neg (show ¬ x = 3 by omega)]
            exact Ev.now _
        · have hC2 : C = false := by rw [hC]; simp [h2]
          subst hC2
          by_cases h3 : x = 3
          · have e : opB ⟨x, a, b⟩ n = B := by unfold opB; rw [if_neg h0, if_pos (.inr h3), hB, hA]
            rw [e]
            cases hb : B with
            | true =>
              have hAB : inB a 0 n = true ∧ inB b 0 n = true := by
                rw [hb, hA] at hB
                have := hB.symm
                rw [Bool.and_eq_true] at this
                exact this
              rw [inB_iff, inB_iff] at hAB
              refine ⟨prodP (rdLL P a) (rdLL P b), up ?_, fun _ => by unfold nextP; rw [if_neg h0, if_neg (by dsimp only; omega), if_neg (by dsimp only; omega)]⟩
              simp only [spec_poOp.j2, Bool.false_eq_true, if_false, if_pos h3, if_true, if_pos hAB.1.1, if_pos (show a < (P.length : Int) by omega), if_pos hAB.2.1, if_pos (show b < (P.length : Int) by omega), hrd]
              exact Ev.bind (sMul_val _ _ (by have := hsmall a; omega) (by have := hsmall b; omega)) (Ev.now _)
            | false =>
              refine ⟨[], up ?_, fun h => by cases h⟩
              simp only [spec_poOp.j2, Bool.false_eq_true, if_false, if_pos h3]
              exact Ev.now _
          · have e : opB ⟨x, a, b⟩ n = false := by unfold opB; rw [if_neg h0, if_neg (by dsimp only; omega), if_neg h2]
            rw [e]
            refine ⟨[], up ?_, fun h => by cases h⟩
            simp only [spec_poOp.j2, Bool.false_eq_true, if_false, if_neg h3]
            exact Ev.now _
      have hj1f : x ≠ 1 → ∃ r, Ev (fun q => spec_poOp.j1 q P A B false x a b) (r, opB ⟨x, a, b⟩ n) ∧ (opB ⟨x, a, b⟩ n = true → r = nextP ⟨x, a, b⟩ P) := by
        intro hx1
        by_cases h2 : x = 2
        · cases hAv : A with
          | true =>
            obtain ⟨r, h3, h4⟩ := hj2 (coefB b) (by rw [hAv]; simp [h2]) hx1
            refine ⟨r, up ?_, h4⟩
            simp only [spec_poOp.j1, Bool.false_eq_true, if_false, if_pos h2, if_true, l1In_val, Option.bind_some]
            exact h3
          | false =>
            obtain ⟨r, h3, h4⟩ := hj2 false (by rw [hAv]; simp) hx1
            refine ⟨r, up ?_, h4⟩
            simp only [spec_poOp.j1, Bool.false_eq_true, if_false, if_pos h2]
            exact h3
        · obtain ⟨r, h3, h4⟩ := hj2 false (by simp [h2]) hx1
          refine ⟨r, up ?_, h4⟩
          simp only [spec_poOp.j1, Bool.false_eq_true, if_false, if_neg h2]
          exact h3
      by_cases h1 : x = 1
      · have e : opB ⟨x, a, b⟩ n = B := by unfold opB; rw [if_neg h0, if_pos (.inl h1), hB, hA]
        rw [e]
        cases hb : B with
        | true =>
          have hAB : inB a 0 n = true ∧ inB b 0 n = true := by
            rw [hb, hA] at hB
            have := hB.symm
            rw [Bool.and_eq_true] at this
            exact this
          rw [inB_iff, inB_iff] at hAB
          refine ⟨sumP (rdLL P a) (rdLL P b), up ?_, fun _ => by unfold nextP; rw [if_neg h0, if_pos h1]⟩
          simp only [spec_poOp.j0, if_neg h0, if_pos h1]
          refine up ?_
          simp only [spec_poOp.j1, if_true, if_pos hAB.1.1, if_pos (show a < (P.length : Int) by omega), if_pos hAB.2.1, if_pos (show b < (P.length : Int) by omega), hrd]
          exact Ev.bind (sSum_val _ _ (by have := hsmall a; omega) (by have := hsmall b; omega)) (Ev.now _)
        | false =>
          refine ⟨[], up ?_, fun h => by cases h⟩
          simp only [spec_poOp.j0, if_neg h0, if_pos h1]
          refine up ?_
          simp only [spec_poOp.j1, Bool.false_eq_true, if_false, if_neg (show ¬ x = 2 by omega)]
          refine up ?_
          simp only [spec_poOp.j2, Bool.false_eq_true, if_false, if_neg (show ¬ x = 3 by omega)]
          exact Ev.now _
      · obtain ⟨r, h3, h4⟩ := hj1f h1
        refine ⟨r, up ?_, h4⟩
        simp only [spec_poOp.j0, if_neg h0, if_neg h1]
        exact h3
  rw [← hn2]
  have e1 : ∀ y : Int, (decide ((0 : Int) ≤ y) && decide (y ≤ n)) = inB y 0 n := fun _ => rfl
  cases hA : inB a 0 n with
  | true =>
    obtain ⟨r, h3, h4⟩ := key true (inB b 0 n) hA.symm (by rw [Bool.true_and])
    refine ⟨r, ?_, h4⟩
    simp only [spec_poOp.f, show wrap64 ((P.length : Int) - 1) = n from hn.trans hn2.symm, l1In_val, Option.bind_some, e1, hA, if_true]
    exact h3
  | false =>
    obtain ⟨r, h3, h4⟩ := key false false hA.symm (by rw [Bool.false_and])
    refine ⟨r, ?_, h4⟩
    simp only [spec_poOp.f, show wrap64 ((P.length : Int) - 1) = n from hn.trans hn2.symm, l1In_val, Option.bind_some, e1, hA, Bool.false_eq_true, if_false]
    exact h3
theorem rdOp_at {T : List S109} {i : Nat} (h : i < T.length) : rd_T109 T (i : Int) = T[i] := by
  unfold rd_T109
  rw [Int.toNat_natCast, List.getD_eq_getElem?_getD, List.getElem?_eq_getElem h]; rfl
theorem nextP_len (o : S109) (P : List (List Int)) (hP : ∀ p ∈ P, p.length ≤ 17) : (nextP o P).length ≤ 100 := by
  have h1 := rdLL_small hP (x := o.f1)
  have h2 := rdLL_small hP (x := o.f2)
  unfold nextP
  split
  · have := cutB_len [o.f1]; simp at this; omega
  · split
    · unfold sumP
      refine Nat.le_trans (cutB_len _) ?_
      rw [addTo_len, addTo_len, List.length_replicate]; omega
    · split
      · unfold prodP
        refine Nat.le_trans (cutB_len _) ?_
        rw [mulOut_len, List.length_replicate, List.length_singleton]; omega
      · unfold prodP
        refine Nat.le_trans (cutB_len _) ?_
        rw [mulOut_len, List.length_replicate]; omega
theorem poValues_loop (ops : List S109) (out : Int) (hl : ops.length ≤ 120) : ∀ (d i : Nat) (P : List (List Int)), i + d = ops.length → P.length = i + 1 → (∀ p ∈ P, p.length ≤ 17) → ∃ R : List (List Int) × Bool, Ev (fun q => spec_poValues.l0 q P ops (ops.length : Int) i ops out) R ∧ R = (match polysB (ops.drop i) P with | some P' => (P', inB out 0 ops.length) | none => ([], false)) := by
  intro d
  induction d with
  | zero =>
    intro i P h hp hP
    rw [List.drop_of_length_le (by omega)]
    refine ⟨_, up ?_, rfl⟩
    simp only [spec_poValues.l0, if_neg (show ¬ (i : Int) < (ops.length : Int) by omega), l1In_val, Option.bind_some, polysB]
    exact Ev.now _
  | succ d ih =>
    intro i P h hp hP
    have hi : i < ops.length := by omega
    obtain ⟨r, h1, h2⟩ := poOp_val ops[i] P hP (by omega) (by omega)
    have e : (P.length : Int) - 1 = (i : Int) := by omega
    rw [List.drop_eq_getElem_cons hi]
    unfold polysB
    have hgo : ∀ R, Ev (fun q => (if (opB ops[i] ((P.length : Int) - 1)) = true then ((spec_poSmall.f q r).bind fun t => if t = true then (if P.length < 5864062014805 then spec_poValues.l0 q (P ++ [r]) ops (ops.length : Int) ((i + 1 : Nat) : Int) ops out else none) else some ([], false)) else some ([], false))) R → Ev (fun q => spec_poValues.l0 q P ops (ops.length : Int) i ops out) R := by
      intro R hR
      refine up ?_
      simp only [spec_poValues.l0, if_pos (show (i : Int) < (ops.length : Int) by omega), if_pos (show (0 : Int) ≤ (i : Int) by omega), rdOp_at hi, wid (x := (i : Int) + 1) (by omega) (by omega)]
      exact Ev.bind h1 hR
    cases hb : opB ops[i] ((P.length : Int) - 1) with
    | false =>
      refine ⟨([], false), hgo _ ?_, by simp⟩
      rw [hb]
      simp only [Bool.false_eq_true, if_false]
      exact Ev.now _
    | true =>
      obtain rfl := h2 hb
      have hnl := nextP_len ops[i] P hP
      simp only [if_true]
      cases hs : polyB (nextP ops[i] P) with
      | false =>
        refine ⟨([], false), hgo _ ?_, by simp⟩
        rw [hb]
        simp only [if_true]
        have := small_val (nextP ops[i] P) (by omega)
        rw [hs] at this
        refine Ev.bind this ?_
        simp only [Bool.false_eq_true, if_false]
        exact Ev.now _
      | true =>
        obtain ⟨R, h3, h4⟩ := ih (i + 1) (P ++ [nextP ops[i] P]) (by omega) (by rw [List.length_append, List.length_singleton]; omega) (small_app hP (polyB_len hs))
        refine ⟨R, hgo _ ?_, by simpa using h4⟩
        rw [hb]
        simp only [if_true]
        have := small_val (nextP ops[i] P) (by omega)
        rw [hs] at this
        refine Ev.bind this ?_
        simp only [if_true, if_pos (show P.length < 5864062014805 by omega)]
        exact h3
theorem specGood (ops : List S109) (out : Int) : Ev (fun q => spec_poGood.f q ops out) (codeB ops out) := by
  simp only [spec_poGood.f, spec_poValues.f, codeB]
  by_cases h1 : ops.length > 120
  · rw [show decide (ops.length ≤ 120) = false from decide_eq_false (by omega), Bool.false_and]
    simp only [if_pos (show (ops.length : Int) > 120 by omega), Option.bind_some]; exact Ev.now _
  · rw [show decide (ops.length ≤ 120) = true from decide_eq_true (by omega), Bool.true_and]
    simp only [if_neg (show ¬ (ops.length : Int) > 120 by omega)]
    obtain ⟨R, h2, h3⟩ := poValues_loop ops out (by omega) ops.length 0 [[0, 1]] (by omega) rfl start_small
    refine Ev.bind h2 ?_
    rw [h3, List.drop_zero]
    cases polysB ops [[0, 1]] with
    | none => simp only [Option.isSome, Bool.and_false]; exact Ev.now _
    | some P => simp only [Option.isSome, Bool.and_true]; exact Ev.now _
theorem hasB_drop {l : List Int} {i : Nat} (h : i < l.length) (x : Int) : hasB (l.drop i) x = (decide (l[i] = x) || hasB (l.drop (i + 1)) x) := by
  rw [List.drop_eq_getElem_cons h]
  unfold hasB
  rw [List.contains_cons]
  congr 1
  by_cases e : l[i] = x
  · simp [e]
  · simp [e, Ne.symm e]
theorem hasB_end (l : List Int) (x : Int) : hasB (l.drop l.length) x = false := by rw [List.drop_length]; rfl
theorem l1Has_loop (x : Int) (l : List Int) (hl : l.length ≤ 17592186044416) : ∀ (d i : Nat), i + d = l.length → Ev (fun k => spec_l1Has.l0 k x l (l.length : Int) i) (hasB (l.drop i) x) := by
  intro d
  induction d with
  | zero =>
    intro i h
    refine up ?_
    simp only [spec_l1Has.l0, if_neg (show ¬ (i : Int) < (l.length : Int) by omega)]
    rw [show i = l.length by omega, hasB_end]
    exact Ev.now _
  | succ d ih =>
    intro i h
    have hi : i < l.length := by omega
    refine up ?_
    simp only [spec_l1Has.l0, if_pos (show (i : Int) < (l.length : Int) by omega), if_pos (show (0 : Int) ≤ (i : Int) by omega), rd_at hi, wid (x := (i : Int) + 1) (by omega) (by omega)]
    rw [hasB_drop hi]
    by_cases e : l[i] = x
    · simp only [e, if_true, decide_true, Bool.true_or]; exact Ev.now _
    · simp only [e, if_false, decide_false, Bool.false_or]; exact ih (i + 1) (by omega)
theorem l1Has_val (x : Int) (l : List Int) (hl : l.length ≤ 17592186044416) : Ev (fun k => spec_l1Has.f k l x) (hasB l x) := l1Has_loop x l hl l.length 0 (by omega)
/-- A number put into a list in order. -/
def putB : List Int → Int → List Int
  | [], x => [x]
  | y :: l, x => if y < x then y :: putB l x else if y = x then y :: l else x :: y :: l
theorem put_loop (x : Int) (l : List Int) (hl : l.length ≤ 1000000) : ∀ (d i : Nat), i + d = l.length → Ev (fun q => spec_l1Put.l0 q l x i) (l.take i ++ putB (l.drop i) x) := by
  intro d
  induction d with
  | zero =>
    intro i h
    have e : i = l.length := by omega
    subst e
    refine up ?_
    simp only [spec_l1Put.l0, if_neg (show ¬ (l.length : Int) < (l.length : Int) by omega), Option.bind_some, if_pos (show (0 : Int) ≤ (l.length : Int) by omega), if_pos (show (l.length : Int) ≤ (l.length : Int) by omega), Int.toNat_natCast, List.take_length, List.drop_length, List.length_nil, List.nil_append, List.length_append, List.length_singleton, List.append_nil, putB, Nat.zero_add, Nat.add_zero, if_pos (show l.length < 17592186044416 by omega), if_pos (show l.length + 1 < 17592186044416 by omega)]
    exact Ev.now _
  | succ d ih =>
    intro i h
    have hi : i < l.length := by omega
    refine up ?_
    simp only [spec_l1Put.l0, if_pos (show (i : Int) < (l.length : Int) by omega), if_pos (show (0 : Int) ≤ (i : Int) by omega), rd_at hi, wid (x := (i : Int) + 1) (by omega) (by omega)]
    rw [List.drop_eq_getElem_cons hi]
    unfold putB
    by_cases h1 : l[i] < x
    · rw [if_pos_ev h1, if_pos h1]
      have ih := ih (i + 1) (by omega)
      rw [List.take_succ_eq_append_getElem hi, List.append_assoc, List.singleton_append] at ih
      exact ih
    · rw [if_neg_ev h1, if_neg h1]
      by_cases h2 : l[i] = x
      · rw [if_pos_ev h2, if_pos h2, ← List.drop_eq_getElem_cons hi, List.take_append_drop]; exact Ev.now _
      · rw [if_neg_ev h2, if_neg h2, ← List.drop_eq_getElem_cons hi]
        have ht : (l.take i).length = i := by rw [List.length_take]; omega
        simp only [Option.bind_some, if_pos (show (i : Int) ≤ (l.length : Int) by omega), Int.toNat_natCast, List.length_nil, List.nil_append, List.length_append, List.length_singleton, ht, List.length_drop, Nat.zero_add, if_pos (show i < 17592186044416 by omega), if_pos (show i + 1 + (l.length - i) < 17592186044416 by omega), List.append_assoc, List.singleton_append]
        exact Ev.now _
theorem put_val (x : Int) (l : List Int) (hl : l.length ≤ 1000000) : Ev (fun q => spec_l1Put.f q l x) (putB l x) := by
  have := put_loop x l hl l.length 0 (by omega)
  simpa [spec_l1Put.f] using this
/-- What both mean: the ops that are needed. -/
theorem rdO_get {T : List S109} {i : Nat} (h : i < T.length) : rd_T109 T (i : Int) = T[i] := by
  unfold rd_T109
  rw [Int.toNat_natCast, List.getD_eq_getElem?_getD, List.getElem?_eq_getElem h]; rfl
/-- Each op of a code is right at its place. -/
theorem polys_op : ∀ (ops : List S109) (P : List (List Int)) (Q : List (List Int)), polysB ops P = some Q → ∀ i (h : i < ops.length), opB ops[i] ((P.length : Int) - 1 + i) = true
  | [], _, _, _, i, h => absurd h (Nat.not_lt_zero _)
  | o :: r, P, Q, e, i, h => by
    unfold polysB at e
    by_cases h1 : opB o ((P.length : Int) - 1) = true
    · rw [if_pos h1] at e
      by_cases h2 : polyB (nextP o P) = true
      · rw [if_pos h2] at e
        cases i with
        | zero => simpa using h1
        | succ i =>
          have := polys_op r _ Q e i (by simpa using h)
          rw [List.length_append, List.length_singleton] at this
          rw [List.getElem_cons_succ, show (P.length : Int) - 1 + ((i + 1 : Nat) : Int) = ((P.length + 1 : Nat) : Int) - 1 + i by omega]
          exact this
      · rw [if_neg h2] at e; cases e
    · rw [if_neg h1] at e; cases e
theorem opB_vals {o : S109} {i : Int} (h : opB o i = true) : ∀ v ∈ tcVals o, 0 ≤ v ∧ v ≤ i := by
  intro v hv
  unfold opB at h
  unfold tcVals at hv
  by_cases h0 : o.f0 = 0
  · rw [if_pos h0] at hv; cases hv
  · rw [if_neg h0] at h hv
    by_cases h1 : o.f0 = 1 ∨ o.f0 = 3
    · rw [if_pos h1, Bool.and_eq_true, inB_iff, inB_iff] at h
      rw [if_neg (by omega)] at hv
      simp only [List.mem_cons, List.not_mem_nil, or_false] at hv
      rcases hv with rfl | rfl
      · exact h.1
      · exact h.2
    · rw [if_neg h1] at h
      by_cases h2 : o.f0 = 2
      · rw [if_pos h2, Bool.and_eq_true, inB_iff] at h
        rw [if_pos h2, List.mem_singleton] at hv
        subst hv
        exact h.1
      · rw [if_neg h2] at h; cases h
/-- What a code is, for the two walks. -/
structure Fits (ops : List S109) (out : Int) : Prop where
  len : ops.length ≤ 120
  o0 : 0 ≤ out
  o1 : out ≤ (ops.length : Int)
  kind : ∀ i (h : i < ops.length), ops[i].f0 = 0 ∨ ops[i].f0 = 1 ∨ ops[i].f0 = 2 ∨ ops[i].f0 = 3
  vals : ∀ i (h : i < ops.length), ∀ v ∈ tcVals ops[i], 0 ≤ v ∧ v ≤ (i : Int)
theorem fits_of {ops : List S109} {out : Int} (h : codeB ops out = true) : Fits ops out := by
  unfold codeB at h
  rw [Bool.and_eq_true, Bool.and_eq_true, inB_iff] at h
  obtain ⟨h1, ⟨h2, h3⟩, h4⟩ := h
  obtain ⟨Q, hQ⟩ := Option.isSome_iff_exists.mp h4
  have hp : ∀ i (h : i < ops.length), opB ops[i] (i : Int) = true := fun i hi => by
    have := polys_op ops _ Q hQ i hi
    simpa using this
  exact ⟨of_decide_eq_true h1, h2, h3, fun i hi => opB_f0 (hp i hi), fun i hi => opB_vals (hp i hi)⟩
theorem fit_tc {ops : List S109} {out : Int} (F : Fits ops out) : tcFit ops out := ⟨F.len, F.o0, F.o1, fun i hi v hv => F.vals i hi v (by rw [← rdO_get hi]; exact hv)⟩
/-! The marks. -/
theorem or_get (i : Nat) (nd : List Bool) (v : Int) (x : Nat) (h0 : 0 ≤ v) (hv : v.toNat < nd.length) (_hi : v.toNat ≠ i + 1) : (tcOr i nd v).getD x false = (nd.getD x false || (decide (v = (x : Int)) && nd.getD (i + 1) false)) := by
  unfold tcOr
  rw [List.getD_eq_getElem?_getD, List.getD_eq_getElem?_getD (i := x)]
  by_cases e : v.toNat = x
  · subst e
    rw [List.getElem?_set_self hv, show decide (v = ((v.toNat : Nat) : Int)) = true from decide_eq_true (by omega), Bool.true_and, ← List.getD_eq_getElem?_getD]
    rfl
  · rw [List.getElem?_set_ne e, show decide (v = (x : Int)) = false from decide_eq_false (by omega), Bool.false_and, Bool.or_false]
theorem fold_get (i : Nat) (x : Nat) : ∀ (V : List Int) (nd : List Bool), (∀ v ∈ V, 0 ≤ v ∧ v ≤ (i : Int)) → i + 1 < nd.length → (V.foldl (tcOr i) nd).getD x false = (nd.getD x false || (V.contains (x : Int) && nd.getD (i + 1) false))
  | [], nd, _, _ => by simp
  | v :: V, nd, h, hl => by
    have hv := h v List.mem_cons_self
    rw [List.foldl_cons, fold_get i x V _ (fun u hu => h u (List.mem_cons_of_mem _ hu)) (by rw [tcOr_length]; exact hl), or_get i nd v x hv.1 (by omega) (by omega), or_get i nd v (i + 1) hv.1 (by omega) (by omega), List.contains_cons, show decide (v = ((i + 1 : Nat) : Int)) = false from decide_eq_false (by omega), Bool.false_and, Bool.or_false]
    have e : decide (v = (x : Int)) = ((x : Int) == v) := by
      by_cases h : v = (x : Int)
      · rw [decide_eq_true h, h]
        exact (beq_self_eq_true _).symm
      · rw [decide_eq_false h]
        exact (beq_eq_false_iff_ne.mpr (fun e => h e.symm)).symm
    rw [e]
    cases nd.getD x false <;> cases ((x : Int) == v) <;> cases nd.getD (i + 1) false <;> cases V.contains (x : Int) <;> rfl
/-- The marks when k rounds are over. -/
def ndK (ops : List S109) (out : Int) (k : Nat) : List Bool := (YtlmoemahamneoaaBack.upto (tcAt ops) k).foldl tcMark (tcNd0 ops out)
theorem ndK_zero (ops : List S109) (out : Int) : ndK ops out 0 = tcNd0 ops out := rfl
theorem ndK_succ (ops : List S109) (out : Int) (k : Nat) : ndK ops out (k + 1) = tcMark (ndK ops out k) (tcAt ops k) := by
  unfold ndK
  rw [YtlmoemahamneoaaBack.upto_succ, List.foldl_append]; rfl
theorem ndK_length (ops : List S109) (out : Int) : ∀ k, (ndK ops out k).length = ops.length + 1
  | 0 => by simp [ndK_zero, tcNd0]
  | k + 1 => by rw [ndK_succ, tcMark_length, ndK_length ops out k]
theorem ndK_get {ops : List S109} {out : Int} (F : Fits ops out) {k i : Nat} (h : i + k + 1 = ops.length) (x : Nat) : (ndK ops out (k + 1)).getD x false = ((ndK ops out k).getD x false || ((tcVals (ops[i]'(by omega))).contains (x : Int) && (ndK ops out k).getD (i + 1) false)) := by
  have e : tcAt ops k = ((i : Int), ops[i]'(by omega)) := by
    unfold tcAt
    rw [show ops.length - 1 - k = i by omega, rdO_get (by omega)]
  rw [ndK_succ, e]
  unfold tcMark
  rw [Int.toNat_natCast]
  exact fold_get i x _ _ (F.vals i (by omega)) (by rw [ndK_length]; omega)
theorem ndK_mono {ops : List S109} {out : Int} (F : Fits ops out) {x : Nat} : ∀ (d k : Nat), k + d ≤ ops.length → (ndK ops out k).getD x false = true → (ndK ops out (k + d)).getD x false = true
  | 0, _, _, h => h
  | d + 1, k, hk, h => by
    have h1 := ndK_mono F d k (by omega) h
    rw [show k + (d + 1) = (k + d) + 1 by omega, ndK_get F (i := ops.length - 1 - (k + d)) (by omega) x, h1]; rfl
theorem ndK_far {ops : List S109} {out : Int} (F : Fits ops out) {x : Nat} : ∀ (d k : Nat), k + d ≤ ops.length → ops.length ≤ x + k → (ndK ops out (k + d)).getD x false = (ndK ops out k).getD x false
  | 0, _, _, _ => rfl
  | d + 1, k, hk, h => by
    rw [show k + (d + 1) = (k + d) + 1 by omega, ndK_get F (i := ops.length - 1 - (k + d)) (by omega) x, ndK_far F d k (by omega) h]
    have : (tcVals (ops[ops.length - 1 - (k + d)]'(by omega))).contains (x : Int) = false := by
      rw [Bool.eq_false_iff]
      intro hc
      have := F.vals _ (by omega) (x : Int) (List.contains_iff_mem.mp hc)
      omega
    rw [this, Bool.false_and, Bool.or_false]
/-- Whether op i is needed. -/
def nb (ops : List S109) (out : Int) (i : Nat) : Bool := (tcNeed ops out).getD (i + 1) false
theorem need_K (ops : List S109) (out : Int) : tcNeed ops out = ndK ops out ops.length := rfl
theorem nb_K {ops : List S109} {out : Int} (F : Fits ops out) {k i : Nat} (h : i + k + 1 = ops.length) : (ndK ops out k).getD (i + 1) false = nb ops out i := by
  unfold nb
  rw [need_K]
  have := ndK_far F (x := i + 1) (ops.length - k) k (by omega) (by omega)
  rw [show k + (ops.length - k) = ops.length by omega] at this
  exact this.symm
theorem nb_out {ops : List S109} {out : Int} (F : Fits ops out) : (tcNeed ops out).getD out.toNat false = true := by
  have h0 := F.o0
  have h1 := F.o1
  have := ndK_mono F (x := out.toNat) ops.length 0 (by omega) (by
    rw [ndK_zero]
    unfold tcNd0
    rw [List.getD_eq_getElem?_getD, List.getElem?_set_self (by rw [List.length_replicate]; omega)]; rfl)
  rw [Nat.zero_add] at this
  exact this
theorem nb_vals {ops : List S109} {out : Int} (F : Fits ops out) {i : Nat} (hi : i < ops.length) (hb : nb ops out i = true) {v : Int} (hv : v ∈ tcVals ops[i]) : (tcNeed ops out).getD v.toNat false = true := by
  have h0 := F.vals i hi v hv
  have h1 : (ndK ops out ((ops.length - 1 - i) + 1)).getD v.toNat false = true := by
    rw [ndK_get F (i := i) (by omega) v.toNat, nb_K F (by omega), hb, show ((v.toNat : Nat) : Int) = v by omega, List.contains_iff_mem.mpr hv]
    exact Bool.or_true _
  have := ndK_mono F (ops.length - (ops.length - 1 - i + 1)) _ (by omega) h1
  rw [show ops.length - 1 - i + 1 + (ops.length - (ops.length - 1 - i + 1)) = ops.length by omega] at this
  exact this
/-! What is kept, and how many are kept before. -/
def keptF (b : Nat → Bool) : Nat → Nat → List Int
  | _, 0 => []
  | j, d + 1 => if b j = true then (j : Int) :: keptF b (j + 1) d else keptF b (j + 1) d
def cntF (b : Nat → Bool) : Nat → Nat
  | 0 => 0
  | j + 1 => cntF b j + (if b j = true then 1 else 0)
theorem keptF_ge (b : Nat → Bool) : ∀ d j, ∀ x ∈ keptF b j d, ∃ t : Nat, x = (t : Int) ∧ j ≤ t ∧ t < j + d ∧ b t = true
  | 0, _, x, h => by cases h
  | d + 1, j, x, h => by
    unfold keptF at h
    by_cases hb : b j = true
    · rw [if_pos hb, List.mem_cons] at h
      rcases h with rfl | h
      · exact ⟨j, rfl, Nat.le_refl _, by omega, hb⟩
      · obtain ⟨t, e, h1, h2, h3⟩ := keptF_ge b d (j + 1) x h
        exact ⟨t, e, by omega, by omega, h3⟩
    · rw [if_neg hb] at h
      obtain ⟨t, e, h1, h2, h3⟩ := keptF_ge b d (j + 1) x h
      exact ⟨t, e, by omega, by omega, h3⟩
theorem keptF_len (b : Nat → Bool) : ∀ d j, (keptF b j d).length ≤ d
  | 0, _ => Nat.le_refl _
  | d + 1, j => by
    have := keptF_len b d (j + 1)
    unfold keptF
    split
    · rw [List.length_cons]; omega
    · omega
theorem put_head (b : Nat → Bool) (d j : Nat) : putB (keptF b (j + 1) d) (j : Int) = (j : Int) :: keptF b (j + 1) d := by
  cases h : keptF b (j + 1) d with
  | nil => rfl
  | cons y l =>
    obtain ⟨t, e, h1, _⟩ := keptF_ge b d (j + 1) y (by rw [h]; exact List.mem_cons_self)
    unfold putB
    rw [if_neg (by omega), if_neg (by omega)]
def placeB : List Int → Int → Int → Int
  | [], _, _ => -1
  | y :: l, x, c => if y = x then c else placeB l x (c + 1)
theorem place_kept (b : Nat → Bool) (x : Nat) (hx : b x = true) : ∀ d j (c : Int), j ≤ x → x < j + d → placeB (keptF b j d) (x : Int) c = c + (cntF b x : Int) - (cntF b j : Int)
  | 0, j, c, h1, h2 => by omega
  | d + 1, j, c, h1, h2 => by
    unfold keptF
    by_cases hb : b j = true
    · rw [if_pos hb]
      unfold placeB
      by_cases e : (j : Int) = (x : Int)
      · rw [if_pos e]
        have : j = x := by omega
        subst this
        omega
      · rw [if_neg e, place_kept b x hx d (j + 1) (c + 1) (by omega) (by omega)]
        have : cntF b (j + 1) = cntF b j + 1 := by rw [cntF, if_pos hb]
        omega
    · rw [if_neg hb, place_kept b x hx d (j + 1) c (by
        rcases Nat.lt_or_ge j x with h | h
        · omega
        · have : j = x := by omega
          subst this
          exact absurd hx hb) (by omega)]
      have : cntF b (j + 1) = cntF b j := by rw [cntF, if_neg hb]; rfl
      rw [this]
theorem cntF_le (b : Nat → Bool) : ∀ j, cntF b j ≤ j
  | 0 => Nat.le_refl _
  | j + 1 => by
    have := cntF_le b j
    rw [cntF]
    split <;> omega
/-! The program's second loop. -/
def mvOp (b : Nat → Bool) (o : S109) : S109 := if o.f0 = 0 then o else if o.f0 = 2 then ⟨o.f0, (cntF b o.f1.toNat : Int), o.f2⟩ else ⟨o.f0, (cntF b o.f1.toNat : Int), (cntF b o.f2.toNat : Int)⟩
def mvAt (ops : List S109) (b : Nat → Bool) (t : Int) : S109 := mvOp b (rd_T109 ops t)
def plF (b : Nat → Bool) (n : Nat) : List Int := (List.range n).map fun j => (cntF b j : Int)
theorem plF_length (b : Nat → Bool) (n : Nat) : (plF b n).length = n := by simp [plF]
theorem plF_succ (b : Nat → Bool) (n : Nat) : plF b (n + 1) = plF b n ++ [(cntF b n : Int)] := by simp [plF, List.range_succ]
theorem plF_rd (b : Nat → Bool) {n : Nat} {x : Int} (h0 : 0 ≤ x) (h1 : x < (n : Int)) : rd (plF b n) x = (cntF b x.toNat : Int) := by
  unfold rd plF
  rw [List.getD_eq_getElem?_getD, List.getElem?_map, List.getElem?_eq_getElem (by simp; omega)]
  simp
theorem moved_val {b : Nat → Bool} {o : S109} {i n : Nat} (hk : o.f0 = 0 ∨ o.f0 = 1 ∨ o.f0 = 2 ∨ o.f0 = 3) (hv : ∀ v ∈ tcVals o, 0 ≤ v ∧ v ≤ (i : Int)) (hn : n = i + 1) : impl_Op_moved.f o.f0 o.f1 o.f2 (plF b n) = some ((mvOp b o).f0, (mvOp b o).f1, (mvOp b o).f2) := by
  obtain ⟨x, p, q⟩ := o
  unfold tcVals at hv
  unfold mvOp impl_Op_moved.f
  dsimp only at hk hv ⊢
  rw [plF_length]
  rcases hk with rfl | rfl | rfl | rfl
  · simp
  · have h1 := hv p (by simp)
    have h2 := hv q (by simp)
    simp [plF_rd b (n := n) h1.1 (by omega), plF_rd b (n := n) h2.1 (by omega), h1.1, h2.1, show p < (n : Int) by omega, show q < (n : Int) by omega]
  · have h1 := hv p (by simp)
    simp [plF_rd b (n := n) h1.1 (by omega), h1.1, show p < (n : Int) by omega]
  · have h1 := hv p (by simp)
    have h2 := hv q (by simp)
    simp [plF_rd b (n := n) h1.1 (by omega), plF_rd b (n := n) h2.1 (by omega), h1.1, h2.1, show p < (n : Int) by omega, show q < (n : Int) by omega]
theorem build_val {ops : List S109} {out : Int} (F : Fits ops out) : ∀ (d i : Nat) (os : List S109), i + d = ops.length → os.length = cntF (nb ops out) i →
    tcBuild (tcNeed ops out) (ops.drop i) i os (plF (nb ops out) (i + 1)) = some (os ++ (keptF (nb ops out) i d).map (mvAt ops (nb ops out)), plF (nb ops out) (ops.length + 1))
  | 0, i, os, h, _ => by
    have : i = ops.length := by omega
    subst this
    rw [List.drop_length]
    simp [tcBuild, keptF]
  | d + 1, i, os, h, hl => by
    have hi : i < ops.length := by omega
    rw [List.drop_eq_getElem_cons hi]
    unfold tcBuild keptF
    have hb : (tcNeed ops out).getD (i + 1) false = nb ops out i := rfl
    rw [hb]
    by_cases e : nb ops out i = true
    · rw [if_pos e, if_pos e, moved_val (i := i) (F.kind i hi) (F.vals i hi) rfl, Option.bind_some]
      have hc : cntF (nb ops out) (i + 1) = os.length + 1 := by rw [cntF, if_pos e, hl]
      have := build_val F d (i + 1) (os ++ [mvOp (nb ops out) ops[i]]) (by omega) (by rw [List.length_append, List.length_singleton, hc])
      rw [plF_succ _ (i + 1), hc] at this
      rw [List.map_cons, show mvAt ops (nb ops out) (i : Int) = mvOp (nb ops out) ops[i] by unfold mvAt; rw [rdO_get hi]]
      rw [List.append_assoc, List.singleton_append] at this
      exact this
    · rw [if_neg e, if_neg e]
      have hc : cntF (nb ops out) (i + 1) = os.length := by rw [cntF, if_neg e, hl]; rfl
      have := build_val F d (i + 1) os (by omega) hc.symm
      rw [plF_succ _ (i + 1), hc] at this
      exact this
/-- What both return of a code. -/
def trimR (ops : List S109) (out : Int) : List S109 := (keptF (nb ops out) 0 ops.length).map (mvAt ops (nb ops out))
def trimO (ops : List S109) (out : Int) : Int := (cntF (nb ops out) out.toNat : Int)
theorem implTrim {ops : List S109} {out : Int} (h : codeB ops out = true) : Ev (fun q => impl_TrimCode.f q ops out) (trimR ops out, trimO ops out, true) := by
  have F := fits_of h
  simp only [impl_TrimCode.f]
  have hc := implCode ops out
  rw [h] at hc
  refine Ev.bind hc ?_
  have hb := build_val F ops.length 0 [] (by omega) rfl
  rw [List.drop_zero, List.nil_append] at hb
  have h1 := F.o1
  have e : plF (nb ops out) (0 + 1) = [0] := rfl
  rw [e] at hb
  simp only [if_true, if_pos (fit_tc F), hb, Option.bind_some, plF_length, if_pos (show out < ((ops.length + 1 : Nat) : Int) by omega), plF_rd (nb ops out) (n := ops.length + 1) F.o0 (by omega)]
  exact Ev.now _
theorem implTrim_no {ops : List S109} {out : Int} (h : codeB ops out = false) : Ev (fun q => impl_TrimCode.f q ops out) ([], 0, false) := by
  simp only [impl_TrimCode.f]
  have hc := implCode ops out
  rw [h] at hc
  refine Ev.bind hc ?_
  simp only [Bool.false_eq_true, if_false]
  exact Ev.now _
/-! The reference's loops. -/
theorem place_loop (x : Int) (l : List Int) (hl : l.length ≤ 1000000) : ∀ (d i : Nat), i + d = l.length → Ev (fun q => spec_plPlace.l0 q x l (l.length : Int) i) (placeB (l.drop i) x i) := by
  intro d
  induction d with
  | zero =>
    intro i h
    refine up ?_
    simp only [spec_plPlace.l0, if_neg (show ¬ (i : Int) < (l.length : Int) by omega)]
    rw [show i = l.length by omega, List.drop_length]
    exact Ev.now _
  | succ d ih =>
    intro i h
    have hi : i < l.length := by omega
    refine up ?_
    simp only [spec_plPlace.l0, if_pos (show (i : Int) < (l.length : Int) by omega), if_pos (show (0 : Int) ≤ (i : Int) by omega), rd_at hi, wid (x := (i : Int) + 1) (by omega) (by omega)]
    rw [List.drop_eq_getElem_cons hi]
    unfold placeB
    by_cases e : l[i] = x
    · rw [if_pos_ev e, if_pos e]; exact Ev.now _
    · rw [if_neg_ev e, if_neg e]; exact ih (i + 1) (by omega)
def newB (l : List Int) (v : Int) : Int := if v = 0 then 0 else wrap64 (placeB l (wrap64 (v - 1)) 0 + 1)
theorem new_val (l : List Int) (hl : l.length ≤ 1000000) (v : Int) : Ev (fun q => spec_poNew.f q l v) (newB l v) := by
  simp only [spec_poNew.f]
  unfold newB
  by_cases h : v = 0
  · rw [if_pos_ev h, if_pos h]; exact Ev.now _
  · rw [if_neg_ev h, if_neg h]
    have := place_loop (wrap64 (v - 1)) l hl l.length 0 (by omega)
    refine Ev.bind (show Ev (fun q => spec_plPlace.f q l (wrap64 (v - 1))) _ from this) ?_
    exact Ev.now _
theorem new_need {ops : List S109} {out : Int} (F : Fits ops out) {v : Int} (h0 : 0 ≤ v) (h1 : v ≤ (ops.length : Int)) (hn : (tcNeed ops out).getD v.toNat false = true) : newB (keptF (nb ops out) 0 ops.length) v = (cntF (nb ops out) v.toNat : Int) := by
  unfold newB
  by_cases h : v = 0
  · rw [if_pos h, h]; rfl
  · rw [if_neg h]
    have hl := F.len
    obtain ⟨t, rfl⟩ : ∃ t : Nat, v = (t : Int) + 1 := ⟨(v - 1).toNat, by omega⟩
    have hb : nb ops out t = true := by
      unfold nb
      rw [show ((t : Int) + 1).toNat = t + 1 by omega] at hn
      exact hn
    have e : wrap64 ((t : Int) + 1 - 1) = (t : Int) := by rw [wid (by omega) (by omega)]; omega
    rw [e, place_kept _ t hb ops.length 0 0 (Nat.zero_le _) (by omega)]
    have hc := cntF_le (nb ops out) t
    have hs : cntF (nb ops out) (t + 1) = cntF (nb ops out) t + 1 := by rw [cntF, if_pos hb]
    have hz : cntF (nb ops out) 0 = 0 := rfl
    rw [show ((t : Int) + 1).toNat = t + 1 by omega, hs, hz, wid (by omega) (by omega)]
    omega
theorem needs_val (o : S109) : spec_poNeeds.f o.f0 o.f1 o.f2 = some (tcVals o) := by
  unfold spec_poNeeds.f tcVals
  split
  · rfl
  · split <;> rfl
theorem tcVals_two (o : S109) : (tcVals o).length ≤ 2 := tcVals_le o
theorem hasB_app (a b : List Int) (x : Int) : hasB (a ++ b) x = (hasB a x || hasB b x) := by
  unfold hasB
  rw [Bool.eq_iff_iff]
  simp
theorem poMoved_val {b : Nat → Bool} {o : S109} {p q : Int} (hk : o.f0 = 0 ∨ o.f0 = 1 ∨ o.f0 = 2 ∨ o.f0 = 3) (hp : o.f0 ≠ 0 → p = (cntF b o.f1.toNat : Int)) (hq : o.f0 ≠ 0 → o.f0 ≠ 2 → q = (cntF b o.f2.toNat : Int)) : spec_poMoved.f o.f0 o.f1 o.f2 p q = some ((mvOp b o).f0, (mvOp b o).f1, (mvOp b o).f2) := by
  unfold spec_poMoved.f mvOp
  by_cases h0 : o.f0 = 0
  · rw [if_pos h0, if_pos h0]
  · rw [if_neg h0, if_neg h0]
    have := hp h0
    by_cases h2 : o.f0 = 2
    · rw [if_pos h2, if_pos h2, this]
    · rw [if_neg h2, if_neg h2, this, hq h0 h2]
theorem sTrim_l1 {ops : List S109} {out : Int} (F : Fits ops out) (o2 : Int) : ∀ (d i : Nat) (acc : List S109), i + d = (keptF (nb ops out) 0 ops.length).length → acc.length + d ≤ 1000 →
    Ev (fun q => spec_TrimCode.l1 q (keptF (nb ops out) 0 ops.length) (keptF (nb ops out) 0 ops.length) ((keptF (nb ops out) 0 ops.length).length : Int) i ops out acc o2) (acc ++ ((keptF (nb ops out) 0 ops.length).drop i).map (mvAt ops (nb ops out)), o2, true) := by
  have hL := keptF_len (nb ops out) ops.length 0
  have hlen := F.len
  have hnew : ∀ v, Ev (fun q => spec_poNew.f q (keptF (nb ops out) 0 ops.length) v) (newB (keptF (nb ops out) 0 ops.length) v) := fun v => new_val _ (by omega) v
  have hge := keptF_ge (nb ops out) ops.length 0
  have hnn : ∀ v : Int, 0 ≤ v → v ≤ (ops.length : Int) → (tcNeed ops out).getD v.toNat false = true → newB (keptF (nb ops out) 0 ops.length) v = (cntF (nb ops out) v.toNat : Int) := fun v h0 h1 h2 => new_need F h0 h1 h2
  generalize keptF (nb ops out) 0 ops.length = Kp at hL hnew hge hnn ⊢
  intro d
  induction d with
  | zero =>
    intro i acc h _
    refine up ?_
    simp only [spec_TrimCode.l1, if_neg (show ¬ (i : Int) < (Kp.length : Int) by omega)]
    rw [show i = Kp.length by omega, List.drop_length, List.map_nil, List.append_nil]
    exact Ev.now _
  | succ d ih =>
    intro i acc h ha
    have hi : i < Kp.length := by omega
    obtain ⟨t, ht, _, htl, htb⟩ := hge Kp[i] (List.getElem_mem hi)
    rw [Nat.zero_add] at htl
    have hrd : rd_T109 ops (t : Int) = ops[t] := rdO_get htl
    refine up ?_
    simp only [spec_TrimCode.l1, if_pos (show (i : Int) < (Kp.length : Int) by omega), if_pos (show (0 : Int) ≤ (i : Int) by omega), rd_at hi, ht, if_pos (show (0 : Int) ≤ (t : Int) by omega), if_pos (show (t : Int) < (ops.length : Int) by omega), hrd, wid (x := (i : Int) + 1) (by omega) (by omega), if_pos (show acc.length < 5864062014805 by omega)]
    refine Ev.bind (hnew _) ?_
    refine Ev.bind (hnew _) ?_
    have hv : ∀ v ∈ tcVals ops[t], newB Kp v = (cntF (nb ops out) v.toNat : Int) := fun v hv => by
      have := F.vals t htl v hv
      exact hnn v this.1 (by omega) (nb_vals F htl htb hv)
    have hmv := poMoved_val (b := nb ops out) (o := ops[t]) (p := newB Kp ops[t].f1) (q := newB Kp ops[t].f2) (F.kind t htl) (fun h0 => hv _ (by unfold tcVals; rw [if_neg h0]; split <;> simp)) (fun h0 h2 => hv _ (by unfold tcVals; rw [if_neg h0, if_neg h2]; simp))
    simp only [hmv, Option.bind_some]
    have := ih (i + 1) (acc ++ [mvOp (nb ops out) ops[t]]) (by omega) (by rw [List.length_append, List.length_singleton]; omega)
    rw [List.drop_eq_getElem_cons hi, List.map_cons, ht, show mvAt ops (nb ops out) (t : Int) = mvOp (nb ops out) ops[t] by unfold mvAt; rw [hrd]]
    rw [List.append_assoc, List.singleton_append] at this
    exact this
theorem sTrim_l0 {ops : List S109} {out : Int} (F : Fits ops out) : ∀ (m k : Nat) (N : List Int), m + k = ops.length → N.length ≤ 1 + 2 * k → (∀ x : Nat, hasB N (x : Int) = (ndK ops out k).getD x false) →
    Ev (fun q => spec_TrimCode.l0 q N (keptF (nb ops out) m k) ((m : Int) - 1) ops out) (trimR ops out, trimO ops out, true)
  | 0, k, N, h, _, _ => by
    have hk : k = ops.length := by omega
    subst hk
    have hlen := F.len
    have hL := keptF_len (nb ops out) ops.length 0
    refine up ?_
    simp only [spec_TrimCode.l0, if_neg (show ¬ (((0 : Nat) : Int) - 1 ≥ 0) by omega)]
    have hn := new_val (keptF (nb ops out) 0 ops.length) (by omega) out
    rw [new_need F F.o0 F.o1 (nb_out F)] at hn
    refine Ev.bind hn ?_
    have := sTrim_l1 F (trimO ops out) (keptF (nb ops out) 0 ops.length).length 0 [] (by omega) (by simp; omega)
    rw [List.drop_zero, List.nil_append] at this
    exact this
  | m + 1, k, N, h, hN, hx => by
    have hlen := F.len
    have hm : m < ops.length := by omega
    have e1 : ((m + 1 : Nat) : Int) - 1 = (m : Int) := by omega
    have hb : hasB N ((m + 1 : Nat) : Int) = nb ops out m := by rw [hx, nb_K F (by omega)]
    refine up ?_
    simp only [spec_TrimCode.l0, e1, if_pos (show ((m : Int) ≥ 0) by omega), wid (x := (m : Int) + 1) (by omega) (by omega), wid (x := (m : Int) - 1) (by omega) (by omega)]
    have hh := l1Has_val ((m : Int) + 1) N (by omega)
    rw [show (m : Int) + 1 = ((m + 1 : Nat) : Int) by omega, hb, show ((m + 1 : Nat) : Int) = (m : Int) + 1 by omega] at hh
    refine Ev.bind hh ?_
    have hk0 : keptF (nb ops out) m (k + 1) = if nb ops out m = true then (m : Int) :: keptF (nb ops out) (m + 1) k else keptF (nb ops out) (m + 1) k := rfl
    cases hbm : nb ops out m with
    | true =>
      rw [hbm, if_pos rfl] at hk0
      simp only [if_true, if_pos (show (0 : Int) ≤ (m : Int) by omega), if_pos (show (m : Int) < (ops.length : Int) by omega), rdO_get hm, needs_val, Option.bind_some]
      have h2 := tcVals_two ops[m]
      rw [if_pos_ev (show N.length + (tcVals ops[m]).length < 17592186044416 by omega)]
      have hp := put_val (m : Int) (keptF (nb ops out) (m + 1) k) (by have := keptF_len (nb ops out) k (m + 1); omega)
      rw [put_head, ← hk0] at hp
      refine Ev.bind hp ?_
      exact sTrim_l0 F m (k + 1) (N ++ tcVals ops[m]) (by omega) (by rw [List.length_append]; omega) (fun x => by
        rw [hasB_app, hx x, ndK_get F (i := m) (by omega) x, nb_K F (by omega), hbm, Bool.and_true]; rfl)
    | false =>
      rw [hbm, if_neg (by decide)] at hk0
      simp only [Bool.false_eq_true, if_false]
      rw [← hk0]
      exact sTrim_l0 F m (k + 1) N (by omega) (by omega) (fun x => by
        rw [hx x, ndK_get F (i := m) (by omega) x, nb_K F (by omega), hbm, Bool.and_false, Bool.or_false])
theorem specTrim {ops : List S109} {out : Int} (hb : ops.length ≤ 1048576) (h : codeB ops out = true) : Ev (fun q => spec_TrimCode.f q ops out) (trimR ops out, trimO ops out, true) := by
  have F := fits_of h
  have hlen := F.len
  simp only [spec_TrimCode.f]
  have hc := specGood ops out
  rw [h] at hc
  refine Ev.bind hc ?_
  simp only [if_true, wid (x := (ops.length : Int) - 1) (by omega) (by omega)]
  exact sTrim_l0 F ops.length 0 [out] (by omega) (by simp) (fun x => by
    rw [ndK_zero]
    unfold hasB tcNd0
    rw [List.getD_eq_getElem?_getD]
    have h0 := F.o0
    have h1 := F.o1
    by_cases e : out.toNat = x
    · subst e
      rw [List.getElem?_set_self (by rw [List.length_replicate]; omega), show ((out.toNat : Nat) : Int) = out by omega]
      simp
    · rw [List.getElem?_set_ne e, ← List.getD_eq_getElem?_getD]
      have : ([out] : List Int).contains (x : Int) = false := by
        rw [Bool.eq_false_iff]
        intro hc
        have := List.contains_iff_mem.mp hc
        rw [List.mem_singleton] at this
        omega
      rw [this, List.getD_eq_getElem?_getD, List.getElem?_replicate]
      split <;> rfl)
theorem specTrim_no {ops : List S109} {out : Int} (hb : ops.length ≤ 1048576) (h : codeB ops out = false) : Ev (fun q => spec_TrimCode.f q ops out) ([], 0, false) := by
  simp only [spec_TrimCode.f]
  have hc := specGood ops out
  rw [h] at hc
  refine Ev.bind hc ?_
  simp only [Bool.false_eq_true, if_false]
  exact Ev.now _
theorem trim_both (ops : List S109) (out : Int) (hb : ops.length ≤ 1048576) : ∃ r o b, r.length ≤ 120 ∧ Ev (fun q => spec_TrimCode.f q ops out) (r, o, b) ∧ Ev (fun q => impl_TrimCode.f q ops out) (r, o, b) := by
  cases h : codeB ops out with
  | true =>
    refine ⟨_, _, _, ?_, specTrim hb h, implTrim h⟩
    have := keptF_len (nb ops out) ops.length 0
    have := (fits_of h).len
    unfold trimR
    rw [List.length_map]
    omega
  | false => exact ⟨_, _, _, by simp, specTrim_no hb h, implTrim_no h⟩
/-! Rows of ops: copied, compared, marked, held. -/
theorem rdT_get {T : List S109} {i : Nat} (h : i < T.length) : rd_T109 T (i : Int) = T[i] := by
  unfold rd_T109
  rw [Int.toNat_natCast, List.getD_eq_getElem?_getD, List.getElem?_eq_getElem h]; rfl
theorem rdT_mid (a b : List S109) (x : S109) : rd_T109 (a ++ x :: b) (a.length : Int) = x := by
  rw [rdT_get (by simp)]; simp
theorem eqOpS_loop (T : List S109) (hl : T.length ≤ 140737488351232) : ∀ (d i : Nat), i + d = T.length → Ev (fun k => laws_eqOpS.l0 k T T i) true := by
  intro d
  induction d with
  | zero =>
    intro i h
    refine up ?_
    simp only [laws_eqOpS.l0, if_neg (show ¬ (i : Int) < (T.length : Int) by omega)]
    exact Ev.now _
  | succ d ih =>
    intro i h
    refine up ?_
    simp only [laws_eqOpS.l0, if_pos (show (i : Int) < (T.length : Int) by omega), if_pos (show (0 : Int) ≤ (i : Int) by omega), laws_eqOp.f, if_true, Option.bind_some, wid (x := (i : Int) + 1) (by omega) (by omega)]
    exact ih (i + 1) (by omega)
theorem eqOpS_same (T : List S109) (hl : T.length ≤ 140737488351232) : Ev (fun k => laws_eqOpS.f k T T) true := by
  simp only [laws_eqOpS.f, if_true]
  exact eqOpS_loop T hl T.length 0 (by omega)
theorem eqCode_same (T : List S109) (o : Int) (hl : T.length ≤ 140737488351232) : Ev (fun k => laws_eqCode.f k T o T o) true := by
  simp only [laws_eqCode.f]
  refine Ev.bind (eqOpS_same T hl) ?_
  simp only [if_true]
  exact Ev.now _
def marksO : Int → Nat → List S109
  | _, 0 => []
  | a, n + 1 => ⟨a, a + 1, a + 1 + 1⟩ :: marksO (a + 1 + 1 + 1) n
theorem marksO_length (a : Int) (n : Nat) : (marksO a n).length = n := by
  induction n generalizing a with
  | zero => rfl
  | succ n ih => simp [marksO, ih]
theorem markO_loop : ∀ (rest done : List S109) (a : Int), done.length + rest.length ≤ 140737488351232 → 0 ≤ a → a + 3 * rest.length ≤ 1407374883512320 →
    Ev (fun k => laws_markOpS.l0 k (done ++ rest) a done.length) (a + 3 * rest.length, done ++ marksO a rest.length) := by
  intro rest
  induction rest with
  | nil =>
    intro done a h h0 h1
    refine up ?_
    simp only [laws_markOpS.l0, List.append_nil, if_neg (show ¬ (done.length : Int) < (done.length : Int) by omega), List.length_nil, marksO]
    exact ⟨0, fun _ _ => by simp⟩
  | cons x rest ih =>
    intro done a h h0 h1
    simp only [List.length_cons] at h h1
    refine up ?_
    have e : ∀ y : S109, ∀ z : S109, (done ++ y :: rest).set ((done.length : Int)).toNat z = done ++ z :: rest := by
      intro y z
      rw [Int.toNat_natCast, List.set_append_right _ _ (Nat.le_refl _)]; simp
    simp only [laws_markOpS.l0, if_pos (show (done.length : Int) < ((done ++ x :: rest).length : Int) by simp; omega), if_pos (show (0 : Int) ≤ (done.length : Int) by omega), e, rdT_mid, Option.bind_some, wid (x := a + 1) (by omega) (by omega), wid (x := a + 1 + 1) (by omega) (by omega), wid (x := a + 1 + 1 + 1) (by omega) (by omega), wid (x := (done.length : Int) + 1) (by omega) (by omega)]
    have := ih (done ++ [⟨a, a + 1, a + 1 + 1⟩]) (a + 1 + 1 + 1) (by simp; omega) (by omega) (by omega)
    simp only [List.length_append, List.length_singleton, List.append_assoc, List.singleton_append, Int.natCast_add, Int.natCast_one] at this
    simp only [List.length_cons, marksO, Int.natCast_add, Int.natCast_one]
    rw [show a + 3 * ((rest.length : Int) + 1) = a + 1 + 1 + 1 + 3 * rest.length by omega]
    exact this
theorem markC_all (T : List S109) (o : Int) (hl : T.length ≤ 140737488351232) : Ev (fun k => laws_markCode.f k T o 1) (1 + 3 * T.length, marksO 1 T.length) := by
  have := markO_loop T [] 1 (by simpa using hl) (by omega) (by omega)
  simp only [laws_markCode.f]
  refine Ev.bind (show Ev (fun k => laws_markOpS.f k T 1) (1 + 3 * T.length, marksO 1 T.length) by simpa [laws_markOpS.f] using this) ?_
  exact Ev.now _
theorem heldO_loop : ∀ (n : Nat) (done : List S109) (a : Int), done.length + n ≤ 140737488351232 → 0 ≤ a → a + 3 * n ≤ 1407374883512320 →
    Ev (fun k => laws_heldOpS.l0 k (done ++ marksO a n) a done.length) (a + 3 * n) := by
  intro n
  induction n with
  | zero =>
    intro done a h h0 h1
    refine up ?_
    simp only [laws_heldOpS.l0, marksO, List.append_nil, if_neg (show ¬ (done.length : Int) < (done.length : Int) by omega)]
    exact ⟨0, fun _ _ => by simp⟩
  | succ n ih =>
    intro done a h h0 h1
    refine up ?_
    simp only [marksO]
    simp only [laws_heldOpS.l0, if_pos (show (done.length : Int) < ((done ++ (⟨a, a + 1, a + 1 + 1⟩ : S109) :: marksO (a + 1 + 1 + 1) n).length : Int) by simp [marksO_length]; omega), if_pos (show (0 : Int) ≤ (done.length : Int) by omega), rdT_mid, if_true, wid (x := a + 1) (by omega) (by omega), wid (x := a + 1 + 1) (by omega) (by omega), wid (x := a + 1 + 1 + 1) (by omega) (by omega), wid (x := (done.length : Int) + 1) (by omega) (by omega)]
    have := ih (done ++ [⟨a, a + 1, a + 1 + 1⟩]) (a + 1 + 1 + 1) (by simp; omega) (by omega) (by omega)
    simp only [List.length_append, List.length_singleton, List.append_assoc, List.singleton_append, Int.natCast_add, Int.natCast_one] at this
    rw [show a + 3 * ((n + 1 : Nat) : Int) = a + 1 + 1 + 1 + 3 * n by omega]
    exact this
theorem heldC_all (n : Nat) (o : Int) (hl : n ≤ 140737488351232) : Ev (fun k => laws_heldCode.f k (marksO 1 n) o 1) (1 + 3 * n) := by
  have := heldO_loop n [] 1 (by simpa using hl) (by omega) (by omega)
  simp only [laws_heldCode.f]
  refine Ev.bind (show Ev (fun k => laws_heldOpS.f k (marksO 1 n) 1) (1 + 3 * n) by simpa [laws_heldOpS.f] using this) ?_
  rw [if_neg_ev (show ¬ (1 + 3 * (n : Int)) < 0 by omega)]
  exact Ev.now _
def toO (x : S166) : S109 := ⟨x.f0, x.f1, x.f2⟩
theorem toO_loop (l : List S166) (hl : l.length ≤ 1048576) : ∀ (d i : Nat), i + d = l.length → Ev (fun k => laws_toOpS.l0 k l ((l.take i).map toO ++ List.replicate d z109) i) (l.map toO) := by
  intro d
  induction d with
  | zero =>
    intro i h
    refine up ?_
    simp only [laws_toOpS.l0, if_neg (show ¬ (i : Int) < (l.length : Int) by omega)]
    rw [show i = l.length by omega, List.take_length, List.replicate_zero, List.append_nil]
    exact Ev.now _
  | succ d ih =>
    intro i h
    have hi : i < l.length := by omega
    have hlen : ((l.take i).map toO ++ List.replicate (d + 1) z109).length = l.length := by simp; omega
    have hrd : rd_T166 l (i : Int) = l[i] := by
      unfold rd_T166
      rw [Int.toNat_natCast, List.getD_eq_getElem?_getD, List.getElem?_eq_getElem hi]; rfl
    refine up ?_
    simp only [laws_toOpS.l0, hlen, if_pos (show (i : Int) < (l.length : Int) by omega), if_pos (show (0 : Int) ≤ (i : Int) by omega), hrd, laws_toOp.f, Option.bind_some, wid (x := (i : Int) + 1) (by omega) (by omega)]
    have := ih (i + 1) (by omega)
    rw [List.take_succ_eq_append_getElem hi, List.map_append, List.map_singleton, List.append_assoc, List.singleton_append] at this
    have e : ((l.take i).map toO ++ List.replicate (d + 1) z109).set ((i : Int)).toNat (⟨l[i].f0, l[i].f1, l[i].f2⟩ : S109) = (l.take i).map toO ++ toO l[i] :: List.replicate d z109 := by
      have hti : ((l.take i).map toO).length = i := by rw [List.length_map, List.length_take]; omega
      rw [Int.toNat_natCast, List.set_append_right _ _ (by omega), hti, Nat.sub_self, List.replicate_succ]
      rfl
    rw [e]
    exact this
theorem toC_val (l : List S166) (o : Int) (hl : l.length ≤ 1048576) : Ev (fun k => laws_toCode.f k l o) (l.map toO, o) := by
  simp only [laws_toCode.f]
  refine Ev.bind (show Ev (fun k => laws_toOpS.f k l) (l.map toO) from ?_) (Ev.now _)
  simp only [laws_toOpS.f, if_pos (show (0 : Int) ≤ (l.length : Int) by omega), Int.toNat_natCast, if_pos (show l.length ≤ 11728124029610 by omega)]
  have := toO_loop l hl l.length 0 (by omega)
  rw [List.take_zero, List.map_nil, List.nil_append] at this
  exact this
theorem main : laws_FnExactTrimCode.Pure := by
  intro l o _ _ _ _
  by_cases hbig : l.length > 1048576
  · refine ⟨0, ?_⟩
    simp only [laws_FnExactTrimCode.f, laws_szCode.f, laws_szOpS.f]
    rename_i hm _ _ _
    simp only [maxLen] at hm
    rw [wid (x := 1048576 - (l.length : Int)) (by omega) (by omega)]
    simp only [if_pos (show (1048576 : Int) - (l.length : Int) < 0 by omega), Option.bind_some, if_pos (show (-1 : Int) < 0 by decide)]
  obtain ⟨r, q, b, hr, hs, hi⟩ := trim_both (l.map toO) o (by rw [List.length_map]; omega)
  refine Ev.rounds ?_
  have hsz : laws_szCode.f l o 1048576 = some (1048576 - (l.length : Int)) := by
    simp only [laws_szCode.f, laws_szOpS.f]
    rw [wid (x := 1048576 - (l.length : Int)) (by omega) (by omega)]
    simp only [if_neg (show ¬ (1048576 : Int) - (l.length : Int) < 0 by omega), Option.bind_some]
  simp only [laws_FnExactTrimCode.f, hsz, Option.bind_some, if_neg (show ¬ (1048576 : Int) - (l.length : Int) < 0 by omega)]
  have ht := toC_val l o (by omega)
  have hlm : (l.map toO).length ≤ 140737488351232 := by rw [List.length_map]; omega
  refine Ev.bind ht ?_
  refine Ev.bind hs ?_
  refine Ev.bind ht ?_
  refine Ev.bind hi ?_
  refine Ev.bind (eqCode_same r q (by omega)) ?_
  simp only [if_true]
  refine up ?_
  simp only [laws_FnExactTrimCode.j0, bne_self_eq_false, Bool.false_eq_true, if_false]
  refine Ev.bind ht ?_
  refine Ev.bind (eqCode_same _ o hlm) ?_
  simp only [if_true]
  refine Ev.bind (markC_all _ o hlm) ?_
  simp only [if_neg (show ¬ (1 + 3 * ((l.map toO).length : Int)) < 0 by omega)]
  refine Ev.bind (eqCode_same r q (by omega)) ?_
  simp only [if_true]
  refine up ?_
  simp only [laws_FnExactTrimCode.j1, bne_self_eq_false, Bool.false_eq_true, if_false]
  refine Ev.bind (markC_all r q (by omega)) ?_
  refine Ev.bind (heldC_all r.length q (by omega)) ?_
  simp only [if_neg (show ¬ (1 + 3 * (r.length : Int)) < 0 by omega), if_true]
  refine Ev.bind ht ?_
  refine Ev.bind hi ?_
  refine Ev.bind (eqCode_same r q (by omega)) ?_
  simp only [if_true]
  refine up ?_
  simp only [laws_FnExactTrimCode.j2, bne_self_eq_false, Bool.false_eq_true, if_false]
  refine Ev.bind (heldC_all r.length q (by omega)) ?_
  simp only [if_neg (show ¬ (1 + 3 * (r.length : Int)) < 0 by omega), if_true]
  exact Ev.now _
end Go.Proofs.Ytlmoemahamneoaa.PureFnExactTrimCodeL
namespace Go.Proofs.Ytlmoemahamneoaa.Pure
open Go.Proofs.Ytlmoemahamneoaa.PFnExactTrimCode
theorem FnExactTrimCode : laws_FnExactTrimCode.Pure := PureFnExactTrimCodeL.main
end Go.Proofs.Ytlmoemahamneoaa.Pure
