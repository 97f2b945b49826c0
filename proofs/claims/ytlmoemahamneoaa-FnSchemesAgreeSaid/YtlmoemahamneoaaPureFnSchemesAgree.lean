/- All schemes make code for the polynomial of the coefficients, and its values are those of the polynomial: the statement FnSchemesAgree holds for all its drawn arguments; nothing is asked of them. -/
import Derived.Test.YtlmoemahamneoaaPFnSchemesAgreex1
import Derived.Test.YtlmoemahamneoaaPFnSchemesAgreex2
import Derived.Test.YtlmoemahamneoaaPFnSchemesAgreex3
import Derived.Test.YtlmoemahamneoaaPFnSchemesAgreex4
import Derived.Test.YtlmoemahamneoaaPFnSchemesAgreex5
import Derived.Test.YtlmoemahamneoaaPFnSchemesAgreex6
import Derived.Test.YtlmoemahamneoaaPFnSchemesAgreex7
import Derived.Test.YtlmoemahamneoaaPFnSchemesAgreex8
import Derived.Test.YtlmoemahamneoaaPFnSchemesAgreex9
import Derived.Test.YtlmoemahamneoaaPFnSchemesAgreex10
import Derived.Test.YtlmoemahamneoaaPFnSchemesAgreex11
import Derived.Test.YtlmoemahamneoaaPFnSchemesAgreex12
import Derived.Test.YtlmoemahamneoaaPFnSchemesAgreex13
import Derived.Test.YtlmoemahamneoaaPFnSchemesAgreex14
import Derived.Test.YtlmoemahamneoaaPFnSchemesAgreex15
import Derived.Test.YtlmoemahamneoaaPFnSchemesAgreex16
set_option linter.unusedVariables false
set_option linter.unusedSimpArgs false
namespace Go.Proofs.Ytlmoemahamneoaa.PureFnSchemesAgreeL
open Go.RowKit Go.Proofs.Ytlmoemahamneoaa.PFnSchemesAgree Go.Proofs.YtlmoemahamneoaaW.PrintWords Go.Proofs.YtlmoemahamneoaaW.PrintLast Go.Proofs.YtlmoemahamneoaaW.PrintMore
theorem up {α : Type} {g : Nat → Option α} {r : α} (h : Ev (fun k => g (k + 1)) r) : Ev g r := by
 obtain ⟨K, h⟩ := h
 refine ⟨K + 1, fun k hk => ?_⟩
 obtain ⟨m, rfl⟩ : ∃ m, k = m + 1 := ⟨k - 1, by omega⟩
 exact h m (by omega)
theorem wid {x : Int} (h0 : -9223372036854775808 ≤ x) (h1 : x ≤ 9223372036854775807) : wrap64 x = x := by unfold wrap64; omega
theorem if_pos_ev {α : Type} {c : Prop} [Decidable c] {f g : Nat → Option α} (h : c) : (fun k => if c then f k else g k) = f := funext fun k => if_pos h
theorem if_neg_ev {α : Type} {c : Prop} [Decidable c] {f g : Nat → Option α} (h : ¬ c) : (fun k => if c then f k else g k) = g := funext fun k => if_neg h
theorem rd_at {l : List Int} {i : Nat} (h : i < l.length) : rd l (i : Int) = l[i] := by
 unfold rd
 rw [Int.toNat_natCast, List.getD_eq_getElem?_getD, List.getElem?_eq_getElem h]; rfl
theorem l1In_val (x a b : Int) : spec_l1In.f x a b = some (decide (a ≤ x) && decide (x ≤ b)) := by
 unfold spec_l1In.f
 by_cases h : a ≤ x
 ·rw [if_pos h]; simp [h]
 ·rw [if_neg h]; simp [h]
theorem l1Least_val (a b : Int) : spec_l1Least.f a b = some (min a b) := by
 unfold spec_l1Least.f
 split
 ·rw [Int.min_eq_left (by omega)]
 ·rw [Int.min_eq_right (by omega)]
def allIn (a b : Int) (l : List Int) : Bool := l.all fun d => decide (a ≤ d) && decide (d ≤ b)
theorem l1All_loop (a b : Int) (l : List Int) (hl : l.length ≤ 17592186044416) : ∀ (d i : Nat), i + d = l.length → Ev (fun k => spec_l1All.l0 k a b l (l.length : Int) i) (allIn a b (l.drop i)) := by
 intro d
 induction d with
 | zero =>
  intro i h
  refine up ?_
  simp only [spec_l1All.l0, if_neg (show ¬ (i : Int) < (l.length : Int) by omega)]
  rw [List.drop_of_length_le (by omega)]
  exact Ev.now _
 | succ d ih =>
  intro i h
  have hi : i < l.length := by omega
  refine up ?_
  simp only [spec_l1All.l0, if_pos (show (i : Int) < (l.length : Int) by omega), if_pos (show (0 : Int) ≤ (i : Int) by omega), l1In_val, Option.bind_some, wid (x := (i : Int) + 1) (by omega) (by omega), rd_at hi]
  have e : allIn a b (l.drop i) = ((decide (a ≤ l[i]) && decide (l[i] ≤ b)) && allIn a b (l.drop (i + 1))) := by
   rw [List.drop_eq_getElem_cons hi]; rfl
  rw [e]
  cases hb : (decide (a ≤ l[i]) && decide (l[i] ≤ b)) with
  | true => simp only [if_true, Bool.true_and]; exact ih (i + 1) (by omega)
  | false => simp only [Bool.false_eq_true, if_false, Bool.false_and]; exact Ev.now _
theorem l1All_val (a b : Int) (l : List Int) (hl : l.length ≤ 17592186044416) : Ev (fun k => spec_l1All.f k l a b) (allIn a b l) := l1All_loop a b l hl l.length 0 (by omega)
def cutB (l : List Int) : List Int := (l.reverse.dropWhile (· == 0)).reverse
theorem cutB_nil : cutB [] = [] := rfl
theorem cutB_zero (l : List Int) : cutB (l ++ [0]) = cutB l := by unfold cutB; simp
theorem cutB_ne (l : List Int) {x : Int} (h : x ≠ 0) : cutB (l ++ [x]) = l ++ [x] := by unfold cutB; simp [h]
theorem rd_last (l : List Int) (x : Int) : rd (l ++ [x]) (l.length : Int) = x := by
 rw [rd_at (by simp)]; simp
theorem cut_val : ∀ (n : Nat) (l : List Int), l.length = n → n ≤ 1000000000 → Ev (fun q => impl_cut.f q l) (cutB l) := by
 intro n
 induction n with
 | zero =>
  intro l h _
  obtain rfl := List.eq_nil_of_length_eq_zero h
  simp only [impl_cut.f]
  refine up ?_
  simp only [impl_cut.l0, List.length_nil, if_neg (show ¬ ((0 : Nat) : Int) > 0 by omega)]
  exact Ev.now _
 | succ n ih =>
  intro l h hn
  obtain ⟨l', x, rfl⟩ : ∃ l' x, l = l' ++ [x] := by
   rcases List.eq_nil_or_concat l with h0 | ⟨l', x, h0⟩
   ·subst h0; simp at h
   ·exact ⟨l', x, by rw [h0, List.concat_eq_append]⟩
  have hl : l'.length = n := by simpa using h
  have e1 : (((l' ++ [x]).length : Nat) : Int) - 1 = (l'.length : Int) := by rw [List.length_append, List.length_singleton]; omega
  simp only [impl_cut.f]
  refine up ?_
  simp only [impl_cut.l0, e1, wid (x := (l'.length : Int)) (by omega) (by omega), if_pos (show ((l' ++ [x]).length : Int) > 0 by rw [List.length_append, List.length_singleton]; omega), if_pos (show (0 : Int) ≤ (l'.length : Int) by omega), if_pos (show (l'.length : Int) < ((l' ++ [x]).length : Int) by rw [List.length_append, List.length_singleton]; omega), if_pos (show (l'.length : Int) ≤ ((l' ++ [x]).length : Int) by rw [List.length_append, List.length_singleton]; omega), rd_last, Int.toNat_natCast, List.take_left]
  by_cases hx : x = 0
  ·subst hx
   rw [cutB_zero]
   simp only [if_true]
   exact ih l' hl (by omega)
  ·rw [cutB_ne l' hx]
   simp only [if_neg hx]
   exact Ev.now _
theorem cutB_len (l : List Int) : (cutB l).length ≤ l.length := by
 unfold cutB
 rw [List.length_reverse]
 have := (List.dropWhile_sublist (fun x : Int => x == 0) (l := l.reverse)).length_le
 rw [List.length_reverse] at this
 exact this
theorem own_val (l : List Int) (h : l.length < 1000000000) : spec_l1Own.f l = some l := by
 simp only [spec_l1Own.f, Option.bind_some, List.length_nil, Nat.zero_add, List.nil_append, if_pos (show l.length < 17592186044416 by omega)]
theorem trim_loop (l : List Int) (hl : l.length < 1000000000) : ∀ n, n ≤ l.length → Ev (fun q => spec_poTrim.l0 q l n) (cutB (l.take n)) := by
 intro n
 induction n with
 | zero =>
  intro _
  refine up ?_
  simp only [spec_poTrim.l0, if_neg (show ¬ ((0 : Nat) : Int) > 0 by omega), if_pos (show (0 : Int) ≤ ((0 : Nat) : Int) by omega), if_pos (show ((0 : Nat) : Int) ≤ (l.length : Int) by omega), Int.toNat_natCast, List.take_zero, own_val [] (by simp), Option.bind_some, cutB_nil]
  exact Ev.now _
 | succ n ih =>
  intro hn
  have e : l.take (n + 1) = l.take n ++ [l[n]] := List.take_succ_eq_append_getElem (by omega)
  have ht : (l.take (n + 1)).length < 1000000000 := by rw [List.length_take]; omega
  refine up ?_
  simp only [spec_poTrim.l0, if_pos (show ((n + 1 : Nat) : Int) > 0 by omega), show ((n + 1 : Nat) : Int) - 1 = (n : Int) by omega, wid (x := (n : Int)) (by omega) (by omega), if_pos (show (0 : Int) ≤ (n : Int) by omega), if_pos (show (n : Int) < (l.length : Int) by omega), rd_at (show n < l.length by omega), if_pos (show (0 : Int) ≤ ((n + 1 : Nat) : Int) by omega), if_pos (show ((n + 1 : Nat) : Int) ≤ (l.length : Int) by omega), Int.toNat_natCast, own_val _ ht, Option.bind_some]
  rw [e]
  by_cases hx : l[n] = 0
  ·rw [if_pos_ev hx, hx, cutB_zero]
   exact ih (by omega)
  ·rw [if_neg_ev hx, cutB_ne _ hx]
   exact Ev.now _
theorem trim_val (l : List Int) (hl : l.length < 1000000000) : Ev (fun q => spec_poTrim.f q l) (cutB l) := by
 have := trim_loop l hl l.length (Nat.le_refl _)
 rw [List.take_length] at this
 simpa [spec_poTrim.f] using this
def addTo (x : List Int) : List Int → Nat → Nat → List Int
 | out, _, 0 => out
 | out, i, d + 1 => addTo x (out.set i (wrap64 (rd out i + rd x i))) (i + 1) d
theorem addTo_len (x : List Int) : ∀ d i out, (addTo x out i d).length = out.length
 | 0, _, _ => rfl
 | d + 1, i, out => by unfold addTo; rw [addTo_len x d, List.length_set]
def sumP (a b : List Int) : List Int := cutB (addTo b (addTo a (List.replicate (max a.length b.length) 0) 0 a.length) 0 b.length)
theorem iSum_l1 (b : List Int) (hb : b.length ≤ 1000000) : ∀ (d i : Nat) (out : List Int), i + d = b.length → b.length ≤ out.length → out.length ≤ 1000000 → Ev (fun q => impl_sumOf.l1 q out b (b.length : Int) i) (cutB (addTo b out i d)) := by
 intro d
 induction d with
 | zero =>
  intro i out h ho ho2
  refine up ?_
  simp only [impl_sumOf.l1, if_neg (show ¬ (i : Int) < (b.length : Int) by omega), addTo]
  exact Ev.bind (cut_val _ out rfl (by omega)) (Ev.now _)
 | succ d ih =>
  intro i out h ho ho2
  refine up ?_
  simp only [impl_sumOf.l1, if_pos (show (i : Int) < (b.length : Int) by omega), if_pos (show (0 : Int) ≤ (i : Int) by omega), if_pos (show (i : Int) < (out.length : Int) by omega), Int.toNat_natCast, wid (x := (i : Int) + 1) (by omega) (by omega), addTo]
  exact ih (i + 1) _ (by omega) (by rw [List.length_set]; exact ho) (by rw [List.length_set]; exact ho2)
theorem iSum_l0 (a b : List Int) (hb : b.length ≤ 1000000) : ∀ (d i : Nat) (out : List Int), i + d = a.length → a.length ≤ out.length → b.length ≤ out.length → out.length ≤ 1000000 → Ev (fun q => impl_sumOf.l0 q b out a (a.length : Int) i) (cutB (addTo b (addTo a out i d) 0 b.length)) := by
 intro d
 induction d with
 | zero =>
  intro i out h ho hb2 ho2
  refine up ?_
  simp only [impl_sumOf.l0, if_neg (show ¬ (i : Int) < (a.length : Int) by omega), addTo]
  exact iSum_l1 b hb b.length 0 out (by omega) hb2 ho2
 | succ d ih =>
  intro i out h ho hb2 ho2
  refine up ?_
  simp only [impl_sumOf.l0, if_pos (show (i : Int) < (a.length : Int) by omega), if_pos (show (0 : Int) ≤ (i : Int) by omega), if_pos (show (i : Int) < (out.length : Int) by omega), Int.toNat_natCast, wid (x := (i : Int) + 1) (by omega) (by omega), addTo]
  exact ih (i + 1) _ (by omega) (by rw [List.length_set]; exact ho) (by rw [List.length_set]; exact hb2) (by rw [List.length_set]; exact ho2)
theorem mx_nat (a b : Nat) : mx (a : Int) (b : Int) = ((max a b : Nat) : Int) := by unfold mx; split <;> omega
theorem iSum_val (a b : List Int) (ha : a.length ≤ 1000) (hb : b.length ≤ 1000) : Ev (fun q => impl_sumOf.f q a b) (sumP a b) := by
 simp only [impl_sumOf.f, mx_nat, Int.toNat_natCast, if_pos (show (0 : Int) ≤ ((max a.length b.length : Nat) : Int) by omega), if_pos (show max a.length b.length ≤ 35184372088832 by omega)]
 exact iSum_l0 a b (by omega) a.length 0 _ (by omega) (by rw [List.length_replicate]; omega) (by rw [List.length_replicate]; omega) (by rw [List.length_replicate]; omega)
theorem sSum_l1 (b : List Int) (hb : b.length ≤ 1000000) : ∀ (d i : Nat) (out : List Int), i + d = b.length → b.length ≤ out.length → out.length ≤ 1000000 → Ev (fun q => spec_poSum.l1 q out b (b.length : Int) i) (cutB (addTo b out i d)) := by
 intro d
 induction d with
 | zero =>
  intro i out h ho ho2
  refine up ?_
  simp only [spec_poSum.l1, if_neg (show ¬ (i : Int) < (b.length : Int) by omega), addTo]
  exact Ev.bind (trim_val out (by omega)) (Ev.now _)
 | succ d ih =>
  intro i out h ho ho2
  refine up ?_
  simp only [spec_poSum.l1, if_pos (show (i : Int) < (b.length : Int) by omega), if_pos (show (0 : Int) ≤ (i : Int) by omega), if_pos (show (i : Int) < (out.length : Int) by omega), Int.toNat_natCast, wid (x := (i : Int) + 1) (by omega) (by omega), addTo]
  exact ih (i + 1) _ (by omega) (by rw [List.length_set]; exact ho) (by rw [List.length_set]; exact ho2)
theorem sSum_l0 (a b : List Int) (hb : b.length ≤ 1000000) : ∀ (d i : Nat) (out : List Int), i + d = a.length → a.length ≤ out.length → b.length ≤ out.length → out.length ≤ 1000000 → Ev (fun q => spec_poSum.l0 q b out a (a.length : Int) i) (cutB (addTo b (addTo a out i d) 0 b.length)) := by
 intro d
 induction d with
 | zero =>
  intro i out h ho hb2 ho2
  refine up ?_
  simp only [spec_poSum.l0, if_neg (show ¬ (i : Int) < (a.length : Int) by omega), addTo]
  exact sSum_l1 b hb b.length 0 out (by omega) hb2 ho2
 | succ d ih =>
  intro i out h ho hb2 ho2
  refine up ?_
  simp only [spec_poSum.l0, if_pos (show (i : Int) < (a.length : Int) by omega), if_pos (show (0 : Int) ≤ (i : Int) by omega), if_pos (show (i : Int) < (out.length : Int) by omega), Int.toNat_natCast, wid (x := (i : Int) + 1) (by omega) (by omega), addTo]
  exact ih (i + 1) _ (by omega) (by rw [List.length_set]; exact ho) (by rw [List.length_set]; exact hb2) (by rw [List.length_set]; exact ho2)
theorem l1Most_val (a b : Nat) : spec_l1Most.f (a : Int) (b : Int) = some ((max a b : Nat) : Int) := by
 unfold spec_l1Most.f
 split <;> congr 1 <;> omega
theorem sSum_val (a b : List Int) (ha : a.length ≤ 1000) (hb : b.length ≤ 1000) : Ev (fun q => spec_poSum.f q a b) (sumP a b) := by
 simp only [spec_poSum.f, l1Most_val, Option.bind_some, Int.toNat_natCast, if_pos (show (0 : Int) ≤ ((max a.length b.length : Nat) : Int) by omega), if_pos (show max a.length b.length ≤ 35184372088832 by omega)]
 exact sSum_l0 a b (by omega) a.length 0 _ (by omega) (by rw [List.length_replicate]; omega) (by rw [List.length_replicate]; omega) (by rw [List.length_replicate]; omega)
def mulIn (x : Int) (b : List Int) (i : Nat) : List Int → Nat → Nat → List Int
 | out, _, 0 => out
 | out, k, d + 1 => mulIn x b i (out.set (i + k) (wrap64 (rd out ((i + k : Nat) : Int) + wrap64 (x * rd b k)))) (k + 1) d
def mulOut (a b : List Int) : List Int → Nat → Nat → List Int
 | out, _, 0 => out
 | out, i, d + 1 => mulOut a b (mulIn (rd a i) b i out 0 b.length) (i + 1) d
theorem mulIn_len (x : Int) (b : List Int) (i : Nat) : ∀ d k out, (mulIn x b i out k d).length = out.length
 | 0, _, _ => rfl
 | d + 1, k, out => by unfold mulIn; rw [mulIn_len x b i d, List.length_set]
theorem mulOut_len (a b : List Int) : ∀ d i out, (mulOut a b out i d).length = out.length
 | 0, _, _ => rfl
 | d + 1, i, out => by unfold mulOut; rw [mulOut_len a b d, mulIn_len]
def prodP (a b : List Int) : List Int := cutB (mulOut a b (List.replicate (a.length + b.length) 0) 0 a.length)
theorem iMul_l1 (a b : List Int) (hb : b.length ≤ 1000) {R : List Int} {i : Nat} (hi : i ≤ 1000) {x : Int} : ∀ (d k : Nat) (out : List Int), k + d = b.length → i + b.length ≤ out.length → Ev (fun q => impl_productOf.l0 q b (mulIn x b i out k d) a (a.length : Int) ((i + 1 : Nat) : Int)) R → Ev (fun q => impl_productOf.l1 q b out i x a (a.length : Int) i b (b.length : Int) k) R := by
 intro d
 induction d with
 | zero =>
  intro k out h ho hE
  refine up ?_
  simp only [impl_productOf.l1, if_neg (show ¬ (k : Int) < (b.length : Int) by omega), wid (x := (i : Int) + 1) (by omega) (by omega)]
  exact hE
 | succ d ih =>
  intro k out h ho hE
  refine up ?_
  have e : (i : Int) + (k : Int) = ((i + k : Nat) : Int) := by omega
  simp only [impl_productOf.l1, if_pos (show (k : Int) < (b.length : Int) by omega), if_pos (show (0 : Int) ≤ (k : Int) by omega), e, wid (x := ((i + k : Nat) : Int)) (by omega) (by omega), if_pos (show (0 : Int) ≤ ((i + k : Nat) : Int) by omega), if_pos (show ((i + k : Nat) : Int) < (out.length : Int) by omega), Int.toNat_natCast, wid (x := (k : Int) + 1) (by omega) (by omega)]
  exact ih (k + 1) _ (by omega) (by rw [List.length_set]; exact ho) hE
theorem iMul_l0 (a b : List Int) (ha : a.length ≤ 1000) (hb : b.length ≤ 1000) : ∀ (d i : Nat) (out : List Int), i + d = a.length → (a.length + b.length ≤ out.length + 1 ∨ b.length = 0) → out.length ≤ 100000 → Ev (fun q => impl_productOf.l0 q b out a (a.length : Int) i) (cutB (mulOut a b out i d)) := by
 intro d
 induction d with
 | zero =>
  intro i out h ho ho2
  refine up ?_
  simp only [impl_productOf.l0, if_neg (show ¬ (i : Int) < (a.length : Int) by omega), mulOut]
  exact Ev.bind (cut_val _ out rfl (by omega)) (Ev.now _)
 | succ d ih =>
  intro i out h ho ho2
  refine up ?_
  simp only [impl_productOf.l0, if_pos (show (i : Int) < (a.length : Int) by omega), if_pos (show (0 : Int) ≤ (i : Int) by omega)]
  have hnext := ih (i + 1) (mulIn (rd a i) b i out 0 b.length) (by omega) (by rw [mulIn_len]; exact ho) (by rw [mulIn_len]; exact ho2)
  by_cases h0 : b.length = 0
  ·refine up ?_
   simp only [impl_productOf.l1, h0, if_neg (show ¬ (0 : Int) < ((0 : Nat) : Int) by omega), wid (x := (i : Int) + 1) (by omega) (by omega)]
   rw [h0] at hnext
   rw [show mulOut a b out i (d + 1) = mulOut a b (mulIn (rd a i) b i out 0 b.length) (i + 1) d from rfl, h0]
   exact hnext
  ·exact iMul_l1 a b hb (by omega) b.length 0 out (by omega) (by omega) hnext
theorem iMul_val (a b : List Int) (ha : a.length ≤ 1000) (hb : b.length ≤ 1000) : Ev (fun q => impl_productOf.f q a b) (prodP a b) := by
 have e : (a.length : Int) + (b.length : Int) = ((a.length + b.length : Nat) : Int) := by omega
 simp only [impl_productOf.f, e, wid (x := ((a.length + b.length : Nat) : Int)) (by omega) (by omega), Int.toNat_natCast, if_pos (show (0 : Int) ≤ ((a.length + b.length : Nat) : Int) by omega), if_pos (show a.length + b.length ≤ 35184372088832 by omega)]
 exact iMul_l0 a b ha hb a.length 0 _ (by omega) (.inl (by rw [List.length_replicate]; omega)) (by rw [List.length_replicate]; omega)
theorem sMul_l1 (a b : List Int) (hb : b.length ≤ 1000) {R : List Int} {i : Nat} (hi : i ≤ 1000) {x : Int} : ∀ (d k : Nat) (out : List Int), k + d = b.length → i + b.length ≤ out.length → Ev (fun q => spec_poProduct.l0 q b (mulIn x b i out k d) a (a.length : Int) ((i + 1 : Nat) : Int)) R → Ev (fun q => spec_poProduct.l1 q b out i x a (a.length : Int) i b (b.length : Int) k) R := by
 intro d
 induction d with
 | zero =>
  intro k out h ho hE
  refine up ?_
  simp only [spec_poProduct.l1, if_neg (show ¬ (k : Int) < (b.length : Int) by omega), wid (x := (i : Int) + 1) (by omega) (by omega)]
  exact hE
 | succ d ih =>
  intro k out h ho hE
  refine up ?_
  have e : (i : Int) + (k : Int) = ((i + k : Nat) : Int) := by omega
  simp only [spec_poProduct.l1, if_pos (show (k : Int) < (b.length : Int) by omega), if_pos (show (0 : Int) ≤ (k : Int) by omega), e, wid (x := ((i + k : Nat) : Int)) (by omega) (by omega), if_pos (show (0 : Int) ≤ ((i + k : Nat) : Int) by omega), if_pos (show ((i + k : Nat) : Int) < (out.length : Int) by omega), Int.toNat_natCast, wid (x := (k : Int) + 1) (by omega) (by omega)]
  exact ih (k + 1) _ (by omega) (by rw [List.length_set]; exact ho) hE
theorem sMul_l0 (a b : List Int) (ha : a.length ≤ 1000) (hb : b.length ≤ 1000) (hb0 : 0 < b.length) : ∀ (d i : Nat) (out : List Int), i + d = a.length → a.length + b.length ≤ out.length + 1 → out.length ≤ 100000 → Ev (fun q => spec_poProduct.l0 q b out a (a.length : Int) i) (cutB (mulOut a b out i d)) := by
 intro d
 induction d with
 | zero =>
  intro i out h ho ho2
  refine up ?_
  simp only [spec_poProduct.l0, if_neg (show ¬ (i : Int) < (a.length : Int) by omega), mulOut]
  exact Ev.bind (trim_val out (by omega)) (Ev.now _)
 | succ d ih =>
  intro i out h ho ho2
  refine up ?_
  simp only [spec_poProduct.l0, if_pos (show (i : Int) < (a.length : Int) by omega), if_pos (show (0 : Int) ≤ (i : Int) by omega)]
  exact sMul_l1 a b hb (by omega) b.length 0 out (by omega) (by omega) (ih (i + 1) (mulIn (rd a i) b i out 0 b.length) (by omega) (by rw [mulIn_len]; exact ho) (by rw [mulIn_len]; exact ho2))
theorem rd_left {l m : List Int} {j : Nat} (h : j < l.length) : rd (l ++ m) (j : Int) = rd l (j : Int) := by
 unfold rd
 rw [Int.toNat_natCast, List.getD_eq_getElem?_getD, List.getD_eq_getElem?_getD, List.getElem?_append_left h]
theorem mulIn_more (x : Int) (b : List Int) (i : Nat) (t : List Int) : ∀ d k out, i + k + d ≤ out.length → mulIn x b i (out ++ t) k d = mulIn x b i out k d ++ t
 | 0, _, _, _ => rfl
 | d + 1, k, out, h => by
  unfold mulIn
  rw [rd_left (by omega), List.set_append_left _ _ (by omega)]
  exact mulIn_more x b i t d (k + 1) _ (by rw [List.length_set]; omega)
theorem mulOut_more (a b t : List Int) : ∀ d i out, i + d + b.length ≤ out.length + 1 → mulOut a b (out ++ t) i d = mulOut a b out i d ++ t
 | 0, _, _, _ => rfl
 | d + 1, i, out, h => by
  unfold mulOut
  rw [mulIn_more _ b i t b.length 0 out (by omega)]
  exact mulOut_more a b t d (i + 1) _ (by rw [mulIn_len]; omega)
theorem cutB_zeros (n : Nat) : cutB (List.replicate n 0) = [] := by
 induction n with
 | zero => rfl
 | succ n ih => rw [List.replicate_succ', cutB_zero, ih]
theorem mulOut_nil (a : List Int) : ∀ d i out, mulOut a [] out i d = out
 | 0, _, _ => rfl
 | d + 1, i, out => by unfold mulOut; exact mulOut_nil a d (i + 1) out
theorem sMul_val (a b : List Int) (ha : a.length ≤ 1000) (hb : b.length ≤ 1000) : Ev (fun q => spec_poProduct.f q a b) (prodP a b) := by
 have jt : Ev (fun q => spec_poProduct.j0 q a b true) [] := by refine up ?_; simp only [spec_poProduct.j0, if_true]; exact Ev.now _
 simp only [spec_poProduct.f]
 by_cases h0 : a.length = 0
 ·rw [if_pos_ev (show (a.length : Int) = 0 by omega)]
  obtain rfl := List.eq_nil_of_length_eq_zero h0
  have e : prodP [] b = [] := by unfold prodP mulOut; exact cutB_zeros _
  rw [e]; exact jt
 ·rw [if_neg_ev (show ¬ (a.length : Int) = 0 by omega)]
  by_cases h1 : b.length = 0
  ·obtain rfl := List.eq_nil_of_length_eq_zero h1
   have e : prodP a [] = [] := by unfold prodP; rw [mulOut_nil]; exact cutB_zeros _
   rw [e]; exact jt
  ·have e : ((b.length : Int) == 0) = false := beq_eq_false_iff_ne.mpr (by omega)
   rw [e]
   refine up ?_
   have e2 : wrap64 (wrap64 ((a.length : Int) + (b.length : Int)) - 1) = ((a.length + b.length - 1 : Nat) : Int) := by
    rw [wid (x := (a.length : Int) + (b.length : Int)) (by omega) (by omega), wid (x := (a.length : Int) + (b.length : Int) - 1) (by omega) (by omega)]; omega
   simp only [spec_poProduct.j0, Bool.false_eq_true, if_false, e2, Int.toNat_natCast, if_pos (show (0 : Int) ≤ ((a.length + b.length - 1 : Nat) : Int) by omega), if_pos (show a.length + b.length - 1 ≤ 35184372088832 by omega)]
   have h := sMul_l0 a b ha hb (by omega) a.length 0 (List.replicate (a.length + b.length - 1) 0) (by omega) (by rw [List.length_replicate]; omega) (by rw [List.length_replicate]; omega)
   have e3 : prodP a b = cutB (mulOut a b (List.replicate (a.length + b.length - 1) 0) 0 a.length) := by
    unfold prodP
    have e4 : List.replicate (a.length + b.length) (0 : Int) = List.replicate (a.length + b.length - 1) 0 ++ [0] := by
     have e5 : a.length + b.length = a.length + b.length - 1 + 1 := by omega
     conv => lhs; rw [e5]
     exact List.replicate_succ'
    rw [e4, mulOut_more a b [0] a.length 0 _ (by rw [List.length_replicate]; omega), cutB_zero]
   rw [e3]; exact h
theorem mulIn_zeros (x : Int) (i : Nat) : ∀ n, i < n → mulIn x [0] i (List.replicate n 0) 0 1 = List.replicate n 0 := by
 intro n h
 have e1 : rd (List.replicate n 0) ((i + 0 : Nat) : Int) = 0 := by
  rw [rd_at (by rw [List.length_replicate]; omega)]; simp
 have e2 : rd [0] ((0 : Nat) : Int) = 0 := rfl
 simp only [mulIn, e1, e2, Int.mul_zero]
 have w0 : wrap64 0 = 0 := wid (by decide) (by decide)
 rw [w0, Int.add_zero, w0]
 apply List.ext_getElem
 ·simp
 ·intro j h1 h2
  rw [List.getElem_set]
  split <;> simp
theorem mulOut_zeros (a : List Int) (n : Nat) : ∀ d i, i + d ≤ n → mulOut a [0] (List.replicate n 0) i d = List.replicate n 0
 | 0, _, _ => rfl
 | d + 1, i, h => by
  unfold mulOut
  rw [show ([0] : List Int).length = 1 from rfl, mulIn_zeros _ i n (by omega)]
  exact mulOut_zeros a n d (i + 1) (by omega)
theorem prodP_zero (a : List Int) : prodP a [0] = [] := by
 unfold prodP
 rw [mulOut_zeros a _ a.length 0 (by simp)]
 exact cutB_zeros _
theorem prodP_nil (a : List Int) : prodP a [] = [] := by unfold prodP; rw [mulOut_nil]; exact cutB_zeros _
theorem prodP_cut (a : List Int) (c : Int) : prodP a (cutB [c]) = prodP a [c] := by
 by_cases h : c = 0
 ·subst h
  rw [prodP_zero, show cutB [0] = [] from rfl, prodP_nil]
 ·rw [show cutB [c] = [c] from cutB_ne [] h]
def coefB (n : Int) : Bool := decide (-1000000 ≤ n) && decide (n ≤ 1000000)
def inB (x lo hi : Int) : Bool := decide (lo ≤ x) && decide (x ≤ hi)
theorem iIn_val (x a b : Int) : impl_in.f x a b = some (inB x a b) := by
 unfold impl_in.f inB
 by_cases h : a ≤ x
 ·rw [if_pos h]; simp [h]
 ·rw [if_neg h]; simp [h]
theorem iCoef_val (n : Int) : impl_coefOk.f n = some (coefB n) := by simp only [impl_coefOk.f, iIn_val, Option.bind_some]; rfl
def opB (o : S109) (i : Int) : Bool :=
 if o.f0 = 0 then coefB o.f1 && (o.f2 == 0)
 else if o.f0 = 1 ∨ o.f0 = 3 then inB o.f1 0 i && inB o.f2 0 i
 else if o.f0 = 2 then inB o.f1 0 i && coefB o.f2
 else false
theorem opok_val (o : S109) (i : Int) : Ev (fun q => impl_Op_ok.f q o.f0 o.f1 o.f2 i) (opB o i) := by
 obtain ⟨x, a, b⟩ := o
 dsimp only
 unfold opB
 dsimp only
 simp only [impl_Op_ok.f]
 by_cases h0 : x = 0
 ·rw [if_pos_ev h0, if_pos h0]
  simp only [iCoef_val, Option.bind_some]
  cases coefB a <;> simp <;> exact Ev.now _
 ·rw [if_neg_ev h0, if_neg h0]
  have hj : ∀ y : Bool, Ev (fun q => impl_Op_ok.j0 q i x y x a b) (if y = true then inB a 0 i && inB b 0 i else if x = 2 then inB a 0 i && coefB b else false) := fun y => by
   refine up ?_
   cases y with
   | true =>
    simp only [impl_Op_ok.j0, if_true, iIn_val, Option.bind_some]
    cases inB a 0 i <;> simp <;> exact Ev.now _
   | false =>
    simp only [impl_Op_ok.j0, Bool.false_eq_true, if_false]
    by_cases h2 : x = 2
    ·simp only [if_pos h2, iIn_val, iCoef_val, Option.bind_some]
     cases inB a 0 i <;> simp <;> exact Ev.now _
    ·simp only [if_neg h2]; exact Ev.now _
  by_cases h1 : x = 1
  ·rw [if_pos_ev h1, if_pos (.inl h1)]
   have := hj (x == 1)
   rw [show (x == 1) = true by simp [h1]] at this ⊢
   exact this
  ·rw [if_neg_ev h1]
   have := hj (x == 3)
   by_cases h3 : x = 3
   ·rw [if_pos (.inr h3)]
    rw [show (x == 3) = true by simp [h3]] at this ⊢
    exact this
   ·rw [if_neg (by omega)]
    rw [show (x == 3) = false by simp [h3]] at this ⊢
    exact this
def nextP (o : S109) (P : List (List Int)) : List Int :=
 if o.f0 = 0 then cutB [o.f1] else if o.f0 = 1 then sumP (rdLL P o.f1) (rdLL P o.f2) else if o.f0 = 2 then prodP (rdLL P o.f1) [o.f2] else prodP (rdLL P o.f1) (rdLL P o.f2)
theorem inB_iff {x lo hi : Int} : inB x lo hi = true ↔ lo ≤ x ∧ x ≤ hi := by unfold inB; simp
theorem rdLL_small {P : List (List Int)} (hP : ∀ p ∈ P, p.length ≤ 17) {x : Int} : (rdLL P x).length ≤ 17 := by
 unfold rdLL
 rw [List.getD_eq_getElem?_getD]
 by_cases h : x.toNat < P.length
 ·rw [List.getElem?_eq_getElem h]; exact hP _ (List.getElem_mem h)
 ·rw [List.getElem?_eq_none (by omega)]; simp
theorem pcNext_val (o : S109) (P : List (List Int)) (hP : ∀ p ∈ P, p.length ≤ 17) (h : opB o ((P.length : Int) - 1) = true) : Ev (fun q => pcNext q o P) (nextP o P) := by
 obtain ⟨x, a, b⟩ := o
 unfold opB at h
 unfold nextP
 simp only [pcNext]
 dsimp only at h ⊢
 by_cases h0 : x = 0
 ·simp only [if_pos h0]; exact cut_val _ _ rfl (by simp)
 ·simp only [if_neg h0] at h ⊢
  by_cases h1 : x = 1
  ·simp only [if_pos h1, if_pos (show x = 1 ∨ x = 3 from .inl h1)] at h ⊢
   rw [Bool.and_eq_true, inB_iff, inB_iff] at h
   rw [if_pos_ev (by omega)]
   have := rdLL_small hP (x := a); have := rdLL_small hP (x := b)
   exact iSum_val _ _ (by omega) (by omega)
  ·simp only [if_neg h1] at ⊢
   by_cases h2 : x = 2
   ·simp only [if_neg (show ¬ (x = 1 ∨ x = 3) by omega), if_pos h2] at h ⊢
    rw [Bool.and_eq_true, inB_iff] at h
    rw [if_pos_ev (by omega)]
    have := rdLL_small hP (x := a)
    exact iMul_val _ _ (by omega) (by simp)
   ·by_cases h3 : x = 3
    ·simp only [if_pos (show x = 1 ∨ x = 3 from .inr h3)] at h
     simp only [if_neg h2, if_pos h3]
     rw [Bool.and_eq_true, inB_iff, inB_iff] at h
     rw [if_pos_ev (by omega)]
     have := rdLL_small hP (x := a); have := rdLL_small hP (x := b)
     exact iMul_val _ _ (by omega) (by omega)
    ·simp only [if_neg (show ¬ (x = 1 ∨ x = 3) by omega), if_neg h2] at h
     cases h
def polysB : List S109 → List (List Int) → Option (List (List Int))
 | [], P => some P
 | o :: r, P => if opB o ((P.length : Int) - 1) = true then (if polyB (nextP o P) = true then polysB r (P ++ [nextP o P]) else none) else none
theorem polyB_len {l : List Int} (h : polyB l = true) : l.length ≤ 17 := by
 unfold polyB at h
 rw [Bool.and_eq_true] at h
 exact of_decide_eq_true h.1
theorem small_app {P : List (List Int)} (hP : ∀ p ∈ P, p.length ≤ 17) {n : List Int} (hn : n.length ≤ 17) : ∀ p ∈ P ++ [n], p.length ≤ 17 := by
 intro p hp
 rcases List.mem_append.1 hp with hp | hp
 ·exact hP p hp
 ·rw [List.mem_singleton] at hp; subst hp; exact hn
def resB (x : Option (List (List Int))) : List (List Int) × Bool := match x with | some P => (P, true) | none => ([], false)
theorem pcLoop_val : ∀ (ops : List S109) (P : List (List Int)), (∀ p ∈ P, p.length ≤ 17) → P.length + ops.length ≤ 900 → Ev (fun q => pcLoop q ops ((P.length : Int) - 1) P) (resB (polysB ops P))
 | [], P, _, _ => by simp only [pcLoop, polysB, resB]; exact Ev.now _
 | o :: r, P, hP, hl => by
  rw [List.length_cons] at hl
  simp only [pcLoop, polysB]
  cases h : opB o ((P.length : Int) - 1) with
  | false =>
   have hs : Ev (fun q => pcStep q o ((P.length : Int) - 1) P) none := by
    have hop := opok_val o ((P.length : Int) - 1)
    rw [h] at hop
    simp only [pcStep]
    refine Ev.bind hop ?_
    simp only [Bool.false_eq_true, if_false]
    exact Ev.now _
   refine Ev.bind hs ?_
   simp only [Bool.false_eq_true, if_false, resB]
   exact Ev.now _
  | true =>
   have hop := opok_val o ((P.length : Int) - 1)
   rw [h] at hop
   have hn := pcNext_val o P hP h
   simp only [if_true]
   cases hb : polyB (nextP o P) with
   | false =>
    have hs : Ev (fun q => pcStep q o ((P.length : Int) - 1) P) none := by
     simp only [pcStep]
     refine Ev.bind hop ?_
     simp only [if_true]
     refine Ev.bind hn ?_
     simp only [impl_polynomialOk.f, hb, Option.bind_some, Bool.false_eq_true, if_false]
     exact Ev.now _
    refine Ev.bind hs ?_
    simp only [Bool.false_eq_true, if_false, resB]
    exact Ev.now _
   | true =>
    have hs : Ev (fun q => pcStep q o ((P.length : Int) - 1) P) (some (nextP o P)) := by
     simp only [pcStep]
     refine Ev.bind hop ?_
     simp only [if_true]
     refine Ev.bind hn ?_
     simp only [impl_polynomialOk.f, hb, Option.bind_some, if_true]
     exact Ev.now _
    refine Ev.bind hs ?_
    simp only [if_true, if_pos (show P.length < 1000 by omega)]
    have := pcLoop_val r (P ++ [nextP o P]) (small_app hP (polyB_len hb)) (by rw [List.length_append, List.length_singleton]; omega)
    rw [List.length_append, List.length_singleton, show ((P.length + 1 : Nat) : Int) - 1 = ((P.length : Int) - 1) + 1 by omega] at this
    exact this
def codeB (ops : List S109) (out : Int) : Bool := decide (ops.length ≤ 120) && (inB out 0 ops.length && (polysB ops [[0, 1]]).isSome)
theorem start_small : ∀ p ∈ ([[0, 1]] : List (List Int)), p.length ≤ 17 := by intro p hp; rw [List.mem_singleton] at hp; subst hp; simp
theorem implCode (ops : List S109) (out : Int) : Ev (fun q => impl_IsCode.f q ops out) (codeB ops out) := by
 simp only [impl_IsCode.f, polysF, codeB]
 by_cases h1 : ops.length > 120
 ·rw [show decide (ops.length ≤ 120) = false from decide_eq_false (by omega), Bool.false_and]
  simp only [if_pos h1, Option.bind_some]; exact Ev.now _
 ·rw [show decide (ops.length ≤ 120) = true from decide_eq_true (by omega), Bool.true_and]
  simp only [if_neg h1]
  by_cases h2 : 0 ≤ out ∧ out ≤ (ops.length : Int)
  ·rw [show inB out 0 ops.length = true from inB_iff.2 h2, Bool.true_and]
   simp only [if_pos h2]
   have := pcLoop_val ops [[0, 1]] start_small (by simp; omega)
   refine Ev.bind this ?_
   cases h : polysB ops [[0, 1]] <;> simp only [resB, Option.isSome] <;> exact Ev.now _
  ·rw [show inB out 0 ops.length = false from by rw [Bool.eq_false_iff]; exact fun h => h2 (inB_iff.1 h), Bool.false_and]
   simp only [if_neg h2, Option.bind_some]; exact Ev.now _
theorem small_val (l : List Int) (hl : l.length ≤ 1000000) : Ev (fun q => spec_poSmall.f q l) (polyB l) := by
 simp only [spec_poSmall.f]
 by_cases h : l.length ≤ 17
 ·rw [if_pos_ev (show (l.length : Int) ≤ 17 by omega)]
  refine Ev.bind (l1All_val (-1000000) 1000000 l (by omega)) ?_
  have e : polyB l = allIn (-1000000) 1000000 l := by
   unfold polyB
   rw [show decide (l.length ≤ 17) = true from decide_eq_true h, Bool.true_and]
   rfl
  rw [e]; exact Ev.now _
 ·rw [if_neg_ev (show ¬ (l.length : Int) ≤ 17 by omega), show polyB l = false by unfold polyB; rw [show decide (l.length ≤ 17) = false from decide_eq_false h]; rfl]
  exact Ev.now _
theorem poOp_val (o : S109) (P : List (List Int)) (hP : ∀ p ∈ P, p.length ≤ 17) (hl : P.length ≤ 1000000) (h1 : 1 ≤ P.length) : ∃ r, Ev (fun q => spec_poOp.f q o.f0 o.f1 o.f2 P) (r, opB o ((P.length : Int) - 1)) ∧ (opB o ((P.length : Int) - 1) = true → r = nextP o P) := by
 obtain ⟨x, a, b⟩ := o
 dsimp only
 have hn : wrap64 ((P.length : Int) - 1) = (P.length : Int) - 1 := wid (by omega) (by omega)
 obtain ⟨n, hn2⟩ : ∃ n, n = (P.length : Int) - 1 := ⟨_, rfl⟩
 have key : ∀ A B : Bool, A = inB a 0 n → B = (A && inB b 0 n) → ∃ r, Ev (fun q => spec_poOp.j0 q P A B x a b) (r, opB ⟨x, a, b⟩ n) ∧ (opB ⟨x, a, b⟩ n = true → r = nextP ⟨x, a, b⟩ P) := by
  intro A B hA hB
  by_cases h0 : x = 0
  ·refine ⟨cutB [a], up ?_, fun _ => by unfold nextP; rw [if_pos h0]⟩
   simp only [spec_poOp.j0, if_pos h0]
   refine Ev.bind (trim_val [a] (by simp)) ?_
   simp only [l1In_val, Option.bind_some]
   have e : opB ⟨x, a, b⟩ n = (coefB a && (b == 0)) := by unfold opB; rw [if_pos h0]
   rw [e]
   unfold coefB
   cases (decide (-1000000 ≤ a) && decide (a ≤ 1000000)) with
   | true => simp only [if_true, Bool.true_and]; exact Ev.now _
   | false => simp only [Bool.false_eq_true, if_false, Bool.false_and]; exact Ev.now _
  ·have hsmall := fun y : Int => rdLL_small hP (x := y)
   have hrd : ∀ y : Int, rd_L2 P y = rdLL P y := fun _ => rfl
   have hj2 : ∀ C : Bool, C = (decide (x = 2) && (A && coefB b)) → x ≠ 1 → ∃ r, Ev (fun q => spec_poOp.j2 q P B C x a b) (r, opB ⟨x, a, b⟩ n) ∧ (opB ⟨x, a, b⟩ n = true → r = nextP ⟨x, a, b⟩ P) := by
    intro C hC hx1
    by_cases h2 : x = 2
    ·have e : opB ⟨x, a, b⟩ n = C := by unfold opB; rw [if_neg h0, if_neg (by dsimp only; omega), if_pos h2, hC, hA]; simp [h2]
     rw [e]
     cases hc : C with
     | true =>
      have hA2 : inB a 0 n = true := by
       rw [hc] at hC
       simp only [h2, decide_true, Bool.true_and] at hC
       have := hC.symm
       rw [Bool.and_eq_true] at this
       rw [← hA]; exact this.1
      rw [inB_iff] at hA2
      refine ⟨prodP (rdLL P a) [b], up ?_, fun _ => by unfold nextP; rw [if_neg h0, if_neg (by dsimp only; omega), if_pos h2]⟩
      simp only [spec_poOp.j2, if_true, if_pos hA2.1, if_pos (show a < (P.length : Int) by omega), hrd]
      refine Ev.bind (trim_val [b] (by simp)) ?_
      have hq : (cutB [b]).length ≤ 1 := cutB_len [b]
      have := sMul_val (rdLL P a) (cutB [b]) (by have := hsmall a; omega) (by omega)
      rw [prodP_cut] at this
      exact Ev.bind this (Ev.now _)
     | false =>
      refine ⟨[], up ?_, fun h => by cases h⟩
      simp only [spec_poOp.j2, Bool.false_eq_true, if_false, if_neg (show ¬ x = 3 by omega)]
      exact Ev.now _
    ·have hC2 : C = false := by rw [hC]; simp [h2]
     subst hC2
     by_cases h3 : x = 3
     ·have e : opB ⟨x, a, b⟩ n = B := by unfold opB; rw [if_neg h0, if_pos (.inr h3), hB, hA]
      rw [e]
      cases hb : B with
      | true =>
       have hAB : inB a 0 n = true ∧ inB b 0 n = true := by
        rw [hb, hA] at hB
        have := hB.symm
        rw [Bool.and_eq_true] at this
        exact this
       rw [inB_iff, inB_iff] at hAB
       refine ⟨prodP (rdLL P a) (rdLL P b), up ?_, fun _ => by unfold nextP; rw [if_neg h0, if_neg (by dsimp only; omega), if_neg (by dsimp only; omega)]⟩
       simp only [spec_poOp.j2, Bool.false_eq_true, if_false, if_pos h3, if_true, if_pos hAB.1.1, if_pos (show a < (P.length : Int) by omega), if_pos hAB.2.1, if_pos (show b < (P.length : Int) by omega), hrd]
       exact Ev.bind (sMul_val _ _ (by have := hsmall a; omega) (by have := hsmall b; omega)) (Ev.now _)
      | false =>
       refine ⟨[], up ?_, fun h => by cases h⟩
       simp only [spec_poOp.j2, Bool.false_eq_true, if_false, if_pos h3]
       exact Ev.now _
     ·have e : opB ⟨x, a, b⟩ n = false := by unfold opB; rw [if_neg h0, if_neg (by dsimp only; omega), if_neg h2]
      rw [e]
      refine ⟨[], up ?_, fun h => by cases h⟩
      simp only [spec_poOp.j2, Bool.false_eq_true, if_false, if_neg h3]
      exact Ev.now _
   have hj1f : x ≠ 1 → ∃ r, Ev (fun q => spec_poOp.j1 q P A B false x a b) (r, opB ⟨x, a, b⟩ n) ∧ (opB ⟨x, a, b⟩ n = true → r = nextP ⟨x, a, b⟩ P) := by
    intro hx1
    by_cases h2 : x = 2
    ·cases hAv : A with
     | true =>
      obtain ⟨r, h3, h4⟩ := hj2 (coefB b) (by rw [hAv]; simp [h2]) hx1
      refine ⟨r, up ?_, h4⟩
      simp only [spec_poOp.j1, Bool.false_eq_true, if_false, if_pos h2, if_true, l1In_val, Option.bind_some]
      exact h3
     | false =>
      obtain ⟨r, h3, h4⟩ := hj2 false (by rw [hAv]; simp) hx1
      refine ⟨r, up ?_, h4⟩
      simp only [spec_poOp.j1, Bool.false_eq_true, if_false, if_pos h2]
      exact h3
    ·obtain ⟨r, h3, h4⟩ := hj2 false (by simp [h2]) hx1
     refine ⟨r, up ?_, h4⟩
     simp only [spec_poOp.j1, Bool.false_eq_true, if_false, if_neg h2]
     exact h3
   by_cases h1 : x = 1
   ·have e : opB ⟨x, a, b⟩ n = B := by unfold opB; rw [if_neg h0, if_pos (.inl h1), hB, hA]
    rw [e]
    cases hb : B with
    | true =>
     have hAB : inB a 0 n = true ∧ inB b 0 n = true := by
      rw [hb, hA] at hB
      have := hB.symm
      rw [Bool.and_eq_true] at this
      exact this
     rw [inB_iff, inB_iff] at hAB
     refine ⟨sumP (rdLL P a) (rdLL P b), up ?_, fun _ => by unfold nextP; rw [if_neg h0, if_pos h1]⟩
     simp only [spec_poOp.j0, if_neg h0, if_pos h1]
     refine up ?_
     simp only [spec_poOp.j1, if_true, if_pos hAB.1.1, if_pos (show a < (P.length : Int) by omega), if_pos hAB.2.1, if_pos (show b < (P.length : Int) by omega), hrd]
     exact Ev.bind (sSum_val _ _ (by have := hsmall a; omega) (by have := hsmall b; omega)) (Ev.now _)
    | false =>
     refine ⟨[], up ?_, fun h => by cases h⟩
     simp only [spec_poOp.j0, if_neg h0, if_pos h1]
     refine up ?_
     simp only [spec_poOp.j1, Bool.false_eq_true, if_false, if_neg (show ¬ x = 2 by omega)]
     refine up ?_
     simp only [spec_poOp.j2, Bool.false_eq_true, if_false, if_neg (show ¬ x = 3 by omega)]
     exact Ev.now _
   ·obtain ⟨r, h3, h4⟩ := hj1f h1
    refine ⟨r, up ?_, h4⟩
    simp only [spec_poOp.j0, if_neg h0, if_neg h1]
    exact h3
 rw [← hn2]
 have e1 : ∀ y : Int, (decide ((0 : Int) ≤ y) && decide (y ≤ n)) = inB y 0 n := fun _ => rfl
 cases hA : inB a 0 n with
 | true =>
  obtain ⟨r, h3, h4⟩ := key true (inB b 0 n) hA.symm (by rw [Bool.true_and])
  refine ⟨r, ?_, h4⟩
  simp only [spec_poOp.f, show wrap64 ((P.length : Int) - 1) = n from hn.trans hn2.symm, l1In_val, Option.bind_some, e1, hA, if_true]
  exact h3
 | false =>
  obtain ⟨r, h3, h4⟩ := key false false hA.symm (by rw [Bool.false_and])
  refine ⟨r, ?_, h4⟩
  simp only [spec_poOp.f, show wrap64 ((P.length : Int) - 1) = n from hn.trans hn2.symm, l1In_val, Option.bind_some, e1, hA, Bool.false_eq_true, if_false]
  exact h3
theorem rdOp_at {T : List S109} {i : Nat} (h : i < T.length) : rd_T109 T (i : Int) = T[i] := by
 unfold rd_T109
 rw [Int.toNat_natCast, List.getD_eq_getElem?_getD, List.getElem?_eq_getElem h]; rfl
theorem nextP_len (o : S109) (P : List (List Int)) (hP : ∀ p ∈ P, p.length ≤ 17) : (nextP o P).length ≤ 100 := by
 have h1 := rdLL_small hP (x := o.f1)
 have h2 := rdLL_small hP (x := o.f2)
 unfold nextP
 split
 ·have := cutB_len [o.f1]; simp at this; omega
 ·split
  ·unfold sumP
   refine Nat.le_trans (cutB_len _) ?_
   rw [addTo_len, addTo_len, List.length_replicate]; omega
  ·split
   ·unfold prodP
    refine Nat.le_trans (cutB_len _) ?_
    rw [mulOut_len, List.length_replicate, List.length_singleton]; omega
   ·unfold prodP
    refine Nat.le_trans (cutB_len _) ?_
    rw [mulOut_len, List.length_replicate]; omega
theorem poValues_loop (ops : List S109) (out : Int) (hl : ops.length ≤ 120) : ∀ (d i : Nat) (P : List (List Int)), i + d = ops.length → P.length = i + 1 → (∀ p ∈ P, p.length ≤ 17) → ∃ R : List (List Int) × Bool, Ev (fun q => spec_poValues.l0 q P ops (ops.length : Int) i ops out) R ∧ R = (match polysB (ops.drop i) P with | some P' => (P', inB out 0 ops.length) | none => ([], false)) := by
 intro d
 induction d with
 | zero =>
  intro i P h hp hP
  rw [List.drop_of_length_le (by omega)]
  refine ⟨_, up ?_, rfl⟩
  simp only [spec_poValues.l0, if_neg (show ¬ (i : Int) < (ops.length : Int) by omega), l1In_val, Option.bind_some, polysB]
  exact Ev.now _
 | succ d ih =>
  intro i P h hp hP
  have hi : i < ops.length := by omega
  obtain ⟨r, h1, h2⟩ := poOp_val ops[i] P hP (by omega) (by omega)
  have e : (P.length : Int) - 1 = (i : Int) := by omega
  rw [List.drop_eq_getElem_cons hi]
  unfold polysB
  have hgo : ∀ R, Ev (fun q => (if (opB ops[i] ((P.length : Int) - 1)) = true then ((spec_poSmall.f q r).bind fun t => if t = true then (if P.length < 5864062014805 then spec_poValues.l0 q (P ++ [r]) ops (ops.length : Int) ((i + 1 : Nat) : Int) ops out else none) else some ([], false)) else some ([], false))) R → Ev (fun q => spec_poValues.l0 q P ops (ops.length : Int) i ops out) R := by
   intro R hR
   refine up ?_
   simp only [spec_poValues.l0, if_pos (show (i : Int) < (ops.length : Int) by omega), if_pos (show (0 : Int) ≤ (i : Int) by omega), rdOp_at hi, wid (x := (i : Int) + 1) (by omega) (by omega)]
   exact Ev.bind h1 hR
  cases hb : opB ops[i] ((P.length : Int) - 1) with
  | false =>
   refine ⟨([], false), hgo _ ?_, by simp⟩
   rw [hb]
   simp only [Bool.false_eq_true, if_false]
   exact Ev.now _
  | true =>
   obtain rfl := h2 hb
   have hnl := nextP_len ops[i] P hP
   simp only [if_true]
   cases hs : polyB (nextP ops[i] P) with
   | false =>
    refine ⟨([], false), hgo _ ?_, by simp⟩
    rw [hb]
    simp only [if_true]
    have := small_val (nextP ops[i] P) (by omega)
    rw [hs] at this
    refine Ev.bind this ?_
    simp only [Bool.false_eq_true, if_false]
    exact Ev.now _
   | true =>
    obtain ⟨R, h3, h4⟩ := ih (i + 1) (P ++ [nextP ops[i] P]) (by omega) (by rw [List.length_append, List.length_singleton]; omega) (small_app hP (polyB_len hs))
    refine ⟨R, hgo _ ?_, by simpa using h4⟩
    rw [hb]
    simp only [if_true]
    have := small_val (nextP ops[i] P) (by omega)
    rw [hs] at this
    refine Ev.bind this ?_
    simp only [if_true, if_pos (show P.length < 5864062014805 by omega)]
    exact h3
theorem specGood (ops : List S109) (out : Int) : Ev (fun q => spec_poGood.f q ops out) (codeB ops out) := by
 simp only [spec_poGood.f, spec_poValues.f, codeB]
 by_cases h1 : ops.length > 120
 ·rw [show decide (ops.length ≤ 120) = false from decide_eq_false (by omega), Bool.false_and]
  simp only [if_pos (show (ops.length : Int) > 120 by omega), Option.bind_some]; exact Ev.now _
 ·rw [show decide (ops.length ≤ 120) = true from decide_eq_true (by omega), Bool.true_and]
  simp only [if_neg (show ¬ (ops.length : Int) > 120 by omega)]
  obtain ⟨R, h2, h3⟩ := poValues_loop ops out (by omega) ops.length 0 [[0, 1]] (by omega) rfl start_small
  refine Ev.bind h2 ?_
  rw [h3, List.drop_zero]
  cases polysB ops [[0, 1]] with
  | none => simp only [Option.isSome, Bool.and_false]; exact Ev.now _
  | some P => simp only [Option.isSome, Bool.and_true]; exact Ev.now _
def ifV (ops : List S109) (out : Int) : List S109 × Int × Bool := if codeB ops out = true then (ops, out, true) else ([], 0, false)
theorem poIf_val (ops : List S109) (out : Int) : Ev (fun q => spec_poIf.f q ops out) (ifV ops out) := by
 simp only [spec_poIf.f]
 refine Ev.bind (specGood ops out) ?_
 unfold ifV
 cases codeB ops out with
 | true => simp only [if_true]; exact Ev.now _
 | false => simp only [Bool.false_eq_true, if_false]; exact Ev.now _
theorem told_val (ops : List S109) (out : Int) : Ev (fun q => impl_toldCode.f q ops out) (ifV ops out) := by
 simp only [impl_toldCode.f]
 refine Ev.bind (implCode ops out) ?_
 unfold ifV
 cases codeB ops out with
 | true => simp only [if_true]; exact Ev.now _
 | false => simp only [Bool.false_eq_true, if_false]; exact Ev.now _
def spw (n : Nat) : List Int := (List.range (n + 1)).map fun i => ((i : Nat) : Int)
theorem spw_length (n : Nat) : (spw n).length = n + 1 := by simp [spw]
theorem spw_succ (n : Nat) : spw (n + 1) = spw n ++ [(n : Int) + 1] := by simp [spw, List.range_succ]
theorem gcPw_cons (n : Nat) : gcPw n = (-1) :: spw n := rfl
theorem rd_cons (a : Int) (l : List Int) (i : Nat) : rd (a :: l) ((i : Int) + 1) = rd l (i : Int) := by
 unfold rd
 rw [Int.toNat_natCast, show ((i : Int) + 1).toNat = i + 1 by omega, List.getD_cons_succ]
theorem poAdd_val (l : List S109) (o a b c : Int) (hl : l.length ≤ 1000000) : spec_poAdd.f l o a b c = some (l ++ [⟨a, b, c⟩], 0, (l.length : Int) + 1) := by
 simp only [spec_poAdd.f, Option.bind_some, List.nil_append, List.length_nil, Nat.zero_add, if_pos (show l.length < 5864062014805 by omega), List.length_append, List.length_singleton]
 rfl
theorem powers_loop (most : Int) (n : Nat) (hn : (n : Int) = most - 1 ∨ n = 0 ∧ most ≤ 1) (hn2 : n ≤ 100) : ∀ (d i : Nat), i + d = n → Ev (fun k => spec_poPowers.l0 k most (spw i) (i : Int) ((i : Int) + 2) (gcPops i) 0) (gcPops n, 0, spw n) := by
 intro d
 induction d with
 | zero =>
  intro i h
  obtain rfl : i = n := by omega
  refine up ?_
  simp only [spec_poPowers.l0, if_neg (show ¬ (i : Int) + 2 ≤ most by omega)]
  exact Ev.now _
 | succ d ih =>
  intro i h
  refine up ?_
  have hp := poAdd_val (gcPops i) 0 3 (i : Int) 0 (by rw [gcPops_length]; omega)
  rw [← gcPops_succ, gcPops_length] at hp
  simp only [spec_poPowers.l0, if_pos (show (i : Int) + 2 ≤ most by omega), hp, Option.bind_some, if_pos (show (spw i).length < 17592186044416 by rw [spw_length]; omega), wid (x := (i : Int) + 2 + 1) (by omega) (by omega)]
  have := ih (i + 1) (by omega)
  rw [spw_succ, show ((i + 1 : Nat) : Int) + 2 = (i : Int) + 2 + 1 by omega, show ((i + 1 : Nat) : Int) = (i : Int) + 1 by omega] at this
  exact this
theorem powers_val (most : Int) (n : Nat) (hn : (n : Int) = most - 1 ∨ n = 0 ∧ most ≤ 1) (hn2 : n ≤ 100) : Ev (fun k => spec_poPowers.f k [] 0 most) (gcPops n, 0, spw n) := powers_loop most n hn hn2 n 0 (by omega)
theorem group_loop (c0 : Int) (r sp : List Int) (hr : r.length ≤ 1000) (hsp : r.length ≤ sp.length) : ∀ (d i : Nat) (os : List S109) (a : Int), i + d = r.length → os.length + 2 * d ≤ 100000 →
  Ev (fun k => spec_poGroup.l0 k (c0 :: r) sp a ((i : Int) + 1) os 0) ((gcGrp ((-1) :: sp) (r.drop i) i os a).1, 0, (gcGrp ((-1) :: sp) (r.drop i) i os a).2) := by
 intro d
 induction d with
 | zero =>
  intro i os a h hl
  refine up ?_
  simp only [spec_poGroup.l0, if_neg (show ¬ (i : Int) + 1 < ((c0 :: r).length : Int) by rw [List.length_cons]; omega)]
  rw [List.drop_of_length_le (by omega)]
  exact Ev.now _
 | succ d ih =>
  intro i os a h hl
  have hi : i < r.length := by omega
  have h1 := poAdd_val os 0 2 (rd sp (i : Int)) r[i] (by omega)
  have e : ((os ++ [(⟨2, rd sp (i : Int), r[i]⟩ : S109)]).length : Int) + 1 = (os.length : Int) + 1 + 1 := by rw [List.length_append, List.length_singleton]; rfl
  have h2 := poAdd_val (os ++ [⟨2, rd sp (i : Int), r[i]⟩]) 0 1 a ((os.length : Int) + 1) (by rw [List.length_append, List.length_singleton]; omega)
  rw [e] at h2
  have hrd : rd (c0 :: r) ((i : Int) + 1) = r[i] := by rw [rd_cons, rd_at hi]
  refine up ?_
  simp only [spec_poGroup.l0, if_pos (show (i : Int) + 1 < ((c0 :: r).length : Int) by rw [List.length_cons]; omega), wid (x := (i : Int) + 1 - 1) (by omega) (by omega), show (i : Int) + 1 - 1 = (i : Int) by omega, wid (x := (i : Int)) (by omega) (by omega), if_pos (show (0 : Int) ≤ (i : Int) by omega), if_pos (show (i : Int) < (sp.length : Int) by omega), if_pos (show (0 : Int) ≤ (i : Int) + 1 by omega), hrd, h1, h2, Option.bind_some, wid (x := (i : Int) + 1 + 1) (by omega) (by omega)]
  have := ih (i + 1) (os ++ [⟨2, rd sp (i : Int), r[i]⟩] ++ [⟨1, a, (os.length : Int) + 1⟩]) ((os.length : Int) + 1 + 1) (by omega) (by simp only [List.length_append, List.length_singleton]; omega)
  rw [List.drop_eq_getElem_cons hi, gcGrp, rd_cons]
  rw [show ((i + 1 : Nat) : Int) + 1 = (i : Int) + 1 + 1 by omega] at this
  exact this
theorem group_val (c0 : Int) (r sp : List Int) (os : List S109) (hr : r.length ≤ 1000) (hsp : r.length ≤ sp.length) (hl : os.length ≤ 50000) : Ev (fun k => spec_poGroup.f k os 0 (c0 :: r) sp) ((gcGroup ((-1) :: sp) c0 r os).1, 0, (gcGroup ((-1) :: sp) c0 r os).2) := by
 have h1 := poAdd_val os 0 0 c0 0 (by omega)
 have hrd : rd (c0 :: r) 0 = c0 := rfl
 simp only [spec_poGroup.f, if_pos (show 0 < ((c0 :: r).length : Int) by rw [List.length_cons]; omega), hrd, h1, Option.bind_some]
 have := group_loop c0 r sp hr hsp r.length 0 (os ++ [⟨0, c0, 0⟩]) ((os.length : Int) + 1) (by omega) (by rw [List.length_append, List.length_singleton]; omega)
 rw [List.drop_zero] at this
 exact this
theorem take_cut (l : List Int) (f k : Nat) : (l.take (min (f + k) l.length)).drop f = (l.drop f).take k := by
 rw [List.drop_take]
 by_cases h : f + k ≤ l.length
 ·rw [Nat.min_eq_left h, Nat.add_sub_cancel_left]
 ·rw [Nat.min_eq_right (by omega), List.take_of_length_le (by rw [List.length_drop]; omega), List.take_of_length_le (by rw [List.length_drop]; omega)]
theorem cut_cons {l : List Int} {f k : Nat} (hf : f < l.length) (hk : 1 ≤ k) : ∃ c0 r, (l.drop f).take k = c0 :: r ∧ r.length + 1 = min k (l.length - f) := by
 have hlen : ((l.drop f).take k).length = min k (l.length - f) := by rw [List.length_take, List.length_drop]
 cases h : (l.drop f).take k with
 | nil => rw [h] at hlen; simp at hlen; omega
 | cons c0 r => rw [h, List.length_cons] at hlen; exact ⟨c0, r, rfl, hlen⟩
theorem giant_loop (l : List Int) (kk n J : Nat) (hl1 : 1 ≤ l.length) (hl2 : l.length ≤ 17) (hk1 : 1 ≤ kk) (hk2 : kk ≤ 17) (hJk : J * kk ≤ l.length - 1) (hkn : 1 ≤ J → kk < n + 2) (hnr : min kk l.length ≤ n + 2) : ∀ (j : Nat) (os : List S109) (a : Int), j ≤ J + 1 → (0 ≤ a → j ≤ J) → os.length + 40 * j ≤ 10000 →
  Ev (fun k => spec_poGiant.l0 k l (kk : Int) (spw n) a ((j : Int) * (kk : Int) - (kk : Int)) os 0) (gcGiant l kk (gcPw n) j os a) := by
 intro j
 induction j with
 | zero =>
  intro os a _ _ _
  refine up ?_
  simp only [spec_poGiant.l0, if_neg (show ¬ ((0 : Nat) : Int) * (kk : Int) - (kk : Int) ≥ 0 by omega)]
  exact Ev.now _
 | succ j ih =>
  intro os a hj ha hos
  obtain ⟨f, hf⟩ : ∃ f : Nat, j * kk = f := ⟨_, rfl⟩
  have hjk : j * kk ≤ J * kk := Nat.mul_le_mul_right _ (by omega)
  have hfl : f < l.length := by omega
  have e0 : ((j + 1 : Nat) : Int) * (kk : Int) - (kk : Int) = (f : Int) := by rw [← hf, Int.natCast_add, Int.add_mul]; simp
  have en : (f : Int) - (kk : Int) = (j : Int) * (kk : Int) - (kk : Int) := by rw [← hf]; simp
  obtain ⟨c0, r, hcs, hrm⟩ := cut_cons hfl hk1
  have hcs2 : (l.drop (j * kk)).take kk = c0 :: r := by rw [hf]; exact hcs
  rw [e0]
  have hm : min ((f : Int) + (kk : Int)) (l.length : Int) = ((min (f + kk) l.length : Nat) : Int) := by omega
  have hj1 : ∀ (a2 : Int) (os2 : List S109) (R : List S109 × Int), os2.length ≤ 20000 → (a2 < 0 → Ev (fun k => spec_poGiant.l0 k l (kk : Int) (spw n) (gcGroup (gcPw n) c0 r os2).2 ((f : Int) - (kk : Int)) (gcGroup (gcPw n) c0 r os2).1 0) R) → (0 ≤ a2 → Ev (fun k => spec_poGiant.l0 k l (kk : Int) (spw n) (((gcGroup (gcPw n) c0 r os2).1.length : Int) + 1) ((f : Int) - (kk : Int)) ((gcGroup (gcPw n) c0 r os2).1 ++ [⟨1, a2, (gcGroup (gcPw n) c0 r os2).2⟩]) 0) R) → Ev (fun k => spec_poGiant.j1 k l (kk : Int) (spw n) a2 (f : Int) os2 0) R := by
   intro a2 os2 R ho2 hneg hpos
   have hgl := gcGroup_length (gcPw n) c0 r os2
   have hg := group_val c0 r (spw n) os2 (by omega) (by rw [spw_length]; omega) (by omega)
   rw [← gcPw_cons] at hg
   refine up ?_
   simp only [spec_poGiant.j1, wid (x := (f : Int) + (kk : Int)) (by omega) (by omega), l1Least_val, hm, Option.bind_some, if_pos (show (0 : Int) ≤ (f : Int) by omega), if_pos (show (f : Int) ≤ ((min (f + kk) l.length : Nat) : Int) by omega), if_pos (show ((min (f + kk) l.length : Nat) : Int) ≤ (l.length : Int) by omega), Int.toNat_natCast, take_cut, hcs, wid (x := (f : Int) - (kk : Int)) (by omega) (by omega)]
   refine Ev.bind hg ?_
   by_cases h2 : a2 < 0
   ·simp only [if_pos h2]
    exact hneg h2
   ·have hp := poAdd_val (gcGroup (gcPw n) c0 r os2).1 0 1 a2 (gcGroup (gcPw n) c0 r os2).2 (by omega)
    simp only [if_neg h2, hp, Option.bind_some]
    exact hpos (by omega)
  refine up ?_
  by_cases hat : 0 ≤ a
  ·have hki := hkn (by have := ha hat; omega)
   have hrp : rd (spw n) ((kk : Int) - 1) = rd (gcPw n) (kk : Int) := by
    obtain ⟨m, rfl⟩ : ∃ m, kk = m + 1 := ⟨kk - 1, by omega⟩
    rw [gcPw_cons, show ((m + 1 : Nat) : Int) = (m : Int) + 1 by omega, rd_cons, show (m : Int) + 1 - 1 = (m : Int) by omega]
   have h1 := poAdd_val os 0 3 a (rd (gcPw n) (kk : Int)) (by omega)
   simp only [spec_poGiant.l0, if_pos (show (f : Int) ≥ 0 by omega), if_pos (show a ≥ 0 from hat), wid (x := (kk : Int) - 1) (by omega) (by omega), if_pos (show (0 : Int) ≤ (kk : Int) - 1 by omega), if_pos (show (kk : Int) - 1 < ((spw n).length : Int) by rw [spw_length]; omega), hrp, h1, Option.bind_some]
   rw [gcGiant_pos hat hcs2]
   refine hj1 _ _ _ (by rw [List.length_append, List.length_singleton]; omega) (fun h => by omega) (fun _ => ?_)
   rw [en]
   have hgl := gcGroup_length (gcPw n) c0 r (os ++ [⟨3, a, rd (gcPw n) (kk : Int)⟩])
   rw [List.length_append, List.length_singleton] at hgl
   exact ih _ _ (by omega) (fun _ => by omega) (by rw [List.length_append, List.length_singleton]; omega)
  ·simp only [spec_poGiant.l0, if_pos (show (f : Int) ≥ 0 by omega), if_neg (show ¬ a ≥ 0 from hat)]
   rw [gcGiant_neg hat hcs2]
   refine hj1 _ _ _ (by omega) (fun _ => ?_) (fun h => by omega)
   rw [en]
   have hgl := gcGroup_length (gcPw n) c0 r os
   exact ih _ _ (by omega) (fun _ => by omega) (by omega)
theorem gcGrp_end (pw : List Int) : ∀ (r : List Int) (i : Nat) (os : List S109) (a : Int), a = (os.length : Int) → (gcGrp pw r i os a).2 = ((gcGrp pw r i os a).1.length : Int)
 | [], _, _, _, h => h
 | n :: r, i, os, a, _ => by
  rw [gcGrp]
  exact gcGrp_end pw r _ _ _ (by simp only [List.length_append, List.length_singleton]; omega)
theorem gcGroup_end (pw : List Int) (c0 : Int) (r : List Int) (os : List S109) : (gcGroup pw c0 r os).2 = ((gcGroup pw c0 r os).1.length : Int) := gcGrp_end pw r 0 _ _ (by rw [List.length_append, List.length_singleton]; rfl)
theorem gcGiant_end (l : List Int) (k : Nat) (pw : List Int) (hk : 1 ≤ k) : ∀ (j : Nat) (os : List S109) (a : Int), (a = (os.length : Int) ∨ 0 < j) → j * k < l.length + k → (gcGiant l k pw j os a).2 = ((gcGiant l k pw j os a).1.length : Int) ∧ (gcGiant l k pw j os a).1.length ≤ os.length + j * (2 * k + 2)
 | 0, os, a, h, _ => by
  rcases h with h | h
  ·exact ⟨h, by show os.length ≤ os.length + 0 * (2 * k + 2); omega⟩
  ·omega
 | j + 1, os, a, _, hj => by
  have hjk : j * k < l.length := by rw [Nat.add_mul] at hj; omega
  obtain ⟨c0, r, hcs, hrm⟩ := cut_cons hjk hk
  have e : (j + 1) * (2 * k + 2) = j * (2 * k + 2) + (2 * k + 2) := by rw [Nat.add_mul]; omega
  by_cases ha : 0 ≤ a
  ·rw [gcGiant_pos ha hcs]
   have := gcGiant_end l k pw hk j ((gcGroup pw c0 r (os ++ [⟨3, a, rd pw (k : Int)⟩])).1 ++ [⟨1, (os.length : Int) + 1, (gcGroup pw c0 r (os ++ [⟨3, a, rd pw (k : Int)⟩])).2⟩]) (((gcGroup pw c0 r (os ++ [⟨3, a, rd pw (k : Int)⟩])).1.length : Int) + 1) (Or.inl (by rw [List.length_append, List.length_singleton]; rfl)) (by omega)
   refine ⟨this.1, Nat.le_trans this.2 ?_⟩
   rw [List.length_append, List.length_singleton, gcGroup_length, List.length_append, List.length_singleton]
   omega
  ·rw [gcGiant_neg ha hcs]
   have := gcGiant_end l k pw hk j (gcGroup pw c0 r os).1 (gcGroup pw c0 r os).2 (Or.inl (gcGroup_end _ _ _ _)) (by omega)
   refine ⟨this.1, Nat.le_trans this.2 ?_⟩
   rw [gcGroup_length]
   omega
def lin (φ : Nat → Int) : List Int → Int
 | [] => 0
 | a :: l => a * φ 0 + lin (fun i => φ (i + 1)) l
theorem lin_app : ∀ (a b : List Int) (φ : Nat → Int), lin φ (a ++ b) = lin φ a + lin (fun i => φ (a.length + i)) b
 | [], b, φ => by simp [lin]
 | x :: a, b, φ => by
  rw [List.cons_append, lin, lin_app a b, lin, List.length_cons]
  have e : (fun i => φ (a.length + i + 1)) = fun i => φ (a.length + 1 + i) := funext fun i => congrArg φ (by omega)
  rw [e]; omega
theorem lin_zeros : ∀ (n : Nat) (φ : Nat → Int), lin φ (List.replicate n 0) = 0
 | 0, _ => rfl
 | n + 1, φ => by rw [List.replicate_succ, lin, lin_zeros n]; simp
theorem lin_cut (φ : Nat → Int) : ∀ (n : Nat) (l : List Int), l.length = n → lin φ (cutB l) = lin φ l := by
 intro n
 induction n with
 | zero => intro l h; obtain rfl := List.eq_nil_of_length_eq_zero h; rfl
 | succ n ih =>
  intro l h
  obtain ⟨l', x, rfl⟩ : ∃ l' x, l = l' ++ [x] := by
   rcases List.eq_nil_or_concat l with h0 | ⟨l', x, h0⟩
   ·subst h0; simp at h
   ·exact ⟨l', x, by rw [h0, List.concat_eq_append]⟩
  by_cases hx : x = 0
  ·subst hx
   rw [cutB_zero, ih l' (by simpa using h), lin_app]
   simp [lin]
  ·rw [cutB_ne _ hx]
theorem lin_set : ∀ (l : List Int) (i : Nat) (v : Int) (φ : Nat → Int), i < l.length → lin φ (l.set i v) = lin φ l + (v - rd l (i : Int)) * φ i
 | [], i, v, φ, h => by simp at h
 | a :: l, 0, v, φ, _ => by
  have e : rd (a :: l) ((0 : Nat) : Int) = a := rfl
  rw [List.set_cons_zero, lin, lin, e, Int.sub_mul]; omega
 | a :: l, i + 1, v, φ, h => by
  have e : rd (a :: l) ((i + 1 : Nat) : Int) = rd l (i : Int) := by
   unfold rd
   rw [Int.toNat_natCast, Int.toNat_natCast, List.getD_cons_succ]
  rw [List.set_cons_succ, lin, lin, e, lin_set l i v _ (by simpa using h)]; omega
def bnd (M : Int) (l : List Int) : Prop := ∀ x ∈ l, -M ≤ x ∧ x ≤ M
theorem bnd_mono {M N : Int} {l : List Int} (h : bnd M l) (hMN : M ≤ N) : bnd N l := fun x hx => by have := h x hx; omega
theorem bnd_rd {M : Int} {l : List Int} (h : bnd M l) (hM : 0 ≤ M) (i : Int) : -M ≤ rd l i ∧ rd l i ≤ M := by
 unfold rd
 rw [List.getD_eq_getElem?_getD]
 by_cases hi : i.toNat < l.length
 ·rw [List.getElem?_eq_getElem hi]; exact h _ (List.getElem_mem hi)
 ·rw [List.getElem?_eq_none (by omega)]; simp only [Option.getD_none]; omega
theorem bnd_set {M : Int} {l : List Int} {i : Nat} {v : Int} (h : bnd M l) (hv : -M ≤ v ∧ v ≤ M) : bnd M (l.set i v) := fun x hx => by
 rcases List.mem_or_eq_of_mem_set hx with h1 | h1
 ·exact h x h1
 ·rw [h1]; exact hv
theorem bnd_zeros (M : Int) (hM : 0 ≤ M) (n : Nat) : bnd M (List.replicate n 0) := fun x hx => by
 obtain ⟨_, rfl⟩ := List.mem_replicate.1 hx; omega
theorem cutB_pre : ∀ (n : Nat) (l : List Int), l.length = n → ∃ m, l = cutB l ++ List.replicate m 0 := by
 intro n
 induction n with
 | zero => intro l h; obtain rfl := List.eq_nil_of_length_eq_zero h; exact ⟨0, rfl⟩
 | succ n ih =>
  intro l h
  obtain ⟨l', x, rfl⟩ : ∃ l' x, l = l' ++ [x] := by
   rcases List.eq_nil_or_concat l with h0 | ⟨l', x, h0⟩
   ·subst h0; simp at h
   ·exact ⟨l', x, by rw [h0, List.concat_eq_append]⟩
  by_cases hx : x = 0
  ·subst hx
   obtain ⟨m, hm⟩ := ih l' (by simpa using h)
   refine ⟨m + 1, ?_⟩
   rw [cutB_zero, List.replicate_succ', ← List.append_assoc, ← hm]
  ·exact ⟨0, by rw [cutB_ne _ hx]; simp⟩
theorem cutB_mem {l : List Int} {x : Int} (h : x ∈ cutB l) : x ∈ l := by
 obtain ⟨m, hm⟩ := cutB_pre _ l rfl
 rw [hm]; exact List.mem_append_left _ h
theorem bnd_cut {M : Int} {l : List Int} (h : bnd M l) : bnd M (cutB l) := fun x hx => h x (cutB_mem hx)
theorem cutB_app_zeros (l : List Int) : ∀ n, cutB (l ++ List.replicate n 0) = cutB l
 | 0 => by simp
 | n + 1 => by rw [List.replicate_succ', ← List.append_assoc, cutB_zero, cutB_app_zeros l n]
theorem cutB_cut (l : List Int) : cutB (cutB l) = cutB l := by
 obtain ⟨m, hm⟩ := cutB_pre _ l rfl
 conv => rhs; rw [hm]
 rw [cutB_app_zeros]
def dl (n i : Nat) : Int := if i = n then 1 else 0
theorem lin_none : ∀ (l : List Int), lin (fun _ => 0) l = 0
 | [] => rfl
 | a :: l => by rw [lin, lin_none l]; simp
theorem lin_dl : ∀ (l : List Int) (n : Nat), lin (dl n) l = rd l (n : Int)
 | [], n => by unfold rd; simp [lin]
 | a :: l, 0 => by
  have e : (fun i => dl 0 (i + 1)) = fun _ => 0 := funext fun i => by simp [dl]
  rw [lin, e, lin_none]
  have e1 : dl 0 0 = 1 := rfl
  have e2 : rd (a :: l) ((0 : Nat) : Int) = a := rfl
  rw [e1, e2]; omega
 | a :: l, n + 1 => by
  have e : (fun i => dl (n + 1) (i + 1)) = dl n := funext fun i => by simp [dl]
  have e2 : rd (a :: l) ((n + 1 : Nat) : Int) = rd l (n : Int) := by
   unfold rd
   rw [Int.toNat_natCast, Int.toNat_natCast, List.getD_cons_succ]
  have e1 : dl (n + 1) 0 = 0 := rfl
  rw [lin, e, lin_dl l n, e2, e1]; omega
theorem pad_eq {a b : List Int} (h : ∀ n : Nat, rd a (n : Int) = rd b (n : Int)) : a ++ List.replicate (b.length - a.length) 0 = b ++ List.replicate (a.length - b.length) 0 := by
 apply List.ext_getElem?
 intro i
 have hi := h i
 unfold rd at hi
 rw [Int.toNat_natCast, List.getD_eq_getElem?_getD, List.getD_eq_getElem?_getD] at hi
 rw [List.getElem?_append, List.getElem?_append, List.getElem?_replicate, List.getElem?_replicate]
 by_cases h1 : i < a.length
 ·rw [if_pos h1, List.getElem?_eq_getElem h1]
  rw [List.getElem?_eq_getElem h1] at hi
  by_cases h2 : i < b.length
  ·rw [if_pos h2, List.getElem?_eq_getElem h2]
   rw [List.getElem?_eq_getElem h2] at hi
   simpa using hi
  ·rw [if_neg h2, if_pos (by omega)]
   rw [List.getElem?_eq_none (by omega)] at hi
   simpa using hi
 ·rw [if_neg h1]
  rw [List.getElem?_eq_none (l := a) (by omega)] at hi
  by_cases h2 : i < b.length
  ·rw [if_pos h2, if_pos (by omega), List.getElem?_eq_getElem h2]
   rw [List.getElem?_eq_getElem h2] at hi
   simpa using hi
  ·rw [if_neg h2, if_neg (by omega), if_neg (by omega)]
theorem cut_ext {a b : List Int} (h : ∀ φ, lin φ a = lin φ b) : cutB a = cutB b := by
 have hr : ∀ n : Nat, rd a (n : Int) = rd b (n : Int) := fun n => by rw [← lin_dl, ← lin_dl]; exact h _
 rw [← cutB_app_zeros a (b.length - a.length), pad_eq hr, cutB_app_zeros]
theorem mul_bound {a b : Int} (ha : -1000000 ≤ a ∧ a ≤ 1000000) (hb : -1000000 ≤ b ∧ b ≤ 1000000) : -1000000000000 ≤ a * b ∧ a * b ≤ 1000000000000 := by
 have h1 : a.natAbs ≤ 1000000 := by omega
 have h2 : b.natAbs ≤ 1000000 := by omega
 have h3 : (a * b).natAbs ≤ 1000000 * 1000000 := by rw [Int.natAbs_mul]; exact Nat.mul_le_mul h1 h2
 omega
theorem addTo_lin (x : List Int) (hx : bnd 1000000000000 x) (φ : Nat → Int) : ∀ (d i s : Nat) (out : List Int), i + d = x.length → x.length ≤ out.length → bnd ((s : Int) * 1000000000000) out → s + d ≤ 1000000 →
  lin φ (addTo x out i d) = lin φ out + lin (fun j => φ (i + j)) (x.drop i) ∧ bnd (((s + d : Nat) : Int) * 1000000000000) (addTo x out i d) := by
 intro d
 induction d with
 | zero =>
  intro i s out h _ hb _
  rw [List.drop_of_length_le (by omega)]
  exact ⟨by simp only [addTo, lin]; omega, hb⟩
 | succ d ih =>
  intro i s out h ho hb hs
  have hi : i < x.length := by omega
  have b1 := bnd_rd hb (by omega) (i : Int)
  have b2 := bnd_rd hx (by omega) (i : Int)
  have hw : wrap64 (rd out (i : Int) + rd x (i : Int)) = rd out (i : Int) + rd x (i : Int) := wid (by omega) (by omega)
  unfold addTo
  rw [hw]
  obtain ⟨h1, h2⟩ := ih (i + 1) (s + 1) (out.set i (rd out (i : Int) + rd x (i : Int))) (by omega) (by rw [List.length_set]; exact ho) (bnd_set (bnd_mono hb (by omega)) (by omega)) (by omega)
  refine ⟨?_, by rw [show s + (d + 1) = s + 1 + d by omega]; exact h2⟩
  rw [h1, lin_set _ _ _ _ (by omega), List.drop_eq_getElem_cons hi, lin, rd_at hi]
  have e : (fun j => φ (i + (j + 1))) = fun j => φ (i + 1 + j) := funext fun j => congrArg φ (by omega)
  rw [e, show rd out (i : Int) + x[i] - rd out (i : Int) = x[i] by omega]
  simp only [Nat.add_zero]
  omega
theorem sumP_lin (a b : List Int) (ha : bnd 1000000000000 a) (hb : bnd 1000000000000 b) (hla : a.length ≤ 1000) (hlb : b.length ≤ 1000) (φ : Nat → Int) : lin φ (sumP a b) = lin φ a + lin φ b := by
 unfold sumP
 obtain ⟨h1, h2⟩ := addTo_lin a ha φ a.length 0 0 (List.replicate (max a.length b.length) 0) (by omega) (by rw [List.length_replicate]; omega) (bnd_zeros _ (by omega) _) (by omega)
 obtain ⟨h3, _⟩ := addTo_lin b hb φ b.length 0 (0 + a.length) (addTo a (List.replicate (max a.length b.length) 0) 0 a.length) (by omega) (by rw [addTo_len, List.length_replicate]; omega) h2 (by omega)
 have e0 : (fun j => φ (0 + j)) = φ := funext fun j => congrArg φ (Nat.zero_add j)
 rw [lin_cut φ _ _ rfl, h3, h1, lin_zeros, List.drop_zero, List.drop_zero, e0]
 omega
theorem sumP_cut (a b : List Int) : cutB (sumP a b) = sumP a b := by unfold sumP; exact cutB_cut _
theorem prodP_cutt (a b : List Int) : cutB (prodP a b) = prodP a b := by unfold prodP; exact cutB_cut _
theorem mulIn_lin (x : Int) (hx : -1000000 ≤ x ∧ x ≤ 1000000) (b : List Int) (hb : bnd 1000000 b) (i : Nat) (φ : Nat → Int) : ∀ (d k s : Nat) (out : List Int), k + d = b.length → i + b.length ≤ out.length → bnd ((s : Int) * 1000000000000) out → s + d ≤ 1000000 →
  lin φ (mulIn x b i out k d) = lin φ out + x * lin (fun j => φ (i + k + j)) (b.drop k) ∧ bnd (((s + d : Nat) : Int) * 1000000000000) (mulIn x b i out k d) := by
 intro d
 induction d with
 | zero =>
  intro k s out h _ hbo _
  rw [List.drop_of_length_le (by omega)]
  exact ⟨by simp only [mulIn, lin, Int.mul_zero]; omega, hbo⟩
 | succ d ih =>
  intro k s out h ho hbo hs
  have hk : k < b.length := by omega
  have b1 := bnd_rd hbo (by omega) ((i + k : Nat) : Int)
  have b2 := mul_bound hx (bnd_rd hb (by omega) (k : Int))
  have hw : wrap64 (x * rd b (k : Int)) = x * rd b (k : Int) := wid (by omega) (by omega)
  have hw2 : wrap64 (rd out ((i + k : Nat) : Int) + x * rd b (k : Int)) = rd out ((i + k : Nat) : Int) + x * rd b (k : Int) := wid (by omega) (by omega)
  unfold mulIn
  rw [hw, hw2]
  obtain ⟨h1, h2⟩ := ih (k + 1) (s + 1) (out.set (i + k) (rd out ((i + k : Nat) : Int) + x * rd b (k : Int))) (by omega) (by rw [List.length_set]; exact ho) (bnd_set (bnd_mono hbo (by omega)) (by omega)) (by omega)
  refine ⟨?_, by rw [show s + (d + 1) = s + 1 + d by omega]; exact h2⟩
  rw [h1, lin_set _ _ _ _ (by omega), List.drop_eq_getElem_cons hk, lin, rd_at hk]
  have e : (fun j => φ (i + k + (j + 1))) = fun j => φ (i + (k + 1) + j) := funext fun j => congrArg φ (by omega)
  rw [e, show rd out ((i + k : Nat) : Int) + x * b[k] - rd out ((i + k : Nat) : Int) = x * b[k] by omega]
  simp only [Nat.add_zero]
  rw [Int.mul_add, Int.mul_assoc]
  omega
theorem mulOut_lin (a b : List Int) (ha : bnd 1000000 a) (hb : bnd 1000000 b) (hlb : b.length ≤ 17) (φ : Nat → Int) : ∀ (d i s : Nat) (out : List Int), i + d = a.length → a.length + b.length ≤ out.length → bnd ((s : Int) * 1000000000000) out → s + d * 17 ≤ 1000000 →
  lin φ (mulOut a b out i d) = lin φ out + lin (fun p => lin (fun j => φ (i + p + j)) b) (a.drop i) := by
 intro d
 induction d with
 | zero =>
  intro i s out h _ hbo _
  rw [List.drop_of_length_le (by omega)]
  simp only [mulOut, lin]; omega
 | succ d ih =>
  intro i s out h ho hbo hs
  have hi : i < a.length := by omega
  obtain ⟨h1, h2⟩ := mulIn_lin (rd a (i : Int)) (bnd_rd ha (by omega) _) b hb i φ b.length 0 s out (by omega) (by omega) hbo (by omega)
  unfold mulOut
  rw [ih (i + 1) (s + 17) (mulIn (rd a (i : Int)) b i out 0 b.length) (by omega) (by rw [mulIn_len]; exact ho) (bnd_mono h2 (by omega)) (by omega), h1, List.drop_zero, List.drop_eq_getElem_cons hi, lin, rd_at hi]
  have e : (fun p => lin (fun j => φ (i + (p + 1) + j)) b) = fun p => lin (fun j => φ (i + 1 + p + j)) b := funext fun p => congrArg (fun ψ => lin ψ b) (funext fun j => congrArg φ (by omega))
  rw [e]
  simp only [Nat.add_zero]
  omega
theorem prodP_lin (a b : List Int) (ha : bnd 1000000 a) (hb : bnd 1000000 b) (hla : a.length ≤ 1000) (hlb : b.length ≤ 17) (φ : Nat → Int) : lin φ (prodP a b) = lin (fun p => lin (fun j => φ (p + j)) b) a := by
 unfold prodP
 rw [lin_cut φ _ _ rfl, mulOut_lin a b ha hb hlb φ a.length 0 0 _ (by omega) (by rw [List.length_replicate]; omega) (bnd_zeros _ (by omega) _) (by omega), lin_zeros, List.drop_zero]
 simp only [Nat.zero_add]
 omega
def mono (e : Nat) : List Int := List.replicate e 0 ++ [1]
theorem lin_mono (e : Nat) (φ : Nat → Int) : lin φ (mono e) = φ e := by
 unfold mono
 rw [lin_app, lin_zeros, List.length_replicate]
 simp [lin]
theorem mono_len (e : Nat) : (mono e).length = e + 1 := by simp [mono]
theorem mono_cut (e : Nat) : cutB (mono e) = mono e := cutB_ne _ (by decide)
theorem bnd_mono1 (e : Nat) : bnd 1000000 (mono e) := fun x hx => by
 unfold mono at hx
 rcases List.mem_append.1 hx with h | h
 ·obtain ⟨_, rfl⟩ := List.mem_replicate.1 h; omega
 ·rw [List.mem_singleton] at h; subst h; omega
theorem bnd_app {M : Int} {a b : List Int} (ha : bnd M a) (hb : bnd M b) : bnd M (a ++ b) := fun x hx => by
 rcases List.mem_append.1 hx with h | h
 ·exact ha x h
 ·exact hb x h
theorem shiftP (l : List Int) (e : Nat) (hl : bnd 1000000 l) (hll : l.length ≤ 17) (he : e ≤ 16) : prodP (cutB l) (mono e) = cutB (List.replicate e 0 ++ l) := by
 rw [← prodP_cutt]
 refine cut_ext fun φ => ?_
 have := cutB_len l
 rw [prodP_lin _ _ (bnd_cut hl) (bnd_mono1 e) (by omega) (by rw [mono_len]; omega), lin_cut _ _ _ rfl, lin_app, lin_zeros, List.length_replicate]
 simp only [lin_mono]
 have e1 : (fun p => φ (p + e)) = fun i => φ (e + i) := funext fun i => congrArg φ (by omega)
 rw [e1]; omega
theorem scaleP (e : Nat) (n : Int) (hn : -1000000 ≤ n ∧ n ≤ 1000000) (he : e ≤ 16) : prodP (mono e) [n] = cutB (List.replicate e 0 ++ [n]) := by
 rw [← prodP_cutt]
 refine cut_ext fun φ => ?_
 rw [prodP_lin _ _ (bnd_mono1 e) (fun x hx => by rw [List.mem_singleton] at hx; subst hx; exact hn) (by rw [mono_len]; omega) (by simp), lin_mono, lin_app, lin_zeros, List.length_replicate]
 simp [lin]
theorem monoP (a b : Nat) (ha : a ≤ 16) (hb : b ≤ 16) : prodP (mono a) (mono b) = mono (a + b) := by
 rw [← prodP_cutt, ← mono_cut (a + b)]
 refine cut_ext fun φ => ?_
 rw [prodP_lin _ _ (bnd_mono1 a) (bnd_mono1 b) (by rw [mono_len]; omega) (by rw [mono_len]; omega)]
 simp only [lin_mono]
theorem joinP (g l : List Int) (hg : bnd 1000000 g) (hl : bnd 1000000 l) (hlen : g.length + l.length ≤ 1000) : sumP (cutB g) (cutB (List.replicate g.length 0 ++ l)) = cutB (g ++ l) := by
 rw [← sumP_cut]
 refine cut_ext fun φ => ?_
 have h1 := cutB_len g
 have h2 := cutB_len (List.replicate g.length 0 ++ l)
 rw [List.length_append, List.length_replicate] at h2
 rw [sumP_lin _ _ (bnd_mono (bnd_cut hg) (by omega)) (bnd_mono (bnd_cut (bnd_app (bnd_zeros _ (by omega) _) hl)) (by omega)) (by omega) (by omega), lin_cut _ _ _ rfl, lin_cut _ _ _ rfl, lin_app, lin_app, lin_zeros, List.length_replicate]
 omega
theorem joinP' (g l : List Int) (hg : bnd 1000000 g) (hl : bnd 1000000 l) (hlen : g.length + l.length ≤ 1000) : sumP (cutB (List.replicate g.length 0 ++ l)) (cutB g) = cutB (g ++ l) := by
 rw [← sumP_cut]
 refine cut_ext fun φ => ?_
 have h1 := cutB_len g
 have h2 := cutB_len (List.replicate g.length 0 ++ l)
 rw [List.length_append, List.length_replicate] at h2
 rw [sumP_lin _ _ (bnd_mono (bnd_cut (bnd_app (bnd_zeros _ (by omega) _) hl)) (by omega)) (bnd_mono (bnd_cut hg) (by omega)) (by omega) (by omega), lin_cut _ _ _ rfl, lin_cut _ _ _ rfl, lin_app, lin_app, lin_zeros, List.length_replicate]
 omega
theorem polyB_of {l : List Int} (h : bnd 1000000 l) (hl : l.length ≤ 17) : polyB (cutB l) = true := by
 have := cutB_len l
 unfold polyB
 rw [Bool.and_eq_true]
 refine ⟨decide_eq_true (by omega), ?_⟩
 rw [List.all_eq_true]
 intro x hx
 have := bnd_cut h x hx
 simp
 omega
theorem polysB_app : ∀ (a b : List S109) (P : List (List Int)), polysB (a ++ b) P = (polysB a P).bind fun Q => polysB b Q
 | [], b, P => by simp [polysB]
 | o :: r, b, P => by
  rw [List.cons_append, polysB, polysB]
  by_cases h : opB o ((P.length : Int) - 1) = true
  ·rw [if_pos h, if_pos h]
   by_cases h2 : polyB (nextP o P) = true
   ·rw [if_pos h2, if_pos h2, polysB_app r b]
   ·rw [if_neg h2, if_neg h2]; rfl
  ·rw [if_neg h, if_neg h]; rfl
def Made (os : List S109) (P : List (List Int)) : Prop := polysB os [[0, 1]] = some P ∧ P.length = os.length + 1
theorem made_start : Made [] [[0, 1]] := ⟨rfl, rfl⟩
theorem made_put {os : List S109} {P : List (List Int)} (h : Made os P) (o : S109) (q : List Int) (ho : opB o (os.length : Int) = true) (hq : nextP o P = q) (hs : polyB q = true) : Made (os ++ [o]) (P ++ [q]) := by
 obtain ⟨h1, h2⟩ := h
 refine ⟨?_, by rw [List.length_append, List.length_append, h2]; rfl⟩
 rw [polysB_app, h1]
 show polysB [o] P = _
 rw [polysB, show (P.length : Int) - 1 = (os.length : Int) by omega, if_pos ho, hq, if_pos hs]
 rfl
theorem rdLL_some {P : List (List Int)} {i : Nat} {q : List Int} (h : P[i]? = some q) : rdLL P (i : Int) = q := by
 unfold rdLL
 rw [Int.toNat_natCast, List.getD_eq_getElem?_getD, h]; rfl
theorem some_lt {P : List (List Int)} {i : Nat} {q : List Int} (h : P[i]? = some q) : i < P.length := (List.getElem?_eq_some_iff.1 h).1
theorem coefB_of {n : Int} (h : -1000000 ≤ n ∧ n ≤ 1000000) : coefB n = true := by unfold coefB; simp; omega
theorem made_const {os : List S109} {P : List (List Int)} (h : Made os P) (n : Int) (hn : -1000000 ≤ n ∧ n ≤ 1000000) : Made (os ++ [⟨0, n, 0⟩]) (P ++ [cutB [n]]) :=
 made_put h _ _ (by unfold opB; simp [coefB_of hn]) (by unfold nextP; rfl) (polyB_of (fun x hx => by rw [List.mem_singleton] at hx; subst hx; exact hn) (by simp))
theorem made_sum {os : List S109} {P : List (List Int)} (h : Made os P) (i j : Nat) {a b q : List Int} (hi : P[i]? = some a) (hj : P[j]? = some b) (hq : sumP a b = q) (hs : polyB q = true) : Made (os ++ [⟨1, (i : Int), (j : Int)⟩]) (P ++ [q]) := by
 have h1 := some_lt hi
 have h2 := some_lt hj
 have h3 := h.2
 refine made_put h _ q ?_ ?_ hs
 ·have e1 : inB (i : Int) 0 (os.length : Int) = true := inB_iff.2 (by omega)
  have e2 : inB (j : Int) 0 (os.length : Int) = true := inB_iff.2 (by omega)
  unfold opB
  simp [e1, e2]
 ·unfold nextP
  rw [if_neg (show ¬ (1 : Int) = 0 by decide), if_pos (show (1 : Int) = 1 from rfl)]
  dsimp only
  rw [rdLL_some hi, rdLL_some hj, hq]
theorem made_scale {os : List S109} {P : List (List Int)} (h : Made os P) (i : Nat) (n : Int) {a q : List Int} (hi : P[i]? = some a) (hn : -1000000 ≤ n ∧ n ≤ 1000000) (hq : prodP a [n] = q) (hs : polyB q = true) : Made (os ++ [⟨2, (i : Int), n⟩]) (P ++ [q]) := by
 have h1 := some_lt hi
 have h3 := h.2
 refine made_put h _ q ?_ ?_ hs
 ·have e1 : inB (i : Int) 0 (os.length : Int) = true := inB_iff.2 (by omega)
  unfold opB
  simp [e1, coefB_of hn]
 ·unfold nextP
  rw [if_neg (show ¬ (2 : Int) = 0 by decide), if_neg (show ¬ (2 : Int) = 1 by decide), if_pos (show (2 : Int) = 2 from rfl)]
  dsimp only
  rw [rdLL_some hi, hq]
theorem made_prod {os : List S109} {P : List (List Int)} (h : Made os P) (i j : Nat) {a b q : List Int} (hi : P[i]? = some a) (hj : P[j]? = some b) (hq : prodP a b = q) (hs : polyB q = true) : Made (os ++ [⟨3, (i : Int), (j : Int)⟩]) (P ++ [q]) := by
 have h1 := some_lt hi
 have h2 := some_lt hj
 have h3 := h.2
 refine made_put h _ q ?_ ?_ hs
 ·have e1 : inB (i : Int) 0 (os.length : Int) = true := inB_iff.2 (by omega)
  have e2 : inB (j : Int) 0 (os.length : Int) = true := inB_iff.2 (by omega)
  unfold opB
  simp [e1, e2]
 ·unfold nextP
  rw [if_neg (show ¬ (3 : Int) = 0 by decide), if_neg (show ¬ (3 : Int) = 1 by decide), if_neg (show ¬ (3 : Int) = 2 by decide)]
  dsimp only
  rw [rdLL_some hi, rdLL_some hj, hq]
theorem at_old {P T : List (List Int)} {i : Nat} {q : List Int} (h : P[i]? = some q) : (P ++ T)[i]? = some q := by
 rw [List.getElem?_append_left (some_lt h)]; exact h
theorem at_new (P : List (List Int)) (q : List Int) {n : Nat} (h : P.length = n) : (P ++ [q])[n]? = some q := by subst h; simp
theorem bnd_cons {M x : Int} {l : List Int} (hx : -M ≤ x ∧ x ≤ M) (h : bnd M l) : bnd M (x :: l) := fun y hy => by
 rcases List.mem_cons.1 hy with h1 | h1
 ·subst h1; exact hx
 ·exact h y h1
theorem bnd_one {M x : Int} (hx : -M ≤ x ∧ x ≤ M) : bnd M [x] := bnd_cons hx (fun _ h => by simp at h)
theorem horner_step {os : List S109} {P : List (List Int)} {cs : List Int} (n : Int) (h : Made os P) (h0 : P[0]? = some [0, 1]) (hat : P[os.length]? = some (cutB cs)) (hn : -1000000 ≤ n ∧ n ≤ 1000000) (hb : bnd 1000000 cs) (hl : cs.length ≤ 16) :
  ∃ P', Made (hcStep (os, (os.length : Int)) n).1 P' ∧ P'[0]? = some [0, 1] ∧ (hcStep (os, (os.length : Int)) n).2 = ((hcStep (os, (os.length : Int)) n).1.length : Int) ∧ P'[(hcStep (os, (os.length : Int)) n).1.length]? = some (cutB (n :: cs)) := by
 have hz : bnd 1000000 (List.replicate 1 0 ++ cs) := bnd_app (bnd_zeros _ (by omega) _) hb
 have m1 := made_prod h os.length 0 hat h0 (shiftP cs 1 hb (by omega) (by omega)) (polyB_of hz (by rw [List.length_append]; simp; omega))
 have m2 := made_const m1 n hn
 have hP := h.2
 have a1 : (P ++ [cutB (List.replicate 1 0 ++ cs)] ++ [cutB [n]])[os.length + 1]? = some (cutB (List.replicate 1 0 ++ cs)) := at_old (at_new P _ hP)
 have a2 : (P ++ [cutB (List.replicate 1 0 ++ cs)] ++ [cutB [n]])[os.length + 2]? = some (cutB [n]) := at_new _ _ (by rw [List.length_append, hP]; rfl)
 have m3 := made_sum m2 (os.length + 1) (os.length + 2) a1 a2 (joinP' [n] cs (bnd_one hn) hb (by simp; omega)) (polyB_of (bnd_cons hn hb) (by simp; omega))
 refine ⟨_, m3, at_old (at_old (at_old h0)), ?_, ?_⟩
 ·simp [hcStep]
 ·have e : (hcStep (os, (os.length : Int)) n).1.length = os.length + 3 := by simp [hcStep]
  rw [e]
  exact at_new _ _ (by rw [List.length_append, List.length_append, hP]; rfl)
theorem horner_all : ∀ (ds : List Int) (os : List S109) (P : List (List Int)) (cs : List Int), Made os P → P[0]? = some [0, 1] → P[os.length]? = some (cutB cs) → bnd 1000000 ds → bnd 1000000 cs → ds.length + cs.length ≤ 17 →
  ∃ P', Made (ds.foldl hcStep (os, (os.length : Int))).1 P' ∧ P'[0]? = some [0, 1] ∧ (ds.foldl hcStep (os, (os.length : Int))).2 = ((ds.foldl hcStep (os, (os.length : Int))).1.length : Int) ∧ P'[(ds.foldl hcStep (os, (os.length : Int))).1.length]? = some (cutB (ds.reverse ++ cs)) ∧ (ds.foldl hcStep (os, (os.length : Int))).1.length = os.length + 3 * ds.length
 | [], os, P, cs, h, h0, hat, _, _, _ => ⟨P, h, h0, rfl, hat, rfl⟩
 | n :: ds, os, P, cs, h, h0, hat, hd, hc, hl => by
  rw [List.length_cons] at hl
  obtain ⟨P1, k1, k2, k3, k4⟩ := horner_step n h h0 hat (hd n (List.mem_cons_self ..)) hc (by omega)
  have hlen : (hcStep (os, (os.length : Int)) n).1.length = os.length + 3 := by simp [hcStep]
  rcases hs : hcStep (os, (os.length : Int)) n with ⟨s1, s2⟩
  rw [hs] at k1 k3 k4 hlen
  dsimp only at k1 k3 k4 hlen
  subst k3
  obtain ⟨P2, j1, j2, j3, j4, j5⟩ := horner_all ds s1 P1 (n :: cs) k1 k2 k4 (fun x hx => hd x (List.mem_cons_of_mem _ hx)) (bnd_cons (hd n (List.mem_cons_self ..)) hc) (by rw [List.length_cons]; omega)
  rw [List.foldl_cons, hs, List.reverse_cons, List.append_assoc]
  exact ⟨P2, j1, j2, j3, j4, by rw [j5, List.length_cons]; omega⟩
theorem polyB_bnd {l : List Int} (h : polyB l = true) : bnd 1000000 l ∧ l.length ≤ 17 := by
 refine ⟨?_, polyB_len h⟩
 unfold polyB at h
 rw [Bool.and_eq_true, List.all_eq_true] at h
 intro x hx
 have := h.2 x hx
 simp at this
 exact this
theorem take_last {l : List Int} (h : 1 ≤ l.length) : l.take (l.length - 1) ++ [rd l ((l.length : Int) - 1)] = l := by
 have e : (l.length : Int) - 1 = ((l.length - 1 : Nat) : Int) := by omega
 rw [e, rd_at (by omega), ← List.take_succ_eq_append_getElem (by omega), Nat.sub_add_cancel h, List.take_length]
theorem horner_made {l : List Int} (h1 : 1 ≤ l.length) (hp : polyB l = true) : ∃ P, Made (hcAll l).1 P ∧ (hcAll l).2 = ((hcAll l).1.length : Int) ∧ P[(hcAll l).1.length]? = some (cutB l) ∧ (hcAll l).1.length = 1 + 3 * (l.length - 1) := by
 obtain ⟨hb, hl⟩ := polyB_bnd hp
 have hx := bnd_rd hb (by omega) ((l.length : Int) - 1)
 have m0 := made_const made_start (rd l ((l.length : Int) - 1)) hx
 obtain ⟨P, k1, _, k3, k4, k5⟩ := horner_all (l.take (l.length - 1)).reverse [⟨0, rd l ((l.length : Int) - 1), 0⟩] [[0, 1], cutB [rd l ((l.length : Int) - 1)]] [rd l ((l.length : Int) - 1)] m0 rfl rfl (fun x hx => hb x (List.mem_of_mem_take (List.mem_reverse.1 hx))) (bnd_one hx) (by rw [List.length_reverse, List.length_take]; simp; omega)
 rw [List.reverse_reverse, take_last h1] at k4
 refine ⟨P, k1, k3, k4, ?_⟩
 rw [List.length_reverse, List.length_take] at k5
 refine k5.trans ?_
 simp
theorem codeB_made {os : List S109} {P : List (List Int)} (h : Made os P) (hl : os.length ≤ 120) {out : Int} (h0 : 0 ≤ out) (h1 : out ≤ (os.length : Int)) : codeB os out = true := by
 unfold codeB
 rw [decide_eq_true hl, inB_iff.2 ⟨h0, h1⟩, h.1]; rfl
def monos (n : Nat) : List (List Int) := (List.range (n + 1)).map fun i => mono (i + 1)
theorem monos_succ (n : Nat) : monos (n + 1) = monos n ++ [mono (n + 2)] := by simp [monos, List.range_succ]
theorem monos_at {n e : Nat} (h1 : 1 ≤ e) (h : e ≤ n + 1) : (monos n)[e - 1]? = some (mono e) := by
 unfold monos
 rw [List.getElem?_map, List.getElem?_range (by omega)]
 show some (mono (e - 1 + 1)) = _
 rw [Nat.sub_add_cancel h1]
theorem polyB_mono {e : Nat} (h : e ≤ 16) : polyB (mono e) = true := by
 have := polyB_of (bnd_mono1 e) (by rw [mono_len]; omega)
 rw [mono_cut] at this
 exact this
theorem powers_made : ∀ n, n ≤ 15 → Made (gcPops n) (monos n)
 | 0, _ => made_start
 | n + 1, h => by
  have ih := powers_made n (by omega)
  rw [gcPops_succ, monos_succ]
  exact made_prod ih n 0 (monos_at (e := n + 1) (by omega) (by omega)) (monos_at (e := 1) (by omega) (by omega)) (monoP (n + 1) 1 (by omega) (by omega)) (polyB_mono (by omega))
theorem bnd_tail {M x : Int} {l : List Int} (h : bnd M (x :: l)) : bnd M l := fun y hy => h y (List.mem_cons_of_mem _ hy)
theorem bnd_head {M x : Int} {l : List Int} (h : bnd M (x :: l)) : -M ≤ x ∧ x ≤ M := h x (List.mem_cons_self ..)
theorem grp_made (n : Nat) : ∀ (r : List Int) (i : Nat) (os : List S109) (P : List (List Int)) (cs : List Int), Made os P → (∀ e, 1 ≤ e → e ≤ i + r.length → P[e - 1]? = some (mono e)) → P[os.length]? = some (cutB cs) → cs.length = i + 1 → bnd 1000000 cs → bnd 1000000 r → i + 1 + r.length ≤ 17 → i + r.length ≤ n + 1 →
  ∃ T, Made (gcGrp (gcPw n) r i os (os.length : Int)).1 (P ++ T) ∧ (gcGrp (gcPw n) r i os (os.length : Int)).2 = ((gcGrp (gcPw n) r i os (os.length : Int)).1.length : Int) ∧ (P ++ T)[(gcGrp (gcPw n) r i os (os.length : Int)).1.length]? = some (cutB (cs ++ r))
 | [], i, os, P, cs, h, _, hat, _, _, _, _, _ => ⟨[], by rw [List.append_nil]; exact h, rfl, by rw [List.append_nil, List.append_nil]; exact hat⟩
 | x :: r, i, os, P, cs, h, hm, hat, hcl, hcb, hrb, hl, hn => by
  rw [List.length_cons] at hl hn hm
  have hx := bnd_head hrb
  have hP := h.2
  have e1 : rd (gcPw n) ((i : Int) + 1) = (i : Int) := gcPw_at n i (by omega)
  have mi : P[i]? = some (mono (i + 1)) := hm (i + 1) (by omega) (by omega)
  have hb1 : bnd 1000000 (List.replicate (i + 1) 0 ++ [x]) := bnd_app (bnd_zeros _ (by omega) _) (bnd_one hx)
  have m1 := made_scale h i x mi hx (scaleP (i + 1) x hx (by omega)) (polyB_of hb1 (by simp; omega))
  have a1 : (P ++ [cutB (List.replicate (i + 1) 0 ++ [x])])[os.length]? = some (cutB cs) := at_old hat
  have a2 : (P ++ [cutB (List.replicate (i + 1) 0 ++ [x])])[os.length + 1]? = some (cutB (List.replicate (i + 1) 0 ++ [x])) := at_new _ _ hP
  have hj := joinP cs [x] hcb (bnd_one hx) (by simp; omega)
  rw [hcl] at hj
  have m2 := made_sum m1 os.length (os.length + 1) a1 a2 hj (polyB_of (bnd_app hcb (bnd_one hx)) (by rw [List.length_append]; simp; omega))
  have hlen : (os ++ [(⟨2, (i : Int), x⟩ : S109)] ++ [(⟨1, (os.length : Int), ((os.length + 1 : Nat) : Int)⟩ : S109)]).length = os.length + 2 := by simp
  have a3 : (P ++ [cutB (List.replicate (i + 1) 0 ++ [x])] ++ [cutB (cs ++ [x])])[os.length + 2]? = some (cutB (cs ++ [x])) := at_new _ _ (by rw [List.length_append, hP]; rfl)
  obtain ⟨T, k1, k2, k3⟩ := grp_made n r (i + 1) (os ++ [⟨2, (i : Int), x⟩] ++ [⟨1, (os.length : Int), ((os.length + 1 : Nat) : Int)⟩]) _ (cs ++ [x]) m2 (fun e h1 h2 => at_old (at_old (hm e h1 (by omega)))) (by rw [hlen]; exact a3) (by rw [List.length_append, hcl]; rfl) (bnd_app hcb (bnd_one hx)) (bnd_tail hrb) (by omega) (by omega)
  have e2 : gcGrp (gcPw n) (x :: r) i os (os.length : Int) = gcGrp (gcPw n) r (i + 1) (os ++ [⟨2, (i : Int), x⟩] ++ [⟨1, (os.length : Int), ((os.length + 1 : Nat) : Int)⟩]) ((os ++ [(⟨2, (i : Int), x⟩ : S109)] ++ [(⟨1, (os.length : Int), ((os.length + 1 : Nat) : Int)⟩ : S109)]).length : Int) := by
   rw [gcGrp, e1, hlen]; rfl
  rw [e2]
  refine ⟨[cutB (List.replicate (i + 1) 0 ++ [x])] ++ [cutB (cs ++ [x])] ++ T, ?_, k2, ?_⟩
  ·rw [← List.append_assoc, ← List.append_assoc]; exact k1
  ·rw [← List.append_assoc, ← List.append_assoc, k3, List.append_assoc]; rfl
theorem group_made (n : Nat) {os : List S109} {P : List (List Int)} (c0 : Int) (r : List Int) (h : Made os P) (hm : ∀ e, 1 ≤ e → e ≤ r.length → P[e - 1]? = some (mono e)) (hb : bnd 1000000 (c0 :: r)) (hl : r.length ≤ 16) (hn : r.length ≤ n + 1) :
  ∃ T, Made (gcGroup (gcPw n) c0 r os).1 (P ++ T) ∧ (gcGroup (gcPw n) c0 r os).2 = ((gcGroup (gcPw n) c0 r os).1.length : Int) ∧ (P ++ T)[(gcGroup (gcPw n) c0 r os).1.length]? = some (cutB (c0 :: r)) := by
 have m1 := made_const h c0 (bnd_head hb)
 have hlen : (os ++ [(⟨0, c0, 0⟩ : S109)]).length = os.length + 1 := by simp
 obtain ⟨T, k1, k2, k3⟩ := grp_made n r 0 (os ++ [⟨0, c0, 0⟩]) (P ++ [cutB [c0]]) [c0] m1 (fun e h1 h2 => at_old (hm e h1 (by omega))) (by rw [hlen]; exact at_new _ _ h.2) rfl (bnd_one (bnd_head hb)) (bnd_tail hb) (by omega) (by omega)
 have e : gcGroup (gcPw n) c0 r os = gcGrp (gcPw n) r 0 (os ++ [⟨0, c0, 0⟩]) ((os ++ [(⟨0, c0, 0⟩ : S109)]).length : Int) := by rw [hlen]; rfl
 rw [e]
 exact ⟨[cutB [c0]] ++ T, by rw [← List.append_assoc]; exact k1, k2, by rw [← List.append_assoc]; exact k3⟩
theorem bnd_drop {M : Int} {l : List Int} (h : bnd M l) (n : Nat) : bnd M (l.drop n) := fun x hx => h x (List.mem_of_mem_drop hx)
theorem bnd_take {M : Int} {l : List Int} (h : bnd M l) (n : Nat) : bnd M (l.take n) := fun x hx => h x (List.mem_of_mem_take hx)
theorem giant_made_pos (l : List Int) (kk n : Nat) (hb : bnd 1000000 l) (hl : l.length ≤ 17) (hk1 : 1 ≤ kk) (hkn : kk ≤ n + 1) : ∀ (j : Nat) (os : List S109) (P : List (List Int)), Made os P → (∀ e, 1 ≤ e → e ≤ n + 1 → P[e - 1]? = some (mono e)) → P[os.length]? = some (cutB (l.drop (j * kk))) → j * kk < l.length →
  ∃ P', Made (gcGiant l kk (gcPw n) j os (os.length : Int)).1 P' ∧ P'[(gcGiant l kk (gcPw n) j os (os.length : Int)).1.length]? = some (cutB l)
 | 0, os, P, h, _, hat, _ => ⟨P, h, by rw [Nat.zero_mul, List.drop_zero] at hat; exact hat⟩
 | j + 1, os, P, h, hm, hat, hj => by
  have hmul : (j + 1) * kk = j * kk + kk := by rw [Nat.add_mul, Nat.one_mul]
  obtain ⟨f, hf⟩ : ∃ f, j * kk = f := ⟨_, rfl⟩
  rw [hmul, hf] at hat hj
  obtain ⟨c0, r, hcs, hrl⟩ := cut_cons (l := l) (f := f) (k := kk) (by omega) hk1
  have hrk : r.length + 1 = kk := by rw [hrl]; omega
  have hP := h.2
  have hcb : bnd 1000000 (c0 :: r) := by rw [← hcs]; exact bnd_take (bnd_drop hb _) _
  have hdb : bnd 1000000 (l.drop (f + kk)) := bnd_drop hb _
  have hdl : (l.drop (f + kk)).length = l.length - (f + kk) := List.length_drop
  have e1 : rd (gcPw n) (kk : Int) = ((kk - 1 : Nat) : Int) := by
   have := gcPw_at n (kk - 1) (by omega)
   rw [Nat.sub_add_cancel hk1] at this
   exact this
  have hzb : bnd 1000000 (List.replicate kk 0 ++ l.drop (f + kk)) := bnd_app (bnd_zeros _ (by omega) _) hdb
  have m1 := made_prod h os.length (kk - 1) hat (hm kk hk1 hkn) (shiftP _ kk hdb (by omega) (by omega)) (polyB_of hzb (by rw [List.length_append, List.length_replicate]; omega))
  have hlen : (os ++ [(⟨3, (os.length : Int), ((kk - 1 : Nat) : Int)⟩ : S109)]).length = os.length + 1 := by simp
  obtain ⟨T, k1, k2, k3⟩ := group_made n c0 r m1 (fun e h1 h2 => at_old (hm e h1 (by omega))) hcb (by omega) (by omega)
  obtain ⟨g, hg⟩ : ∃ g, gcGroup (gcPw n) c0 r (os ++ [⟨3, (os.length : Int), ((kk - 1 : Nat) : Int)⟩]) = g := ⟨_, rfl⟩
  rw [hg] at k1 k2 k3
  have a1 : (P ++ [cutB (List.replicate kk 0 ++ l.drop (f + kk))] ++ T)[os.length + 1]? = some (cutB (List.replicate kk 0 ++ l.drop (f + kk))) := at_old (at_new _ _ hP)
  have hjo := joinP' (c0 :: r) (l.drop (f + kk)) hcb hdb (by rw [List.length_cons]; omega)
  rw [List.length_cons, hrk] at hjo
  have e3 : (c0 :: r) ++ l.drop (f + kk) = l.drop f := by rw [← hcs, ← List.drop_drop, List.take_append_drop]
  rw [e3] at hjo
  have m2 := made_sum k1 (os.length + 1) g.1.length a1 k3 hjo (polyB_of (bnd_drop hb _) (by rw [List.length_drop]; omega))
  have e4 : gcGiant l kk (gcPw n) (j + 1) os (os.length : Int) = gcGiant l kk (gcPw n) j (g.1 ++ [⟨1, ((os.length + 1 : Nat) : Int), (g.1.length : Int)⟩]) ((g.1 ++ [(⟨1, ((os.length + 1 : Nat) : Int), (g.1.length : Int)⟩ : S109)]).length : Int) := by
   rw [gcGiant_pos (c0 := c0) (r := r) (by omega) (by rw [hf]; exact hcs), e1, hg, k2, List.length_append]; rfl
  rw [e4]
  refine giant_made_pos l kk n hb hl hk1 hkn j _ _ m2 (fun e h1 h2 => at_old (at_old (at_old (hm e h1 h2)))) ?_ (by omega)
  rw [List.length_append, hf]
  exact at_new _ _ k1.2
theorem giant_made {l : List Int} {kk : Nat} (hp : polyB l = true) (hl1 : 1 ≤ l.length) (hk1 : 1 ≤ kk) : ∃ P, Made (gcOps l kk) P ∧ P[(gcOps l kk).length]? = some (cutB l) := by
 obtain ⟨hb, hl⟩ := polyB_bnd hp
 obtain ⟨n, hn⟩ : ∃ n, gcN l kk = n := ⟨_, rfl⟩
 obtain ⟨J, hJ⟩ : ∃ J, (l.length - 1) / kk = J := ⟨_, rfl⟩
 have hn2 : n = min kk (l.length - 1) - 1 := hn.symm
 have hJk : J * kk ≤ l.length - 1 := by rw [← hJ]; exact Nat.div_mul_le_self _ _
 have hJ2 : l.length - 1 < J * kk + kk := by
  have := Nat.lt_div_mul_add (a := l.length - 1) (b := kk) (by omega)
  rw [hJ] at this
  exact this
 obtain ⟨f, hf⟩ : ∃ f, J * kk = f := ⟨_, rfl⟩
 obtain ⟨c0, r, hcs, hrl⟩ := cut_cons (l := l) (f := f) (k := kk) (by omega) hk1
 have hcb : bnd 1000000 (c0 :: r) := by rw [← hcs]; exact bnd_take (bnd_drop hb _) _
 have hd : c0 :: r = l.drop f := by rw [← hcs]; exact List.take_of_length_le (by rw [List.length_drop]; omega)
 have hm := powers_made n (by omega)
 obtain ⟨T, k1, k2, k3⟩ := group_made n c0 r hm (fun e h1 h2 => monos_at h1 (by omega)) hcb (by omega) (by omega)
 have e1 : gcOps l kk = (gcGiant l kk (gcPw n) J (gcGroup (gcPw n) c0 r (gcPops n)).1 ((gcGroup (gcPw n) c0 r (gcPops n)).1.length : Int)).1 := by
  unfold gcOps
  rw [hn, hJ, gcGiant_neg (c0 := c0) (r := r) (by decide) (by rw [hf]; exact hcs), k2]
 rw [e1]
 have hat : (monos n ++ T)[(gcGroup (gcPw n) c0 r (gcPops n)).1.length]? = some (cutB (l.drop (J * kk))) := by rw [hf, ← hd]; exact k3
 by_cases hJ0 : J = 0
 ·subst hJ0
  rw [Nat.zero_mul, List.drop_zero] at hat
  exact ⟨_, k1, hat⟩
 ·have : kk ≤ J * kk := Nat.le_mul_of_pos_left kk (by omega)
  exact giant_made_pos l kk n hb hl hk1 (by omega) J _ _ k1 (fun e h1 h2 => at_old (monos_at h1 h2)) hat (by omega)
theorem powers_code {l : List Int} (hp : polyB l = true) (hl1 : 1 ≤ l.length) : ∃ P, Made (pcGroup l).1 P ∧ (pcGroup l).2 = ((pcGroup l).1.length : Int) ∧ P[(pcGroup l).1.length]? = some (cutB l) ∧ (pcGroup l).1.length = (l.length - 2) + 1 + 2 * (l.length - 1) := by
 obtain ⟨hb, hl⟩ := polyB_bnd hp
 cases l with
 | nil => simp at hl1
 | cons c0 r =>
  rw [List.length_cons] at hl hl1
  have hm := powers_made ((c0 :: r).length - 2) (by rw [List.length_cons]; omega)
  obtain ⟨T, k1, k2, k3⟩ := group_made ((c0 :: r).length - 2) c0 r hm (fun e h1 h2 => monos_at h1 (by rw [List.length_cons]; omega)) hb (by omega) (by rw [List.length_cons]; omega)
  refine ⟨_, k1, k2, k3, ?_⟩
  unfold pcGroup
  rw [gcGroup_length, gcPops_length]; rfl
def coefsB (l : List Int) : Bool := decide (0 < l.length) && polyB l
theorem specCoefs (l : List Int) (hl : l.length ≤ 2000000) : Ev (fun k => spec_poCoefs.f k l) (coefsB l) := by
 unfold coefsB
 by_cases h : 0 < l.length
 ·simp only [spec_poCoefs.f, if_pos (show (l.length : Int) > 0 by omega), decide_eq_true h, Bool.true_and]
  by_cases h17 : l.length ≤ 17
  ·exact Ev.bind (small_val l (by omega)) (Ev.now _)
  ·have e : polyB l = false := by unfold polyB; rw [decide_eq_false h17, Bool.false_and]
   rw [e]
   simp only [spec_poSmall.f, if_neg (show ¬ (l.length : Int) ≤ 17 by omega), Option.bind_some]
   exact Ev.now _
 ·simp only [spec_poCoefs.f, if_neg (show ¬ (l.length : Int) > 0 by omega), decide_eq_false h, Bool.false_and]
  exact Ev.now _
theorem implCoefs (l : List Int) : impl_coefsOk.f l = some (coefsB l) := by
 unfold coefsB impl_coefsOk.f impl_polynomialOk.f
 by_cases h : 0 < l.length
 ·rw [if_pos (by omega), decide_eq_true h]; rfl
 ·rw [if_neg (by omega), decide_eq_false h]; rfl
def kB (a : Int) : Bool := decide (1 ≤ a) && decide (a ≤ 17)
theorem implK (a : Int) : impl_giantOk.f a = some (kB a) := by
 unfold impl_giantOk.f kB
 rw [iIn_val]; rfl
theorem specK (a : Int) : spec_l1In.f a 1 17 = some (kB a) := l1In_val a 1 17
def gV (l : List Int) (a : Int) : List S109 × Int × Bool := if coefsB l = true ∧ kB a = true then ifV (gcOps l a.toNat) ((gcOps l a.toNat).length : Int) else ([], 0, false)
theorem gc_range {l : List Int} {a : Int} (h : coefsB l = true ∧ kB a = true) : (1 ≤ l.length ∧ l.length ≤ 17) ∧ 1 ≤ a ∧ a ≤ 17 := by
 obtain ⟨h1, h2⟩ := h
 unfold coefsB polyB at h1
 unfold kB at h2
 simp only [Bool.and_eq_true, decide_eq_true_eq] at h1 h2
 exact ⟨⟨h1.1, h1.2.1⟩, h2⟩
theorem giant_val (l : List Int) (kk : Nat) (hl1 : 1 ≤ l.length) (hl2 : l.length ≤ 17) (hk1 : 1 ≤ kk) (hk2 : kk ≤ 17) : Ev (fun k => spec_poGiant.f k l (kk : Int)) (gcOps l kk, ((gcOps l kk).length : Int)) ∧ (gcOps l kk).length ≤ 1000 := by
 obtain ⟨n, hn⟩ : ∃ n, gcN l kk = n := ⟨_, rfl⟩
 obtain ⟨J, hJ⟩ : ∃ J, (l.length - 1) / kk = J := ⟨_, rfl⟩
 have hn2 : n = min kk (l.length - 1) - 1 := hn.symm
 have hJ17 : J ≤ 17 := by rw [← hJ]; exact Nat.le_trans (Nat.div_le_self _ _) (by omega)
 have hJk : J * kk ≤ l.length - 1 := by rw [← hJ]; exact Nat.div_mul_le_self _ _
 have hkn : 1 ≤ J → kk < n + 2 := fun h => by have := Nat.le_mul_of_pos_left kk h; omega
 have hnr : min kk l.length ≤ n + 2 := by omega
 have hloop := giant_loop l kk n J hl1 hl2 hk1 hk2 hJk hkn hnr (J + 1) (gcPops n) (-1) (Nat.le_refl _) (fun h => by omega) (by rw [gcPops_length]; omega)
 have hend := gcGiant_end l kk (gcPw n) hk1 (J + 1) (gcPops n) (-1) (Or.inr (by omega)) (by rw [Nat.add_mul]; omega)
 have hgo : gcOps l kk = (gcGiant l kk (gcPw n) (J + 1) (gcPops n) (-1)).1 := by unfold gcOps; rw [hn, hJ]
 have hb : (J + 1) * (2 * kk + 2) ≤ 18 * 36 := Nat.mul_le_mul (by omega) (by omega)
 rw [gcPops_length] at hend
 refine ⟨?_, by rw [hgo]; omega⟩
 have hq : Int.tdiv ((l.length : Int) - 1) (kk : Int) = (J : Int) := by
  rw [show (l.length : Int) - 1 = ((l.length - 1 : Nat) : Int) by omega, Int.tdiv_eq_ediv_of_nonneg (by omega), ← Int.natCast_ediv, hJ]
 have hF : (J : Int) * (kk : Int) = ((J * kk : Nat) : Int) := by simp
 simp only [spec_poGiant.f, wid (x := (l.length : Int) - 1) (by omega) (by omega), l1Least_val, Option.bind_some, hq, wid (x := (J : Int)) (by omega) (by omega)]
 refine Ev.bind (powers_val _ n (by omega) (by omega)) ?_
 simp only [if_neg (show ¬ (kk : Int) = 0 by omega), wid (x := (J : Int) * (kk : Int)) (by omega) (by omega)]
 rw [show ((J + 1 : Nat) : Int) * (kk : Int) - (kk : Int) = (J : Int) * (kk : Int) by rw [Int.natCast_add, Int.add_mul]; simp] at hloop
 rw [hgo, ← hend.1]
 exact hloop
theorem gImpl (l : List Int) (a : Int) : Ev (fun k => impl_GiantCode.f k l a) (gV l a) := by
 simp only [impl_GiantCode.f, implCoefs, implK, Option.bind_some]
 unfold gV
 by_cases h : coefsB l = true ∧ kB a = true
 ·simp only [if_pos h]; exact told_val _ _
 ·simp only [if_neg h]; exact Ev.now _
theorem ifV_made {os : List S109} {P : List (List Int)} (h : Made os P) (hl : os.length ≤ 120) : ifV os (os.length : Int) = (os, (os.length : Int), true) := by
 unfold ifV
 rw [if_pos (codeB_made h hl (by omega) (Int.le_refl _))]
theorem giant_len {l : List Int} {kk : Nat} (hl1 : 1 ≤ l.length) (hl2 : l.length ≤ 17) (hk1 : 1 ≤ kk) : (gcOps l kk).length ≤ 120 := by
 obtain ⟨n, hn⟩ : ∃ n, gcN l kk = n := ⟨_, rfl⟩
 obtain ⟨J, hJ⟩ : ∃ J, (l.length - 1) / kk = J := ⟨_, rfl⟩
 have hn2 : n = min kk (l.length - 1) - 1 := hn.symm
 have hJk : J * kk ≤ l.length - 1 := by rw [← hJ]; exact Nat.div_mul_le_self _ _
 have hJ17 : J ≤ 17 := by rw [← hJ]; exact Nat.le_trans (Nat.div_le_self _ _) (by omega)
 have key : ∀ (j : Nat) (os : List S109) (a : Int), j * kk < l.length + kk → (gcGiant l kk (gcPw n) j os a).1.length ≤ os.length + j + 2 * (min (j * kk) l.length) + j := by
  intro j
  induction j with
  | zero => intro os a _; simp [gcGiant]
  | succ j ih =>
   intro os a hj
   have hjk : j * kk < l.length := by rw [Nat.add_mul] at hj; omega
   have hm : (j + 1) * kk = j * kk + kk := by rw [Nat.add_mul, Nat.one_mul]
   obtain ⟨c0, r, hcs, hrm⟩ := cut_cons hjk hk1
   by_cases ha : 0 ≤ a
   ·rw [gcGiant_pos ha hcs]
    refine Nat.le_trans (ih _ _ (by omega)) ?_
    rw [List.length_append, List.length_singleton, gcGroup_length, List.length_append, List.length_singleton, hm]
    omega
   ·rw [gcGiant_neg ha hcs]
    refine Nat.le_trans (ih _ _ (by omega)) ?_
    rw [gcGroup_length, hm]
    omega
 have h1 := key (J + 1) (gcPops n) (-1) (by rw [Nat.add_mul]; omega)
 unfold gcOps
 rw [hn, hJ]
 rw [gcPops_length] at h1
 omega
theorem start_made : ∀ (l : List Int) (os : List S109) (P : List (List Int)), Made os P → bnd 1000000 l → Made (os ++ esStart l) (P ++ l.map fun n => cutB [n])
 | [], os, P, h, _ => by simpa [esStart] using h
 | n :: l, os, P, h, hb => by
  have := start_made l _ _ (made_const h n (bnd_head hb)) (bnd_tail hb)
  have e : os ++ esStart (n :: l) = os ++ [⟨0, n, 0⟩] ++ esStart l := by simp [esStart]
  have e2 : P ++ (n :: l).map (fun n => cutB [n]) = P ++ [cutB [n]] ++ l.map fun n => cutB [n] := by simp
  rw [e, e2]
  exact this
def Idx (P : List (List Int)) : List Int → List (List Int) → Prop
 | [], [] => True
 | a :: r, g :: t => (∃ i : Nat, a = (i : Int) ∧ P[i]? = some (cutB g)) ∧ Idx P r t
 | _, _ => False
theorem idx_old {P : List (List Int)} (T : List (List Int)) : ∀ (r : List Int) (t : List (List Int)), Idx P r t → Idx (P ++ T) r t
 | [], [], _ => trivial
 | a :: r, g :: t, ⟨⟨i, h1, h2⟩, h3⟩ => ⟨⟨i, h1, at_old h2⟩, idx_old T r t h3⟩
 | [], _ :: _, h => h.elim
 | _ :: _, [], h => h.elim
theorem idx_len {P : List (List Int)} : ∀ (r : List Int) (t : List (List Int)), Idx P r t → r.length = t.length
 | [], [], _ => rfl
 | a :: r, g :: t, ⟨_, h3⟩ => by rw [List.length_cons, List.length_cons, idx_len r t h3]
 | [], _ :: _, h => h.elim
 | _ :: _, [], h => h.elim
theorem idx_app {P : List (List Int)} : ∀ (r : List Int) (t : List (List Int)) (r2 : List Int) (t2 : List (List Int)), Idx P r t → Idx P r2 t2 → Idx P (r ++ r2) (t ++ t2)
 | [], [], _, _, _, h => h
 | a :: r, g :: t, r2, t2, ⟨h1, h3⟩, h => ⟨h1, idx_app r t r2 t2 h3 h⟩
 | [], _ :: _, _, _, h, _ => h.elim
 | _ :: _, [], _, _, h, _ => h.elim
def Pcs (s : Nat) : List (List Int) → Prop
 | [] => True
 | g :: t => (t = [] ∧ 1 ≤ g.length ∧ g.length ≤ s) ∨ (t ≠ [] ∧ g.length = s ∧ Pcs s t)
theorem bnd_flat {M : Int} {g : List Int} {t : List (List Int)} (h : bnd M (g :: t).flatten) : bnd M g ∧ bnd M t.flatten := ⟨fun x hx => h x (by rw [List.flatten_cons]; exact List.mem_append_left _ hx), fun x hx => h x (by rw [List.flatten_cons]; exact List.mem_append_right _ hx)⟩
theorem row_made (s y : Nat) (hs : s ≤ 16) : ∀ (n : Nat) (list : List Int) (gs : List (List Int)) (os : List S109) (nx : List Int) (P : List (List Int)), list.length ≤ n → Made os P → P[y]? = some (mono s) → Idx P list gs → Pcs s gs → bnd 1000000 gs.flatten → gs.flatten.length ≤ 17 →
  ∃ T R gn, (esRow (y : Int) list os nx).2 = nx ++ R ∧ Made (esRow (y : Int) list os nx).1 (P ++ T) ∧ Idx (P ++ T) R gn ∧ Pcs (s + s) gn ∧ gn.flatten = gs.flatten ∧ (gs ≠ [] → gn ≠ [])
 | _, [], [], os, nx, P, _, hM, _, _, _, _, _ => ⟨[], [], [], by simp [esRow], by simpa [esRow] using hM, trivial, trivial, rfl, fun h => h⟩
 | _, [a], [g], os, nx, P, _, hM, _, hI, hp, _, _ => by
  refine ⟨[], [a], [g], by simp [esRow], by simpa [esRow] using hM, by simpa using hI, ?_, rfl, fun h => h⟩
  rcases hp with ⟨_, h1, h2⟩ | ⟨h, _⟩
  ·exact .inl ⟨rfl, h1, by omega⟩
  ·exact absurd rfl h
 | n + 1, a :: b :: r, g1 :: g2 :: gr, os, nx, P, hn, hM, hy, ⟨⟨i, ha, hPi⟩, ⟨j, hb, hPj⟩, hI⟩, hp, hbd, hl => by
  subst ha
  subst hb
  obtain ⟨b1, b23⟩ := bnd_flat hbd
  obtain ⟨b2, b3⟩ := bnd_flat b23
  rw [List.flatten_cons, List.flatten_cons, List.length_append, List.length_append] at hl
  rcases hp with ⟨h, _⟩ | ⟨_, hg1, hp2⟩
  ·cases h
  have hg2 : 1 ≤ g2.length ∧ g2.length ≤ s ∧ (gr ≠ [] → g2.length = s ∧ Pcs s gr) ∧ (gr = [] → Pcs s gr) := by
   rcases hp2 with ⟨h1, h2, h3⟩ | ⟨h1, h2, h3⟩
   ·exact ⟨h2, h3, fun h => absurd h1 h, fun h => by rw [h]; trivial⟩
   ·refine ⟨?_, Nat.le_of_eq h2, fun _ => ⟨h2, h3⟩, fun h => absurd h h1⟩
    rw [h2]
    have h0 : g1.length = s := hg1
    cases gr with
    | nil => exact absurd rfl h1
    | cons g3 gt =>
     rcases Nat.eq_zero_or_pos s with hz | hz
     ·exfalso
      have : ∀ (q : List (List Int)), q ≠ [] → Pcs 0 q → False := by
       intro q
       induction q with
       | nil => intro h _; exact h rfl
       | cons x t ih =>
        intro _ hq
        rcases hq with ⟨_, k1, k2⟩ | ⟨k1, _, k3⟩
        ·omega
        ·exact ih k1 k3
      rw [hz] at h3
      exact this _ (by simp) h3
     ·exact hz
  have hP := hM.2
  have hz : bnd 1000000 (List.replicate s 0 ++ g2) := bnd_app (bnd_zeros _ (by omega) _) b2
  have m1 := made_prod hM j y hPj hy (shiftP g2 s b2 (by omega) hs) (polyB_of hz (by rw [List.length_append, List.length_replicate]; omega))
  have hjo := joinP g1 g2 b1 b2 (by omega)
  rw [hg1] at hjo
  have m2 := made_sum m1 i (os.length + 1) (at_old hPi) (at_new _ _ hP) hjo (polyB_of (bnd_app b1 b2) (by rw [List.length_append]; omega))
  have hlen : (P ++ [cutB (List.replicate s 0 ++ g2)]).length = os.length + 2 := by rw [List.length_append, hP]; rfl
  have hnew : Idx (P ++ [cutB (List.replicate s 0 ++ g2)] ++ [cutB (g1 ++ g2)]) [(os.length : Int) + 2] [g1 ++ g2] := ⟨⟨os.length + 2, rfl, at_new _ _ hlen⟩, trivial⟩
  obtain ⟨T, R, gn, k1, k2, k3, k4, k5, k6⟩ := row_made s y hs n r gr (os ++ [⟨3, (j : Int), (y : Int)⟩] ++ [⟨1, (i : Int), ((os.length + 1 : Nat) : Int)⟩]) (nx ++ [(os.length : Int) + 2]) _ (by simp only [List.length_cons] at hn; omega) m2 (at_old (at_old hy)) (idx_old _ _ _ (idx_old _ _ _ hI)) (by by_cases h : gr = []; exact hg2.2.2.2 h; exact (hg2.2.2.1 h).2) b3 (by omega)
  have e : esRow (y : Int) ((i : Int) :: (j : Int) :: r) os nx = esRow (y : Int) r (os ++ [⟨3, (j : Int), (y : Int)⟩] ++ [⟨1, (i : Int), ((os.length + 1 : Nat) : Int)⟩]) (nx ++ [(os.length : Int) + 2]) := rfl
  rw [e]
  refine ⟨[cutB (List.replicate s 0 ++ g2)] ++ [cutB (g1 ++ g2)] ++ T, ((os.length : Int) + 2) :: R, (g1 ++ g2) :: gn, ?_, ?_, ?_, ?_, ?_, fun _ => by simp⟩
  ·rw [k1]; simp
  ·rw [← List.append_assoc, ← List.append_assoc]; exact k2
  ·rw [← List.append_assoc, ← List.append_assoc]
   exact idx_app [(os.length : Int) + 2] [g1 ++ g2] R gn (idx_old _ _ _ hnew) k3
  ·by_cases h : gr = []
   ·subst h
    have : gn = [] := by
     cases gn with
     | nil => rfl
     | cons x t =>
      exfalso
      have hf : (x :: t).flatten = [] := k5
      rw [List.flatten_cons, List.append_eq_nil_iff] at hf
      rcases k4 with ⟨_, q1, _⟩ | ⟨q1, q2, q3⟩
      ·rw [hf.1] at q1; simp at q1
      ·cases t with
       | nil => exact q1 rfl
       | cons x2 t2 =>
        have hlen0 : ∀ (q : List (List Int)), q ≠ [] → q.flatten = [] → ∀ z, Pcs z q → False := by
         intro q
         induction q with
         | nil => intro h _ _ _; exact h rfl
         | cons y1 t1 ih =>
          intro _ hq z hz
          rw [List.flatten_cons, List.append_eq_nil_iff] at hq
          rcases hz with ⟨_, w1, _⟩ | ⟨w1, _, w3⟩
          ·rw [hq.1] at w1; simp at w1
          ·exact ih w1 hq.2 z w3
        exact hlen0 _ (by simp) hf.2 _ q3
    subst this
    exact .inl ⟨rfl, by rw [List.length_append]; omega, by rw [List.length_append]; omega⟩
   ·exact .inr ⟨k6 h, by rw [List.length_append, hg1, (hg2.2.2.1 h).1], k4⟩
  ·rw [List.flatten_cons, k5, List.flatten_cons, List.flatten_cons, List.append_assoc]
 | 0, a :: b :: r, _, _, _, _, hn, _, _, _, _, _, _ => by simp at hn
 | _, [], _ :: _, _, _, _, _, _, _, h, _, _, _ => h.elim
 | _, _ :: _, [], _, _, _, _, _, _, h, _, _, _ => h.elim
 | _, [_], _ :: _ :: _, _, _, _, _, _, _, h, _, _, _ => h.2.elim
 | _, _ :: _ :: _, [_], _, _, _, _, _, _, h, _, _, _ => h.2.elim
theorem pcs_two {s : Nat} {gs : List (List Int)} (hp : Pcs s gs) (h : 1 < gs.length) : s < gs.flatten.length := by
 cases gs with
 | nil => simp at h
 | cons g t =>
  rcases hp with ⟨h1, _⟩ | ⟨h1, h2, h3⟩
  ·rw [h1] at h; simp at h
  ·cases t with
   | nil => exact absurd rfl h1
   | cons g2 t2 =>
    have : 1 ≤ g2.length := by
     rcases h3 with ⟨_, k1, _⟩ | ⟨k1, k2, k3⟩
     ·exact k1
     ·rcases Nat.eq_zero_or_pos s with hz | hz
      ·exfalso
       have h0 : ∀ (q : List (List Int)), q ≠ [] → Pcs 0 q → False := by
        intro q
        induction q with
        | nil => intro h _; exact h rfl
        | cons x t ih =>
         intro _ hq
         rcases hq with ⟨_, k1, k2⟩ | ⟨k1, _, k3⟩
         ·omega
         ·exact ih k1 k3
       rw [hz] at k3
       exact h0 _ k1 k3
      ·omega
    rw [List.flatten_cons, List.flatten_cons, List.length_append, List.length_append]
    omega
theorem idx_head {P : List (List Int)} : ∀ (list : List Int) (gs : List (List Int)), Idx P list gs → list.length ≤ 1 → gs ≠ [] → ∃ i : Nat, list.headD 0 = (i : Int) ∧ P[i]? = some (cutB gs.flatten)
 | [], [], _, _, h => absurd rfl h
 | [a], [g], ⟨⟨i, h2, h3⟩, _⟩, _, _ => ⟨i, h2, by simpa using h3⟩
 | a :: b :: r, _, _, h1, _ => by simp at h1
 | [], _ :: _, h, _, _ => h.elim
 | _ :: _, [], h, _, _ => h.elim
 | [_], _ :: _ :: _, h, _, _ => h.2.elim
theorem all_made : ∀ (k : Nat) (s y : Nat) (list : List Int) (gs : List (List Int)) (os : List S109) (P : List (List Int)), list.length ≤ k + 1 → Made os P → P[y]? = some (mono s) → Idx P list gs → Pcs s gs → bnd 1000000 gs.flatten → gs.flatten.length ≤ 17 → gs ≠ [] →
  ∃ P', Made (esAll k (y : Int) list os).1 P' ∧ (∃ i : Nat, (esAll k (y : Int) list os).2 = (i : Int) ∧ P'[i]? = some (cutB gs.flatten)) ∧ (esAll k (y : Int) list os).1.length ≤ os.length + 4 * list.length
 | k, s, y, list, gs, os, P, hk, hM, hy, hI, hp, hbd, hl, hne => by
  have hlen := idx_len _ _ hI
  have hend := fun h1 => idx_head list gs hI h1 hne
  match k with
  | 0 =>
   obtain ⟨i, h2, h3⟩ := hend (by omega)
   exact ⟨P, hM, ⟨i, h2, h3⟩, Nat.le_add_right _ _⟩
  | k + 1 =>
   rw [esAll]
   by_cases h1 : 1 < list.length
   ·rw [if_pos h1]
    have hs := pcs_two hp (by omega)
    obtain ⟨T, R, gn, k1, k2, k3, k4, k5, k6⟩ := row_made s y (by omega) list.length list gs os [] P (Nat.le_refl _) hM hy hI hp hbd hl
    obtain ⟨l1, l2⟩ := esRow_len (y : Int) list.length list os [] (Nat.le_refl _)
    rw [List.nil_append] at k1
    rw [List.length_nil, Nat.zero_add] at l1
    rw [← k1] at k3
    have hgl := idx_len _ _ k3
    obtain ⟨E, hE⟩ : ∃ E, esRow (y : Int) list os [] = E := ⟨_, rfl⟩
    rw [hE] at k2 k3 l1 l2 hgl ⊢
    have hy2 : (P ++ T)[y]? = some (mono s) := at_old hy
    by_cases h2 : 1 < E.2.length
    ·rw [if_pos h2]
     have hs2 := pcs_two k4 (by omega)
     rw [k5] at hs2
     have m3 := made_prod k2 y y hy2 hy2 (monoP s s (by omega) (by omega)) (by
      have := polyB_of (bnd_mono1 (s + s)) (by rw [mono_len]; omega)
      rw [mono_cut] at this
      exact this)
     obtain ⟨P', j1, ⟨i, j2, j3⟩, j4⟩ := all_made k (s + s) (E.1.length + 1) E.2 gn (E.1 ++ [⟨3, (y : Int), (y : Int)⟩]) _ (by omega) m3 (at_new _ _ k2.2) (idx_old _ _ _ k3) k4 (by rw [k5]; exact hbd) (by rw [k5]; exact hl) (k6 hne)
     rw [k5] at j3
     refine ⟨P', j1, ⟨i, j2, j3⟩, Nat.le_trans j4 ?_⟩
     rw [List.length_append, List.length_singleton]
     omega
    ·rw [if_neg h2]
     have e : esAll k (y : Int) E.2 E.1 = (E.1, E.2.headD 0) := by
      cases k with
      | zero => rfl
      | succ k => rw [esAll, if_neg h2]
     rw [e]
     obtain ⟨i, j2, j3⟩ := idx_head E.2 gn k3 (by omega) (k6 hne)
     rw [k5] at j3
     exact ⟨_, k2, ⟨i, j2, j3⟩, Nat.le_trans l2 (by omega)⟩
   ·rw [if_neg h1]
    obtain ⟨i, h2, h3⟩ := hend (by omega)
    exact ⟨P, hM, ⟨i, h2, h3⟩, Nat.le_add_right _ _⟩
theorem ones_idx : ∀ (l : List Int) (A : List Int), Idx ([[0, 1]] ++ (A ++ l).map fun n => cutB [n]) ((List.range l.length).map fun i => (((A.length + i : Nat) : Int)) + 1) (l.map fun n => [n])
 | [], _ => trivial
 | n :: l, A => by
  have ih := ones_idx l (A ++ [n])
  rw [List.length_cons, List.range_succ_eq_map, List.map_cons, List.map_cons, List.map_map]
  refine ⟨⟨A.length + 1, by simp, ?_⟩, ?_⟩
  ·rw [List.map_append, List.map_cons, List.singleton_append, List.getElem?_cons_succ, List.getElem?_append_right (by simp)]
   simp
  ·have e1 : A ++ n :: l = A ++ [n] ++ l := by simp
   rw [e1]
   have e2 : ((fun i => (((A.length + i : Nat) : Int)) + 1) ∘ Nat.succ) = fun i => ((((A ++ [n]).length + i : Nat) : Int)) + 1 := funext fun i => by
    show ((A.length + (i + 1) : Nat) : Int) + 1 = (((A ++ [n]).length + i : Nat) : Int) + 1
    rw [List.length_append, List.length_singleton]
    congr 2
    omega
   rw [e2]
   exact ih
theorem pcs_ones : ∀ l : List Int, Pcs 1 (l.map fun n => [n])
 | [] => trivial
 | [n] => .inl ⟨rfl, by simp, by simp⟩
 | n :: m :: l => .inr ⟨by simp, by simp, pcs_ones (m :: l)⟩
theorem flat_ones : ∀ l : List Int, (l.map fun n => [n]).flatten = l
 | [] => rfl
 | n :: l => by rw [List.map_cons, List.flatten_cons, flat_ones l]; rfl
theorem estrin_made {l : List Int} (hp : polyB l = true) (h1 : 1 ≤ l.length) : ∃ P i, Made (esCode l).1 P ∧ (esCode l).2 = ((i : Nat) : Int) ∧ P[i]? = some (cutB l) ∧ (esCode l).1.length ≤ 120 := by
 obtain ⟨hb, hl⟩ := polyB_bnd hp
 have hM := start_made l [] [[0, 1]] made_start hb
 rw [List.nil_append] at hM
 have hI := ones_idx l []
 rw [List.nil_append] at hI
 have e : (fun i => (((([] : List Int).length + i : Nat) : Int)) + 1) = fun i => ((i : Nat) : Int) + 1 := funext fun i => by simp
 rw [e] at hI
 have hf := flat_ones l
 obtain ⟨P', k1, ⟨i, k2, k3⟩, k4⟩ := all_made 20 1 0 (esOnes l.length) (l.map fun n => [n]) (esStart l) _ (by rw [esOnes_length]; omega) hM rfl hI (pcs_ones l) (by rw [hf]; exact hb) (by rw [hf]; exact hl) (by intro h; rw [List.map_eq_nil_iff] at h; rw [h] at h1; simp at h1)
 rw [hf] at k3
 refine ⟨P', i, k1, k2, k3, Nat.le_trans k4 ?_⟩
 rw [esStart_length, esOnes_length]
 omega
theorem codeB_parts {os : List S109} {out : Int} (h : codeB os out = true) : os.length ≤ 120 ∧ (0 ≤ out ∧ out ≤ (os.length : Int)) ∧ (polysB os [[0, 1]]).isSome = true := by
 unfold codeB at h
 rw [Bool.and_eq_true, Bool.and_eq_true, inB_iff] at h
 exact ⟨of_decide_eq_true h.1, h.2.1, h.2.2⟩
theorem opB_vals {o : S109} {n : Int} (h : opB o n = true) : o.f0 = 0 ∨ o.f0 = 2 ∧ (0 ≤ o.f1 ∧ o.f1 ≤ n) ∨ (o.f0 = 1 ∨ o.f0 = 3) ∧ (0 ≤ o.f1 ∧ o.f1 ≤ n) ∧ (0 ≤ o.f2 ∧ o.f2 ≤ n) := by
 unfold opB at h
 by_cases h0 : o.f0 = 0
 ·exact .inl h0
 ·rw [if_neg h0] at h
  by_cases h1 : o.f0 = 1 ∨ o.f0 = 3
  ·rw [if_pos h1, Bool.and_eq_true, inB_iff, inB_iff] at h
   exact .inr (.inr ⟨h1, h⟩)
  ·rw [if_neg h1] at h
   by_cases h2 : o.f0 = 2
   ·rw [if_pos h2, Bool.and_eq_true, inB_iff] at h
    exact .inr (.inl ⟨h2, h.1⟩)
   ·rw [if_neg h2] at h; cases h
theorem tmod_in {a b : Int} (hb : 0 < b) : -b < Int.tmod a b ∧ Int.tmod a b < b := ⟨Int.lt_tmod_of_pos a hb, Int.tmod_lt_of_pos a hb⟩
theorem posmod {a b : Int} (hb : 0 < b) (hb2 : b ≤ 1000000000000000) : Int.tmod (wrap64 ((Int.tmod a b) + b)) b = a % b := by
 have h := tmod_in (a := a) hb
 rw [wid (by omega) (by omega), Int.tmod_eq_emod_of_nonneg (by omega), Int.add_emod_right]
 rw [Int.tmod_def, Int.sub_mul_emod_self_left]
theorem c_mul {m a a' b b' : Int} (h : a % m = a' % m) (h' : b % m = b' % m) : (a * b) % m = (a' * b') % m := by rw [Int.mul_emod, h, h', ← Int.mul_emod]
theorem c_add {m a a' b b' : Int} (h : a % m = a' % m) (h' : b % m = b' % m) : (a + b) % m = (a' + b') % m := by rw [Int.add_emod, h, h', ← Int.add_emod]
theorem c_self (m a : Int) : (a % m) % m = a % m := Int.emod_emod_of_dvd a (Int.dvd_refl m)
theorem m_range {m a : Int} (hm : 1 ≤ m) : 0 ≤ a % m ∧ a % m < m := ⟨Int.emod_nonneg _ (by omega), Int.emod_lt_of_pos _ (by omega)⟩
theorem mul_range {a b M : Int} (ha0 : 0 ≤ a) (ha : a ≤ M) (hb0 : 0 ≤ b) (hb : b ≤ M) : 0 ≤ a * b ∧ a * b ≤ M * M := ⟨Int.mul_nonneg ha0 hb0, Int.mul_le_mul ha hb hb0 (by omega)⟩
def pv (l : List Int) (X : Int) : Int := lin (fun i => X ^ i) l
theorem lin_mulr (c : Int) : ∀ (l : List Int) (φ : Nat → Int), lin (fun i => φ i * c) l = lin φ l * c
 | [], _ => by simp [lin]
 | a :: l, φ => by rw [lin, lin, lin_mulr c l (fun i => φ (i + 1)), Int.add_mul, Int.mul_assoc]
theorem pv_cons (n : Int) (l : List Int) (X : Int) : pv (n :: l) X = n + pv l X * X := by
 unfold pv
 rw [lin]
 have e : (fun i => X ^ (i + 1)) = fun i => X ^ i * X := funext fun i => Int.pow_succ X i
 rw [e, lin_mulr, Int.pow_zero, Int.mul_one]
theorem pv_nil (X : Int) : pv [] X = 0 := rfl
theorem pv_cut (l : List Int) (X : Int) : pv (cutB l) X = pv l X := lin_cut _ _ _ rfl
theorem pow_plus (X : Int) (p : Nat) : ∀ j : Nat, X ^ (p + j) = X ^ j * X ^ p
 | 0 => by rw [Nat.add_zero, Int.pow_zero, Int.one_mul]
 | j + 1 => by rw [← Nat.add_assoc, Int.pow_succ, pow_plus X p j, Int.pow_succ, Int.mul_assoc, Int.mul_assoc, Int.mul_comm (X ^ p) X]
theorem pv_sum (a b : List Int) (ha : bnd 1000000000000 a) (hb : bnd 1000000000000 b) (hla : a.length ≤ 1000) (hlb : b.length ≤ 1000) (X : Int) : pv (sumP a b) X = pv a X + pv b X := sumP_lin a b ha hb hla hlb _
theorem pv_prod (a b : List Int) (ha : bnd 1000000 a) (hb : bnd 1000000 b) (hla : a.length ≤ 1000) (hlb : b.length ≤ 17) (X : Int) : pv (prodP a b) X = pv a X * pv b X := by
 unfold pv
 rw [prodP_lin a b ha hb hla hlb]
 have e : (fun p => lin (fun j => X ^ (p + j)) b) = fun p => X ^ p * lin (fun i => X ^ i) b := funext fun p => by
  have e1 : (fun j => X ^ (p + j)) = fun j => X ^ j * X ^ p := funext fun j => pow_plus X p j
  rw [e1, lin_mulr, Int.mul_comm]
 rw [e, lin_mulr]
theorem restV_mod {a m : Int} (h1 : 1 ≤ m) (h2 : m ≤ 1000000000000000) : restV a m = a % m := posmod (by omega) h2
theorem va_val {x m : Int} (hm1 : 1 ≤ m) (hm2 : m ≤ 1000000) : ∀ (l : List Int), bnd 1000000 l → vaAll l x m = pv l x % m
 | [], _ => by
  show (0 : Int) = _
  rw [pv_nil]; simp
 | n :: l, hb => by
  have ih := va_val (x := x) hm1 hm2 l (bnd_tail hb)
  have hn := bnd_head hb
  have e : vaAll (n :: l) x m = vaStep x m (vaAll l x m) n := rfl
  have r1 := m_range (m := m) (a := pv l x) hm1
  have r2 := m_range (m := m) (a := x) hm1
  have hp := mul_range (M := 1000000) r1.1 (by omega) r2.1 (by omega)
  rw [e, ih, pv_cons]
  unfold vaStep
  rw [restV_mod (a := x) hm1 (by omega), wid (x := pv l x % m * (x % m)) (by omega) (by omega), wid (x := pv l x % m * (x % m) + n) (by omega) (by omega), restV_mod hm1 (by omega), Int.add_comm n]
  exact c_add (c_mul (c_self _ _) (c_self _ _)) rfl
def runV (m : Int) : List S109 → List Int → List Int
 | [], V => V
 | o :: os, V => runV m os (V ++ [(if o.f0 = 1 then rd V o.f1 + rd V o.f2 else if o.f0 = 2 then rd V o.f1 * o.f2 else if o.f0 = 3 then rd V o.f1 * rd V o.f2 else o.f1) % m])
theorem runV_polys {x m : Int} (hm1 : 1 ≤ m) : ∀ (os : List S109) (P : List (List Int)) (V : List Int) (Q : List (List Int)), (∀ p ∈ P, polyB p = true) → 1 ≤ P.length → V = P.map (fun p => pv p x % m) → polysB os P = some Q → runV m os V = Q.map (fun p => pv p x % m)
 | [], P, V, Q, _, _, hV, h => by
  rw [polysB] at h
  rw [runV, hV, Option.some.inj h]
 | o :: os, P, V, Q, hP, h1, hV, h => by
  rw [polysB] at h
  by_cases hb : opB o ((P.length : Int) - 1) = true
  rotate_left
  ·rw [if_neg hb] at h; cases h
  rw [if_pos hb] at h
  by_cases hb2 : polyB (nextP o P) = true
  rotate_left
  ·rw [if_neg hb2] at h; cases h
  rw [if_pos hb2] at h
  rw [runV]
  refine runV_polys hm1 os (P ++ [nextP o P]) _ Q (fun p hp => ?_) (by rw [List.length_append]; omega) ?_ h
  ·rcases List.mem_append.1 hp with h3 | h3
   ·exact hP p h3
   ·rw [List.mem_singleton] at h3; rw [h3]; exact hb2
  ·rw [List.map_append, hV]
   congr 1
   have rdv : ∀ y : Int, 0 ≤ y → y < (P.length : Int) → rd (P.map (fun p => pv p x % m)) y = pv (rdLL P y) x % m ∧ polyB (rdLL P y) = true := by
    intro y y0 y1
    have hy : y.toNat < P.length := by omega
    unfold rd rdLL
    rw [List.getD_eq_getElem?_getD, List.getD_eq_getElem?_getD, List.getElem?_map, List.getElem?_eq_getElem hy]
    exact ⟨rfl, hP _ (List.getElem_mem hy)⟩
   simp only [List.map_cons, List.map_nil]
   congr 1
   unfold nextP
   rcases opB_vals hb with e | ⟨e, ha⟩ | ⟨e, ha, hb'⟩
   ·rw [if_pos e, if_neg (by omega), if_neg (by omega), if_neg (by omega), pv_cut, pv_cons, pv_nil]
    congr 1; omega
   ·obtain ⟨k1, k2⟩ := rdv o.f1 ha.1 (by omega)
    obtain ⟨b1, b2⟩ := polyB_bnd k2
    have hc : -1000000 ≤ o.f2 ∧ o.f2 ≤ 1000000 := by
     unfold opB at hb
     rw [if_neg (show ¬ o.f0 = 0 by omega), if_neg (show ¬ (o.f0 = 1 ∨ o.f0 = 3) by omega), if_pos e, Bool.and_eq_true] at hb
     have := hb.2
     unfold coefB at this
     simpa using this
    rw [if_neg (show ¬ o.f0 = 0 by omega), if_neg (show ¬ o.f0 = 1 by omega), if_pos e, if_neg (show ¬ o.f0 = 1 by omega), if_pos e, k1, pv_prod _ _ b1 (bnd_one hc) (by omega) (by simp), pv_cons, pv_nil]
    refine c_mul (c_self _ _) ?_
    congr 1; omega
   ·obtain ⟨k1, k2⟩ := rdv o.f1 ha.1 (by omega)
    obtain ⟨b1, b2⟩ := polyB_bnd k2
    obtain ⟨k3, k4⟩ := rdv o.f2 hb'.1 (by omega)
    obtain ⟨b3, b4⟩ := polyB_bnd k4
    rcases e with e | e
    ·rw [if_neg (show ¬ o.f0 = 0 by omega), if_pos e, if_pos e, k1, k3, pv_sum _ _ (bnd_mono b1 (by omega)) (bnd_mono b3 (by omega)) (by omega) (by omega)]
     exact c_add (c_self _ _) (c_self _ _)
    ·rw [if_neg (show ¬ o.f0 = 0 by omega), if_neg (show ¬ o.f0 = 1 by omega), if_neg (show ¬ o.f0 = 2 by omega), if_neg (show ¬ o.f0 = 1 by omega), if_neg (show ¬ o.f0 = 2 by omega), if_pos e, k1, k3, pv_prod _ _ b1 b3 (by omega) (by omega)]
     exact c_mul (c_self _ _) (c_self _ _)
def valB (m : Int) (V : List Int) : Prop := ∀ v ∈ V, 0 ≤ v ∧ v < m
theorem valB_rd {m : Int} {V : List Int} (h : valB m V) (hm : 1 ≤ m) (y : Int) : 0 ≤ rd V y ∧ rd V y < m := by
 unfold rd
 rw [List.getD_eq_getElem?_getD]
 by_cases hi : y.toNat < V.length
 ·rw [List.getElem?_eq_getElem hi]; exact h _ (List.getElem_mem hi)
 ·rw [List.getElem?_eq_none (by omega)]; simp only [Option.getD_none]; omega
theorem rcRest_mod {a m : Int} (h1 : 1 ≤ m) (h2 : m ≤ 1000000000000000) : rcRest a m = a % m := posmod (by omega) h2
theorem run_loop {m : Int} (hm1 : 1 ≤ m) (hm2 : m ≤ 1000000) : ∀ (os : List S109) (V : List Int) (P : List (List Int)), V.length = P.length → valB m V → (polysB os P).isSome = true → rcLoop m os V = some (runV m os V)
 | [], V, P, _, _, _ => rfl
 | o :: os, V, P, hV, hok, hs => by
  rw [polysB] at hs
  by_cases hb : opB o ((P.length : Int) - 1) = true
  rotate_left
  ·rw [if_neg hb] at hs; cases hs
  rw [if_pos hb] at hs
  by_cases hb2 : polyB (nextP o P) = true
  rotate_left
  ·rw [if_neg hb2] at hs; cases hs
  rw [if_pos hb2] at hs
  have hnext := fun v (hv : 0 ≤ v ∧ v < m) => run_loop hm1 hm2 os (V ++ [v]) (P ++ [nextP o P]) (by rw [List.length_append, List.length_append, hV]; rfl) (fun y hy => by
   rcases List.mem_append.1 hy with h3 | h3
   ·exact hok y h3
   ·rw [List.mem_singleton] at h3; rw [h3]; exact hv) hs
  have ra := valB_rd hok hm1 o.f1
  have rb := valB_rd hok hm1 o.f2
  rw [rcLoop, runV]
  unfold rcNum
  rcases opB_vals hb with e | ⟨e, ha⟩ | ⟨e, ha, hb'⟩
  ·rw [if_neg (show ¬ o.f0 = 1 by omega), if_neg (show ¬ o.f0 = 2 by omega), if_neg (show ¬ o.f0 = 3 by omega), if_neg (show ¬ o.f0 = 1 by omega), if_neg (show ¬ o.f0 = 2 by omega), if_neg (show ¬ o.f0 = 3 by omega), Option.bind_some, rcRest_mod hm1 (by omega)]
   exact hnext _ (m_range hm1)
  ·have hc : -1000000 ≤ o.f2 ∧ o.f2 ≤ 1000000 := by
    unfold opB at hb
    rw [if_neg (show ¬ o.f0 = 0 by omega), if_neg (show ¬ (o.f0 = 1 ∨ o.f0 = 3) by omega), if_pos e, Bool.and_eq_true] at hb
    have := hb.2
    unfold coefB at this
    simpa using this
   have hp := mul_bound (a := rd V o.f1) (by omega) hc
   rw [if_neg (show ¬ o.f0 = 1 by omega), if_pos e, if_pos (by omega), if_neg (show ¬ o.f0 = 1 by omega), if_pos e, Option.bind_some, wid (x := rd V o.f1 * o.f2) (by omega) (by omega), rcRest_mod hm1 (by omega)]
   exact hnext _ (m_range hm1)
  ·rcases e with e | e
   ·rw [if_pos e, if_pos (by omega), if_pos e, Option.bind_some, wid (x := rd V o.f1 + rd V o.f2) (by omega) (by omega), rcRest_mod hm1 (by omega)]
    exact hnext _ (m_range hm1)
   ·have hp := mul_range (M := 1000000) ra.1 (by omega) rb.1 (by omega)
    rw [if_neg (show ¬ o.f0 = 1 by omega), if_neg (show ¬ o.f0 = 2 by omega), if_pos e, if_pos (by omega), if_neg (show ¬ o.f0 = 1 by omega), if_neg (show ¬ o.f0 = 2 by omega), if_pos e, Option.bind_some, wid (x := rd V o.f1 * rd V o.f2) (by omega) (by omega), rcRest_mod hm1 (by omega)]
    exact hnext _ (m_range hm1)
theorem runV_len (m : Int) : ∀ (os : List S109) (V : List Int), (runV m os V).length = V.length + os.length
 | [], V => rfl
 | o :: os, V => by rw [runV, runV_len m os, List.length_append, List.length_singleton, List.length_cons]; omega
def xmB (x m : Int) : Bool := coefB x && inB m 1 1000000
theorem start_polyB : ∀ p ∈ ([[0, 1]] : List (List Int)), polyB p = true := by intro p hp; rw [List.mem_singleton] at hp; subst hp; rfl
theorem pv_x (x : Int) : pv [0, 1] x = x := by rw [pv_cons, pv_cons, pv_nil]; omega
theorem modOk_val (m : Int) : impl_polyModulusOk.f m = some (inB m 1 1000000) := by simp only [impl_polyModulusOk.f, iIn_val, Option.bind_some]
theorem runCode_val {os : List S109} {out x m : Int} (hc : codeB os out = true) : Ev (fun q => impl_RunCode.f q os out x m) (if xmB x m = true then (rd (runV m os [x % m]) out, true) else (0, false)) := by
 obtain ⟨h1, h2, h3⟩ := codeB_parts hc
 have hi := implCode os out
 rw [hc] at hi
 simp only [impl_RunCode.f]
 refine Ev.bind hi ?_
 simp only [if_true, iCoef_val, Option.bind_some, modOk_val]
 unfold xmB
 cases hx : coefB x with
 | false =>
  simp only [Bool.false_eq_true, if_false, Bool.false_and]
  exact Ev.now _
 | true =>
  simp only [if_true, Bool.true_and]
  cases hm : inB m 1 1000000 with
  | false =>
   simp only [Bool.false_eq_true, if_false]
   exact Ev.now _
  | true =>
   obtain ⟨m1, m2⟩ := inB_iff.1 hm
   have hV : ∀ v ∈ [x % m], 0 ≤ v ∧ v < m := fun v hv => by rw [List.mem_singleton] at hv; rw [hv]; exact m_range m1
   have hl := run_loop m1 m2 os [x % m] [[0, 1]] rfl hV h3
   have hn := runV_len m os [x % m]
   rw [List.length_singleton] at hn
   simp only [if_true, if_pos (show m ≠ 0 ∧ os.length ≤ 1000 by omega), rcRest_mod (a := x) m1 (show m ≤ 1000000000000000 by omega), hl, Option.bind_some, if_pos (show 0 ≤ out ∧ out < ((runV m os [x % m]).length : Int) by omega)]
   exact Ev.now _
theorem run_poly {os : List S109} {out x m : Int} {Q : List (List Int)} (hQ : polysB os [[0, 1]] = some Q) (hm : 1 ≤ m) (h0 : 0 ≤ out) (h1 : out < (Q.length : Int)) : rd (runV m os [x % m]) out = pv (rdLL Q out) x % m := by
 have := runV_polys (x := x) hm os [[0, 1]] [x % m] Q start_polyB (by simp) (by simp [pv_x]) hQ
 rw [this]
 have hy : out.toNat < Q.length := by omega
 unfold rd rdLL
 rw [List.getD_eq_getElem?_getD, List.getD_eq_getElem?_getD, List.getElem?_map, List.getElem?_eq_getElem hy]
 rfl
theorem polyOf_val {os : List S109} {P : List (List Int)} {q : List Int} {i : Nat} (hm : Made os P) (hl : os.length ≤ 120) (hi : P[i]? = some q) (hq : q.length ≤ 17) : Ev (fun k => impl_PolynomialOf.f k os (i : Int)) (q, true) := by
 have h1 := some_lt hi
 have h2 := hm.2
 simp only [impl_PolynomialOf.f, polysF, if_neg (show ¬ os.length > 120 by omega), if_pos (show (0 : Int) ≤ (i : Int) ∧ (i : Int) ≤ (os.length : Int) by omega)]
 have := pcLoop_val os [[0, 1]] start_small (by simp; omega)
 refine Ev.bind this ?_
 rw [hm.1]
 simp only [resB, if_true, rdLL_some hi, if_pos (show ((0 : Int) ≤ (i : Int) ∧ (i : Int) < (P.length : Int)) ∧ q.length ≤ 1000 by omega)]
 exact Ev.now _
theorem told_made {os : List S109} {P : List (List Int)} {q : List Int} {i : Nat} (hm : Made os P) (hl : os.length ≤ 120) (hi : P[i]? = some q) : codeB os (i : Int) = true ∧ Ev (fun k => impl_toldCode.f k os (i : Int)) (os, (i : Int), true) := by
 have h1 := some_lt hi
 have h2 := hm.2
 have hc := codeB_made hm hl (out := (i : Int)) (by omega) (by omega)
 refine ⟨hc, ?_⟩
 have := told_val os (i : Int)
 unfold ifV at this
 rw [if_pos hc] at this
 exact this
theorem run_made {os : List S109} {P : List (List Int)} {q : List Int} {i : Nat} (hm : Made os P) (hl : os.length ≤ 120) (hi : P[i]? = some q) (x m : Int) : Ev (fun k => impl_RunCode.f k os (i : Int) x m) (if xmB x m = true then (pv q x % m, true) else (0, false)) := by
 obtain ⟨hc, _⟩ := told_made hm hl hi
 have h := runCode_val (x := x) (m := m) hc
 by_cases hx : xmB x m = true
 ·have hm1 : 1 ≤ m := by
   unfold xmB at hx
   rw [Bool.and_eq_true] at hx
   exact (inB_iff.1 hx.2).1
  have h1 := some_lt hi
  rw [if_pos hx, run_poly hm.1 hm1 (by omega) (by omega), rdLL_some hi] at h
  rw [if_pos hx]
  exact h
 ·rw [if_neg hx] at h
  rw [if_neg hx]
  exact h
theorem valueAt_val {l : List Int} (h : coefsB l = true) (hp : polyB l = true) (x m : Int) : impl_ValueAt.f l x m = some (if xmB x m = true then (pv (cutB l) x % m, true) else (0, false)) := by
 obtain ⟨hb, hl⟩ := polyB_bnd hp
 unfold impl_ValueAt.f
 rw [implCoefs, h]
 simp only [Option.bind_some, if_true, iCoef_val, modOk_val]
 unfold xmB
 cases hx : coefB x with
 | false => simp
 | true =>
  cases hm : inB m 1 1000000 with
  | false => simp
  | true =>
   obtain ⟨m1, m2⟩ := inB_iff.1 hm
   simp only [if_true, Bool.and_self, if_pos (show m ≠ 0 ∧ l.length ≤ 1000 by omega), va_val m1 m2 l hb, pv_cut]
theorem gSpec (l : List Int) (a : Int) (hl : l.length ≤ 2000000) : Ev (fun k => spec_GiantCode.f k l a) (gV l a) := by
 simp only [spec_GiantCode.f, specK, Option.bind_some]
 refine Ev.bind (specCoefs l hl) ?_
 unfold gV
 by_cases h : coefsB l = true ∧ kB a = true
 ·simp only [if_pos h]
  obtain ⟨⟨h1, h2⟩, h3, h4⟩ := gc_range h
  obtain ⟨kk, rfl⟩ : ∃ kk : Nat, a = (kk : Int) := ⟨a.toNat, by omega⟩
  rw [Int.toNat_natCast]
  refine Ev.bind (giant_val l kk h1 h2 (by omega) (by omega)).1 ?_
  exact poIf_val _ _
 ·simp only [if_neg h]; exact Ev.now _
theorem cut_rd (l : List Int) (i : Nat) : rd (cutB l) (i : Int) = rd l (i : Int) := by
 rw [← lin_dl, ← lin_dl, lin_cut _ _ _ rfl]
theorem coefsB_parts {C : List Int} (h : coefsB C = true) : polyB C = true ∧ 1 ≤ C.length ∧ C.length ≤ 17 := by
 unfold coefsB at h
 rw [Bool.and_eq_true, decide_eq_true_eq] at h
 exact ⟨h.2, h.1, polyB_len h.2⟩
structure Makes (C : List Int) (os : List S109) (i : Nat) : Prop where
 len : os.length ≤ 120
 made : ∃ P, Made os P ∧ P[i]? = some (cutB C)
theorem hornerM {C : List Int} (h : coefsB C = true) : Makes C (hcAll C).1 (hcAll C).1.length ∧ Ev (fun q => impl_HornerCode.f q C) ((hcAll C).1, ((hcAll C).1.length : Int), true) := by
 obtain ⟨hp, h1, h2⟩ := coefsB_parts h
 obtain ⟨P, hm, he, hi, hl⟩ := horner_made h1 hp
 refine ⟨⟨by omega, P, hm, hi⟩, ?_⟩
 simp only [impl_HornerCode.f, implCoefs, h, Option.bind_some, if_true, he]
 exact (told_made hm (by omega) hi).2
theorem powersM {C : List Int} (h : coefsB C = true) : Makes C (pcGroup C).1 (pcGroup C).1.length ∧ Ev (fun q => impl_PowersCode.f q C) ((pcGroup C).1, ((pcGroup C).1.length : Int), true) := by
 obtain ⟨hp, h1, h2⟩ := coefsB_parts h
 obtain ⟨P, hm, he, hi, hl⟩ := powers_code hp h1
 refine ⟨⟨by omega, P, hm, hi⟩, ?_⟩
 simp only [impl_PowersCode.f, implCoefs, h, Option.bind_some, if_true, he]
 exact (told_made hm (by omega) hi).2
theorem estrinM {C : List Int} (h : coefsB C = true) : ∃ i, Makes C (esCode C).1 i ∧ Ev (fun q => impl_EstrinCode.f q C) ((esCode C).1, (i : Int), true) := by
 obtain ⟨hp, h1, h2⟩ := coefsB_parts h
 obtain ⟨P, i, hm, he, hi, hl⟩ := estrin_made hp h1
 refine ⟨i, ⟨hl, P, hm, hi⟩, ?_⟩
 simp only [impl_EstrinCode.f, implCoefs, h, Option.bind_some, if_true, he]
 exact (told_made hm hl hi).2
theorem giantM {C : List Int} {a : Int} (h : coefsB C = true) (hk : kB a = true) : Makes C (gcOps C a.toNat) (gcOps C a.toNat).length ∧ gV C a = (gcOps C a.toNat, ((gcOps C a.toNat).length : Int), true) := by
 obtain ⟨⟨h1, h2⟩, h3, h4⟩ := gc_range ⟨h, hk⟩
 obtain ⟨kk, rfl⟩ : ∃ kk : Nat, a = (kk : Int) := ⟨a.toNat, by omega⟩
 rw [Int.toNat_natCast]
 obtain ⟨P, hm, hi⟩ := giant_made (kk := kk) (coefsB_parts h).1 h1 (by omega)
 have hl := giant_len (kk := kk) h1 h2 (by omega)
 refine ⟨⟨hl, P, hm, hi⟩, ?_⟩
 unfold gV
 rw [if_pos ⟨h, hk⟩, Int.toNat_natCast, ifV_made hm hl]
theorem sameInts_loop (l : List Int) (hl : l.length ≤ 1000000) : ∀ (d i : Nat), i + d = l.length → Ev (fun k => laws_pSameInts.l0 k l l (l.length : Int) i) true := by
 intro d
 induction d with
 | zero =>
  intro i h
  refine up ?_
  simp only [laws_pSameInts.l0, if_neg (show ¬ (i : Int) < (l.length : Int) by omega)]
  exact Ev.now _
 | succ d ih =>
  intro i h
  refine up ?_
  simp only [laws_pSameInts.l0, if_pos (show (i : Int) < (l.length : Int) by omega), if_pos (show (0 : Int) ≤ (i : Int) by omega), wid (x := (i : Int) + 1) (by omega) (by omega), if_true]
  exact ih (i + 1) (by omega)
theorem sameInts (l : List Int) (hl : l.length ≤ 1000000) : Ev (fun k => laws_pSameInts.f k l l) true := by
 simp only [laws_pSameInts.f, if_true]
 exact sameInts_loop l hl l.length 0 (by omega)
theorem sameCode_loop (T : List S109) (o : Int) (hl : T.length ≤ 1000000) : ∀ (d i : Nat), i + d = T.length → Ev (fun k => laws_pSameCode.l0 k (T.length : Int) i T o T o) true := by
 intro d
 induction d with
 | zero =>
  intro i h
  refine up ?_
  simp only [laws_pSameCode.l0, if_neg (show ¬ (i : Int) < (T.length : Int) by omega)]
  exact Ev.now _
 | succ d ih =>
  intro i h
  refine up ?_
  simp only [laws_pSameCode.l0, if_pos (show (i : Int) < (T.length : Int) by omega), if_pos (show (0 : Int) ≤ (i : Int) by omega), wid (x := (i : Int) + 1) (by omega) (by omega), beq_self_eq_true, Bool.not_true, Bool.or_self, Bool.false_eq_true, if_false]
  exact ih (i + 1) (by omega)
theorem sameCode (T : List S109) (o : Int) (hl : T.length ≤ 1000000) : Ev (fun k => laws_pSameCode.f k T o T o) true := by
 simp only [laws_pSameCode.f, if_true, bne_self_eq_false]
 refine up ?_
 simp only [laws_pSameCode.j0, Bool.false_eq_true, if_false]
 exact sameCode_loop T o hl T.length 0 (by omega)
theorem equal_loop (l : List Int) (hl : l.length ≤ 1000000) : ∀ (d i : Nat), i + d = l.length → Ev (fun k => slices_Equal_int_int.l0 k l l (l.length : Int) i) true := by
 intro d
 induction d with
 | zero =>
  intro i h
  refine up ?_
  simp only [slices_Equal_int_int.l0, if_neg (show ¬ (i : Int) < (l.length : Int) by omega)]
  exact Ev.now _
 | succ d ih =>
  intro i h
  refine up ?_
  simp only [slices_Equal_int_int.l0, if_pos (show (i : Int) < (l.length : Int) by omega), if_pos (show (0 : Int) ≤ (i : Int) by omega), wid (x := (i : Int) + 1) (by omega) (by omega), if_true]
  exact ih (i + 1) (by omega)
theorem equal_same (l : List Int) (hl : l.length ≤ 1000000) : Ev (fun k => slices_Equal_int_int.f k l l) true := by
 simp only [slices_Equal_int_int.f, if_true]
 exact equal_loop l hl l.length 0 (by omega)
theorem wf_byte {x : Int} (h : (Lit.int .u8 x).wf = true) : 0 ≤ x ∧ x ≤ 255 := by
 simp only [Lit.wf, Bool.and_eq_true, decide_eq_true_eq] at h
 exact h
theorem rd_byte {l : List Int} (hl : ∀ x ∈ l, (Lit.int .u8 x).wf = true) (i : Int) (h0 : 0 ≤ i) (h1 : i < l.length) : 0 ≤ rd l i ∧ rd l i ≤ 255 := by
 unfold rd
 have hi : i.toNat < l.length := by omega
 rw [List.getD_eq_getElem?_getD, List.getElem?_eq_getElem hi]
 exact wf_byte (hl _ (List.getElem_mem hi))
theorem wrapU_range (n : Int) : 0 ≤ IntKind.u64.wrap n ∧ IntKind.u64.wrap n < 18446744073709551616 := by
 simp only [IntKind.wrap, IntKind.bits, IntKind.signed, Bool.false_eq_true, false_and, if_false]
 simp
 omega
theorem and255 (x : Int) : 0 ≤ Go.bits .and .u64 (IntKind.u64.wrap x / 1099511627776) 255 ∧ Go.bits .and .u64 (IntKind.u64.wrap x / 1099511627776) 255 ≤ 255 := by
 have h := wrapU_range x
 have hw : ∀ n : Int, 0 ≤ n → n < 2 ^ 40 → IntKind.u64.wrap n = n := by
  intro n h0 h1
  have e : (2 : Int) ^ 40 = 1099511627776 := by decide
  simp only [IntKind.wrap, IntKind.bits, IntKind.signed, Bool.false_eq_true, false_and, if_false]
  simp
  omega
 have e : (2 : Int) ^ 40 = 1099511627776 := by decide
 have hb : Go.bits .and .u64 (IntKind.u64.wrap x / 1099511627776) ((2 : Int) ^ 8 - 1) = (IntKind.u64.wrap x / 1099511627776) % 2 ^ 8 := bits_mask .u64 40 (by decide) hw 8 (by decide) _ (by omega) (by omega)
 have e1 : (2 : Int) ^ 8 - 1 = 255 := by decide
 have e2 : (2 : Int) ^ 8 = 256 := by decide
 rw [e1, e2] at hb
 rw [hb]; omega
theorem next_ok {l : List Int} (hl : ∀ x ∈ l, (Lit.int .u8 x).wf = true) (p s : Int) (h0 : 0 ≤ p) (h1 : p ≤ 1000000000000) : ∃ v s', spec_l1Cur_next.f l p s = some (v, p + 1, s') ∧ 0 ≤ v ∧ v ≤ 255 := by
 unfold spec_l1Cur_next.f
 rw [wid (x := p + 1) (by omega) (by omega)]
 by_cases hlt : p < (l.length : Int)
 ·have hb := rd_byte hl p h0 hlt
  rw [if_pos hlt, if_pos h0, if_pos (show p + 1 ≤ (l.length : Int) by omega), wid (x := rd l p) (by omega) (by omega)]
  exact ⟨_, _, rfl, by omega, by omega⟩
 ·rw [if_neg hlt]
  by_cases hle : p + 1 ≤ (l.length : Int)
  ·omega
  ·rw [if_neg hle]
   have := and255 (IntKind.u64.wrap (IntKind.u64.wrap (s * 6364136223846793005)) + 1442695040888963407)
   rw [wid (by omega) (by omega)]
   exact ⟨_, _, rfl, this.1, this.2⟩
theorem pick_ok {l : List Int} (hl : ∀ x ∈ l, (Lit.int .u8 x).wf = true) (p s n : Int) (h0 : 0 ≤ p) (h1 : p ≤ 100000000000) : ∃ v p' s', spec_l1Cur_pick.f l p s n = some (v, p', s') ∧ 0 ≤ v ∧ (1 ≤ n → v < n) ∧ p ≤ p' ∧ p' ≤ p + 2 := by
 unfold spec_l1Cur_pick.f
 by_cases hn : n ≤ 1
 ·rw [if_pos hn]; exact ⟨0, p, s, rfl, by omega, by omega, by omega, by omega⟩
 ·rw [if_neg hn]
  obtain ⟨v, s1, e1, hv0, hv1⟩ := next_ok hl p s h0 (by omega)
  rw [e1]; simp only [Option.bind_some]
  by_cases hb : n > 200
  ·obtain ⟨u, s2, e2, hu0, hu1⟩ := next_ok hl (p + 1) s1 (by omega) (by omega)
   rw [if_pos hb, e2]; simp only [Option.bind_some]
   rw [if_neg (by omega), wid (x := v * 256) (by omega) (by omega), wid (x := v * 256 + u) (by omega) (by omega), Int.tmod_eq_emod_of_nonneg (by omega)]
   have r1 := Int.emod_nonneg (v * 256 + u) (show n ≠ 0 by omega)
   have r2 := Int.emod_lt_of_pos (v * 256 + u) (show 0 < n by omega)
   exact ⟨_, _, _, rfl, r1, fun _ => r2, by omega, by omega⟩
  ·rw [if_neg hb, if_neg (by omega), Int.tmod_eq_emod_of_nonneg (by omega)]
   have r1 := Int.emod_nonneg v (show n ≠ 0 by omega)
   have r2 := Int.emod_lt_of_pos v (show 0 < n by omega)
   exact ⟨_, _, _, rfl, r1, fun _ => r2, by omega, by omega⟩
theorem among_ok {l : List Int} (hl : ∀ x ∈ l, (Lit.int .u8 x).wf = true) (p s : Int) (h0 : 0 ≤ p) (h1 : p ≤ 100000000000) (t : List Int) (ht : 1 ≤ t.length) : ∃ v p' s', spec_l1Cur_among.f l p s t = some (v, p', s') ∧ v ∈ t ∧ p ≤ p' ∧ p' ≤ p + 2 := by
 obtain ⟨v, p', s', e, v0, v1, a, b⟩ := pick_ok hl p s t.length h0 h1
 have hv := v1 (by omega)
 refine ⟨rd t v, p', s', by simp only [spec_l1Cur_among.f, e, Option.bind_some, if_pos v0, if_pos hv], ?_, a, b⟩
 unfold rd
 have hi : v.toNat < t.length := by omega
 rw [List.getD_eq_getElem?_getD, List.getElem?_eq_getElem hi]
 exact List.getElem_mem hi
theorem one_ok {l : List Int} (hl : ∀ x ∈ l, (Lit.int .u8 x).wf = true) (p s n : Int) (h0 : 0 ≤ p) (h1 : p ≤ 100000000000) : ∃ v p' s', spec_l1Cur_one.f l p s n = some (v, p', s') ∧ p ≤ p' ∧ p' ≤ p + 2 := by
 obtain ⟨v, p', s', e, _, _, a, b⟩ := pick_ok hl p s n h0 h1
 exact ⟨(v == 0), p', s', by simp only [spec_l1Cur_one.f, e, Option.bind_some], a, b⟩
theorem group_ok {l : List Int} (hl : ∀ x ∈ l, (Lit.int .u8 x).wf = true) (p s : Int) (h0 : 0 ≤ p) (h1 : p ≤ 10000000000) : ∃ v p' s', spec_l1Cur_group.f l p s = some (v, p', s') ∧ p ≤ p' ∧ p' ≤ p + 4 := by
 unfold spec_l1Cur_group.f
 obtain ⟨v, p1, s1, e, a, b⟩ := one_ok hl p s 8 h0 (by omega)
 rw [e]; simp only [Option.bind_some]
 by_cases c0 : v = true
 ·obtain ⟨u, p2, s2, e2, _, a2, b2⟩ := among_ok hl p1 s1 (by omega) (by omega) [(-1), 0, 17, 18] (by simp)
  rw [if_pos c0, e2]; exact ⟨_, p2, s2, rfl, by omega, by omega⟩
 ·obtain ⟨u, p2, s2, e2, _, _, a2, b2⟩ := pick_ok hl p1 s1 6 (by omega) (by omega)
  rw [if_neg c0, e2]; exact ⟨_, p2, s2, rfl, by omega, by omega⟩
theorem coefs_l1 {l : List Int} (hl : ∀ x ∈ l, (Lit.int .u8 x).wf = true) : ∀ (n : Nat) (C : List Int) (p s : Int), C.length + n = 18 → 0 ≤ p → p + 10 * n ≤ 1000000000 → ∃ C' p' s', Ev (fun k => spec_l1Cur_coefs.l1 k C l p s) (C', p', s') ∧ C'.length ≤ 18 ∧ p ≤ p' ∧ p' ≤ p + 10 * n + 10 := by
 intro n
 induction n with
 | zero =>
  intro C p s hC h0 h1
  obtain ⟨v, p1, s1, e1, v0, v1, a, b⟩ := pick_ok hl p s 2 h0 (by omega)
  have := v1 (by omega)
  refine ⟨C, p1, s1, up ?_, by omega, a, by omega⟩
  simp only [spec_l1Cur_coefs.l1, e1, Option.bind_some, wid (x := 17 + v) (by omega) (by omega), if_neg (show ¬ (C.length : Int) < 17 + v by omega)]
  exact Ev.now _
 | succ n ih =>
  intro C p s hC h0 h1
  obtain ⟨v, p1, s1, e1, v0, v1, a, b⟩ := pick_ok hl p s 2 h0 (by omega)
  have := v1 (by omega)
  by_cases hlt : (C.length : Int) < 17 + v
  ·obtain ⟨u, p2, s2, e2, u0, u1, a2, b2⟩ := pick_ok hl p1 s1 3 (by omega) (by omega)
   obtain ⟨C', p', s', h2, h3, h4, h5⟩ := ih (C ++ [u]) p2 s2 (by rw [List.length_append, List.length_singleton]; omega) (by omega) (by omega)
   refine ⟨C', p', s', up ?_, h3, by omega, by omega⟩
   simp only [spec_l1Cur_coefs.l1, e1, e2, Option.bind_some, wid (x := 17 + v) (by omega) (by omega), if_pos hlt, if_pos (show C.length < 17592186044416 by omega)]
   exact h2
  ·refine ⟨C, p1, s1, up ?_, by omega, a, by omega⟩
   simp only [spec_l1Cur_coefs.l1, e1, Option.bind_some, wid (x := 17 + v) (by omega) (by omega), if_neg hlt]
   exact Ev.now _
theorem coefs_l0 {l : List Int} (hl : ∀ x ∈ l, (Lit.int .u8 x).wf = true) : ∀ (n : Nat) (C : List Int) (p s : Int), 1 ≤ C.length + n → C.length + n ≤ 7 → 0 ≤ p → p + 10 * n ≤ 100000000 → ∃ C' p' s', Ev (fun k => spec_l1Cur_coefs.l0 k C (n : Int) l p s) (C', p', s') ∧ C'.length ≤ 18 ∧ p ≤ p' ∧ p' ≤ p + 10 * n + 400 := by
 intro n
 induction n with
 | zero =>
  intro C p s hC hC7 h0 h1
  obtain ⟨v, p1, s1, e1, v0, v1, a, b⟩ := pick_ok hl p s 12 h0 (by omega)
  by_cases c0 : v = 0
  ·obtain ⟨u, p2, s2, e2, _, a2, b2⟩ := among_ok hl p1 s1 (by omega) (by omega) [(-1000000), 1000000, (-1000001), 1000001] (by simp)
   refine ⟨C ++ [u], p2, s2, up ?_, by rw [List.length_append, List.length_singleton]; omega, by omega, by omega⟩
   simp only [spec_l1Cur_coefs.l0, if_neg (show ¬ ((0 : Nat) : Int) > 0 by omega), e1, Option.bind_some, if_pos c0, e2, if_pos (show C.length < 17592186044416 by omega)]
   exact Ev.now _
  ·by_cases c1 : v = 1
   ·obtain ⟨C', p', s', h2, h3, h4, h5⟩ := coefs_l1 hl (18 - C.length) C p1 s1 (by omega) (by omega) (by omega)
    refine ⟨C', p', s', up ?_, h3, by omega, by omega⟩
    simp only [spec_l1Cur_coefs.l0, if_neg (show ¬ ((0 : Nat) : Int) > 0 by omega), e1, Option.bind_some, if_neg c0, if_pos c1]
    exact h2
   ·by_cases c2 : v = 2
    ·refine ⟨[], p1, s1, up ?_, by simp, a, by omega⟩
     simp only [spec_l1Cur_coefs.l0, if_neg (show ¬ ((0 : Nat) : Int) > 0 by omega), e1, Option.bind_some, if_neg c0, if_neg c1, if_pos c2]
     exact Ev.now _
    ·by_cases c3 : v = 3
     ·obtain ⟨u, p2, s2, e2, u0, u1, a2, b2⟩ := pick_ok hl p1 s1 (C.length : Int) (by omega) (by omega)
      obtain ⟨y, p3, s3, e3, _, _, a3, b3⟩ := pick_ok hl p2 s2 2000000 (by omega) (by omega)
      refine ⟨C.set u.toNat (wrap64 (y - 1000000)), p3, s3, up ?_, by rw [List.length_set]; omega, by omega, by omega⟩
      simp only [spec_l1Cur_coefs.l0, if_neg (show ¬ ((0 : Nat) : Int) > 0 by omega), e1, Option.bind_some, if_neg c0, if_neg c1, if_neg c2, if_pos c3, e2, e3, if_pos u0, if_pos (u1 (by omega))]
      exact Ev.now _
     ·refine ⟨C, p1, s1, up ?_, by omega, a, by omega⟩
      simp only [spec_l1Cur_coefs.l0, if_neg (show ¬ ((0 : Nat) : Int) > 0 by omega), e1, Option.bind_some, if_neg c0, if_neg c1, if_neg c2, if_neg c3]
      exact Ev.now _
 | succ n ih =>
  intro C p s hC hC7 h0 h1
  obtain ⟨v, p1, s1, e1, v0, v1, a, b⟩ := pick_ok hl p s 7 h0 (by omega)
  obtain ⟨C', p', s', h2, h3, h4, h5⟩ := ih (C ++ [wrap64 (v - 3)]) p1 s1 (by rw [List.length_append, List.length_singleton]; omega) (by rw [List.length_append, List.length_singleton]; omega) (by omega) (by omega)
  refine ⟨C', p', s', up ?_, h3, by omega, by omega⟩
  simp only [spec_l1Cur_coefs.l0, if_pos (show ((n + 1 : Nat) : Int) > 0 by omega), e1, Option.bind_some, if_pos (show C.length < 17592186044416 by omega), show ((n + 1 : Nat) : Int) - 1 = (n : Int) by omega, wid (x := (n : Int)) (by omega) (by omega)]
  exact h2
theorem coefs_ok {l : List Int} (hl : ∀ x ∈ l, (Lit.int .u8 x).wf = true) (p s : Int) (h0 : 0 ≤ p) (h1 : p ≤ 10000000) : ∃ C p' s', Ev (fun k => spec_l1Cur_coefs.f k l p s) (C, p', s') ∧ C.length ≤ 18 ∧ p ≤ p' ∧ p' ≤ p + 1000 := by
 obtain ⟨v, p1, s1, e1, v0, v1, a, b⟩ := pick_ok hl p s 7 h0 (by omega)
 have := v1 (by omega)
 obtain ⟨n, hn⟩ : ∃ n : Nat, 1 + v = (n : Int) := ⟨(1 + v).toNat, by omega⟩
 obtain ⟨C', p', s', h2, h3, h4, h5⟩ := coefs_l0 hl n [] p1 s1 (by simp; omega) (by simp; omega) (by omega) (by omega)
 refine ⟨C', p', s', ?_, h3, by omega, by omega⟩
 simp only [spec_l1Cur_coefs.f, e1, Option.bind_some, hn, wid (x := (n : Int)) (by omega) (by omega)]
 exact h2
theorem argument_ok {l : List Int} (hl : ∀ x ∈ l, (Lit.int .u8 x).wf = true) (p s : Int) (h0 : 0 ≤ p) (h1 : p ≤ 10000000000) : ∃ v p' s', spec_l1Cur_argument.f l p s = some (v, p', s') ∧ p ≤ p' ∧ p' ≤ p + 4 := by
 unfold spec_l1Cur_argument.f
 obtain ⟨v, p1, s1, e, a, b⟩ := one_ok hl p s 6 h0 (by omega)
 rw [e]; simp only [Option.bind_some]
 by_cases c0 : v = true
 ·obtain ⟨u, p2, s2, e2, _, a2, b2⟩ := among_ok hl p1 s1 (by omega) (by omega) [(-1000001), (-1000000), 1000000, 1000001] (by simp)
  rw [if_pos c0, e2]; exact ⟨_, p2, s2, rfl, by omega, by omega⟩
 ·obtain ⟨u, p2, s2, e2, _, _, a2, b2⟩ := pick_ok hl p1 s1 60 (by omega) (by omega)
  rw [if_neg c0, e2]; exact ⟨_, p2, s2, rfl, by omega, by omega⟩
theorem polyModulus_ok {l : List Int} (hl : ∀ x ∈ l, (Lit.int .u8 x).wf = true) (p s : Int) (h0 : 0 ≤ p) (h1 : p ≤ 10000000000) : ∃ v p' s', spec_l1Cur_modulus.f l p s = some (v, p', s') ∧ p ≤ p' ∧ p' ≤ p + 4 := by
 unfold spec_l1Cur_modulus.f
 obtain ⟨v, p1, s1, e, a, b⟩ := one_ok hl p s 6 h0 (by omega)
 rw [e]; simp only [Option.bind_some]
 by_cases c0 : v = true
 ·obtain ⟨u, p2, s2, e2, _, a2, b2⟩ := among_ok hl p1 s1 (by omega) (by omega) [(-1), 0, 1, 1000000, 1000001] (by simp)
  rw [if_pos c0, e2]; exact ⟨_, p2, s2, rfl, by omega, by omega⟩
 ·obtain ⟨u, p2, s2, e2, _, _, a2, b2⟩ := pick_ok hl p1 s1 1000 (by omega) (by omega)
  rw [if_neg c0, e2]; exact ⟨_, p2, s2, rfl, by omega, by omega⟩
theorem specHorner_loop (C : List Int) (hl : C.length ≤ 17) : ∀ (n : Nat) (os : List S109) (v : Int), n < C.length → os.length + 3 * n ≤ 1000 → Ev (fun q => spec_HornerCode.l0 q C v ((n : Int) - 1) os 0) (ifV ((C.take n).reverse.foldl hcStep (os, v)).1 ((C.take n).reverse.foldl hcStep (os, v)).2)
 | 0, os, v, _, _ => by
  refine up ?_
  simp only [spec_HornerCode.l0, if_neg (show ¬ ((0 : Nat) : Int) - 1 ≥ 0 by omega), List.take_zero, List.reverse_nil, List.foldl_nil]
  exact Ev.bind (poIf_val os v) (Ev.now _)
 | n + 1, os, v, hn, ho => by
  have e : ((n + 1 : Nat) : Int) - 1 = (n : Int) := by omega
  have hs : ∀ (a : List S109) (b c d : Int), a.length ≤ 1000000 → spec_poAdd.f a 0 b c d = some (a ++ [⟨b, c, d⟩], 0, (a.length : Int) + 1) := fun a b c d h => poAdd_val a 0 b c d h
  refine up ?_
  simp only [spec_HornerCode.l0, e, if_pos (show (n : Int) ≥ 0 by omega), if_pos (show (0 : Int) ≤ (n : Int) by omega), if_pos (show (n : Int) < (C.length : Int) by omega)]
  rw [hs os 3 v 0 (by omega)]
  simp only [Option.bind_some]
  rw [hs _ 0 (rd C (n : Int)) 0 (by rw [List.length_append, List.length_singleton]; omega)]
  simp only [Option.bind_some]
  rw [hs _ 1 _ _ (by rw [List.length_append, List.length_append, List.length_singleton, List.length_singleton]; omega)]
  simp only [Option.bind_some, wid (x := (n : Int) - 1) (by omega) (by omega)]
  have ih := specHorner_loop C hl n (os ++ [⟨3, v, 0⟩] ++ [⟨0, rd C (n : Int), 0⟩] ++ [⟨1, (os.length : Int) + 1, (os.length : Int) + 2⟩]) ((os.length : Int) + 3) (by omega) (by simp only [List.length_append, List.length_singleton]; omega)
  rw [List.take_succ_eq_append_getElem (by omega), List.reverse_append, List.reverse_singleton, List.singleton_append, List.foldl_cons]
  have es : hcStep (os, v) C[n] = (os ++ [⟨3, v, 0⟩] ++ [⟨0, rd C (n : Int), 0⟩] ++ [⟨1, (os.length : Int) + 1, (os.length : Int) + 2⟩], (os.length : Int) + 3) := by rw [rd_at (by omega)]; rfl
  rw [es]
  have l1 : ((os ++ [(⟨3, v, 0⟩ : S109)]).length : Int) + 1 = (os.length : Int) + 2 := by rw [List.length_append, List.length_singleton]; omega
  have l2 : ((os ++ [(⟨3, v, 0⟩ : S109)] ++ [(⟨0, rd C (n : Int), 0⟩ : S109)]).length : Int) + 1 = (os.length : Int) + 3 := by rw [List.length_append, List.length_append, List.length_singleton, List.length_singleton]; omega
  rw [l1, l2]
  exact ih
theorem specHorner {C : List Int} (h : coefsB C = true) : Ev (fun q => spec_HornerCode.f q C) ((hcAll C).1, ((hcAll C).1.length : Int), true) := by
 obtain ⟨hp, h1, h2⟩ := coefsB_parts h
 obtain ⟨P, hm, he, hi, hl⟩ := horner_made h1 hp
 have hc := specCoefs C (by omega)
 rw [h] at hc
 have hadd : spec_poAdd.f ([] : List S109) 0 0 (rd C ((C.length : Int) - 1)) 0 = some ([⟨0, rd C ((C.length : Int) - 1), 0⟩], 0, 1) := poAdd_val [] 0 0 _ 0 (by simp)
 simp only [spec_HornerCode.f]
 refine Ev.bind hc ?_
 simp only [if_true, wid (x := (C.length : Int) - 1) (by omega) (by omega), wid (x := (C.length : Int) - 2) (by omega) (by omega), if_pos (show (0 : Int) ≤ (C.length : Int) - 1 by omega), if_pos (show (C.length : Int) - 1 < (C.length : Int) by omega), hadd, Option.bind_some]
 have := specHorner_loop C h2 (C.length - 1) [⟨0, rd C ((C.length : Int) - 1), 0⟩] 1 (by omega) (by simp; omega)
 rw [show ((C.length - 1 : Nat) : Int) - 1 = (C.length : Int) - 2 by omega] at this
 have e : (C.take (C.length - 1)).reverse.foldl hcStep ([⟨0, rd C ((C.length : Int) - 1), 0⟩], 1) = hcAll C := rfl
 rw [e, he, ifV_made hm (by omega)] at this
 exact this
theorem specHorner_no {C : List Int} (hl : C.length ≤ 1000) (h : coefsB C = false) : Ev (fun q => spec_HornerCode.f q C) ([], 0, false) := by
 have hc := specCoefs C (by omega)
 rw [h] at hc
 simp only [spec_HornerCode.f]
 refine Ev.bind hc ?_
 simp only [Bool.false_eq_true, if_false]
 exact Ev.now _
theorem main : laws_FnSchemesAgree.Pure := by
 intro code more _ hc hcode _ hm hmore
 by_cases hb : laws_big.f code more = some true
 ·exact ⟨0, .inl hb⟩
 have hsz : (code.length : Int) ≤ 1048576 ∧ (more.length : Int) ≤ 1048576 - (code.length : Int) := by
  by_cases h1 : (code.length : Int) > 1048576
  ·exact absurd (by simp only [laws_big.f, if_pos h1]) hb
  ·by_cases h2 : (more.length : Int) > 1048576 - (code.length : Int)
   ·refine absurd ?_ hb
    simp only [laws_big.f, if_neg h1, wid (x := 1048576 - (code.length : Int)) (by omega) (by omega), h2, decide_true]
   ·omega
 have hbig : laws_big.f code more = some false := by
  simp only [laws_big.f, if_neg (show ¬ (code.length : Int) > 1048576 by omega), wid (x := 1048576 - (code.length : Int)) (by omega) (by omega), show ¬ (more.length : Int) > 1048576 - (code.length : Int) by omega, decide_false]
 obtain ⟨C, p1, s1, e1, hC, a1, a2⟩ := coefs_ok hcode 0 0 (by omega) (by omega)
 obtain ⟨kk, p2, s2, e2, b1, b2⟩ := group_ok hcode p1 s1 (by omega) (by omega)
 obtain ⟨D, p3, s3, e3, hD, a3, a4⟩ := coefs_ok hmore 0 0 (by omega) (by omega)
 obtain ⟨x, p4, s4, e4, b3, b4⟩ := argument_ok hmore p3 s3 (by omega) (by omega)
 obtain ⟨m, p5, s5, e5, b5, b6⟩ := polyModulus_ok hmore p4 s4 (by omega) (by omega)
 have d0 : Ev (fun k => spec_DrawGiantCode.f k code) (C, kk) := by
  simp only [spec_DrawGiantCode.f]
  refine Ev.bind e1 ?_
  simp only [e2, Option.bind_some]
  exact Ev.now _
 have d1 : Ev (fun k => spec_DrawValueAt.f k more) (D, x, m) := by
  simp only [spec_DrawValueAt.f]
  refine Ev.bind e3 ?_
  simp only [e4, Option.bind_some, e5]
  exact Ev.now _
 have gs := gSpec C kk (by omega)
 have gi := gImpl C kk
 cases h : coefsB C with
 | false =>
  have hg : gV C kk = ([], 0, false) := by unfold gV; rw [if_neg (by simp [h])]
  rw [hg] at gs gi
  have hi : impl_HornerCode.f 0 C = some ([], 0, false) := by simp only [impl_HornerCode.f, implCoefs, h, Option.bind_some, Bool.false_eq_true, if_false]
  obtain ⟨K1, f1⟩ := d0
  obtain ⟨K2, f2⟩ := d1
  obtain ⟨K3, f3⟩ := gi
  obtain ⟨K4, f4⟩ := gs
  obtain ⟨K5, f5⟩ := sameCode ([] : List S109) 0 (by simp)
  obtain ⟨K6, f6⟩ := specHorner_no (by omega) h
  refine ⟨K1 + K2 + K3 + K4 + K5 + K6, .inr (.inl ⟨C, D, kk, x, m, [], [], [], [], [], [], 0, 0, 0, 0, 0, 0, ⟨hbig, f1 _ (by omega), f2 _ (by omega), f3 _ (by omega), f4 _ (by omega), f5 _ (by omega), ?_, f6 _ (by omega), f5 _ (by omega), ?_, ?_⟩⟩)⟩
  ·simp only [impl_HornerCode.f, implCoefs, h, Option.bind_some, Bool.false_eq_true, if_false]
  ·simp only [impl_PowersCode.f, implCoefs, h, Option.bind_some, Bool.false_eq_true, if_false]
  ·simp only [impl_EstrinCode.f, implCoefs, h, Option.bind_some, Bool.false_eq_true, if_false]
 | true =>
  obtain ⟨hp, l1, l2⟩ := coefsB_parts h
  obtain ⟨mh, eh⟩ := hornerM h
  obtain ⟨mp, ep⟩ := powersM h
  obtain ⟨i, me, ee⟩ := estrinM h
  have sh := specHorner h
  have hq : (cutB C).length ≤ 17 := Nat.le_trans (cutB_len C) l2
  obtain ⟨Ph, hh1, hh2⟩ := mh.made
  obtain ⟨Pp, hp1, hp2⟩ := mp.made
  obtain ⟨Pe, he1, he2⟩ := me.made
  obtain ⟨K1, f1⟩ := d0
  obtain ⟨K2, f2⟩ := d1
  obtain ⟨K3, f3⟩ := gi
  obtain ⟨K4, f4⟩ := gs
  have hgl : (gV C kk).1.length ≤ 1000000 := by
   by_cases hk : kB kk = true
   ·obtain ⟨mg, eg⟩ := giantM h hk
    rw [eg]
    exact Nat.le_trans mg.len (by omega)
   ·unfold gV
    rw [if_neg (by simp [hk])]
    simp
  obtain ⟨K5, f5⟩ := sameCode (gV C kk).1 (gV C kk).2.1 hgl
  obtain ⟨K6, f6⟩ := sh
  obtain ⟨K7, f7⟩ := eh
  obtain ⟨K8, f8⟩ := ep
  obtain ⟨K9, f9⟩ := ee
  obtain ⟨K10, f10⟩ := sameCode (hcAll C).1 ((hcAll C).1.length : Int) (Nat.le_trans mh.len (by omega))
  have ph := polyOf_val hh1 mh.len hh2 hq
  obtain ⟨K11, f11⟩ := ph
  obtain ⟨K12, f12⟩ := polyOf_val hp1 mp.len hp2 hq
  obtain ⟨K13, f13⟩ := polyOf_val he1 me.len he2 hq
  obtain ⟨K14, f14⟩ := sameInts (cutB C) (by omega)
  obtain ⟨K15, f15⟩ := run_made hh1 mh.len hh2 x m
  obtain ⟨K16, f16⟩ := run_made hp1 mp.len hp2 x m
  obtain ⟨K17, f17⟩ := run_made he1 me.len he2 x m
  have hsame : ∃ K18, ∀ k, K18 ≤ k → (gV C kk).2.2 = true → impl_SameCode.f k (gV C kk).1 (gV C kk).2.1 (hcAll C).1 ((hcAll C).1.length : Int) = some (true, true) := by
   by_cases hk : kB kk = true
   ·obtain ⟨mg, eg⟩ := giantM h hk
    obtain ⟨Pg, hg1, hg2⟩ := mg.made
    rw [eg]
    have : Ev (fun k => impl_SameCode.f k (gcOps C kk.toNat) ((gcOps C kk.toNat).length : Int) (hcAll C).1 ((hcAll C).1.length : Int)) (true, true) := by
     simp only [impl_SameCode.f]
     refine Ev.bind (polyOf_val hg1 mg.len hg2 hq) ?_
     refine Ev.bind (polyOf_val hh1 mh.len hh2 hq) ?_
     simp only [if_true]
     exact Ev.bind (equal_same _ (by omega)) (Ev.now _)
    obtain ⟨K, f⟩ := this
    exact ⟨K, fun k hk2 _ => f k hk2⟩
   ·refine ⟨0, fun _ _ hz => ?_⟩
    unfold gV at hz
    rw [if_neg (by simp [hk])] at hz
    cases hz
  obtain ⟨K18, f18⟩ := hsame
  have hva := valueAt_val h hp x m
  refine ⟨K1 + K2 + K3 + K4 + K5 + K6 + K7 + K8 + K9 + K10 + K11 + K12 + K13 + K14 + K15 + K16 + K17 + K18, .inr (.inr ⟨C, D, kk, x, m, (gV C kk).1, (gV C kk).1, (hcAll C).1, (hcAll C).1, (pcGroup C).1, (esCode C).1, (gV C kk).2.1, (gV C kk).2.1, ((hcAll C).1.length : Int), ((hcAll C).1.length : Int), ((pcGroup C).1.length : Int), (i : Int), (gV C kk).2.2, cutB C, cutB C, cutB C, (if xmB x m = true then (pv (cutB C) x % m, true) else (0, false)).1, (if xmB x m = true then (pv (cutB C) x % m, true) else (0, false)).2, ⟨hbig, f1 _ (by omega), f2 _ (by omega), f3 _ (by omega), f4 _ (by omega), f5 _ (by omega), f7 _ (by omega), f6 _ (by omega), f10 _ (by omega), f8 _ (by omega), f9 _ (by omega)⟩, f11 _ (by omega), f12 _ (by omega), f13 _ (by omega), f14 _ (by omega), f14 _ (by omega), cutB_len C, by omega, fun i _ => cut_rd C i, fun i hi _ => ?_, fun hz => f18 _ (by omega) hz, hva, f15 _ (by omega), f16 _ (by omega), f17 _ (by omega)⟩)⟩
  rw [← cut_rd]
  unfold rd
  rw [Int.toNat_natCast, List.getD_eq_getElem?_getD, List.getElem?_eq_none (by omega)]; rfl
end Go.Proofs.Ytlmoemahamneoaa.PureFnSchemesAgreeL
namespace Go.Proofs.Ytlmoemahamneoaa.Pure
open Go.Proofs.Ytlmoemahamneoaa.PFnSchemesAgree
theorem FnSchemesAgree : laws_FnSchemesAgree.Pure := PureFnSchemesAgreeL.main
end Go.Proofs.Ytlmoemahamneoaa.Pure
