/- A plan for several inputs has their powers as exponents, and its cost is told by their digits: the statement FnPowersTogether holds for all its drawn arguments; nothing else is asked. -/
import Derived.Test.YtoiamgeaieefmaaPFnPowersTogetherx1
import Derived.Test.YtoiamgeaieefmaaPFnPowersTogetherx2
import Derived.Test.YtoiamgeaieefmaaPFnPowersTogetherx3
import Derived.Test.YtoiamgeaieefmaaPFnPowersTogetherx4
import Derived.Test.YtoiamgeaieefmaaPFnPowersTogetherx5
import Derived.Test.YtoiamgeaieefmaaPFnPowersTogetherx6
import Derived.Test.YtoiamgeaieefmaaPFnPowersTogetherx7
import Derived.Test.YtoiamgeaieefmaaPFnPowersTogetherx8
import Derived.Test.YtoiamgeaieefmaaPFnPowersTogetherx9
import Derived.Test.YtoiamgeaieefmaaPFnPowersTogetherx10
import Derived.Test.YtoiamgeaieefmaaPFnPowersTogetherx11
set_option linter.unusedVariables false
set_option linter.unusedSimpArgs false
namespace Go.Proofs.Ytoiamgeaieefmaa.PureFnPowersTogetherL
open Go.RowKit Go.Proofs.Ytoiamgeaieefmaa.PFnPowersTogether Go.Proofs.YtoiamgeaieefmaaW.PrintWords Go.Proofs.YtoiamgeaieefmaaW.PrintLast Go.Proofs.YtoiamgeaieefmaaW.PrintMore
theorem up {α : Type} {g : Nat → Option α} {r : α} (h : Ev (fun k => g (k + 1)) r) : Ev g r := by
  obtain ⟨K, h⟩ := h
  refine ⟨K + 1, fun k hk => ?_⟩
  obtain ⟨m, rfl⟩ : ∃ m, k = m + 1 := ⟨k - 1, by omega⟩
  exact h m (by omega)
theorem wid {x : Int} (h0 : -9223372036854775808 ≤ x) (h1 : x ≤ 9223372036854775807) : wrap64 x = x := by unfold wrap64; omega
theorem l1In_val (x a b : Int) : spec_l1In.f x a b = some (decide (a ≤ x) && decide (x ≤ b)) := by
  unfold spec_l1In.f
  by_cases h : a ≤ x
  · rw [if_pos h]; simp [h]
  · rw [if_neg h]; simp [h]
theorem rd_at {l : List Int} {i : Nat} (h : i < l.length) : rd l (i : Int) = l[i] := by
  unfold rd
  rw [Int.toNat_natCast, List.getD_eq_getElem?_getD, List.getElem?_eq_getElem h]; rfl
def allIn (a b : Int) (l : List Int) : Bool := l.all fun d => decide (a ≤ d) && decide (d ≤ b)
theorem l1All_loop (a b : Int) (l : List Int) (hl : l.length ≤ 17592186044416) : ∀ (d i : Nat), i + d = l.length → Ev (fun k => spec_l1All.l0 k a b l (l.length : Int) i) (allIn a b (l.drop i)) := by
  intro d
  induction d with
  | zero =>
    intro i h
    refine up ?_
    simp only [spec_l1All.l0, if_neg (show ¬ (i : Int) < (l.length : Int) by omega)]
    rw [List.drop_of_length_le (by omega)]
    exact Ev.now _
  | succ d ih =>
    intro i h
    have hi : i < l.length := by omega
    refine up ?_
    simp only [spec_l1All.l0, if_pos (show (i : Int) < (l.length : Int) by omega), if_pos (show (0 : Int) ≤ (i : Int) by omega), l1In_val, Option.bind_some, wid (x := (i : Int) + 1) (by omega) (by omega), rd_at hi]
    have e : allIn a b (l.drop i) = ((decide (a ≤ l[i]) && decide (l[i] ≤ b)) && allIn a b (l.drop (i + 1))) := by
      rw [List.drop_eq_getElem_cons hi]; rfl
    rw [e]
    cases hb : (decide (a ≤ l[i]) && decide (l[i] ≤ b)) with
    | true => simp only [if_true, Bool.true_and]; exact ih (i + 1) (by omega)
    | false => simp only [Bool.false_eq_true, if_false, Bool.false_and]; exact Ev.now _
theorem l1All_val (a b : Int) (l : List Int) (hl : l.length ≤ 17592186044416) : Ev (fun k => spec_l1All.f k l a b) (allIn a b l) := l1All_loop a b l hl l.length 0 (by omega)
theorem l1Least_val (a b : Int) : spec_l1Least.f a b = some (min a b) := by
  unfold spec_l1Least.f
  split
  · rw [Int.min_eq_left (by omega)]
  · rw [Int.min_eq_right (by omega)]
/-! Plans: the reference's test is the program's. -/
theorem rdPlan_at {T : List S79} {i : Nat} (h : i < T.length) : rd_T79 T (i : Int) = T[i] := by
  unfold rd_T79
  rw [Int.toNat_natCast, List.getD_eq_getElem?_getD, List.getElem?_eq_getElem h]; rfl
def rowOk (n : Nat) (r : List Int) : Prop := r.length = n ∧ ∀ x ∈ r, 0 ≤ x ∧ x ≤ 1000001
theorem plSum_loop (a b : List Int) (n : Nat) (hn : n ≤ 1000) (ha : rowOk n a) (hb : rowOk n b) : ∀ (d i : Nat), i + d = n → Ev (fun q => spec_plSum.l0 q a b ((exRow a b).take i) (a.length : Int) i) (exRow a b) := by
  intro d
  have hl : (exRow a b).length = n := (exRow_good ha hb).1
  induction d with
  | zero =>
    intro i h
    refine up ?_
    simp only [spec_plSum.l0, if_neg (show ¬ (i : Int) < (a.length : Int) by have := ha.1; omega)]
    rw [List.take_of_length_le (by omega)]
    exact Ev.now _
  | succ d ih =>
    intro i h
    have h1 : i < a.length := by have := ha.1; omega
    have h2 : i < b.length := by have := hb.1; omega
    have b1 := ha.2 _ (List.getElem_mem h1)
    have b2 := hb.2 _ (List.getElem_mem h2)
    refine up ?_
    simp only [spec_plSum.l0, if_pos (show (i : Int) < (a.length : Int) by omega), if_pos (show (0 : Int) ≤ (i : Int) by omega), if_pos (show (i : Int) < (b.length : Int) by omega), rd_at h1, rd_at h2, wid (x := a[i] + b[i]) (by omega) (by omega), l1Least_val, Option.bind_some, if_pos (show ((exRow a b).take i).length < 17592186044416 by rw [List.length_take]; omega), wid (x := (i : Int) + 1) (by omega) (by omega)]
    have := ih (i + 1) (by omega)
    have e : (exRow a b).take (i + 1) = (exRow a b).take i ++ [min (a[i] + b[i]) 1000001] := by
      have hx : i < (exRow a b).length := by omega
      have hg : (exRow a b)[i] = min (a[i] + b[i]) 1000001 := by simp [exRow]
      rw [List.take_succ_eq_append_getElem hx, hg]
    rw [e] at this
    exact this
theorem plSum_val (a b : List Int) (n : Nat) (hn : n ≤ 1000) (ha : rowOk n a) (hb : rowOk n b) : Ev (fun q => spec_plSum.f q a b) (exRow a b) := by
  have := plSum_loop a b n hn ha hb n 0 (by omega)
  simpa [spec_plSum.f] using this
theorem exGood_at {n : Nat} {P : List (List Int)} (h : exGood n P) {x : Int} (h0 : 0 ≤ x) (h1 : x < (P.length : Int)) : rowOk n (P.getD x.toNat []) := by
  rw [List.getD_eq_getElem?_getD, List.getElem?_eq_getElem (show x.toNat < P.length by omega)]
  exact h _ (List.getElem_mem _)
theorem exRow_ok {n : Nat} {a b : List Int} (ha : rowOk n a) (hb : rowOk n b) : rowOk n (exRow a b) := exRow_good ha hb
theorem stepsB_head {inp : Int} {s : S79} {r : List S79} {i : Nat} (h : stepsB inp (s :: r) i = true) : (0 ≤ s.f0 ∧ s.f0 ≤ s.f1 ∧ s.f1 < inp + i) ∧ stepsB inp r (i + 1) = true := by
  rw [stepsB_cons, Bool.and_eq_true] at h
  have hs := h.1
  unfold stepB at hs
  rw [Bool.and_eq_true, Bool.and_eq_true, decide_eq_true_iff, decide_eq_true_iff, decide_eq_true_iff] at hs
  exact ⟨hs, h.2⟩
theorem exLoop_len : ∀ (r : List S79) (P : List (List Int)), (exLoop r P).length = P.length + r.length
  | [], P => rfl
  | s :: r, P => by
    show (exLoop r (P ++ _)).length = _
    rw [exLoop_len r]; simp only [List.length_append, List.length_cons, List.length_nil]; omega
theorem exLoop_good {n : Nat} : ∀ (r : List S79) (P : List (List Int)) (j : Nat), P.length = n + j → exGood n P → stepsB (n : Int) r j = true → exGood n (exLoop r P)
  | [], P, _, _, hg, _ => hg
  | s :: r, P, j, hl, hg, hs => by
    obtain ⟨⟨h0, h1, h2⟩, h3⟩ := stepsB_head hs
    exact exLoop_good r _ (j + 1) (by rw [List.length_append, List.length_singleton]; omega) (exGood_app hg (exRow_ok (exGood_at hg h0 (by omega)) (exGood_at hg (by omega) (by omega)))) h3
theorem plExp_l1 (n : Nat) (hn : n ≤ 1000) (steps : List S79) (hl : steps.length ≤ 1000) : ∀ (d j : Nat) (P : List (List Int)), j + d = steps.length → P.length = n + j → exGood n P → stepsB (n : Int) (steps.drop j) j = true → Ev (fun q => spec_plExponents.l1 q P steps (steps.length : Int) j) (exLoop (steps.drop j) P) := by
  intro d
  induction d with
  | zero =>
    intro j P h hp hg hs
    refine up ?_
    simp only [spec_plExponents.l1, if_neg (show ¬ (j : Int) < (steps.length : Int) by omega)]
    rw [List.drop_of_length_le (by omega)]
    exact Ev.now _
  | succ d ih =>
    intro j P h hp hg hs
    have hj : j < steps.length := by omega
    rw [List.drop_eq_getElem_cons hj] at hs
    obtain ⟨⟨h0, h1, h2⟩, h3⟩ := stepsB_head hs
    have ka := exGood_at hg h0 (by omega)
    have kb := exGood_at hg (show 0 ≤ (steps[j]).f1 by omega) (by omega)
    have hv := plSum_val _ _ n hn ka kb
    refine up ?_
    simp only [spec_plExponents.l1, if_pos (show (j : Int) < (steps.length : Int) by omega), if_pos (show (0 : Int) ≤ (j : Int) by omega), rdPlan_at hj, if_pos h0, if_pos (show (steps[j]).f0 < (P.length : Int) by omega), if_pos (show 0 ≤ (steps[j]).f1 by omega), if_pos (show (steps[j]).f1 < (P.length : Int) by omega), if_pos (show P.length < 5864062014805 by omega), wid (x := (j : Int) + 1) (by omega) (by omega)]
    refine Ev.bind hv ?_
    have := ih (j + 1) _ (by omega) (by rw [List.length_append, List.length_singleton]; omega) (exGood_app hg (exRow_ok ka kb)) h3
    rw [List.drop_eq_getElem_cons hj]
    exact this
theorem plExp_l0 (n : Nat) (hn : n ≤ 1000) (steps : List S79) (outs : List Int) (hl : steps.length ≤ 1000) (hs : stepsB (n : Int) steps 0 = true) : ∀ (d i : Nat), i + d = n → Ev (fun q => spec_plExponents.l0 q (exBase n i) i (n : Int) steps outs) (exLoop steps (exBase n n)) := by
  intro d
  induction d with
  | zero =>
    intro i h
    obtain rfl : i = n := by omega
    refine up ?_
    simp only [spec_plExponents.l0, if_neg (show ¬ (i : Int) < (i : Int) by omega)]
    have := plExp_l1 i hn steps hl steps.length 0 (exBase i i) (by omega) (by rw [exBase_length]; rfl) (exBase_good i i) (by rw [List.drop_zero]; exact hs)
    rw [List.drop_zero] at this
    exact this
  | succ d ih =>
    intro i h
    refine up ?_
    simp only [spec_plExponents.l0, if_pos (show (i : Int) < (n : Int) by omega), if_pos (show (0 : Int) ≤ (n : Int) by omega), Int.toNat_natCast, if_pos (show n ≤ 35184372088832 by omega), Option.bind_some, if_pos (show (0 : Int) ≤ (i : Int) by omega), List.length_replicate, exBase_length, if_pos (show i < 5864062014805 by omega), wid (x := (i : Int) + 1) (by omega) (by omega)]
    have := ih (i + 1) (by omega)
    rw [exBase_succ] at this
    exact this
def allRows (E : List (List Int)) : Bool := E.all (allIn 0 1000000)
def planB (inp : Int) (steps : List S79) (outs : List Int) : Bool := formedB inp steps outs && allRows (exAll inp steps)
theorem outsB_all (inp : Int) (n : Nat) (outs : List Int) : outsB inp n outs = allIn 0 (inp + n - 1) outs := by
  unfold outsB allIn
  rw [List.all_eq_not_any_not]
theorem plGood_l1 (inp : Int) (hi : 1 ≤ inp ∧ inp ≤ 6) (steps : List S79) (outs : List Int) (hl : steps.length ≤ 1000) (ho : outs.length ≤ 1000) (E : List (List Int)) (hE : E.length ≤ 100000) (hr : ∀ r ∈ E, r.length ≤ 1000) : ∀ (d i : Nat), i + d = E.length → Ev (fun q => spec_plGood.l1 q E (E.length : Int) i inp steps outs) (allRows (E.drop i) && outsB inp steps.length outs) := by
  intro d
  induction d with
  | zero =>
    intro i h
    refine up ?_
    simp only [spec_plGood.l1, if_neg (show ¬ (i : Int) < (E.length : Int) by omega), wid (x := inp + (steps.length : Int)) (by omega) (by omega), wid (x := inp + (steps.length : Int) - 1) (by omega) (by omega)]
    rw [List.drop_of_length_le (by omega), outsB_all]
    exact Ev.bind (l1All_val _ _ _ (by omega)) (Ev.now _)
  | succ d ih =>
    intro i h
    have hi2 : i < E.length := by omega
    have hrd : rd_L3 E (i : Int) = E[i] := by
      unfold rd_L3
      rw [Int.toNat_natCast, List.getD_eq_getElem?_getD, List.getElem?_eq_getElem hi2]; rfl
    refine up ?_
    simp only [spec_plGood.l1, if_pos (show (i : Int) < (E.length : Int) by omega), if_pos (show (0 : Int) ≤ (i : Int) by omega), hrd, wid (x := (i : Int) + 1) (by omega) (by omega)]
    refine Ev.bind (l1All_val 0 1000000 E[i] (by have := hr _ (List.getElem_mem hi2); omega)) ?_
    have e : allRows (E.drop i) = (allIn 0 1000000 E[i] && allRows (E.drop (i + 1))) := by
      rw [List.drop_eq_getElem_cons hi2]; rfl
    rw [e]
    cases hb : allIn 0 1000000 E[i] with
    | true => simp only [if_true, Bool.true_and]; exact ih (i + 1) (by omega)
    | false => simp only [Bool.false_eq_true, if_false, Bool.false_and]; exact Ev.now _
theorem plGood_l0 (inp : Int) (hi : 1 ≤ inp ∧ inp ≤ 6) (steps : List S79) (outs : List Int) (hl : steps.length ≤ 1000) (R : Bool) (hR : stepsB inp steps 0 = true → Ev (fun q => (spec_plExponents.f q inp steps outs).bind fun t => spec_plGood.l1 q t (t.length : Int) 0 inp steps outs) R) : ∀ (d j : Nat), j + d = steps.length → (stepsB inp (steps.drop j) j = true → stepsB inp steps 0 = true) → Ev (fun q => spec_plGood.l0 q steps (steps.length : Int) j inp steps outs) (stepsB inp (steps.drop j) j && R) := by
  intro d
  induction d with
  | zero =>
    intro j h hs
    refine up ?_
    simp only [spec_plGood.l0, if_neg (show ¬ (j : Int) < (steps.length : Int) by omega)]
    rw [List.drop_of_length_le (by omega)] at hs ⊢
    rw [stepsB_nil, Bool.true_and]
    exact hR (hs (stepsB_nil _ _))
  | succ d ih =>
    intro j h hs
    have hj : j < steps.length := by omega
    have e : stepsB inp (steps.drop j) j = (stepB inp j steps[j] && stepsB inp (steps.drop (j + 1)) (j + 1)) := by
      rw [List.drop_eq_getElem_cons hj, stepsB_cons]
    rw [e] at hs ⊢
    refine up ?_
    simp only [spec_plGood.l0, if_pos (show (j : Int) < (steps.length : Int) by omega), if_pos (show (0 : Int) ≤ (j : Int) by omega), rdPlan_at hj, l1In_val, Option.bind_some, wid (x := inp + (j : Int)) (by omega) (by omega), wid (x := (j : Int) + 1) (by omega) (by omega)]
    unfold stepB at hs ⊢
    cases h0 : decide (0 ≤ (steps[j]).f0) with
    | false => simp only [h0, Bool.false_and, Bool.false_eq_true, if_false]; exact Ev.now _
    | true =>
      cases h1 : decide ((steps[j]).f0 ≤ (steps[j]).f1) with
      | false => simp only [h0, h1, Bool.false_and, Bool.and_false, Bool.false_eq_true, if_false]; exact Ev.now _
      | true =>
        simp only [h0, h1, Bool.true_and, if_true] at hs ⊢
        by_cases h2 : (steps[j]).f1 < inp + j
        · simp only [decide_eq_true h2, Bool.true_and] at hs ⊢
          simp only [if_neg (show ¬ (steps[j]).f1 ≥ inp + j by omega)]
          exact ih (j + 1) (by omega) hs
        · simp only [decide_eq_false h2, Bool.false_and, if_pos (show (steps[j]).f1 ≥ inp + j by omega)]
          exact Ev.now _
theorem specPlan (inp : Int) (steps : List S79) (outs : List Int) : Ev (fun q => spec_plGood.f q inp steps outs) (planB inp steps outs) := by
  simp only [spec_plGood.f, l1In_val, Option.bind_some]
  have hj : ∀ (c : Prop) [Decidable c], c → ∀ f g : Nat → Option Bool, ∀ r, Ev f r → Ev (fun q => if c then f q else g q) r := fun c _ hc f g r h => by simp only [if_pos hc]; exact h
  have hno : planB inp steps outs = false → Ev (fun q => spec_plGood.j0 q true inp steps outs) (planB inp steps outs) := fun h => by
    rw [h]
    refine up ?_
    simp only [spec_plGood.j0, if_true]
    exact Ev.now _
  by_cases h1 : 1 ≤ inp ∧ inp ≤ 6
  · rw [decide_eq_true h1.1, decide_eq_true h1.2]
    simp only [Bool.and_self, if_true]
    by_cases h2 : (steps.length : Int) > 40
    · simp only [if_pos h2]
      refine hno ?_
      unfold planB formedB
      rw [decide_eq_false (show ¬ steps.length ≤ 40 by omega)]
      simp
    · simp only [if_neg h2]
      by_cases h3 : (outs.length : Int) > 6
      · rw [decide_eq_true h3]
        refine hno ?_
        unfold planB formedB
        rw [decide_eq_false (show ¬ outs.length ≤ 6 by omega)]
        simp
      · rw [decide_eq_false h3]
        refine up ?_
        simp only [spec_plGood.j0, Bool.false_eq_true, if_false]
        obtain ⟨n, rfl⟩ : ∃ n : Nat, inp = (n : Int) := ⟨inp.toNat, by omega⟩
        have hk := plGood_l0 (n : Int) h1 steps outs (by omega) (allRows (exAll (n : Int) steps) && outsB (n : Int) steps.length outs) (fun hs => by
          have hg := exLoop_good (n := n) steps (exBase n n) 0 (by rw [exBase_length]; rfl) (exBase_good n n) hs
          have he := plExp_l0 n (by omega) steps outs (by omega) hs n 0 (by omega)
          have hb0 : exBase n 0 = [] := rfl
          rw [hb0] at he
          have hE : exAll (n : Int) steps = exLoop steps (exBase n n) := by unfold exAll; rw [Int.toNat_natCast]
          rw [hE]
          refine Ev.bind (show Ev (fun q => spec_plExponents.f q (n : Int) steps outs) _ from he) ?_
          have := plGood_l1 (n : Int) h1 steps outs (by omega) (by omega) (exLoop steps (exBase n n)) (by rw [exLoop_len, exBase_length]; omega) (fun r hr => by have := (hg r hr).1; omega) _ 0 (Nat.zero_add _)
          exact this) steps.length 0 (by omega) (fun h => by rwa [List.drop_zero] at h)
        rw [List.drop_zero] at hk
        have e : planB (n : Int) steps outs = (stepsB (n : Int) steps 0 && (allRows (exAll (n : Int) steps) && outsB (n : Int) steps.length outs)) := by
          unfold planB formedB
          rw [decide_eq_true h1, decide_eq_true (show steps.length ≤ 40 by omega), decide_eq_true (show outs.length ≤ 6 by omega)]
          cases stepsB (n : Int) steps 0 <;> cases outsB (n : Int) steps.length outs <;> simp
        rw [e]
        exact hk
  · have hb : (decide (1 ≤ inp) && decide (inp ≤ 6)) = false := by
      rw [Bool.and_eq_false_iff, decide_eq_false_iff_not, decide_eq_false_iff_not]; omega
    rw [hb]
    simp only [Bool.false_eq_true, if_false]
    refine hno ?_
    unfold planB formedB
    rw [decide_eq_false h1]
    simp
theorem maxOf_le {l : List Int} (h : l ≠ []) {m : Int} : Go.Lib.maxOf l ≤ m ↔ ∀ x ∈ l, x ≤ m := by
  have key : ∀ (l : List Int) (a : Int), l.foldl max a ≤ m ↔ a ≤ m ∧ ∀ x ∈ l, x ≤ m := by
    intro l
    induction l with
    | nil => intro a; simp
    | cons y l ih =>
      intro a
      rw [List.foldl_cons, ih]
      constructor
      · rintro ⟨h1, h2⟩
        refine ⟨by omega, fun x hx => ?_⟩
        rcases List.mem_cons.1 hx with rfl | hx
        · omega
        · exact h2 x hx
      · rintro ⟨h1, h2⟩
        have := h2 y List.mem_cons_self
        exact ⟨by omega, fun x hx => h2 x (List.mem_cons_of_mem _ hx)⟩
  unfold Go.Lib.maxOf
  rw [key]
  cases l with
  | nil => exact absurd rfl h
  | cons y l =>
    exact ⟨fun h => h.2, fun h => ⟨h y List.mem_cons_self, h⟩⟩
theorem allRows_max {n : Nat} (hn : 0 < n) {E : List (List Int)} (h : exGood n E) : allRows E = !(E.any fun r => decide (1000000 < Go.Lib.maxOf r)) := by
  unfold allRows
  rw [List.all_eq_not_any_not]
  have : ∀ r ∈ E, (!allIn 0 1000000 r) = decide (1000000 < Go.Lib.maxOf r) := fun r hr => by
    obtain ⟨h1, h2⟩ := h r hr
    have hne : r ≠ [] := fun e => by subst e; simp at h1; omega
    by_cases hc : 1000000 < Go.Lib.maxOf r
    · rw [decide_eq_true hc]
      have : ¬ ∀ x ∈ r, x ≤ 1000000 := fun hx => by have := (maxOf_le hne).2 hx; omega
      rw [Bool.not_eq_true', Bool.eq_false_iff]
      intro ha
      refine this fun x hx => ?_
      unfold allIn at ha
      have := List.all_eq_true.1 ha x hx
      rw [Bool.and_eq_true, decide_eq_true_iff, decide_eq_true_iff] at this
      exact this.2
    · rw [decide_eq_false hc]
      have : ∀ x ∈ r, x ≤ 1000000 := (maxOf_le hne).1 (by omega)
      rw [Bool.not_eq_false']
      unfold allIn
      refine List.all_eq_true.2 fun x hx => ?_
      rw [Bool.and_eq_true, decide_eq_true_iff, decide_eq_true_iff]
      exact ⟨(h2 x hx).1, this x hx⟩
  congr 1
  rw [Bool.eq_iff_iff, List.any_eq_true, List.any_eq_true]
  exact ⟨fun ⟨r, hr, hx⟩ => ⟨r, hr, by rw [← this r hr]; exact hx⟩, fun ⟨r, hr, hx⟩ => ⟨r, hr, by rw [this r hr]; exact hx⟩⟩
theorem implPlan (inp : Int) (steps : List S79) (outs : List Int) : impl_IsPlan.f inp steps outs = some (planB inp steps outs) := by
  unfold impl_IsPlan.f planB
  cases hf : formedB inp steps outs with
  | false => rfl
  | true =>
    obtain ⟨h1, _, _, h4, _⟩ := formedB_parts hf
    obtain ⟨n, rfl⟩ : ∃ n : Nat, inp = (n : Int) := ⟨inp.toNat, by omega⟩
    have hg := exLoop_good (n := n) steps (exBase n n) 0 (by rw [exBase_length]; rfl) (exBase_good n n) h4
    have hE : exAll (n : Int) steps = exLoop steps (exBase n n) := by unfold exAll; rw [Int.toNat_natCast]
    rw [← hE] at hg
    rw [allRows_max (n := n) (by omega) hg]
/-! Plans made step by step: what the reference's steps give, and exponents of what is made. -/
theorem mkStep_val (a b : Int) : spec_plStep.f a b = some (mn a b, mx a b) := by
  have e1 : spec_l1Least.f a b = some (mn a b) := by
    unfold spec_l1Least.f mn
    split <;> split <;> first | rfl | (congr 1; omega)
  have e2 : spec_l1Most.f a b = some (mx a b) := by
    unfold spec_l1Most.f mx
    split <;> split <;> first | rfl | (congr 1; omega)
  simp only [spec_plStep.f, e1, e2, Option.bind_some]
def mkS (T : List S79) (a b : Int) : List S79 := T ++ [⟨mn a b, mx a b⟩]
theorem meTimes_val (inp : Int) (T : List S79) (o : List Int) (a b : Int) (hT : T.length ≤ 100000) (hi : 0 ≤ inp ∧ inp ≤ 1000) : spec_meTimes.f inp T o a b = some (inp, mkS T a b, [], inp + T.length) := by
  simp only [spec_meTimes.f, Option.bind_some, mkStep_val, List.nil_append, List.length_nil, List.length_singleton]
  rw [if_pos (by omega), if_pos (by omega), wid (by omega) (by omega)]
  rfl
def toldV (inp : Int) (T : List S79) (o : List Int) : Int × List S79 × List Int × Bool := if planB inp T o = true then (inp, T, o, true) else (0, [], [], false)
theorem told_val (inp : Int) (T : List S79) (o : List Int) : impl_told.f inp T o = some (toldV inp T o) := by
  simp only [impl_told.f, implPlan, Option.bind_some, toldV]
  split <;> rfl
theorem plIf_val (inp : Int) (T : List S79) (o : List Int) : Ev (fun q => spec_plIf.f q inp T o) (toldV inp T o) := by
  simp only [spec_plIf.f]
  refine Ev.bind (specPlan inp T o) ?_
  unfold toldV
  split <;> exact Ev.now _
theorem exLoop_app : ∀ (a b : List S79) (P : List (List Int)), exLoop (a ++ b) P = exLoop b (exLoop a P)
  | [], _, _ => rfl
  | s :: a, b, P => by
    rw [List.cons_append]
    show exLoop (a ++ b) _ = exLoop b (exLoop a _)
    exact exLoop_app a b _
theorem exRow_comm : ∀ (a b : List Int), exRow a b = exRow b a
  | [], [] => rfl
  | [], _ :: _ => rfl
  | _ :: _, [] => rfl
  | x :: a, y :: b => by
    show min (x + y) 1000001 :: exRow a b = min (y + x) 1000001 :: exRow b a
    rw [exRow_comm a b, Int.add_comm]
theorem exAll_mul (inp : Int) (T : List S79) (a b : Int) : exAll inp (mkS T a b) = exAll inp T ++ [exRow ((exAll inp T).getD a.toNat []) ((exAll inp T).getD b.toNat [])] := by
  unfold exAll mkS
  rw [exLoop_app]
  show exLoop [] (_ ++ [exRow _ _]) = _
  show _ ++ [exRow _ _] = _
  congr 2
  show exRow ((exLoop T _).getD (mn a b).toNat []) ((exLoop T _).getD (mx a b).toNat []) = _
  unfold mn mx
  by_cases h : b < a
  · rw [if_pos h, if_neg (by omega), exRow_comm]
  · rw [if_neg h]
    by_cases h2 : a < b
    · rw [if_pos h2]
    · rw [if_neg h2, show a = b by omega]
theorem exAll_length (inp : Int) (T : List S79) : (exAll inp T).length = inp.toNat + T.length := by
  unfold exAll
  rw [exLoop_len, exBase_length]
theorem exLoop_old : ∀ (r : List S79) (P : List (List Int)) (k : Nat), k < P.length → (exLoop r P).getD k [] = P.getD k []
  | [], _, _, _ => rfl
  | s :: r, P, k, h => by
    show (exLoop r (P ++ [_])).getD k [] = _
    rw [exLoop_old r (P ++ [_]) k (by rw [List.length_append]; omega)]
    simp only [List.getD_eq_getElem?_getD, List.getElem?_append_left h]
theorem exAll_unit (n k : Nat) (T : List S79) (h : k < n) : (exAll (n : Int) T).getD k [] = exUnit n k := by
  unfold exAll
  rw [Int.toNat_natCast, exLoop_old _ _ _ (by rw [exBase_length]; exact h)]
  unfold exBase
  rw [List.getD_eq_getElem?_getD, List.getElem?_map, List.getElem?_range h]; rfl
theorem exAll_last (inp : Int) (T : List S79) (a b : Int) (hi : 0 ≤ inp) : (exAll inp (mkS T a b)).getD (inp + T.length).toNat [] = exRow ((exAll inp T).getD a.toNat []) ((exAll inp T).getD b.toNat []) := by
  rw [exAll_mul, List.getD_eq_getElem?_getD, List.getElem?_append_right (by rw [exAll_length]; omega), exAll_length, show (inp + T.length).toNat - (inp.toNat + T.length) = 0 by omega]
  rfl
/-- A row of exponents that are told by a function. -/
def rowOf (n : Nat) (f : Nat → Nat) : List Int := (List.range n).map fun k => (f k : Int)
theorem rowOf_length (n : Nat) (f : Nat → Nat) : (rowOf n f).length = n := by simp [rowOf]
theorem rowOf_get {n : Nat} {f : Nat → Nat} {k : Nat} (h : k < (rowOf n f).length) : (rowOf n f)[k] = (f k : Int) := by simp [rowOf]
theorem rowOf_congr {n : Nat} {f g : Nat → Nat} (h : ∀ k, k < n → f k = g k) : rowOf n f = rowOf n g := by
  unfold rowOf
  refine List.map_congr_left fun k hk => ?_
  rw [h k (List.mem_range.1 hk)]
theorem exUnit_row (n i : Nat) : exUnit n i = rowOf n (fun k => if k = i then 1 else 0) := by
  refine List.ext_getElem (by rw [exUnit_length, rowOf_length]) fun k h1 h2 => ?_
  rw [rowOf_get]
  show ((List.replicate n (0 : Int)).set i 1)[k]'(by simpa [exUnit] using h1) = _
  rw [List.getElem_set]
  by_cases h : i = k
  · rw [if_pos h, if_pos h.symm]; rfl
  · rw [if_neg h, if_neg (fun e => h e.symm), List.getElem_replicate]; rfl
theorem exRow_row (n : Nat) (f g : Nat → Nat) (h : ∀ k, k < n → f k + g k ≤ 1000001) : exRow (rowOf n f) (rowOf n g) = rowOf n (fun k => f k + g k) := by
  unfold exRow
  refine List.ext_getElem (by rw [List.length_zipWith, rowOf_length, rowOf_length, rowOf_length, Nat.min_self]) fun k h1 h2 => ?_
  rw [List.getElem_zipWith, rowOf_get, rowOf_get, rowOf_get]
  have := h k (by rw [rowOf_length] at h2; exact h2)
  omega
/-! How many bits of a number are 1: what bits.OnesCount64 reckons. -/
def pcF : Nat → Nat → Nat
  | 0, _ => 0
  | f + 1, x => x % 2 + pcF f (x / 2)
def pc (x : Nat) : Nat := pcF 64 x
theorem pcF_more : ∀ (f x : Nat), x < 2 ^ f → pcF (f + 1) x = pcF f x
  | 0, x, h => by simp at h; subst h; rfl
  | f + 1, x, h => by
    show x % 2 + pcF (f + 1) (x / 2) = x % 2 + pcF f (x / 2)
    rw [pcF_more f (x / 2) (by rw [Nat.pow_succ] at h; omega)]
theorem pc_step (x : Nat) (h : x < 2 ^ 63) : pc x = x % 2 + pc (x / 2) := by
  show x % 2 + pcF 63 (x / 2) = x % 2 + pcF 64 (x / 2)
  rw [pcF_more 63 (x / 2) (by omega)]
theorem pc_even (x : Nat) (h : x < 2 ^ 62) : pc (2 * x) = pc x := by
  rw [pc_step (2 * x) (by omega), show 2 * x % 2 = 0 by omega, show 2 * x / 2 = x by omega, Nat.zero_add]
theorem pc_odd (x : Nat) (h : x < 2 ^ 62) : pc (2 * x + 1) = pc x + 1 := by
  rw [pc_step (2 * x + 1) (by omega), show (2 * x + 1) % 2 = 1 by omega, show (2 * x + 1) / 2 = x by omega, Nat.add_comm]
theorem pc_zero : pc 0 = 0 := by decide
theorem pcF_split : ∀ (k f d y : Nat), d < 2 ^ k → pcF (k + f) (2 ^ k * y + d) = pcF f y + pcF k d
  | 0, f, d, y, h => by simp at h; subst h; simp [pcF]
  | k + 1, f, d, y, h => by
    have e : k + 1 + f = (k + f) + 1 := by omega
    rw [e]
    show (2 ^ (k + 1) * y + d) % 2 + pcF (k + f) ((2 ^ (k + 1) * y + d) / 2) = pcF f y + (d % 2 + pcF k (d / 2))
    have h2 : 2 ^ (k + 1) * y = 2 * (2 ^ k * y) := by rw [Nat.pow_succ, Nat.mul_comm (2 ^ k) 2, Nat.mul_assoc]
    have e1 : (2 ^ (k + 1) * y + d) % 2 = d % 2 := by rw [h2]; omega
    have e2 : (2 ^ (k + 1) * y + d) / 2 = 2 ^ k * y + d / 2 := by rw [h2]; omega
    rw [e1, e2, pcF_split k f (d / 2) y (by rw [Nat.pow_succ] at h; omega)]
    omega
theorem pcF_big : ∀ (g f x : Nat), x < 2 ^ f → pcF (f + g) x = pcF f x
  | 0, _, _, _ => rfl
  | g + 1, f, x, h => by
    rw [show f + (g + 1) = (f + g) + 1 by omega, pcF_more (f + g) x (Nat.lt_of_lt_of_le h (Nat.pow_le_pow_right (by omega) (by omega))), pcF_big g f x h]
theorem pc_bytes (a b c : Nat) (ha : a < 256) (hb : b < 256) (hc : c < 256) : pc (256 * (256 * c + b) + a) = pcF 8 a + pcF 8 b + pcF 8 c := by
  have e1 : pcF 64 (2 ^ 8 * (2 ^ 8 * c + b) + a) = pcF 56 (2 ^ 8 * c + b) + pcF 8 a := pcF_split 8 56 a _ (by omega)
  have e2 : pcF 56 (2 ^ 8 * c + b) = pcF 48 c + pcF 8 b := pcF_split 8 48 b _ (by omega)
  have e3 : pcF 48 c = pcF 8 c := pcF_big 40 8 c (by omega)
  unfold pc
  rw [show 256 * (256 * c + b) + a = 2 ^ 8 * (2 ^ 8 * c + b) + a by omega, e1, e2, e3]
  omega
theorem land_split (k y c m d : Nat) (hc : c < 2 ^ k) (hd : d < 2 ^ k) : (2 ^ k * y + c) &&& (2 ^ k * m + d) = 2 ^ k * (y &&& m) + (c &&& d) := by
  have hcd : c &&& d < 2 ^ k := Nat.lt_of_le_of_lt Nat.and_le_left hc
  apply Nat.eq_of_testBit_eq
  intro i
  rw [Nat.testBit_and, Nat.testBit_two_pow_mul_add _ hc, Nat.testBit_two_pow_mul_add _ hd, Nat.testBit_two_pow_mul_add _ hcd]
  by_cases h : i < k
  · rw [if_pos h, if_pos h, if_pos h, Nat.testBit_and]
  · rw [if_neg h, if_neg h, if_neg h, Nat.testBit_and]
def S1 (m x : Nat) : Nat := (x / 2 &&& m) + (x &&& m)
def S2 (m x : Nat) : Nat := (x / 4 &&& m) + (x &&& m)
def S3 (m x : Nat) : Nat := (x / 16 + x) &&& m
theorem b1 : ∀ d : Fin 256, ∀ r : Fin 2, (128 * r.val + d.val / 2) &&& 85 = (d.val / 2) &&& 85 := by decide +kernel
theorem b2 : ∀ d : Fin 256, ∀ r : Fin 4, (64 * r.val + d.val / 4) &&& 51 = (d.val / 4) &&& 51 := by decide +kernel
theorem S1_split (m y d : Nat) (hd : d < 256) : S1 (256 * m + 85) (256 * y + d) = 256 * S1 m y + S1 85 d := by
  unfold S1
  have e1 : (256 * y + d) / 2 = 2 ^ 8 * (y / 2) + (128 * (y % 2) + d / 2) := by omega
  have e2 := land_split 8 (y / 2) (128 * (y % 2) + d / 2) m 85 (by omega) (by omega)
  have e3 := land_split 8 y d m 85 (by omega) (by omega)
  have e4 := b1 ⟨d, hd⟩ ⟨y % 2, by omega⟩
  simp only at e4
  rw [e1, show 256 * m + 85 = 2 ^ 8 * m + 85 by omega, e2, show 256 * y + d = 2 ^ 8 * y + d by omega, e3, e4]
  omega
theorem S2_split (m y d : Nat) (hd : d < 256) : S2 (256 * m + 51) (256 * y + d) = 256 * S2 m y + S2 51 d := by
  unfold S2
  have e1 : (256 * y + d) / 4 = 2 ^ 8 * (y / 4) + (64 * (y % 4) + d / 4) := by omega
  have e2 := land_split 8 (y / 4) (64 * (y % 4) + d / 4) m 51 (by omega) (by omega)
  have e3 := land_split 8 y d m 51 (by omega) (by omega)
  have e4 := b2 ⟨d, hd⟩ ⟨y % 4, by omega⟩
  simp only at e4
  rw [e1, show 256 * m + 51 = 2 ^ 8 * m + 51 by omega, e2, show 256 * y + d = 2 ^ 8 * y + d by omega, e3, e4]
  omega
theorem and15 (x : Nat) : x &&& 15 = x % 16 := Nat.and_two_pow_sub_one_eq_mod x 4
theorem S3_split (m y d : Nat) (hy : y % 16 ≤ 4) (h1 : d % 16 ≤ 4) (h2 : d / 16 ≤ 4) : S3 (256 * m + 15) (256 * y + d) = 256 * S3 m y + S3 15 d := by
  unfold S3
  have e1 : (256 * y + d) / 16 + (256 * y + d) = 2 ^ 8 * (y / 16 + y) + (16 * (y % 16) + (d / 16 + d)) := by omega
  have e2 := land_split 8 (y / 16 + y) (16 * (y % 16) + (d / 16 + d)) m 15 (by omega) (by omega)
  rw [e1, show 256 * m + 15 = 2 ^ 8 * m + 15 by omega, e2, and15, and15]
  omega
theorem byteOk : ∀ d : Fin 256, S1 85 d.val < 256 ∧ S2 51 (S1 85 d.val) < 256 ∧ S2 51 (S1 85 d.val) % 16 ≤ 4 ∧ S2 51 (S1 85 d.val) / 16 ≤ 4 ∧ S3 15 (S2 51 (S1 85 d.val)) = pcF 8 d.val ∧ pcF 8 d.val ≤ 8 := by decide +kernel
theorem S_zero (m : Nat) : S1 m 0 = 0 ∧ S2 m 0 = 0 ∧ S3 m 0 = 0 := by simp [S1, S2, S3]
theorem swar (a b c : Nat) (ha : a < 256) (hb : b < 256) (hc : c < 256) : S3 1085102592571150095 (S2 3689348814741910323 (S1 6148914691236517205 (256 * (256 * c + b) + a))) = 256 * (256 * pcF 8 c + pcF 8 b) + pcF 8 a := by
  obtain ⟨a1, a2, a3, a4, a5, a6⟩ := byteOk ⟨a, ha⟩
  obtain ⟨b1, b2, b3, b4, b5, b6⟩ := byteOk ⟨b, hb⟩
  obtain ⟨c1, c2, c3, c4, c5, c6⟩ := byteOk ⟨c, hc⟩
  simp only at a1 a2 a3 a4 a5 a6 b1 b2 b3 b4 b5 b6 c1 c2 c3 c4 c5 c6
  have e1 : S1 6148914691236517205 (256 * (256 * c + b) + a) = 256 * (256 * S1 85 c + S1 85 b) + S1 85 a := by
    have q := S1_split (256 * (256 * 366503875925 + 85) + 85) (256 * c + b) a ha
    have q2 := S1_split (256 * 366503875925 + 85) c b hb
    have q3 := S1_split 366503875925 0 c hc
    rw [(S_zero 366503875925).1] at q3
    simp only [Nat.mul_zero, Nat.zero_add] at q3
    rw [q3] at q2
    rw [q2] at q
    exact q
  have e2 : S2 3689348814741910323 (256 * (256 * S1 85 c + S1 85 b) + S1 85 a) = 256 * (256 * S2 51 (S1 85 c) + S2 51 (S1 85 b)) + S2 51 (S1 85 a) := by
    have q := S2_split (256 * (256 * 219902325555 + 51) + 51) (256 * S1 85 c + S1 85 b) (S1 85 a) a1
    have q2 := S2_split (256 * 219902325555 + 51) (S1 85 c) (S1 85 b) b1
    have q3 := S2_split 219902325555 0 (S1 85 c) c1
    rw [(S_zero 219902325555).2.1] at q3
    simp only [Nat.mul_zero, Nat.zero_add] at q3
    rw [q3] at q2
    rw [q2] at q
    exact q
  have e3 : S3 1085102592571150095 (256 * (256 * S2 51 (S1 85 c) + S2 51 (S1 85 b)) + S2 51 (S1 85 a)) = 256 * (256 * S3 15 (S2 51 (S1 85 c)) + S3 15 (S2 51 (S1 85 b))) + S3 15 (S2 51 (S1 85 a)) := by
    have q := S3_split (256 * (256 * 64677154575 + 15) + 15) (256 * S2 51 (S1 85 c) + S2 51 (S1 85 b)) (S2 51 (S1 85 a)) (by omega) a3 a4
    have q2 := S3_split (256 * 64677154575 + 15) (S2 51 (S1 85 c)) (S2 51 (S1 85 b)) c3 b3 b4
    have q3 := S3_split 64677154575 0 (S2 51 (S1 85 c)) (by omega) c3 c4
    rw [(S_zero 64677154575).2.2] at q3
    simp only [Nat.mul_zero, Nat.zero_add] at q3
    rw [q3] at q2
    rw [q2] at q
    exact q
  rw [e1, e2, e3, a5, b5, c5]
theorem u64_id {n : Int} (h0 : 0 ≤ n) (h1 : n < 18446744073709551616) : IntKind.u64.wrap n = n := by
  simp only [IntKind.wrap, IntKind.bits, IntKind.signed, Bool.false_eq_true, false_and, if_false]
  simp
  omega
theorem uand {a b : Nat} (ha : a < 18446744073709551616) (hb : b < 18446744073709551616) : Go.bits .and .u64 (a : Int) (b : Int) = ((a &&& b : Nat) : Int) := by
  have hle : a &&& b ≤ a := Nat.and_le_left
  have e : ((BitVec.ofInt 64 (a : Int)) &&& (BitVec.ofInt 64 (b : Int))).toNat = a &&& b := by
    rw [BitVec.toNat_and, BitVec.ofInt_natCast, BitVec.ofInt_natCast, BitVec.toNat_ofNat, BitVec.toNat_ofNat, show (2 : Nat) ^ 64 = 18446744073709551616 from by decide, Nat.mod_eq_of_lt ha, Nat.mod_eq_of_lt hb]
  show IntKind.u64.wrap ((((BitVec.ofInt 64 (a : Int)) &&& (BitVec.ofInt 64 (b : Int))).toNat : Nat) : Int) = _
  rw [e, u64_id (by omega) (by omega)]
theorem iand {a b : Nat} (ha : a < 4611686018427387904) (hb : b < 4611686018427387904) : Go.bits .and .i64 (a : Int) (b : Int) = ((a &&& b : Nat) : Int) := by
  have hle : a &&& b ≤ a := Nat.and_le_left
  have e : ((BitVec.ofInt 64 (a : Int)) &&& (BitVec.ofInt 64 (b : Int))).toNat = a &&& b := by
    rw [BitVec.toNat_and, BitVec.ofInt_natCast, BitVec.ofInt_natCast, BitVec.toNat_ofNat, BitVec.toNat_ofNat, show (2 : Nat) ^ 64 = 18446744073709551616 from by decide, Nat.mod_eq_of_lt (by omega), Nat.mod_eq_of_lt (by omega)]
  show IntKind.i64.wrap ((((BitVec.ofInt 64 (a : Int)) &&& (BitVec.ofInt 64 (b : Int))).toNat : Nat) : Int) = _
  rw [e, IntWalk.i64_in _ (by omega)]
theorem S1_le (m x : Nat) : S1 m x ≤ x / 2 + x := Nat.add_le_add Nat.and_le_left Nat.and_le_left
theorem S2_le (m x : Nat) : S2 m x ≤ x / 4 + x := Nat.add_le_add Nat.and_le_left Nat.and_le_left
theorem onesCount_val {n : Nat} (h : n < 16777216) : bits_OnesCount64.f (n : Int) = some (pc n : Int) := by
  obtain ⟨a, b, c, ha, hb, hc, rfl⟩ : ∃ a b c : Nat, a < 256 ∧ b < 256 ∧ c < 256 ∧ n = 256 * (256 * c + b) + a := ⟨n % 256, n / 256 % 256, n / 65536, by omega, by omega, by omega, by omega⟩
  have hsw := swar a b c ha hb hc
  rw [pc_bytes a b c ha hb hc]
  have qa := (byteOk ⟨a, ha⟩).2.2.2.2.2
  have qb := (byteOk ⟨b, hb⟩).2.2.2.2.2
  have qc := (byteOk ⟨c, hc⟩).2.2.2.2.2
  simp only at qa qb qc
  generalize pcF 8 a = pa at *
  generalize pcF 8 b = pb at *
  generalize pcF 8 c = pcc at *
  generalize 256 * (256 * c + b) + a = n at *
  have l1 := S1_le 6148914691236517205 n
  have e1 : IntKind.u64.wrap (Go.bits .and .u64 ((n : Int) / 2) 6148914691236517205 + Go.bits .and .u64 (n : Int) 6148914691236517205) = (S1 6148914691236517205 n : Int) := by
    have q1 := uand (a := n / 2) (b := 6148914691236517205) (by omega) (by omega)
    have q2 := uand (a := n) (b := 6148914691236517205) (by omega) (by omega)
    have q3 : ((n / 2 : Nat) : Int) = (n : Int) / 2 := by omega
    rw [q3] at q1
    rw [show ((6148914691236517205 : Nat) : Int) = 6148914691236517205 from rfl] at q1 q2
    rw [q1, q2]
    have q4 : (((n / 2 &&& 6148914691236517205 : Nat) : Int) + ((n &&& 6148914691236517205 : Nat) : Int)) = (S1 6148914691236517205 n : Int) := by unfold S1; omega
    rw [q4, u64_id (by omega) (by omega)]
  generalize hx1 : S1 6148914691236517205 n = x1 at *
  have l2 := S2_le 3689348814741910323 x1
  have e2 : IntKind.u64.wrap (Go.bits .and .u64 ((x1 : Int) / 4) 3689348814741910323 + Go.bits .and .u64 (x1 : Int) 3689348814741910323) = (S2 3689348814741910323 x1 : Int) := by
    have q1 := uand (a := x1 / 4) (b := 3689348814741910323) (by omega) (by omega)
    have q2 := uand (a := x1) (b := 3689348814741910323) (by omega) (by omega)
    have q3 : ((x1 / 4 : Nat) : Int) = (x1 : Int) / 4 := by omega
    rw [q3] at q1
    rw [show ((3689348814741910323 : Nat) : Int) = 3689348814741910323 from rfl] at q1 q2
    rw [q1, q2]
    have q4 : (((x1 / 4 &&& 3689348814741910323 : Nat) : Int) + ((x1 &&& 3689348814741910323 : Nat) : Int)) = (S2 3689348814741910323 x1 : Int) := by unfold S2; omega
    rw [q4, u64_id (by omega) (by omega)]
  generalize hx2 : S2 3689348814741910323 x1 = x2 at *
  have e3 : Go.bits .and .u64 (IntKind.u64.wrap ((x2 : Int) / 16 + (x2 : Int))) 1085102592571150095 = ((256 * (256 * pcc + pb) + pa : Nat) : Int) := by
    have q1 := uand (a := x2 / 16 + x2) (b := 1085102592571150095) (by omega) (by omega)
    have q3 : ((x2 / 16 + x2 : Nat) : Int) = (x2 : Int) / 16 + (x2 : Int) := by omega
    rw [q3] at q1
    rw [show ((1085102592571150095 : Nat) : Int) = 1085102592571150095 from rfl] at q1
    rw [u64_id (by omega) (by omega), q1]
    rw [← hsw]; rfl
  clear hx1 hx2 hsw l1 l2
  generalize hx3 : 256 * (256 * pcc + pb) + pa = x3 at *
  have e4 : IntKind.u64.wrap ((x3 : Int) + (x3 : Int) / 256) = ((x3 + x3 / 256 : Nat) : Int) := by
    rw [u64_id (by omega) (by omega)]; omega
  generalize hx4 : x3 + x3 / 256 = x4 at *
  have e5 : IntKind.u64.wrap ((x4 : Int) + (x4 : Int) / 65536) = ((x4 + x4 / 65536 : Nat) : Int) := by
    rw [u64_id (by omega) (by omega)]; omega
  generalize hx5 : x4 + x4 / 65536 = x5 at *
  have e6 : IntKind.u64.wrap ((x5 : Int) + (x5 : Int) / 4294967296) = (x5 : Int) := by
    rw [u64_id (by omega) (by omega)]; omega
  have e7 : Go.bits .and .i64 (x5 : Int) 127 = ((pa + pb + pcc : Nat) : Int) := by
    have q := iand (a := x5) (b := 127) (by omega) (by omega)
    rw [show ((127 : Nat) : Int) = 127 from rfl] at q
    have y1 : x4 = 65536 * pcc + 256 * (pb + pcc) + (pa + pb) := by omega
    have y2 : x5 = 65536 * pcc + 256 * (pb + pcc) + (pa + pb + pcc) := by omega
    have y3 : x5 % 128 = pa + pb + pcc := by omega
    rw [q, show x5 &&& 127 = x5 % 128 from Nat.and_two_pow_sub_one_eq_mod x5 7, y3]
  unfold bits_OnesCount64.f
  rw [e1, e2, e3, e4, e5, e6, wid (x := (x5 : Int)) (by omega) (by omega), e7]
theorem bl_bounds : ∀ (f x : Nat), x < 2 ^ f → x < 2 ^ (Go.Lib.bitLenAux f x) ∧ (x ≠ 0 → 1 ≤ Go.Lib.bitLenAux f x ∧ 2 ^ (Go.Lib.bitLenAux f x - 1) ≤ x)
  | 0, x, h => by simp at h; subst h; simp [Go.Lib.bitLenAux]
  | f + 1, x, h => by
    unfold Go.Lib.bitLenAux
    by_cases h0 : x = 0
    · simp [h0]
    · rw [if_neg h0]
      have ih := bl_bounds f (x / 2) (by rw [Nat.pow_succ] at h; omega)
      refine ⟨?_, fun _ => ⟨by omega, ?_⟩⟩
      · rw [Nat.add_comm, Nat.pow_succ]; omega
      · by_cases h1 : x / 2 = 0
        · have : x = 1 := by omega
          subst this
          rw [h1]
          cases f <;> simp [Go.Lib.bitLenAux]
        · have := ih.2 h1
          have e : 1 + Go.Lib.bitLenAux f (x / 2) - 1 = (Go.Lib.bitLenAux f (x / 2) - 1) + 1 := by omega
          rw [e, Nat.pow_succ]; omega
def bl (n : Nat) : Nat := Go.Lib.bitLen n
theorem bl_lt {n : Nat} (h : n < 2 ^ 64) : n < 2 ^ bl n := (bl_bounds 64 n h).1
theorem bl_ge {n i : Nat} (h : n < 2 ^ 64) (hi : i < bl n) : 2 ^ i ≤ n := by
  by_cases h0 : n = 0
  · subst h0; have e : bl 0 = 0 := by decide
    omega
  · have := (bl_bounds 64 n h).2 h0
    have e : bl n = Go.Lib.bitLenAux 64 n := rfl
    exact Nat.le_trans (Nat.pow_le_pow_right (by omega) (by omega)) this.2
theorem bl_small {n : Nat} (h : n ≤ 1000000) : bl n ≤ 20 := by
  rcases Nat.lt_or_ge 20 (bl n) with h1 | h1
  · have := bl_ge (n := n) (i := 20) (by omega) h1; omega
  · exact h1
theorem shr_nat (n i : Nat) (hi : i ≤ 64) : shr .i64 (n : Int) (i : Int) = ((n / 2 ^ i : Nat) : Int) := by
  unfold shr
  rw [Int.toNat_natCast, Nat.min_eq_left (by simpa [IntKind.bits] using hi)]
  simp
theorem chLength_loop {n : Nat} (h : n ≤ 1000000) : ∀ (d i : Nat), i + d = bl n → Ev (fun k => spec_chLength.l0 k n i) (bl n : Int) := by
  have hs := bl_small h
  intro d
  induction d with
  | zero =>
    intro i hi
    have hlt := bl_lt (n := n) (by omega)
    have e : n / 2 ^ i = 0 := Nat.div_eq_of_lt (by rw [show i = bl n by omega]; exact hlt)
    refine up ?_
    simp only [spec_chLength.l0, if_pos (show (0 : Int) ≤ (i : Int) by omega), shr_nat n i (by omega), e, if_neg (show ¬ ((0 : Nat) : Int) > 0 by omega)]
    rw [show i = bl n by omega]
    exact Ev.now _
  | succ d ih =>
    intro i hi
    have hge := bl_ge (n := n) (i := i) (by omega) (by omega)
    have e : 0 < n / 2 ^ i := Nat.div_pos hge (Nat.pow_pos (by omega))
    refine up ?_
    simp only [spec_chLength.l0, if_pos (show (0 : Int) ≤ (i : Int) by omega), shr_nat n i (by omega), if_pos (show ((n / 2 ^ i : Nat) : Int) > 0 by omega), wid (x := (i : Int) + 1) (by omega) (by omega)]
    exact ih (i + 1) (by omega)
theorem chLength_val {n : Nat} (h : n ≤ 1000000) : Ev (fun k => spec_chLength.f k n) (bl n : Int) := chLength_loop h (bl n) 0 (by omega)
theorem sameInts_loop (l : List Int) (hl : l.length ≤ 1000000) : ∀ (d i : Nat), i + d = l.length → Ev (fun k => laws_pSameInts.l0 k l l (l.length : Int) i) true := by
  intro d
  induction d with
  | zero =>
    intro i h
    refine up ?_
    simp only [laws_pSameInts.l0, if_neg (show ¬ (i : Int) < (l.length : Int) by omega)]
    exact Ev.now _
  | succ d ih =>
    intro i h
    refine up ?_
    simp only [laws_pSameInts.l0, if_pos (show (i : Int) < (l.length : Int) by omega), if_pos (show (0 : Int) ≤ (i : Int) by omega), wid (x := (i : Int) + 1) (by omega) (by omega), if_true]
    exact ih (i + 1) (by omega)
theorem sameInts (l : List Int) (hl : l.length ≤ 1000000) : Ev (fun k => laws_pSameInts.f k l l) true := by
  simp only [laws_pSameInts.f, if_true]
  exact sameInts_loop l hl l.length 0 (by omega)
/-! TogetherPlan: the reference's answers, the exponents and the cost. -/
theorem tg_shr {x : Int} {j : Nat} (h0 : 0 ≤ x) (hj : j ≤ 60) : (Int.tmod (shr .i64 x j) 2 = 0) ↔ ¬ (x.toNat / 2 ^ j % 2 = 1) := by
  obtain ⟨n, rfl⟩ : ∃ n : Nat, x = (n : Int) := ⟨x.toNat, by omega⟩
  rw [Int.toNat_natCast, shr_nat n j (by omega)]
  generalize n / 2 ^ j = q
  have h2 : Int.tmod (q : Int) 2 = (q : Int) % 2 := Int.tmod_eq_emod_of_nonneg (by omega)
  rw [h2]
  omega
theorem mkTimes_len (inp : Int) (s : List S79 × Int) (b : Int) : (mkTimes inp s b).1.length ≤ s.1.length + 1 := by
  unfold mkTimes
  split <;> simp
theorem tg_l1 (l : List Int) (hb : ∀ x ∈ l, 0 ≤ x ∧ x ≤ 1000000) (hl : l.length ≤ 6) (j : Nat) (hj : j ≤ 20) (R : Int × List S79 × List Int × Bool) : ∀ (d k : Nat) (s : List S79 × Int), k + d = l.length → s.1.length + d ≤ 1000 →
    (s.1.length + d ≤ 1000 → Ev (fun q => spec_TogetherPlan.l0 q l (tpRow (l.length : Int) j (l.drop k) k s).2 ((j : Int) - 1) (l.length : Int) (tpRow (l.length : Int) j (l.drop k) k s).1 []) R) →
    Ev (fun q => spec_TogetherPlan.l1 q l s.2 j l (l.length : Int) k (l.length : Int) s.1 []) R := by
  intro d
  induction d with
  | zero =>
    intro k s h hs hr
    refine up ?_
    simp only [spec_TogetherPlan.l1, if_neg (show ¬ (k : Int) < (l.length : Int) by omega), wid (x := (j : Int) - 1) (by omega) (by omega)]
    have := hr hs
    rw [List.drop_of_length_le (by omega)] at this
    exact this
  | succ d ih =>
    intro k s h hs hr
    have hk : k < l.length := by omega
    have hx := hb l[k] (List.getElem_mem hk)
    have hsh := tg_shr (x := l[k]) (j := j) hx.1 (by omega)
    refine up ?_
    simp only [spec_TogetherPlan.l1, if_pos (show (k : Int) < (l.length : Int) by omega), if_pos (show (0 : Int) ≤ (k : Int) by omega), if_pos (show (0 : Int) ≤ (j : Int) by omega), rd_at hk, wid (x := (k : Int) + 1) (by omega) (by omega)]
    have hrow : tpRow (l.length : Int) j (l.drop k) k s = tpRow (l.length : Int) j (l.drop (k + 1)) (k + 1) (if l[k].toNat / 2 ^ j % 2 = 1 then mkTimes (l.length : Int) s (k : Int) else s) := by
      rw [List.drop_eq_getElem_cons hk]; rfl
    rw [hrow] at hr
    by_cases hbit : l[k].toNat / 2 ^ j % 2 = 1
    · rw [if_pos hbit] at hr
      simp only [if_neg (show ¬ Int.tmod (shr .i64 l[k] j) 2 = 0 from fun e => hsh.1 e hbit)]
      have hlen := mkTimes_len (l.length : Int) s (k : Int)
      have := ih (k + 1) (mkTimes (l.length : Int) s (k : Int)) (by omega) (by omega) (fun _ => hr hs)
      unfold mkTimes at this
      by_cases h0 : s.2 < 0
      · rw [if_pos h0] at this
        simp only [if_pos h0]
        exact this
      · rw [if_neg h0] at this
        simp only [if_neg h0, meTimes_val (l.length : Int) s.1 [] s.2 (k : Int) (by omega) (by omega), Option.bind_some]
        exact this
    · rw [if_neg hbit] at hr
      simp only [if_pos (hsh.2 hbit)]
      exact ih (k + 1) s (by omega) (by omega) (fun _ => hr (by omega))
theorem tpRow_len (inp : Int) (i : Nat) : ∀ (r : List Int) (k : Nat) (s : List S79 × Int), (tpRow inp i r k s).1.length ≤ s.1.length + r.length
  | [], _, _ => by simp [tpRow]
  | n :: r, k, s => by
    unfold tpRow
    have h1 := tpRow_len inp i r (k + 1) (if n.toNat / 2 ^ i % 2 = 1 then mkTimes inp s (k : Int) else s)
    have h2 := mkTimes_len inp s (k : Int)
    rw [List.length_cons]
    split at h1
    · rw [if_pos (by assumption)]; omega
    · rw [if_neg (by assumption)]; omega
theorem tpSq_len (inp : Int) (s : List S79 × Int) : (tpSq inp s).1.length ≤ s.1.length + 1 := by
  unfold tpSq
  split <;> simp
theorem tg_l0 (l : List Int) (hb : ∀ x ∈ l, 0 ≤ x ∧ x ≤ 1000000) (hl : l.length ≤ 6) : ∀ (j : Nat) (s : List S79 × Int), j ≤ 20 → s.1.length + 7 * j ≤ 900 →
    Ev (fun q => spec_TogetherPlan.l0 q l s.2 ((j : Int) - 1) (l.length : Int) s.1 []) (toldV (l.length : Int) (tpLoop (l.length : Int) l j s).1 [(tpLoop (l.length : Int) l j s).2]) := by
  intro j
  induction j with
  | zero =>
    intro s _ _
    refine up ?_
    simp only [spec_TogetherPlan.l0, if_neg (show ¬ ((0 : Nat) : Int) - 1 ≥ 0 by omega), spec_meEnd.f, Option.bind_some]
    exact Ev.bind (plIf_val _ _ _) (Ev.now _)
  | succ j ih =>
    intro s hj hs
    have hsl := tpSq_len (l.length : Int) s
    have hrl := tpRow_len (l.length : Int) j l 0 (tpSq (l.length : Int) s)
    have hnext := tg_l1 l hb hl j (by omega) _ l.length 0 (tpSq (l.length : Int) s) (by omega) (by omega) (fun _ => by
      rw [List.drop_zero]
      exact ih (tpRow (l.length : Int) j l 0 (tpSq (l.length : Int) s)) (by omega) (by omega))
    refine up ?_
    simp only [spec_TogetherPlan.l0, show ((j + 1 : Nat) : Int) - 1 = (j : Int) by omega, if_pos (show (j : Int) ≥ 0 by omega)]
    unfold tpSq at hnext
    by_cases h0 : 0 ≤ s.2
    · rw [if_pos h0] at hnext
      simp only [if_pos (show s.2 ≥ 0 from h0), meTimes_val (l.length : Int) s.1 [] s.2 s.2 (by omega) (by omega), Option.bind_some]
      refine up ?_
      simp only [spec_TogetherPlan.j2]
      rw [show tpLoop (l.length : Int) l (j + 1) s = tpLoop (l.length : Int) l j (tpRow (l.length : Int) j l 0 (tpSq (l.length : Int) s)) from rfl]
      unfold tpSq
      rw [if_pos h0]
      exact hnext
    · rw [if_neg h0] at hnext
      simp only [if_neg (show ¬ s.2 ≥ 0 from h0)]
      refine up ?_
      simp only [spec_TogetherPlan.j2]
      rw [show tpLoop (l.length : Int) l (j + 1) s = tpLoop (l.length : Int) l j (tpRow (l.length : Int) j l 0 (tpSq (l.length : Int) s)) from rfl]
      unfold tpSq
      rw [if_neg h0]
      exact hnext
theorem tg_most_loop (l : List Int) (hl : l.length ≤ 1000) : ∀ (d i : Nat) (a : Int), i + d = l.length → Ev (fun q => spec_meGreatest.l0 q a l (l.length : Int) i) ((l.drop i).foldl max a) := by
  intro d
  induction d with
  | zero =>
    intro i a h
    refine up ?_
    simp only [spec_meGreatest.l0, if_neg (show ¬ (i : Int) < (l.length : Int) by omega)]
    rw [List.drop_of_length_le (by omega)]
    exact Ev.now _
  | succ d ih =>
    intro i a h
    have hi : i < l.length := by omega
    refine up ?_
    have e2 : ∀ b, spec_l1Most.f a b = some (max a b) := fun b => by
      unfold spec_l1Most.f
      split
      · rw [Int.max_eq_left (by omega)]
      · rw [Int.max_eq_right (by omega)]
    simp only [spec_meGreatest.l0, if_pos (show (i : Int) < (l.length : Int) by omega), if_pos (show (0 : Int) ≤ (i : Int) by omega), e2, Option.bind_some, rd_at hi, wid (x := (i : Int) + 1) (by omega) (by omega)]
    rw [List.drop_eq_getElem_cons hi, List.foldl_cons]
    exact ih (i + 1) _ (by omega)
theorem tg_most {l : List Int} (hl : l.length ≤ 1000) (hp : 1 ≤ l.length) (hb : ∀ x ∈ l, 0 ≤ x) : Ev (fun q => spec_meGreatest.f q l) (Go.Lib.maxOf l) := by
  have := tg_most_loop l hl l.length 0 0 (by omega)
  rw [List.drop_zero] at this
  have e : Go.Lib.maxOf l = l.foldl max 0 := by
    cases l with
    | nil => simp at hp
    | cons x l =>
      have hx := hb x (List.mem_cons_self ..)
      show (x :: l).foldl max x = (x :: l).foldl max 0
      rw [List.foldl_cons, List.foldl_cons, Int.max_self, Int.max_eq_right hx]
  rw [e]
  exact this
def togV (l : List Int) : Int × List S79 × List Int × Bool := if (1 ≤ (l.length : Int) ∧ (l.length : Int) ≤ 6) ∧ l.any tpBad = false ∧ Go.Lib.maxOf l ≠ 0 then toldV (l.length : Int) (tpAll l).1 [(tpAll l).2] else (0, [], [], false)
theorem tg_impl (l : List Int) : impl_TogetherPlan.f l = some (togV l) := by
  unfold impl_TogetherPlan.f togV
  split
  · exact told_val _ _ _
  · rfl
theorem tg_bad (l : List Int) : l.any tpBad = !(allIn 0 1000000 l) := by
  unfold allIn
  induction l with
  | nil => rfl
  | cons x l ih => rw [List.any_cons, List.all_cons, ih, Bool.not_and]; rfl
theorem tg_all {l : List Int} (h : allIn 0 1000000 l = true) : ∀ x ∈ l, 0 ≤ x ∧ x ≤ 1000000 := fun x hx => by
  unfold allIn at h
  have := List.all_eq_true.1 h x hx
  simpa using this
theorem tg_spec (l : List Int) (hl : l.length ≤ 1000) : Ev (fun q => spec_TogetherPlan.f q l) (togV l) := by
  have hno : togV l = (0, [], [], false) → Ev (fun q => spec_TogetherPlan.j0 q l true) (togV l) := fun h => by
    rw [h]
    refine up ?_
    simp only [spec_TogetherPlan.j0, if_true]
    exact Ev.now _
  simp only [spec_TogetherPlan.f, l1In_val, Option.bind_some]
  by_cases h1 : 1 ≤ (l.length : Int) ∧ (l.length : Int) ≤ 6
  · rw [decide_eq_true h1.1, decide_eq_true h1.2]
    simp only [Bool.and_self, if_true]
    refine Ev.bind (l1All_val 0 1000000 l (by omega)) ?_
    cases ha : allIn 0 1000000 l with
    | false =>
      simp only [Bool.false_eq_true, if_false]
      exact hno (by unfold togV; rw [tg_bad, ha]; simp)
    | true =>
      have hb := tg_all ha
      simp only [if_true]
      refine Ev.bind (tg_most hl (by omega) (fun x hx => (hb x hx).1)) ?_
      by_cases h3 : Go.Lib.maxOf l = 0
      · rw [h3]
        exact hno (by unfold togV; rw [if_neg (fun h => h.2.2 h3)])
      · have e3 : (Go.Lib.maxOf l == 0) = false := beq_eq_false_iff_ne.2 h3
        rw [e3]
        obtain ⟨m, hm1, hm2, hm3⟩ := tp_maxOf h1.1 (by rw [tg_bad, ha]; rfl : l.any tpBad = false)
        refine up ?_
        simp only [spec_TogetherPlan.j0, Bool.false_eq_true, if_false]
        refine Ev.bind (tg_most hl (by omega) (fun x hx => (hb x hx).1)) ?_
        rw [hm1]
        refine Ev.bind (chLength_val hm2) ?_
        have hbl : bl m ≤ 20 := hm3
        have hw : wrap64 ((bl m : Int) - 1) = (bl m : Int) - 1 := wid (by omega) (by omega)
        rw [hw]
        have := tg_l0 l hb (by omega) (bl m) ([], -1) hbl (by simp; omega)
        unfold togV
        rw [if_pos ⟨h1, by rw [tg_bad, ha]; rfl, h3⟩]
        unfold tpAll
        rw [hm1, Int.toNat_natCast]
        exact this
  · have e : (decide (1 ≤ (l.length : Int)) && decide ((l.length : Int) ≤ 6)) = false := by
      rw [Bool.eq_false_iff]
      intro hc
      rw [Bool.and_eq_true, decide_eq_true_iff, decide_eq_true_iff] at hc
      exact h1 hc
    rw [e]
    simp only [Bool.false_eq_true, if_false]
    exact hno (by unfold togV; rw [if_neg (fun h => h1 h.1)])
def sumTo : Nat → (Nat → Nat) → Nat
  | 0, _ => 0
  | n + 1, g => sumTo n g + g n
theorem sumTo_congr {f g : Nat → Nat} : ∀ (n : Nat), (∀ k, k < n → f k = g k) → sumTo n f = sumTo n g
  | 0, _ => rfl
  | n + 1, h => by
    unfold sumTo
    rw [sumTo_congr n (fun k hk => h k (by omega)), h n (by omega)]
theorem sumTo_one {g : Nat → Nat} (k : Nat) : ∀ (n : Nat), k < n → sumTo n (fun j => g j + if j = k then 1 else 0) = sumTo n g + 1
  | 0, h => by omega
  | n + 1, h => by
    unfold sumTo
    dsimp only
    by_cases hk : k < n
    · rw [sumTo_one k n hk, if_neg (show ¬ n = k by omega)]; omega
    · have e : n = k := by omega
      rw [if_pos e, sumTo_congr n (g := g) (fun j hj => by rw [if_neg (by omega)]; omega)]; omega
theorem sumTo_zero {g : Nat → Nat} : ∀ (n : Nat), (∀ k, k < n → g k = 0) → sumTo n g = 0
  | 0, _ => rfl
  | n + 1, h => by
    unfold sumTo
    rw [sumTo_zero n (fun k hk => h k (by omega)), h n (by omega)]
/-- What has been made: its exponents and how many steps. -/
def TgI (n : Nat) (s : List S79 × Int) (f : Nat → Nat) (sq : Nat) : Prop :=
  (s.2 < 0 → s.1 = [] ∧ sq = 0 ∧ ∀ k, k < n → f k = 0) ∧ (0 ≤ s.2 → s.2 < (n : Int) + s.1.length ∧ (exAll (n : Int) s.1).getD s.2.toNat [] = rowOf n f ∧ s.1.length + 1 = sq + sumTo n (fun k => pc (f k)))
theorem TgI_congr {n : Nat} {s : List S79 × Int} {f g : Nat → Nat} {sq : Nat} (h : TgI n s f sq) (e : ∀ k, k < n → f k = g k) : TgI n s g sq := by
  refine ⟨fun h0 => ?_, fun h0 => ?_⟩
  · obtain ⟨a, b, c⟩ := h.1 h0
    exact ⟨a, b, fun k hk => by rw [← e k hk]; exact c k hk⟩
  · obtain ⟨a, b, c⟩ := h.2 h0
    refine ⟨a, by rw [b, rowOf_congr e], by rw [c, sumTo_congr n (fun k hk => by rw [e k hk])]⟩
theorem TgI_times {n : Nat} {s : List S79 × Int} {f : Nat → Nat} {sq k : Nat} (h : TgI n s f sq) (hk : k < n) (he : f k % 2 = 0) (hb : ∀ j, j < n → f j ≤ 1000000) : TgI n (mkTimes (n : Int) s (k : Int)) (fun j => f j + if j = k then 1 else 0) sq ∧ 0 ≤ (mkTimes (n : Int) s (k : Int)).2 := by
  have hpc : sumTo n (fun j => pc (f j + if j = k then 1 else 0)) = sumTo n (fun j => pc (f j)) + 1 := by
    rw [← sumTo_one (g := fun j => pc (f j)) k n hk]
    refine sumTo_congr n (fun j hj => ?_)
    by_cases e : j = k
    · subst e
      simp only [if_true]
      have := hb j hj
      rw [show f j + 1 = 2 * (f j / 2) + 1 by omega, pc_odd _ (by omega), ← pc_even (f j / 2) (by omega), show 2 * (f j / 2) = f j by omega]
    · simp only [if_neg e, Nat.add_zero]
  unfold mkTimes
  by_cases h0 : s.2 < 0
  · rw [if_pos h0]
    obtain ⟨a, b, c⟩ := h.1 h0
    refine ⟨⟨fun h1 => absurd h1 (by show ¬ (k : Int) < 0; omega), fun _ => ⟨by show (k : Int) < _; omega, ?_, ?_⟩⟩, by show (0 : Int) ≤ (k : Int); omega⟩
    · show (exAll (n : Int) s.1).getD (k : Int).toNat [] = _
      rw [Int.toNat_natCast, exAll_unit n k s.1 hk, exUnit_row]
      exact rowOf_congr (fun j hj => by rw [c j hj]; omega)
    · show s.1.length + 1 = _
      rw [hpc, a, b, sumTo_zero n (fun j hj => by rw [c j hj]; exact pc_zero)]; rfl
  · rw [if_neg h0]
    obtain ⟨a, b, c⟩ := h.2 (by omega)
    refine ⟨⟨fun h1 => absurd h1 (by show ¬ (n : Int) + (s.1.length : Int) < 0; omega), fun _ => ⟨?_, ?_, ?_⟩⟩, by show 0 ≤ (n : Int) + (s.1.length : Int); omega⟩
    · show (n : Int) + (s.1.length : Int) < (n : Int) + ((s.1 ++ [_]).length : Int)
      rw [List.length_append, List.length_singleton]; omega
    · show (exAll (n : Int) (mkS s.1 s.2 (k : Int))).getD ((n : Int) + (s.1.length : Int)).toNat [] = _
      rw [exAll_last _ _ _ _ (by omega), b, Int.toNat_natCast, exAll_unit n k s.1 hk, exUnit_row, exRow_row]
      intro j hj
      have := hb j hj
      split <;> omega
    · show (s.1 ++ [_]).length + 1 = _
      rw [List.length_append, List.length_singleton, hpc]; omega
theorem TgI_sq {n : Nat} {s : List S79 × Int} {f : Nat → Nat} {sq : Nat} (h : TgI n s f sq) (hb : ∀ j, j < n → 2 * f j ≤ 1000000) : TgI n (tpSq (n : Int) s) (fun j => 2 * f j) (if 0 ≤ s.2 then sq + 1 else sq) ∧ (0 ≤ s.2 → 0 ≤ (tpSq (n : Int) s).2) := by
  unfold tpSq
  by_cases h0 : 0 ≤ s.2
  · rw [if_pos h0, if_pos h0]
    obtain ⟨a, b, c⟩ := h.2 h0
    refine ⟨⟨fun h1 => absurd h1 (by show ¬ (n : Int) + (s.1.length : Int) < 0; omega), fun _ => ⟨?_, ?_, ?_⟩⟩, fun _ => by show 0 ≤ (n : Int) + (s.1.length : Int); omega⟩
    · show (n : Int) + (s.1.length : Int) < (n : Int) + ((s.1 ++ [_]).length : Int)
      rw [List.length_append, List.length_singleton]; omega
    · show (exAll (n : Int) (mkS s.1 s.2 s.2)).getD ((n : Int) + (s.1.length : Int)).toNat [] = _
      rw [exAll_last _ _ _ _ (by omega), b, exRow_row]
      · exact rowOf_congr (fun j _ => by omega)
      · intro j hj
        have := hb j hj
        omega
    · show (s.1 ++ [_]).length + 1 = _
      rw [List.length_append, List.length_singleton]
      have : sumTo n (fun k => pc (2 * f k)) = sumTo n (fun k => pc (f k)) := sumTo_congr n (fun k hk => pc_even _ (by have := hb k hk; omega))
      rw [this]; omega
  · rw [if_neg h0, if_neg h0]
    obtain ⟨a, b, c⟩ := h.1 (by omega)
    exact ⟨⟨fun _ => ⟨a, b, fun k hk => by show 2 * f k = 0; rw [c k hk]⟩, fun h1 => absurd h1 h0⟩, fun h1 => absurd h1 h0⟩
def tgX (l : List Int) (j : Nat) : Nat := (l.getD j 0).toNat
theorem tgX_le {l : List Int} (hb : ∀ x ∈ l, 0 ≤ x ∧ x ≤ 1000000) (j : Nat) : tgX l j ≤ 1000000 := by
  unfold tgX
  rw [List.getD_eq_getElem?_getD]
  by_cases h : j < l.length
  · rw [List.getElem?_eq_getElem h]
    have := hb _ (List.getElem_mem h)
    simp only [Option.getD_some]; omega
  · rw [List.getElem?_eq_none (by omega)]; simp
theorem tg_half (x i : Nat) : x / 2 ^ i = 2 * (x / 2 ^ (i + 1)) + x / 2 ^ i % 2 := by
  rw [Nat.pow_succ, ← Nat.div_div_eq_div_mul]; omega
theorem div_le (x i : Nat) (h : x ≤ 1000000) : x / 2 ^ i ≤ 1000000 := Nat.le_trans (Nat.div_le_self _ _) h
theorem tg_row {l : List Int} (hb : ∀ x ∈ l, 0 ≤ x ∧ x ≤ 1000000) (i sq : Nat) : ∀ (d k : Nat) (s : List S79 × Int), k + d = l.length →
    TgI l.length s (fun j => if j < k then tgX l j / 2 ^ i else 2 * (tgX l j / 2 ^ (i + 1))) sq → TgI l.length (tpRow (l.length : Int) i (l.drop k) k s) (fun j => tgX l j / 2 ^ i) sq ∧ (0 ≤ s.2 → 0 ≤ (tpRow (l.length : Int) i (l.drop k) k s).2) := by
  intro d
  induction d with
  | zero =>
    intro k s h hI
    rw [List.drop_of_length_le (by omega)]
    exact ⟨TgI_congr hI (fun j hj => by rw [if_pos (by omega)]), fun h0 => h0⟩
  | succ d ih =>
    intro k s h hI
    have hk : k < l.length := by omega
    have hx : tgX l k = l[k].toNat := by
      unfold tgX
      rw [List.getD_eq_getElem?_getD, List.getElem?_eq_getElem hk]; rfl
    rw [List.drop_eq_getElem_cons hk]
    show TgI l.length (tpRow (l.length : Int) i (l.drop (k + 1)) (k + 1) (if l[k].toNat / 2 ^ i % 2 = 1 then mkTimes (l.length : Int) s (k : Int) else s)) _ _ ∧ (0 ≤ s.2 → 0 ≤ (tpRow (l.length : Int) i (l.drop (k + 1)) (k + 1) (if l[k].toNat / 2 ^ i % 2 = 1 then mkTimes (l.length : Int) s (k : Int) else s)).2)
    rw [← hx]
    have hh := tg_half (tgX l k) i
    by_cases hbit : tgX l k / 2 ^ i % 2 = 1
    · rw [if_pos hbit]
      have ht := TgI_times hI hk (by simp) (fun j hj => by
        have := tgX_le hb j
        have h1 := div_le (tgX l j) i this
        have h2 := tg_half (tgX l j) i
        show (if j < k then _ else _) ≤ _
        split <;> omega)
      have := ih (k + 1) (mkTimes (l.length : Int) s (k : Int)) (by omega) (TgI_congr ht.1 (fun j hj => by
        show (if j < k then tgX l j / 2 ^ i else 2 * (tgX l j / 2 ^ (i + 1))) + (if j = k then 1 else 0) = if j < k + 1 then tgX l j / 2 ^ i else 2 * (tgX l j / 2 ^ (i + 1))
        by_cases e : j = k
        · subst e
          rw [if_neg (by omega), if_pos rfl, if_pos (by omega)]; omega
        · by_cases e2 : j < k
          · rw [if_pos e2, if_neg e, if_pos (by omega)]; rfl
          · rw [if_neg e2, if_neg e, if_neg (by omega)]; rfl))
      exact ⟨this.1, fun _ => this.2 ht.2⟩
    · rw [if_neg hbit]
      refine ih (k + 1) s (by omega) (TgI_congr hI (fun j hj => ?_))
      by_cases e : j = k
      · subst e
        rw [if_neg (by omega), if_pos (by omega)]; omega
      · by_cases e2 : j < k
        · rw [if_pos e2, if_pos (by omega)]
        · rw [if_neg e2, if_neg (by omega)]
theorem tg_round {l : List Int} (hb : ∀ x ∈ l, 0 ≤ x ∧ x ≤ 1000000) (i sq : Nat) (s : List S79 × Int) (h : TgI l.length s (fun j => tgX l j / 2 ^ (i + 1)) sq) :
    TgI l.length (tpRow (l.length : Int) i l 0 (tpSq (l.length : Int) s)) (fun j => tgX l j / 2 ^ i) (if 0 ≤ s.2 then sq + 1 else sq) ∧ (0 ≤ s.2 → 0 ≤ (tpRow (l.length : Int) i l 0 (tpSq (l.length : Int) s)).2) := by
  have h1 := TgI_sq h (fun j hj => by
    have := div_le (tgX l j) i (tgX_le hb j)
    have h2 := tg_half (tgX l j) i
    omega)
  have h2 := tg_row hb i _ l.length 0 _ (by omega) (TgI_congr h1.1 (fun j hj => by rw [if_neg (by omega)]))
  rw [List.drop_zero] at h2
  exact ⟨h2.1, fun h0 => h2.2 (h1.2 h0)⟩
theorem tg_rest {l : List Int} (hb : ∀ x ∈ l, 0 ≤ x ∧ x ≤ 1000000) : ∀ (i sq : Nat) (s : List S79 × Int), TgI l.length s (fun j => tgX l j / 2 ^ i) sq → 0 ≤ s.2 → TgI l.length (tpLoop (l.length : Int) l i s) (tgX l) (sq + i) ∧ 0 ≤ (tpLoop (l.length : Int) l i s).2
  | 0, sq, s, h, h0 => ⟨TgI_congr h (fun j _ => by simp), h0⟩
  | i + 1, sq, s, h, h0 => by
    have h1 := tg_round hb i sq s h
    rw [if_pos h0] at h1
    have := tg_rest hb i (sq + 1) _ h1.1 (h1.2 h0)
    rw [show sq + (i + 1) = sq + 1 + i by omega]
    exact this
theorem tg_done {l : List Int} (hb : ∀ x ∈ l, 0 ≤ x ∧ x ≤ 1000000) (hl : 1 ≤ l.length) (h3 : Go.Lib.maxOf l ≠ 0) : ∃ J, J + 1 = bl (Go.Lib.maxOf l).toNat ∧ TgI l.length (tpAll l) (tgX l) J ∧ 0 ≤ (tpAll l).2 := by
  have hmem : Go.Lib.maxOf l ∈ l := tp_maxMem (fun e => by subst e; simp at hl)
  have hmb := hb _ hmem
  obtain ⟨m, hm⟩ : ∃ m : Nat, Go.Lib.maxOf l = (m : Int) := ⟨(Go.Lib.maxOf l).toNat, by omega⟩
  have hall : ∀ j, tgX l j ≤ m := fun j => by
    unfold tgX
    rw [List.getD_eq_getElem?_getD]
    by_cases h : j < l.length
    · rw [List.getElem?_eq_getElem h]
      have := (maxOf_le (l := l) (m := Go.Lib.maxOf l) (fun e => by subst e; simp at hl)).1 (Int.le_refl _) _ (List.getElem_mem h)
      simp only [Option.getD_some]; omega
    · rw [List.getElem?_eq_none (by omega)]; simp
  obtain ⟨k, hk, hke⟩ := List.mem_iff_getElem.1 hmem
  have hxk : tgX l k = m := by
    unfold tgX
    rw [List.getD_eq_getElem?_getD, List.getElem?_eq_getElem hk, Option.getD_some, hke, hm]; rfl
  have hm0 : m ≠ 0 := fun e => h3 (by rw [hm, e]; rfl)
  have hbl : bl m ≠ 0 := fun e => by
    have := bl_lt (n := m) (by omega)
    rw [e] at this
    omega
  obtain ⟨J, hJ⟩ : ∃ J, bl m = J + 1 := ⟨bl m - 1, by omega⟩
  have hlt := bl_lt (n := m) (by omega)
  have hge := bl_ge (n := m) (i := J) (by omega) (by omega)
  have hstart : TgI l.length (([] : List S79), (-1 : Int)) (fun j => tgX l j / 2 ^ (J + 1)) 0 := by
    refine ⟨fun _ => ⟨rfl, rfl, fun j _ => Nat.div_eq_of_lt ?_⟩, fun h => absurd h (by decide)⟩
    have := hall j
    rw [hJ] at hlt
    omega
  have h1 := tg_round hb J 0 _ hstart
  rw [if_neg (by decide)] at h1
  have hpos : 0 ≤ (tpRow (l.length : Int) J l 0 (tpSq (l.length : Int) (([] : List S79), (-1 : Int)))).2 := by
    refine Classical.byContradiction fun hn => ?_
    have := (h1.1.1 (by omega)).2.2 k hk
    have this : tgX l k / 2 ^ J = 0 := this
    rw [hxk] at this
    have hd : 0 < m / 2 ^ J := Nat.div_pos hge (Nat.pow_pos (by omega))
    omega
  have h2 := tg_rest hb J 0 _ h1.1 hpos
  rw [Nat.zero_add] at h2
  refine ⟨J, by rw [hm, Int.toNat_natCast, hJ], ?_⟩
  have e : tpAll l = tpLoop (l.length : Int) l J (tpRow (l.length : Int) J l 0 (tpSq (l.length : Int) (([] : List S79), (-1 : Int)))) := by
    unfold tpAll
    rw [hm, Int.toNat_natCast, show Go.Lib.bitLen m = J + 1 from hJ]
    rfl
  rw [e]
  exact h2
theorem rowOf_self {l : List Int} (hb : ∀ x ∈ l, 0 ≤ x ∧ x ≤ 1000000) : rowOf l.length (tgX l) = l := by
  refine List.ext_getElem (rowOf_length _ _) fun k h1 h2 => ?_
  rw [rowOf_get]
  unfold tgX
  rw [List.getD_eq_getElem?_getD, List.getElem?_eq_getElem h2]
  have := hb _ (List.getElem_mem h2)
  simp only [Option.getD_some]; omega
theorem sameSteps_loop (T : List S79) (hl : T.length ≤ 1000000) : ∀ (d i : Nat), i + d = T.length → Ev (fun k => laws_pSameSteps.l0 k T T (T.length : Int) i) true := by
  intro d
  induction d with
  | zero =>
    intro i h
    refine up ?_
    simp only [laws_pSameSteps.l0, if_neg (show ¬ (i : Int) < (T.length : Int) by omega)]
    exact Ev.now _
  | succ d ih =>
    intro i h
    refine up ?_
    simp only [laws_pSameSteps.l0, if_pos (show (i : Int) < (T.length : Int) by omega), if_pos (show (0 : Int) ≤ (i : Int) by omega), beq_self_eq_true, Bool.not_true, Bool.or_self, Bool.false_eq_true, if_false, wid (x := (i : Int) + 1) (by omega) (by omega)]
    exact ih (i + 1) (by omega)
theorem samePlan (n : Int) (T : List S79) (o : List Int) (hT : T.length ≤ 1000000) (ho : o.length ≤ 1000000) : Ev (fun k => laws_pSamePlan.f k n T o n T o) true := by
  simp only [laws_pSamePlan.f, if_true]
  refine Ev.bind (a := true) ?_ ?_
  · simp only [laws_pSameSteps.f, if_true]
    exact sameSteps_loop T hT T.length 0 (by omega)
  · simp only [if_true]
    exact Ev.bind (sameInts o ho) (Ev.now _)
theorem wf_byte {x : Int} (h : (Lit.int .u8 x).wf = true) : 0 ≤ x ∧ x ≤ 255 := by
  simp only [Lit.wf, Bool.and_eq_true, decide_eq_true_eq] at h
  exact h
theorem rd_byte {l : List Int} (hl : ∀ x ∈ l, (Lit.int .u8 x).wf = true) (i : Int) (h0 : 0 ≤ i) (h1 : i < l.length) : 0 ≤ rd l i ∧ rd l i ≤ 255 := by
  unfold rd
  have hi : i.toNat < l.length := by omega
  rw [List.getD_eq_getElem?_getD, List.getElem?_eq_getElem hi]
  exact wf_byte (hl _ (List.getElem_mem hi))
theorem wrapU_range (n : Int) : 0 ≤ IntKind.u64.wrap n ∧ IntKind.u64.wrap n < 18446744073709551616 := by
  simp only [IntKind.wrap, IntKind.bits, IntKind.signed, Bool.false_eq_true, false_and, if_false]
  simp
  omega
theorem and255 (x : Int) : 0 ≤ Go.bits .and .u64 (IntKind.u64.wrap x / 1099511627776) 255 ∧ Go.bits .and .u64 (IntKind.u64.wrap x / 1099511627776) 255 ≤ 255 := by
  have h := wrapU_range x
  have hw : ∀ n : Int, 0 ≤ n → n < 2 ^ 40 → IntKind.u64.wrap n = n := by
    intro n h0 h1
    have e : (2 : Int) ^ 40 = 1099511627776 := by decide
    simp only [IntKind.wrap, IntKind.bits, IntKind.signed, Bool.false_eq_true, false_and, if_false]
    simp
    omega
  have e : (2 : Int) ^ 40 = 1099511627776 := by decide
  have hb : Go.bits .and .u64 (IntKind.u64.wrap x / 1099511627776) ((2 : Int) ^ 8 - 1) = (IntKind.u64.wrap x / 1099511627776) % 2 ^ 8 := bits_mask .u64 40 (by decide) hw 8 (by decide) _ (by omega) (by omega)
  have e1 : (2 : Int) ^ 8 - 1 = 255 := by decide
  have e2 : (2 : Int) ^ 8 = 256 := by decide
  rw [e1, e2] at hb
  rw [hb]; omega
theorem next_ok {l : List Int} (hl : ∀ x ∈ l, (Lit.int .u8 x).wf = true) (p s : Int) (h0 : 0 ≤ p) (h1 : p ≤ 1000000000000) : ∃ v s', spec_l1Cur_next.f l p s = some (v, p + 1, s') ∧ 0 ≤ v ∧ v ≤ 255 := by
  unfold spec_l1Cur_next.f
  rw [wid (x := p + 1) (by omega) (by omega)]
  by_cases hlt : p < (l.length : Int)
  · have hb := rd_byte hl p h0 hlt
    rw [if_pos hlt, if_pos h0, if_pos (show p + 1 ≤ (l.length : Int) by omega), wid (x := rd l p) (by omega) (by omega)]
    exact ⟨_, _, rfl, by omega, by omega⟩
  · rw [if_neg hlt]
    by_cases hle : p + 1 ≤ (l.length : Int)
    · omega
    · rw [if_neg hle]
      have := and255 (IntKind.u64.wrap (IntKind.u64.wrap (s * 6364136223846793005)) + 1442695040888963407)
      rw [wid (by omega) (by omega)]
      exact ⟨_, _, rfl, this.1, this.2⟩
theorem pick_ok {l : List Int} (hl : ∀ x ∈ l, (Lit.int .u8 x).wf = true) (p s n : Int) (h0 : 0 ≤ p) (h1 : p ≤ 100000000000) : ∃ v p' s', spec_l1Cur_pick.f l p s n = some (v, p', s') ∧ 0 ≤ v ∧ (1 ≤ n → v < n) ∧ p ≤ p' ∧ p' ≤ p + 2 := by
  unfold spec_l1Cur_pick.f
  by_cases hn : n ≤ 1
  · rw [if_pos hn]; exact ⟨0, p, s, rfl, by omega, by omega, by omega, by omega⟩
  · rw [if_neg hn]
    obtain ⟨v, s1, e1, hv0, hv1⟩ := next_ok hl p s h0 (by omega)
    rw [e1]; simp only [Option.bind_some]
    by_cases hb : n > 200
    · obtain ⟨u, s2, e2, hu0, hu1⟩ := next_ok hl (p + 1) s1 (by omega) (by omega)
      rw [if_pos hb, e2]; simp only [Option.bind_some]
      rw [if_neg (by omega), wid (x := v * 256) (by omega) (by omega), wid (x := v * 256 + u) (by omega) (by omega), Int.tmod_eq_emod_of_nonneg (by omega)]
      have r1 := Int.emod_nonneg (v * 256 + u) (show n ≠ 0 by omega)
      have r2 := Int.emod_lt_of_pos (v * 256 + u) (show 0 < n by omega)
      exact ⟨_, _, _, rfl, r1, fun _ => r2, by omega, by omega⟩
    · rw [if_neg hb, if_neg (by omega), Int.tmod_eq_emod_of_nonneg (by omega)]
      have r1 := Int.emod_nonneg v (show n ≠ 0 by omega)
      have r2 := Int.emod_lt_of_pos v (show 0 < n by omega)
      exact ⟨_, _, _, rfl, r1, fun _ => r2, by omega, by omega⟩
theorem among_ok {l : List Int} (hl : ∀ x ∈ l, (Lit.int .u8 x).wf = true) (p s : Int) (h0 : 0 ≤ p) (h1 : p ≤ 100000000000) (t : List Int) (ht : 1 ≤ t.length) : ∃ v p' s', spec_l1Cur_among.f l p s t = some (v, p', s') ∧ v ∈ t ∧ p ≤ p' ∧ p' ≤ p + 2 := by
  obtain ⟨v, p', s', e, v0, v1, a, b⟩ := pick_ok hl p s t.length h0 h1
  have hv := v1 (by omega)
  refine ⟨rd t v, p', s', by simp only [spec_l1Cur_among.f, e, Option.bind_some, if_pos v0, if_pos hv], ?_, a, b⟩
  unfold rd
  have hi : v.toNat < t.length := by omega
  rw [List.getD_eq_getElem?_getD, List.getElem?_eq_getElem hi]
  exact List.getElem_mem hi
theorem pnumber_ok {l : List Int} (hl : ∀ x ∈ l, (Lit.int .u8 x).wf = true) (p s : Int) (h0 : 0 ≤ p) (h1 : p ≤ 10000000000) : ∃ v p' s', spec_l1Cur_number.f l p s = some (v, p', s') := by
  unfold spec_l1Cur_number.f
  obtain ⟨v, p1, s1, e1, v0, v1, a, b⟩ := pick_ok hl p s 8 h0 (by omega)
  rw [e1]; simp only [Option.bind_some]
  by_cases c0 : v = 0
  · obtain ⟨u, p2, s2, e2, _, a2, b2⟩ := among_ok hl p1 s1 (by omega) (by omega) [(-1), 0, 1, 2, 1000000, 1000001] (by simp)
    rw [if_pos c0, e2]; exact ⟨_, _, _, rfl⟩
  · rw [if_neg c0]
    by_cases c1 : v = 1
    · obtain ⟨u, p2, s2, e2, _, _, a2, b2⟩ := pick_ok hl p1 s1 1000000 (by omega) (by omega)
      rw [if_pos c1, e2]; exact ⟨_, _, _, rfl⟩
    · obtain ⟨u, p2, s2, e2, _, _, a2, b2⟩ := pick_ok hl p1 s1 120 (by omega) (by omega)
      rw [if_neg c1, e2]; exact ⟨_, _, _, rfl⟩
theorem powers_l0 {l : List Int} (hl : ∀ x ∈ l, (Lit.int .u8 x).wf = true) : ∀ (n : Nat) (C : List Int) (p s : Int), 1 ≤ C.length + n → C.length + n ≤ 100 → 0 ≤ p → p + 10 * n ≤ 100000000 → ∃ C' p' s', Ev (fun k => spec_l1Cur_powers.l0 k C n l p s) (C', p', s') ∧ C'.length ≤ 200 := by
  intro n
  induction n with
  | zero =>
    intro C p s hC hC7 h0 h1
    obtain ⟨v, p1, s1, e1, v0, v1, a, b⟩ := pick_ok hl p s 12 h0 (by omega)
    by_cases c0 : v = 0
    · obtain ⟨u, p2, s2, e2⟩ := pnumber_ok hl p1 s1 (by omega) (by omega)
      refine ⟨C ++ [u], p2, s2, up ?_, by rw [List.length_append, List.length_singleton]; omega⟩
      simp only [spec_l1Cur_powers.l0, if_neg (show ¬ ((0 : Nat) : Int) > 0 by omega), e1, Option.bind_some, if_pos c0, e2, if_pos (show C.length < 17592186044416 by omega)]
      exact Ev.now _
    · by_cases c1 : v = 1
      · obtain ⟨u, p2, s2, e2, u0, u1, a2, b2⟩ := pick_ok hl p1 s1 9 (by omega) (by omega)
        have := u1 (by omega)
        refine ⟨List.replicate u.toNat 0, p2, s2, up ?_, by rw [List.length_replicate]; omega⟩
        simp only [spec_l1Cur_powers.l0, if_neg (show ¬ ((0 : Nat) : Int) > 0 by omega), e1, Option.bind_some, if_neg c0, if_pos c1, e2, if_pos u0, if_pos (show u.toNat ≤ 35184372088832 by omega)]
        exact Ev.now _
      · by_cases c2 : v = 2
        · obtain ⟨u, p2, s2, e2, u0, u1, a2, b2⟩ := pick_ok hl p1 s1 1000000 (by omega) (by omega)
          refine ⟨C.set (0 : Int).toNat (wrap64 (1 + u)), p2, s2, up ?_, by rw [List.length_set]; omega⟩
          simp only [spec_l1Cur_powers.l0, if_neg (show ¬ ((0 : Nat) : Int) > 0 by omega), e1, Option.bind_some, if_neg c0, if_neg c1, if_pos c2, e2, if_pos (show 0 < (C.length : Int) by omega)]
          exact Ev.now _
        · refine ⟨C, p1, s1, up ?_, by omega⟩
          simp only [spec_l1Cur_powers.l0, if_neg (show ¬ ((0 : Nat) : Int) > 0 by omega), e1, Option.bind_some, if_neg c0, if_neg c1, if_neg c2]
          exact Ev.now _
  | succ n ih =>
    intro C p s hC hC7 h0 h1
    obtain ⟨v, p1, s1, e1, v0, v1, a, b⟩ := pick_ok hl p s 40 h0 (by omega)
    obtain ⟨C', p', s', h2, h3⟩ := ih (C ++ [v]) p1 s1 (by rw [List.length_append, List.length_singleton]; omega) (by rw [List.length_append, List.length_singleton]; omega) (by omega) (by omega)
    refine ⟨C', p', s', up ?_, h3⟩
    simp only [spec_l1Cur_powers.l0, if_pos (show ((n + 1 : Nat) : Int) > 0 by omega), e1, Option.bind_some, if_pos (show C.length < 17592186044416 by omega), show ((n + 1 : Nat) : Int) - 1 = (n : Int) by omega, wid (x := (n : Int)) (by omega) (by omega)]
    exact h2
theorem powers_ok {l : List Int} (hl : ∀ x ∈ l, (Lit.int .u8 x).wf = true) (m : Int) (hm : 1 ≤ m ∧ m ≤ 50) : ∃ C p' s', Ev (fun k => spec_l1Cur_powers.f k l 0 0 m) (C, p', s') ∧ C.length ≤ 200 := by
  obtain ⟨v, p1, s1, e1, v0, v1, a, b⟩ := pick_ok hl 0 0 m (by omega) (by omega)
  have := v1 hm.1
  obtain ⟨n, hn⟩ : ∃ n : Nat, 1 + v = (n : Int) := ⟨(1 + v).toNat, by omega⟩
  obtain ⟨C', p', s', h2, h3⟩ := powers_l0 hl n [] p1 s1 (by simp; omega) (by simp; omega) (by omega) (by omega)
  refine ⟨C', p', s', ?_, h3⟩
  simp only [spec_l1Cur_powers.f, e1, Option.bind_some, hn, wid (x := (n : Int)) (by omega) (by omega)]
  exact h2
theorem bitLength_val {n : Int} (h0 : 1 ≤ n) (h1 : n ≤ 1000000) : impl_BitLength.f n = some ((bl n.toNat : Int), true) := by
  have hw : IntKind.u64.wrap n = n := u64_id (by omega) (by omega)
  simp only [impl_BitLength.f, impl_isNumber.f, impl_in.f, if_pos (show n ≥ 1 from h0), decide_eq_true h1, Option.bind_some, if_true, hw, bits_Len.f, if_pos (show 0 ≤ n ∧ n ≤ 18446744073709551615 by omega)]
  rfl
theorem digitSum_val {n : Int} (h0 : 1 ≤ n) (h1 : n ≤ 1000000) : impl_DigitSum.f n = some ((pc n.toNat : Int), true) := by
  have hw : IntKind.u64.wrap n = n := u64_id (by omega) (by omega)
  obtain ⟨m, rfl⟩ : ∃ m : Nat, n = (m : Int) := ⟨n.toNat, by omega⟩
  simp only [impl_DigitSum.f, impl_isNumber.f, impl_in.f, if_pos (show (m : Int) ≥ 1 from h0), decide_eq_true h1, Option.bind_some, if_true, hw, bits_OnesCount.f, onesCount_val (show m < 16777216 by omega), Int.toNat_natCast]
theorem bl_mono {x m : Nat} (h : x ≤ m) (hm : m ≤ 1000000) : bl x ≤ bl m := by
  rcases Nat.lt_or_ge (bl m) (bl x) with h1 | h1
  · have h2 := bl_ge (n := x) (i := bl m) (by omega) h1
    have h3 := bl_lt (n := m) (by omega)
    omega
  · exact h1
theorem bl_zero : bl 0 = 0 := by decide
def mostTo : Nat → (Nat → Nat) → Nat
  | 0, _ => 0
  | n + 1, g => max (mostTo n g) (g n)
theorem mostTo_eq {g : Nat → Nat} {J k : Nat} : ∀ (n : Nat), k < n → (∀ j, j < n → g j ≤ J) → g k = J → mostTo n g = J
  | 0, h, _, _ => by omega
  | n + 1, h, hle, he => by
    unfold mostTo
    by_cases e : k < n
    · rw [mostTo_eq n e (fun j hj => hle j (by omega)) he]
      have := hle n (by omega)
      omega
    · have e2 : k = n := by omega
      subst e2
      have : mostTo k g ≤ J := by
        clear h e he
        have key : ∀ m, m ≤ k → mostTo m g ≤ J := by
          intro m
          induction m with
          | zero => intro _; exact Nat.zero_le _
          | succ m ih =>
            intro hm
            unfold mostTo
            have := ih (by omega)
            have := hle m (by omega)
            omega
        exact key k (Nat.le_refl _)
      omega
theorem sumTo_le {g : Nat → Nat} {B : Nat} (h : ∀ k, g k ≤ B) : ∀ n, sumTo n g ≤ n * B
  | 0 => by simp [sumTo]
  | n + 1 => by
    unfold sumTo
    have := sumTo_le h n
    have := h n
    rw [Nat.succ_mul]; omega
theorem pcF_le : ∀ (f x : Nat), pcF f x ≤ f
  | 0, _ => Nat.le_refl _
  | f + 1, x => by
    unfold pcF
    have := pcF_le f (x / 2)
    omega
theorem pt_loop (l : List Int) (hb : ∀ x ∈ l, 0 ≤ x ∧ x ≤ 1000000) (hl : l.length ≤ 6) (n : Int) (T : List S79) (o : List Int) (J D : Nat) (hJ : mostTo l.length (fun j => bl (tgX l j)) = J + 1) (hD : sumTo l.length (fun j => pc (tgX l j)) = D) (hT : T.length + 1 = J + D) : ∀ (d i : Nat), i + d = l.length →
    Ev (fun k => laws_FnPowersTogether.l0 k ((mostTo i (fun j => bl (tgX l j)) : Nat) : Int) ((sumTo i (fun j => pc (tgX l j)) : Nat) : Int) l (l.length : Int) i n T o) true := by
  intro d
  induction d with
  | zero =>
    intro i h
    obtain rfl : i = l.length := by omega
    refine up ?_
    have hDl : D ≤ 6 * 64 := by
      rw [← hD]
      exact Nat.le_trans (sumTo_le (g := fun j => pc (tgX l j)) (B := 64) (fun k => pcF_le 64 _) l.length) (Nat.mul_le_mul_right _ hl)
    have hJl : J + 1 ≤ 20 := by
      rw [← hJ]
      have key : ∀ m, mostTo m (fun j => bl (tgX l j)) ≤ 20 := by
        intro m
        induction m with
        | zero => exact Nat.zero_le _
        | succ m ih =>
          unfold mostTo
          dsimp only
          have := bl_small (tgX_le hb m)
          omega
      exact key _
    simp only [laws_FnPowersTogether.l0, if_neg (show ¬ (l.length : Int) < (l.length : Int) by omega)]
    rw [hJ, hD, wid (x := ((J + 1 : Nat) : Int) - 1) (by omega) (by omega), wid (x := ((J + 1 : Nat) : Int) - 1 + (D : Int)) (by omega) (by omega), wid (x := ((J + 1 : Nat) : Int) - 1 + (D : Int) - 1) (by omega) (by omega)]
    rw [show ((T.length : Int) == ((J + 1 : Nat) : Int) - 1 + (D : Int) - 1) = true from beq_iff_eq.2 (by omega)]
    exact Ev.now _
  | succ d ih =>
    intro i h
    have hi : i < l.length := by omega
    have hx := hb l[i] (List.getElem_mem hi)
    have hxe : (tgX l i : Int) = l[i] := by
      unfold tgX
      rw [List.getD_eq_getElem?_getD, List.getElem?_eq_getElem hi, Option.getD_some]; omega
    have hnext := ih (i + 1) (by omega)
    have hsl : sumTo i (fun j => pc (tgX l j)) ≤ 6 * 64 := Nat.le_trans (sumTo_le (g := fun j => pc (tgX l j)) (B := 64) (fun k => pcF_le 64 _) i) (Nat.mul_le_mul_right _ (by omega))
    refine up ?_
    simp only [laws_FnPowersTogether.l0, if_pos (show (i : Int) < (l.length : Int) by omega), if_pos (show (0 : Int) ≤ (i : Int) by omega), rd_at hi, wid (x := (i : Int) + 1) (by omega) (by omega)]
    unfold mostTo sumTo at hnext
    dsimp only at hnext
    by_cases h0 : l[i] = 0
    · simp only [if_pos h0]
      have e0 : tgX l i = 0 := by omega
      rw [e0, bl_zero, pc_zero, Nat.add_zero, Nat.max_eq_left (Nat.zero_le _)] at hnext
      exact hnext
    · simp only [if_neg h0, bitLength_val (n := l[i]) (by omega) hx.2, digitSum_val (n := l[i]) (by omega) hx.2, Option.bind_some, if_true, Bool.not_true]
      have et : l[i].toNat = tgX l i := by omega
      have hp := pcF_le 64 (tgX l i)
      have hp2 : pc (tgX l i) ≤ 64 := hp
      rw [et]
      refine up ?_
      simp only [laws_FnPowersTogether.j3, Bool.false_eq_true, if_false, wid (x := ((sumTo i (fun j => pc (tgX l j)) : Nat) : Int) + (pc (tgX l i) : Int)) (by omega) (by omega), wid (x := (i : Int) + 1) (by omega) (by omega)]
      by_cases hgt : (bl (tgX l i) : Int) > ((mostTo i (fun j => bl (tgX l j)) : Nat) : Int)
      · simp only [if_pos hgt]
        rw [Nat.max_eq_right (by omega)] at hnext
        exact hnext
      · simp only [if_neg hgt]
        rw [Nat.max_eq_left (by omega)] at hnext
        exact hnext
theorem main : laws_FnPowersTogether.Pure := by
  intro l0 l1 hm0 hr0 hw0 hm1 hr1 hw1
  refine Ev.rounds ?_
  simp only [laws_FnPowersTogether.f]
  have hbig : ∃ b, laws_big.f l0 l1 = some b := by
    unfold laws_big.f
    split <;> exact ⟨_, rfl⟩
  obtain ⟨b, hbg⟩ := hbig
  rw [hbg]
  simp only [Option.bind_some]
  cases b with
  | true => simp only [if_true]; exact Ev.now _
  | false =>
    simp only [Bool.false_eq_true, if_false]
    obtain ⟨l, p', s', hd, hl⟩ := powers_ok hw0 4 (by omega)
    refine Ev.bind (a := l) (by simp only [spec_DrawTogetherPlan.f]; exact Ev.bind hd (Ev.now _)) ?_
    simp only [tg_impl, Option.bind_some]
    refine Ev.bind (tg_spec l (by omega)) ?_
    have hTl : (togV l).2.1.length ≤ 1000 ∧ (togV l).2.2.1.length ≤ 1000 := by
      unfold togV toldV
      split
      · split
        · rename_i hp
          unfold planB at hp
          rw [Bool.and_eq_true] at hp
          obtain ⟨_, h2, h3, _⟩ := formedB_parts hp.1
          exact ⟨Nat.le_trans h2 (by omega), by simp⟩
        · simp
      · simp
    simp only [bne_self_eq_false, Bool.false_eq_true, if_false]
    refine Ev.bind (samePlan _ _ _ (by omega) (by omega)) ?_
    refine up ?_
    simp only [laws_FnPowersTogether.j0, Bool.not_true, Bool.false_eq_true, if_false]
    by_cases hc : (1 ≤ (l.length : Int) ∧ (l.length : Int) ≤ 6) ∧ l.any tpBad = false ∧ Go.Lib.maxOf l ≠ 0
    · have e1 : togV l = toldV (l.length : Int) (tpAll l).1 [(tpAll l).2] := by unfold togV; rw [if_pos hc]
      by_cases hp : planB (l.length : Int) (tpAll l).1 [(tpAll l).2] = true
      · have e2 : togV l = ((l.length : Int), (tpAll l).1, [(tpAll l).2], true) := by rw [e1]; unfold toldV; rw [if_pos hp]
        rw [e2]
        simp only [if_true]
        have hb : ∀ x ∈ l, 0 ≤ x ∧ x ≤ 1000000 := tg_all (by have := tg_bad l; rw [hc.2.1] at this; simpa using this.symm)
        obtain ⟨J, hJ, hI, hat⟩ := tg_done hb (by omega) hc.2.2
        obtain ⟨_, hE, hcnt⟩ := hI.2 hat
        have hoe : impl_OutputExponents.f (l.length : Int) (tpAll l).1 [(tpAll l).2] = some ([l], true) := by
          unfold impl_OutputExponents.f
          rw [implPlan, hp]
          simp only [Option.bind_some, if_true]
          unfold outExp
          rw [List.map_singleton, hE, rowOf_self hb]
        rw [hoe]
        simp only [Option.bind_some, if_true, List.length_singleton]
        simp only [if_pos (show ((1 : Nat) : Int) = 1 from rfl), if_pos (show (0 : Int) < ((1 : Nat) : Int) by decide)]
        refine Ev.bind (a := true) ?_ ?_
        · show Ev (fun k => laws_pSameInts.f k l l) true
          exact sameInts l (by omega)
        · refine up ?_
          simp only [laws_FnPowersTogether.j1, Bool.not_true, Bool.false_eq_true, if_false]
          have hmem : Go.Lib.maxOf l ∈ l := tp_maxMem (fun e => by subst e; simp at hc)
          obtain ⟨k, hk, hke⟩ := List.mem_iff_getElem.1 hmem
          have hxk : tgX l k = (Go.Lib.maxOf l).toNat := by
            unfold tgX
            rw [List.getD_eq_getElem?_getD, List.getElem?_eq_getElem hk, Option.getD_some, hke]
          have hmost : mostTo l.length (fun j => bl (tgX l j)) = J + 1 := by
            refine mostTo_eq (k := k) l.length hk (fun j hj => ?_) (by show bl (tgX l k) = _; rw [hxk, hJ])
            rw [hJ, ← hxk]
            refine bl_mono ?_ (tgX_le hb k)
            have h2 := (maxOf_le (l := l) (m := Go.Lib.maxOf l) (fun e => by subst e; simp at hc)).1 (Int.le_refl _) _ (List.getElem_mem hj)
            have h3 : tgX l j = l[j].toNat := by
              unfold tgX
              rw [List.getD_eq_getElem?_getD, List.getElem?_eq_getElem hj]; rfl
            rw [h3, hxk]; omega
          have := pt_loop l hb (by omega) (l.length : Int) (tpAll l).1 [(tpAll l).2] J _ hmost rfl hcnt l.length 0 (by omega)
          exact this
      · have e2 : togV l = (0, [], [], false) := by rw [e1]; unfold toldV; rw [if_neg hp]
        rw [e2]
        simp only [Bool.false_eq_true, if_false]
        exact Ev.now _
    · have e2 : togV l = (0, [], [], false) := by unfold togV; rw [if_neg hc]
      rw [e2]
      simp only [Bool.false_eq_true, if_false]
      exact Ev.now _
end Go.Proofs.Ytoiamgeaieefmaa.PureFnPowersTogetherL
namespace Go.Proofs.Ytoiamgeaieefmaa.Pure
open Go.Proofs.Ytoiamgeaieefmaa.PFnPowersTogether
theorem FnPowersTogether : laws_FnPowersTogether.Pure := PureFnPowersTogetherL.main
end Go.Proofs.Ytoiamgeaieefmaa.Pure
