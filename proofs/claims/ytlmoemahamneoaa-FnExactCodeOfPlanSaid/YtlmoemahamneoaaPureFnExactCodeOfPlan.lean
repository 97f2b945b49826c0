/- The program's CodeOfPlan returns what the reference's CodeOfPlan returns, for all plans (of at most 2^20 steps and outputs together, as the statement itself says; nothing else is asked). -/
import Derived.Test.YtlmoemahamneoaaPFnExactCodeOfPlanx1
import Derived.Test.YtlmoemahamneoaaPFnExactCodeOfPlanx2
import Derived.Test.YtlmoemahamneoaaPFnExactCodeOfPlanx3
import Derived.Test.YtlmoemahamneoaaPFnExactCodeOfPlanx4
import Derived.Test.YtlmoemahamneoaaPFnExactCodeOfPlanx5
import Derived.Test.YtlmoemahamneoaaPFnExactCodeOfPlanx6
import Derived.Test.YtlmoemahamneoaaPFnExactCodeOfPlanx7
import Derived.Test.YtlmoemahamneoaaPFnExactCodeOfPlanx8
import Derived.Test.YtlmoemahamneoaaPFnExactCodeOfPlanx9
import Derived.Test.YtlmoemahamneoaaPFnExactCodeOfPlanx10
import Derived.Test.YtlmoemahamneoaaPFnExactCodeOfPlanx11
import Derived.Test.YtlmoemahamneoaaPFnExactCodeOfPlanx12
import Derived.Test.YtlmoemahamneoaaPFnExactCodeOfPlanx13
import Derived.Test.YtlmoemahamneoaaPFnExactCodeOfPlanx14
set_option linter.unusedVariables false
set_option linter.unusedSimpArgs false
namespace Go.Proofs.Ytlmoemahamneoaa.PureFnExactCodeOfPlanL
open Go.RowKit Go.Proofs.Ytlmoemahamneoaa.PFnExactCodeOfPlan Go.Proofs.YtlmoemahamneoaaW.PrintWords Go.Proofs.YtlmoemahamneoaaW.PrintLast Go.Proofs.YtlmoemahamneoaaW.PrintMore
theorem up {α : Type} {g : Nat → Option α} {r : α} (h : Ev (fun k => g (k + 1)) r) : Ev g r := by
  obtain ⟨K, h⟩ := h
  refine ⟨K + 1, fun k hk => ?_⟩
  obtain ⟨m, rfl⟩ : ∃ m, k = m + 1 := ⟨k - 1, by omega⟩
  exact h m (by omega)
theorem wid {x : Int} (h0 : -9223372036854775808 ≤ x) (h1 : x ≤ 9223372036854775807) : wrap64 x = x := by unfold wrap64; omega
theorem if_pos_ev {α : Type} {c : Prop} [Decidable c] {f g : Nat → Option α} (h : c) : (fun k => if c then f k else g k) = f := funext fun k => if_pos h
theorem if_neg_ev {α : Type} {c : Prop} [Decidable c] {f g : Nat → Option α} (h : ¬ c) : (fun k => if c then f k else g k) = g := funext fun k => if_neg h
theorem l1In_val (x a b : Int) : spec_l1In.f x a b = some (decide (a ≤ x) && decide (x ≤ b)) := by
  unfold spec_l1In.f
  by_cases h : a ≤ x
  · rw [if_pos h]; simp [h]
  · rw [if_neg h]; simp [h]
theorem rd_at {l : List Int} {i : Nat} (h : i < l.length) : rd l (i : Int) = l[i] := by
  unfold rd
  rw [Int.toNat_natCast, List.getD_eq_getElem?_getD, List.getElem?_eq_getElem h]; rfl
def allIn (a b : Int) (l : List Int) : Bool := l.all fun d => decide (a ≤ d) && decide (d ≤ b)
theorem l1All_loop (a b : Int) (l : List Int) (hl : l.length ≤ 17592186044416) : ∀ (d i : Nat), i + d = l.length → Ev (fun k => spec_l1All.l0 k a b l (l.length : Int) i) (allIn a b (l.drop i)) := by
  intro d
  induction d with
  | zero =>
    intro i h
    refine up ?_
    simp only [spec_l1All.l0, if_neg (show ¬ (i : Int) < (l.length : Int) by omega)]
    rw [List.drop_of_length_le (by omega)]
    exact Ev.now _
  | succ d ih =>
    intro i h
    have hi : i < l.length := by omega
    refine up ?_
    simp only [spec_l1All.l0, if_pos (show (i : Int) < (l.length : Int) by omega), if_pos (show (0 : Int) ≤ (i : Int) by omega), l1In_val, Option.bind_some, wid (x := (i : Int) + 1) (by omega) (by omega), rd_at hi]
    have e : allIn a b (l.drop i) = ((decide (a ≤ l[i]) && decide (l[i] ≤ b)) && allIn a b (l.drop (i + 1))) := by
      rw [List.drop_eq_getElem_cons hi]; rfl
    rw [e]
    cases hb : (decide (a ≤ l[i]) && decide (l[i] ≤ b)) with
    | true => simp only [if_true, Bool.true_and]; exact ih (i + 1) (by omega)
    | false => simp only [Bool.false_eq_true, if_false, Bool.false_and]; exact Ev.now _
theorem l1All_val (a b : Int) (l : List Int) (hl : l.length ≤ 17592186044416) : Ev (fun k => spec_l1All.f k l a b) (allIn a b l) := l1All_loop a b l hl l.length 0 (by omega)
/-! Plans: the reference's test is the program's. -/
theorem rdPlan_at {T : List S133} {i : Nat} (h : i < T.length) : rd_T133 T (i : Int) = T[i] := by
  unfold rd_T133
  rw [Int.toNat_natCast, List.getD_eq_getElem?_getD, List.getElem?_eq_getElem h]; rfl
theorem l1Least_val (a b : Int) : spec_l1Least.f a b = some (min a b) := by
  unfold spec_l1Least.f
  split
  · rw [Int.min_eq_left (by omega)]
  · rw [Int.min_eq_right (by omega)]
def rowOk (n : Nat) (r : List Int) : Prop := r.length = n ∧ ∀ x ∈ r, 0 ≤ x ∧ x ≤ 1000001
theorem plSum_loop (a b : List Int) (n : Nat) (hn : n ≤ 1000) (ha : rowOk n a) (hb : rowOk n b) : ∀ (d i : Nat), i + d = n → Ev (fun q => spec_plSum.l0 q a b ((exRow a b).take i) (a.length : Int) i) (exRow a b) := by
  intro d
  have hl : (exRow a b).length = n := (exRow_good ha hb).1
  induction d with
  | zero =>
    intro i h
    refine up ?_
    simp only [spec_plSum.l0, if_neg (show ¬ (i : Int) < (a.length : Int) by have := ha.1; omega)]
    rw [List.take_of_length_le (by omega)]
    exact Ev.now _
  | succ d ih =>
    intro i h
    have h1 : i < a.length := by have := ha.1; omega
    have h2 : i < b.length := by have := hb.1; omega
    have b1 := ha.2 _ (List.getElem_mem h1)
    have b2 := hb.2 _ (List.getElem_mem h2)
    refine up ?_
    simp only [spec_plSum.l0, if_pos (show (i : Int) < (a.length : Int) by omega), if_pos (show (0 : Int) ≤ (i : Int) by omega), if_pos (show (i : Int) < (b.length : Int) by omega), rd_at h1, rd_at h2, wid (x := a[i] + b[i]) (by omega) (by omega), l1Least_val, Option.bind_some, if_pos (show ((exRow a b).take i).length < 17592186044416 by rw [List.length_take]; omega), wid (x := (i : Int) + 1) (by omega) (by omega)]
    have := ih (i + 1) (by omega)
    have e : (exRow a b).take (i + 1) = (exRow a b).take i ++ [min (a[i] + b[i]) 1000001] := by
      have hx : i < (exRow a b).length := by omega
      have hg : (exRow a b)[i] = min (a[i] + b[i]) 1000001 := by simp [exRow]
      rw [List.take_succ_eq_append_getElem hx, hg]
    rw [e] at this
    exact this
theorem plSum_val (a b : List Int) (n : Nat) (hn : n ≤ 1000) (ha : rowOk n a) (hb : rowOk n b) : Ev (fun q => spec_plSum.f q a b) (exRow a b) := by
  have := plSum_loop a b n hn ha hb n 0 (by omega)
  simpa [spec_plSum.f] using this
theorem exGood_at {n : Nat} {P : List (List Int)} (h : exGood n P) {x : Int} (h0 : 0 ≤ x) (h1 : x < (P.length : Int)) : rowOk n (P.getD x.toNat []) := by
  rw [List.getD_eq_getElem?_getD, List.getElem?_eq_getElem (show x.toNat < P.length by omega)]
  exact h _ (List.getElem_mem _)
theorem exRow_ok {n : Nat} {a b : List Int} (ha : rowOk n a) (hb : rowOk n b) : rowOk n (exRow a b) := exRow_good ha hb
theorem stepsB_head {inp : Int} {s : S133} {r : List S133} {i : Nat} (h : stepsB inp (s :: r) i = true) : (0 ≤ s.f0 ∧ s.f0 ≤ s.f1 ∧ s.f1 < inp + i) ∧ stepsB inp r (i + 1) = true := by
  rw [stepsB_cons, Bool.and_eq_true] at h
  have hs := h.1
  unfold stepB at hs
  rw [Bool.and_eq_true, Bool.and_eq_true, decide_eq_true_iff, decide_eq_true_iff, decide_eq_true_iff] at hs
  exact ⟨hs, h.2⟩
theorem exLoop_len : ∀ (r : List S133) (P : List (List Int)), (exLoop r P).length = P.length + r.length
  | [], P => rfl
  | s :: r, P => by
    show (exLoop r (P ++ _)).length = _
    rw [exLoop_len r]; simp only [List.length_append, List.length_cons, List.length_nil]; omega
theorem exLoop_good {n : Nat} : ∀ (r : List S133) (P : List (List Int)) (j : Nat), P.length = n + j → exGood n P → stepsB (n : Int) r j = true → exGood n (exLoop r P)
  | [], P, _, _, hg, _ => hg
  | s :: r, P, j, hl, hg, hs => by
    obtain ⟨⟨h0, h1, h2⟩, h3⟩ := stepsB_head hs
    exact exLoop_good r _ (j + 1) (by rw [List.length_append, List.length_singleton]; omega) (exGood_app hg (exRow_ok (exGood_at hg h0 (by omega)) (exGood_at hg (by omega) (by omega)))) h3
theorem plExp_l1 (n : Nat) (hn : n ≤ 1000) (steps : List S133) (hl : steps.length ≤ 1000) : ∀ (d j : Nat) (P : List (List Int)), j + d = steps.length → P.length = n + j → exGood n P → stepsB (n : Int) (steps.drop j) j = true → Ev (fun q => spec_plExponents.l1 q P steps (steps.length : Int) j) (exLoop (steps.drop j) P) := by
  intro d
  induction d with
  | zero =>
    intro j P h hp hg hs
    refine up ?_
    simp only [spec_plExponents.l1, if_neg (show ¬ (j : Int) < (steps.length : Int) by omega)]
    rw [List.drop_of_length_le (by omega)]
    exact Ev.now _
  | succ d ih =>
    intro j P h hp hg hs
    have hj : j < steps.length := by omega
    rw [List.drop_eq_getElem_cons hj] at hs
    obtain ⟨⟨h0, h1, h2⟩, h3⟩ := stepsB_head hs
    have ka := exGood_at hg h0 (by omega)
    have kb := exGood_at hg (show 0 ≤ (steps[j]).f1 by omega) (by omega)
    have hv := plSum_val _ _ n hn ka kb
    refine up ?_
    simp only [spec_plExponents.l1, if_pos (show (j : Int) < (steps.length : Int) by omega), if_pos (show (0 : Int) ≤ (j : Int) by omega), rdPlan_at hj, if_pos h0, if_pos (show (steps[j]).f0 < (P.length : Int) by omega), if_pos (show 0 ≤ (steps[j]).f1 by omega), if_pos (show (steps[j]).f1 < (P.length : Int) by omega), if_pos (show P.length < 5864062014805 by omega), wid (x := (j : Int) + 1) (by omega) (by omega)]
    refine Ev.bind hv ?_
    have := ih (j + 1) _ (by omega) (by rw [List.length_append, List.length_singleton]; omega) (exGood_app hg (exRow_ok ka kb)) h3
    rw [List.drop_eq_getElem_cons hj]
    exact this
theorem plExp_l0 (n : Nat) (hn : n ≤ 1000) (steps : List S133) (outs : List Int) (hl : steps.length ≤ 1000) (hs : stepsB (n : Int) steps 0 = true) : ∀ (d i : Nat), i + d = n → Ev (fun q => spec_plExponents.l0 q (exBase n i) i (n : Int) steps outs) (exLoop steps (exBase n n)) := by
  intro d
  induction d with
  | zero =>
    intro i h
    obtain rfl : i = n := by omega
    refine up ?_
    simp only [spec_plExponents.l0, if_neg (show ¬ (i : Int) < (i : Int) by omega)]
    have := plExp_l1 i hn steps hl steps.length 0 (exBase i i) (by omega) (by rw [exBase_length]; rfl) (exBase_good i i) (by rw [List.drop_zero]; exact hs)
    rw [List.drop_zero] at this
    exact this
  | succ d ih =>
    intro i h
    refine up ?_
    simp only [spec_plExponents.l0, if_pos (show (i : Int) < (n : Int) by omega), if_pos (show (0 : Int) ≤ (n : Int) by omega), Int.toNat_natCast, if_pos (show n ≤ 35184372088832 by omega), Option.bind_some, if_pos (show (0 : Int) ≤ (i : Int) by omega), List.length_replicate, exBase_length, if_pos (show i < 5864062014805 by omega), wid (x := (i : Int) + 1) (by omega) (by omega)]
    have := ih (i + 1) (by omega)
    rw [exBase_succ] at this
    exact this
def allRows (E : List (List Int)) : Bool := E.all (allIn 0 1000000)
def planB (inp : Int) (steps : List S133) (outs : List Int) : Bool := formedB inp steps outs && allRows (exAll inp steps)
theorem outsB_all (inp : Int) (n : Nat) (outs : List Int) : outsB inp n outs = allIn 0 (inp + n - 1) outs := by
  unfold outsB allIn
  rw [List.all_eq_not_any_not]
theorem plGood_l1 (inp : Int) (hi : 1 ≤ inp ∧ inp ≤ 6) (steps : List S133) (outs : List Int) (hl : steps.length ≤ 1000) (ho : outs.length ≤ 1000) (E : List (List Int)) (hE : E.length ≤ 100000) (hr : ∀ r ∈ E, r.length ≤ 1000) : ∀ (d i : Nat), i + d = E.length → Ev (fun q => spec_plGood.l1 q E (E.length : Int) i inp steps outs) (allRows (E.drop i) && outsB inp steps.length outs) := by
  intro d
  induction d with
  | zero =>
    intro i h
    refine up ?_
    simp only [spec_plGood.l1, if_neg (show ¬ (i : Int) < (E.length : Int) by omega), wid (x := inp + (steps.length : Int)) (by omega) (by omega), wid (x := inp + (steps.length : Int) - 1) (by omega) (by omega)]
    rw [List.drop_of_length_le (by omega), outsB_all]
    exact Ev.bind (l1All_val _ _ _ (by omega)) (Ev.now _)
  | succ d ih =>
    intro i h
    have hi2 : i < E.length := by omega
    have hrd : rd_L3 E (i : Int) = E[i] := by
      unfold rd_L3
      rw [Int.toNat_natCast, List.getD_eq_getElem?_getD, List.getElem?_eq_getElem hi2]; rfl
    refine up ?_
    simp only [spec_plGood.l1, if_pos (show (i : Int) < (E.length : Int) by omega), if_pos (show (0 : Int) ≤ (i : Int) by omega), hrd, wid (x := (i : Int) + 1) (by omega) (by omega)]
    refine Ev.bind (l1All_val 0 1000000 E[i] (by have := hr _ (List.getElem_mem hi2); omega)) ?_
    have e : allRows (E.drop i) = (allIn 0 1000000 E[i] && allRows (E.drop (i + 1))) := by
      rw [List.drop_eq_getElem_cons hi2]; rfl
    rw [e]
    cases hb : allIn 0 1000000 E[i] with
    | true => simp only [if_true, Bool.true_and]; exact ih (i + 1) (by omega)
    | false => simp only [Bool.false_eq_true, if_false, Bool.false_and]; exact Ev.now _
theorem plGood_l0 (inp : Int) (hi : 1 ≤ inp ∧ inp ≤ 6) (steps : List S133) (outs : List Int) (hl : steps.length ≤ 1000) (R : Bool) (hR : stepsB inp steps 0 = true → Ev (fun q => (spec_plExponents.f q inp steps outs).bind fun t => spec_plGood.l1 q t (t.length : Int) 0 inp steps outs) R) : ∀ (d j : Nat), j + d = steps.length → (stepsB inp (steps.drop j) j = true → stepsB inp steps 0 = true) → Ev (fun q => spec_plGood.l0 q steps (steps.length : Int) j inp steps outs) (stepsB inp (steps.drop j) j && R) := by
  intro d
  induction d with
  | zero =>
    intro j h hs
    refine up ?_
    simp only [spec_plGood.l0, if_neg (show ¬ (j : Int) < (steps.length : Int) by omega)]
    rw [List.drop_of_length_le (by omega)] at hs ⊢
    rw [stepsB_nil, Bool.true_and]
    exact hR (hs (stepsB_nil _ _))
  | succ d ih =>
    intro j h hs
    have hj : j < steps.length := by omega
    have e : stepsB inp (steps.drop j) j = (stepB inp j steps[j] && stepsB inp (steps.drop (j + 1)) (j + 1)) := by
      rw [List.drop_eq_getElem_cons hj, stepsB_cons]
    rw [e] at hs ⊢
    refine up ?_
    simp only [spec_plGood.l0, if_pos (show (j : Int) < (steps.length : Int) by omega), if_pos (show (0 : Int) ≤ (j : Int) by omega), rdPlan_at hj, l1In_val, Option.bind_some, wid (x := inp + (j : Int)) (by omega) (by omega), wid (x := (j : Int) + 1) (by omega) (by omega)]
    unfold stepB at hs ⊢
    cases h0 : decide (0 ≤ (steps[j]).f0) with
    | false => simp only [h0, Bool.false_and, Bool.false_eq_true, if_false]; exact Ev.now _
    | true =>
      cases h1 : decide ((steps[j]).f0 ≤ (steps[j]).f1) with
      | false => simp only [h0, h1, Bool.false_and, Bool.and_false, Bool.false_eq_true, if_false]; exact Ev.now _
      | true =>
        simp only [h0, h1, Bool.true_and, if_true] at hs ⊢
        by_cases h2 : (steps[j]).f1 < inp + j
        · simp only [decide_eq_true h2, Bool.true_and] at hs ⊢
          simp only [if_neg (show ¬ (steps[j]).f1 ≥ inp + j by omega)]
          exact ih (j + 1) (by omega) hs
        · simp only [decide_eq_false h2, Bool.false_and, if_pos (show (steps[j]).f1 ≥ inp + j by omega)]
          exact Ev.now _
theorem specPlan (inp : Int) (steps : List S133) (outs : List Int) : Ev (fun q => spec_plGood.f q inp steps outs) (planB inp steps outs) := by
  simp only [spec_plGood.f, l1In_val, Option.bind_some]
  have hj : ∀ (c : Prop) [Decidable c], c → ∀ f g : Nat → Option Bool, ∀ r, Ev f r → Ev (fun q => if c then f q else g q) r := fun c _ hc f g r h => by simp only [if_pos hc]; exact h
  have hno : planB inp steps outs = false → Ev (fun q => spec_plGood.j0 q true inp steps outs) (planB inp steps outs) := fun h => by
    rw [h]
    refine up ?_
    simp only [spec_plGood.j0, if_true]
    exact Ev.now _
  by_cases h1 : 1 ≤ inp ∧ inp ≤ 6
  · rw [decide_eq_true h1.1, decide_eq_true h1.2]
    simp only [Bool.and_self, if_true]
    by_cases h2 : (steps.length : Int) > 40
    · simp only [if_pos h2]
      refine hno ?_
      unfold planB formedB
      rw [decide_eq_false (show ¬ steps.length ≤ 40 by omega)]
      simp
    · simp only [if_neg h2]
      by_cases h3 : (outs.length : Int) > 6
      · rw [decide_eq_true h3]
        refine hno ?_
        unfold planB formedB
        rw [decide_eq_false (show ¬ outs.length ≤ 6 by omega)]
        simp
      · rw [decide_eq_false h3]
        refine up ?_
        simp only [spec_plGood.j0, Bool.false_eq_true, if_false]
        obtain ⟨n, rfl⟩ : ∃ n : Nat, inp = (n : Int) := ⟨inp.toNat, by omega⟩
        have hk := plGood_l0 (n : Int) h1 steps outs (by omega) (allRows (exAll (n : Int) steps) && outsB (n : Int) steps.length outs) (fun hs => by
          have hg := exLoop_good (n := n) steps (exBase n n) 0 (by rw [exBase_length]; rfl) (exBase_good n n) hs
          have he := plExp_l0 n (by omega) steps outs (by omega) hs n 0 (by omega)
          have hb0 : exBase n 0 = [] := rfl
          rw [hb0] at he
          have hE : exAll (n : Int) steps = exLoop steps (exBase n n) := by unfold exAll; rw [Int.toNat_natCast]
          rw [hE]
          refine Ev.bind (show Ev (fun q => spec_plExponents.f q (n : Int) steps outs) _ from he) ?_
          have := plGood_l1 (n : Int) h1 steps outs (by omega) (by omega) (exLoop steps (exBase n n)) (by rw [exLoop_len, exBase_length]; omega) (fun r hr => by have := (hg r hr).1; omega) _ 0 (Nat.zero_add _)
          exact this) steps.length 0 (by omega) (fun h => by rwa [List.drop_zero] at h)
        rw [List.drop_zero] at hk
        have e : planB (n : Int) steps outs = (stepsB (n : Int) steps 0 && (allRows (exAll (n : Int) steps) && outsB (n : Int) steps.length outs)) := by
          unfold planB formedB
          rw [decide_eq_true h1, decide_eq_true (show steps.length ≤ 40 by omega), decide_eq_true (show outs.length ≤ 6 by omega)]
          cases stepsB (n : Int) steps 0 <;> cases outsB (n : Int) steps.length outs <;> simp
        rw [e]
        exact hk
  · have hb : (decide (1 ≤ inp) && decide (inp ≤ 6)) = false := by
      rw [Bool.and_eq_false_iff, decide_eq_false_iff_not, decide_eq_false_iff_not]; omega
    rw [hb]
    simp only [Bool.false_eq_true, if_false]
    refine hno ?_
    unfold planB formedB
    rw [decide_eq_false h1]
    simp
theorem maxOf_le {l : List Int} (h : l ≠ []) {m : Int} : Go.Lib.maxOf l ≤ m ↔ ∀ x ∈ l, x ≤ m := by
  have key : ∀ (l : List Int) (a : Int), l.foldl max a ≤ m ↔ a ≤ m ∧ ∀ x ∈ l, x ≤ m := by
    intro l
    induction l with
    | nil => intro a; simp
    | cons y l ih =>
      intro a
      rw [List.foldl_cons, ih]
      constructor
      · rintro ⟨h1, h2⟩
        refine ⟨by omega, fun x hx => ?_⟩
        rcases List.mem_cons.1 hx with rfl | hx
        · omega
        · exact h2 x hx
      · rintro ⟨h1, h2⟩
        have := h2 y List.mem_cons_self
        exact ⟨by omega, fun x hx => h2 x (List.mem_cons_of_mem _ hx)⟩
  unfold Go.Lib.maxOf
  rw [key]
  cases l with
  | nil => exact absurd rfl h
  | cons y l =>
    exact ⟨fun h => h.2, fun h => ⟨h y List.mem_cons_self, h⟩⟩
theorem allRows_max {n : Nat} (hn : 0 < n) {E : List (List Int)} (h : exGood n E) : allRows E = !(E.any fun r => decide (1000000 < Go.Lib.maxOf r)) := by
  unfold allRows
  rw [List.all_eq_not_any_not]
  have : ∀ r ∈ E, (!allIn 0 1000000 r) = decide (1000000 < Go.Lib.maxOf r) := fun r hr => by
    obtain ⟨h1, h2⟩ := h r hr
    have hne : r ≠ [] := fun e => by subst e; simp at h1; omega
    by_cases hc : 1000000 < Go.Lib.maxOf r
    · rw [decide_eq_true hc]
      have : ¬ ∀ x ∈ r, x ≤ 1000000 := fun hx => by have := (maxOf_le hne).2 hx; omega
      rw [Bool.not_eq_true', Bool.eq_false_iff]
      intro ha
      refine this fun x hx => ?_
      unfold allIn at ha
      have := List.all_eq_true.1 ha x hx
      rw [Bool.and_eq_true, decide_eq_true_iff, decide_eq_true_iff] at this
      exact this.2
    · rw [decide_eq_false hc]
      have : ∀ x ∈ r, x ≤ 1000000 := (maxOf_le hne).1 (by omega)
      rw [Bool.not_eq_false']
      unfold allIn
      refine List.all_eq_true.2 fun x hx => ?_
      rw [Bool.and_eq_true, decide_eq_true_iff, decide_eq_true_iff]
      exact ⟨(h2 x hx).1, this x hx⟩
  congr 1
  rw [Bool.eq_iff_iff, List.any_eq_true, List.any_eq_true]
  exact ⟨fun ⟨r, hr, hx⟩ => ⟨r, hr, by rw [← this r hr]; exact hx⟩, fun ⟨r, hr, hx⟩ => ⟨r, hr, by rw [this r hr]; exact hx⟩⟩
theorem implPlan (inp : Int) (steps : List S133) (outs : List Int) : impl_IsPlan.f inp steps outs = some (planB inp steps outs) := by
  unfold impl_IsPlan.f planB
  cases hf : formedB inp steps outs with
  | false => rfl
  | true =>
    obtain ⟨h1, _, _, h4, _⟩ := formedB_parts hf
    obtain ⟨n, rfl⟩ : ∃ n : Nat, inp = (n : Int) := ⟨inp.toNat, by omega⟩
    have hg := exLoop_good (n := n) steps (exBase n n) 0 (by rw [exBase_length]; rfl) (exBase_good n n) h4
    have hE : exAll (n : Int) steps = exLoop steps (exBase n n) := by unfold exAll; rw [Int.toNat_natCast]
    rw [← hE] at hg
    rw [allRows_max (n := n) (by omega) hg]
/-- A polynomial without zeros at its end. -/
def cutB (l : List Int) : List Int := (l.reverse.dropWhile (· == 0)).reverse
theorem cutB_nil : cutB [] = [] := rfl
theorem cutB_zero (l : List Int) : cutB (l ++ [0]) = cutB l := by unfold cutB; simp
theorem cutB_ne (l : List Int) {x : Int} (h : x ≠ 0) : cutB (l ++ [x]) = l ++ [x] := by unfold cutB; simp [h]
theorem rd_last (l : List Int) (x : Int) : rd (l ++ [x]) (l.length : Int) = x := by
  rw [rd_at (by simp)]; simp
theorem cut_val : ∀ (n : Nat) (l : List Int), l.length = n → n ≤ 1000000000 → Ev (fun q => impl_cut.f q l) (cutB l) := by
  intro n
  induction n with
  | zero =>
    intro l h _
    obtain rfl := List.eq_nil_of_length_eq_zero h
    simp only [impl_cut.f]
    refine up ?_
    simp only [impl_cut.l0, List.length_nil, if_neg (show ¬ ((0 : Nat) : Int) > 0 by omega)]
    exact Ev.now _
  | succ n ih =>
    intro l h hn
    obtain ⟨l', x, rfl⟩ : ∃ l' x, l = l' ++ [x] := by
      rcases List.eq_nil_or_concat l with h0 | ⟨l', x, h0⟩
      · subst h0; simp at h
      · exact ⟨l', x, by rw [h0, List.concat_eq_append]⟩
    have hl : l'.length = n := by simpa using h
    have e1 : (((l' ++ [x]).length : Nat) : Int) - 1 = (l'.length : Int) := by rw [List.length_append, List.length_singleton]; omega
    simp only [impl_cut.f]
    refine up ?_
    simp only [impl_cut.l0, e1, wid (x := (l'.length : Int)) (by omega) (by omega), if_pos (show ((l' ++ [x]).length : Int) > 0 by rw [List.length_append, List.length_singleton]; omega), if_pos (show (0 : Int) ≤ (l'.length : Int) by omega), if_pos (show (l'.length : Int) < ((l' ++ [x]).length : Int) by rw [List.length_append, List.length_singleton]; omega), if_pos (show (l'.length : Int) ≤ ((l' ++ [x]).length : Int) by rw [List.length_append, List.length_singleton]; omega), rd_last, Int.toNat_natCast, List.take_left]
    by_cases hx : x = 0
    · subst hx
      rw [cutB_zero]
      simp only [if_true]
      exact ih l' hl (by omega)
    · rw [cutB_ne l' hx]
      simp only [if_neg hx]
      exact Ev.now _
theorem cutB_len (l : List Int) : (cutB l).length ≤ l.length := by
  unfold cutB
  rw [List.length_reverse]
  have := (List.dropWhile_sublist (fun x : Int => x == 0) (l := l.reverse)).length_le
  rw [List.length_reverse] at this
  exact this
theorem own_val (l : List Int) (h : l.length < 1000000000) : spec_l1Own.f l = some l := by
  simp only [spec_l1Own.f, Option.bind_some, List.length_nil, Nat.zero_add, List.nil_append, if_pos (show l.length < 17592186044416 by omega)]
theorem trim_loop (l : List Int) (hl : l.length < 1000000000) : ∀ n, n ≤ l.length → Ev (fun q => spec_poTrim.l0 q l n) (cutB (l.take n)) := by
  intro n
  induction n with
  | zero =>
    intro _
    refine up ?_
    simp only [spec_poTrim.l0, if_neg (show ¬ ((0 : Nat) : Int) > 0 by omega), if_pos (show (0 : Int) ≤ ((0 : Nat) : Int) by omega), if_pos (show ((0 : Nat) : Int) ≤ (l.length : Int) by omega), Int.toNat_natCast, List.take_zero, own_val [] (by simp), Option.bind_some, cutB_nil]
    exact Ev.now _
  | succ n ih =>
    intro hn
    have e : l.take (n + 1) = l.take n ++ [l[n]] := List.take_succ_eq_append_getElem (by omega)
    have ht : (l.take (n + 1)).length < 1000000000 := by rw [List.length_take]; omega
    refine up ?_
    simp only [spec_poTrim.l0, if_pos (show ((n + 1 : Nat) : Int) > 0 by omega), show ((n + 1 : Nat) : Int) - 1 = (n : Int) by omega, wid (x := (n : Int)) (by omega) (by omega), if_pos (show (0 : Int) ≤ (n : Int) by omega), if_pos (show (n : Int) < (l.length : Int) by omega), rd_at (show n < l.length by omega), if_pos (show (0 : Int) ≤ ((n + 1 : Nat) : Int) by omega), if_pos (show ((n + 1 : Nat) : Int) ≤ (l.length : Int) by omega), Int.toNat_natCast, own_val _ ht, Option.bind_some]
    rw [e]
    by_cases hx : l[n] = 0
    · rw [if_pos_ev hx, hx, cutB_zero]
      exact ih (by omega)
    · rw [if_neg_ev hx, cutB_ne _ hx]
      exact Ev.now _
theorem trim_val (l : List Int) (hl : l.length < 1000000000) : Ev (fun q => spec_poTrim.f q l) (cutB l) := by
  have := trim_loop l hl l.length (Nat.le_refl _)
  rw [List.take_length] at this
  simpa [spec_poTrim.f] using this
/-- x is added to a row, from place i on. -/
def addTo (x : List Int) : List Int → Nat → Nat → List Int
  | out, _, 0 => out
  | out, i, d + 1 => addTo x (out.set i (wrap64 (rd out i + rd x i))) (i + 1) d
theorem addTo_len (x : List Int) : ∀ d i out, (addTo x out i d).length = out.length
  | 0, _, _ => rfl
  | d + 1, i, out => by unfold addTo; rw [addTo_len x d, List.length_set]
def sumP (a b : List Int) : List Int := cutB (addTo b (addTo a (List.replicate (max a.length b.length) 0) 0 a.length) 0 b.length)
theorem iSum_l1 (b : List Int) (hb : b.length ≤ 1000000) : ∀ (d i : Nat) (out : List Int), i + d = b.length → b.length ≤ out.length → out.length ≤ 1000000 → Ev (fun q => impl_sumOf.l1 q out b (b.length : Int) i) (cutB (addTo b out i d)) := by
  intro d
  induction d with
  | zero =>
    intro i out h ho ho2
    refine up ?_
    simp only [impl_sumOf.l1, if_neg (show ¬ (i : Int) < (b.length : Int) by omega), addTo]
    exact Ev.bind (cut_val _ out rfl (by omega)) (Ev.now _)
  | succ d ih =>
    intro i out h ho ho2
    refine up ?_
    simp only [impl_sumOf.l1, if_pos (show (i : Int) < (b.length : Int) by omega), if_pos (show (0 : Int) ≤ (i : Int) by omega), if_pos (show (i : Int) < (out.length : Int) by omega), Int.toNat_natCast, wid (x := (i : Int) + 1) (by omega) (by omega), addTo]
    exact ih (i + 1) _ (by omega) (by rw [List.length_set]; exact ho) (by rw [List.length_set]; exact ho2)
theorem iSum_l0 (a b : List Int) (hb : b.length ≤ 1000000) : ∀ (d i : Nat) (out : List Int), i + d = a.length → a.length ≤ out.length → b.length ≤ out.length → out.length ≤ 1000000 → Ev (fun q => impl_sumOf.l0 q b out a (a.length : Int) i) (cutB (addTo b (addTo a out i d) 0 b.length)) := by
  intro d
  induction d with
  | zero =>
    intro i out h ho hb2 ho2
    refine up ?_
    simp only [impl_sumOf.l0, if_neg (show ¬ (i : Int) < (a.length : Int) by omega), addTo]
    exact iSum_l1 b hb b.length 0 out (by omega) hb2 ho2
  | succ d ih =>
    intro i out h ho hb2 ho2
    refine up ?_
    simp only [impl_sumOf.l0, if_pos (show (i : Int) < (a.length : Int) by omega), if_pos (show (0 : Int) ≤ (i : Int) by omega), if_pos (show (i : Int) < (out.length : Int) by omega), Int.toNat_natCast, wid (x := (i : Int) + 1) (by omega) (by omega), addTo]
    exact ih (i + 1) _ (by omega) (by rw [List.length_set]; exact ho) (by rw [List.length_set]; exact hb2) (by rw [List.length_set]; exact ho2)
theorem mx_nat (a b : Nat) : mx (a : Int) (b : Int) = ((max a b : Nat) : Int) := by unfold mx; split <;> omega
theorem iSum_val (a b : List Int) (ha : a.length ≤ 1000) (hb : b.length ≤ 1000) : Ev (fun q => impl_sumOf.f q a b) (sumP a b) := by
  simp only [impl_sumOf.f, mx_nat, Int.toNat_natCast, if_pos (show (0 : Int) ≤ ((max a.length b.length : Nat) : Int) by omega), if_pos (show max a.length b.length ≤ 35184372088832 by omega)]
  exact iSum_l0 a b (by omega) a.length 0 _ (by omega) (by rw [List.length_replicate]; omega) (by rw [List.length_replicate]; omega) (by rw [List.length_replicate]; omega)
theorem sSum_l1 (b : List Int) (hb : b.length ≤ 1000000) : ∀ (d i : Nat) (out : List Int), i + d = b.length → b.length ≤ out.length → out.length ≤ 1000000 → Ev (fun q => spec_poSum.l1 q out b (b.length : Int) i) (cutB (addTo b out i d)) := by
  intro d
  induction d with
  | zero =>
    intro i out h ho ho2
    refine up ?_
    simp only [spec_poSum.l1, if_neg (show ¬ (i : Int) < (b.length : Int) by omega), addTo]
    exact Ev.bind (trim_val out (by omega)) (Ev.now _)
  | succ d ih =>
    intro i out h ho ho2
    refine up ?_
    simp only [spec_poSum.l1, if_pos (show (i : Int) < (b.length : Int) by omega), if_pos (show (0 : Int) ≤ (i : Int) by omega), if_pos (show (i : Int) < (out.length : Int) by omega), Int.toNat_natCast, wid (x := (i : Int) + 1) (by omega) (by omega), addTo]
    exact ih (i + 1) _ (by omega) (by rw [List.length_set]; exact ho) (by rw [List.length_set]; exact ho2)
theorem sSum_l0 (a b : List Int) (hb : b.length ≤ 1000000) : ∀ (d i : Nat) (out : List Int), i + d = a.length → a.length ≤ out.length → b.length ≤ out.length → out.length ≤ 1000000 → Ev (fun q => spec_poSum.l0 q b out a (a.length : Int) i) (cutB (addTo b (addTo a out i d) 0 b.length)) := by
  intro d
  induction d with
  | zero =>
    intro i out h ho hb2 ho2
    refine up ?_
    simp only [spec_poSum.l0, if_neg (show ¬ (i : Int) < (a.length : Int) by omega), addTo]
    exact sSum_l1 b hb b.length 0 out (by omega) hb2 ho2
  | succ d ih =>
    intro i out h ho hb2 ho2
    refine up ?_
    simp only [spec_poSum.l0, if_pos (show (i : Int) < (a.length : Int) by omega), if_pos (show (0 : Int) ≤ (i : Int) by omega), if_pos (show (i : Int) < (out.length : Int) by omega), Int.toNat_natCast, wid (x := (i : Int) + 1) (by omega) (by omega), addTo]
    exact ih (i + 1) _ (by omega) (by rw [List.length_set]; exact ho) (by rw [List.length_set]; exact hb2) (by rw [List.length_set]; exact ho2)
theorem l1Most_val (a b : Nat) : spec_l1Most.f (a : Int) (b : Int) = some ((max a b : Nat) : Int) := by
  unfold spec_l1Most.f
  split <;> congr 1 <;> omega
theorem sSum_val (a b : List Int) (ha : a.length ≤ 1000) (hb : b.length ≤ 1000) : Ev (fun q => spec_poSum.f q a b) (sumP a b) := by
  simp only [spec_poSum.f, l1Most_val, Option.bind_some, Int.toNat_natCast, if_pos (show (0 : Int) ≤ ((max a.length b.length : Nat) : Int) by omega), if_pos (show max a.length b.length ≤ 35184372088832 by omega)]
  exact sSum_l0 a b (by omega) a.length 0 _ (by omega) (by rw [List.length_replicate]; omega) (by rw [List.length_replicate]; omega) (by rw [List.length_replicate]; omega)
/-- x times a row is added to a row, from place k of it on. -/
def mulIn (x : Int) (b : List Int) (i : Nat) : List Int → Nat → Nat → List Int
  | out, _, 0 => out
  | out, k, d + 1 => mulIn x b i (out.set (i + k) (wrap64 (rd out ((i + k : Nat) : Int) + wrap64 (x * rd b k)))) (k + 1) d
def mulOut (a b : List Int) : List Int → Nat → Nat → List Int
  | out, _, 0 => out
  | out, i, d + 1 => mulOut a b (mulIn (rd a i) b i out 0 b.length) (i + 1) d
theorem mulIn_len (x : Int) (b : List Int) (i : Nat) : ∀ d k out, (mulIn x b i out k d).length = out.length
  | 0, _, _ => rfl
  | d + 1, k, out => by unfold mulIn; rw [mulIn_len x b i d, List.length_set]
theorem mulOut_len (a b : List Int) : ∀ d i out, (mulOut a b out i d).length = out.length
  | 0, _, _ => rfl
  | d + 1, i, out => by unfold mulOut; rw [mulOut_len a b d, mulIn_len]
def prodP (a b : List Int) : List Int := cutB (mulOut a b (List.replicate (a.length + b.length) 0) 0 a.length)
theorem iMul_l1 (a b : List Int) (hb : b.length ≤ 1000) {R : List Int} {i : Nat} (hi : i ≤ 1000) {x : Int} : ∀ (d k : Nat) (out : List Int), k + d = b.length → i + b.length ≤ out.length → Ev (fun q => impl_productOf.l0 q b (mulIn x b i out k d) a (a.length : Int) ((i + 1 : Nat) : Int)) R → Ev (fun q => impl_productOf.l1 q b out i x a (a.length : Int) i b (b.length : Int) k) R := by
  intro d
  induction d with
  | zero =>
    intro k out h ho hE
    refine up ?_
    simp only [impl_productOf.l1, if_neg (show ¬ (k : Int) < (b.length : Int) by omega), wid (x := (i : Int) + 1) (by omega) (by omega)]
    exact hE
  | succ d ih =>
    intro k out h ho hE
    refine up ?_
    have e : (i : Int) + (k : Int) = ((i + k : Nat) : Int) := by omega
    simp only [impl_productOf.l1, if_pos (show (k : Int) < (b.length : Int) by omega), if_pos (show (0 : Int) ≤ (k : Int) by omega), e, wid (x := ((i + k : Nat) : Int)) (by omega) (by omega), if_pos (show (0 : Int) ≤ ((i + k : Nat) : Int) by omega), if_pos (show ((i + k : Nat) : Int) < (out.length : Int) by omega), Int.toNat_natCast, wid (x := (k : Int) + 1) (by omega) (by omega)]
    exact ih (k + 1) _ (by omega) (by rw [List.length_set]; exact ho) hE
theorem iMul_l0 (a b : List Int) (ha : a.length ≤ 1000) (hb : b.length ≤ 1000) : ∀ (d i : Nat) (out : List Int), i + d = a.length → (a.length + b.length ≤ out.length + 1 ∨ b.length = 0) → out.length ≤ 100000 → Ev (fun q => impl_productOf.l0 q b out a (a.length : Int) i) (cutB (mulOut a b out i d)) := by
  intro d
  induction d with
  | zero =>
    intro i out h ho ho2
    refine up ?_
    simp only [impl_productOf.l0, if_neg (show ¬ (i : Int) < (a.length : Int) by omega), mulOut]
    exact Ev.bind (cut_val _ out rfl (by omega)) (Ev.now _)
  | succ d ih =>
    intro i out h ho ho2
    refine up ?_
    simp only [impl_productOf.l0, if_pos (show (i : Int) < (a.length : Int) by omega), if_pos (show (0 : Int) ≤ (i : Int) by omega)]
    have hnext := ih (i + 1) (mulIn (rd a i) b i out 0 b.length) (by omega) (by rw [mulIn_len]; exact ho) (by rw [mulIn_len]; exact ho2)
    by_cases h0 : b.length = 0
    · refine up ?_
      simp only [impl_productOf.l1, h0, if_neg (show ¬ (0 : Int) < ((0 : Nat) : Int) by omega), wid (x := (i : Int) + 1) (by omega) (by omega)]
      rw [h0] at hnext
      rw [show mulOut a b out i (d + 1) = mulOut a b (mulIn (rd a i) b i out 0 b.length) (i + 1) d from rfl, h0]
      exact hnext
    · exact iMul_l1 a b hb (by omega) b.length 0 out (by omega) (by omega) hnext
theorem iMul_val (a b : List Int) (ha : a.length ≤ 1000) (hb : b.length ≤ 1000) : Ev (fun q => impl_productOf.f q a b) (prodP a b) := by
  have e : (a.length : Int) + (b.length : Int) = ((a.length + b.length : Nat) : Int) := by omega
  simp only [impl_productOf.f, e, wid (x := ((a.length + b.length : Nat) : Int)) (by omega) (by omega), Int.toNat_natCast, if_pos (show (0 : Int) ≤ ((a.length + b.length : Nat) : Int) by omega), if_pos (show a.length + b.length ≤ 35184372088832 by omega)]
  exact iMul_l0 a b ha hb a.length 0 _ (by omega) (.inl (by rw [List.length_replicate]; omega)) (by rw [List.length_replicate]; omega)
theorem sMul_l1 (a b : List Int) (hb : b.length ≤ 1000) {R : List Int} {i : Nat} (hi : i ≤ 1000) {x : Int} : ∀ (d k : Nat) (out : List Int), k + d = b.length → i + b.length ≤ out.length → Ev (fun q => spec_poProduct.l0 q b (mulIn x b i out k d) a (a.length : Int) ((i + 1 : Nat) : Int)) R → Ev (fun q => spec_poProduct.l1 q b out i x a (a.length : Int) i b (b.length : Int) k) R := by
  intro d
  induction d with
  | zero =>
    intro k out h ho hE
    refine up ?_
    simp only [spec_poProduct.l1, if_neg (show ¬ (k : Int) < (b.length : Int) by omega), wid (x := (i : Int) + 1) (by omega) (by omega)]
    exact hE
  | succ d ih =>
    intro k out h ho hE
    refine up ?_
    have e : (i : Int) + (k : Int) = ((i + k : Nat) : Int) := by omega
    simp only [spec_poProduct.l1, if_pos (show (k : Int) < (b.length : Int) by omega), if_pos (show (0 : Int) ≤ (k : Int) by omega), e, wid (x := ((i + k : Nat) : Int)) (by omega) (by omega), if_pos (show (0 : Int) ≤ ((i + k : Nat) : Int) by omega), if_pos (show ((i + k : Nat) : Int) < (out.length : Int) by omega), Int.toNat_natCast, wid (x := (k : Int) + 1) (by omega) (by omega)]
    exact ih (k + 1) _ (by omega) (by rw [List.length_set]; exact ho) hE
theorem sMul_l0 (a b : List Int) (ha : a.length ≤ 1000) (hb : b.length ≤ 1000) (hb0 : 0 < b.length) : ∀ (d i : Nat) (out : List Int), i + d = a.length → a.length + b.length ≤ out.length + 1 → out.length ≤ 100000 → Ev (fun q => spec_poProduct.l0 q b out a (a.length : Int) i) (cutB (mulOut a b out i d)) := by
  intro d
  induction d with
  | zero =>
    intro i out h ho ho2
    refine up ?_
    simp only [spec_poProduct.l0, if_neg (show ¬ (i : Int) < (a.length : Int) by omega), mulOut]
    exact Ev.bind (trim_val out (by omega)) (Ev.now _)
  | succ d ih =>
    intro i out h ho ho2
    refine up ?_
    simp only [spec_poProduct.l0, if_pos (show (i : Int) < (a.length : Int) by omega), if_pos (show (0 : Int) ≤ (i : Int) by omega)]
    exact sMul_l1 a b hb (by omega) b.length 0 out (by omega) (by omega) (ih (i + 1) (mulIn (rd a i) b i out 0 b.length) (by omega) (by rw [mulIn_len]; exact ho) (by rw [mulIn_len]; exact ho2))
theorem rd_left {l m : List Int} {j : Nat} (h : j < l.length) : rd (l ++ m) (j : Int) = rd l (j : Int) := by
  unfold rd
  rw [Int.toNat_natCast, List.getD_eq_getElem?_getD, List.getD_eq_getElem?_getD, List.getElem?_append_left h]
theorem mulIn_more (x : Int) (b : List Int) (i : Nat) (t : List Int) : ∀ d k out, i + k + d ≤ out.length → mulIn x b i (out ++ t) k d = mulIn x b i out k d ++ t
  | 0, _, _, _ => rfl
  | d + 1, k, out, h => by
    unfold mulIn
    rw [rd_left (by omega), List.set_append_left _ _ (by omega)]
    exact mulIn_more x b i t d (k + 1) _ (by rw [List.length_set]; omega)
theorem mulOut_more (a b t : List Int) : ∀ d i out, i + d + b.length ≤ out.length + 1 → mulOut a b (out ++ t) i d = mulOut a b out i d ++ t
  | 0, _, _, _ => rfl
  | d + 1, i, out, h => by
    unfold mulOut
    rw [mulIn_more _ b i t b.length 0 out (by omega)]
    exact mulOut_more a b t d (i + 1) _ (by rw [mulIn_len]; omega)
theorem cutB_zeros (n : Nat) : cutB (List.replicate n 0) = [] := by
  induction n with
  | zero => rfl
  | succ n ih => rw [List.replicate_succ', cutB_zero, ih]
theorem mulOut_nil (a : List Int) : ∀ d i out, mulOut a [] out i d = out
  | 0, _, _ => rfl
  | d + 1, i, out => by unfold mulOut; exact mulOut_nil a d (i + 1) out
theorem sMul_val (a b : List Int) (ha : a.length ≤ 1000) (hb : b.length ≤ 1000) : Ev (fun q => spec_poProduct.f q a b) (prodP a b) := by
  have jt : Ev (fun q => spec_poProduct.j0 q a b true) [] := by refine up ?_; simp only [spec_poProduct.j0, if_true]; exact Ev.now _
  simp only [spec_poProduct.f]
  by_cases h0 : a.length = 0
  · rw [if_pos_ev (show (a.length : Int) = 0 by omega)]
    obtain rfl := List.eq_nil_of_length_eq_zero h0
    have e : prodP [] b = [] := by unfold prodP mulOut; exact cutB_zeros _
    rw [e]; exact jt
  · rw [if_neg_ev (show ¬ (a.length : Int) = 0 by omega)]
    by_cases h1 : b.length = 0
    · obtain rfl := List.eq_nil_of_length_eq_zero h1
      have e : prodP a [] = [] := by unfold prodP; rw [mulOut_nil]; exact cutB_zeros _
      rw [e]; exact jt
    · have e : ((b.length : Int) == 0) = false := beq_eq_false_iff_ne.mpr (by omega)
      rw [e]
      refine up ?_
      have e2 : wrap64 (wrap64 ((a.length : Int) + (b.length : Int)) - 1) = ((a.length + b.length - 1 : Nat) : Int) := by
        rw [wid (x := (a.length : Int) + (b.length : Int)) (by omega) (by omega), wid (x := (a.length : Int) + (b.length : Int) - 1) (by omega) (by omega)]; omega
      simp only [spec_poProduct.j0, Bool.false_eq_true, if_false, e2, Int.toNat_natCast, if_pos (show (0 : Int) ≤ ((a.length + b.length - 1 : Nat) : Int) by omega), if_pos (show a.length + b.length - 1 ≤ 35184372088832 by omega)]
      have h := sMul_l0 a b ha hb (by omega) a.length 0 (List.replicate (a.length + b.length - 1) 0) (by omega) (by rw [List.length_replicate]; omega) (by rw [List.length_replicate]; omega)
      have e3 : prodP a b = cutB (mulOut a b (List.replicate (a.length + b.length - 1) 0) 0 a.length) := by
        unfold prodP
        have e4 : List.replicate (a.length + b.length) (0 : Int) = List.replicate (a.length + b.length - 1) 0 ++ [0] := by
          have e5 : a.length + b.length = a.length + b.length - 1 + 1 := by omega
          conv => lhs; rw [e5]
          exact List.replicate_succ'
        rw [e4, mulOut_more a b [0] a.length 0 _ (by rw [List.length_replicate]; omega), cutB_zero]
      rw [e3]; exact h
theorem mulIn_zeros (x : Int) (i : Nat) : ∀ n, i < n → mulIn x [0] i (List.replicate n 0) 0 1 = List.replicate n 0 := by
  intro n h
  have e1 : rd (List.replicate n 0) ((i + 0 : Nat) : Int) = 0 := by
    rw [rd_at (by rw [List.length_replicate]; omega)]; simp
  have e2 : rd [0] ((0 : Nat) : Int) = 0 := rfl
  simp only [mulIn, e1, e2, Int.mul_zero]
  have w0 : wrap64 0 = 0 := wid (by decide) (by decide)
  rw [w0, Int.add_zero, w0]
  apply List.ext_getElem
  · simp
  · intro j h1 h2
    rw [List.getElem_set]
    split <;> simp
theorem mulOut_zeros (a : List Int) (n : Nat) : ∀ d i, i + d ≤ n → mulOut a [0] (List.replicate n 0) i d = List.replicate n 0
  | 0, _, _ => rfl
  | d + 1, i, h => by
    unfold mulOut
    rw [show ([0] : List Int).length = 1 from rfl, mulIn_zeros _ i n (by omega)]
    exact mulOut_zeros a n d (i + 1) (by omega)
theorem prodP_zero (a : List Int) : prodP a [0] = [] := by
  unfold prodP
  rw [mulOut_zeros a _ a.length 0 (by simp)]
  exact cutB_zeros _
theorem prodP_nil (a : List Int) : prodP a [] = [] := by unfold prodP; rw [mulOut_nil]; exact cutB_zeros _
theorem prodP_cut (a : List Int) (c : Int) : prodP a (cutB [c]) = prodP a [c] := by
  by_cases h : c = 0
  · subst h
    rw [prodP_zero, show cutB [0] = [] from rfl, prodP_nil]
  · rw [show cutB [c] = [c] from cutB_ne [] h]
def coefB (n : Int) : Bool := decide (-1000000 ≤ n) && decide (n ≤ 1000000)
def inB (x lo hi : Int) : Bool := decide (lo ≤ x) && decide (x ≤ hi)
theorem iIn_val (x a b : Int) : impl_in.f x a b = some (inB x a b) := by
  unfold impl_in.f inB
  by_cases h : a ≤ x
  · rw [if_pos h]; simp [h]
  · rw [if_neg h]; simp [h]
theorem iCoef_val (n : Int) : impl_coefOk.f n = some (coefB n) := by simp only [impl_coefOk.f, iIn_val, Option.bind_some]; rfl
/-- Whether an op is right at its place. -/
def opB (o : S109) (i : Int) : Bool :=
  if o.f0 = 0 then coefB o.f1 && (o.f2 == 0)
  else if o.f0 = 1 ∨ o.f0 = 3 then inB o.f1 0 i && inB o.f2 0 i
  else if o.f0 = 2 then inB o.f1 0 i && coefB o.f2
  else false
theorem opok_val (o : S109) (i : Int) : Ev (fun q => impl_Op_ok.f q o.f0 o.f1 o.f2 i) (opB o i) := by
  obtain ⟨x, a, b⟩ := o
  dsimp only
  unfold opB
  dsimp only
  simp only [impl_Op_ok.f]
  by_cases h0 : x = 0
  · rw [if_pos_ev h0, if_pos h0]
    simp only [iCoef_val, Option.bind_some]
    cases coefB a <;> simp <;> exact Ev.now _
  · rw [if_neg_ev h0, if_neg h0]
    have hj : ∀ y : Bool, Ev (fun q => impl_Op_ok.j0 q i x y x a b) (if y = true then inB a 0 i && inB b 0 i else if x = 2 then inB a 0 i && coefB b else false) := fun y => by
      refine up ?_
      cases y with
      | true =>
        simp only [impl_Op_ok.j0, if_true, iIn_val, Option.bind_some]
        cases inB a 0 i <;> simp <;> exact Ev.now _
      | false =>
        simp only [impl_Op_ok.j0, Bool.false_eq_true, if_false]
        by_cases h2 : x = 2
        · simp only [if_pos h2, iIn_val, iCoef_val, Option.bind_some]
          cases inB a 0 i <;> simp <;> exact Ev.now _
        · simp only [if_neg h2]; exact Ev.now _
    by_cases h1 : x = 1
    · rw [if_pos_ev h1, if_pos (.inl h1)]
      have := hj (x == 1)
      rw [show (x == 1) = true by simp [h1]] at this ⊢
      exact this
    · rw [if_neg_ev h1]
      have := hj (x == 3)
      by_cases h3 : x = 3
      · rw [if_pos (.inr h3)]
        rw [show (x == 3) = true by simp [h3]] at this ⊢
        exact this
      · rw [if_neg (by omega)]
        rw [show (x == 3) = false by simp [h3]] at this ⊢
        exact this
/-- The next polynomial, as both make it. -/
def nextP (o : S109) (P : List (List Int)) : List Int :=
  if o.f0 = 0 then cutB [o.f1] else if o.f0 = 1 then sumP (rdLL P o.f1) (rdLL P o.f2) else if o.f0 = 2 then prodP (rdLL P o.f1) [o.f2] else prodP (rdLL P o.f1) (rdLL P o.f2)
theorem inB_iff {x lo hi : Int} : inB x lo hi = true ↔ lo ≤ x ∧ x ≤ hi := by unfold inB; simp
theorem rdLL_small {P : List (List Int)} (hP : ∀ p ∈ P, p.length ≤ 17) {x : Int} : (rdLL P x).length ≤ 17 := by
  unfold rdLL
  rw [List.getD_eq_getElem?_getD]
  by_cases h : x.toNat < P.length
  · rw [List.getElem?_eq_getElem h]; exact hP _ (List.getElem_mem h)
  · rw [List.getElem?_eq_none (by omega)]; simp
theorem pcNext_val (o : S109) (P : List (List Int)) (hP : ∀ p ∈ P, p.length ≤ 17) (h : opB o ((P.length : Int) - 1) = true) : Ev (fun q => pcNext q o P) (nextP o P) := by
  obtain ⟨x, a, b⟩ := o
  unfold opB at h
  unfold nextP
  simp only [pcNext]
  dsimp only at h ⊢
  by_cases h0 : x = 0
  · simp only [if_pos h0]; exact cut_val _ _ rfl (by simp)
  · simp only [if_neg h0] at h ⊢
    by_cases h1 : x = 1
    · simp only [if_pos h1, if_pos (show x = 1 ∨ x = 3 from .inl h1)] at h ⊢
      rw [Bool.and_eq_true, inB_iff, inB_iff] at h
      rw [if_pos_ev (by omega)]
      have := rdLL_small hP (x := a); have := rdLL_small hP (x := b)
      exact iSum_val _ _ (by omega) (by omega)
    · simp only [if_neg h1] at ⊢
      by_cases h2 : x = 2
      · simp only [if_neg (show ¬ (x = 1 ∨ x = 3) by omega), if_pos h2] at h ⊢
        rw [Bool.and_eq_true, inB_iff] at h
        rw [if_pos_ev (by omega)]
        have := rdLL_small hP (x := a)
        exact iMul_val _ _ (by omega) (by simp)
      · by_cases h3 : x = 3
        · simp only [if_pos (show x = 1 ∨ x = 3 from .inr h3)] at h
          simp only [if_neg h2, if_pos h3]
          rw [Bool.and_eq_true, inB_iff, inB_iff] at h
          rw [if_pos_ev (by omega)]
          have := rdLL_small hP (x := a); have := rdLL_small hP (x := b)
          exact iMul_val _ _ (by omega) (by omega)
        · simp only [if_neg (show ¬ (x = 1 ∨ x = 3) by omega), if_neg h2] at h
          cases h
/-- All polynomials of a code: none where one is not right. -/
def polysB : List S109 → List (List Int) → Option (List (List Int))
  | [], P => some P
  | o :: r, P => if opB o ((P.length : Int) - 1) = true then (if polyB (nextP o P) = true then polysB r (P ++ [nextP o P]) else none) else none
theorem polyB_len {l : List Int} (h : polyB l = true) : l.length ≤ 17 := by
  unfold polyB at h
  rw [Bool.and_eq_true] at h
  exact of_decide_eq_true h.1
theorem small_app {P : List (List Int)} (hP : ∀ p ∈ P, p.length ≤ 17) {n : List Int} (hn : n.length ≤ 17) : ∀ p ∈ P ++ [n], p.length ≤ 17 := by
  intro p hp
  rcases List.mem_append.1 hp with hp | hp
  · exact hP p hp
  · rw [List.mem_singleton] at hp; subst hp; exact hn
def resB (x : Option (List (List Int))) : List (List Int) × Bool := match x with | some P => (P, true) | none => ([], false)
theorem pcLoop_val : ∀ (ops : List S109) (P : List (List Int)), (∀ p ∈ P, p.length ≤ 17) → P.length + ops.length ≤ 900 → Ev (fun q => pcLoop q ops ((P.length : Int) - 1) P) (resB (polysB ops P))
  | [], P, _, _ => by simp only [pcLoop, polysB, resB]; exact Ev.now _
  | o :: r, P, hP, hl => by
    rw [List.length_cons] at hl
    simp only [pcLoop, polysB]
    cases h : opB o ((P.length : Int) - 1) with
    | false =>
      have hs : Ev (fun q => pcStep q o ((P.length : Int) - 1) P) none := by
        have hop := opok_val o ((P.length : Int) - 1)
        rw [h] at hop
        simp only [pcStep]
        refine Ev.bind hop ?_
        simp only [Bool.false_eq_true, if_false]
        exact Ev.now _
      refine Ev.bind hs ?_
      simp only [Bool.false_eq_true, if_false, resB]
      exact Ev.now _
    | true =>
      have hop := opok_val o ((P.length : Int) - 1)
      rw [h] at hop
      have hn := pcNext_val o P hP h
      simp only [if_true]
      cases hb : polyB (nextP o P) with
      | false =>
        have hs : Ev (fun q => pcStep q o ((P.length : Int) - 1) P) none := by
          simp only [pcStep]
          refine Ev.bind hop ?_
          simp only [if_true]
          refine Ev.bind hn ?_
          simp only [impl_polynomialOk.f, hb, Option.bind_some, Bool.false_eq_true, if_false]
          exact Ev.now _
        refine Ev.bind hs ?_
        simp only [Bool.false_eq_true, if_false, resB]
        exact Ev.now _
      | true =>
        have hs : Ev (fun q => pcStep q o ((P.length : Int) - 1) P) (some (nextP o P)) := by
          simp only [pcStep]
          refine Ev.bind hop ?_
          simp only [if_true]
          refine Ev.bind hn ?_
          simp only [impl_polynomialOk.f, hb, Option.bind_some, if_true]
          exact Ev.now _
        refine Ev.bind hs ?_
        simp only [if_true, if_pos (show P.length < 1000 by omega)]
        have := pcLoop_val r (P ++ [nextP o P]) (small_app hP (polyB_len hb)) (by rw [List.length_append, List.length_singleton]; omega)
        rw [List.length_append, List.length_singleton, show ((P.length + 1 : Nat) : Int) - 1 = ((P.length : Int) - 1) + 1 by omega] at this
        exact this
/-- Whether something is a code. -/
def codeB (ops : List S109) (out : Int) : Bool := decide (ops.length ≤ 120) && (inB out 0 ops.length && (polysB ops [[0, 1]]).isSome)
theorem start_small : ∀ p ∈ ([[0, 1]] : List (List Int)), p.length ≤ 17 := by intro p hp; rw [List.mem_singleton] at hp; subst hp; simp
theorem implCode (ops : List S109) (out : Int) : Ev (fun q => impl_IsCode.f q ops out) (codeB ops out) := by
  simp only [impl_IsCode.f, polysF, codeB]
  by_cases h1 : ops.length > 120
  · rw [show decide (ops.length ≤ 120) = false from decide_eq_false (by omega), Bool.false_and]
    simp only [if_pos h1, Option.bind_some]; exact Ev.now _
  · rw [show decide (ops.length ≤ 120) = true from decide_eq_true (by omega), Bool.true_and]
    simp only [if_neg h1]
    by_cases h2 : 0 ≤ out ∧ out ≤ (ops.length : Int)
    · rw [show inB out 0 ops.length = true from inB_iff.2 h2, Bool.true_and]
      simp only [if_pos h2]
      have := pcLoop_val ops [[0, 1]] start_small (by simp; omega)
      refine Ev.bind this ?_
      cases h : polysB ops [[0, 1]] <;> simp only [resB, Option.isSome] <;> exact Ev.now _
    · rw [show inB out 0 ops.length = false from by rw [Bool.eq_false_iff]; exact fun h => h2 (inB_iff.1 h), Bool.false_and]
      simp only [if_neg h2, Option.bind_some]; exact Ev.now _
theorem small_val (l : List Int) (hl : l.length ≤ 1000000) : Ev (fun q => spec_poSmall.f q l) (polyB l) := by
  simp only [spec_poSmall.f]
  by_cases h : l.length ≤ 17
  · rw [if_pos_ev (show (l.length : Int) ≤ 17 by omega)]
    refine Ev.bind (l1All_val (-1000000) 1000000 l (by omega)) ?_
    have e : polyB l = allIn (-1000000) 1000000 l := by
      unfold polyB
      rw [show decide (l.length ≤ 17) = true from decide_eq_true h, Bool.true_and]
      rfl
    rw [e]; exact Ev.now _
  · rw [if_neg_ev (show ¬ (l.length : Int) ≤ 17 by omega), show polyB l = false by unfold polyB; rw [show decide (l.length ≤ 17) = false from decide_eq_false h]; rfl]
    exact Ev.now _
/-- What the reference tells of an op: its polynomial if it is right. -/
theorem poOp_val (o : S109) (P : List (List Int)) (hP : ∀ p ∈ P, p.length ≤ 17) (hl : P.length ≤ 1000000) (h1 : 1 ≤ P.length) : ∃ r, Ev (fun q => spec_poOp.f q o.f0 o.f1 o.f2 P) (r, opB o ((P.length : Int) - 1)) ∧ (opB o ((P.length : Int) - 1) = true → r = nextP o P) := by
  obtain ⟨x, a, b⟩ := o
  dsimp only
  have hn : wrap64 ((P.length : Int) - 1) = (P.length : Int) - 1 := wid (by omega) (by omega)
  obtain ⟨n, hn2⟩ : ∃ n, n = (P.length : Int) - 1 := ⟨_, rfl⟩
  have key : ∀ A B : Bool, A = inB a 0 n → B = (A && inB b 0 n) → ∃ r, Ev (fun q => spec_poOp.j0 q P A B x a b) (r, opB ⟨x, a, b⟩ n) ∧ (opB ⟨x, a, b⟩ n = true → r = nextP ⟨x, a, b⟩ P) := by
    intro A B hA hB
    by_cases h0 : x = 0
    · refine ⟨cutB [a], up ?_, fun _ => by unfold nextP; rw [if_pos h0]⟩
      simp only [spec_poOp.j0, if_pos h0]
      refine Ev.bind (trim_val [a] (by simp)) ?_
      simp only [l1In_val, Option.bind_some]
      have e : opB ⟨x, a, b⟩ n = (coefB a && (b == 0)) := by unfold opB; rw [if_pos h0]
      rw [e]
      unfold coefB
      cases (decide (-1000000 ≤ a) && decide (a ≤ 1000000)) with
      | true => simp only [if_true, Bool.true_and]; exact Ev.now _
      | false => simp only [Bool.false_eq_true, if_false, Bool.false_and]; exact Ev.now _
    · have hsmall := fun y : Int => rdLL_small hP (x := y)
      have hrd : ∀ y : Int, rd_L3 P y = rdLL P y := fun _ => rfl
      have hj2 : ∀ C : Bool, C = (decide (x = 2) && (A && coefB b)) → x ≠ 1 → ∃ r, Ev (fun q => spec_poOp.j2 q P B C x a b) (r, opB ⟨x, a, b⟩ n) ∧ (opB ⟨x, a, b⟩ n = true → r = nextP ⟨x, a, b⟩ P) := by
        intro C hC hx1
        by_cases h2 : x = 2
        · have e : opB ⟨x, a, b⟩ n = C := by unfold opB; rw [if_neg h0, if_neg (by dsimp only; omega), if_pos h2, hC, hA]; simp [h2]
          rw [e]
          cases hc : C with
          | true =>
            have hA2 : inB a 0 n = true := by
              rw [hc] at hC
              simp only [h2, decide_true, Bool.true_and] at hC
              have := hC.symm
              rw [Bool.and_eq_true] at this
              rw [← hA]; exact this.1
            rw [inB_iff] at hA2
            refine ⟨prodP (rdLL P a) [b], up ?_, fun _ => by unfold nextP; rw [if_neg h0, if_neg (by dsimp only; omega), if_pos h2]⟩
            simp only [spec_poOp.j2, if_true, if_pos hA2.1, if_pos (show a < (P.length : Int) by omega), hrd]
            refine Ev.bind (trim_val [b] (by simp)) ?_
            have hq : (cutB [b]).length ≤ 1 := cutB_len [b]
            have := sMul_val (rdLL P a) (cutB [b]) (by have := hsmall a; omega) (by omega)
            rw [prodP_cut] at this
            exact Ev.bind this (Ev.now _)
          | false =>
            refine ⟨[], up ?_, fun h => by cases h⟩
            simp only [spec_poOp.j2, Bool.false_eq_true, if_false, if_neg (show ¬ x = 3 by omega)]
            exact Ev.now _
        · have hC2 : C = false := by rw [hC]; simp [h2]
          subst hC2
          by_cases h3 : x = 3
          · have e : opB ⟨x, a, b⟩ n = B := by unfold opB; rw [if_neg h0, if_pos (.inr h3), hB, hA]
            rw [e]
            cases hb : B with
            | true =>
              have hAB : inB a 0 n = true ∧ inB b 0 n = true := by
                rw [hb, hA] at hB
                have := hB.symm
                rw [Bool.and_eq_true] at this
                exact this
              rw [inB_iff, inB_iff] at hAB
              refine ⟨prodP (rdLL P a) (rdLL P b), up ?_, fun _ => by unfold nextP; rw [if_neg h0, if_neg (by dsimp only; omega), if_neg (by dsimp only; omega)]⟩
              simp only [spec_poOp.j2, Bool.false_eq_true, if_false, if_pos h3, if_true, if_pos hAB.1.1, if_pos (show a < (P.length : Int) by omega), if_pos hAB.2.1, if_pos (show b < (P.length : Int) by omega), hrd]
              exact Ev.bind (sMul_val _ _ (by have := hsmall a; omega) (by have := hsmall b; omega)) (Ev.now _)
            | false =>
              refine ⟨[], up ?_, fun h => by cases h⟩
              simp only [spec_poOp.j2, Bool.false_eq_true, if_false, if_pos h3]
              exact Ev.now _
          · have e : opB ⟨x, a, b⟩ n = false := by unfold opB; rw [if_neg h0, if_neg (by dsimp only; omega), if_neg h2]
            rw [e]
            refine ⟨[], up ?_, fun h => by cases h⟩
            simp only [spec_poOp.j2, Bool.false_eq_true, if_false, if_neg h3]
            exact Ev.now _
      have hj1f : x ≠ 1 → ∃ r, Ev (fun q => spec_poOp.j1 q P A B false x a b) (r, opB ⟨x, a, b⟩ n) ∧ (opB ⟨x, a, b⟩ n = true → r = nextP ⟨x, a, b⟩ P) := by
        intro hx1
        by_cases h2 : x = 2
        · cases hAv : A with
          | true =>
            obtain ⟨r, h3, h4⟩ := hj2 (coefB b) (by rw [hAv]; simp [h2]) hx1
            refine ⟨r, up ?_, h4⟩
            simp only [spec_poOp.j1, Bool.false_eq_true, if_false, if_pos h2, if_true, l1In_val, Option.bind_some]
            exact h3
          | false =>
            obtain ⟨r, h3, h4⟩ := hj2 false (by rw [hAv]; simp) hx1
            refine ⟨r, up ?_, h4⟩
            simp only [spec_poOp.j1, Bool.false_eq_true, if_false, if_pos h2]
            exact h3
        · obtain ⟨r, h3, h4⟩ := hj2 false (by simp [h2]) hx1
          refine ⟨r, up ?_, h4⟩
          simp only [spec_poOp.j1, Bool.false_eq_true, if_false, if_neg h2]
          exact h3
      by_cases h1 : x = 1
      · have e : opB ⟨x, a, b⟩ n = B := by unfold opB; rw [if_neg h0, if_pos (.inl h1), hB, hA]
        rw [e]
        cases hb : B with
        | true =>
          have hAB : inB a 0 n = true ∧ inB b 0 n = true := by
            rw [hb, hA] at hB
            have := hB.symm
            rw [Bool.and_eq_true] at this
            exact this
          rw [inB_iff, inB_iff] at hAB
          refine ⟨sumP (rdLL P a) (rdLL P b), up ?_, fun _ => by unfold nextP; rw [if_neg h0, if_pos h1]⟩
          simp only [spec_poOp.j0, if_neg h0, if_pos h1]
          refine up ?_
          simp only [spec_poOp.j1, if_true, if_pos hAB.1.1, if_pos (show a < (P.length : Int) by omega), if_pos hAB.2.1, if_pos (show b < (P.length : Int) by omega), hrd]
          exact Ev.bind (sSum_val _ _ (by have := hsmall a; omega) (by have := hsmall b; omega)) (Ev.now _)
        | false =>
          refine ⟨[], up ?_, fun h => by cases h⟩
          simp only [spec_poOp.j0, if_neg h0, if_pos h1]
          refine up ?_
          simp only [spec_poOp.j1, Bool.false_eq_true, if_false, if_neg (show ¬ x = 2 by omega)]
          refine up ?_
          simp only [spec_poOp.j2, Bool.false_eq_true, if_false, if_neg (show ¬ x = 3 by omega)]
          exact Ev.now _
      · obtain ⟨r, h3, h4⟩ := hj1f h1
        refine ⟨r, up ?_, h4⟩
        simp only [spec_poOp.j0, if_neg h0, if_neg h1]
        exact h3
  rw [← hn2]
  have e1 : ∀ y : Int, (decide ((0 : Int) ≤ y) && decide (y ≤ n)) = inB y 0 n := fun _ => rfl
  cases hA : inB a 0 n with
  | true =>
    obtain ⟨r, h3, h4⟩ := key true (inB b 0 n) hA.symm (by rw [Bool.true_and])
    refine ⟨r, ?_, h4⟩
    simp only [spec_poOp.f, show wrap64 ((P.length : Int) - 1) = n from hn.trans hn2.symm, l1In_val, Option.bind_some, e1, hA, if_true]
    exact h3
  | false =>
    obtain ⟨r, h3, h4⟩ := key false false hA.symm (by rw [Bool.false_and])
    refine ⟨r, ?_, h4⟩
    simp only [spec_poOp.f, show wrap64 ((P.length : Int) - 1) = n from hn.trans hn2.symm, l1In_val, Option.bind_some, e1, hA, Bool.false_eq_true, if_false]
    exact h3
theorem rdOp_at {T : List S109} {i : Nat} (h : i < T.length) : rd_T109 T (i : Int) = T[i] := by
  unfold rd_T109
  rw [Int.toNat_natCast, List.getD_eq_getElem?_getD, List.getElem?_eq_getElem h]; rfl
theorem nextP_len (o : S109) (P : List (List Int)) (hP : ∀ p ∈ P, p.length ≤ 17) : (nextP o P).length ≤ 100 := by
  have h1 := rdLL_small hP (x := o.f1)
  have h2 := rdLL_small hP (x := o.f2)
  unfold nextP
  split
  · have := cutB_len [o.f1]; simp at this; omega
  · split
    · unfold sumP
      refine Nat.le_trans (cutB_len _) ?_
      rw [addTo_len, addTo_len, List.length_replicate]; omega
    · split
      · unfold prodP
        refine Nat.le_trans (cutB_len _) ?_
        rw [mulOut_len, List.length_replicate, List.length_singleton]; omega
      · unfold prodP
        refine Nat.le_trans (cutB_len _) ?_
        rw [mulOut_len, List.length_replicate]; omega
theorem poValues_loop (ops : List S109) (out : Int) (hl : ops.length ≤ 120) : ∀ (d i : Nat) (P : List (List Int)), i + d = ops.length → P.length = i + 1 → (∀ p ∈ P, p.length ≤ 17) → ∃ R : List (List Int) × Bool, Ev (fun q => spec_poValues.l0 q P ops (ops.length : Int) i ops out) R ∧ R = (match polysB (ops.drop i) P with | some P' => (P', inB out 0 ops.length) | none => ([], false)) := by
  intro d
  induction d with
  | zero =>
    intro i P h hp hP
    rw [List.drop_of_length_le (by omega)]
    refine ⟨_, up ?_, rfl⟩
    simp only [spec_poValues.l0, if_neg (show ¬ (i : Int) < (ops.length : Int) by omega), l1In_val, Option.bind_some, polysB]
    exact Ev.now _
  | succ d ih =>
    intro i P h hp hP
    have hi : i < ops.length := by omega
    obtain ⟨r, h1, h2⟩ := poOp_val ops[i] P hP (by omega) (by omega)
    have e : (P.length : Int) - 1 = (i : Int) := by omega
    rw [List.drop_eq_getElem_cons hi]
    unfold polysB
    have hgo : ∀ R, Ev (fun q => (if (opB ops[i] ((P.length : Int) - 1)) = true then ((spec_poSmall.f q r).bind fun t => if t = true then (if P.length < 5864062014805 then spec_poValues.l0 q (P ++ [r]) ops (ops.length : Int) ((i + 1 : Nat) : Int) ops out else none) else some ([], false)) else some ([], false))) R → Ev (fun q => spec_poValues.l0 q P ops (ops.length : Int) i ops out) R := by
      intro R hR
      refine up ?_
      simp only [spec_poValues.l0, if_pos (show (i : Int) < (ops.length : Int) by omega), if_pos (show (0 : Int) ≤ (i : Int) by omega), rdOp_at hi, wid (x := (i : Int) + 1) (by omega) (by omega)]
      exact Ev.bind h1 hR
    cases hb : opB ops[i] ((P.length : Int) - 1) with
    | false =>
      refine ⟨([], false), hgo _ ?_, by simp⟩
      rw [hb]
      simp only [Bool.false_eq_true, if_false]
      exact Ev.now _
    | true =>
      obtain rfl := h2 hb
      have hnl := nextP_len ops[i] P hP
      simp only [if_true]
      cases hs : polyB (nextP ops[i] P) with
      | false =>
        refine ⟨([], false), hgo _ ?_, by simp⟩
        rw [hb]
        simp only [if_true]
        have := small_val (nextP ops[i] P) (by omega)
        rw [hs] at this
        refine Ev.bind this ?_
        simp only [Bool.false_eq_true, if_false]
        exact Ev.now _
      | true =>
        obtain ⟨R, h3, h4⟩ := ih (i + 1) (P ++ [nextP ops[i] P]) (by omega) (by rw [List.length_append, List.length_singleton]; omega) (small_app hP (polyB_len hs))
        refine ⟨R, hgo _ ?_, by simpa using h4⟩
        rw [hb]
        simp only [if_true]
        have := small_val (nextP ops[i] P) (by omega)
        rw [hs] at this
        refine Ev.bind this ?_
        simp only [if_true, if_pos (show P.length < 5864062014805 by omega)]
        exact h3
theorem specGood (ops : List S109) (out : Int) : Ev (fun q => spec_poGood.f q ops out) (codeB ops out) := by
  simp only [spec_poGood.f, spec_poValues.f, codeB]
  by_cases h1 : ops.length > 120
  · rw [show decide (ops.length ≤ 120) = false from decide_eq_false (by omega), Bool.false_and]
    simp only [if_pos (show (ops.length : Int) > 120 by omega), Option.bind_some]; exact Ev.now _
  · rw [show decide (ops.length ≤ 120) = true from decide_eq_true (by omega), Bool.true_and]
    simp only [if_neg (show ¬ (ops.length : Int) > 120 by omega)]
    obtain ⟨R, h2, h3⟩ := poValues_loop ops out (by omega) ops.length 0 [[0, 1]] (by omega) rfl start_small
    refine Ev.bind h2 ?_
    rw [h3, List.drop_zero]
    cases polysB ops [[0, 1]] with
    | none => simp only [Option.isSome, Bool.and_false]; exact Ev.now _
    | some P => simp only [Option.isSome, Bool.and_true]; exact Ev.now _
/-! Rows of ops: copied, compared, marked, held. -/
theorem rdT_get {T : List S109} {i : Nat} (h : i < T.length) : rd_T109 T (i : Int) = T[i] := by
  unfold rd_T109
  rw [Int.toNat_natCast, List.getD_eq_getElem?_getD, List.getElem?_eq_getElem h]; rfl
theorem rdT_mid (a b : List S109) (x : S109) : rd_T109 (a ++ x :: b) (a.length : Int) = x := by
  rw [rdT_get (by simp)]; simp
theorem eqOpS_loop (T : List S109) (hl : T.length ≤ 140737488351232) : ∀ (d i : Nat), i + d = T.length → Ev (fun k => laws_eqOpS.l0 k T T i) true := by
  intro d
  induction d with
  | zero =>
    intro i h
    refine up ?_
    simp only [laws_eqOpS.l0, if_neg (show ¬ (i : Int) < (T.length : Int) by omega)]
    exact Ev.now _
  | succ d ih =>
    intro i h
    refine up ?_
    simp only [laws_eqOpS.l0, if_pos (show (i : Int) < (T.length : Int) by omega), if_pos (show (0 : Int) ≤ (i : Int) by omega), laws_eqOp.f, if_true, Option.bind_some, wid (x := (i : Int) + 1) (by omega) (by omega)]
    exact ih (i + 1) (by omega)
theorem eqOpS_same (T : List S109) (hl : T.length ≤ 140737488351232) : Ev (fun k => laws_eqOpS.f k T T) true := by
  simp only [laws_eqOpS.f, if_true]
  exact eqOpS_loop T hl T.length 0 (by omega)
theorem eqCode_same (T : List S109) (o : Int) (hl : T.length ≤ 140737488351232) : Ev (fun k => laws_eqCode.f k T o T o) true := by
  simp only [laws_eqCode.f]
  refine Ev.bind (eqOpS_same T hl) ?_
  simp only [if_true]
  exact Ev.now _
def marksO : Int → Nat → List S109
  | _, 0 => []
  | a, n + 1 => ⟨a, a + 1, a + 1 + 1⟩ :: marksO (a + 1 + 1 + 1) n
theorem marksO_length (a : Int) (n : Nat) : (marksO a n).length = n := by
  induction n generalizing a with
  | zero => rfl
  | succ n ih => simp [marksO, ih]
theorem markO_loop : ∀ (rest done : List S109) (a : Int), done.length + rest.length ≤ 140737488351232 → 0 ≤ a → a + 3 * rest.length ≤ 1407374883512320 →
    Ev (fun k => laws_markOpS.l0 k (done ++ rest) a done.length) (a + 3 * rest.length, done ++ marksO a rest.length) := by
  intro rest
  induction rest with
  | nil =>
    intro done a h h0 h1
    refine up ?_
    simp only [laws_markOpS.l0, List.append_nil, if_neg (show ¬ (done.length : Int) < (done.length : Int) by omega), List.length_nil, marksO]
    exact ⟨0, fun _ _ => by simp⟩
  | cons x rest ih =>
    intro done a h h0 h1
    simp only [List.length_cons] at h h1
    refine up ?_
    have e : ∀ y : S109, ∀ z : S109, (done ++ y :: rest).set ((done.length : Int)).toNat z = done ++ z :: rest := by
      intro y z
      rw [Int.toNat_natCast, List.set_append_right _ _ (Nat.le_refl _)]; simp
    simp only [laws_markOpS.l0, if_pos (show (done.length : Int) < ((done ++ x :: rest).length : Int) by simp; omega), if_pos (show (0 : Int) ≤ (done.length : Int) by omega), e, rdT_mid, Option.bind_some, wid (x := a + 1) (by omega) (by omega), wid (x := a + 1 + 1) (by omega) (by omega), wid (x := a + 1 + 1 + 1) (by omega) (by omega), wid (x := (done.length : Int) + 1) (by omega) (by omega)]
    have := ih (done ++ [⟨a, a + 1, a + 1 + 1⟩]) (a + 1 + 1 + 1) (by simp; omega) (by omega) (by omega)
    simp only [List.length_append, List.length_singleton, List.append_assoc, List.singleton_append, Int.natCast_add, Int.natCast_one] at this
    simp only [List.length_cons, marksO, Int.natCast_add, Int.natCast_one]
    rw [show a + 3 * ((rest.length : Int) + 1) = a + 1 + 1 + 1 + 3 * rest.length by omega]
    exact this
theorem markC_all (T : List S109) (o : Int) (hl : T.length ≤ 140737488351232) : Ev (fun k => laws_markCode.f k T o 1) (1 + 3 * T.length, marksO 1 T.length) := by
  have := markO_loop T [] 1 (by simpa using hl) (by omega) (by omega)
  simp only [laws_markCode.f]
  refine Ev.bind (show Ev (fun k => laws_markOpS.f k T 1) (1 + 3 * T.length, marksO 1 T.length) by simpa [laws_markOpS.f] using this) ?_
  exact Ev.now _
theorem heldO_loop : ∀ (n : Nat) (done : List S109) (a : Int), done.length + n ≤ 140737488351232 → 0 ≤ a → a + 3 * n ≤ 1407374883512320 →
    Ev (fun k => laws_heldOpS.l0 k (done ++ marksO a n) a done.length) (a + 3 * n) := by
  intro n
  induction n with
  | zero =>
    intro done a h h0 h1
    refine up ?_
    simp only [laws_heldOpS.l0, marksO, List.append_nil, if_neg (show ¬ (done.length : Int) < (done.length : Int) by omega)]
    exact ⟨0, fun _ _ => by simp⟩
  | succ n ih =>
    intro done a h h0 h1
    refine up ?_
    simp only [marksO]
    simp only [laws_heldOpS.l0, if_pos (show (done.length : Int) < ((done ++ (⟨a, a + 1, a + 1 + 1⟩ : S109) :: marksO (a + 1 + 1 + 1) n).length : Int) by simp [marksO_length]; omega), if_pos (show (0 : Int) ≤ (done.length : Int) by omega), rdT_mid, if_true, wid (x := a + 1) (by omega) (by omega), wid (x := a + 1 + 1) (by omega) (by omega), wid (x := a + 1 + 1 + 1) (by omega) (by omega), wid (x := (done.length : Int) + 1) (by omega) (by omega)]
    have := ih (done ++ [⟨a, a + 1, a + 1 + 1⟩]) (a + 1 + 1 + 1) (by simp; omega) (by omega) (by omega)
    simp only [List.length_append, List.length_singleton, List.append_assoc, List.singleton_append, Int.natCast_add, Int.natCast_one] at this
    rw [show a + 3 * ((n + 1 : Nat) : Int) = a + 1 + 1 + 1 + 3 * n by omega]
    exact this
theorem heldC_all (n : Nat) (o : Int) (hl : n ≤ 140737488351232) : Ev (fun k => laws_heldCode.f k (marksO 1 n) o 1) (1 + 3 * n) := by
  have := heldO_loop n [] 1 (by simpa using hl) (by omega) (by omega)
  simp only [laws_heldCode.f]
  refine Ev.bind (show Ev (fun k => laws_heldOpS.f k (marksO 1 n) 1) (1 + 3 * n) by simpa [laws_heldOpS.f] using this) ?_
  rw [if_neg_ev (show ¬ (1 + 3 * (n : Int)) < 0 by omega)]
  exact Ev.now _
theorem eqIntS_loop (l : List Int) (hl : l.length ≤ 140737488351232) : ∀ (d : Nat) (i : Int), 0 ≤ i → i + d = l.length → Ev (fun k => laws_eqIntS.l0 k l l i) true := by
  intro d
  induction d with
  | zero =>
    intro i h0 h
    refine up ?_
    simp only [laws_eqIntS.l0, if_neg (show ¬ i < (l.length : Int) by omega)]
    exact Ev.now _
  | succ d ih =>
    intro i h0 h
    refine up ?_
    simp only [laws_eqIntS.l0, if_pos (show i < (l.length : Int) by omega), if_pos h0, if_true, wid (x := i + 1) (by omega) (by omega)]
    exact ih (i + 1) (by omega) (by omega)
theorem eqIntS_same (l : List Int) (hl : l.length ≤ 140737488351232) : Ev (fun k => laws_eqIntS.f k l l) true := by
  simp only [laws_eqIntS.f, if_true]
  exact eqIntS_loop l hl l.length 0 (by omega) (by omega)
def marks : Int → Nat → List Int
  | _, 0 => []
  | a, n + 1 => a :: marks (a + 1) n
theorem mark_loop : ∀ (rest done : List Int) (a : Int), done.length + rest.length ≤ 140737488351232 → 0 ≤ a → a ≤ 140737488351232 →
    Ev (fun k => laws_markIntS.l0 k (done ++ rest) (a + done.length) done.length) (a + done.length + rest.length, done ++ marks (a + done.length) rest.length) := by
  intro rest
  induction rest with
  | nil =>
    intro done a h h0 h1
    refine up ?_
    simp only [laws_markIntS.l0, List.append_nil, if_neg (show ¬ (done.length : Int) < (done.length : Int) by omega), List.length_nil, marks]
    exact ⟨0, fun _ _ => by simp⟩
  | cons x rest ih =>
    intro done a h h0 h1
    simp only [List.length_cons] at h
    refine up ?_
    have e : (done ++ x :: rest).set ((done.length : Int)).toNat (a + done.length) = (done ++ [a + done.length]) ++ rest := by
      rw [Int.toNat_natCast, List.set_append_right _ _ (Nat.le_refl _)]; simp
    simp only [laws_markIntS.l0, if_pos (show (done.length : Int) < ((done ++ x :: rest).length : Int) by simp; omega), if_pos (show (0 : Int) ≤ (done.length : Int) by omega), e, wid (x := a + done.length + 1) (by omega) (by omega), wid (x := (done.length : Int) + 1) (by omega) (by omega)]
    have := ih (done ++ [a + done.length]) a (by simp; omega) h0 h1
    simp only [List.length_append, List.length_singleton, List.append_assoc, List.singleton_append, Int.natCast_add, Int.natCast_one] at this
    simp only [List.append_assoc, List.singleton_append, List.length_cons, marks, Int.natCast_add, Int.natCast_one]
    rw [show a + (done.length : Int) + ((rest.length : Int) + 1) = a + ((done.length : Int) + 1) + rest.length by omega, show a + (done.length : Int) + 1 = a + ((done.length : Int) + 1) by omega]
    exact this
theorem toIntS_loop (l : List Int) (hl : l.length ≤ 17592186044416) : ∀ (d : Nat) (i : Nat) (acc : List Int), i + d = l.length → acc.length = l.length → (∀ j, j < i → acc[j]? = l[j]?) → Ev (fun k => laws_toIntS.l0 k l acc i) l := by
  intro d
  induction d with
  | zero =>
    intro i acc h ha hj
    refine up ?_
    simp only [laws_toIntS.l0, if_neg (show ¬ (i : Int) < (l.length : Int) by omega)]
    have : acc = l := List.ext_getElem? fun j => by
      rcases Nat.lt_or_ge j i with h1 | h1
      · exact hj j h1
      · rw [List.getElem?_eq_none (by omega), List.getElem?_eq_none (by omega)]
    rw [this]
    exact Ev.now _
  | succ d ih =>
    intro i acc h ha hj
    refine up ?_
    simp only [laws_toIntS.l0, if_pos (show (i : Int) < (l.length : Int) by omega), if_pos (show (0 : Int) ≤ (i : Int) by omega), if_pos (show (i : Int) < (acc.length : Int) by omega), wid (x := (i : Int) + 1) (by omega) (by omega), Int.toNat_natCast]
    refine ih (i + 1) _ (by omega) (by simp [ha]) fun j hj2 => ?_
    by_cases e : j = i
    · subst e
      rw [List.getElem?_set_self (by omega)]
      unfold rd
      rw [Int.toNat_natCast, List.getD_eq_getElem?_getD, List.getElem?_eq_getElem (show j < l.length by omega)]; rfl
    · rw [List.getElem?_set_ne (by omega)]
      exact hj j (by omega)
theorem toIntS_val (l : List Int) (hl : l.length ≤ 17592186044416) : Ev (fun k => laws_toIntS.f k l) l := by
  simp only [laws_toIntS.f, if_pos (show (0 : Int) ≤ (l.length : Int) by omega), Int.toNat_natCast, if_pos (show l.length ≤ 35184372088832 by omega)]
  exact toIntS_loop l hl l.length 0 _ (by omega) (by simp) (fun j hj => by omega)
/-! Plans: copied, compared, marked. -/
theorem rdS_get {T : List S133} {i : Nat} (h : i < T.length) : rd_T133 T (i : Int) = T[i] := by
  unfold rd_T133
  rw [Int.toNat_natCast, List.getD_eq_getElem?_getD, List.getElem?_eq_getElem h]; rfl
theorem rdS_mid (a b : List S133) (x : S133) : rd_T133 (a ++ x :: b) (a.length : Int) = x := by
  rw [rdS_get (by simp)]; simp
theorem eqStepS_loop (T : List S133) (hl : T.length ≤ 140737488351232) : ∀ (d i : Nat), i + d = T.length → Ev (fun k => laws_eqStepS.l0 k T T i) true := by
  intro d
  induction d with
  | zero =>
    intro i h
    refine up ?_
    simp only [laws_eqStepS.l0, if_neg (show ¬ (i : Int) < (T.length : Int) by omega)]
    exact Ev.now _
  | succ d ih =>
    intro i h
    refine up ?_
    simp only [laws_eqStepS.l0, if_pos (show (i : Int) < (T.length : Int) by omega), if_pos (show (0 : Int) ≤ (i : Int) by omega), laws_eqStep.f, if_true, Option.bind_some, wid (x := (i : Int) + 1) (by omega) (by omega)]
    exact ih (i + 1) (by omega)
theorem eqStepS_same (T : List S133) (hl : T.length ≤ 140737488351232) : Ev (fun k => laws_eqStepS.f k T T) true := by
  simp only [laws_eqStepS.f, if_true]
  exact eqStepS_loop T hl T.length 0 (by omega)
def marksT : Int → Nat → List S133
  | _, 0 => []
  | a, n + 1 => ⟨a, a + 1⟩ :: marksT (a + 2) n
theorem markT_loop : ∀ (rest done : List S133) (a : Int), done.length + rest.length ≤ 140737488351232 → 0 ≤ a → a + 2 * rest.length ≤ 1407374883512320 →
    Ev (fun k => laws_markStepS.l0 k (done ++ rest) a done.length) (a + 2 * rest.length, done ++ marksT a rest.length) := by
  intro rest
  induction rest with
  | nil =>
    intro done a h h0 h1
    refine up ?_
    simp only [laws_markStepS.l0, List.append_nil, if_neg (show ¬ (done.length : Int) < (done.length : Int) by omega), List.length_nil, marksT]
    exact ⟨0, fun _ _ => by simp⟩
  | cons x rest ih =>
    intro done a h h0 h1
    simp only [List.length_cons] at h h1
    refine up ?_
    have e : ∀ y : S133, ∀ z : S133, (done ++ y :: rest).set ((done.length : Int)).toNat z = done ++ z :: rest := by
      intro y z
      rw [Int.toNat_natCast, List.set_append_right _ _ (Nat.le_refl _)]; simp
    simp only [laws_markStepS.l0, if_pos (show (done.length : Int) < ((done ++ x :: rest).length : Int) by simp; omega), if_pos (show (0 : Int) ≤ (done.length : Int) by omega), e, rdS_mid, Option.bind_some, wid (x := a + 1) (by omega) (by omega), wid (x := a + 1 + 1) (by omega) (by omega), wid (x := (done.length : Int) + 1) (by omega) (by omega)]
    have := ih (done ++ [⟨a, a + 1⟩]) (a + 2) (by simp; omega) (by omega) (by omega)
    simp only [List.length_append, List.length_singleton, List.append_assoc, List.singleton_append, Int.natCast_add, Int.natCast_one] at this
    simp only [List.length_cons, marksT, Int.natCast_add, Int.natCast_one]
    rw [show a + 2 * ((rest.length : Int) + 1) = a + 2 + 2 * rest.length by omega, show a + 1 + 1 = a + 2 by omega]
    exact this
theorem markT_from (T : List S133) (hl : T.length ≤ 140737488351232) : Ev (fun k => laws_markStepS.f k T 1) (1 + 2 * T.length, marksT 1 T.length) := by
  have := markT_loop T [] 1 (by simpa using hl) (by omega) (by omega)
  simpa [laws_markStepS.f] using this
theorem mark_from (l : List Int) (a : Int) (h0 : 0 ≤ a) (h1 : a ≤ 140737488351232) (hl : l.length ≤ 140737488351232) : Ev (fun k => laws_markIntS.f k l a) (a + l.length, marks a l.length) := by
  have := mark_loop l [] a (by simpa using hl) h0 h1
  simpa [laws_markIntS.f] using this
theorem eqPlan_same (i : Int) (T : List S133) (l : List Int) (hT : T.length ≤ 1048576) (hl : l.length ≤ 1048576) : Ev (fun k => laws_eqPlan.f k i T l i T l) true := by
  simp only [laws_eqPlan.f, if_true]
  refine Ev.bind (eqStepS_same T (by omega)) ?_
  simp only [if_true]
  refine Ev.bind (eqIntS_same l (by omega)) ?_
  simp only [if_true]
  exact Ev.now _
theorem markPlan_all (i : Int) (T : List S133) (l : List Int) (hT : T.length ≤ 1048576) (hl : l.length ≤ 1048576) : Ev (fun k => laws_markPlan.f k i T l 1) (1 + 2 * (T.length : Int) + l.length, marksT 1 T.length, marks (1 + 2 * (T.length : Int)) l.length) := by
  simp only [laws_markPlan.f]
  refine Ev.bind (markT_from T (by omega)) ?_
  refine Ev.bind (mark_from l (1 + 2 * (T.length : Int)) (by omega) (by omega) (by omega)) ?_
  exact Ev.now _
def toS (x : S170) : S133 := ⟨x.f0, x.f1⟩
theorem toStep_loop (l : List S170) (hl : l.length ≤ 1048576) : ∀ (d i : Nat), i + d = l.length → Ev (fun k => laws_toStepS.l0 k l ((l.take i).map toS ++ List.replicate d z133) i) (l.map toS) := by
  intro d
  induction d with
  | zero =>
    intro i h
    refine up ?_
    simp only [laws_toStepS.l0, if_neg (show ¬ (i : Int) < (l.length : Int) by omega)]
    rw [show i = l.length by omega, List.take_length, List.replicate_zero, List.append_nil]
    exact Ev.now _
  | succ d ih =>
    intro i h
    have hi : i < l.length := by omega
    have hlen : ((l.take i).map toS ++ List.replicate (d + 1) z133).length = l.length := by simp; omega
    have hrd : rd_T170 l (i : Int) = l[i] := by
      unfold rd_T170
      rw [Int.toNat_natCast, List.getD_eq_getElem?_getD, List.getElem?_eq_getElem hi]; rfl
    refine up ?_
    simp only [laws_toStepS.l0, hlen, if_pos (show (i : Int) < (l.length : Int) by omega), if_pos (show (0 : Int) ≤ (i : Int) by omega), hrd, laws_toStep.f, Option.bind_some, wid (x := (i : Int) + 1) (by omega) (by omega)]
    have := ih (i + 1) (by omega)
    rw [List.take_succ_eq_append_getElem hi, List.map_append, List.map_singleton, List.append_assoc, List.singleton_append] at this
    have e : ((l.take i).map toS ++ List.replicate (d + 1) z133).set ((i : Int)).toNat (⟨l[i].f0, l[i].f1⟩ : S133) = (l.take i).map toS ++ toS l[i] :: List.replicate d z133 := by
      have hti : ((l.take i).map toS).length = i := by rw [List.length_map, List.length_take]; omega
      rw [Int.toNat_natCast, List.set_append_right _ _ (by omega), hti, Nat.sub_self, List.replicate_succ]
      rfl
    rw [e]
    exact this
theorem toPlan_val (i : Int) (l : List S170) (o : List Int) (hl : l.length ≤ 1048576) (ho : o.length ≤ 1048576) : Ev (fun k => laws_toPlan.f k i l o) (i, l.map toS, o) := by
  simp only [laws_toPlan.f]
  refine Ev.bind (show Ev (fun k => laws_toStepS.f k l) (l.map toS) from ?_) ?_
  · simp only [laws_toStepS.f, if_pos (show (0 : Int) ≤ (l.length : Int) by omega), Int.toNat_natCast, if_pos (show l.length ≤ 17592186044416 by omega)]
    have := toStep_loop l hl l.length 0 (by omega)
    rw [List.take_zero, List.map_nil, List.nil_append] at this
    exact this
  · exact Ev.bind (toIntS_val o (by omega)) (Ev.now _)
/-- What CodeOfPlan answers. -/
def ifV (ops : List S109) (out : Int) : List S109 × Int × Bool := if codeB ops out = true then (ops, out, true) else ([], 0, false)
def cpV (inp : Int) (steps : List S133) (outs : List Int) : List S109 × Int × Bool := if planB inp steps outs = true ∧ inp = 1 ∧ outs.length = 1 then ifV (cpOps steps) (rd outs 0) else ([], 0, false)
theorem poIf_val (ops : List S109) (out : Int) : Ev (fun q => spec_poIf.f q ops out) (ifV ops out) := by
  simp only [spec_poIf.f]
  refine Ev.bind (specGood ops out) ?_
  unfold ifV
  cases codeB ops out with
  | true => simp only [if_true]; exact Ev.now _
  | false => simp only [Bool.false_eq_true, if_false]; exact Ev.now _
theorem told_val (ops : List S109) (out : Int) : Ev (fun q => impl_toldCode.f q ops out) (ifV ops out) := by
  simp only [impl_toldCode.f]
  refine Ev.bind (implCode ops out) ?_
  unfold ifV
  cases codeB ops out with
  | true => simp only [if_true]; exact Ev.now _
  | false => simp only [Bool.false_eq_true, if_false]; exact Ev.now _
theorem ifV_len (ops : List S109) (out : Int) : (ifV ops out).1.length ≤ ops.length := by
  unfold ifV
  split
  · exact Nat.le_refl _
  · exact Nat.zero_le _
theorem cp_loop (steps : List S133) (o : Int) (hl : steps.length ≤ 1048576) : ∀ (d j : Nat), j + d = steps.length → Ev (fun q => spec_CodeOfPlan.l0 q steps (steps.length : Int) j (cpOps (steps.take j)) o) (ifV (cpOps steps) o) := by
  intro d
  induction d with
  | zero =>
    intro j h
    refine up ?_
    simp only [spec_CodeOfPlan.l0, if_neg (show ¬ (j : Int) < (steps.length : Int) by omega)]
    rw [List.take_of_length_le (by omega)]
    exact Ev.bind (poIf_val _ _) (Ev.now _)
  | succ d ih =>
    intro j h
    have hj : j < steps.length := by omega
    refine up ?_
    have hc : (cpOps (steps.take j)).length < 5864062014805 := by unfold cpOps; rw [List.length_map, List.length_take]; omega
    simp only [spec_CodeOfPlan.l0, if_pos (show (j : Int) < (steps.length : Int) by omega), if_pos (show (0 : Int) ≤ (j : Int) by omega), if_pos hc, rdPlan_at hj, wid (x := (j : Int) + 1) (by omega) (by omega)]
    have := ih (j + 1) (by omega)
    have e : cpOps (steps.take (j + 1)) = cpOps (steps.take j) ++ [⟨3, (steps[j]).f0, (steps[j]).f1⟩] := by
      unfold cpOps
      rw [List.take_succ_eq_append_getElem hj, List.map_append]; rfl
    rw [e] at this
    exact this
theorem cp_spec (inp : Int) (steps : List S133) (outs : List Int) (hl : steps.length ≤ 1048576) : Ev (fun q => spec_CodeOfPlan.f q inp steps outs) (cpV inp steps outs) := by
  simp only [spec_CodeOfPlan.f]
  refine Ev.bind (specPlan inp steps outs) ?_
  have hno : cpV inp steps outs = ([], 0, false) → Ev (fun q => spec_CodeOfPlan.j0 q true inp steps outs) (cpV inp steps outs) := fun h => by
    rw [h]
    refine up ?_
    simp only [spec_CodeOfPlan.j0, if_true]
    exact Ev.now _
  by_cases hp : planB inp steps outs = true
  · simp only [hp, if_true]
    by_cases h1 : inp = 1
    · simp only [if_pos h1]
      by_cases h2 : outs.length = 1
      · have e : ((outs.length : Int) != 1) = false := by rw [h2]; rfl
        rw [e]
        refine up ?_
        simp only [spec_CodeOfPlan.j0, Bool.false_eq_true, if_false, if_pos (show 0 < (outs.length : Int) by omega)]
        unfold cpV
        rw [if_pos ⟨hp, h1, h2⟩]
        have := cp_loop steps (rd outs 0) hl steps.length 0 (by omega)
        exact this
      · have e : ((outs.length : Int) != 1) = true := by
          rw [bne_iff_ne]; omega
        rw [e]
        exact hno (by unfold cpV; rw [if_neg (fun h => h2 h.2.2)])
    · simp only [if_neg h1]
      exact hno (by unfold cpV; rw [if_neg (fun h => h1 h.2.1)])
  · simp only [hp, if_false]
    exact hno (by unfold cpV; rw [if_neg (fun h => hp h.1)])
theorem cp_impl (inp : Int) (steps : List S133) (outs : List Int) : Ev (fun q => impl_CodeOfPlan.f q inp steps outs) (cpV inp steps outs) := by
  simp only [impl_CodeOfPlan.f, implPlan, Option.bind_some]
  unfold cpV
  by_cases h : planB inp steps outs = true ∧ inp = 1 ∧ outs.length = 1
  · simp only [if_pos h]
    exact told_val _ _
  · simp only [if_neg h]
    exact Ev.now _
theorem cpV_len (inp : Int) (steps : List S133) (outs : List Int) : (cpV inp steps outs).1.length ≤ steps.length := by
  unfold cpV
  split
  · have := ifV_len (cpOps steps) (rd outs 0)
    unfold cpOps at this ⊢
    rw [List.length_map] at this
    exact this
  · exact Nat.zero_le _
theorem main : laws_FnExactCodeOfPlan.Pure := by
  intro i l o _ hm _ _ hm2 _ _
  simp only [maxLen] at hm hm2
  by_cases hbig : l.length > 1048576
  · refine ⟨0, ?_⟩
    simp only [laws_FnExactCodeOfPlan.f, laws_szPlan.f, laws_szStepS.f]
    rw [wid (x := 1048576 - (l.length : Int)) (by omega) (by omega)]
    simp only [if_pos (show (1048576 : Int) - (l.length : Int) < 0 by omega), Option.bind_some, if_pos (show (-1 : Int) < 0 by decide)]
  by_cases hbig2 : l.length + o.length > 1048576
  · refine ⟨0, ?_⟩
    simp only [laws_FnExactCodeOfPlan.f, laws_szPlan.f, laws_szStepS.f, laws_szIntS.f]
    rw [wid (x := 1048576 - (l.length : Int)) (by omega) (by omega)]
    simp only [if_neg (show ¬ (1048576 : Int) - (l.length : Int) < 0 by omega), Option.bind_some]
    rw [wid (x := 1048576 - (l.length : Int) - (o.length : Int)) (by omega) (by omega)]
    simp only [if_pos (show (1048576 : Int) - (l.length : Int) - (o.length : Int) < 0 by omega), Option.bind_some, if_pos (show (-1 : Int) < 0 by decide)]
  have hs := cp_spec i (l.map toS) o (by rw [List.length_map]; omega)
  have hi := cp_impl i (l.map toS) o
  have hlen := cpV_len i (l.map toS) o
  rw [List.length_map] at hlen
  generalize cpV i (l.map toS) o = V at hs hi hlen
  obtain ⟨r, q, b⟩ := V
  dsimp only at hlen
  refine Ev.rounds ?_
  have hsz : laws_szPlan.f i l o 1048576 = some (1048576 - (l.length : Int) - (o.length : Int)) := by
    simp only [laws_szPlan.f, laws_szStepS.f, laws_szIntS.f]
    rw [wid (x := 1048576 - (l.length : Int)) (by omega) (by omega)]
    simp only [if_neg (show ¬ (1048576 : Int) - (l.length : Int) < 0 by omega), Option.bind_some]
    rw [wid (x := 1048576 - (l.length : Int) - (o.length : Int)) (by omega) (by omega)]
    simp only [if_neg (show ¬ (1048576 : Int) - (l.length : Int) - (o.length : Int) < 0 by omega), Option.bind_some]
  simp only [laws_FnExactCodeOfPlan.f, hsz, Option.bind_some, if_neg (show ¬ (1048576 : Int) - (l.length : Int) - (o.length : Int) < 0 by omega)]
  have ht := toPlan_val i l o (by omega) (by omega)
  have hlm : (l.map toS).length ≤ 1048576 := by rw [List.length_map]; omega
  have hom : o.length ≤ 1048576 := by omega
  refine Ev.bind ht ?_
  refine Ev.bind hs ?_
  refine Ev.bind ht ?_
  refine Ev.bind hi ?_
  refine Ev.bind (eqCode_same r q (by omega)) ?_
  simp only [if_true]
  refine up ?_
  simp only [laws_FnExactCodeOfPlan.j0, bne_self_eq_false, Bool.false_eq_true, if_false]
  refine Ev.bind ht ?_
  refine Ev.bind (eqPlan_same i _ o hlm hom) ?_
  simp only [if_true]
  refine Ev.bind (markPlan_all i _ o hlm hom) ?_
  simp only [if_neg (show ¬ (1 + 2 * ((l.map toS).length : Int) + (o.length : Int)) < 0 by omega)]
  refine Ev.bind (eqCode_same r q (by omega)) ?_
  simp only [if_true]
  refine up ?_
  simp only [laws_FnExactCodeOfPlan.j1, bne_self_eq_false, Bool.false_eq_true, if_false]
  refine Ev.bind (markC_all r q (by omega)) ?_
  refine Ev.bind (heldC_all r.length q (by omega)) ?_
  simp only [if_neg (show ¬ (1 + 3 * (r.length : Int)) < 0 by omega), if_true]
  refine Ev.bind ht ?_
  refine Ev.bind hi ?_
  refine Ev.bind (eqCode_same r q (by omega)) ?_
  simp only [if_true]
  refine up ?_
  simp only [laws_FnExactCodeOfPlan.j2, bne_self_eq_false, Bool.false_eq_true, if_false]
  refine Ev.bind (heldC_all r.length q (by omega)) ?_
  simp only [if_neg (show ¬ (1 + 3 * (r.length : Int)) < 0 by omega), if_true]
  exact Ev.now _
end Go.Proofs.Ytlmoemahamneoaa.PureFnExactCodeOfPlanL
namespace Go.Proofs.Ytlmoemahamneoaa.Pure
open Go.Proofs.Ytlmoemahamneoaa.PFnExactCodeOfPlan
theorem FnExactCodeOfPlan : laws_FnExactCodeOfPlan.Pure := PureFnExactCodeOfPlanL.main
end Go.Proofs.Ytlmoemahamneoaa.Pure
