/- The program's ShortestSubtraction returns what the reference's returns: the statement FnExactShortestSubtraction holds for all numbers. -/
import Derived.Test.YtldbcglgfabopaaPFnExactShortestSubtractionx1
import Derived.Test.YtldbcglgfabopaaPFnExactShortestSubtractionx2
import Derived.Test.YtldbcglgfabopaaPFnExactShortestSubtractionx3
set_option linter.unusedVariables false
set_option linter.unusedSimpArgs false
namespace Go.Proofs.Ytldbcglgfabopaa.PureFnExactShortestSubtractionL
open Go.RowKit Go.Proofs.Ytldbcglgfabopaa.PFnExactShortestSubtraction Go.Proofs.YtldbcglgfabopaaW.PrintWords Go.Proofs.YtldbcglgfabopaaW.PrintLast Go.Proofs.YtldbcglgfabopaaW.PrintMore
theorem up {α : Type} {g : Nat → Option α} {r : α} (h : Ev (fun k => g (k + 1)) r) : Ev g r := by
  obtain ⟨K, h⟩ := h
  refine ⟨K + 1, fun k hk => ?_⟩
  obtain ⟨m, rfl⟩ : ∃ m, k = m + 1 := ⟨k - 1, by omega⟩
  exact h m (by omega)
theorem wid {x : Int} (h0 : -9223372036854775808 ≤ x) (h1 : x ≤ 9223372036854775807) : wrap64 x = x := by unfold wrap64; omega
theorem ite_yes {α : Type} {c : Prop} [Decidable c] {a b : α} (h : c) : (if c then a else b) = a := if_pos h
theorem ite_no {α : Type} {c : Prop} [Decidable c] {a b : α} (h : ¬ c) : (if c then a else b) = b := if_neg h
theorem evsome {α β : Type} {x : Option α} {a : α} {f : Nat → α → Option β} {r : β} (hx : x = some a) (h : Ev (fun k => f k a) r) : Ev (fun k => x.bind (f k)) r := by subst hx; exact h
theorem if_pos_ev {α : Type} {c : Prop} [Decidable c] {f g : Nat → Option α} (h : c) : (fun k => if c then f k else g k) = f := funext fun k => if_pos h
theorem if_neg_ev {α : Type} {c : Prop} [Decidable c] {f g : Nat → Option α} (h : ¬ c) : (fun k => if c then f k else g k) = g := funext fun k => if_neg h
theorem l1In_val (x a b : Int) : spec_l1In.f x a b = some (decide (a ≤ x) && decide (x ≤ b)) := by
  unfold spec_l1In.f
  by_cases h : a ≤ x
  · rw [if_pos h]; simp [h]
  · rw [if_neg h]; simp [h]
def hasB (l : List Int) (x : Int) : Bool := l.contains x
theorem rd_at {l : List Int} {i : Nat} (h : i < l.length) : rd l (i : Int) = l[i] := by
  unfold rd
  rw [Int.toNat_natCast, List.getD_eq_getElem?_getD, List.getElem?_eq_getElem h]; rfl
theorem hasB_drop {l : List Int} {i : Nat} (h : i < l.length) (x : Int) : hasB (l.drop i) x = (decide (l[i] = x) || hasB (l.drop (i + 1)) x) := by
  rw [List.drop_eq_getElem_cons h]
  unfold hasB
  rw [List.contains_cons]
  congr 1
  by_cases e : l[i] = x
  · simp [e]
  · simp [e, Ne.symm e]
theorem hasB_end (l : List Int) (x : Int) : hasB (l.drop l.length) x = false := by rw [List.drop_length]; rfl
theorem l1Has_loop (x : Int) (l : List Int) (hl : l.length ≤ 17592186044416) : ∀ (d i : Nat), i + d = l.length → Ev (fun k => spec_l1Has.l0 k x l (l.length : Int) i) (hasB (l.drop i) x) := by
  intro d
  induction d with
  | zero =>
    intro i h
    refine up ?_
    simp only [spec_l1Has.l0, if_neg (show ¬ (i : Int) < (l.length : Int) by omega)]
    rw [show i = l.length by omega, hasB_end]
    exact Ev.now _
  | succ d ih =>
    intro i h
    have hi : i < l.length := by omega
    refine up ?_
    simp only [spec_l1Has.l0, if_pos (show (i : Int) < (l.length : Int) by omega), if_pos (show (0 : Int) ≤ (i : Int) by omega), rd_at hi, wid (x := (i : Int) + 1) (by omega) (by omega)]
    rw [hasB_drop hi]
    by_cases e : l[i] = x
    · simp only [e, if_true, decide_true, Bool.true_or]; exact Ev.now _
    · simp only [e, if_false, decide_false, Bool.false_or]; exact ih (i + 1) (by omega)
theorem l1Has_val (x : Int) (l : List Int) (hl : l.length ≤ 17592186044416) : Ev (fun k => spec_l1Has.f k l x) (hasB l x) := l1Has_loop x l hl l.length 0 (by omega)
theorem eqIntS_loop (l : List Int) (hl : l.length ≤ 140737488351232) : ∀ (d : Nat) (i : Int), 0 ≤ i → i + d = l.length → Ev (fun k => laws_eqIntS.l0 k l l i) true := by
  intro d
  induction d with
  | zero =>
    intro i h0 h
    refine up ?_
    simp only [laws_eqIntS.l0, if_neg (show ¬ i < (l.length : Int) by omega)]
    exact Ev.now _
  | succ d ih =>
    intro i h0 h
    refine up ?_
    simp only [laws_eqIntS.l0, if_pos (show i < (l.length : Int) by omega), if_pos h0, if_true, wid (x := i + 1) (by omega) (by omega)]
    exact ih (i + 1) (by omega) (by omega)
theorem eqIntS_same (l : List Int) (hl : l.length ≤ 140737488351232) : Ev (fun k => laws_eqIntS.f k l l) true := by
  simp only [laws_eqIntS.f, if_true]
  exact eqIntS_loop l hl l.length 0 (by omega) (by omega)
def marks : Int → Nat → List Int
  | _, 0 => []
  | a, n + 1 => a :: marks (a + 1) n
theorem mark_loop : ∀ (rest done : List Int) (a : Int), done.length + rest.length ≤ 140737488351232 → 0 ≤ a → a ≤ 140737488351232 →
    Ev (fun k => laws_markIntS.l0 k (done ++ rest) (a + done.length) done.length) (a + done.length + rest.length, done ++ marks (a + done.length) rest.length) := by
  intro rest
  induction rest with
  | nil =>
    intro done a h h0 h1
    refine up ?_
    simp only [laws_markIntS.l0, List.append_nil, if_neg (show ¬ (done.length : Int) < (done.length : Int) by omega), List.length_nil, marks]
    exact ⟨0, fun _ _ => by simp⟩
  | cons x rest ih =>
    intro done a h h0 h1
    simp only [List.length_cons] at h
    refine up ?_
    have e : (done ++ x :: rest).set ((done.length : Int)).toNat (a + done.length) = (done ++ [a + done.length]) ++ rest := by
      rw [Int.toNat_natCast, List.set_append_right _ _ (Nat.le_refl _)]; simp
    simp only [laws_markIntS.l0, if_pos (show (done.length : Int) < ((done ++ x :: rest).length : Int) by simp; omega), if_pos (show (0 : Int) ≤ (done.length : Int) by omega), e, wid (x := a + done.length + 1) (by omega) (by omega), wid (x := (done.length : Int) + 1) (by omega) (by omega)]
    have := ih (done ++ [a + done.length]) a (by simp; omega) h0 h1
    simp only [List.length_append, List.length_singleton, List.append_assoc, List.singleton_append, Int.natCast_add, Int.natCast_one] at this
    simp only [List.append_assoc, List.singleton_append, List.length_cons, marks, Int.natCast_add, Int.natCast_one]
    rw [show a + (done.length : Int) + ((rest.length : Int) + 1) = a + ((done.length : Int) + 1) + rest.length by omega, show a + (done.length : Int) + 1 = a + ((done.length : Int) + 1) by omega]
    exact this
theorem mark_all (l : List Int) (hl : l.length ≤ 140737488351232) : Ev (fun k => laws_markIntS.f k l 1) (1 + l.length, marks 1 l.length) := by
  have := mark_loop l [] 1 (by simpa using hl) (by omega) (by omega)
  simpa [laws_markIntS.f] using this
theorem marks_length (a : Int) (n : Nat) : (marks a n).length = n := by
  induction n generalizing a with
  | zero => rfl
  | succ n ih => simp [marks, ih]
theorem held_loop : ∀ (n : Nat) (done : List Int) (a : Int), done.length + n ≤ 140737488351232 → 0 ≤ a → a ≤ 140737488351232 →
    Ev (fun k => laws_heldIntS.l0 k (done ++ marks (a + done.length) n) (a + done.length) done.length) (a + done.length + n) := by
  intro n
  induction n with
  | zero =>
    intro done a h h0 h1
    refine up ?_
    simp only [laws_heldIntS.l0, marks, List.append_nil, if_neg (show ¬ (done.length : Int) < (done.length : Int) by omega)]
    exact ⟨0, fun _ _ => by simp⟩
  | succ n ih =>
    intro done a h h0 h1
    refine up ?_
    have e : rd (done ++ marks (a + done.length) (n + 1)) (done.length : Int) = a + done.length := by
      unfold rd; rw [Int.toNat_natCast]; simp [marks]
    simp only [laws_heldIntS.l0, if_pos (show (done.length : Int) < ((done ++ marks (a + done.length) (n + 1)).length : Int) by simp [marks_length]; omega), if_pos (show (0 : Int) ≤ (done.length : Int) by omega), e, if_true, wid (x := a + done.length + 1) (by omega) (by omega), wid (x := (done.length : Int) + 1) (by omega) (by omega)]
    have := ih (done ++ [a + done.length]) a (by simp; omega) h0 h1
    simp only [List.length_append, List.length_singleton, List.append_assoc, List.singleton_append, Int.natCast_add, Int.natCast_one] at this
    simp only [marks, Int.natCast_add, Int.natCast_one]
    rw [show a + (done.length : Int) + ((n : Int) + 1) = a + ((done.length : Int) + 1) + n by omega, show a + (done.length : Int) + 1 = a + ((done.length : Int) + 1) by omega]
    exact this
theorem held_all (n : Nat) (hl : n ≤ 140737488351232) : Ev (fun k => laws_heldIntS.f k (marks 1 n) 1) (1 + n) := by
  have := held_loop n [] 1 (by simpa using hl) (by omega) (by omega)
  simpa [laws_heldIntS.f] using this
def ssR2 (nn : List Int) (x : Int) : Bool := !(nn.contains x) && (nn.contains (x - ssLast nn) || nn.contains (ssLast nn - x))
def ssR3 (nn : List Int) (x : Int) : Bool := !(nn.contains x) && (nn.contains (x - ssLast nn) || nn.contains (ssLast nn - x) || nn.contains (x + ssLast nn))
def ssChk (nn : List Int) : Bool := nn.all fun a => !(decide (1 ≤ a - ssLast nn) && decide (a - ssLast nn ≤ 64)) || nn.contains (a - ssLast nn) || nn.contains (a - ssLast nn - ssLast nn) || nn.contains (ssLast nn - (a - ssLast nn))
/-- Of all lists that begin so, none is gone on by the third rule alone. -/
def ssEnum : Nat → List Int → Bool
  | 0, nn => ssChk nn
  | k + 1, nn => ssChk nn && (ssNexts (ssLast nn) nn).all fun x => !(decide (1 ≤ x) && decide (x ≤ 64) && !(nn.contains x)) || ssEnum k (nn ++ [x])
theorem enum_one : ∀ l, l < 6 → ssEnum l [1] = true := by decide +kernel
theorem enum_chk {k : Nat} {nn : List Int} (h : ssEnum k nn = true) : ssChk nn = true := by
  cases k with
  | zero => exact h
  | succ k => rw [ssEnum, Bool.and_eq_true] at h; exact h.1
theorem enum_R {k : Nat} {nn : List Int} {x : Int} (h : ssEnum k nn = true) (h1 : 1 ≤ x) (h2 : x ≤ 64) : ssR3 nn x = ssR2 nn x := by
  have h := enum_chk h
  unfold ssR3 ssR2
  cases h3 : nn.contains (x + ssLast nn) with
  | false => rw [Bool.or_false]
  | true =>
    unfold ssChk at h
    have h := List.all_eq_true.1 h _ (List.contains_iff_mem.1 h3)
    rw [show x + ssLast nn - ssLast nn = x by omega, decide_eq_true h1, decide_eq_true h2] at h
    cases ha : nn.contains x <;> cases hb : nn.contains (x - ssLast nn) <;> cases hc : nn.contains (ssLast nn - x) <;> simp_all
theorem mem_nexts (last : Int) (nn : List Int) (x : Int) : x ∈ ssNexts last nn ↔ (nn.contains (x - last) || nn.contains (last - x)) = true := by
  unfold ssNexts
  rw [Bool.or_eq_true, List.contains_iff_mem, List.contains_iff_mem, List.mem_flatMap]
  constructor
  · rintro ⟨a, ha, hx⟩
    simp only [List.mem_cons, List.not_mem_nil, or_false] at hx
    rcases hx with rfl | rfl
    · left; rw [show last + a - last = a by omega]; exact ha
    · right; rw [show last - (last - a) = a by omega]; exact ha
  · rintro (h | h)
    · exact ⟨_, h, by simp; omega⟩
    · exact ⟨_, h, by simp; omega⟩
theorem R2_iff (nn : List Int) (x : Int) : ssR2 nn x = true ↔ nn.contains x = false ∧ x ∈ ssNexts (ssLast nn) nn := by
  unfold ssR2
  rw [Bool.and_eq_true, mem_nexts, Bool.not_eq_true']
theorem enum_next {k : Nat} {nn : List Int} {x : Int} (h : ssEnum (k + 1) nn = true) (h1 : 1 ≤ x) (h2 : x ≤ 64) (hR : ssR2 nn x = true) : ssEnum k (nn ++ [x]) = true := by
  rw [ssEnum, Bool.and_eq_true] at h
  obtain ⟨hc, hm⟩ := (R2_iff nn x).1 hR
  have := List.all_eq_true.1 h.2 x hm
  rw [decide_eq_true h1, decide_eq_true h2, hc] at this
  simpa using this
def rangeI (most : Int) : List Int := (List.range most.toNat).map fun i : Nat => (i : Int) + 1
theorem mem_range (most x : Int) : x ∈ rangeI most ↔ 1 ≤ x ∧ x ≤ most := by
  unfold rangeI
  rw [List.mem_map]
  constructor
  · rintro ⟨i, hi, rfl⟩; rw [List.mem_range] at hi; omega
  · rintro ⟨h1, h2⟩; exact ⟨(x - 1).toNat, by rw [List.mem_range]; omega, by omega⟩
theorem range_at (most : Int) (i : Nat) (h : i < (rangeI most).length) : (rangeI most)[i] = (i : Int) + 1 := by simp only [rangeI, List.getElem_map, List.getElem_range]
theorem range_sorted (most : Int) : (rangeI most).Pairwise (· < ·) := by
  unfold rangeI
  rw [List.pairwise_map]
  exact List.pairwise_lt_range.imp (fun h => by omega)
def refTry (c : Int → Bool) (f : List Int → List Int) (nn : List Int) : List Int → List Int
  | [] => []
  | x :: xs => if c x = true then (if f (nn ++ [x]) ≠ [] then f (nn ++ [x]) else refTry c f nn xs) else refTry c f nn xs
def refS (n most : Int) : Nat → List Int → List Int
  | 0, nn => if ssLast nn = n then nn else []
  | l + 1, nn => refTry (ssR3 nn) (refS n most l) nn (rangeI most)
theorem refTry_nil (c : Int → Bool) (f : List Int → List Int) (nn : List Int) : ∀ xs, (∀ x ∈ xs, c x = true → f (nn ++ [x]) = []) → refTry c f nn xs = []
  | [], _ => rfl
  | x :: xs, h => by
    have ih := refTry_nil c f nn xs (fun y hy => h y (List.mem_cons_of_mem _ hy))
    rw [refTry]
    split
    · rename_i hc
      rw [if_neg (by rw [h x List.mem_cons_self hc]; simp)]
      exact ih
    · exact ih
theorem refTry_congr (c d : Int → Bool) (f : List Int → List Int) (nn : List Int) : ∀ xs, (∀ x ∈ xs, c x = d x) → refTry c f nn xs = refTry d f nn xs
  | [], _ => rfl
  | x :: xs, h => by rw [refTry, refTry, h x List.mem_cons_self, refTry_congr c d f nn xs (fun y hy => h y (List.mem_cons_of_mem _ hy))]
theorem refTry_filter (c : Int → Bool) (f : List Int → List Int) (nn : List Int) : ∀ xs, refTry c f nn xs = refTry (fun _ => true) f nn (xs.filter c)
  | [] => rfl
  | x :: xs => by
    rw [refTry, List.filter_cons]
    split
    · rw [refTry, if_pos rfl, refTry_filter c f nn xs]
    · exact refTry_filter c f nn xs
def Same (p : List Int × Bool) (r : List Int) : Prop := p.2 = true ∧ p.1 = r ∧ r ≠ [] ∨ p.2 = false ∧ r = []
theorem try_same (most : Int) (f : List Int → List Int × Bool) (g : List Int → List Int) (nn : List Int) : ∀ xs, (∀ x ∈ xs, 1 ≤ x → x ≤ most → nn.contains x = false → Same (f (nn ++ [x])) (g (nn ++ [x]))) → Same (ssTry most f nn xs) (refTry (fun _ => true) g nn (xs.filter fun x => decide ((1 ≤ x ∧ x ≤ most) ∧ nn.contains x = false)))
  | [], _ => Or.inr ⟨rfl, rfl⟩
  | x :: xs, h => by
    have ih := try_same most f g nn xs (fun y hy => h y (List.mem_cons_of_mem _ hy))
    rw [ssTry, List.filter_cons]
    by_cases hc : (1 ≤ x ∧ x ≤ most) ∧ nn.contains x = false
    · rw [if_pos hc, decide_eq_true hc, if_pos rfl, refTry, if_pos rfl]
      rcases h x List.mem_cons_self hc.1.1 hc.1.2 hc.2 with ⟨h1, h2, h3⟩ | ⟨h1, h2⟩
      · rw [if_pos h1, if_pos h3]
        exact Or.inl ⟨rfl, h2, h3⟩
      · rw [h1, if_neg (by simp), if_neg (by rw [h2]; simp)]
        exact ih
    · rw [if_neg hc, decide_eq_false hc, if_neg (by simp)]
      exact ih
theorem last_snoc (nn : List Int) (x : Int) : ssLast (nn ++ [x]) = x := by
  unfold ssLast rd
  rw [List.length_append, List.length_singleton, show (((nn.length + 1 : Nat) : Int) - 1).toNat = nn.length by omega, List.getD_eq_getElem?_getD, List.getElem?_append_right (Nat.le_refl _)]
  simp
theorem last_mem (nn : List Int) (h : nn ≠ []) : ssLast nn ∈ nn := by
  have hl := List.length_pos_iff.2 h
  unfold ssLast rd
  rw [show ((nn.length : Int) - 1).toNat = nn.length - 1 by omega, List.getD_eq_getElem?_getD, List.getElem?_eq_getElem (show nn.length - 1 < nn.length by omega)]
  exact List.getElem_mem _
theorem refS_cut (n most : Int) : ∀ (l : Nat) (nn : List Int) (M : Int), nn ≠ [] → (∀ x ∈ nn, 1 ≤ x ∧ x ≤ M) → M * 2 ^ l < n → refS n most l nn = []
  | 0, nn, M, hne, hb, hM => by
    have := (hb _ (last_mem nn hne)).2
    rw [refS, if_neg (by omega)]
  | l + 1, nn, M, hne, hb, hM => by
    rw [refS]
    refine refTry_nil _ _ _ _ fun x hx hc => ?_
    have hx := (mem_range most x).1 hx
    have hl := hb _ (last_mem nn hne)
    have hx2 : x ≤ 2 * M := by
      unfold ssR3 at hc
      rw [Bool.and_eq_true, Bool.or_eq_true, Bool.or_eq_true, List.contains_iff_mem, List.contains_iff_mem, List.contains_iff_mem] at hc
      rcases hc.2 with (h | h) | h
      · have := hb _ h; omega
      · have := hb _ h; omega
      · have := hb _ h; omega
    refine refS_cut n most l (nn ++ [x]) (2 * M) (by simp) (fun y hy => ?_) (by rw [Int.pow_succ] at hM; rw [Int.mul_comm 2 M, Int.mul_assoc, Int.mul_comm 2]; exact hM)
    rcases List.mem_append.1 hy with hy | hy
    · have := hb y hy; omega
    · rw [List.mem_singleton] at hy; omega
theorem fold_le : ∀ (l : List Int) (a : Int), a ≤ l.foldl max a ∧ ∀ x ∈ l, x ≤ l.foldl max a
  | [], a => ⟨Int.le_refl _, fun _ h => by cases h⟩
  | y :: l, a => by
    have ih := fold_le l (max a y)
    rw [List.foldl_cons]
    refine ⟨by have := ih.1; omega, fun x hx => ?_⟩
    rcases List.mem_cons.1 hx with rfl | hx
    · have := ih.1; omega
    · exact ih.2 x hx
theorem sub_same (n most : Int) (hmost : most ≤ 64) : ∀ (l : Nat) (nn : List Int), nn ≠ [] → (∀ x ∈ nn, 1 ≤ x ∧ x ≤ 64) → (∀ k, l = k + 1 → ssEnum k nn = true) → Same (ssSub n most l nn) (refS n most l nn)
  | 0, nn, hne, hb, _ => by
    rw [ssSub, refS]
    by_cases h : ssLast nn = n
    · rw [if_pos h, h, beq_self_eq_true]
      exact Or.inl ⟨rfl, rfl, hne⟩
    · rw [if_neg h, beq_eq_false_iff_ne.mpr h]
      exact Or.inr ⟨rfl, rfl⟩
  | l + 1, nn, hne, hb, hE => by
    have hE := hE l rfl
    rw [ssSub]
    by_cases hc : Lib.maxOf nn * 2 ^ (l + 1) < n
    · rw [if_pos hc]
      exact Or.inr ⟨rfl, refS_cut n most (l + 1) nn (Lib.maxOf nn) hne (fun x hx => ⟨(hb x hx).1, (fold_le nn _).2 x hx⟩) hc⟩
    · rw [if_neg hc, refS, refTry_congr (ssR3 nn) (ssR2 nn) _ nn (rangeI most) (fun x hx => by have := (mem_range most x).1 hx; exact enum_R hE this.1 (by omega)), refTry_filter]
      have hq : (rangeI most).filter (ssR2 nn) = (YtldbcglgfabopaaInc.incOf (ssNexts (ssLast nn) nn)).filter fun x => decide ((1 ≤ x ∧ x ≤ most) ∧ nn.contains x = false) := by
        obtain ⟨i1, i2⟩ := YtldbcglgfabopaaInc.inc_facts (ssNexts (ssLast nn) nn)
        refine YtldbcglgfabopaaInc.strict_unique _ _ ((range_sorted most).filter _) (i2.filter _) fun x => ?_
        rw [List.mem_filter, List.mem_filter, mem_range, i1, R2_iff, decide_eq_true_iff]
        constructor
        · rintro ⟨h1, h2, h3⟩; exact ⟨h3, h1, h2⟩
        · rintro ⟨h3, h1, h2⟩; exact ⟨h1, h2, h3⟩
      rw [hq]
      refine try_same most _ _ nn _ fun x hx h1 h2 h3 => ?_
      have hx2 := ((YtldbcglgfabopaaInc.inc_facts (ssNexts (ssLast nn) nn)).1 x).1 hx
      refine sub_same n most hmost l (nn ++ [x]) (by simp) (fun y hy => ?_) (fun k hk => ?_)
      · rcases List.mem_append.1 hy with hy | hy
        · exact hb y hy
        · rw [List.mem_singleton] at hy; omega
      · subst hk
        exact enum_next hE h1 (by omega) ((R2_iff nn x).2 ⟨h3, hx2⟩)
theorem si_skip {nn : List Int} {n most more last x : Int} {r : List Int} (h1 : 1 ≤ x) (h2 : x ≤ 64) (h : Ev (fun k => spec_siSearch.l0 k nn n most more last (x + 1)) r) : Ev (fun k => spec_siSearch.j1 k nn n most more last x true) r := by
  refine up ?_
  simp only [spec_siSearch.j1, if_true, wid (x := x + 1) (by omega) (by omega)]
  exact h
theorem own_val (nn : List Int) (h : nn.length ≤ 100) : spec_l1Own.f nn = some nn := by
  unfold spec_l1Own.f
  rw [Option.bind_some, if_pos (by rw [List.length_nil]; omega), List.nil_append]
theorem si_go {nn : List Int} {n most more last x : Int} {q r : List Int} (hl : nn.length ≤ 100) (hm : 1 ≤ more ∧ more ≤ 10) (h1 : 1 ≤ x) (h2 : x ≤ 64) (hq : Ev (fun k => spec_siSearch.f k (nn ++ [x]) n most (more - 1)) q) (hq2 : q.length ≤ 100) (hr : q ≠ [] → r = q) (h : q = [] → Ev (fun k => spec_siSearch.l0 k nn n most more last (x + 1)) r) : Ev (fun k => spec_siSearch.j1 k nn n most more last x false) r := by
  refine up ?_
  simp only [spec_siSearch.j1, Bool.false_eq_true, if_false, own_val nn hl, Option.bind_some, if_pos (show nn.length < 17592186044416 by omega), wid (x := x + 1) (by omega) (by omega), wid (x := more - 1) (by omega) (by omega)]
  refine Ev.bind hq ?_
  by_cases e : q = []
  · subst e
    simp only [List.length_nil]
    rw [if_neg_ev (by decide)]
    exact h rfl
  · have := List.length_pos_iff.2 e
    simp only [if_pos (show (q.length : Int) > 0 by omega)]
    rw [hr e]
    exact Ev.now _
theorem si_loop (n most : Int) (hmost : most ≤ 64) (l : Nat) (hl9 : l ≤ 6) (nn : List Int) (hne : nn ≠ []) (hlen : nn.length ≤ 8) (hb : ∀ x ∈ nn, 1 ≤ x ∧ x ≤ 64) (g : List Int → List Int) (hg : ∀ x, 1 ≤ x → x ≤ 64 → (g (nn ++ [x])).length ≤ 100 ∧ Ev (fun k => spec_siSearch.f k (nn ++ [x]) n most (l : Int)) (g (nn ++ [x]))) : ∀ (d i : Nat), i + d = (rangeI most).length → Ev (fun k => spec_siSearch.l0 k nn n most ((l : Int) + 1) (ssLast nn) ((i : Int) + 1)) (refTry (ssR3 nn) g nn ((rangeI most).drop i)) := by
  have hrl : (rangeI most).length = most.toNat := by unfold rangeI; simp
  have hlb := hb _ (last_mem nn hne)
  intro d
  induction d with
  | zero =>
    intro i h
    rw [List.drop_of_length_le (by omega), refTry]
    refine up ?_
    simp only [spec_siSearch.l0, if_neg (show ¬ ((i : Int) + 1 ≤ most) by omega)]
    exact Ev.now _
  | succ d ih =>
    intro i h
    have hi : i < (rangeI most).length := by omega
    have hx : (rangeI most)[i] = (i : Int) + 1 := range_at most i hi
    have ih := ih (i + 1) (by omega)
    rw [List.drop_eq_getElem_cons hi, hx, refTry]
    rw [show ((i + 1 : Nat) : Int) = (i : Int) + 1 by omega] at ih
    obtain ⟨x, hxe⟩ : ∃ x, (i : Int) + 1 = x := ⟨_, rfl⟩
    rw [hxe] at ih ⊢
    have h1 : 1 ≤ x := by omega
    have h2 : x ≤ most := by omega
    obtain ⟨hq2, hq⟩ := hg x h1 (by omega)
    have go := fun (hc : ssR3 nn x = true) => si_go (nn := nn) (n := n) (most := most) (more := (l : Int) + 1) (last := ssLast nn) (x := x) (q := g (nn ++ [x])) (r := if ssR3 nn x = true then (if g (nn ++ [x]) ≠ [] then g (nn ++ [x]) else refTry (ssR3 nn) g nn ((rangeI most).drop (i + 1))) else refTry (ssR3 nn) g nn ((rangeI most).drop (i + 1))) (by omega) (by omega) h1 (by omega) (by rw [show (l : Int) + 1 - 1 = (l : Int) by omega]; exact hq) hq2 (fun e => by rw [if_pos hc, if_pos e]) (fun e => by rw [if_pos hc, if_neg (by rw [e]; simp)]; exact ih)
    have skip := fun (hc : ssR3 nn x = false) => si_skip (nn := nn) (n := n) (most := most) (more := (l : Int) + 1) (last := ssLast nn) (x := x) (r := if ssR3 nn x = true then (if g (nn ++ [x]) ≠ [] then g (nn ++ [x]) else refTry (ssR3 nn) g nn ((rangeI most).drop (i + 1))) else refTry (ssR3 nn) g nn ((rangeI most).drop (i + 1))) h1 (by omega) (by rw [hc, if_neg (by simp)]; exact ih)
    have hR : ssR3 nn x = (!(hasB nn x) && (hasB nn (x - ssLast nn) || hasB nn (ssLast nn - x) || hasB nn (x + ssLast nn))) := rfl
    refine up ?_
    simp only [spec_siSearch.l0, if_pos h2, wid (x := x - ssLast nn) (by omega) (by omega), wid (x := ssLast nn - x) (by omega) (by omega), wid (x := x + ssLast nn) (by omega) (by omega)]
    refine Ev.bind (l1Has_val x nn (by omega)) ?_
    cases b0 : hasB nn x with
    | true => simp only [if_true]; exact skip (by rw [hR, b0]; rfl)
    | false =>
      simp only [Bool.false_eq_true, if_false]
      refine Ev.bind (l1Has_val (x - ssLast nn) nn (by omega)) ?_
      cases b1 : hasB nn (x - ssLast nn) with
      | true => simp only [if_true, Bool.not_true]; exact go (by rw [hR, b0, b1]; rfl)
      | false =>
        simp only [Bool.false_eq_true, if_false]
        refine Ev.bind (l1Has_val (ssLast nn - x) nn (by omega)) ?_
        cases b2 : hasB nn (ssLast nn - x) with
        | true => simp only [if_true, Bool.not_true]; exact go (by rw [hR, b0, b1, b2]; rfl)
        | false =>
          simp only [Bool.false_eq_true, if_false]
          refine Ev.bind (l1Has_val (x + ssLast nn) nn (by omega)) ?_
          cases b3 : hasB nn (x + ssLast nn) with
          | true => simp only [Bool.not_true]; exact go (by rw [hR, b0, b1, b2, b3]; rfl)
          | false => simp only [Bool.not_false]; exact skip (by rw [hR, b0, b1, b2, b3]; rfl)
theorem refTry_len (c : Int → Bool) (f : List Int → List Int) (nn : List Int) (m : Nat) (h : ∀ x, (f (nn ++ [x])).length ≤ m) : ∀ xs, (refTry c f nn xs).length ≤ m
  | [] => by rw [refTry]; exact Nat.zero_le _
  | x :: xs => by
    rw [refTry]
    split
    · split
      · exact h x
      · exact refTry_len c f nn m h xs
    · exact refTry_len c f nn m h xs
theorem refS_len (n most : Int) : ∀ (l : Nat) (nn : List Int), (refS n most l nn).length ≤ nn.length + l
  | 0, nn => by
    rw [refS]
    split
    · omega
    · exact Nat.zero_le _
  | l + 1, nn => by
    rw [refS]
    refine refTry_len _ _ nn _ (fun x => ?_) _
    have := refS_len n most l (nn ++ [x])
    rw [List.length_append, List.length_singleton] at this
    omega
theorem si_val (n most : Int) (hmost : most ≤ 64) : ∀ (l : Nat) (nn : List Int), nn ≠ [] → nn.length + l ≤ 7 → (∀ x ∈ nn, 1 ≤ x ∧ x ≤ 64) → Ev (fun k => spec_siSearch.f k nn n most (l : Int)) (refS n most l nn) := by
  intro l
  induction l with
  | zero =>
    intro nn hne hl hb
    have hp := List.length_pos_iff.2 hne
    refine up ?_
    rw [refS]
    simp only [spec_siSearch.f, wid (x := (nn.length : Int) - 1) (by omega) (by omega), if_pos (show 0 ≤ (nn.length : Int) - 1 by omega), if_pos (show (nn.length : Int) - 1 < (nn.length : Int) by omega), if_pos (show ((0 : Nat) : Int) = 0 from rfl)]
    unfold ssLast
    by_cases h : rd nn ((nn.length : Int) - 1) = n
    · simp only [if_pos h]; exact Ev.now _
    · simp only [if_neg h]; exact Ev.now _
  | succ l ih =>
    intro nn hne hl hb
    have hp := List.length_pos_iff.2 hne
    refine up ?_
    rw [refS]
    simp only [spec_siSearch.f, wid (x := (nn.length : Int) - 1) (by omega) (by omega), if_pos (show 0 ≤ (nn.length : Int) - 1 by omega), if_pos (show (nn.length : Int) - 1 < (nn.length : Int) by omega), if_neg (show ¬ ((l + 1 : Nat) : Int) = 0 by omega)]
    have := si_loop n most hmost l (by omega) nn hne (by omega) hb (refS n most l) (fun x h1 h2 => ⟨by have := refS_len n most l (nn ++ [x]); rw [List.length_append, List.length_singleton] at this; omega, ih (nn ++ [x]) (by simp) (by rw [List.length_append, List.length_singleton]; omega) (fun y hy => by
      rcases List.mem_append.1 hy with hy | hy
      · exact hb y hy
      · rw [List.mem_singleton] at hy; omega)⟩) (rangeI most).length 0 (by omega)
    rw [List.drop_zero] at this
    exact this
theorem find_val (n most : Int) (hmost : most ≤ 64) : ∀ (d l : Nat), l + d = 7 → Ev (fun k => spec_ShortestSubtraction.l0 k n most (l : Int)) (ssFind n most d l) := by
  intro d
  induction d with
  | zero =>
    intro l h
    refine up ?_
    simp only [spec_ShortestSubtraction.l0, if_neg (show ¬ (l : Int) ≤ 6 by omega)]
    exact Ev.now _
  | succ d ih =>
    intro l h
    have hs := si_val n most hmost l [1] (by simp) (by simp; omega) (by intro x hx; rw [List.mem_singleton] at hx; omega)
    have hq := sub_same n most hmost l [1] (by simp) (by intro x hx; rw [List.mem_singleton] at hx; omega) (fun k hk => enum_one k (by omega))
    refine up ?_
    simp only [spec_ShortestSubtraction.l0, if_pos (show (l : Int) ≤ 6 by omega), wid (x := (l : Int) + 1) (by omega) (by omega)]
    refine Ev.bind hs ?_
    rw [ssFind]
    rcases hq with ⟨h1, h2, h3⟩ | ⟨h1, h2⟩
    · have := List.length_pos_iff.2 h3
      rw [if_pos h1, h2]
      simp only [if_pos (show ((refS n most l [1]).length : Int) > 0 by omega)]
      exact Ev.now _
    · rw [h1, h2, if_neg (by simp)]
      simp only [List.length_nil]
      rw [if_neg_ev (by decide)]
      exact ih (l + 1) (by omega)
theorem find_len (n most : Int) : ∀ (d l : Nat), l + d = 7 → (ssFind n most d l).1.length ≤ 8
  | 0, l, _ => by rw [ssFind]; exact Nat.zero_le _
  | d + 1, l, h => by
    rw [ssFind]
    split
    · have := ssSub_len n most l [1]
      rw [List.length_singleton] at this
      dsimp only
      omega
    · exact find_len n most d (l + 1) (by omega)
theorem both (n most : Int) : ∃ r b, r.length ≤ 8 ∧ Ev (fun k => spec_ShortestSubtraction.f k n most) (r, b) ∧ impl_ShortestSubtraction.f n most = some (r, b) := by
  by_cases h : (1 ≤ n ∧ n ≤ 40) ∧ n ≤ most ∧ most ≤ 64
  · refine ⟨(ssFind n most 7 0).1, (ssFind n most 7 0).2, find_len n most 7 0 rfl, ?_, by unfold impl_ShortestSubtraction.f; rw [if_pos h]⟩
    simp only [spec_ShortestSubtraction.f, l1In_val, Option.bind_some, decide_eq_true h.1.1, decide_eq_true h.1.2, decide_eq_true h.2.1, decide_eq_true h.2.2, Bool.and_self, if_true, Bool.not_true]
    refine up ?_
    simp only [spec_ShortestSubtraction.j0, Bool.false_eq_true, if_false]
    exact find_val n most h.2.2 7 0 rfl
  · refine ⟨[], false, by simp, ?_, by unfold impl_ShortestSubtraction.f; rw [if_neg h]⟩
    simp only [spec_ShortestSubtraction.f, l1In_val, Option.bind_some]
    by_cases h1 : 1 ≤ n ∧ n ≤ 40
    · have h2 : (decide (n ≤ most) && decide (most ≤ 64)) = false := by rw [Bool.and_eq_false_iff, decide_eq_false_iff_not, decide_eq_false_iff_not]; omega
      simp only [decide_eq_true h1.1, decide_eq_true h1.2, Bool.and_self, if_true, h2, Bool.not_false]
      refine up ?_
      simp only [spec_ShortestSubtraction.j0, if_true]
      exact Ev.now _
    · have h2 : (decide (1 ≤ n) && decide (n ≤ 40)) = false := by rw [Bool.and_eq_false_iff, decide_eq_false_iff_not, decide_eq_false_iff_not]; omega
      simp only [h2, Bool.false_eq_true, if_false]
      refine up ?_
      simp only [spec_ShortestSubtraction.j0, if_true]
      exact Ev.now _
theorem main : laws_FnExactShortestSubtraction.Pure := by
  intro a0 a1 _ _
  obtain ⟨r, b, hl, hs, hi⟩ := both a0 a1
  refine Ev.rounds ?_
  simp only [laws_FnExactShortestSubtraction.f, hi, Option.bind_some]
  refine Ev.bind hs ?_
  refine Ev.bind (eqIntS_same r (by omega)) ?_
  simp only [if_true]
  refine up ?_
  simp only [laws_FnExactShortestSubtraction.j0, bne_self_eq_false, Bool.false_eq_true, if_false, hi, Option.bind_some]
  refine Ev.bind (mark_all r (by omega)) ?_
  refine Ev.bind (held_all r.length (by omega)) ?_
  simp only [if_neg (show ¬ (1 + (r.length : Int)) < 0 by omega), if_true]
  refine Ev.bind (eqIntS_same r (by omega)) ?_
  simp only [if_true]
  refine up ?_
  simp only [laws_FnExactShortestSubtraction.j1, bne_self_eq_false, Bool.false_eq_true, if_false]
  refine Ev.bind (held_all r.length (by omega)) ?_
  simp only [if_neg (show ¬ (1 + (r.length : Int)) < 0 by omega), if_true]
  exact Ev.now _
end Go.Proofs.Ytldbcglgfabopaa.PureFnExactShortestSubtractionL
namespace Go.Proofs.Ytldbcglgfabopaa.Pure
open Go.Proofs.Ytldbcglgfabopaa.PFnExactShortestSubtraction
theorem FnExactShortestSubtraction : laws_FnExactShortestSubtraction.Pure := PureFnExactShortestSubtractionL.main
end Go.Proofs.Ytldbcglgfabopaa.Pure
