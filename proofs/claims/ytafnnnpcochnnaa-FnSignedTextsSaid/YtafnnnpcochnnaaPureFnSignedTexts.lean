/- Digits are read back from their texts, and texts from their digits: the statement FnSignedTexts holds for all its drawn arguments; nothing is asked of them. -/
import Derived.Test.YtafnnnpcochnnaaPFnSignedTextsx1
import Derived.Test.YtafnnnpcochnnaaPFnSignedTextsx2
import Derived.Test.YtafnnnpcochnnaaPFnSignedTextsx3
import Derived.Test.YtafnnnpcochnnaaPFnSignedTextsx4
set_option linter.unusedVariables false
set_option linter.unusedSimpArgs false
namespace Go.Proofs.Ytafnnnpcochnnaa.PureFnSignedTextsL
open Go.RowKit Go.Proofs.Ytafnnnpcochnnaa.PFnSignedTexts Go.Proofs.YtafnnnpcochnnaaW.PrintWords Go.Proofs.YtafnnnpcochnnaaW.PrintLast Go.Proofs.YtafnnnpcochnnaaW.PrintMore
theorem up {α : Type} {g : Nat → Option α} {r : α} (h : Ev (fun k => g (k + 1)) r) : Ev g r := by
  obtain ⟨K, h⟩ := h
  refine ⟨K + 1, fun k hk => ?_⟩
  obtain ⟨m, rfl⟩ : ∃ m, k = m + 1 := ⟨k - 1, by omega⟩
  exact h m (by omega)
theorem wid {x : Int} (h0 : -9223372036854775808 ≤ x) (h1 : x ≤ 9223372036854775807) : wrap64 x = x := by unfold wrap64; omega
theorem ite_yes {α : Type} {c : Prop} [Decidable c] {a b : α} (h : c) : (if c then a else b) = a := if_pos h
theorem ite_no {α : Type} {c : Prop} [Decidable c] {a b : α} (h : ¬ c) : (if c then a else b) = b := if_neg h
theorem evsome {α β : Type} {x : Option α} {a : α} {f : Nat → α → Option β} {r : β} (hx : x = some a) (h : Ev (fun k => f k a) r) : Ev (fun k => x.bind (f k)) r := by subst hx; exact h
theorem if_pos_ev {α : Type} {c : Prop} [Decidable c] {f g : Nat → Option α} (h : c) : (fun k => if c then f k else g k) = f := funext fun k => if_pos h
theorem if_neg_ev {α : Type} {c : Prop} [Decidable c] {f g : Nat → Option α} (h : ¬ c) : (fun k => if c then f k else g k) = g := funext fun k => if_neg h
theorem rd_at {l : List Int} {i : Nat} (h : i < l.length) : rd l (i : Int) = l[i] := by
  unfold rd
  rw [Int.toNat_natCast, List.getD_eq_getElem?_getD, List.getElem?_eq_getElem h]; rfl
def allIn (a b : Int) (l : List Int) : Bool := l.all fun d => decide (a ≤ d) && decide (d ≤ b)
theorem l1In_val (x a b : Int) : spec_l1In.f x a b = some (decide (a ≤ x) && decide (x ≤ b)) := by
  unfold spec_l1In.f
  by_cases h : a ≤ x
  · rw [if_pos h]; simp [h]
  · rw [if_neg h]; simp [h]
theorem l1All_loop (a b : Int) (l : List Int) (hl : l.length ≤ 17592186044416) : ∀ (d i : Nat), i + d = l.length → Ev (fun k => spec_l1All.l0 k a b l (l.length : Int) i) (allIn a b (l.drop i)) := by
  intro d
  induction d with
  | zero =>
    intro i h
    refine up ?_
    simp only [spec_l1All.l0, if_neg (show ¬ (i : Int) < (l.length : Int) by omega)]
    rw [List.drop_of_length_le (by omega)]
    exact Ev.now _
  | succ d ih =>
    intro i h
    have hi : i < l.length := by omega
    refine up ?_
    simp only [spec_l1All.l0, if_pos (show (i : Int) < (l.length : Int) by omega), if_pos (show (0 : Int) ≤ (i : Int) by omega), l1In_val, Option.bind_some, wid (x := (i : Int) + 1) (by omega) (by omega), rd_at hi]
    have e : allIn a b (l.drop i) = ((decide (a ≤ l[i]) && decide (l[i] ≤ b)) && allIn a b (l.drop (i + 1))) := by
      rw [List.drop_eq_getElem_cons hi]; rfl
    rw [e]
    cases hb : (decide (a ≤ l[i]) && decide (l[i] ≤ b)) with
    | true => simp only [if_true, Bool.true_and]; exact ih (i + 1) (by omega)
    | false => simp only [Bool.false_eq_true, if_false, Bool.false_and]; exact Ev.now _
theorem l1All_val (a b : Int) (l : List Int) (hl : l.length ≤ 17592186044416) : Ev (fun k => spec_l1All.f k l a b) (allIn a b l) := l1All_loop a b l hl l.length 0 (by omega)
theorem siDigits_val (l : List Int) (hl : l.length ≤ 17592186044416) : Ev (fun k => spec_siDigits.f k l) (signedB l) := by
  unfold signedB
  by_cases h : l.length ≤ 24
  · simp only [spec_siDigits.f, if_pos (show (l.length : Int) ≤ 24 by omega), h, decide_true, Bool.true_and]
    exact Ev.bind (l1All_val (-1) 1 l hl) (Ev.now _)
  · simp only [spec_siDigits.f, if_neg (show ¬ (l.length : Int) ≤ 24 by omega), h, decide_false, Bool.false_and]
    exact Ev.now _
theorem signedB_len {l : List Int} (h : signedB l = true) : l.length ≤ 24 := by
  unfold signedB at h
  simp only [Bool.and_eq_true, decide_eq_true_eq] at h
  exact h.1
theorem signedB_mem {l : List Int} (h : signedB l = true) {d : Int} (hd : d ∈ l) : -1 ≤ d ∧ d ≤ 1 := by
  unfold signedB at h
  simp only [Bool.and_eq_true, decide_eq_true_eq, List.all_eq_true] at h
  exact h.2 d hd
theorem ba_ext {a b : ByteArray} (h : a.data = b.data) : a = b := by cases a; cases b; simp only at h; rw [h]
theorem str_cons (x : Int) (xs : List Int) (hx : x = 45 ∨ x = 48 ∨ x = 43) : (if x = 45 then (⟨#[45]⟩ : ByteArray) else if x = 48 then ⟨#[48]⟩ else ⟨#[43]⟩) ++ strOfNums xs = strOfNums (x :: xs) := by
  apply ba_ext
  rw [ByteArray.data_append]
  rcases hx with rfl | rfl | rfl <;> simp [strOfNums]
theorem strOfNums_size (xs : List Int) : (strOfNums xs).size = xs.length := by
  show (strOfNums xs).data.size = _
  simp [strOfNums]
theorem sign_rd (d : Int) (hd : d = -1 ∨ d = 0 ∨ d = 1) : 0 ≤ wrap64 (d + 1) ∧ wrap64 (d + 1) < 3 ∧ rdOf ByteArray.empty [(⟨#[45]⟩ : ByteArray), ⟨#[48]⟩, ⟨#[43]⟩] (wrap64 (d + 1)) = (if signOf d = 45 then (⟨#[45]⟩ : ByteArray) else if signOf d = 48 then ⟨#[48]⟩ else ⟨#[43]⟩) := by
  rw [wid (by omega) (by omega)]
  rcases hd with rfl | rfl | rfl <;> exact ⟨by omega, by omega, by simp [rdOf, signOf]⟩
theorem signOf_mem (d : Int) : signOf d = 45 ∨ signOf d = 48 ∨ signOf d = 43 := by
  unfold signOf
  split
  · exact .inl rfl
  · split
    · exact .inr (.inl rfl)
    · exact .inr (.inr rfl)
theorem spec_loop (l : List Int) (hl : l.length ≤ 1048576) (hz : ∀ d ∈ l, d = -1 ∨ d = 0 ∨ d = 1) : ∀ (d i : Nat), i + d = l.length → Ev (fun k => spec_SignedText.l0 k (strOfNums ((l.take i).reverse.map signOf)) l (l.length : Int) i) (strOfNums (l.reverse.map signOf), true) := by
  intro d
  induction d with
  | zero =>
    intro i hi
    refine up ?_
    simp only [spec_SignedText.l0, if_neg (show ¬ (i : Int) < (l.length : Int) by omega), List.take_of_length_le (show l.length ≤ i by omega)]
    exact Ev.now _
  | succ d ih =>
    intro i hi
    have hlt : i < l.length := by omega
    obtain ⟨h0, h1, h2⟩ := sign_rd l[i] (hz _ (List.getElem_mem hlt))
    refine up ?_
    have hsz : (if signOf l[i] = 45 then (⟨#[45]⟩ : ByteArray) else if signOf l[i] = 48 then ⟨#[48]⟩ else ⟨#[43]⟩).size = 1 := by split; rfl; split <;> rfl
    have hsz2 : (strOfNums ((l.take i).reverse.map signOf)).size ≤ 1048576 := by rw [strOfNums_size]; simp; omega
    simp only [spec_SignedText.l0, Option.bind_some, rd_at hlt, if_pos (show (i : Int) < (l.length : Int) by omega), if_pos (show (0 : Int) ≤ (i : Int) by omega), if_pos h0, List.length_cons, List.length_nil, if_pos (show wrap64 (l[i] + 1) < ((0 + 1 + 1 + 1 : Nat) : Int) from h1), h2, hsz, if_pos (show 1 + (strOfNums ((l.take i).reverse.map signOf)).size ≤ 9223372036854775807 by omega), wid (x := (i : Int) + 1) (by omega) (by omega), str_cons _ _ (signOf_mem l[i])]
    have e : signOf l[i] :: (l.take i).reverse.map signOf = (l.take (i + 1)).reverse.map signOf := by
      have ht : l.take (i + 1) = l.take i ++ [l[i]] := by rw [List.take_add_one, List.getElem?_eq_getElem hlt]; rfl
      rw [ht, List.reverse_append, List.reverse_singleton, List.singleton_append, List.map_cons]
    rw [e]
    exact ih (i + 1) (by omega)
theorem digit_iff (l : List Int) : (l.all fun d => decide (-1 ≤ d) && decide (d ≤ 1)) = true → ∀ d ∈ l, d = -1 ∨ d = 0 ∨ d = 1 := fun h d hd => by
  have := List.all_eq_true.1 h d hd
  simp only [Bool.and_eq_true, decide_eq_true_eq] at this
  omega
/-- What SignedText answers. -/
def stext (l : List Int) : ByteArray × Bool := if signedB l = true then (if l.length = 0 then (⟨#[61]⟩, true) else (strOfNums (l.reverse.map signOf), true)) else (⟨#[]⟩, false)
theorem specText (l : List Int) (hl : l.length ≤ 1048576) : Ev (fun k => spec_SignedText.f k l) (stext l) := by
  have hd := siDigits_val l (by omega)
  simp only [spec_SignedText.f]
  refine Ev.bind hd ?_
  unfold stext
  by_cases hs : signedB l = true
  · have hz := digit_iff l (by have h2 := hs; unfold signedB at h2; rw [Bool.and_eq_true] at h2; exact h2.2)
    simp only [hs, if_true]
    by_cases h0 : l.length = 0
    · simp only [if_pos h0, if_pos (show (l.length : Int) = 0 by omega)]; exact Ev.now _
    · simp only [if_neg h0, if_neg (show ¬ (l.length : Int) = 0 by omega)]
      exact spec_loop l hl hz l.length 0 (by omega)
  · simp only [hs, Bool.false_eq_true, if_false]; exact Ev.now _
theorem implText (l : List Int) (hl : l.length ≤ 1048576) : impl_SignedText.f l = some (stext l) := by
  unfold stext
  by_cases hs : signedB l = true
  · have hz := digit_iff l (by have h2 := hs; unfold signedB at h2; rw [Bool.and_eq_true] at h2; exact h2.2)
    by_cases h0 : l.length = 0
    · simp only [impl_SignedText.f, impl_isDigits.f, hs, Option.bind_some, if_true, impl_signedText.f, if_pos h0]
    · simp only [impl_SignedText.f, impl_isDigits.f, hs, Option.bind_some, if_true, impl_signedText.f, if_neg h0, if_pos (And.intro (show l.length * 8 ≤ 140737488351232 by omega) hz)]
  · simp only [impl_SignedText.f, impl_isDigits.f, hs, Option.bind_some, Bool.false_eq_true, if_false]
theorem index3 (c : Int) : Ev (fun k => slices_Index_byte_byte.f k [45, 48, 43] c) (if c = 45 then 0 else if c = 48 then 1 else if c = 43 then 2 else -1) := by
  have w1 : wrap64 (1 : Int) = 1 := wid (by decide) (by decide)
  have w2 : wrap64 (2 : Int) = 2 := wid (by decide) (by decide)
  have w3 : wrap64 (3 : Int) = 3 := wid (by decide) (by decide)
  simp only [slices_Index_byte_byte.f]
  refine up ?_
  by_cases h1 : c = 45
  · simp only [slices_Index_byte_byte.l0, h1]; exact ⟨0, fun k _ => by simp [rd]⟩
  refine up ?_
  by_cases h2 : c = 48
  · simp only [slices_Index_byte_byte.l0, h2]; exact ⟨0, fun k _ => by simp [rd, w1]⟩
  refine up ?_
  by_cases h3 : c = 43
  · simp only [slices_Index_byte_byte.l0, h3]; exact ⟨0, fun k _ => by simp [rd, w1, w2]⟩
  refine up ?_
  simp only [slices_Index_byte_byte.l0]
  exact ⟨0, fun k _ => by simp [rd, w1, w2, w3, h1, h2, h3]⟩
theorem specLong (s : ByteArray) (hs : s.size ≤ 1048576) : ∀ (d : Nat) (acc : List Int), d ≤ s.size → 24 < acc.length + d → acc.length + d ≤ s.size → Ev (fun k => spec_ParseSigned.l0 k s acc ((d : Int) - 1)) (([] : List Int), false) := by
  intro d
  induction d with
  | zero =>
    intro acc hd h h2
    refine up ?_
    simp only [spec_ParseSigned.l0, spec_l1In.f]
    refine ⟨0, fun k _ => ?_⟩
    have e1 : ¬ ((acc.length : Int) ≤ 24) := by omega
    by_cases e2 : (acc.length : Int) ≥ 1 <;> simp [e1, e2]
  | succ d ih =>
    intro acc hd h h2
    have e0 : ((d + 1 : Nat) : Int) - 1 = d := by omega
    refine up ?_
    simp only [spec_ParseSigned.l0, e0, if_pos (show (d : Int) ≥ 0 by omega), if_pos (show (0 : Int) ≤ (d : Int) by omega), if_pos (show (d : Int) < (s.size : Int) by omega), if_pos (show acc.length < 17592186044416 by omega), wid (x := (d : Int) - 1) (by omega) (by omega)]
    by_cases h1 : bt s d = 45
    · simp only [h1, if_true]; exact ih (acc ++ [-1]) (by omega) (by simp; omega) (by simp; omega)
    by_cases h2 : bt s d = 48
    · simp only [h2, if_true]; exact ih (acc ++ [0]) (by omega) (by simp; omega) (by simp; omega)
    by_cases h3 : bt s d = 43
    · simp only [h3, if_true]; exact ih (acc ++ [1]) (by omega) (by simp; omega) (by simp; omega)
    simp only [h1, h2, h3, if_false]
    exact Ev.now _
theorem wf_byte {x : Int} (h : (Lit.int .u8 x).wf = true) : 0 ≤ x ∧ x ≤ 255 := by
  simp only [Lit.wf, Bool.and_eq_true, decide_eq_true_eq] at h
  exact h
theorem rd_byte {l : List Int} (hl : ∀ x ∈ l, (Lit.int .u8 x).wf = true) (i : Int) (h0 : 0 ≤ i) (h1 : i < l.length) : 0 ≤ rd l i ∧ rd l i ≤ 255 := by
  unfold rd
  have hi : i.toNat < l.length := by omega
  rw [List.getD_eq_getElem?_getD, List.getElem?_eq_getElem hi]
  exact wf_byte (hl _ (List.getElem_mem hi))
theorem wrapU_range (n : Int) : 0 ≤ IntKind.u64.wrap n ∧ IntKind.u64.wrap n < 18446744073709551616 := by
  simp only [IntKind.wrap, IntKind.bits, IntKind.signed, Bool.false_eq_true, false_and, if_false]
  simp
  omega
theorem and255 (x : Int) : 0 ≤ Go.bits .and .u64 (IntKind.u64.wrap x / 1099511627776) 255 ∧ Go.bits .and .u64 (IntKind.u64.wrap x / 1099511627776) 255 ≤ 255 := by
  have h := wrapU_range x
  have hw : ∀ n : Int, 0 ≤ n → n < 2 ^ 40 → IntKind.u64.wrap n = n := by
    intro n h0 h1
    have e : (2 : Int) ^ 40 = 1099511627776 := by decide
    simp only [IntKind.wrap, IntKind.bits, IntKind.signed, Bool.false_eq_true, false_and, if_false]
    simp
    omega
  have e : (2 : Int) ^ 40 = 1099511627776 := by decide
  have hb : Go.bits .and .u64 (IntKind.u64.wrap x / 1099511627776) ((2 : Int) ^ 8 - 1) = (IntKind.u64.wrap x / 1099511627776) % 2 ^ 8 := bits_mask .u64 40 (by decide) hw 8 (by decide) _ (by omega) (by omega)
  have e1 : (2 : Int) ^ 8 - 1 = 255 := by decide
  have e2 : (2 : Int) ^ 8 = 256 := by decide
  rw [e1, e2] at hb
  rw [hb]; omega
theorem next_ok {l : List Int} (hl : ∀ x ∈ l, (Lit.int .u8 x).wf = true) (p s : Int) (h0 : 0 ≤ p) (h1 : p ≤ 1000000000000) : ∃ v s', spec_l1Cur_next.f l p s = some (v, p + 1, s') ∧ 0 ≤ v ∧ v ≤ 255 := by
  unfold spec_l1Cur_next.f
  rw [wid (x := p + 1) (by omega) (by omega)]
  by_cases hlt : p < (l.length : Int)
  · have hb := rd_byte hl p h0 hlt
    rw [if_pos hlt, if_pos h0, if_pos (show p + 1 ≤ (l.length : Int) by omega), wid (x := rd l p) (by omega) (by omega)]
    exact ⟨_, _, rfl, by omega, by omega⟩
  · rw [if_neg hlt]
    by_cases hle : p + 1 ≤ (l.length : Int)
    · omega
    · rw [if_neg hle]
      have := and255 (IntKind.u64.wrap (IntKind.u64.wrap (s * 6364136223846793005)) + 1442695040888963407)
      rw [wid (by omega) (by omega)]
      exact ⟨_, _, rfl, this.1, this.2⟩
theorem pick_ok {l : List Int} (hl : ∀ x ∈ l, (Lit.int .u8 x).wf = true) (p s n : Int) (h0 : 0 ≤ p) (h1 : p ≤ 100000000000) : ∃ v p' s', spec_l1Cur_pick.f l p s n = some (v, p', s') ∧ 0 ≤ v ∧ (1 ≤ n → v < n) ∧ p ≤ p' ∧ p' ≤ p + 2 := by
  unfold spec_l1Cur_pick.f
  by_cases hn : n ≤ 1
  · rw [if_pos hn]; exact ⟨0, p, s, rfl, by omega, by omega, by omega, by omega⟩
  · rw [if_neg hn]
    obtain ⟨v, s1, e1, hv0, hv1⟩ := next_ok hl p s h0 (by omega)
    rw [e1]; simp only [Option.bind_some]
    by_cases hb : n > 200
    · obtain ⟨u, s2, e2, hu0, hu1⟩ := next_ok hl (p + 1) s1 (by omega) (by omega)
      rw [if_pos hb, e2]; simp only [Option.bind_some]
      rw [if_neg (by omega), wid (x := v * 256) (by omega) (by omega), wid (x := v * 256 + u) (by omega) (by omega), Int.tmod_eq_emod_of_nonneg (by omega)]
      have r1 := Int.emod_nonneg (v * 256 + u) (show n ≠ 0 by omega)
      have r2 := Int.emod_lt_of_pos (v * 256 + u) (show 0 < n by omega)
      exact ⟨_, _, _, rfl, r1, fun _ => r2, by omega, by omega⟩
    · rw [if_neg hb, if_neg (by omega), Int.tmod_eq_emod_of_nonneg (by omega)]
      have r1 := Int.emod_nonneg v (show n ≠ 0 by omega)
      have r2 := Int.emod_lt_of_pos v (show 0 < n by omega)
      exact ⟨_, _, _, rfl, r1, fun _ => r2, by omega, by omega⟩
theorem one_ok {l : List Int} (hl : ∀ x ∈ l, (Lit.int .u8 x).wf = true) (p s n : Int) (h0 : 0 ≤ p) (h1 : p ≤ 100000000000) : ∃ v p' s', spec_l1Cur_one.f l p s n = some (v, p', s') ∧ p ≤ p' ∧ p' ≤ p + 2 := by
  obtain ⟨v, p', s', e, _, _, a, b⟩ := pick_ok hl p s n h0 h1
  exact ⟨(v == 0), p', s', by simp only [spec_l1Cur_one.f, e, Option.bind_some], a, b⟩
theorem among_ok {l : List Int} (hl : ∀ x ∈ l, (Lit.int .u8 x).wf = true) (p s : Int) (h0 : 0 ≤ p) (h1 : p ≤ 100000000000) (t : List Int) (ht : 1 ≤ t.length) : ∃ v p' s', spec_l1Cur_among.f l p s t = some (v, p', s') ∧ v ∈ t ∧ p ≤ p' ∧ p' ≤ p + 2 := by
  obtain ⟨v, p', s', e, v0, v1, a, b⟩ := pick_ok hl p s t.length h0 h1
  have hv := v1 (by omega)
  refine ⟨rd t v, p', s', by simp only [spec_l1Cur_among.f, e, Option.bind_some, if_pos v0, if_pos hv], ?_, a, b⟩
  unfold rd
  have hi : v.toNat < t.length := by omega
  rw [List.getD_eq_getElem?_getD, List.getElem?_eq_getElem hi]
  exact List.getElem_mem hi
theorem tmod_in {a b : Int} (hb : 0 < b) : -b < Int.tmod a b ∧ Int.tmod a b < b := ⟨Int.lt_tmod_of_pos a hb, Int.tmod_lt_of_pos a hb⟩
theorem posmod {a b : Int} (hb : 0 < b) (hb2 : b ≤ 1000000000000000) : Int.tmod (wrap64 ((Int.tmod a b) + b)) b = a % b := by
  have h := tmod_in (a := a) hb
  rw [wid (by omega) (by omega), Int.tmod_eq_emod_of_nonneg (by omega), Int.add_emod_right]
  rw [Int.tmod_def, Int.sub_mul_emod_self_left]
theorem odd_test (x : Int) : Int.tmod x 2 = 0 ↔ x % 2 = 0 := by
  rw [← Int.dvd_iff_tmod_eq_zero, ← Int.dvd_iff_emod_eq_zero]
theorem half_even {x : Int} (h : x % 2 = 0) : Int.tdiv x 2 = x / 2 := Int.tdiv_eq_ediv_of_dvd (Int.dvd_of_emod_eq_zero h)
/-- The window digit of a number, for the width whose power of two is t. -/
def dig (t n : Int) : Int := if n % 2 = 0 then 0 else if n % t > t / 2 then n % t - t else n % t
/-- The window digits of a number whose size is at most 2^f. -/
def win (t : Int) : Nat → Int → List Int
  | 0, n => if n = 0 then [] else [n]
  | f + 1, n => if n = 0 then [] else dig t n :: win t f ((n - dig t n) / 2)
def Pw (t : Int) : Prop := t = 4 ∨ t = 8 ∨ t = 16 ∨ t = 32 ∨ t = 64
theorem win_nil (t : Int) (f : Nat) : win t f 0 = [] := by cases f <;> simp [win]
theorem win_length (t : Int) : ∀ (f : Nat) (n : Int), (win t f n).length ≤ f + 1
  | 0, n => by unfold win; split <;> simp
  | f + 1, n => by
    unfold win
    split
    · simp
    · have := win_length t f ((n - dig t n) / 2); simp only [List.length_cons]; omega
theorem dig_even {t : Int} (ht : Pw t) (n : Int) : (n - dig t n) % 2 = 0 := by
  unfold dig Pw at *
  rcases ht with rfl | rfl | rfl | rfl | rfl <;> (split <;> (try split) <;> omega)
theorem dig_size {t : Int} (ht : Pw t) (n : Int) : -32 < dig t n ∧ dig t n < 32 := by
  unfold dig Pw at *
  rcases ht with rfl | rfl | rfl | rfl | rfl <;> (split <;> (try split) <;> omega)
theorem dig_one {t : Int} (ht : Pw t) {n : Int} (h0 : n ≠ 0) (h1 : -1 ≤ n) (h2 : n ≤ 1) : dig t n = n := by
  have : n = 1 ∨ n = -1 := by omega
  unfold Pw at ht
  rcases ht with rfl | rfl | rfl | rfl | rfl <;> rcases this with rfl | rfl <;> decide
theorem dig_next_aux {t P Q n : Int} (ht : Pw t) (hPQ : P = 2 * Q) (hP : (P = 2 ∨ P = 4 ∨ P = 8 ∨ P = 16 ∨ P = 32) ∨ ∃ p, P = 64 * p) (h0 : -P ≤ n) (h1 : n ≤ P) : -Q ≤ (n - dig t n) / 2 ∧ (n - dig t n) / 2 ≤ Q := by
  unfold dig
  unfold Pw at ht
  rcases ht with rfl | rfl | rfl | rfl | rfl <;> rcases hP with (rfl | rfl | rfl | rfl | rfl) | ⟨p, rfl⟩ <;> (split <;> (try split) <;> omega)
theorem two_pow_int (f : Nat) : (2 : Int) ^ (f + 1) = 2 * 2 ^ f := by rw [Int.pow_succ]; omega
theorem dig_next {t : Int} (ht : Pw t) (f : Nat) {n : Int} (h0 : -(2 ^ (f + 1)) ≤ n) (h1 : n ≤ 2 ^ (f + 1)) : -(2 ^ f) ≤ (n - dig t n) / 2 ∧ (n - dig t n) / 2 ≤ 2 ^ f := by
  refine dig_next_aux ht (two_pow_int f) ?_ h0 h1
  rcases Nat.lt_or_ge f 5 with hf | hf
  · have hc : f = 0 ∨ f = 1 ∨ f = 2 ∨ f = 3 ∨ f = 4 := by omega
    left
    rcases hc with rfl | rfl | rfl | rfl | rfl <;> decide
  · obtain ⟨g, rfl⟩ : ∃ g, f = g + 5 := ⟨f - 5, by omega⟩
    right
    exact ⟨2 ^ g, by simp only [Int.pow_succ]; omega⟩
theorem pow20 {f : Nat} (hf : f ≤ 20) : (2 : Int) ^ f ≤ 1048576 := by
  have h := Nat.pow_le_pow_right (n := 2) (by omega) hf
  have e : ((2 ^ f : Nat) : Int) = (2 : Int) ^ f := by simp
  omega
theorem siOdd_val (x : Int) : spec_siOdd.f x = some (decide (¬ x % 2 = 0)) := by
  unfold spec_siOdd.f
  by_cases h : x % 2 = 0
  · have := (odd_test x).2 h; simp [h, this]
  · have := mt (odd_test x).1 h; simp [h, this]
theorem specWin_step {t n : Int} (ht : Pw t) (hn0 : n ≠ 0) (h0 : -2000000 ≤ n) (h1 : n ≤ 2000000) (acc : List Int) (ha : acc.length < 1000) {r : List Int}
    (h : Ev (fun k => spec_siWindow.l0 k ((n - dig t n) / 2) (acc ++ [dig t n]) t) r) : Ev (fun k => spec_siWindow.l0 k n acc t) r := by
  have hd := dig_size ht n
  have he := dig_even ht n
  have ht2 : 0 < t ∧ t ≤ 64 := by unfold Pw at ht; omega
  have hth : wrap64 (Int.tdiv t 2) = t / 2 := by unfold Pw at ht; rcases ht with rfl | rfl | rfl | rfl | rfl <;> exact wid (by decide) (by decide)
  refine up ?_
  simp only [spec_siWindow.l0, if_neg hn0, siOdd_val, Option.bind_some]
  by_cases hp : n % 2 = 0
  · have hd0 : dig t n = 0 := by unfold dig; rw [if_pos hp]
    rw [hd0] at h he
    simp only [hp, not_true_eq_false, decide_false, Bool.false_eq_true, if_false, if_pos (show acc.length < 17592186044416 by omega), wid (x := n - 0) (by omega) (by omega), half_even he, wid (x := (n - 0) / 2) (by omega) (by omega)]
    exact h
  · have hm : 0 ≤ n % t ∧ n % t < t := ⟨Int.emod_nonneg _ (by omega), Int.emod_lt_of_pos _ (by omega)⟩
    simp only [hp, not_false_eq_true, decide_true, if_true, if_neg (show ¬ t = 0 by omega), posmod (a := n) (b := t) (by omega) (by omega), hth, if_pos (show acc.length < 17592186044416 by omega)]
    by_cases hb : n % t > t / 2
    · have hd1 : dig t n = n % t - t := by unfold dig; rw [if_neg hp, if_pos hb]
      rw [hd1] at h he
      simp only [if_pos hb, wid (x := n % t - t) (by omega) (by omega), wid (x := n - (n % t - t)) (by omega) (by omega), half_even he, wid (x := (n - (n % t - t)) / 2) (by omega) (by omega)]
      exact h
    · have hd1 : dig t n = n % t := by unfold dig; rw [if_neg hp, if_neg hb]
      rw [hd1] at h he
      simp only [if_neg hb, wid (x := n - n % t) (by omega) (by omega), half_even he, wid (x := (n - n % t) / 2) (by omega) (by omega)]
      exact h
theorem specWin_zero (t : Int) (acc : List Int) : Ev (fun k => spec_siWindow.l0 k 0 acc t) acc := by
  refine up ?_
  simp only [spec_siWindow.l0, if_true]
  exact Ev.now _
theorem specWin_loop {t : Int} (ht : Pw t) : ∀ (f : Nat) (n : Int) (acc : List Int), f ≤ 20 → -(2 ^ f) ≤ n → n ≤ 2 ^ f → acc.length + f < 1000 →
    Ev (fun k => spec_siWindow.l0 k n acc t) (acc ++ win t f n) := by
  intro f
  induction f with
  | zero =>
    intro n acc hf h0 h1 ha
    by_cases hn : n = 0
    · subst hn; rw [win_nil, List.append_nil]; exact specWin_zero t acc
    · have e := dig_one ht hn (by omega) (by omega)
      refine specWin_step ht hn (by omega) (by omega) acc (by omega) ?_
      rw [e, Int.sub_self, show (0 : Int) / 2 = 0 from rfl, show win t 0 n = [n] by unfold win; rw [if_neg hn]]
      exact specWin_zero t _
  | succ f ih =>
    intro n acc hf h0 h1 ha
    have hp := pow20 hf
    by_cases hn : n = 0
    · subst hn; rw [win_nil, List.append_nil]; exact specWin_zero t acc
    · have hx := dig_next ht f h0 h1
      have := ih ((n - dig t n) / 2) (acc ++ [dig t n]) (by omega) hx.1 hx.2 (by simp; omega)
      refine specWin_step ht hn (by omega) (by omega) acc (by omega) ?_
      rw [show win t (f + 1) n = dig t n :: win t f ((n - dig t n) / 2) by rw [win, if_neg hn]]
      simpa using this
theorem specWin {t w : Int} (ht : Pw t) (hw0 : 0 ≤ w) (hs : shl .i64 1 w = t) (n : Int) (h0 : -1000000 ≤ n) (h1 : n ≤ 1000000) : Ev (fun k => spec_siWindow.f k n w) (win t 20 n) := by
  have := specWin_loop ht 20 n [] (by omega) (by omega) (by omega) (by simp)
  simpa [spec_siWindow.f, if_pos hw0, hs] using this
theorem signs1_ok {l : List Int} (hl : ∀ x ∈ l, (Lit.int .u8 x).wf = true) : ∀ (d : Nat) (L : List Int) (p s : Int), 25 ≤ L.length + d → L.length + d ≤ 60 → 0 ≤ p → p + 10 * d ≤ 1000000 → ∃ r p' s', Ev (fun k => spec_l1Cur_signs.l1 k L l p s) (r, p', s') ∧ r.length ≤ 60 ∧ p ≤ p' ∧ p' ≤ p + 10 * d + 10 := by
  intro d
  induction d with
  | zero =>
    intro L p s h h2 h0 h1
    obtain ⟨v, p1, s1, e, v0, v1, a, b⟩ := pick_ok hl p s 2 h0 (by omega)
    have v2 := v1 (by omega)
    refine ⟨L, p1, s1, up ?_, by omega, by omega, by omega⟩
    simp only [spec_l1Cur_signs.l1, e, Option.bind_some, wid (x := 24 + v) (by omega) (by omega), if_neg (show ¬ (L.length : Int) < 24 + v by omega)]
    exact Ev.now _
  | succ d ih =>
    intro L p s h h2 h0 h1
    obtain ⟨v, p1, s1, e, v0, v1, a, b⟩ := pick_ok hl p s 2 h0 (by omega)
    have v2 := v1 (by omega)
    by_cases c : (L.length : Int) < 24 + v
    · obtain ⟨u, p2, s2, e2, _, _, a2, b2⟩ := pick_ok hl p1 s1 3 (by omega) (by omega)
      obtain ⟨r, p', s', er, hr, ar, br⟩ := ih (L ++ [wrap64 (u - 1)]) p2 s2 (by simp; omega) (by simp; omega) (by omega) (by omega)
      refine ⟨r, p', s', up ?_, hr, by omega, by omega⟩
      simp only [spec_l1Cur_signs.l1, e, Option.bind_some, wid (x := 24 + v) (by omega) (by omega), if_pos c, e2, if_pos (show L.length < 17592186044416 by omega)]
      exact er
    · refine ⟨L, p1, s1, up ?_, by omega, by omega, by omega⟩
      simp only [spec_l1Cur_signs.l1, e, Option.bind_some, wid (x := 24 + v) (by omega) (by omega), if_neg c]
      exact Ev.now _
theorem signs2_ok {l : List Int} (hl : ∀ x ∈ l, (Lit.int .u8 x).wf = true) (L : List Int) (hL : L.length ≤ 60) (c : Bool) (p s : Int) (h0 : 0 ≤ p) (h1 : p ≤ 1000000) : ∃ r p' s', Ev (fun k => spec_l1Cur_signs.j2 k L c l p s) (r, p', s') ∧ r.length ≤ 60 ∧ p ≤ p' ∧ p' ≤ p + 2 := by
  cases c with
  | false =>
    refine ⟨L, p, s, up ?_, hL, by omega, by omega⟩
    simp only [spec_l1Cur_signs.j2, Bool.false_eq_true, if_false]
    exact Ev.now _
  | true =>
    obtain ⟨v, p1, s1, e, v0, v1, a, b⟩ := pick_ok hl p s 3000 h0 (by omega)
    have v2 := v1 (by omega)
    refine ⟨win 4 20 (v - 1500), p1, s1, up ?_, by have := win_length 4 20 (v - 1500); omega, a, b⟩
    simp only [spec_l1Cur_signs.j2, if_true, e, Option.bind_some, wid (x := v - 1500) (by omega) (by omega)]
    exact Ev.bind (specWin (t := 4) (.inl rfl) (by omega) (by decide) (v - 1500) (by omega) (by omega)) (Ev.now _)
theorem signs0_ok {l : List Int} (hl : ∀ x ∈ l, (Lit.int .u8 x).wf = true) : ∀ (d : Nat) (L : List Int) (p s : Int), L.length + d ≤ 20 → 0 ≤ p → p + 10 * d ≤ 100000 → ∃ r p' s', Ev (fun k => spec_l1Cur_signs.l0 k L d l p s) (r, p', s') ∧ r.length ≤ 60 ∧ p ≤ p' ∧ p' ≤ p + 10 * d + 600 := by
  intro d
  induction d with
  | zero =>
    intro L p s hL h0 h1
    obtain ⟨v, p1, s1, e, v0, v1, a, b⟩ := pick_ok hl p s 16 h0 (by omega)
    have v2 := v1 (by omega)
    by_cases c0 : v = 0
    · obtain ⟨u, p2, s2, e2, _, a2, b2⟩ := among_ok hl p1 s1 (by omega) (by omega) [2, (-2), 1099511627776] (by simp)
      refine ⟨L ++ [u], p2, s2, up ?_, by simp; omega, by omega, by omega⟩
      simp only [spec_l1Cur_signs.l0, if_neg (show ¬ ((0 : Nat) : Int) > 0 by omega), e, Option.bind_some, if_pos c0, e2, if_pos (show L.length < 17592186044416 by omega)]
      exact Ev.now _
    by_cases c1 : v = 1
    · obtain ⟨r, p', s', er, hr, ar, br⟩ := signs1_ok hl 30 L p1 s1 (by omega) (by omega) (by omega) (by omega)
      refine ⟨r, p', s', up ?_, hr, by omega, by omega⟩
      simp only [spec_l1Cur_signs.l0, if_neg (show ¬ ((0 : Nat) : Int) > 0 by omega), e, Option.bind_some, if_neg c0, if_pos c1]
      exact er
    have j : ∀ c : Bool, ∃ r p' s', Ev (fun k => spec_l1Cur_signs.j2 k L c l p1 s1) (r, p', s') ∧ r.length ≤ 60 ∧ p ≤ p' ∧ p' ≤ p + 10 * ((0 : Nat) : Int) + 600 := fun c => by
      obtain ⟨r, p', s', er, hr, ar, br⟩ := signs2_ok hl L (by omega) c p1 s1 (by omega) (by omega)
      exact ⟨r, p', s', er, hr, by omega, by omega⟩
    by_cases c2 : v = 2
    · obtain ⟨r, p', s', er, hr, ar, br⟩ := j (v == 2)
      refine ⟨r, p', s', up ?_, hr, ar, br⟩
      simp only [spec_l1Cur_signs.l0, if_neg (show ¬ ((0 : Nat) : Int) > 0 by omega), e, Option.bind_some, if_neg c0, if_neg c1, if_pos c2]
      exact er
    by_cases c3 : v = 3
    · obtain ⟨r, p', s', er, hr, ar, br⟩ := j (v == 3)
      refine ⟨r, p', s', up ?_, hr, ar, br⟩
      simp only [spec_l1Cur_signs.l0, if_neg (show ¬ ((0 : Nat) : Int) > 0 by omega), e, Option.bind_some, if_neg c0, if_neg c1, if_neg c2, if_pos c3]
      exact er
    obtain ⟨r, p', s', er, hr, ar, br⟩ := j (v == 4)
    refine ⟨r, p', s', up ?_, hr, ar, br⟩
    simp only [spec_l1Cur_signs.l0, if_neg (show ¬ ((0 : Nat) : Int) > 0 by omega), e, Option.bind_some, if_neg c0, if_neg c1, if_neg c2, if_neg c3]
    exact er
  | succ d ih =>
    intro L p s hL h0 h1
    have hd : wrap64 (((d + 1 : Nat) : Int) - 1) = (d : Int) := by rw [wid (by omega) (by omega)]; omega
    obtain ⟨v, p1, s1, e, v0, v1, a, b⟩ := pick_ok hl p s 3 h0 (by omega)
    obtain ⟨r, p', s', er, hr, ar, br⟩ := ih (L ++ [wrap64 (v - 1)]) p1 s1 (by simp; omega) (by omega) (by omega)
    refine ⟨r, p', s', up ?_, hr, by omega, by omega⟩
    simp only [spec_l1Cur_signs.l0, if_pos (show ((d + 1 : Nat) : Int) > 0 by omega), e, Option.bind_some, if_pos (show L.length < 17592186044416 by omega), hd]
    exact er
theorem signs_ok {l : List Int} (hl : ∀ x ∈ l, (Lit.int .u8 x).wf = true) : ∃ r p' s', Ev (fun k => spec_l1Cur_signs.f k l 0 0) (r, p', s') ∧ r.length ≤ 60 ∧ 0 ≤ p' ∧ p' ≤ 1000 := by
  obtain ⟨w, p1, s1, e1, hw, a1, b1⟩ := among_ok hl 0 0 (by omega) (by omega) [4, 8, 16] (by simp)
  obtain ⟨v, p2, s2, e2, v0, v1, a2, b2⟩ := pick_ok hl p1 s1 w (by omega) (by omega)
  have hw2 : 1 ≤ w ∧ w ≤ 16 := by simp at hw; omega
  have v2 := v1 (by omega)
  obtain ⟨d, rfl⟩ := Int.eq_ofNat_of_zero_le v0
  obtain ⟨r, p', s', er, hr, ar, br⟩ := signs0_ok hl d [] p2 s2 (by simp; omega) (by omega) (by omega)
  refine ⟨r, p', s', ?_, hr, by omega, by omega⟩
  simp only [spec_l1Cur_signs.f, e1, Option.bind_some, e2]
  exact er
theorem rSame_loop (l : List Int) (hl : l.length ≤ 140737488351232) : ∀ (d : Nat) (i : Int), 0 ≤ i → i + d = l.length → Ev (fun k => laws_rSame.l0 k l l (l.length : Int) i) true := by
  intro d
  induction d with
  | zero =>
    intro i h0 h
    refine up ?_
    simp only [laws_rSame.l0, if_neg (show ¬ i < (l.length : Int) by omega)]
    exact Ev.now _
  | succ d ih =>
    intro i h0 h
    refine up ?_
    simp only [laws_rSame.l0, if_pos (show i < (l.length : Int) by omega), if_pos h0, if_true, wid (x := i + 1) (by omega) (by omega)]
    exact ih (i + 1) (by omega) (by omega)
theorem rSame_same (l : List Int) (hl : l.length ≤ 140737488351232) : Ev (fun k => laws_rSame.f k l l) true := by
  simp only [laws_rSame.f, if_true]
  exact rSame_loop l hl l.length 0 (by omega) (by omega)
theorem bt_at2 (s : ByteArray) (i : Nat) (h : i < s.size) : bt s (i : Int) = ((s.data[i]'h).toNat : Int) := by
  have := bt_at s (i : Int) (by simpa using h)
  rw [← this]; rfl
theorem bt_str (xs : List Int) (hx : ∀ x ∈ xs, 0 ≤ x ∧ x ≤ 255) (i : Nat) (hi : i < xs.length) : bt (strOfNums xs) (i : Int) = xs[i] := by
  have hs : i < (strOfNums xs).size := by rw [strOfNums_size]; exact hi
  rw [bt_at2 _ _ hs]
  have hb := hx _ (List.getElem_mem hi)
  simp [strOfNums, UInt8.toNat_ofNat]
  omega
theorem str_ext (s : ByteArray) (xs : List Int) (hl : xs.length = s.size) (h : ∀ i (hi : i < xs.length), bt s (i : Int) = xs[i]) : strOfNums xs = s := by
  apply ba_ext
  apply Array.ext
  · show (strOfNums xs).size = s.size
    rw [strOfNums_size, hl]
  · intro i h1 h2
    have h3 : i < xs.length := by rw [← strOfNums_size xs]; exact h1
    have e := h i h3
    rw [bt_at2 s i h2] at e
    simp only [strOfNums, List.getElem_toArray, List.getElem_map]
    rw [← e]
    simp
theorem signOf_range (d : Int) : 0 ≤ signOf d ∧ signOf d ≤ 255 := by have := signOf_mem d; omega
theorem one_list : (⟨#[61]⟩ : ByteArray).toList = ([61] : List UInt8) := by rw [ByteArray.toList_eq]
theorem one_of {s : ByteArray} (h : s.toList = ([61] : List UInt8)) : s = ⟨#[61]⟩ := by
  rw [ByteArray.toList_eq] at h
  exact ba_ext (Array.toList_inj.1 h)
/-- What is read of the end of a text. -/
def Inv (s : ByteArray) (acc : List Int) : Prop := (∀ x ∈ acc, x = -1 ∨ x = 0 ∨ x = 1) ∧ ∀ j (h : j < acc.length), bt s ((s.size - 1 - j : Nat) : Int) = signOf acc[j]
theorem Inv.snoc {s : ByteArray} {acc : List Int} {d : Nat} (h : Inv s acc) (hx : acc.length + (d + 1) = s.size) {x : Int} (hm : x = -1 ∨ x = 0 ∨ x = 1) (hb : bt s (d : Int) = signOf x) : Inv s (acc ++ [x]) := by
  refine ⟨fun y hy => ?_, fun j hj => ?_⟩
  · rcases List.mem_append.1 hy with h1 | h1
    · exact h.1 y h1
    · rw [List.mem_singleton.1 h1]; exact hm
  · by_cases c : j < acc.length
    · rw [List.getElem_append_left c]; exact h.2 j c
    · have : j = acc.length := by simp at hj; omega
      subst this
      rw [List.getElem_append_right (by omega)]
      simp only [Nat.sub_self, List.getElem_cons_zero]
      rw [← hb]
      congr 2
      omega
theorem Inv.text {s : ByteArray} {acc : List Int} (h : Inv s acc) (hl : acc.length = s.size) : strOfNums (acc.reverse.map signOf) = s := by
  refine str_ext s _ (by simp [hl]) fun i hi => ?_
  simp only [List.length_map, List.length_reverse] at hi
  have := h.2 (s.size - 1 - i) (by omega)
  simp only [List.getElem_map, List.getElem_reverse]
  have e : s.size - 1 - (s.size - 1 - i) = i := by omega
  rw [e] at this
  simp only [hl]
  exact this
theorem both_loop (s : ByteArray) (hs : s.size ≤ 1048576) : ∀ (d : Nat) (acc : List Int), d ≤ s.size → acc.length ≤ 24 → acc.length + d = s.size → 0 < s.size → Inv s acc → ∃ r b, r.length ≤ 24 ∧ (b = true → Inv s r ∧ r.length = s.size) ∧ Ev (fun k => spec_ParseSigned.l0 k s acc ((d : Int) - 1)) (r, b) ∧ Ev (fun k => impl_ParseSigned.l0 k s acc ((d : Int) - 1)) (r, b) := by
  intro d
  induction d with
  | zero =>
    intro acc hd ha hx h0 hv
    refine ⟨acc, true, ha, fun _ => ⟨hv, by omega⟩, up ?_, up ?_⟩
    · simp only [spec_ParseSigned.l0, spec_l1In.f]
      refine ⟨0, fun k _ => ?_⟩
      have e1 : (acc.length : Int) ≤ 24 := by omega
      have e2 : (acc.length : Int) ≥ 1 := by omega
      simp [e1, e2]
    · simp only [impl_ParseSigned.l0]
      refine ⟨0, fun k _ => ?_⟩
      have e2 : 0 < acc.length := by omega
      simp [e2]
  | succ d ih =>
    intro acc hd ha hx h0 hv
    have e0 : ((d + 1 : Nat) : Int) - 1 = d := by omega
    rw [e0]
    have hb := index3 (bt s d)
    by_cases hfull : acc.length = 24
    · refine ⟨[], false, by simp, fun h => (by cases h), ?_, ?_⟩
      · have := specLong s hs (d + 1) acc (by omega) (by omega) (by omega)
        rw [e0] at this; exact this
      · refine up ?_
        simp only [impl_ParseSigned.l0, if_pos (show (d : Int) ≥ 0 by omega), if_pos (show (0 : Int) ≤ (d : Int) by omega), if_pos (show (d : Int) < (s.size : Int) by omega)]
        refine Ev.bind hb ?_
        refine ⟨0, fun k _ => ?_⟩
        have hf : (acc.length : Int) = 24 := by omega
        simp only [hf, if_true, ite_self]
    · have hroom : ¬ (acc.length : Int) = 24 := by omega
      by_cases hbad : bt s d = 45 ∨ bt s d = 48 ∨ bt s d = 43
      · have key : ∃ x : Int, (if bt s d = 45 then (0 : Int) else if bt s d = 48 then 1 else if bt s d = 43 then 2 else -1) = x + 1 ∧ -1 ≤ x ∧ x ≤ 1 ∧ (bt s d = 45 ∧ x = -1 ∨ bt s d = 48 ∧ x = 0 ∨ bt s d = 43 ∧ x = 1) := by
          rcases hbad with h | h | h
          · exact ⟨-1, by simp [h]⟩
          · exact ⟨0, by simp [h]⟩
          · exact ⟨1, by simp [h]⟩
        obtain ⟨x, hx1, hx2, hx3, hx4⟩ := key
        have hv2 : Inv s (acc ++ [x]) := hv.snoc (d := d) (by omega) (by omega) (by rcases hx4 with ⟨h, rfl⟩ | ⟨h, rfl⟩ | ⟨h, rfl⟩ <;> rw [h] <;> rfl)
        obtain ⟨r, b, hr, hq, hsp, him⟩ := ih (acc ++ [x]) (by omega) (by simp; omega) (by simp; omega) h0 hv2
        refine ⟨r, b, hr, hq, up ?_, up ?_⟩
        · simp only [spec_ParseSigned.l0, if_pos (show (d : Int) ≥ 0 by omega), if_pos (show (0 : Int) ≤ (d : Int) by omega), if_pos (show (d : Int) < (s.size : Int) by omega), if_pos (show acc.length < 17592186044416 by omega), wid (x := (d : Int) - 1) (by omega) (by omega)]
          rcases hx4 with ⟨h, rfl⟩ | ⟨h, rfl⟩ | ⟨h, rfl⟩ <;> simp only [h, if_true, Int.reduceEq, if_false] <;> exact hsp
        · simp only [impl_ParseSigned.l0, if_pos (show (d : Int) ≥ 0 by omega), if_pos (show (0 : Int) ≤ (d : Int) by omega), if_pos (show (d : Int) < (s.size : Int) by omega), if_pos (show acc.length < 17592186044416 by omega), wid (x := (d : Int) - 1) (by omega) (by omega)]
          refine Ev.bind hb ?_
          rw [hx1]
          simp only [if_neg (show ¬ x + 1 < 0 by omega), hroom, if_false, Int.add_sub_cancel, wid (x := x) (by omega) (by omega)]
          exact him
      · have h1 : ¬ bt s d = 45 := fun h => hbad (.inl h)
        have h2 : ¬ bt s d = 48 := fun h => hbad (.inr (.inl h))
        have h3 : ¬ bt s d = 43 := fun h => hbad (.inr (.inr h))
        refine ⟨[], false, by simp, fun h => (by cases h), up ?_, up ?_⟩
        · simp only [spec_ParseSigned.l0, if_pos (show (d : Int) ≥ 0 by omega), if_pos (show (0 : Int) ≤ (d : Int) by omega), if_pos (show (d : Int) < (s.size : Int) by omega), h1, h2, h3, if_false]
          exact Ev.now _
        · simp only [impl_ParseSigned.l0, if_pos (show (d : Int) ≥ 0 by omega), if_pos (show (0 : Int) ≤ (d : Int) by omega), if_pos (show (d : Int) < (s.size : Int) by omega)]
          refine Ev.bind hb ?_
          simp only [h1, h2, h3, if_false]
          exact ⟨0, fun k _ => by simp⟩
theorem inv_signed {s : ByteArray} {r : List Int} (h : Inv s r) (hl : r.length ≤ 24) : signedB r = true := by
  unfold signedB
  simp only [Bool.and_eq_true, decide_eq_true_eq, List.all_eq_true]
  exact ⟨hl, fun x hx => by have := h.1 x hx; omega⟩
theorem both (s : ByteArray) (hs : s.size ≤ 1048576) : ∃ r b, r.length ≤ 24 ∧ (b = true → stext r = (s, true)) ∧ Ev (fun k => spec_ParseSigned.f k s) (r, b) ∧ Ev (fun k => impl_ParseSigned.f k s) (r, b) := by
  by_cases h : s.toList = ([61] : List UInt8)
  · refine ⟨[], true, by simp, fun _ => ?_, ?_, ?_⟩
    · rw [one_of h]; rfl
    · simp only [spec_ParseSigned.f, h, if_true]; exact Ev.now _
    · simp only [impl_ParseSigned.f, h, if_true]; exact Ev.now _
  · simp only [spec_ParseSigned.f, impl_ParseSigned.f, h, if_false, wid (x := (s.size : Int) - 1) (by omega) (by omega)]
    by_cases h0 : s.size = 0
    · refine ⟨[], false, by simp, fun h => (by cases h), up ?_, up ?_⟩
      · simp only [spec_ParseSigned.l0, h0, spec_l1In.f]; exact ⟨0, fun k _ => by simp⟩
      · simp only [impl_ParseSigned.l0, h0]; exact ⟨0, fun k _ => by simp⟩
    · obtain ⟨r, b, hr, hq, h1, h2⟩ := both_loop s hs s.size [] (Nat.le_refl _) (by simp) (by simp) (by omega) ⟨fun x hx => by simp at hx, fun j hj => by simp at hj⟩
      refine ⟨r, b, hr, fun hb => ?_, h1, h2⟩
      obtain ⟨q1, q2⟩ := hq hb
      unfold stext
      rw [if_pos (inv_signed q1 hr), if_neg (by omega), q1.text q2]
/-- A text of digits is read back. -/
theorem back_loop (l : List Int) (h24 : l.length ≤ 24) (h0 : 0 < l.length) (hz : ∀ d ∈ l, d = -1 ∨ d = 0 ∨ d = 1) : ∀ (d : Nat), d ≤ l.length → Ev (fun k => impl_ParseSigned.l0 k (strOfNums (l.reverse.map signOf)) (l.take (l.length - d)) ((d : Int) - 1)) (l, true) := by
  have hsz : (strOfNums (l.reverse.map signOf)).size = l.length := by rw [strOfNums_size]; simp
  intro d
  induction d with
  | zero =>
    intro _
    refine up ?_
    simp only [impl_ParseSigned.l0, Nat.sub_zero, List.take_length]
    refine ⟨0, fun k _ => ?_⟩
    simp [h0]
  | succ d ih =>
    intro hd
    have e0 : ((d + 1 : Nat) : Int) - 1 = d := by omega
    rw [e0]
    have hi : l.length - 1 - d < l.length := by omega
    have hbt : bt (strOfNums (l.reverse.map signOf)) (d : Int) = signOf (l[l.length - 1 - d]) := by
      rw [bt_str _ (fun x hx => by obtain ⟨y, _, rfl⟩ := List.mem_map.1 hx; exact signOf_range y) d (by simp; omega)]
      simp only [List.getElem_map, List.getElem_reverse]
    have hb := index3 (bt (strOfNums (l.reverse.map signOf)) d)
    have key : (if bt (strOfNums (l.reverse.map signOf)) d = 45 then (0 : Int) else if bt (strOfNums (l.reverse.map signOf)) d = 48 then 1 else if bt (strOfNums (l.reverse.map signOf)) d = 43 then 2 else -1) = l[l.length - 1 - d] + 1 := by
      rw [hbt]
      rcases hz _ (List.getElem_mem hi) with h | h | h <;> rw [h] <;> simp [signOf]
    have hr := hz _ (List.getElem_mem hi)
    have ht : l.take (l.length - (d + 1)) ++ [l[l.length - 1 - d]] = l.take (l.length - d) := by
      rw [show l.length - d = (l.length - (d + 1)) + 1 by omega, List.take_add_one, List.getElem?_eq_getElem (show l.length - (d + 1) < l.length by omega)]
      simp only [Option.toList_some]
      congr 3
      omega
    refine up ?_
    simp only [impl_ParseSigned.l0, if_pos (show (d : Int) ≥ 0 by omega), if_pos (show (0 : Int) ≤ (d : Int) by omega), hsz, if_pos (show (d : Int) < (l.length : Int) by omega), wid (x := (d : Int) - 1) (by omega) (by omega)]
    refine Ev.bind hb ?_
    rw [key]
    simp only [if_neg (show ¬ l[l.length - 1 - d] + 1 < 0 by omega), List.length_take, if_neg (show ¬ (((min (l.length - (d + 1)) l.length : Nat) : Int) = 24) by omega), if_pos (show min (l.length - (d + 1)) l.length < 17592186044416 by omega), Int.add_sub_cancel, wid (x := l[l.length - 1 - d]) (by omega) (by omega), ht]
    exact ih (by omega)
theorem back (l : List Int) (hs : signedB l = true) : Ev (fun k => impl_ParseSigned.f k (stext l).1) (l, true) := by
  have h24 := signedB_len hs
  have hz := digit_iff l (by have h2 := hs; unfold signedB at h2; rw [Bool.and_eq_true] at h2; exact h2.2)
  unfold stext
  rw [if_pos hs]
  by_cases h0 : l.length = 0
  · rw [if_pos h0, List.length_eq_zero_iff.1 h0]
    simp only [impl_ParseSigned.f]
    exact ⟨0, fun k _ => by simp only [if_pos one_list]⟩
  · rw [if_neg h0]
    have hsz : (strOfNums (l.reverse.map signOf)).size = l.length := by rw [strOfNums_size]; simp
    have hne : ¬ (strOfNums (l.reverse.map signOf)).toList = ([61] : List UInt8) := by
      intro hc
      have e : strOfNums (l.reverse.map signOf) = ⟨#[61]⟩ := one_of hc
      have hb := bt_str (l.reverse.map signOf) (fun x hx => by obtain ⟨y, _, rfl⟩ := List.mem_map.1 hx; exact signOf_range y) 0 (by simp; omega)
      rw [e] at hb
      have h61 : bt ⟨#[61]⟩ ((0 : Nat) : Int) = 61 := by decide
      rw [h61] at hb
      simp only [List.getElem_map] at hb
      have := signOf_mem (l.reverse[0]'(by simp; omega))
      omega
    simp only [impl_ParseSigned.f, if_neg hne, hsz, wid (x := (l.length : Int) - 1) (by omega) (by omega)]
    have := back_loop l h24 (by omega) hz l.length (Nat.le_refl _)
    rw [Nat.sub_self, List.take_zero] at this
    exact this
theorem pre_size {t : ByteArray} {m : Nat} (h : m ≤ t.size) : (t.extract 0 m).size = m := by rw [ByteArray.size_extract, Nat.sub_zero, Nat.min_eq_left h]
theorem suf_size (t : ByteArray) (m : Nat) : (t.extract m t.size).size = t.size - m := by rw [ByteArray.size_extract, Nat.min_self]
theorem spoil_arith {m q n : Nat} (hm : m < q) (ht : q + (n + 1) ≤ 1000) : m + 1 + (q - m) = q + 1 ∧ m + 1 + (q - (m + 1)) = q ∧ m + (q - (m + 1)) = q - 1 ∧ m + 1 ≤ 9223372036854775807 ∧ q + 1 ≤ 9223372036854775807 ∧ q ≤ 9223372036854775807 ∧ q - 1 ≤ 9223372036854775807 ∧ q + 1 + n ≤ 1000 ∧ q + n ≤ 1000 ∧ q - 1 + n ≤ 1000 ∧ q + 1 + n = q + (n + 1) ∧ q + n ≤ q + (n + 1) ∧ q - 1 + n ≤ q + (n + 1) := by omega
theorem spoil_loop {l : List Int} (hl : ∀ x ∈ l, (Lit.int .u8 x).wf = true) (w : ByteArray) (hw : w.size = 5) : ∀ (n : Nat) (t : ByteArray) (p s : Int), t.size + n ≤ 1000 → 0 ≤ p → p + 10 * n ≤ 1000000 → ∃ r p' s', Ev (fun k => spec_l1Cur_spoilt.l0 k t w n l p s) (r, p', s') ∧ r.size ≤ t.size + n := by
  intro n
  induction n with
  | zero =>
    intro t p s ht h0 h1
    refine ⟨t, p, s, up (up ?_), by omega⟩
    simp only [spec_l1Cur_spoilt.l0, if_neg (show ¬ ((0 : Nat) : Int) > 0 by omega), spec_l1Cur_spoilt.j1, Bool.false_eq_true, if_false]
    exact Ev.now _
  | succ n ih =>
    intro t p s ht h0 h1
    by_cases hz : (t.size : Int) > 0
    · obtain ⟨i, p1, s1, e1, i0, i1, a1, b1⟩ := pick_ok hl p s t.size h0 (by omega)
      obtain ⟨j, p2, s2, e2, j0, j1, a2, b2⟩ := pick_ok hl p1 s1 w.size (by omega) (by omega)
      obtain ⟨v, p3, s3, e3, _, _, a3, b3⟩ := pick_ok hl p2 s2 3 (by omega) (by omega)
      have i2 := i1 (by omega)
      have j2 := j1 (by omega)
      have hn : wrap64 (((n + 1 : Nat) : Int) - 1) = (n : Int) := by rw [wid (by omega) (by omega)]; omega
      obtain ⟨m, rfl⟩ := Int.eq_ofNat_of_zero_le i0
      have hm : m < t.size := by omega
      have w1 : wrap64 ((m : Int) + 1) = ((m + 1 : Nat) : Int) := by rw [wid (by omega) (by omega)]; omega
      have hp0 : 0 ≤ p3 := by clear i1 j1 ht hm hw; omega
      have hp1 : p3 + 10 * (n : Int) ≤ 1000000 := by clear i1 j1 ht hm hw; omega
      have z1 : (strOfNums [bt w j]).size = 1 := strOfNums_size _
      have z2 : (t.extract 0 m).size = m := pre_size (Nat.le_of_lt hm)
      have z3 : (t.extract m t.size).size = t.size - m := suf_size t m
      have z4 : (t.extract (m + 1) t.size).size = t.size - (m + 1) := suf_size t (m + 1)
      obtain ⟨m1, m2, m3, m4, m5, m6, m7, m8, m9, m10, m11, m12, m13⟩ := spoil_arith hm ht
      have y1 : ((t.extract 0 m ++ strOfNums [bt w j]) ++ t.extract m t.size).size = t.size + 1 := by rw [ByteArray.size_append, ByteArray.size_append, z1, z2, z3]; exact m1
      have y2 : ((t.extract 0 m ++ strOfNums [bt w j]) ++ t.extract (m + 1) t.size).size = t.size := by rw [ByteArray.size_append, ByteArray.size_append, z1, z2, z4]; exact m2
      have y3 : (t.extract 0 m ++ t.extract (m + 1) t.size).size = t.size - 1 := by rw [ByteArray.size_append, z2, z4]; exact m3
      have q1 : (t.extract 0 m).size + (strOfNums [bt w j]).size ≤ 9223372036854775807 := by rw [z1, z2]; exact m4
      have q2 : (t.extract 0 m ++ strOfNums [bt w j]).size + (t.extract m t.size).size ≤ 9223372036854775807 := by rw [← ByteArray.size_append, y1]; exact m5
      have q3 : (t.extract 0 m ++ strOfNums [bt w j]).size + (t.extract (m + 1) t.size).size ≤ 9223372036854775807 := by rw [← ByteArray.size_append, y2]; exact m6
      have q4 : (t.extract 0 m).size + (t.extract (m + 1) t.size).size ≤ 9223372036854775807 := by rw [← ByteArray.size_append, y3]; exact m7
      clear z1 z2 z3 z4
      have i3 : (m : Int) ≤ (t.size : Int) := Int.le_of_lt i2
      have i4 : (0 : Int) ≤ ((m + 1 : Nat) : Int) := Int.natCast_nonneg _
      have i5 : ((m + 1 : Nat) : Int) ≤ (t.size : Int) := Int.ofNat_le.2 hm
      have n0 : ((n + 1 : Nat) : Int) > 0 := Int.ofNat_lt.2 (Nat.succ_pos n)
      have ih2 := fun x hx => ih x p3 s3 hx hp0 hp1
      by_cases c0 : v = 0
      · obtain ⟨r, p', s', er, hr⟩ := ih2 ((t.extract 0 m ++ strOfNums [bt w j]) ++ t.extract m t.size) (by rw [y1]; exact m8)
        rw [y1] at hr
        refine ⟨r, p', s', up (up ?_), Nat.le_trans hr (Nat.le_of_eq m11)⟩
        simp only [spec_l1Cur_spoilt.l0, if_pos n0, decide_eq_true hz, spec_l1Cur_spoilt.j1, if_true, e1, e2, e3, Option.bind_some, if_pos j0, if_pos j2, if_pos c0, if_pos i0, if_pos i3, Int.toNat_natCast, if_pos q1, if_pos q2, hn]
        exact er
      by_cases c1 : v = 1
      · obtain ⟨r, p', s', er, hr⟩ := ih2 ((t.extract 0 m ++ strOfNums [bt w j]) ++ t.extract (m + 1) t.size) (by rw [y2]; exact m9)
        rw [y2] at hr
        refine ⟨r, p', s', up (up ?_), Nat.le_trans hr m12⟩
        simp only [spec_l1Cur_spoilt.l0, if_pos n0, decide_eq_true hz, spec_l1Cur_spoilt.j1, if_true, e1, e2, e3, Option.bind_some, if_pos j0, if_pos j2, if_neg c0, if_pos c1, if_pos i0, if_pos i3, w1, if_pos i4, if_pos i5, Int.toNat_natCast, if_pos q1, if_pos q3, hn]
        exact er
      · obtain ⟨r, p', s', er, hr⟩ := ih2 (t.extract 0 m ++ t.extract (m + 1) t.size) (by rw [y3]; exact m10)
        rw [y3] at hr
        refine ⟨r, p', s', up (up ?_), Nat.le_trans hr m13⟩
        simp only [spec_l1Cur_spoilt.l0, if_pos n0, decide_eq_true hz, spec_l1Cur_spoilt.j1, if_true, e1, e2, e3, Option.bind_some, if_pos j0, if_pos j2, if_neg c0, if_neg c1, if_pos i0, if_pos i3, w1, if_pos i4, if_pos i5, Int.toNat_natCast, if_pos q4, hn]
        exact er
    · refine ⟨t, p, s, up (up ?_), by omega⟩
      simp only [spec_l1Cur_spoilt.l0, if_pos (show ((n + 1 : Nat) : Int) > 0 by omega), decide_eq_false hz, spec_l1Cur_spoilt.j1, Bool.false_eq_true, if_false]
      exact Ev.now _
theorem stext_size (l : List Int) (hl : l.length ≤ 60) : (stext l).1.size ≤ 60 := by
  unfold stext
  split
  · split
    · exact (by decide : (1 : Nat) ≤ 60)
    · simp only [strOfNums_size, List.length_map, List.length_reverse]; exact hl
  · exact (by decide : (0 : Nat) ≤ 60)
theorem drawText {l : List Int} (hl : ∀ x ∈ l, (Lit.int .u8 x).wf = true) : ∃ t, Ev (fun k => spec_DrawParseSigned.f k l) t ∧ t.size ≤ 1048576 := by
  obtain ⟨r, p1, s1, e, hr, a, b⟩ := signs_ok hl
  have hz := stext_size r hr
  obtain ⟨v, p2, s2, e2, a2, b2⟩ := one_ok hl p1 s1 4 a (by omega)
  by_cases c : v = true
  · obtain ⟨u, p3, s3, e3, u0, u1, a3, b3⟩ := pick_ok hl p2 s2 2 (by omega) (by omega)
    have u2 := u1 (by omega)
    obtain ⟨n, rfl⟩ := Int.eq_ofNat_of_zero_le u0
    have z : ((stext r).1 ++ (⟨#[48]⟩ : ByteArray)).size = (stext r).1.size + 1 := by rw [ByteArray.size_append]; rfl
    obtain ⟨t, p', s', et, ht⟩ := spoil_loop hl (⟨#[43, 45, 48, 61, 32]⟩ : ByteArray) (by decide) (1 + n) ((stext r).1 ++ (⟨#[48]⟩ : ByteArray)) p3 s3 (by omega) (by omega) (by omega)
    have hw : wrap64 (1 + (n : Int)) = ((1 + n : Nat) : Int) := by rw [wid (by omega) (by omega)]; omega
    refine ⟨t, ?_, by omega⟩
    simp only [spec_DrawParseSigned.f]
    refine Ev.bind e ?_
    refine Ev.bind (specText r (by omega)) ?_
    simp only [e2, Option.bind_some, if_pos c, if_pos (show (stext r).1.size + 1 ≤ 9223372036854775807 by omega)]
    refine Ev.bind (a := (t, p', s')) ?_ (Ev.now _)
    simp only [spec_l1Cur_spoilt.f, e3, Option.bind_some, hw]
    exact et
  · refine ⟨(stext r).1, ?_, by omega⟩
    simp only [spec_DrawParseSigned.f]
    refine Ev.bind e ?_
    refine Ev.bind (specText r (by omega)) ?_
    simp only [e2, Option.bind_some, if_neg c]
    exact Ev.now _
theorem part2 {l : List Int} (hl : ∀ x ∈ l, (Lit.int .u8 x).wf = true) : Ev (fun k => laws_FnSignedTexts.j1 k l) true := by
  obtain ⟨t, ht, hz⟩ := drawText hl
  obtain ⟨r, b, hr, hq, h1, h2⟩ := both t hz
  refine up ?_
  simp only [laws_FnSignedTexts.j1]
  refine Ev.bind ht ?_
  refine Ev.bind h2 ?_
  refine Ev.bind h1 ?_
  simp only [bne_self_eq_false, Bool.false_eq_true, if_false]
  refine Ev.bind (rSame_same r (by omega)) ?_
  refine up ?_
  simp only [laws_FnSignedTexts.j2, Bool.not_true, Bool.false_eq_true, if_false]
  cases b with
  | false => simp only [Bool.false_eq_true, if_false]; exact Ev.now _
  | true =>
    simp only [if_true, implText r (by omega), hq rfl, Option.bind_some, beq_self_eq_true]
    exact Ev.now _
theorem main : laws_FnSignedTexts.Pure := by
  intro l0 l1 _ _ hw0 _ _ hw1
  refine Ev.rounds ?_
  simp only [laws_FnSignedTexts.f]
  have hb : ∃ b, laws_big.f l0 l1 = some b := by
    unfold laws_big.f
    split <;> exact ⟨_, rfl⟩
  obtain ⟨b, hb⟩ := hb
  simp only [hb, Option.bind_some]
  cases b with
  | true => simp only [if_true]; exact Ev.now _
  | false =>
    simp only [Bool.false_eq_true, if_false]
    obtain ⟨r, p1, s1, e, hr, _, _⟩ := signs_ok hw0
    refine Ev.bind (a := r) ?_ ?_
    · simp only [spec_DrawSignedText.f, spec_DrawFromSigned.f]
      refine Ev.bind (a := r) ?_ (Ev.now _)
      exact Ev.bind e (Ev.now _)
    simp only [implText r (by omega), Option.bind_some]
    refine Ev.bind (specText r (by omega)) ?_
    simp only [bne_self_eq_false, Bool.false_eq_true, if_false]
    refine up ?_
    simp only [laws_FnSignedTexts.j0, Bool.false_eq_true, if_false]
    by_cases hs : signedB r = true
    · have h2 : (stext r).2 = true := by unfold stext; rw [if_pos hs]; split <;> rfl
      simp only [h2, if_true]
      refine Ev.bind (back r hs) ?_
      simp only [if_true]
      refine Ev.bind (rSame_same r (by omega)) ?_
      simp only [if_true]
      exact part2 hw1
    · have h2 : (stext r).2 = false := by unfold stext; rw [if_neg hs]
      simp only [h2, Bool.false_eq_true, if_false]
      exact part2 hw1
end Go.Proofs.Ytafnnnpcochnnaa.PureFnSignedTextsL
namespace Go.Proofs.Ytafnnnpcochnnaa.Pure
open Go.Proofs.Ytafnnnpcochnnaa.PFnSignedTexts
theorem FnSignedTexts : laws_FnSignedTexts.Pure := PureFnSignedTextsL.main
end Go.Proofs.Ytafnnnpcochnnaa.Pure
