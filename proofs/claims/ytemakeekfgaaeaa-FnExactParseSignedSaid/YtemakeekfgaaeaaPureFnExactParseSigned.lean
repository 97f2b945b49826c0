/- The program's ParseSigned returns what the reference's ParseSigned returns, for all strings (of at most 2^20 bytes, as the statement itself says; nothing else is asked). -/
import Derived.Test.YtemakeekfgaaeaaPFnExactParseSignedx1
import Derived.Test.YtemakeekfgaaeaaPFnExactParseSignedx2
set_option linter.unusedVariables false
set_option linter.unusedSimpArgs false
namespace Go.Proofs.Ytemakeekfgaaeaa.PureFnExactParseSignedL
open Go.RowKit Go.Proofs.Ytemakeekfgaaeaa.PFnExactParseSigned Go.Proofs.YtemakeekfgaaeaaW.PrintWords Go.Proofs.YtemakeekfgaaeaaW.PrintLast Go.Proofs.YtemakeekfgaaeaaW.PrintMore
theorem up {α : Type} {g : Nat → Option α} {r : α} (h : Ev (fun k => g (k + 1)) r) : Ev g r := by
  obtain ⟨K, h⟩ := h
  refine ⟨K + 1, fun k hk => ?_⟩
  obtain ⟨m, rfl⟩ : ∃ m, k = m + 1 := ⟨k - 1, by omega⟩
  exact h m (by omega)
theorem wid {x : Int} (h0 : -9223372036854775808 ≤ x) (h1 : x ≤ 9223372036854775807) : wrap64 x = x := by unfold wrap64; omega
theorem ite_yes {α : Type} {c : Prop} [Decidable c] {a b : α} (h : c) : (if c then a else b) = a := if_pos h
theorem ite_no {α : Type} {c : Prop} [Decidable c] {a b : α} (h : ¬ c) : (if c then a else b) = b := if_neg h
theorem evsome {α β : Type} {x : Option α} {a : α} {f : Nat → α → Option β} {r : β} (hx : x = some a) (h : Ev (fun k => f k a) r) : Ev (fun k => x.bind (f k)) r := by subst hx; exact h
theorem if_pos_ev {α : Type} {c : Prop} [Decidable c] {f g : Nat → Option α} (h : c) : (fun k => if c then f k else g k) = f := funext fun k => if_pos h
theorem if_neg_ev {α : Type} {c : Prop} [Decidable c] {f g : Nat → Option α} (h : ¬ c) : (fun k => if c then f k else g k) = g := funext fun k => if_neg h
theorem eqIntS_loop (l : List Int) (hl : l.length ≤ 140737488351232) : ∀ (d : Nat) (i : Int), 0 ≤ i → i + d = l.length → Ev (fun k => laws_eqIntS.l0 k l l i) true := by
  intro d
  induction d with
  | zero =>
    intro i h0 h
    refine up ?_
    simp only [laws_eqIntS.l0, if_neg (show ¬ i < (l.length : Int) by omega)]
    exact Ev.now _
  | succ d ih =>
    intro i h0 h
    refine up ?_
    simp only [laws_eqIntS.l0, if_pos (show i < (l.length : Int) by omega), if_pos h0, if_true, wid (x := i + 1) (by omega) (by omega)]
    exact ih (i + 1) (by omega) (by omega)
theorem eqIntS_same (l : List Int) (hl : l.length ≤ 140737488351232) : Ev (fun k => laws_eqIntS.f k l l) true := by
  simp only [laws_eqIntS.f, if_true]
  exact eqIntS_loop l hl l.length 0 (by omega) (by omega)
def marks : Int → Nat → List Int
  | _, 0 => []
  | a, n + 1 => a :: marks (a + 1) n
theorem mark_loop : ∀ (rest done : List Int) (a : Int), done.length + rest.length ≤ 140737488351232 → 0 ≤ a → a ≤ 140737488351232 →
    Ev (fun k => laws_markIntS.l0 k (done ++ rest) (a + done.length) done.length) (a + done.length + rest.length, done ++ marks (a + done.length) rest.length) := by
  intro rest
  induction rest with
  | nil =>
    intro done a h h0 h1
    refine up ?_
    simp only [laws_markIntS.l0, List.append_nil, if_neg (show ¬ (done.length : Int) < (done.length : Int) by omega), List.length_nil, marks]
    exact ⟨0, fun _ _ => by simp⟩
  | cons x rest ih =>
    intro done a h h0 h1
    simp only [List.length_cons] at h
    refine up ?_
    have e : (done ++ x :: rest).set ((done.length : Int)).toNat (a + done.length) = (done ++ [a + done.length]) ++ rest := by
      rw [Int.toNat_natCast, List.set_append_right _ _ (Nat.le_refl _)]; simp
    simp only [laws_markIntS.l0, if_pos (show (done.length : Int) < ((done ++ x :: rest).length : Int) by simp; omega), if_pos (show (0 : Int) ≤ (done.length : Int) by omega), e, wid (x := a + done.length + 1) (by omega) (by omega), wid (x := (done.length : Int) + 1) (by omega) (by omega)]
    have := ih (done ++ [a + done.length]) a (by simp; omega) h0 h1
    simp only [List.length_append, List.length_singleton, List.append_assoc, List.singleton_append, Int.natCast_add, Int.natCast_one] at this
    simp only [List.append_assoc, List.singleton_append, List.length_cons, marks, Int.natCast_add, Int.natCast_one]
    rw [show a + (done.length : Int) + ((rest.length : Int) + 1) = a + ((done.length : Int) + 1) + rest.length by omega, show a + (done.length : Int) + 1 = a + ((done.length : Int) + 1) by omega]
    exact this
theorem mark_all (l : List Int) (hl : l.length ≤ 140737488351232) : Ev (fun k => laws_markIntS.f k l 1) (1 + l.length, marks 1 l.length) := by
  have := mark_loop l [] 1 (by simpa using hl) (by omega) (by omega)
  simpa [laws_markIntS.f] using this
theorem marks_length (a : Int) (n : Nat) : (marks a n).length = n := by
  induction n generalizing a with
  | zero => rfl
  | succ n ih => simp [marks, ih]
theorem held_loop : ∀ (n : Nat) (done : List Int) (a : Int), done.length + n ≤ 140737488351232 → 0 ≤ a → a ≤ 140737488351232 →
    Ev (fun k => laws_heldIntS.l0 k (done ++ marks (a + done.length) n) (a + done.length) done.length) (a + done.length + n) := by
  intro n
  induction n with
  | zero =>
    intro done a h h0 h1
    refine up ?_
    simp only [laws_heldIntS.l0, marks, List.append_nil, if_neg (show ¬ (done.length : Int) < (done.length : Int) by omega)]
    exact ⟨0, fun _ _ => by simp⟩
  | succ n ih =>
    intro done a h h0 h1
    refine up ?_
    have e : rd (done ++ marks (a + done.length) (n + 1)) (done.length : Int) = a + done.length := by
      unfold rd; rw [Int.toNat_natCast]; simp [marks]
    simp only [laws_heldIntS.l0, if_pos (show (done.length : Int) < ((done ++ marks (a + done.length) (n + 1)).length : Int) by simp [marks_length]; omega), if_pos (show (0 : Int) ≤ (done.length : Int) by omega), e, if_true, wid (x := a + done.length + 1) (by omega) (by omega), wid (x := (done.length : Int) + 1) (by omega) (by omega)]
    have := ih (done ++ [a + done.length]) a (by simp; omega) h0 h1
    simp only [List.length_append, List.length_singleton, List.append_assoc, List.singleton_append, Int.natCast_add, Int.natCast_one] at this
    simp only [marks, Int.natCast_add, Int.natCast_one]
    rw [show a + (done.length : Int) + ((n : Int) + 1) = a + ((done.length : Int) + 1) + n by omega, show a + (done.length : Int) + 1 = a + ((done.length : Int) + 1) by omega]
    exact this
theorem held_all (n : Nat) (hl : n ≤ 140737488351232) : Ev (fun k => laws_heldIntS.f k (marks 1 n) 1) (1 + n) := by
  have := held_loop n [] 1 (by simpa using hl) (by omega) (by omega)
  simpa [laws_heldIntS.f] using this
theorem index3 (c : Int) : Ev (fun k => slices_Index_byte_byte.f k [45, 48, 43] c) (if c = 45 then 0 else if c = 48 then 1 else if c = 43 then 2 else -1) := by
  have w1 : wrap64 (1 : Int) = 1 := wid (by decide) (by decide)
  have w2 : wrap64 (2 : Int) = 2 := wid (by decide) (by decide)
  have w3 : wrap64 (3 : Int) = 3 := wid (by decide) (by decide)
  simp only [slices_Index_byte_byte.f]
  refine up ?_
  by_cases h1 : c = 45
  · simp only [slices_Index_byte_byte.l0, h1]; exact ⟨0, fun k _ => by simp [rd]⟩
  refine up ?_
  by_cases h2 : c = 48
  · simp only [slices_Index_byte_byte.l0, h2]; exact ⟨0, fun k _ => by simp [rd, w1]⟩
  refine up ?_
  by_cases h3 : c = 43
  · simp only [slices_Index_byte_byte.l0, h3]; exact ⟨0, fun k _ => by simp [rd, w1, w2]⟩
  refine up ?_
  simp only [slices_Index_byte_byte.l0]
  exact ⟨0, fun k _ => by simp [rd, w1, w2, w3, h1, h2, h3]⟩
theorem specLong (s : ByteArray) (hs : s.size ≤ 1048576) : ∀ (d : Nat) (acc : List Int), d ≤ s.size → 24 < acc.length + d → acc.length + d ≤ s.size → Ev (fun k => spec_ParseSigned.l0 k s acc ((d : Int) - 1)) (([] : List Int), false) := by
  intro d
  induction d with
  | zero =>
    intro acc hd h h2
    refine up ?_
    simp only [spec_ParseSigned.l0, spec_l1In.f]
    refine ⟨0, fun k _ => ?_⟩
    have e1 : ¬ ((acc.length : Int) ≤ 24) := by omega
    by_cases e2 : (acc.length : Int) ≥ 1 <;> simp [e1, e2]
  | succ d ih =>
    intro acc hd h h2
    have e0 : ((d + 1 : Nat) : Int) - 1 = d := by omega
    refine up ?_
    simp only [spec_ParseSigned.l0, e0, if_pos (show (d : Int) ≥ 0 by omega), if_pos (show (0 : Int) ≤ (d : Int) by omega), if_pos (show (d : Int) < (s.size : Int) by omega), if_pos (show acc.length < 17592186044416 by omega), wid (x := (d : Int) - 1) (by omega) (by omega)]
    by_cases h1 : bt s d = 45
    · simp only [h1, if_true]; exact ih (acc ++ [-1]) (by omega) (by simp; omega) (by simp; omega)
    by_cases h2 : bt s d = 48
    · simp only [h2, if_true]; exact ih (acc ++ [0]) (by omega) (by simp; omega) (by simp; omega)
    by_cases h3 : bt s d = 43
    · simp only [h3, if_true]; exact ih (acc ++ [1]) (by omega) (by simp; omega) (by simp; omega)
    simp only [h1, h2, h3, if_false]
    exact Ev.now _
theorem both_loop (s : ByteArray) (hs : s.size ≤ 1048576) : ∀ (d : Nat) (acc : List Int), d ≤ s.size → acc.length ≤ 24 → acc.length + d = s.size → 0 < s.size → ∃ r b, r.length ≤ 24 ∧ Ev (fun k => spec_ParseSigned.l0 k s acc ((d : Int) - 1)) (r, b) ∧ Ev (fun k => impl_ParseSigned.l0 k s acc ((d : Int) - 1)) (r, b) := by
  intro d
  induction d with
  | zero =>
    intro acc hd ha hx h0
    refine ⟨acc, true, ha, up ?_, up ?_⟩
    · simp only [spec_ParseSigned.l0, spec_l1In.f]
      refine ⟨0, fun k _ => ?_⟩
      have e1 : (acc.length : Int) ≤ 24 := by omega
      have e2 : (acc.length : Int) ≥ 1 := by omega
      simp [e1, e2]
    · simp only [impl_ParseSigned.l0]
      refine ⟨0, fun k _ => ?_⟩
      have e2 : 0 < acc.length := by omega
      simp [e2]
  | succ d ih =>
    intro acc hd ha hx h0
    have e0 : ((d + 1 : Nat) : Int) - 1 = d := by omega
    rw [e0]
    have hb := index3 (bt s d)
    by_cases hfull : acc.length = 24
    · -- one digit too many, or a wrong sign
      refine ⟨[], false, by simp, ?_, ?_⟩
      · have := specLong s hs (d + 1) acc (by omega) (by omega) (by omega)
        rw [e0] at this; exact this
      · refine up ?_
        simp only [impl_ParseSigned.l0, if_pos (show (d : Int) ≥ 0 by omega), if_pos (show (0 : Int) ≤ (d : Int) by omega), if_pos (show (d : Int) < (s.size : Int) by omega)]
        refine Ev.bind hb ?_
        refine ⟨0, fun k _ => ?_⟩
        have hf : (acc.length : Int) = 24 := by omega
        simp only [hf, if_true, ite_self]
    · have hroom : ¬ (acc.length : Int) = 24 := by omega
      by_cases hbad : bt s d = 45 ∨ bt s d = 48 ∨ bt s d = 43
      · have key : ∃ x : Int, (if bt s d = 45 then (0 : Int) else if bt s d = 48 then 1 else if bt s d = 43 then 2 else -1) = x + 1 ∧ -1 ≤ x ∧ x ≤ 1 ∧ (bt s d = 45 ∧ x = -1 ∨ bt s d = 48 ∧ x = 0 ∨ bt s d = 43 ∧ x = 1) := by
          rcases hbad with h | h | h
          · exact ⟨-1, by simp [h]⟩
          · exact ⟨0, by simp [h]⟩
          · exact ⟨1, by simp [h]⟩
        obtain ⟨x, hx1, hx2, hx3, hx4⟩ := key
        obtain ⟨r, b, hr, hsp, him⟩ := ih (acc ++ [x]) (by omega) (by simp; omega) (by simp; omega) h0
        refine ⟨r, b, hr, up ?_, up ?_⟩
        · simp only [spec_ParseSigned.l0, if_pos (show (d : Int) ≥ 0 by omega), if_pos (show (0 : Int) ≤ (d : Int) by omega), if_pos (show (d : Int) < (s.size : Int) by omega), if_pos (show acc.length < 17592186044416 by omega), wid (x := (d : Int) - 1) (by omega) (by omega)]
          rcases hx4 with ⟨h, rfl⟩ | ⟨h, rfl⟩ | ⟨h, rfl⟩ <;> simp only [h, if_true, Int.reduceEq, if_false] <;> exact hsp
        · simp only [impl_ParseSigned.l0, if_pos (show (d : Int) ≥ 0 by omega), if_pos (show (0 : Int) ≤ (d : Int) by omega), if_pos (show (d : Int) < (s.size : Int) by omega), if_pos (show acc.length < 17592186044416 by omega), wid (x := (d : Int) - 1) (by omega) (by omega)]
          refine Ev.bind hb ?_
          rw [hx1]
          simp only [if_neg (show ¬ x + 1 < 0 by omega), hroom, if_false, Int.add_sub_cancel, wid (x := x) (by omega) (by omega)]
          exact him
      · have h1 : ¬ bt s d = 45 := fun h => hbad (.inl h)
        have h2 : ¬ bt s d = 48 := fun h => hbad (.inr (.inl h))
        have h3 : ¬ bt s d = 43 := fun h => hbad (.inr (.inr h))
        refine ⟨[], false, by simp, up ?_, up ?_⟩
        · simp only [spec_ParseSigned.l0, if_pos (show (d : Int) ≥ 0 by omega), if_pos (show (0 : Int) ≤ (d : Int) by omega), if_pos (show (d : Int) < (s.size : Int) by omega), h1, h2, h3, if_false]
          exact Ev.now _
        · simp only [impl_ParseSigned.l0, if_pos (show (d : Int) ≥ 0 by omega), if_pos (show (0 : Int) ≤ (d : Int) by omega), if_pos (show (d : Int) < (s.size : Int) by omega)]
          refine Ev.bind hb ?_
          simp only [h1, h2, h3, if_false]
          exact ⟨0, fun k _ => by simp⟩
theorem both (s : ByteArray) (hs : s.size ≤ 1048576) : ∃ r b, r.length ≤ 140737488351232 ∧ Ev (fun k => spec_ParseSigned.f k s) (r, b) ∧ Ev (fun k => impl_ParseSigned.f k s) (r, b) := by
  by_cases h : s.toList = ([61] : List UInt8)
  · refine ⟨[], true, by simp, ?_, ?_⟩
    · simp only [spec_ParseSigned.f, h, if_true]; exact Ev.now _
    · simp only [impl_ParseSigned.f, h, if_true]; exact Ev.now _
  · simp only [spec_ParseSigned.f, impl_ParseSigned.f, h, if_false, wid (x := (s.size : Int) - 1) (by omega) (by omega)]
    by_cases h0 : s.size = 0
    · refine ⟨[], false, by simp, up ?_, up ?_⟩
      · simp only [spec_ParseSigned.l0, h0, spec_l1In.f]; exact ⟨0, fun k _ => by simp⟩
      · simp only [impl_ParseSigned.l0, h0]; exact ⟨0, fun k _ => by simp⟩
    · obtain ⟨r, b, hr, h1, h2⟩ := both_loop s hs s.size [] (Nat.le_refl _) (by simp) (by simp) (by omega)
      exact ⟨r, b, by omega, h1, h2⟩
theorem main : laws_FnExactParseSigned.Pure := by
  intro a0 _
  by_cases hbig : (a0.size : Int) > 1048576
  · exact ⟨0, by simp only [laws_FnExactParseSigned.f, if_pos hbig]⟩
  obtain ⟨r, b, hl, hs, hi⟩ := both a0 (by omega)
  refine Ev.rounds ?_
  simp only [laws_FnExactParseSigned.f, if_neg hbig]
  refine Ev.bind hs ?_
  refine Ev.bind hi ?_
  refine Ev.bind (eqIntS_same r hl) ?_
  simp only [if_true]
  refine up ?_
  simp only [laws_FnExactParseSigned.j0, bne_self_eq_false, Bool.false_eq_true, if_false]
  refine Ev.bind (mark_all r hl) ?_
  refine Ev.bind (held_all r.length hl) ?_
  simp only [if_neg (show ¬ (1 + (r.length : Int)) < 0 by omega), if_true]
  refine Ev.bind hi ?_
  refine Ev.bind (eqIntS_same r hl) ?_
  simp only [if_true]
  refine up ?_
  simp only [laws_FnExactParseSigned.j1, bne_self_eq_false, Bool.false_eq_true, if_false]
  refine Ev.bind (held_all r.length hl) ?_
  simp only [if_neg (show ¬ (1 + (r.length : Int)) < 0 by omega), if_true]
  exact Ev.now _
end Go.Proofs.Ytemakeekfgaaeaa.PureFnExactParseSignedL
namespace Go.Proofs.Ytemakeekfgaaeaa.Pure
open Go.Proofs.Ytemakeekfgaaeaa.PFnExactParseSigned
theorem FnExactParseSigned : laws_FnExactParseSigned.Pure := PureFnExactParseSignedL.main
end Go.Proofs.Ytemakeekfgaaeaa.Pure
