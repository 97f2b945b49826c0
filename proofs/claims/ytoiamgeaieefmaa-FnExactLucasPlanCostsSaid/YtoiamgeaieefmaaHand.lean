/- Helpers for contracts that are written by hand: what a slice that came in is, to the library's contracts. -/
import Derived.Test.YtoiamgeaieefmaaWMore
import Derived.Test.YtoiamgeaieefmaaShelf
import Derived.Lib.Hide
namespace Go.Proofs.YtoiamgeaieefmaaHand
open Go.RowKit Go.Shelf Go.Proofs.YtoiamgeaieefmaaW.PrintWords Go.Proofs.YtoiamgeaieefmaaW.PrintLast Go.Proofs.YtoiamgeaieefmaaW.PrintMore
theorem spot_none {w : World} {a : Addr} {v : Value} (h : w.cell? a = some v) : a.spot = none := by
  unfold World.cell? at h
  split at h
  · split at h
    · cases h
    · rename_i hs; cases hsp : a.spot with
      | none => rfl
      | some x => rw [hsp] at hs; exact absurd rfl hs
  · cases h
theorem add_plain (b off j : Nat) : Addr.add ⟨b, off, none⟩ j = ⟨b, off + j, none⟩ := by
  unfold Addr.add
  split
  · rename_i h; subst h; rfl
  · rfl
/-- A slice of whole numbers that came in: it is empty, or it lies at a plain address. -/
theorem int_slice {k : IntKind} {w : World} {A : Option Addr} {xs : List Int} (h : Kd.C (Kd.int k) w A xs.length xs) :
    xs = [] ∨ ∃ b off, A = some ⟨b, off, none⟩ ∧ 0 < xs.length ∧ ∀ j, j < xs.length → w.cell? ⟨b, off + j, none⟩ = some (.int k (xs.getD j 0)) := by
  rcases Nat.eq_zero_or_pos xs.length with h0 | h0
  · exact .inl (List.eq_nil_of_length_eq_zero h0)
  · obtain ⟨ad, rfl, hc⟩ := Kd.at_int h 0 (by omega) (by omega)
    have hs : ad.spot = none := by have := spot_none hc; simpa [Addr.add] using this
    obtain ⟨b, off, sp⟩ := ad
    simp only at hs
    subst hs
    refine .inr ⟨b, off, rfl, h0, fun j hj => ?_⟩
    obtain ⟨ad2, e, hc2⟩ := Kd.at_int h (j : Int) (by omega) (by omega)
    injection e with e
    subst e
    unfold rd at hc2
    rw [Int.toNat_natCast, add_plain] at hc2
    exact hc2
theorem int_len {k : IntKind} {w : World} {A : Option Addr} {xs : List Int} (h : Kd.C (Kd.int k) w A xs.length xs) : xs.length ≤ 9223372036854775807 := h.2.1
theorem getD_bang (xs : List Int) (j : Nat) : xs.getD j 0 = xs[j]! := by
  rw [List.getD_eq_getElem?_getD, List.getElem!_eq_getElem?_getD]; rfl
theorem drawn_of {w w' : World} (h : ∃ q, w' = w.drewN q) : Drawn0 w w' := ⟨h⟩
theorem of_drawn {w w' : World} (h : Drawn0 w w') : ∃ q, w' = w.drewN q := h.out
end Go.Proofs.YtoiamgeaieefmaaHand
