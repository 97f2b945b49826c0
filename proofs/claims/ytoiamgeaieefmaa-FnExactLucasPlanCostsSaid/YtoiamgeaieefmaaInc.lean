/- impl.increasing: numbers, each once, in order: what the program's function leaves of a row of the call's own, and what that is. -/
import Derived.Test.YtoiamgeaieefmaaHand
import Derived.Lib.OwnBridge
import Derived.Sort.OwnSortedInts
namespace Go.Proofs.YtoiamgeaieefmaaInc
open Go.RowKit Go.Shelf Go.Proofs.YtoiamgeaieefmaaW.PrintWords Go.Proofs.YtoiamgeaieefmaaW.PrintLast Go.Proofs.YtoiamgeaieefmaaW.PrintMore
def incOf (xs : List Int) : List Int := Lib.compact (xs.mergeSort fun x y => decide (x ≤ y))
theorem comp_facts (d : Array Int) (n : Nat) (hs : ∀ i j, i < j → j < n → d[i]! ≤ d[j]!) : ∀ m, m ≤ n → (∀ x, x ∈ Lib.compactUpTo d m ↔ ∃ j, j < m ∧ d[j]! = x) ∧ (Lib.compactUpTo d m).Pairwise (· < ·) := by
  intro m
  induction m with
  | zero => intro _; exact ⟨fun x => by simp [Lib.compactUpTo], by simp [Lib.compactUpTo]⟩
  | succ m ih =>
    intro hm
    obtain ⟨h1, h2⟩ := ih (by omega)
    rw [Lib.compactUpTo_succ]
    cases hk : Lib.keeps d m with
    | true =>
      simp only [if_true]
      refine ⟨fun x => ?_, ?_⟩
      · rw [List.mem_append, h1, List.mem_singleton]
        constructor
        · rintro (⟨j, hj, e⟩ | rfl)
          · exact ⟨j, by omega, e⟩
          · exact ⟨m, by omega, rfl⟩
        · rintro ⟨j, hj, e⟩
          by_cases e2 : j = m
          · subst e2; exact .inr e.symm
          · exact .inl ⟨j, by omega, e⟩
      · rw [List.pairwise_append]
        refine ⟨h2, by simp, fun a ha b hb => ?_⟩
        obtain ⟨j, hj, rfl⟩ := (h1 a).1 ha
        rw [List.mem_singleton] at hb
        subst hb
        have hne : d[m]! ≠ d[m - 1]! := by
          intro e
          rw [Lib.keeps_neg (by omega) e] at hk
          cases hk
        have h3 := hs (m - 1) m (by omega) (by omega)
        by_cases e : j = m - 1
        · subst e; omega
        · have := hs j (m - 1) (by omega) (by omega)
          omega
    | false =>
      simp only [Bool.false_eq_true, if_false, List.append_nil]
      refine ⟨fun x => ?_, h2⟩
      rw [h1]
      constructor
      · rintro ⟨j, hj, e⟩; exact ⟨j, by omega, e⟩
      · rintro ⟨j, hj, e⟩
        by_cases e2 : j = m
        · subst e2
          unfold Lib.keeps at hk
          have hk := of_decide_eq_false hk
          have hj0 : j ≠ 0 := fun h => hk (.inl h)
          have hj1 : d[j]! = d[j - 1]! := Classical.byContradiction fun h => hk (.inr h)
          exact ⟨j - 1, by omega, by rw [← hj1]; exact e⟩
        · exact ⟨j, by omega, e⟩
theorem sorted_of (xs : List Int) : (xs.mergeSort fun x y => decide (x ≤ y)).Pairwise (· ≤ ·) := by
  have := List.pairwise_mergeSort (le := fun x y : Int => decide (x ≤ y)) (by intro a b c; simp; omega) (by intro a b; simp; omega) xs
  exact this.imp (fun h => of_decide_eq_true h)
theorem inc_facts (xs : List Int) : (∀ x, x ∈ incOf xs ↔ x ∈ xs) ∧ (incOf xs).Pairwise (· < ·) := by
  have hs := sorted_of xs
  have hp := List.mergeSort_perm xs (fun x y => decide (x ≤ y))
  unfold incOf Lib.compact
  generalize xs.mergeSort (fun x y => decide (x ≤ y)) = ts at hs hp ⊢
  have hb : ∀ j, (hj : j < ts.length) → ts.toArray[j]! = ts[j] := fun j hj => by simp [getElem!_pos, hj]
  obtain ⟨h1, h2⟩ := comp_facts ts.toArray ts.length (fun i j hij hj => by
    rw [hb i (by omega), hb j hj]
    exact List.pairwise_iff_getElem.1 hs i j (by omega) hj hij) ts.length (Nat.le_refl _)
  refine ⟨fun x => ?_, h2⟩
  rw [h1, ← hp.mem_iff, List.mem_iff_getElem]
  constructor
  · rintro ⟨j, hj, e⟩; exact ⟨j, hj, by rw [← hb j hj]; exact e⟩
  · rintro ⟨j, hj, e⟩; exact ⟨j, hj, by rw [hb j hj]; exact e⟩
theorem strict_unique : ∀ (a b : List Int), a.Pairwise (· < ·) → b.Pairwise (· < ·) → (∀ x, x ∈ a ↔ x ∈ b) → a = b
  | [], [], _, _, _ => rfl
  | [], y :: b, _, _, h => absurd ((h y).2 List.mem_cons_self) (by simp)
  | x :: a, [], _, _, h => absurd ((h x).1 List.mem_cons_self) (by simp)
  | x :: a, y :: b, ha, hb, h => by
    rw [List.pairwise_cons] at ha hb
    have hxy : x = y := by
      have h1 := (h x).1 List.mem_cons_self
      have h2 := (h y).2 List.mem_cons_self
      rcases List.mem_cons.1 h1 with h1 | h1
      · exact h1
      · rcases List.mem_cons.1 h2 with h2 | h2
        · exact h2.symm
        · have := ha.1 y h2
          have := hb.1 x h1
          omega
    subst hxy
    congr 1
    refine strict_unique a b ha.2 hb.2 fun z => ?_
    have hz := h z
    constructor
    · intro hm
      rcases List.mem_cons.1 (hz.1 (List.mem_cons_of_mem _ hm)) with e | e
      · subst e; exact absurd (ha.1 z hm) (by omega)
      · exact e
    · intro hm
      rcases List.mem_cons.1 (hz.2 (List.mem_cons_of_mem _ hm)) with e | e
      · subst e; exact absurd (hb.1 z hm) (by omega)
      · exact e
theorem inc_unique {xs ys : List Int} (h : ys.Pairwise (· < ·)) (hm : ∀ x, x ∈ ys ↔ x ∈ xs) : incOf xs = ys :=
  strict_unique _ _ (inc_facts xs).2 h fun x => by rw [(inc_facts xs).1, hm]
theorem inc_length (xs : List Int) : (incOf xs).length ≤ xs.length := by
  have h1 := Lib.compact_length_le (xs.mergeSort fun x y => decide (x ≤ y))
  have h2 := (List.mergeSort_perm xs (fun x y => decide (x ≤ y))).length_eq
  unfold incOf; omega
theorem grown_trans {w w1 w2 : World} {r : Option Nat} (h1 : w.grownBy w1 r) (h2 : w1.grownBy w2 r) : w.grownBy w2 r :=
  ⟨h2.os.trans h1.os, h2.tape.trans h1.tape, h2.output.trans h1.output, Nat.le_trans h1.size h2.size, fun i hi hr => (h2.block i (Nat.lt_of_lt_of_le hi h1.size) hr).trans (h1.block i hi hr)⟩
theorem grown_refl (w : World) (r : Option Nat) : w.grownBy w r := ⟨rfl, rfl, rfl, Nat.le_refl _, fun _ _ _ => rfl⟩
theorem grown_put {w : World} {g q : Nat} (d : Array Int) : w.grownBy (Sort.putRow (Value.int .i64) (Sort.ahead w q) g 0 d) (some g) := by
  refine ⟨rfl, rfl, rfl, by simp, fun k hk hne => ?_⟩
  have : g ≠ k := fun e => hne (by rw [e])
  simp [Sort.putRow, Sort.mapBlock, Sort.ahead, Array.getElem?_modify, this]
set_option maxRecDepth 100000
set_option maxHeartbeats 2000000
/-- What a call leaves. -/
def Left (base : Nat) (v : Value) (xs : List Int) (w : World) (e : Ending) (w' : World) : Prop :=
  ∃ v', e = .returned v' ∧ w'.ownsRow base 3 1 v' (incOf xs).length ((incOf xs).map (Value.int .i64)) ∧ w.grownBy w' v.ownBlock ∧ v'.ownBlock = v.ownBlock
theorem increasing_in (base : Nat) (v : Value) (xs : List Int) (w : World) (ho : w.ownsRow base 3 1 v xs.length (xs.map (Value.int .i64))) (hx : xs.length ≤ 4000000000000000000) : Calls Try.prog 85 #[v] w (Left base v xs w) := by
  by_cases h0 : xs = []
  · subst h0
    obtain ⟨A, c, rfl⟩ := own_slice ho
    have HO := Go.Lib.hid ho
    clear ho
    go_enter Try.func85, Try.ntmps85
    go_wp2_with (first
      | (go_at_call 101; refine (Try.slices_Sort_int_none A c _).mono ?_; rintro e w' ⟨rfl, rfl⟩)
      | (go_at_call 102; refine (Try.slices_Compact_int_empty A c _).mono ?_; rintro e w' ⟨rfl, rfl⟩))
    go_ret
    exact ⟨_, rfl, by rw [show incOf [] = [] from List.eq_nil_of_length_eq_zero (by simpa using inc_length [])]; simpa using HO.out, grown_refl _ _, rfl⟩
  · have hne : v ≠ .slice none 0 0 := by
      rintro rfl
      rcases ho.2 with ⟨_, h⟩ | ⟨g, cap, cur, h, _⟩
      · exact h0 (List.eq_nil_of_length_eq_zero h)
      · cases h
    rcases ho.2 with ⟨h, _⟩ | ⟨g, cap, cur, rfl, hb, hg, hn, hm, hs, ht⟩
    · exact absurd h hne
    obtain ⟨g', cap', e', _, hlt, _, _, _, hH⟩ := Lib.holds_of_ownsRow ho hne
    cases e'
    have hsort := Try.slices_Sort_int g 0 cap xs w hH hlt (by omega)
    have hperm := List.mergeSort_perm xs (fun x y => decide (x ≤ y))
    have hlen := hperm.length_eq
    have hinc : incOf xs = Lib.compact (xs.mergeSort fun x y => decide (x ≤ y)) := rfl
    have hcl := Lib.compact_length_le (xs.mergeSort fun x y => decide (x ≤ y))
    obtain ⟨ts, hts⟩ : ∃ ts, (xs.mergeSort fun x y => decide (x ≤ y)) = ts := ⟨_, rfl⟩
    rw [hts] at hsort hlen hinc hcl
    have hH1 : ∀ n os, (Sort.grow (Sort.putRow (Value.int .i64) (Sort.ahead w n) g 0 ts.toArray) os).ownsRow base 3 1 (.slice (some ⟨g, 0, none⟩) ts.length cap) ts.length (ts.map (Value.int .i64)) := fun n os => by
      have := ownsRow_sortedI (n := n) (os := os) hlen hb hg (by simpa using hn) hm hs
      rw [hlen]
      exact this
    have hH2 := fun n os => Lib.holds_of_ownsRow (hH1 n os) (by intro h; cases h)
    have hcomp : ∀ n os, Calls Try.prog 102 #[.slice (some ⟨g, 0, none⟩) xs.length cap] (Sort.grow (Sort.putRow (Value.int .i64) (Sort.ahead w n) g 0 ts.toArray) os) (Left base (.slice (some ⟨g, 0, none⟩) xs.length cap) xs w) := fun n os => by
      obtain ⟨g', cap', e', _, _, h1, _, _, hH3⟩ := hH2 n os
      cases e'
      have := Try.slices_Compact_int g 0 cap ts _ hH3 (by omega) h1
      rw [hlen] at this
      refine this.mono ?_
      rintro e w2 ⟨rfl, q, rfl⟩
      refine ⟨_, rfl, ?_, grown_trans (grownBy_sortedI _) (grown_put _), rfl⟩
      have h4 := Lib.ownsRow_putRow (q := q) (ys := Lib.compact ts ++ List.replicate (xs.length - (Lib.compact ts).length) 0) (k := (Lib.compact ts).length) (hH1 n os) (by rw [List.length_append, List.length_replicate]; omega) hcl
      rw [List.take_left] at h4
      rw [hinc]
      exact h4
    have HS := Go.Lib.hid hsort
    have HCO := Go.Lib.hid hcomp
    clear ho hH hb hg hn hm hs ht hlt hne hsort hperm hlen hinc hcl hH1 hH2 hcomp hts h0 hx
    go_enter Try.func85, Try.ntmps85
    go_wp2_with (first
      | (go_at_call 101; refine HS.out.mono ?_; rintro e w' ⟨rfl, n, os, rfl⟩)
      | (go_at_call 102; refine (HCO.out n os).mono ?_; rintro e w' ⟨v', rfl, hp⟩; have HP := Go.Lib.hid hp; clear hp))
    go_ret
    exact ⟨_, rfl, HP.out⟩
end Go.Proofs.YtoiamgeaieefmaaInc
