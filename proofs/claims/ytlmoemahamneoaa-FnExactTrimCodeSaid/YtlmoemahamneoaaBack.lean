/- slices.Backward at []int: what a range over it does, for every loop body that keeps what lay below a bound; no condition but the slice's reach. -/
import Derived.RangeFuncNested
import Derived.RangeFuncBound
import Derived.RangeFuncCalls
import Derived.RangeFuncLeaves
import Derived.RangeFuncBox
import Derived.RangeFuncWrites
import Derived.Shelf.Abstract
import Derived.Shelf.RegionOpen
import Derived.WalkKit
import Derived.OwnWalkIn
import Derived.TacticsInMore
import Derived.LoopNIn
import Derived.LoopIn
import Derived.Test.YtlmoemahamneoaaHand
namespace Go.Proofs.YtlmoemahamneoaaBack
open Go.RowKit Go.Shelf Go.Proofs.YtlmoemahamneoaaW.PrintWords
attribute [local go_sem] Oper.semAt_some
/-- What has come when k rounds are over: f 0, .., f (k - 1). -/
def upto {α : Type} (f : Nat → α) (k : Nat) : List α := (List.range k).map f
theorem upto_succ {α : Type} (f : Nat → α) (k : Nat) : upto f (k + 1) = upto f k ++ [f k] := by simp [upto, List.range_succ]
theorem upto_length {α : Type} (f : Nat → α) (k : Nat) : (upto f k).length = k := by simp [upto]
/-- The slice value holds these numbers, in a block below n₀; or it is empty. -/
def Ints (n₀ : Nat) (W : World) (sv : Value) (zs : List Int) : Prop :=
  (∃ a c, sv = .slice a 0 c ∧ zs = []) ∨ ∃ b off cap, sv = .slice (some ⟨b, off, none⟩) zs.length cap ∧ b < n₀ ∧ ∀ j, j < zs.length → W.cell? ⟨b, off + j, none⟩ = some (.int .i64 (zs[j]?.getD 0))
theorem Ints.below {n₀ : Nat} {A B : World} (h : Below n₀ A B) {sv : Value} {zs : List Int} : Ints n₀ A sv zs → Ints n₀ B sv zs
  | .inl e => .inl e
  | .inr ⟨b, off, cap, e, hb, hc⟩ => .inr ⟨b, off, cap, e, hb, fun j hj => (h.cell (p := ⟨b, off + j, none⟩) hb).trans (hc j hj)⟩
theorem Ints.up {n₀ n₁ : Nat} {A : World} (h : n₀ ≤ n₁) {sv : Value} {zs : List Int} : Ints n₀ A sv zs → Ints n₁ A sv zs
  | .inl e => .inl e
  | .inr ⟨b, off, cap, e, hb, hc⟩ => .inr ⟨b, off, cap, e, Nat.lt_of_lt_of_le hb h, hc⟩
/-- What a round that goes on keeps: what lay below n₀, and the box of the slice. -/
def KeepB (n₀ Bs : Nat) (A B : World) : Prop := Below n₀ A B ∧ ∀ cs t fr, A.heap[Bs]? = some (.cells cs t fr) → B.heap[Bs]? = some (.cells cs t fr)
theorem KeepB.refl (n₀ Bs : Nat) (A : World) : KeepB n₀ Bs A A := ⟨Below.refl _ _, fun _ _ _ h => h⟩
theorem KeepB.trans {n₀ Bs : Nat} {A B C : World} (h : KeepB n₀ Bs A B) (k : KeepB n₀ Bs B C) : KeepB n₀ Bs A C := ⟨h.1.trans k.1, fun cs t fr e => k.2 cs t fr (h.2 cs t fr e)⟩
theorem keepB_b {n₀ Bs : Nat} {w : World} (hn : n₀ ≤ w.heap.size) (W : World) (l : Nat) (o o' : Obj) (hl : w.heap.size ≤ l) (h : W.heap[l]? = some o) (hc : o.isCells = false) (hw : o.isWalk = false) : KeepB n₀ Bs W (W.putObj l o') :=
  ⟨belowK_b hn W l o o' hl h hc hw, fun cs t fr e => by
    have hg := grownBy_putObj' W l o'
    have hlt : Bs < W.heap.size := (Array.getElem?_eq_some_iff.1 e).1
    have hne : some Bs ≠ some l := by
      intro he
      injection he with he
      subst he
      rw [e] at h
      injection h with h
      subst h
      exact absurd hc (by simp [Obj.isCells])
    rw [hg.block Bs hlt hne]; exact e⟩
theorem KeepB.cell {n₀ Bs : Nat} {A B : World} (h : KeepB n₀ Bs A B) {v : Value} {t : TypeId} (e : A.heap[Bs]? = some (.cells #[v] t (0, 0))) : B.cell? ⟨Bs, 0, none⟩ = some v := by
  simp [World.cell?, h.2 _ _ _ e]
theorem KeepB.set {n₀ Bs : Nat} {W : World} {p : Addr} (hp : n₀ ≤ p.block) (hne : Bs ≠ p.block) (v : Value) : KeepB n₀ Bs W (W.setCell p v) := ⟨(Below.refl n₀ W).setCell hp _, fun _ _ _ e => (Below.heap_setCell W p v Bs hne).trans e⟩
end Go.Proofs.YtlmoemahamneoaaBack
