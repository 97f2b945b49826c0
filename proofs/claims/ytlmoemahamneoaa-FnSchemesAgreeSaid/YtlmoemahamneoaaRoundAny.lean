/- A region that draws its order, within a round of a range over a function: walked by the steps that serve outside of one (start_, take_, one_, two_, ..). -/
import Derived.Test.YtlmoemahamneoaaWLast
import Derived.OrdersIn
import Derived.RangeFuncCalls
namespace Go.Proofs.Ytlmoemahamneoaa.RoundAny
open Go Go.Proofs.YtlmoemahamneoaaW.PrintLast
def OnlyN (Q : Exit → Act → World → Prop) : Exit → Act → World → Prop
  | .normal, a, w => Q .normal a w
  | _, _, _ => False
theorem onlyN_lets (Q : Exit → Act → World → Prop) : ¬ LetsOut (OnlyN Q) := by rintro ⟨a, w, h⟩; exact h
def noDefer : Op → Bool
  | .defer _ => false
  | _ => true
theorem noDefer_spec {o : Oper} (h : noDefer o.op = true) : ∀ c, o.op ≠ .defer c := by
  intro c e
  rw [e] at h
  cases h
section
variable {n l : Nat} {P : Program} {ops : Array Oper} {md : Region.Mode} {Q : Exit → Act → World → Prop}
theorem rows_wide {m : Nat} {row : String} {args : Array Value} {w : World} {R : Value → World → Prop} (h : Rows P row args w R) : RowsIn Fence.wide m P row args w R :=
  fun c cs _ => let ⟨v, w', r, s⟩ := h c cs; ⟨v, w', r, stepsIn_wide.2 s⟩
theorem round_upon {o : Oper} {a : Act} {K : Act → World → Prop} {r : Result Next} (h : o.upon P a K (OnlyN Q) r) : o.uponIn (Fence.wide.inRound l) n P a K Q r := by
  unfold Oper.upon at h
  unfold Oper.uponIn
  split at h
  · exact h
  · exact h
  · exact h
  · refine ⟨fun h0 => by simp [Fence.wide] at h0, CallsIn.inRound l (callsIn_wide.2 (h.mono ?_))⟩
    intro e w' he
    split at he
    · exact he
    · exact he.elim
    · exact (onlyN_lets Q he).elim
  · exact ⟨fun h0 => by simp [Fence.wide] at h0, rows_wide h⟩
  · exact h.elim
  · exact h.elim
theorem round_op {i : Nat} {a : Act} {w : World} {K : Act → World → Prop} (hd : (ops.toList.all fun o => noDefer o.op) = true) (h : wpOp P ops (OnlyN Q) i K a w) : wpOpIn (Fence.wide.inRound l) n P ops Q i K a w := by
  unfold wpOp at h
  unfold wpOpIn
  split at h
  · rename_i ho
    simp only [ho]
    exact h
  · rename_i o ho
    simp only [ho]
    have hod := noDefer_spec (List.all_eq_true.1 hd o (by simpa using Array.mem_of_getElem? ho))
    split at h
    · rename_i hw
      rw [if_pos hw]
      rcases h with h | h
      · refine ⟨fun _ _ => trivial, ?_⟩
        rw [Oper.semAt_eq _ _ _ hod]
        exact round_upon h
      · exact (onlyN_lets Q h.2).elim
    · rename_i hw
      rw [if_neg hw]
      exact ⟨fun _ _ => trivial, h⟩
theorem round_any (hd : (ops.toList.all fun o => noDefer o.op) = true) : ∀ (fuel : Nat) (listed : Array Bool) (a : Act) (w : World), wpAny P md ops (OnlyN Q) fuel listed a w → wpAnyIn (Fence.wide.inRound l) n P md ops Q fuel listed a w
  | 0, _, _, _, h => h
  | fuel + 1, _, _, _, h => ⟨h.1, fun i hi => wpOpIn_mono (fun a' w' h' => round_any hd fuel _ a' w' h') (round_op hd (h.2 i hi))⟩
theorem start_in {S : World → Prop} {ds : List Nat} {id m : Nat} {a : Act} {w : World} (listed : Array Bool) (hm : P.follows .mixedOrders = true) (hd : (ops.toList.all fun o => noDefer o.op) = true) (hn : ops.size = m) (hl : Array.replicate m false = listed) (hS : S w.drew)
    (h : S w.drew → wpAnyLast P .any ops (OnlyN Q) S ds m listed a w.drew) : (Code.region id ops true).wpIn (Fence.wide.inRound l) n P Q a w := by
  subst hn
  subst hl
  exact wpIn_region_any hm (round_any hd _ _ _ _ (wpAny_of_last _ _ _ _ (h hS)))
end
end Go.Proofs.Ytlmoemahamneoaa.RoundAny
