/- '[]byte("..")' of a constant: the literal's row is converted to its own type, and marked. -/
import Derived.Lib.SmallJoins
import Derived.Test.YtafnnnpcochnnaaWWords
namespace Go.Proofs.Ytafnnnpcochnnaa.Conv
open Go.RowKit Go.Proofs.YtafnnnpcochnnaaW.PrintWords
theorem freeze_cell (W : World) (a : Addr) (n : Nat) (b : Addr) : (W.freeze a n).cell? b = W.cell? b := by
  unfold World.freeze
  split
  · rfl
  · unfold World.cell?
    simp only [Array.getElem?_modify]
    by_cases h : a.block = b.block
    · rw [if_pos h]
      cases hb : W.heap[b.block]? with
      | none => rfl
      | some o => cases o <;> rfl
    · rw [if_neg h]
theorem freeze_other (W : World) (a : Addr) (n k : Nat) (h : k ≠ a.block) : (W.freeze a n).heap[k]? = W.heap[k]? := by
  unfold World.freeze
  split
  · rfl
  · simp only [Array.getElem?_modify, if_neg (show ¬ a.block = k from fun e => h e.symm)]
theorem freeze_size (W : World) (a : Addr) (n : Nat) : (W.freeze a n).heap.size = W.heap.size := by
  unfold World.freeze
  split
  · rfl
  · simp
theorem freeze_below {B : Nat} (W : World) (a : Addr) (n : Nat) (h : B ≤ a.block) : Below B W (W.freeze a n) := by
  have h0 : (W.freeze a n).os = W.os ∧ (W.freeze a n).tape = W.tape ∧ (W.freeze a n).output = W.output := by
    unfold World.freeze
    split <;> exact ⟨rfl, rfl, rfl⟩
  exact ⟨h0.1, h0.2.1, h0.2.2, Nat.le_of_eq (freeze_size W a n).symm, fun k hk => freeze_other W a n k (by omega)⟩
section
variable {P : Program} {ops : Array Oper} {rest : List Oper} {o : Oper} {a : Act} {Q : Exit → Act → World → Prop}
theorem conv_event {W : World} (hgd : o.guard = none) {N : Tmp} (_hN : o.dst = some N) {t e : TypeId} {x : Operand} (_ho : o.op = .convert t t x) {A : Option Addr} {n c base : Nat} {ok : Nat → Prop} {xs : List Int}
    (ht : P.underlying t = some (.slice e)) (he : P.underlying e = some (.int .u8)) (HR : (Kd.int .u8).R e W base ok (.slice A n c) xs) (hn : 0 < n) (hop : execOp a.eval o = (do return .value (← convert t t (.slice A n c))))
    (h : ∀ (g : Nat) (w1 : World) (cells : Array Value), W.heap[g]? = some (.cells cells e (0, 0)) → (∀ k, k ≠ g → w1.heap[k]? = W.heap[k]?) → Below base W w1 → (Kd.int .u8).C w1 A n xs → wpList P ops Q rest (a.put o.dst (.slice A n c)) w1) : wpList P ops Q (o :: rest) a W := by
  obtain ⟨hxn, _, hC⟩ := Kd.R_reads' HR
  obtain ⟨inner, ho⟩ := Kd.R_own HR
  rcases ho.2 with ⟨_, h0⟩ | ⟨g, cap, cur, hv, hg, hh, _⟩
  · omega
  injection hv with h1 h2 h3
  subst h1
  have hsh : W.shape? g = some (e, cur.size) := by
    unfold World.shape?
    rw [hh]
  have hrun : (convert t t (.slice (some ⟨g, 0, none⟩) n c)).run P W = .ok (.slice (some ⟨g, 0, none⟩) n c) (W.freeze ⟨g, cur.size, none⟩ 1) := by
    simp [convert, run_underlying ht, run_underlying he, markStringish, hsh]
  refine Kd.event_run hgd (v := .slice (some ⟨g, 0, none⟩) n c) (w1 := W.freeze ⟨g, cur.size, none⟩ 1) ?_ (h g _ cur hh (fun k hk => freeze_other W _ 1 k hk) (freeze_below W _ 1 hg) ?_)
  · rw [hop]
    show (Sem.run P (convert t t (.slice (some ⟨g, 0, none⟩) n c) >>= fun v => pure (Next.value v)) W) = _
    rw [show Sem.run P (convert t t (.slice (some ⟨g, 0, none⟩) n c) >>= fun v => pure (Next.value v)) W = (Sem.run P (convert t t (.slice (some ⟨g, 0, none⟩) n c)) W).andThen (fun v w => Result.ok (Next.value v) w) from by simp [go_sem]]
    rw [hrun]
    rfl
  · rw [← hxn] at hC
    obtain ⟨h1, h2, h3⟩ := hC
    refine ⟨h1, h2, fun hp => ?_⟩
    obtain ⟨ad, e1, hc⟩ := h3 hp
    refine ⟨ad, e1, fun j p hj => ?_⟩
    obtain ⟨cc, h4, h5, h6⟩ := hc j p hj
    exact ⟨cc, h4, h5, fun i u hu => by rw [freeze_cell]; exact h6 i u hu⟩
end
end Go.Proofs.Ytafnnnpcochnnaa.Conv
