/- slices.Backward at []int over a row that was made ahead of the loop, behind what the loop's body writes: two blocks are kept, the row and the box. -/
import Derived.Test.YtoiamgeaieefmaaBack
namespace Go.Proofs.YtoiamgeaieefmaaBack
open Go.RowKit Go.Shelf Go.Proofs.YtoiamgeaieefmaaW.PrintWords
attribute [local go_sem] Oper.semAt_some
/-- What a round keeps: the row's block and the box of the slice. -/
def KeepO (b Bs : Nat) (A B : World) : Prop := ∀ k, k = b ∨ k = Bs → ∀ cs t fr, A.heap[k]? = some (.cells cs t fr) → B.heap[k]? = some (.cells cs t fr)
theorem KeepO.refl (b Bs : Nat) (A : World) : KeepO b Bs A A := fun _ _ _ _ _ h => h
theorem KeepO.trans {b Bs : Nat} {A B C : World} (h : KeepO b Bs A B) (k : KeepO b Bs B C) : KeepO b Bs A C := fun q hq cs t fr e => k q hq cs t fr (h q hq cs t fr e)
theorem KeepO.cell {b Bs : Nat} {A B : World} (h : KeepO b Bs A B) {cs : Array Value} {t : TypeId} (e : A.heap[b]? = some (.cells cs t (0, 0))) (j : Nat) : B.cell? ⟨b, j, none⟩ = A.cell? ⟨b, j, none⟩ := World.cell?_of_block ((h b (.inl rfl) _ _ _ e).trans e.symm)
theorem keepO_b {b Bs : Nat} (W : World) (l : Nat) (o o' : Obj) (h : W.heap[l]? = some o) (hc : o.isCells = false) : KeepO b Bs W (W.putObj l o') := fun k _ cs t fr e => by
  have hg := grownBy_putObj' W l o'
  have hlt : k < W.heap.size := (Array.getElem?_eq_some_iff.1 e).1
  have hne : some k ≠ some l := by
    intro he
    injection he with he
    subst he
    rw [e] at h
    injection h with h
    subst h
    exact absurd hc (by simp [Obj.isCells])
  rw [hg.block k hlt hne]; exact e
set_option maxRecDepth 100000 in
set_option maxHeartbeats 2000000 in
theorem back1o_in (F : Fence) (n : Nat) (h7 : F.fn 106) (hro : F.round = none) (hn : 1 ≤ n) (l Bs b off cap : Nat) (cs : Array Value) (zs : List Int) (hreach : zs.length * 8 ≤ 140737488351232) (J Jx : List (Int × Int) → World → Prop)
    (hY : ∀ pre x W, J pre W → pre.length < zs.length → YieldAt F (n - 1) Try.prog l #[.int .i64 x.1, .int .i64 x.2] W fun e W' =>
      (e = .returned (.bool true) ∧ J (pre ++ [x]) W' ∧ KeepO b Bs W W') ∨ (e = .returned (.bool false) ∧ Jx (pre ++ [x]) W'))
    (W : World) (hBl : W.heap[Bs]? = some (.cells #[.slice (some ⟨b, off, none⟩) zs.length cap] 24 (0, 0))) (hrow : W.heap[b]? = some (.cells cs 3 (0, 0))) (hc : ∀ j, j < zs.length → W.cell? ⟨b, off + j, none⟩ = some (.int .i64 (zs[j]?.getD 0))) (h0 : J [] W) :
    CallsIn F n Try.prog 106 #[.func (.yield l) #[] #[], .pointer (some ⟨Bs, 0, none⟩)] W fun e W' => (∃ v, e = .returned v) ∧
      ((∃ ys, ys = upto (pairAt zs) zs.length ∧ J ys W') ∨ (∃ pre, (∃ k, k ≤ zs.length ∧ pre = upto (pairAt zs) k) ∧ Jx pre W')) := by
  have hBs : W.cell? ⟨Bs, 0, none⟩ = some (.slice (some ⟨b, off, none⟩) zs.length cap) := (blk_cell hBl 0).trans rfl
  refine callsIn_of_wp Try.func106 rfl h7 ?_ hro
  simp only [Try.ntmps106, List.size_toArray, List.length_cons, List.length_nil, Nat.reduceAdd, Nat.reduceSub, Array.replicate_succ, Array.replicate_zero, List.push_toArray, List.append_toArray, List.nil_append, List.cons_append]
  gi_wp2
  gi_loopw [3] (fun i wr => ∃ k : Nat, k ≤ zs.length ∧ i = .int .i64 ((zs.length : Int) - 1 - k) ∧ J (upto (pairAt zs) k) wr ∧ KeepO b Bs W wr)
    (fun i _ => ((intOf i) + 1).toNat)
  case atStart => exact ⟨0, Nat.zero_le _, by simp, h0, KeepO.refl _ _ _⟩
  case round =>
    obtain ⟨k, hk, rfl, hJs, hnx⟩ := hrel
    by_cases hlt : k < zs.length
    · have hcx' : wr.cell? ⟨b, off + (zs.length - 1 - k), none⟩ = some (.int .i64 (zs[zs.length - 1 - k]?.getD 0)) := (hnx.cell hrow (off + (zs.length - 1 - k))).trans (hc _ (by omega))
      have hBs' : wr.cell? ⟨Bs, 0, none⟩ = some (.slice (some ⟨b, off, none⟩) zs.length cap) := (blk_cell (hnx Bs (.inr rfl) _ _ _ hBl) 0).trans rfl
      obtain ⟨fn, tmps, assign, body, hy, hR⟩ := hY _ (pairAt zs k) wr hJs (by rw [upto_length]; exact hlt)
      dsimp only [pairAt] at hy
      have e1 : 0 ≤ (zs.length : Int) - 1 - k := by omega
      have e2 : ((zs.length : Int) - 1 - k).toNat = zs.length - 1 - k := by omega
      have e3 : (zs.length : Int) - 1 - k < zs.length := by omega
      have e4 : ((zs.length : Int) - 1 - k < zs.length) = True := eq_true e3
      gi_wp2
      refine hR.mono ?_
      rintro e W3 (⟨rfl, hJ3, hk3⟩ | ⟨rfl, hJx3⟩)
      · gi_wp2
        go_roundw
        case rel => exact ⟨k + 1, by omega, by first | rfl | (congr 1; omega), by rw [upto_succ]; exact hJ3, hnx.trans hk3⟩
        case measure => simp [intOf]; omega
      · gi_wp2
        refine bodyPost_ret (results_none rfl _ _ _) rfl ?_
        exact ⟨⟨_, rfl⟩, .inr ⟨_, ⟨k + 1, by omega, (upto_succ _ _).symm⟩, hJx3⟩⟩
    · have e1 : ¬ (0 : Int) ≤ (zs.length : Int) - 1 - k := by omega
      have e2 : k = zs.length := by omega
      gi_wp2
      go_end0
      exact ⟨⟨_, rfl⟩, .inl (by rw [e2] at hJs; exact hJs)⟩
theorem backo_stops (F : Fence) (n : Nat) (h7 : F.fn 106) (hro : F.round = none) (hn : 1 ≤ n) (b off cap Bs : Nat) (cs : Array Value) (zs : List Int) (hreach : zs.length * 8 ≤ 140737488351232) (w : World)
    (hbx : w.heap[Bs]? = some (.cells #[.slice (some ⟨b, off, none⟩) zs.length cap] 24 (0, 0))) (hrow : w.heap[b]? = some (.cells cs 3 (0, 0))) (hc : ∀ j, j < zs.length → w.cell? ⟨b, off + j, none⟩ = some (.int .i64 (zs[j]?.getD 0))) :
    SeqStopsK F n Try.prog 106 #[.pointer (some ⟨Bs, 0, none⟩)] (fun x : Int × Int => #[Value.int .i64 x.1, Value.int .i64 x.2]) (KeepO b Bs) (fun ys => ys = pairs zs)
      (fun pre => ∃ k, k ≤ zs.length ∧ pre = upto (pairAt zs) k) zs.length w := fun l J Jx W hW _ _ hY h0 =>
  back1o_in F n h7 hro hn l Bs b off cap cs zs hreach J Jx hY W (blk_below hbx hW) (blk_below hrow hW) (fun j hj => (hW.cell (p := ⟨b, off + j, none⟩) (blk_lt hrow)).trans (hc j hj)) h0
end Go.Proofs.YtoiamgeaieefmaaBack
