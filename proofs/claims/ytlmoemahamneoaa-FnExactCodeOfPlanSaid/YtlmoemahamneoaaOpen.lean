/- What a datum's cells say, kind by kind: slices of structs, structs of one-cell fields. -/
import Derived.Deep.Slices
import Derived.SizedLaws
import Derived.Test.YtlmoemahamneoaaWWords
namespace Go.Proofs.Ytlmoemahamneoaa.Open
open Go.ChangeShapes Go.WideShapes Go.Deep Go.RowKit Go.Proofs.YtlmoemahamneoaaW.PrintWords
section
variable {P : Program}
def Sized {H : Type} (P : Program) (t : TypeId) (d : DataW H) : Prop := ∀ n ∈ DataW.weights P t d, n ≤ reachBytes
def Opens (P : Program) {α : Type} (t : TypeId) (d : Kd α) (ok : α → Prop) : Prop :=
  ∀ (H : Type) (enc : TypeId × Value → H) (w : World) (base : Nat) (spare : Nat → Bool) (held : Bool) (fuel : Nat) (cs : List Value) (x : DataW H × List MemPlace),
    DataW.trod enc P w base spare held fuel t cs = some x → Sized P t x.1 → ∃ y : α, d.K w y cs ∧ ok y
theorem opens_int {t : TypeId} {k : IntKind} (ht : P.underlying t = some (.int k)) : Opens P t (Kd.int k) (fun n => (Lit.int k n).wf = true) := fun H enc w base spare held fuel cs x h _ => by
  obtain ⟨n, rfl, _, hw⟩ := DataW.trod_int ht h
  exact ⟨n, rfl, hw⟩
theorem mem_all {H : Type} {e : TypeId} {d : DataW H} {n : Nat} (hn : n ∈ d.weights P e) : ∀ (ds : List (DataW H)), d ∈ ds → n ∈ DataW.weightsAll P e ds
  | [], hd => absurd hd (by simp)
  | a :: r, hd => by
    simp only [DataW.weightsAll, List.mem_append]
    rcases List.mem_cons.1 hd with rfl | hd
    · exact .inl hn
    · exact .inr (mem_all hn r hd)
theorem opens_slice {t e : TypeId} {α : Type} {d : Kd α} {ok : α → Prop} {B : Nat} (z : α) (ht : P.underlying t = some (.slice e)) (hs : P.cellsOf e = d.sz) (hB : P.bytesOf e = B) (ho : Opens P e d ok) :
    Opens P t (Kd.slice e d) (fun xs => xs.length ≤ maxLen ∧ xs.length * B ≤ 140737488351232 ∧ ∀ x ∈ xs, ok x) := fun H enc w base spare held fuel cs x h hz => by
  rcases open_slice ht h with ⟨rfl, rfl⟩ | ⟨a, len, cap, m, n, D, Pl, rfl, hb, hl, hm, hmm, rfl, hi⟩
  · exact ⟨[], ⟨none, 0, rfl, Nat.le_refl _, rfl, Nat.zero_le _, fun h => absurd h (by simp)⟩, by simp, by simp, fun x hx => absurd hx (by simp)⟩
  · have hlm : len ≤ m := by rw [hmm]; split <;> omega
    have hcell : ∀ i, i < len → ∃ y : α, ok y ∧ ∃ c, c.length = d.sz ∧ d.K w y c ∧ ∀ j u, c[j]? = some u → w.cell? (a.add (i * d.sz + j)) = some u := by
      intro i hil
      obtain ⟨cs', hc, htr⟩ := hi i (by omega)
      obtain ⟨y, hk, hok⟩ := ho H enc w base spare held n cs' _ htr (fun k hk => hz k (by
        simp only [DataW.weights, ht, List.mem_cons, List.mem_append]
        exact .inr (.inl (mem_all hk _ (List.mem_map.2 ⟨i, List.mem_range.2 hil, rfl⟩)))))
      obtain ⟨_, hcl, hat⟩ := World.cells?_some hc
      rw [hs] at hcl hat
      refine ⟨y, hok, cs', hcl, hk, fun j u hj => ?_⟩
      have hjl : j < d.sz := by rw [← hcl]; exact (List.getElem?_eq_some_iff.1 hj).1
      rw [← Go.Deep.add_add, hat j hjl, hj]
    have hch : ∃ Y : Nat → α, ∀ i, i < len → ok (Y i) ∧ ∃ c, c.length = d.sz ∧ d.K w (Y i) c ∧ ∀ j u, c[j]? = some u → w.cell? (a.add (i * d.sz + j)) = some u := by
      refine ⟨fun i => if hil : i < len then Classical.choose (hcell i hil) else z, fun i hil => ?_⟩
      simp only [hil, dite_true]
      exact Classical.choose_spec (hcell i hil)
    obtain ⟨Y, hY⟩ := hch
    have hsz : (len + (m - len)) * B ≤ 140737488351232 := by
      have := hz ((len + (m - len)) * P.bytesOf e) (by simp [DataW.weights, ht])
      rw [hB] at this
      exact this
    have hlB : len * B ≤ 140737488351232 := Nat.le_trans (Nat.mul_le_mul_right _ (Nat.le_add_right _ _)) hsz
    have hll : ((List.range len).map Y).length = len := by simp
    have h64 : len ≤ 9223372036854775807 := Nat.le_trans hl (Nat.le_trans hm (by decide))
    have hC : d.C w (some a) ((List.range len).map Y).length ((List.range len).map Y) := by
      refine ⟨rfl, by rw [hll]; exact h64, fun _ => ⟨a, rfl, fun j p hj => ?_⟩⟩
      obtain ⟨hjl, hp⟩ := List.getElem?_eq_some_iff.1 hj
      have hjl' : j < len := by simpa using hjl
      have hp' : Y j = p := by simpa using hp
      subst hp'
      obtain ⟨_, c, h1, h2, h3⟩ := hY j hjl'
      exact ⟨c, h1, h2, h3⟩
    refine ⟨(List.range len).map Y, ⟨some a, cap, by rw [hll], by rw [hll]; exact hl, hC⟩, by rw [hll]; exact Nat.le_trans hl hm, by rw [hll]; exact hlB, fun x hx => ?_⟩
    obtain ⟨i, hir, rfl⟩ := List.mem_map.1 hx
    exact (hY i (List.mem_range.1 hir)).1
theorem opens_field {H : Type} {enc : TypeId × Value → H} {w : World} {base : Nat} {spare : Nat → Bool} {held : Bool} {t : TypeId} {fs : Array Field} {fuel : Nat} {cs : List Value} {x : DataW H × List MemPlace} (ht : P.underlying t = some (.struct fs))
    (h : DataW.trod enc P w base spare held fuel t cs = some x) (hz : Sized P t x.1) (i : Nat) {f : Field} (hf : fs[i]? = some f) {e : TypeId} (he : f.type = e) {o : Nat} (hoff : f.offset = o) {s : Nat} (hs : P.cellsOf e = s)
    {α : Type} {d : Kd α} {ok : α → Prop} (ho : Opens P e d ok) : ∃ y, d.K w y ((cs.drop o).take s) ∧ ok y := by
  obtain ⟨xs, n, _, rfl, _, hxl, hg⟩ := DataW.trod_struct ht h
  have h1 := hg i f hf
  have hil : i < fs.size := (Array.getElem?_eq_some_iff.1 hf).1
  have hxi : xs[i]? = some (xs[i]'(by omega)) := List.getElem?_eq_getElem (by omega)
  rw [hxi, he, hoff, hs] at h1
  refine ho H enc w base spare held n _ _ h1 (fun k hk => hz k ?_)
  simp only [DataW.weights, ht]
  refine DataW.weights_mem_each (t := e) (j := i) (d := (xs[i]'(by omega)).1) ?_ ?_ k hk
  · rw [List.getElem?_map, Array.getElem?_toList, hf]
    simp [he]
  · rw [List.getElem?_map, hxi]
    rfl
theorem struct_len {H : Type} {enc : TypeId × Value → H} {w : World} {base : Nat} {spare : Nat → Bool} {held : Bool} {t : TypeId} {fs : Array Field} {fuel : Nat} {cs : List Value} {x : DataW H × List MemPlace} (ht : P.underlying t = some (.struct fs))
    (h : DataW.trod enc P w base spare held fuel t cs = some x) {s : Nat} (hs : P.cellsOf t = s) : cs.length = s := by
  obtain ⟨xs, n, _, _, hl, _⟩ := DataW.trod_struct ht h
  rw [hl, hs]
theorem sized_of {H : Type} {ts : List TypeId} {ds : List (DataW H)} (hsz : (DataW.weightsEach P ts ds).all (· ≤ reachBytes) = true) {j : Nat} {t : TypeId} {d : DataW H} (ht : ts[j]? = some t) (hd : ds[j]? = some d) : Sized P t d := fun n hn => by
  simpa using List.all_eq_true.1 hsz n (DataW.weights_mem_each ht hd n hn)
end
end Go.Proofs.Ytlmoemahamneoaa.Open
