/- Values of adders are their multiples times the input: the statement FnAddersAreLinear holds for all its drawn arguments; nothing is asked of them. -/
import Derived.Test.YtafnnnpcochnnaaPFnAddersAreLinearx1
import Derived.Test.YtafnnnpcochnnaaPFnAddersAreLinearx2
import Derived.Test.YtafnnnpcochnnaaPFnAddersAreLinearx3
import Derived.Test.YtafnnnpcochnnaaPFnAddersAreLinearx4
import Derived.Test.YtafnnnpcochnnaaPFnAddersAreLinearx5
import Derived.Test.YtafnnnpcochnnaaPFnAddersAreLinearx6
set_option linter.unusedVariables false
set_option linter.unusedSimpArgs false
namespace Go.Proofs.Ytafnnnpcochnnaa.PureFnAddersAreLinearL
open Go.RowKit Go.Proofs.Ytafnnnpcochnnaa.PFnAddersAreLinear Go.Proofs.YtafnnnpcochnnaaW.PrintWords Go.Proofs.YtafnnnpcochnnaaW.PrintLast Go.Proofs.YtafnnnpcochnnaaW.PrintMore
theorem up {α : Type} {g : Nat → Option α} {r : α} (h : Ev (fun k => g (k + 1)) r) : Ev g r := by
  obtain ⟨K, h⟩ := h
  refine ⟨K + 1, fun k hk => ?_⟩
  obtain ⟨m, rfl⟩ : ∃ m, k = m + 1 := ⟨k - 1, by omega⟩
  exact h m (by omega)
theorem wid {x : Int} (h0 : -9223372036854775808 ≤ x) (h1 : x ≤ 9223372036854775807) : wrap64 x = x := by unfold wrap64; omega
theorem ite_yes {α : Type} {c : Prop} [Decidable c] {a b : α} (h : c) : (if c then a else b) = a := if_pos h
theorem ite_no {α : Type} {c : Prop} [Decidable c] {a b : α} (h : ¬ c) : (if c then a else b) = b := if_neg h
theorem evsome {α β : Type} {x : Option α} {a : α} {f : Nat → α → Option β} {r : β} (hx : x = some a) (h : Ev (fun k => f k a) r) : Ev (fun k => x.bind (f k)) r := by subst hx; exact h
theorem if_pos_ev {α : Type} {c : Prop} [Decidable c] {f g : Nat → Option α} (h : c) : (fun k => if c then f k else g k) = f := funext fun k => if_pos h
theorem if_neg_ev {α : Type} {c : Prop} [Decidable c] {f g : Nat → Option α} (h : ¬ c) : (fun k => if c then f k else g k) = g := funext fun k => if_neg h
theorem rd_at {l : List Int} {i : Nat} (h : i < l.length) : rd l (i : Int) = l[i] := by
  unfold rd
  rw [Int.toNat_natCast, List.getD_eq_getElem?_getD, List.getElem?_eq_getElem h]; rfl
def allIn (a b : Int) (l : List Int) : Bool := l.all fun d => decide (a ≤ d) && decide (d ≤ b)
theorem l1In_val (x a b : Int) : spec_l1In.f x a b = some (decide (a ≤ x) && decide (x ≤ b)) := by
  unfold spec_l1In.f
  by_cases h : a ≤ x
  · rw [if_pos h]; simp [h]
  · rw [if_neg h]; simp [h]
theorem l1All_loop (a b : Int) (l : List Int) (hl : l.length ≤ 17592186044416) : ∀ (d i : Nat), i + d = l.length → Ev (fun k => spec_l1All.l0 k a b l (l.length : Int) i) (allIn a b (l.drop i)) := by
  intro d
  induction d with
  | zero =>
    intro i h
    refine up ?_
    simp only [spec_l1All.l0, if_neg (show ¬ (i : Int) < (l.length : Int) by omega)]
    rw [List.drop_of_length_le (by omega)]
    exact Ev.now _
  | succ d ih =>
    intro i h
    have hi : i < l.length := by omega
    refine up ?_
    simp only [spec_l1All.l0, if_pos (show (i : Int) < (l.length : Int) by omega), if_pos (show (0 : Int) ≤ (i : Int) by omega), l1In_val, Option.bind_some, wid (x := (i : Int) + 1) (by omega) (by omega), rd_at hi]
    have e : allIn a b (l.drop i) = ((decide (a ≤ l[i]) && decide (l[i] ≤ b)) && allIn a b (l.drop (i + 1))) := by
      rw [List.drop_eq_getElem_cons hi]; rfl
    rw [e]
    cases hb : (decide (a ≤ l[i]) && decide (l[i] ≤ b)) with
    | true => simp only [if_true, Bool.true_and]; exact ih (i + 1) (by omega)
    | false => simp only [Bool.false_eq_true, if_false, Bool.false_and]; exact Ev.now _
theorem l1All_val (a b : Int) (l : List Int) (hl : l.length ≤ 17592186044416) : Ev (fun k => spec_l1All.f k l a b) (allIn a b l) := l1All_loop a b l hl l.length 0 (by omega)
abbrev Ad := S69
theorem rdA_at {l : List Ad} {i : Nat} (h : i < l.length) : rd_T69 l (i : Int) = l[i] := by
  unfold rd_T69
  rw [Int.toNat_natCast, List.getD_eq_getElem?_getD, List.getElem?_eq_getElem h]; rfl
def okA (i : Int) (a : Ad) : Bool := (decide (0 ≤ a.f0) && decide (a.f0 ≤ i)) && ((decide (0 ≤ a.f2) && decide (a.f2 ≤ i)) && ((decide (0 ≤ a.f1) && decide (a.f1 ≤ 20)) && (decide (0 ≤ a.f3) && decide (a.f3 ≤ 20))))
theorem okA_iff {i : Int} {a : Ad} : okA i a = true ↔ (0 ≤ a.f0 ∧ a.f0 ≤ i) ∧ (0 ≤ a.f2 ∧ a.f2 ≤ i) ∧ (0 ≤ a.f1 ∧ a.f1 ≤ 20) ∧ 0 ≤ a.f3 ∧ a.f3 ≤ 20 := by
  unfold okA; simp only [Bool.and_eq_true, decide_eq_true_eq]
/-- The value of an adder, over the values before it. -/
def av (vs : List Int) (a : Ad) : Int := if a.f4 = true then rd vs a.f0 * 2 ^ a.f1.toNat - rd vs a.f2 * 2 ^ a.f3.toNat else rd vs a.f0 * 2 ^ a.f1.toNat + rd vs a.f2 * 2 ^ a.f3.toNat
def inM (v : Int) : Bool := decide (-2097152 ≤ v) && decide (v ≤ 2097152)
theorem inM_iff {v : Int} : inM v = true ↔ -2097152 ≤ v ∧ v ≤ 2097152 := by unfold inM; simp only [Bool.and_eq_true, decide_eq_true_eq]
/-- All values of adders, if they are valid from the i-th on. -/
def chk : Nat → List Int → List Ad → Option (List Int)
  | _, acc, [] => some acc
  | i, acc, a :: l => if okA i a = true then (if inM (av acc a) = true then chk (i + 1) (acc ++ [av acc a]) l else none) else none
def bnd (M : Int) (vs : List Int) : Prop := ∀ v ∈ vs, -M ≤ v ∧ v ≤ M
theorem bnd_rd {M : Int} {vs : List Int} (h : bnd M vs) (hM : 0 ≤ M) (i : Int) : -M ≤ rd vs i ∧ rd vs i ≤ M := by
  unfold rd
  rcases Nat.lt_or_ge i.toNat vs.length with h1 | h1
  · rw [List.getD_eq_getElem?_getD, List.getElem?_eq_getElem h1]
    exact h _ (List.getElem_mem h1)
  · rw [List.getD_eq_getElem?_getD, List.getElem?_eq_none h1]
    simp; omega
theorem pow_small {n : Int} (h1 : n ≤ 20) : (1 : Int) ≤ 2 ^ n.toNat ∧ (2 : Int) ^ n.toNat ≤ 1048576 := by
  have h := Nat.pow_le_pow_right (n := 2) (by omega) (show n.toNat ≤ 20 by omega)
  have e : ((2 ^ n.toNat : Nat) : Int) = (2 : Int) ^ n.toNat := by simp
  have hp : 0 < 2 ^ n.toNat := Nat.pow_pos (by omega)
  omega
theorem mul_bnd {x p M : Int} (h0 : -M ≤ x) (h1 : x ≤ M) (hM : 0 ≤ M) (p0 : 1 ≤ p) (p1 : p ≤ 1048576) : -(M * 1048576) ≤ x * p ∧ x * p ≤ M * 1048576 := by
  have a1 := Int.mul_le_mul_of_nonneg_right h1 (show (0 : Int) ≤ p by omega)
  have a0 := Int.mul_le_mul_of_nonneg_right h0 (show (0 : Int) ≤ p by omega)
  have b := Int.mul_le_mul_of_nonneg_left p1 hM
  have e : -M * p = -(M * p) := Int.neg_mul M p
  omega
theorem shl_val {x n : Int} (M : Int) (hM : 0 ≤ M) (hM2 : M ≤ 2200000000) (h0 : -M ≤ x) (h1 : x ≤ M) (n0 : 0 ≤ n) (n1 : n ≤ 20) : shl .i64 x n = x * 2 ^ n.toNat := by
  unfold shl
  rw [Nat.min_eq_left (show n.toNat ≤ IntKind.i64.bits by simp [IntKind.bits]; omega)]
  have hp := pow_small n1
  have hb := mul_bnd h0 h1 hM hp.1 hp.2
  generalize x * 2 ^ n.toNat = y at hb
  simp only [IntKind.wrap, IntKind.bits, IntKind.signed]
  simp
  omega
theorem rd_snoc_old (vs : List Int) (v : Int) {i : Int} (h : i < vs.length) (h0 : 0 ≤ i) : rd (vs ++ [v]) i = rd vs i := by
  unfold rd
  rw [List.getD_eq_getElem?_getD, List.getD_eq_getElem?_getD, List.getElem?_append_left (by omega)]
theorem rd_snoc_new (vs : List Int) (v : Int) : rd (vs ++ [v]) (vs.length : Int) = v := by
  unfold rd
  rw [Int.toNat_natCast, List.getD_eq_getElem?_getD]; simp
theorem bnd_snoc {M : Int} {vs : List Int} (h : bnd M vs) {v : Int} (hv : -M ≤ v ∧ v ≤ M) : bnd M (vs ++ [v]) := fun x hx => by
  rcases List.mem_append.1 hx with h1 | h1
  · exact h x h1
  · simp at h1; subst h1; exact hv
theorem chk_len : ∀ (l : List Ad) (i : Nat) (acc ms : List Int), chk i acc l = some ms → ms.length = acc.length + l.length
  | [], _, acc, ms, h => by simp only [chk, Option.some.injEq] at h; subst h; simp
  | a :: l, i, acc, ms, h => by
    simp only [chk] at h
    split at h
    · split at h
      · have := chk_len l _ _ _ h; simp at this ⊢; omega
      · cases h
    · cases h
theorem chk_bnd : ∀ (l : List Ad) (i : Nat) (acc ms : List Int), bnd 2097152 acc → chk i acc l = some ms → bnd 2097152 ms
  | [], _, acc, ms, hb, h => by simp only [chk, Option.some.injEq] at h; subst h; exact hb
  | a :: l, i, acc, ms, hb, h => by
    simp only [chk] at h
    split at h
    · split at h
      · rename_i h1 h2
        exact chk_bnd l _ _ _ (bnd_snoc hb (inM_iff.1 h2)) h
      · cases h
    · cases h
theorem av_scale {vs : List Int} {a : Ad} (x : Int) (h0 : 0 ≤ a.f0) (h2 : 0 ≤ a.f2) : av (vs.map (· * x)) a = av vs a * x := by
  have e : ∀ i : Int, rd (vs.map (· * x)) i = rd vs i * x := fun i => by
    unfold rd
    rw [List.getD_eq_getElem?_getD, List.getD_eq_getElem?_getD, List.getElem?_map]
    cases vs[i.toNat]? <;> simp
  unfold av
  rw [e, e]
  split <;> grind
theorem siValues_step (L : List Ad) (acc : List Int) (i : Nat) (hlt : i < L.length) (hL : L.length ≤ 1000000) (ha : acc.length = i + 1) (hbx : bnd 2097152000 acc) (hok : okA i L[i] = true) {r : List Int}
    (h : Ev (fun k => spec_siValues.l0 k (acc ++ [av acc L[i]]) L (L.length : Int) ((i + 1 : Nat) : Int)) r) : Ev (fun k => spec_siValues.l0 k acc L (L.length : Int) i) r := by
  obtain ⟨⟨q0, q1⟩, ⟨q2, q3⟩, ⟨q4, q5⟩, q6, q7⟩ := okA_iff.1 hok
  have b0 := bnd_rd hbx (by omega) L[i].f0
  have b2 := bnd_rd hbx (by omega) L[i].f2
  have s0 := shl_val 2097152000 (by omega) (by omega) b0.1 b0.2 q4 q5
  have s2 := shl_val 2097152000 (by omega) (by omega) b2.1 b2.2 q6 q7
  have p1 := pow_small q5
  have p3 := pow_small q7
  have t0 := mul_bnd b0.1 b0.2 (by omega) p1.1 p1.2
  have t2 := mul_bnd b2.1 b2.2 (by omega) p3.1 p3.2
  have ei : ((i + 1 : Nat) : Int) = (i : Int) + 1 := by omega
  rw [ei] at h
  refine up ?_
  simp only [spec_siValues.l0, if_pos (show (i : Int) < (L.length : Int) by omega), if_pos (show (0 : Int) ≤ (i : Int) by omega), rdA_at hlt, if_pos q0, if_pos q2, if_pos q4, if_pos q6,
    if_pos (show L[i].f0 < (acc.length : Int) by omega), if_pos (show L[i].f2 < (acc.length : Int) by omega),
    if_pos (show acc.length < 17592186044416 by omega), wid (x := (i : Int) + 1) (by omega) (by omega), s0, s2]
  unfold av at h
  by_cases hm : L[i].f4 = true
  · simp only [if_pos hm] at h ⊢
    rw [wid (x := -(rd acc L[i].f2 * 2 ^ L[i].f3.toNat)) (by omega) (by omega), wid (by omega) (by omega), ← Int.sub_eq_add_neg]
    exact h
  · simp only [if_neg hm] at h ⊢
    rw [wid (by omega) (by omega)]
    exact h
theorem bnd_scale {acc : List Int} (hb : bnd 2097152 acc) {x : Int} (hx0 : -1000 ≤ x) (hx1 : x ≤ 1000) : bnd 2097152000 (acc.map (· * x)) := fun v hv => by
  obtain ⟨u, hu, rfl⟩ := List.mem_map.1 hv
  have hb' := hb u hu
  have m1 : -(2097152 * 1000) ≤ u * x ∧ u * x ≤ 2097152 * 1000 := by
    rcases Int.le_total 0 x with hx | hx
    · have a1 := Int.mul_le_mul_of_nonneg_right hb'.2 hx
      have a0 := Int.mul_le_mul_of_nonneg_right hb'.1 hx
      omega
    · have a1 := Int.mul_le_mul_of_nonpos_right hb'.2 hx
      have a0 := Int.mul_le_mul_of_nonpos_right hb'.1 hx
      omega
  omega
/-- As far as adders are valid, the reference's values for an input are their multiples times the input. -/
theorem siValues_upto (L : List Ad) (x : Int) (hx0 : -1000 ≤ x) (hx1 : x ≤ 1000) (hL : L.length ≤ 1000000) : ∀ (d i : Nat) (acc ms : List Int), i + d ≤ L.length → acc.length = i + 1 → bnd 2097152 acc → chk i acc ((L.drop i).take d) = some ms → ∀ {r : List Int},
    Ev (fun k => spec_siValues.l0 k (ms.map (· * x)) L (L.length : Int) ((i + d : Nat) : Int)) r → Ev (fun k => spec_siValues.l0 k (acc.map (· * x)) L (L.length : Int) i) r := by
  intro d
  induction d with
  | zero =>
    intro i acc ms hi ha hb hc r hr
    simp only [List.take_zero, chk, Option.some.injEq] at hc
    subst hc
    exact hr
  | succ d ih =>
    intro i acc ms hi ha hb hc r hr
    have hlt : i < L.length := by omega
    rw [List.drop_eq_getElem_cons hlt, List.take_succ_cons] at hc
    simp only [chk] at hc
    split at hc
    · rename_i hok
      split at hc
      · rename_i hin
        obtain ⟨⟨q0, q1⟩, ⟨q2, q3⟩, _⟩ := okA_iff.1 hok
        have hv := inM_iff.1 hin
        have hav := av_scale (vs := acc) (a := L[i]) x q0 q2
        have ih := ih (i + 1) (acc ++ [av acc L[i]]) ms (by omega) (by simp; omega) (bnd_snoc hb hv) hc (by rw [show i + 1 + d = i + (d + 1) by omega]; exact hr)
        rw [List.map_append, List.map_cons, List.map_nil, ← hav] at ih
        exact siValues_step L (acc.map (· * x)) i hlt hL (by rw [List.length_map]; exact ha) (bnd_scale hb hx0 hx1) hok ih
      · cases hc
    · cases hc
theorem siValues_end (L : List Ad) (acc : List Int) : Ev (fun k => spec_siValues.l0 k acc L (L.length : Int) (L.length : Int)) acc := by
  refine up ?_
  simp only [spec_siValues.l0, if_neg (show ¬ (L.length : Int) < (L.length : Int) by omega)]
  exact Ev.now _
theorem bnd_one : bnd 2097152 [1] := fun v hv => by simp at hv; subst hv; omega
theorem siValues_val (L : List Ad) (x : Int) (hx0 : -1000 ≤ x) (hx1 : x ≤ 1000) (hL : L.length ≤ 1000000) {ms : List Int} (hc : chk 0 [1] L = some ms) : Ev (fun k => spec_siValues.f k L x) (ms.map (· * x)) := by
  have := siValues_upto L x hx0 hx1 hL L.length 0 [1] ms (by omega) rfl bnd_one (by simpa using hc) (r := ms.map (· * x)) (by simpa using siValues_end L _)
  simpa [spec_siValues.f] using this
theorem map_one (l : List Int) : l.map (· * 1) = l := by simp
/-- The values of the first i + 1 adders, the last of which need not be in range. -/
theorem siValues_last (L : List Ad) (hL : L.length ≤ 1000000) (i : Nat) (hi : i < L.length) {acc : List Int} (hc : chk 0 [1] (L.take i) = some acc) (hok : okA i L[i] = true) : Ev (fun k => spec_siValues.f k (L.take (i + 1)) 1) (acc ++ [av acc L[i]]) := by
  have hlen : (L.take (i + 1)).length = i + 1 := by rw [List.length_take]; omega
  have hb := chk_bnd _ _ _ _ bnd_one hc
  have hal := chk_len _ _ _ _ hc
  rw [List.length_take] at hal
  have e : ((L.take (i + 1)).drop 0).take i = L.take i := by rw [List.drop_zero, List.take_take]; congr 1; omega
  have hg : (L.take (i + 1))[i]'(by omega) = L[i] := List.getElem_take ..
  have hend := siValues_end (L.take (i + 1)) (acc ++ [av acc L[i]])
  have hstep := siValues_step (L.take (i + 1)) acc i (by omega) (by omega) (by simp at hal; omega) (fun v hv => by have := hb v hv; omega) (by rw [hg]; exact hok) (r := acc ++ [av acc L[i]]) (by rw [hg, show ((i + 1 : Nat) : Int) = ((L.take (i + 1)).length : Int) by rw [hlen]]; exact hend)
  have := siValues_upto (L.take (i + 1)) 1 (by omega) (by omega) (by omega) i 0 [1] acc (by omega) rfl bnd_one (by rw [e]; exact hc) (r := acc ++ [av acc L[i]]) (by rw [map_one, Nat.zero_add]; exact hstep)
  rw [map_one] at this
  exact this
theorem chk_take (L : List Ad) : ∀ (d i : Nat) (acc : List Int), i + d ≤ L.length → ∀ {ms : List Int}, chk i acc ((L.drop i).take d) = some ms → ∀ (e : Nat), i + d + e ≤ L.length → chk i acc ((L.drop i).take (d + e)) = chk (i + d) ms ((L.drop (i + d)).take e) := by
  intro d
  induction d with
  | zero => intro i acc hi ms hc e he; simp only [List.take_zero, chk, Option.some.injEq] at hc; subst hc; simp
  | succ d ih =>
    intro i acc hi ms hc e he
    have hlt : i < L.length := by omega
    rw [List.drop_eq_getElem_cons hlt, List.take_succ_cons] at hc
    rw [List.drop_eq_getElem_cons hlt, show d + 1 + e = (d + e) + 1 by omega, List.take_succ_cons]
    simp only [chk] at hc ⊢
    split at hc
    · rename_i h1
      split at hc
      · rename_i h2
        rw [if_pos h1, if_pos h2, ih (i + 1) _ (by omega) hc e (by omega), show i + 1 + d = i + (d + 1) by omega]
      · cases hc
    · cases hc
theorem allIn_snoc (a b : Int) (l : List Int) (v : Int) : allIn a b (l ++ [v]) = (allIn a b l && (decide (a ≤ v) && decide (v ≤ b))) := by
  unfold allIn; rw [List.all_append]; simp
theorem allIn_of_bnd {l : List Int} (h : bnd 2097152 l) : allIn (-2097152) 2097152 l = true := by
  unfold allIn
  rw [List.all_eq_true]
  intro v hv
  have := h v hv
  simp only [Bool.and_eq_true, decide_eq_true_eq]; exact this
theorem specAdders_loop (L : List Ad) (hL : L.length ≤ 1000000) : ∀ (d i : Nat) (acc : List Int), i + d = L.length → chk 0 [1] (L.take i) = some acc → Ev (fun k => spec_siAdders.l0 k L L (L.length : Int) i) ((chk i acc (L.drop i)).isSome) := by
  intro d
  induction d with
  | zero =>
    intro i acc hi hc
    refine up ?_
    rw [List.drop_of_length_le (by omega)]
    simp only [spec_siAdders.l0, if_neg (show ¬ (i : Int) < (L.length : Int) by omega), chk]
    exact Ev.now _
  | succ d ih =>
    intro i acc hi hc
    have hlt : i < L.length := by omega
    rw [List.drop_eq_getElem_cons hlt]
    have hb := chk_bnd _ _ _ _ bnd_one hc
    have jt : Ev (fun k => spec_siAdders.j1 k L i L (L.length : Int) i true) false := by refine up ?_; simp only [spec_siAdders.j1, if_true]; exact Ev.now _
    have jf : okA i L[i] = true → Ev (fun k => spec_siAdders.j1 k L i L (L.length : Int) i false) ((chk i acc (L[i] :: L.drop (i + 1))).isSome) := fun hok => by
      have hl := siValues_last L hL i hlt hc hok
      refine up ?_
      simp only [spec_siAdders.j1, Bool.false_eq_true, if_false, wid (x := (i : Int) + 1) (by omega) (by omega), if_pos (show (0 : Int) ≤ (i : Int) + 1 by omega), if_pos (show (i : Int) + 1 ≤ (L.length : Int) by omega), show ((i : Int) + 1).toNat = i + 1 by omega]
      refine Ev.bind hl ?_
      have hlen : (acc ++ [av acc L[i]]).length ≤ 17592186044416 := by
        have := chk_len _ _ _ _ hc
        rw [List.length_take] at this
        simp at this ⊢; omega
      refine Ev.bind (l1All_val (-2097152) 2097152 _ hlen) ?_
      simp only [chk, if_pos hok]
      rw [allIn_snoc, allIn_of_bnd hb, Bool.true_and]
      cases hin : inM (av acc L[i]) with
      | true =>
        rw [show (decide (-2097152 ≤ av acc L[i]) && decide (av acc L[i] ≤ 2097152)) = true from hin]
        simp only [if_true]
        have hn : chk 0 [1] (L.take (i + 1)) = some (acc ++ [av acc L[i]]) := by
          have := chk_take L i 0 [1] (by omega) (by rw [List.drop_zero]; exact hc) 1 (by omega)
          rw [List.drop_zero, Nat.zero_add] at this
          rw [this, List.drop_eq_getElem_cons hlt, List.take_succ_cons, List.take_zero]
          simp only [chk, if_pos hok, hin, if_true]
        exact ih (i + 1) _ (by omega) hn
      | false =>
        rw [show (decide (-2097152 ≤ av acc L[i]) && decide (av acc L[i] ≤ 2097152)) = false from hin]
        simp only [Bool.false_eq_true, if_false]
        exact Ev.now _
    refine up ?_
    simp only [spec_siAdders.l0, if_pos (show (i : Int) < (L.length : Int) by omega), if_pos (show (0 : Int) ≤ (i : Int) by omega), rdA_at hlt, l1In_val, Option.bind_some]
    cases h0 : (decide (0 ≤ L[i].f0) && decide (L[i].f0 ≤ (i : Int))) with
    | false =>
      have : okA i L[i] = false := by unfold okA; rw [h0]; rfl
      simp only [Bool.false_eq_true, if_false, chk, this]; exact jt
    | true =>
      simp only [if_true]
      cases h2 : (decide (0 ≤ L[i].f2) && decide (L[i].f2 ≤ (i : Int))) with
      | false =>
        have : okA i L[i] = false := by unfold okA; rw [h0, h2]; rfl
        simp only [Bool.false_eq_true, if_false, chk, this]; exact jt
      | true =>
        simp only [if_true]
        cases h1 : (decide (0 ≤ L[i].f1) && decide (L[i].f1 ≤ 20)) with
        | false =>
          have : okA i L[i] = false := by unfold okA; rw [h0, h2, h1]; rfl
          simp only [Bool.false_eq_true, if_false, chk, this]; exact jt
        | true =>
          simp only [if_true]
          cases h3 : (decide (0 ≤ L[i].f3) && decide (L[i].f3 ≤ 20)) with
          | false =>
            have : okA i L[i] = false := by unfold okA; rw [h0, h2, h1, h3]; rfl
            simp only [Bool.not_false, chk, this, Bool.false_eq_true, if_false]; exact jt
          | true =>
            have : okA i L[i] = true := by unfold okA; rw [h0, h2, h1, h3]; rfl
            simp only [Bool.not_true]; exact jf this
def addersB (L : List Ad) : Bool := decide (L.length ≤ 24) && (chk 0 [1] L).isSome
theorem specAdders (L : List Ad) (hL : L.length ≤ 1000000) : Ev (fun k => spec_siAdders.f k L) (addersB L) := by
  unfold addersB
  by_cases h : L.length ≤ 24
  · simp only [spec_siAdders.f, if_neg (show ¬ (L.length : Int) > 24 by omega), h, decide_true, Bool.true_and]
    exact specAdders_loop L hL L.length 0 [1] (by omega) rfl
  · simp only [spec_siAdders.f, if_pos (show (L.length : Int) > 24 by omega), h, decide_false, Bool.false_and]
    exact Ev.now _
theorem in_val (x a b : Int) : impl_in.f x a b = some (decide (a ≤ x) && decide (x ≤ b)) := by
  unfold impl_in.f
  by_cases h : x ≥ a
  · rw [if_pos h]; simp [show a ≤ x from h]
  · rw [if_neg h]; simp [show ¬ a ≤ x from h]
theorem value_val (acc : List Int) (a : Ad) (i : Nat) (ha : acc.length = i + 1) (hb : bnd 2097152 acc) (hok : okA i a = true) : impl_Adder_value.f a.f0 a.f1 a.f2 a.f3 a.f4 acc = some (av acc a) := by
  obtain ⟨⟨q0, q1⟩, ⟨q2, q3⟩, ⟨q4, q5⟩, q6, q7⟩ := okA_iff.1 hok
  have b0 := bnd_rd hb (by omega) a.f0
  have b2 := bnd_rd hb (by omega) a.f2
  have s0 := shl_val 2097152 (by omega) (by omega) b0.1 b0.2 q4 q5
  have s2 := shl_val 2097152 (by omega) (by omega) b2.1 b2.2 q6 q7
  have p1 := pow_small q5
  have p3 := pow_small q7
  have t0 := mul_bnd b0.1 b0.2 (by omega) p1.1 p1.2
  have t2 := mul_bnd b2.1 b2.2 (by omega) p3.1 p3.2
  unfold impl_Adder_value.f av
  rw [if_pos q0, if_pos (show a.f0 < (acc.length : Int) by omega), if_pos q4, if_pos q2, if_pos (show a.f2 < (acc.length : Int) by omega), if_pos q6, s0, s2, wid (by omega) (by omega), wid (by omega) (by omega)]
  split <;> rfl
def multR (L : List Ad) (o : Option (List Int)) : List Int × Bool := match o with | some ms => (ms, decide (L.length ≤ 24)) | none => ([], false)
theorem multiples_loop (L : List Ad) (hL : L.length ≤ 1000000) : ∀ (d i : Nat) (acc : List Int), i + d = L.length → acc.length = i + 1 → bnd 2097152 acc → Ev (fun k => impl_multiples.l0 k L 1 acc L (L.length : Int) i) (multR L (chk i acc (L.drop i))) := by
  intro d
  induction d with
  | zero =>
    intro i acc hi ha hb
    refine up ?_
    rw [List.drop_of_length_le (by omega)]
    simp only [impl_multiples.l0, if_neg (show ¬ (i : Int) < (L.length : Int) by omega), chk, multR]
    have e : decide ((L.length : Int) ≤ 24) = decide (L.length ≤ 24) := by
      by_cases h : L.length ≤ 24
      · rw [decide_eq_true h, decide_eq_true (by omega)]
      · rw [decide_eq_false h, decide_eq_false (by omega)]
    rw [e]
    exact Ev.now _
  | succ d ih =>
    intro i acc hi ha hb
    have hlt : i < L.length := by omega
    rw [List.drop_eq_getElem_cons hlt]
    have jt : Ev (fun k => impl_multiples.j1 k L 1 acc i L (L.length : Int) i true L[i].f0 L[i].f1 L[i].f2 L[i].f3 L[i].f4) ([], false) := by refine up ?_; simp only [impl_multiples.j1, if_true]; exact Ev.now _
    have jf : okA i L[i] = true → Ev (fun k => impl_multiples.j1 k L 1 acc i L (L.length : Int) i false L[i].f0 L[i].f1 L[i].f2 L[i].f3 L[i].f4) (multR L (chk i acc (L[i] :: L.drop (i + 1)))) := fun hok => by
      have hx : rd (acc ++ [av acc L[i]]) ((i : Int) + 1) = av acc L[i] := by
        have := rd_snoc_new acc (av acc L[i])
        rw [ha] at this
        rw [show (i : Int) + 1 = ((i + 1 : Nat) : Int) by omega]; exact this
      refine up ?_
      simp only [impl_multiples.j1, Bool.false_eq_true, if_false, value_val acc L[i] i ha hb hok, Option.bind_some, if_pos (show acc.length < 17592186044416 by omega), if_true, wid (x := (i : Int) + 1) (by omega) (by omega), if_pos (show (0 : Int) ≤ (i : Int) + 1 by omega), if_pos (show (i : Int) + 1 < ((acc ++ [av acc L[i]]).length : Int) by simp; omega), hx, in_val, chk, if_pos hok]
      cases hin : inM (av acc L[i]) with
      | true =>
        rw [show (decide (-2097152 ≤ av acc L[i]) && decide (av acc L[i] ≤ 2097152)) = true from hin]
        simp only [if_true]
        exact ih (i + 1) _ (by omega) (by simp; omega) (bnd_snoc hb (inM_iff.1 hin))
      | false =>
        rw [show (decide (-2097152 ≤ av acc L[i]) && decide (av acc L[i] ≤ 2097152)) = false from hin]
        simp only [Bool.false_eq_true, if_false, multR]
        exact Ev.now _
    refine up ?_
    simp only [impl_multiples.l0, if_pos (show (i : Int) < (L.length : Int) by omega), if_pos (show (0 : Int) ≤ (i : Int) by omega), rdA_at hlt, in_val, Option.bind_some]
    cases h0 : (decide (0 ≤ L[i].f0) && decide (L[i].f0 ≤ (i : Int))) with
    | false =>
      have : okA i L[i] = false := by unfold okA; rw [h0]; rfl
      simp only [Bool.false_eq_true, if_false, chk, this, multR]; exact jt
    | true =>
      simp only [if_true]
      cases h2 : (decide (0 ≤ L[i].f2) && decide (L[i].f2 ≤ (i : Int))) with
      | false =>
        have : okA i L[i] = false := by unfold okA; rw [h0, h2]; rfl
        simp only [Bool.false_eq_true, if_false, chk, this, multR]; exact jt
      | true =>
        simp only [if_true]
        cases h1 : (decide (0 ≤ L[i].f1) && decide (L[i].f1 ≤ 20)) with
        | false =>
          have : okA i L[i] = false := by unfold okA; rw [h0, h2, h1]; rfl
          simp only [Bool.false_eq_true, if_false, chk, this, multR]; exact jt
        | true =>
          simp only [if_true]
          cases h3 : (decide (0 ≤ L[i].f3) && decide (L[i].f3 ≤ 20)) with
          | false =>
            have : okA i L[i] = false := by unfold okA; rw [h0, h2, h1, h3]; rfl
            simp only [Bool.not_false, chk, this, Bool.false_eq_true, if_false, multR]; exact jt
          | true =>
            have : okA i L[i] = true := by unfold okA; rw [h0, h2, h1, h3]; rfl
            simp only [Bool.not_true]; exact jf this
theorem multiples_val (L : List Ad) (hL : L.length ≤ 1000000) : Ev (fun k => impl_multiples.f k L 1) (multR L (chk 0 [1] L)) := by
  have := multiples_loop L hL L.length 0 [1] (by omega) rfl bnd_one
  simpa [impl_multiples.f] using this
theorem multR_snd (L : List Ad) : (multR L (chk 0 [1] L)).2 = addersB L := by
  unfold multR addersB
  cases chk 0 [1] L <;> simp
theorem implAdders (L : List Ad) (hL : L.length ≤ 1000000) : Ev (fun k => impl_IsAdders.f k L) (addersB L) := by
  simp only [impl_IsAdders.f]
  refine Ev.bind (multiples_val L hL) ?_
  rw [multR_snd]
  exact Ev.now _
def runV (L : List Ad) (x : Int) : List Int × Bool := if addersB L = true then (if (decide (-1000 ≤ x) && decide (x ≤ 1000)) = true then (((chk 0 [1] L).getD []).map (· * x), true) else ([], false)) else ([], false)
theorem addersB_some {L : List Ad} (h : addersB L = true) : L.length ≤ 24 ∧ ∃ ms, chk 0 [1] L = some ms := by
  unfold addersB at h
  rw [Bool.and_eq_true, decide_eq_true_eq, Option.isSome_iff_exists] at h
  exact h
theorem specRun (L : List Ad) (x : Int) (hL : L.length ≤ 1000000) : Ev (fun k => spec_RunAdders.f k L x) (runV L x) := by
  simp only [spec_RunAdders.f, l1In_val, Option.bind_some]
  refine Ev.bind (specAdders L hL) ?_
  unfold runV
  by_cases h : addersB L = true
  · obtain ⟨hl, ms, hm⟩ := addersB_some h
    simp only [h, if_true, hm, Option.getD_some]
    by_cases hx : (decide (-1000 ≤ x) && decide (x ≤ 1000)) = true
    · simp only [hx, if_true]
      have hx' := hx
      rw [Bool.and_eq_true, decide_eq_true_eq, decide_eq_true_eq] at hx'
      exact Ev.bind (siValues_val L x hx'.1 hx'.2 hL hm) (Ev.now _)
    · simp only [hx, if_false]; exact Ev.now _
  · simp only [h, if_false]; exact Ev.now _
theorem scale_loop (x : Int) (hx0 : -1000 ≤ x) (hx1 : x ≤ 1000) (b : Bool) (ms : List Int) (hb : bnd 2097152 ms) (hl : ms.length ≤ 1000) : ∀ (d i : Nat), i + d = ms.length → Ev (fun k => impl_RunAdders.l0 k x ((ms.take i).map (· * x) ++ ms.drop i) b (ms.length : Int) i) (ms.map (· * x), b) := by
  intro d
  induction d with
  | zero =>
    intro i hi
    refine up ?_
    simp only [impl_RunAdders.l0, if_neg (show ¬ (i : Int) < (ms.length : Int) by omega)]
    rw [List.take_of_length_le (by omega), List.drop_of_length_le (by omega), List.append_nil]
    exact Ev.now _
  | succ d ih =>
    intro i hi
    have hlt : i < ms.length := by omega
    have hlen : ((ms.take i).map (· * x) ++ ms.drop i).length = ms.length := by simp; omega
    have hmid : ((ms.take i).map (· * x)).length = i := by simp; omega
    have hr : rd ((ms.take i).map (· * x) ++ ms.drop i) (i : Int) = ms[i] := by
      unfold rd
      rw [Int.toNat_natCast, List.getD_eq_getElem?_getD, List.getElem?_append_right (by omega), hmid, Nat.sub_self, List.getElem?_drop]
      simp [hlt]
    have hset : ((ms.take i).map (· * x) ++ ms.drop i).set i (ms[i] * x) = (ms.take (i + 1)).map (· * x) ++ ms.drop (i + 1) := by
      rw [List.set_append_right _ _ (by omega), hmid, Nat.sub_self, List.drop_eq_getElem_cons hlt, List.set_cons_zero, List.take_succ_eq_append_getElem hlt, List.map_append]
      simp
    have hv := bnd_scale hb hx0 hx1 (ms[i] * x) (List.mem_map.2 ⟨ms[i], List.getElem_mem hlt, rfl⟩)
    refine up ?_
    simp only [impl_RunAdders.l0, if_pos (show (i : Int) < (ms.length : Int) by omega), if_pos (show (0 : Int) ≤ (i : Int) by omega), if_pos (show (i : Int) < (((ms.take i).map (· * x) ++ ms.drop i).length : Int) by omega), hr, Int.toNat_natCast, wid (x := ms[i] * x) (by omega) (by omega), hset, wid (x := (i : Int) + 1) (by omega) (by omega)]
    exact ih (i + 1) (by omega)
theorem implRun (L : List Ad) (x : Int) (hL : L.length ≤ 1000000) : Ev (fun k => impl_RunAdders.f k L x) (runV L x) := by
  have j0t : Ev (fun k => impl_RunAdders.j0 k L x true) ([], false) := by refine up ?_; simp only [impl_RunAdders.j0, if_true]; exact Ev.now _
  simp only [impl_RunAdders.f, in_val, Option.bind_some]
  refine Ev.bind (implAdders L hL) ?_
  unfold runV
  by_cases h : addersB L = true
  · obtain ⟨hl, ms, hm⟩ := addersB_some h
    simp only [h, if_true, hm, Option.getD_some]
    by_cases hx : (decide (-1000 ≤ x) && decide (x ≤ 1000)) = true
    · simp only [hx, if_true, Bool.not_true]
      have hx' := hx
      rw [Bool.and_eq_true, decide_eq_true_eq, decide_eq_true_eq] at hx'
      refine up ?_
      simp only [impl_RunAdders.j0, Bool.false_eq_true, if_false]
      have hmv := multiples_val L hL
      rw [hm] at hmv
      refine Ev.bind hmv ?_
      simp only [multR, hl, decide_true]
      have hln := chk_len _ _ _ _ hm
      have := scale_loop x hx'.1 hx'.2 true ms (chk_bnd _ _ _ _ bnd_one hm) (by simp at hln; omega) ms.length 0 (by omega)
      simpa using this
    · simp only [hx, if_false, Bool.not_false]; exact j0t
  · simp only [h, if_false]; exact j0t
theorem wf_byte {x : Int} (h : (Lit.int .u8 x).wf = true) : 0 ≤ x ∧ x ≤ 255 := by
  simp only [Lit.wf, Bool.and_eq_true, decide_eq_true_eq] at h
  exact h
theorem rd_byte {l : List Int} (hl : ∀ x ∈ l, (Lit.int .u8 x).wf = true) (i : Int) (h0 : 0 ≤ i) (h1 : i < l.length) : 0 ≤ rd l i ∧ rd l i ≤ 255 := by
  unfold rd
  have hi : i.toNat < l.length := by omega
  rw [List.getD_eq_getElem?_getD, List.getElem?_eq_getElem hi]
  exact wf_byte (hl _ (List.getElem_mem hi))
theorem wrapU_range (n : Int) : 0 ≤ IntKind.u64.wrap n ∧ IntKind.u64.wrap n < 18446744073709551616 := by
  simp only [IntKind.wrap, IntKind.bits, IntKind.signed, Bool.false_eq_true, false_and, if_false]
  simp
  omega
theorem and255 (x : Int) : 0 ≤ Go.bits .and .u64 (IntKind.u64.wrap x / 1099511627776) 255 ∧ Go.bits .and .u64 (IntKind.u64.wrap x / 1099511627776) 255 ≤ 255 := by
  have h := wrapU_range x
  have hw : ∀ n : Int, 0 ≤ n → n < 2 ^ 40 → IntKind.u64.wrap n = n := by
    intro n h0 h1
    have e : (2 : Int) ^ 40 = 1099511627776 := by decide
    simp only [IntKind.wrap, IntKind.bits, IntKind.signed, Bool.false_eq_true, false_and, if_false]
    simp
    omega
  have e : (2 : Int) ^ 40 = 1099511627776 := by decide
  have hb : Go.bits .and .u64 (IntKind.u64.wrap x / 1099511627776) ((2 : Int) ^ 8 - 1) = (IntKind.u64.wrap x / 1099511627776) % 2 ^ 8 := bits_mask .u64 40 (by decide) hw 8 (by decide) _ (by omega) (by omega)
  have e1 : (2 : Int) ^ 8 - 1 = 255 := by decide
  have e2 : (2 : Int) ^ 8 = 256 := by decide
  rw [e1, e2] at hb
  rw [hb]; omega
theorem next_ok {l : List Int} (hl : ∀ x ∈ l, (Lit.int .u8 x).wf = true) (p s : Int) (h0 : 0 ≤ p) (h1 : p ≤ 1000000000000) : ∃ v s', spec_l1Cur_next.f l p s = some (v, p + 1, s') ∧ 0 ≤ v ∧ v ≤ 255 := by
  unfold spec_l1Cur_next.f
  rw [wid (x := p + 1) (by omega) (by omega)]
  by_cases hlt : p < (l.length : Int)
  · have hb := rd_byte hl p h0 hlt
    rw [if_pos hlt, if_pos h0, if_pos (show p + 1 ≤ (l.length : Int) by omega), wid (x := rd l p) (by omega) (by omega)]
    exact ⟨_, _, rfl, by omega, by omega⟩
  · rw [if_neg hlt]
    by_cases hle : p + 1 ≤ (l.length : Int)
    · omega
    · rw [if_neg hle]
      have := and255 (IntKind.u64.wrap (IntKind.u64.wrap (s * 6364136223846793005)) + 1442695040888963407)
      rw [wid (by omega) (by omega)]
      exact ⟨_, _, rfl, this.1, this.2⟩
theorem pick_ok {l : List Int} (hl : ∀ x ∈ l, (Lit.int .u8 x).wf = true) (p s n : Int) (h0 : 0 ≤ p) (h1 : p ≤ 100000000000) : ∃ v p' s', spec_l1Cur_pick.f l p s n = some (v, p', s') ∧ 0 ≤ v ∧ (1 ≤ n → v < n) ∧ p ≤ p' ∧ p' ≤ p + 2 := by
  unfold spec_l1Cur_pick.f
  by_cases hn : n ≤ 1
  · rw [if_pos hn]; exact ⟨0, p, s, rfl, by omega, by omega, by omega, by omega⟩
  · rw [if_neg hn]
    obtain ⟨v, s1, e1, hv0, hv1⟩ := next_ok hl p s h0 (by omega)
    rw [e1]; simp only [Option.bind_some]
    by_cases hb : n > 200
    · obtain ⟨u, s2, e2, hu0, hu1⟩ := next_ok hl (p + 1) s1 (by omega) (by omega)
      rw [if_pos hb, e2]; simp only [Option.bind_some]
      rw [if_neg (by omega), wid (x := v * 256) (by omega) (by omega), wid (x := v * 256 + u) (by omega) (by omega), Int.tmod_eq_emod_of_nonneg (by omega)]
      have r1 := Int.emod_nonneg (v * 256 + u) (show n ≠ 0 by omega)
      have r2 := Int.emod_lt_of_pos (v * 256 + u) (show 0 < n by omega)
      exact ⟨_, _, _, rfl, r1, fun _ => r2, by omega, by omega⟩
    · rw [if_neg hb, if_neg (by omega), Int.tmod_eq_emod_of_nonneg (by omega)]
      have r1 := Int.emod_nonneg v (show n ≠ 0 by omega)
      have r2 := Int.emod_lt_of_pos v (show 0 < n by omega)
      exact ⟨_, _, _, rfl, r1, fun _ => r2, by omega, by omega⟩
theorem one_ok {l : List Int} (hl : ∀ x ∈ l, (Lit.int .u8 x).wf = true) (p s n : Int) (h0 : 0 ≤ p) (h1 : p ≤ 100000000000) : ∃ v p' s', spec_l1Cur_one.f l p s n = some (v, p', s') ∧ p ≤ p' ∧ p' ≤ p + 2 := by
  obtain ⟨v, p', s', e, _, _, a, b⟩ := pick_ok hl p s n h0 h1
  exact ⟨(v == 0), p', s', by simp only [spec_l1Cur_one.f, e, Option.bind_some], a, b⟩
theorem among_ok {l : List Int} (hl : ∀ x ∈ l, (Lit.int .u8 x).wf = true) (p s : Int) (h0 : 0 ≤ p) (h1 : p ≤ 100000000000) (t : List Int) (ht : 1 ≤ t.length) : ∃ v p' s', spec_l1Cur_among.f l p s t = some (v, p', s') ∧ v ∈ t ∧ p ≤ p' ∧ p' ≤ p + 2 := by
  obtain ⟨v, p', s', e, v0, v1, a, b⟩ := pick_ok hl p s t.length h0 h1
  have hv := v1 (by omega)
  refine ⟨rd t v, p', s', by simp only [spec_l1Cur_among.f, e, Option.bind_some, if_pos v0, if_pos hv], ?_, a, b⟩
  unfold rd
  have hi : v.toNat < t.length := by omega
  rw [List.getD_eq_getElem?_getD, List.getElem?_eq_getElem hi]
  exact List.getElem_mem hi
/-- How many digits are other than 0. -/
def wt : List Int → Nat
  | [] => 0
  | d :: l => (if d = 0 then 0 else 1) + wt l
theorem wt_le : ∀ l, wt l ≤ l.length
  | [] => Nat.le_refl _
  | d :: l => by have := wt_le l; unfold wt; split <;> simp only [List.length_cons] <;> omega
theorem specWeight_loop (l : List Int) (hl : l.length ≤ 1000000) : ∀ (d i : Nat) (n : Nat), i + d = l.length → n ≤ i → Ev (fun k => spec_siWeight.l0 k n l (l.length : Int) i) ((n + wt (l.drop i) : Nat) : Int) := by
  intro d
  induction d with
  | zero =>
    intro i n h hn
    refine up ?_
    simp only [spec_siWeight.l0, if_neg (show ¬ (i : Int) < (l.length : Int) by omega)]
    rw [List.drop_of_length_le (by omega)]
    exact Ev.now _
  | succ d ih =>
    intro i n h hn
    have hi : i < l.length := by omega
    refine up ?_
    simp only [spec_siWeight.l0, if_pos (show (i : Int) < (l.length : Int) by omega), if_pos (show (0 : Int) ≤ (i : Int) by omega), wid (x := (i : Int) + 1) (by omega) (by omega), wid (x := (n : Int) + 1) (by omega) (by omega), rd_at hi]
    rw [List.drop_eq_getElem_cons hi, wt]
    by_cases hz : l[i] = 0
    · simp only [hz, if_true]
      have := ih (i + 1) n (by omega) (by omega)
      rw [show n + (0 + wt (l.drop (i + 1))) = n + wt (l.drop (i + 1)) by omega]; exact this
    · simp only [hz, if_false]
      have := ih (i + 1) (n + 1) (by omega) (by omega)
      rw [show n + (1 + wt (l.drop (i + 1))) = n + 1 + wt (l.drop (i + 1)) by omega]; exact this
theorem specWeight (l : List Int) (hl : l.length ≤ 1000000) : Ev (fun k => spec_siWeight.f k l) (wt l : Int) := by
  have := specWeight_loop l hl l.length 0 0 (by omega) (by omega)
  simpa [spec_siWeight.f] using this
/-- The window digit of a number, for the width whose power of two is t. -/
def dig (t n : Int) : Int := if n % 2 = 0 then 0 else if n % t > t / 2 then n % t - t else n % t
/-- The window digits of a number whose size is at most 2^f. -/
def win (t : Int) : Nat → Int → List Int
  | 0, n => if n = 0 then [] else [n]
  | f + 1, n => if n = 0 then [] else dig t n :: win t f ((n - dig t n) / 2)
def Pw (t : Int) : Prop := t = 4 ∨ t = 8 ∨ t = 16 ∨ t = 32 ∨ t = 64
theorem win_nil (t : Int) (f : Nat) : win t f 0 = [] := by cases f <;> simp [win]
theorem win_length (t : Int) : ∀ (f : Nat) (n : Int), (win t f n).length ≤ f + 1
  | 0, n => by unfold win; split <;> simp
  | f + 1, n => by
    unfold win
    split
    · simp
    · have := win_length t f ((n - dig t n) / 2); simp only [List.length_cons]; omega
theorem dig_even {t : Int} (ht : Pw t) (n : Int) : (n - dig t n) % 2 = 0 := by
  unfold dig Pw at *
  rcases ht with rfl | rfl | rfl | rfl | rfl <;> (split <;> (try split) <;> omega)
theorem dig_size {t : Int} (ht : Pw t) (n : Int) : -32 < dig t n ∧ dig t n < 32 := by
  unfold dig Pw at *
  rcases ht with rfl | rfl | rfl | rfl | rfl <;> (split <;> (try split) <;> omega)
theorem dig_one {t : Int} (ht : Pw t) {n : Int} (h0 : n ≠ 0) (h1 : -1 ≤ n) (h2 : n ≤ 1) : dig t n = n := by
  have : n = 1 ∨ n = -1 := by omega
  unfold Pw at ht
  rcases ht with rfl | rfl | rfl | rfl | rfl <;> rcases this with rfl | rfl <;> decide
theorem dig_next_aux {t P Q n : Int} (ht : Pw t) (hPQ : P = 2 * Q) (hP : (P = 2 ∨ P = 4 ∨ P = 8 ∨ P = 16 ∨ P = 32) ∨ ∃ p, P = 64 * p) (h0 : -P ≤ n) (h1 : n ≤ P) : -Q ≤ (n - dig t n) / 2 ∧ (n - dig t n) / 2 ≤ Q := by
  unfold dig
  unfold Pw at ht
  rcases ht with rfl | rfl | rfl | rfl | rfl <;> rcases hP with (rfl | rfl | rfl | rfl | rfl) | ⟨p, rfl⟩ <;> (split <;> (try split) <;> omega)
theorem two_pow_int (f : Nat) : (2 : Int) ^ (f + 1) = 2 * 2 ^ f := by rw [Int.pow_succ]; omega
theorem dig_next {t : Int} (ht : Pw t) (f : Nat) {n : Int} (h0 : -(2 ^ (f + 1)) ≤ n) (h1 : n ≤ 2 ^ (f + 1)) : -(2 ^ f) ≤ (n - dig t n) / 2 ∧ (n - dig t n) / 2 ≤ 2 ^ f := by
  refine dig_next_aux ht (two_pow_int f) ?_ h0 h1
  rcases Nat.lt_or_ge f 5 with hf | hf
  · have hc : f = 0 ∨ f = 1 ∨ f = 2 ∨ f = 3 ∨ f = 4 := by omega
    left
    rcases hc with rfl | rfl | rfl | rfl | rfl <;> decide
  · obtain ⟨g, rfl⟩ : ∃ g, f = g + 5 := ⟨f - 5, by omega⟩
    right
    exact ⟨2 ^ g, by simp only [Int.pow_succ]; omega⟩
theorem pow20 {f : Nat} (hf : f ≤ 20) : (2 : Int) ^ f ≤ 1048576 := by
  have h := Nat.pow_le_pow_right (n := 2) (by omega) hf
  have e : ((2 ^ f : Nat) : Int) = (2 : Int) ^ f := by simp
  omega
theorem tmod_in {a b : Int} (hb : 0 < b) : -b < Int.tmod a b ∧ Int.tmod a b < b := ⟨Int.lt_tmod_of_pos a hb, Int.tmod_lt_of_pos a hb⟩
theorem posmod {a b : Int} (hb : 0 < b) (hb2 : b ≤ 1000000000000000) : Int.tmod (wrap64 ((Int.tmod a b) + b)) b = a % b := by
  have h := tmod_in (a := a) hb
  rw [wid (by omega) (by omega), Int.tmod_eq_emod_of_nonneg (by omega), Int.add_emod_right]
  rw [Int.tmod_def, Int.sub_mul_emod_self_left]
theorem odd_test (x : Int) : Int.tmod x 2 = 0 ↔ x % 2 = 0 := by
  rw [← Int.dvd_iff_tmod_eq_zero, ← Int.dvd_iff_emod_eq_zero]
theorem half_even {x : Int} (h : x % 2 = 0) : Int.tdiv x 2 = x / 2 := Int.tdiv_eq_ediv_of_dvd (Int.dvd_of_emod_eq_zero h)
theorem siOdd_val (x : Int) : spec_siOdd.f x = some (decide (¬ x % 2 = 0)) := by
  unfold spec_siOdd.f
  by_cases h : x % 2 = 0
  · have := (odd_test x).2 h; simp [h, this]
  · have := mt (odd_test x).1 h; simp [h, this]
theorem specWin_step {t n : Int} (ht : Pw t) (hn0 : n ≠ 0) (h0 : -2000000 ≤ n) (h1 : n ≤ 2000000) (acc : List Int) (ha : acc.length < 1000) {r : List Int}
    (h : Ev (fun k => spec_siWindow.l0 k ((n - dig t n) / 2) (acc ++ [dig t n]) t) r) : Ev (fun k => spec_siWindow.l0 k n acc t) r := by
  have hd := dig_size ht n
  have he := dig_even ht n
  have ht2 : 0 < t ∧ t ≤ 64 := by unfold Pw at ht; omega
  have hth : wrap64 (Int.tdiv t 2) = t / 2 := by unfold Pw at ht; rcases ht with rfl | rfl | rfl | rfl | rfl <;> exact wid (by decide) (by decide)
  refine up ?_
  simp only [spec_siWindow.l0, if_neg hn0, siOdd_val, Option.bind_some]
  by_cases hp : n % 2 = 0
  · have hd0 : dig t n = 0 := by unfold dig; rw [if_pos hp]
    rw [hd0] at h he
    simp only [hp, not_true_eq_false, decide_false, Bool.false_eq_true, if_false, if_pos (show acc.length < 17592186044416 by omega), wid (x := n - 0) (by omega) (by omega), half_even he, wid (x := (n - 0) / 2) (by omega) (by omega)]
    exact h
  · have hm : 0 ≤ n % t ∧ n % t < t := ⟨Int.emod_nonneg _ (by omega), Int.emod_lt_of_pos _ (by omega)⟩
    simp only [hp, not_false_eq_true, decide_true, if_true, if_neg (show ¬ t = 0 by omega), posmod (a := n) (b := t) (by omega) (by omega), hth, if_pos (show acc.length < 17592186044416 by omega)]
    by_cases hb : n % t > t / 2
    · have hd1 : dig t n = n % t - t := by unfold dig; rw [if_neg hp, if_pos hb]
      rw [hd1] at h he
      simp only [if_pos hb, wid (x := n % t - t) (by omega) (by omega), wid (x := n - (n % t - t)) (by omega) (by omega), half_even he, wid (x := (n - (n % t - t)) / 2) (by omega) (by omega)]
      exact h
    · have hd1 : dig t n = n % t := by unfold dig; rw [if_neg hp, if_neg hb]
      rw [hd1] at h he
      simp only [if_neg hb, wid (x := n - n % t) (by omega) (by omega), half_even he, wid (x := (n - n % t) / 2) (by omega) (by omega)]
      exact h
theorem specWin_zero (t : Int) (acc : List Int) : Ev (fun k => spec_siWindow.l0 k 0 acc t) acc := by
  refine up ?_
  simp only [spec_siWindow.l0, if_true]
  exact Ev.now _
theorem specWin_loop {t : Int} (ht : Pw t) : ∀ (f : Nat) (n : Int) (acc : List Int), f ≤ 20 → -(2 ^ f) ≤ n → n ≤ 2 ^ f → acc.length + f < 1000 →
    Ev (fun k => spec_siWindow.l0 k n acc t) (acc ++ win t f n) := by
  intro f
  induction f with
  | zero =>
    intro n acc hf h0 h1 ha
    by_cases hn : n = 0
    · subst hn; rw [win_nil, List.append_nil]; exact specWin_zero t acc
    · have e := dig_one ht hn (by omega) (by omega)
      refine specWin_step ht hn (by omega) (by omega) acc (by omega) ?_
      rw [e, Int.sub_self, show (0 : Int) / 2 = 0 from rfl, show win t 0 n = [n] by unfold win; rw [if_neg hn]]
      exact specWin_zero t _
  | succ f ih =>
    intro n acc hf h0 h1 ha
    have hp := pow20 hf
    by_cases hn : n = 0
    · subst hn; rw [win_nil, List.append_nil]; exact specWin_zero t acc
    · have hx := dig_next ht f h0 h1
      have := ih ((n - dig t n) / 2) (acc ++ [dig t n]) (by omega) hx.1 hx.2 (by simp; omega)
      refine specWin_step ht hn (by omega) (by omega) acc (by omega) ?_
      rw [show win t (f + 1) n = dig t n :: win t f ((n - dig t n) / 2) by rw [win, if_neg hn]]
      simpa using this
theorem specWin {t w : Int} (ht : Pw t) (hw0 : 0 ≤ w) (hs : shl .i64 1 w = t) (n : Int) (h0 : -1000000 ≤ n) (h1 : n ≤ 1000000) : Ev (fun k => spec_siWindow.f k n w) (win t 20 n) := by
  have := specWin_loop ht 20 n [] (by omega) (by omega) (by omega) (by simp)
  simpa [spec_siWindow.f, if_pos hw0, hs] using this
/-- The adders for the digits below the i-th, going down. -/
def mkFrom (D : List Int) (top : Int) : Nat → List Ad → List Ad
  | 0, out => out
  | i + 1, out => if rd D (i : Int) = 0 then mkFrom D top i out else mkFrom D top i (out ++ [⟨(out.length : Int), if (out.length : Int) = 0 then top else 0, 0, (i : Int), decide (rd D (i : Int) < 0)⟩])
theorem mkFrom_len (D : List Int) (top : Int) : ∀ (i : Nat) (out : List Ad), (mkFrom D top i out).length ≤ out.length + i
  | 0, out => by simp [mkFrom]
  | i + 1, out => by
    unfold mkFrom
    split
    · have := mkFrom_len D top i out; omega
    · have := mkFrom_len D top i (out ++ [⟨(out.length : Int), if (out.length : Int) = 0 then top else 0, 0, (i : Int), decide (rd D (i : Int) < 0)⟩])
      simp only [List.length_append, List.length_singleton] at this; omega
theorem siMake_loop (D : List Int) (top : Int) (hD : D.length ≤ 1000) : ∀ (i : Nat) (out : List Ad), i ≤ D.length → out.length + i ≤ 1000 → Ev (fun k => spec_siMake.l0 k D top out ((i : Int) - 1)) (mkFrom D top i out) := by
  intro i
  induction i with
  | zero =>
    intro out _ _
    refine up ?_
    simp only [spec_siMake.l0, if_neg (show ¬ ((0 : Nat) : Int) - 1 ≥ 0 by omega), mkFrom]
    exact Ev.now _
  | succ i ih =>
    intro out hi ho
    have e : ((i + 1 : Nat) : Int) - 1 = (i : Int) := by omega
    refine up ?_
    simp only [spec_siMake.l0, e, if_pos (show (i : Int) ≥ 0 by omega), if_pos (show (0 : Int) ≤ (i : Int) by omega), if_pos (show (i : Int) < (D.length : Int) by omega), if_pos (show out.length < 3518437208883 by omega), wid (x := (i : Int) - 1) (by omega) (by omega), mkFrom]
    by_cases hz : rd D (i : Int) = 0
    · simp only [hz, if_true]; exact ih out (by omega) (by omega)
    · simp only [hz, if_false]
      by_cases h0 : (out.length : Int) = 0
      · simp only [h0, if_true]
        have := ih (out ++ [⟨(out.length : Int), if (out.length : Int) = 0 then top else 0, 0, (i : Int), decide (rd D (i : Int) < 0)⟩]) (by omega) (by simp; omega)
        simpa only [h0, if_true] using this
      · simp only [h0, if_false]
        have := ih (out ++ [⟨(out.length : Int), if (out.length : Int) = 0 then top else 0, 0, (i : Int), decide (rd D (i : Int) < 0)⟩]) (by omega) (by simp; omega)
        simpa only [h0, if_false] using this
theorem win_pos (t : Int) (f : Nat) {n : Int} (h : n ≠ 0) : 1 ≤ (win t f n).length := by
  cases f with
  | zero => simp [win, h]
  | succ f => simp [win, h]
/-- The reference's adders for a number of at least 1. -/
def makeV (n : Int) : List Ad :=
  if wt (win 4 20 n) = 1 then (if ((win 4 20 n).length : Int) - 1 = 0 then [] else [⟨0, ((win 4 20 n).length : Int) - 1 - 1, 0, ((win 4 20 n).length : Int) - 1 - 1, false⟩])
  else mkFrom (win 4 20 n) (((win 4 20 n).length : Int) - 1) ((win 4 20 n).length - 1) []
theorem makeV_len (n : Int) : (makeV n).length ≤ 21 := by
  have hl := win_length 4 20 n
  unfold makeV
  split
  · split <;> simp
  · have := mkFrom_len (win 4 20 n) (((win 4 20 n).length : Int) - 1) ((win 4 20 n).length - 1) []
    simp only [List.length_nil] at this; omega
theorem siMake_val {n : Int} (h0 : 1 ≤ n) (h1 : n ≤ 1000000) : Ev (fun k => spec_siMake.f k n) (makeV n) := by
  have hw := specWin (t := 4) (w := 2) (Or.inl rfl) (by omega) (by decide) n (by omega) h1
  have hl := win_length 4 20 n
  have hp := win_pos 4 20 (n := n) (by omega)
  simp only [spec_siMake.f]
  refine Ev.bind hw ?_
  refine Ev.bind (specWeight _ (by omega)) ?_
  unfold makeV
  by_cases hk : wt (win 4 20 n) = 1
  · have hk' : ((wt (win 4 20 n) : Nat) : Int) = 1 := by omega
    simp only [hk, hk', if_true, wid (x := ((win 4 20 n).length : Int) - 1) (by omega) (by omega), wid (x := ((win 4 20 n).length : Int) - 1 - 1) (by omega) (by omega)]
    by_cases h2 : ((win 4 20 n).length : Int) - 1 = 0
    · simp only [h2, if_true]; exact Ev.now _
    · simp only [h2, if_false]; exact Ev.now _
  · have hk' : ¬ ((wt (win 4 20 n) : Nat) : Int) = 1 := by omega
    simp only [hk, hk', if_false, wid (x := ((win 4 20 n).length : Int) - 1) (by omega) (by omega), wid (x := ((win 4 20 n).length : Int) - 1 - 1) (by omega) (by omega)]
    have := siMake_loop (win 4 20 n) (((win 4 20 n).length : Int) - 1) (by omega) ((win 4 20 n).length - 1) [] (by omega) (by simp; omega)
    rw [show (((win 4 20 n).length - 1 : Nat) : Int) = ((win 4 20 n).length : Int) - 1 by omega] at this
    exact this
def okNum (n : Int) : Bool := decide (-1000000 ≤ n) && decide (n ≤ 1000000)
theorem siNumber_val (n : Int) : spec_siNumber.f n = some (okNum n) := by simp only [spec_siNumber.f, l1In_val, Option.bind_some]; rfl
/-- The reference's adders for a number. -/
def addersV (n : Int) : List Ad × Bool :=
  if okNum n = true then (if n = 0 then ([⟨0, 0, 0, 0, true⟩], true) else if n > 0 then (makeV n, true) else (makeV (-n) ++ [⟨((makeV (-n)).length : Int), 0, ((makeV (-n)).length : Int), 1, true⟩], true)) else ([], false)
theorem specAddersOf (n : Int) : Ev (fun k => spec_AddersOf.f k n) (addersV n) := by
  simp only [spec_AddersOf.f, siNumber_val, Option.bind_some, addersV]
  by_cases h : okNum n = true
  · have h' := h
    unfold okNum at h'
    rw [Bool.and_eq_true, decide_eq_true_eq, decide_eq_true_eq] at h'
    simp only [h, if_true]
    by_cases h0 : n = 0
    · simp only [h0, if_true]; exact Ev.now _
    · simp only [h0, if_false]
      by_cases hp : n > 0
      · simp only [hp, if_true]
        exact Ev.bind (siMake_val (by omega) h'.2) (Ev.now _)
      · simp only [hp, if_false, wid (x := -n) (by omega) (by omega)]
        refine Ev.bind (siMake_val (n := -n) (by omega) (by omega)) ?_
        have := makeV_len (-n)
        simp only [if_pos (show (makeV (-n)).length < 3518437208883 by omega)]
        exact Ev.now _
  · simp only [h, if_false]; exact Ev.now _
theorem addersV_len (n : Int) : (addersV n).1.length ≤ 22 := by
  have h1 := makeV_len n
  have h2 := makeV_len (-n)
  unfold addersV
  split
  · split
    · simp
    · split
      · simp only []; omega
      · simp only [List.length_append, List.length_singleton]; omega
  · simp
theorem number9_ok {l : List Int} (hl : ∀ x ∈ l, (Lit.int .u8 x).wf = true) (p s : Int) (h0 : 0 ≤ p) (h1 : p ≤ 10000000000) : ∃ v p' s', spec_l1Cur_number9.f l p s = some (v, p', s') ∧ p ≤ p' ∧ p' ≤ p + 8 := by
  unfold spec_l1Cur_number9.f
  obtain ⟨v, p1, s1, e, _, _, a, b⟩ := pick_ok hl p s 10 h0 (by omega)
  rw [e]; simp only [Option.bind_some]
  by_cases c0 : v = 0
  · obtain ⟨u, p2, s2, e2, _, a2, b2⟩ := among_ok hl p1 s1 (by omega) (by omega) [0, 1, (-1), 1000000, (-1000000), 1000001, (-1000001), 4611686018427387904, (-9223372036854775808)] (by simp)
    rw [if_pos c0, e2]; exact ⟨_, p2, s2, rfl, by omega, by omega⟩
  rw [if_neg c0]
  by_cases c1 : v = 1
  · obtain ⟨u, p2, s2, e2, _, _, a2, b2⟩ := pick_ok hl p1 s1 60000 (by omega) (by omega)
    rw [if_pos c1, e2]; exact ⟨_, p2, s2, rfl, by omega, by omega⟩
  rw [if_neg c1]
  by_cases c2 : v = 2
  · obtain ⟨u, p2, s2, e2, u0, _, a2, b2⟩ := pick_ok hl p1 s1 20 (by omega) (by omega)
    obtain ⟨t, p3, s3, e3, _, _, a3, b3⟩ := pick_ok hl p2 s2 3 (by omega) (by omega)
    rw [if_pos c2, e2]; simp only [Option.bind_some]
    rw [if_pos u0, e3]; exact ⟨_, p3, s3, rfl, by omega, by omega⟩
  rw [if_neg c2]
  obtain ⟨u, p2, s2, e2, _, a2, b2⟩ := among_ok hl p1 s1 (by omega) (by omega) [20, 200, 2000] (by simp)
  obtain ⟨t, p3, s3, e3, _, _, a3, b3⟩ := pick_ok hl p2 s2 u (by omega) (by omega)
  obtain ⟨q, p4, s4, e4, _, a4, b4⟩ := among_ok hl p3 s3 (by omega) (by omega) [0, 10, 100] (by simp)
  rw [e2]; simp only [Option.bind_some]
  rw [e3]; simp only [Option.bind_some]
  rw [e4]; exact ⟨_, p4, s4, rfl, by omega, by omega⟩
theorem fill_ok {l : List Int} : ∀ (d : Nat) (L : List Ad) (n p s : Int), (L.length : Int) + d = n → n ≤ 100 → Ev (fun k => spec_l1Cur_adders.l1 k L n l p s) (L ++ List.replicate d ⟨0, 0, 0, 0, true⟩, p, s) := by
  intro d
  induction d with
  | zero =>
    intro L n p s h hn
    refine up ?_
    simp only [spec_l1Cur_adders.l1, if_neg (show ¬ (L.length : Int) < n by omega), List.replicate_zero, List.append_nil]
    exact Ev.now _
  | succ d ih =>
    intro L n p s h hn
    refine up ?_
    simp only [spec_l1Cur_adders.l1, if_pos (show (L.length : Int) < n by omega), if_pos (show L.length < 3518437208883 by omega)]
    have := ih (L ++ [⟨0, 0, 0, 0, true⟩]) n p s (by simp; omega) hn
    rw [List.append_assoc] at this
    exact this
theorem adders2_ok {l : List Int} (hl : ∀ x ∈ l, (Lit.int .u8 x).wf = true) (L : List Ad) (hL : L.length ≤ 50) (p s : Int) (h0 : 0 ≤ p) (h1 : p ≤ 1000000000) : ∃ r p' s', Ev (fun k => spec_l1Cur_adders.j2 k L l p s) (r, p', s') ∧ r.length ≤ 100 ∧ p ≤ p' ∧ p' ≤ p + 8 := by
  obtain ⟨v, p1, s1, e, a, b⟩ := one_ok hl p s 20 h0 (by omega)
  by_cases c : v = true
  · obtain ⟨u, p2, s2, e2, u0, u1, a2, b2⟩ := pick_ok hl p1 s1 2 (by omega) (by omega)
    have u2 := u1 (by omega)
    by_cases hlt : (L.length : Int) < 24 + u
    · refine ⟨L ++ List.replicate (24 + u - L.length).toNat ⟨0, 0, 0, 0, true⟩, p2, s2, up ?_, by simp; omega, by omega, by omega⟩
      simp only [spec_l1Cur_adders.j2, e, Option.bind_some, if_pos c, e2, wid (x := 24 + u) (by omega) (by omega)]
      exact fill_ok _ L (24 + u) p2 s2 (by omega) (by omega)
    · refine ⟨L, p2, s2, up ?_, by omega, by omega, by omega⟩
      simp only [spec_l1Cur_adders.j2, e, Option.bind_some, if_pos c, e2, wid (x := 24 + u) (by omega) (by omega)]
      refine up ?_
      simp only [spec_l1Cur_adders.l1, if_neg hlt]
      exact Ev.now _
  · refine ⟨L, p1, s1, up ?_, by omega, by omega, by omega⟩
    simp only [spec_l1Cur_adders.j2, e, Option.bind_some, if_neg c]
    exact Ev.now _
theorem adders0_ok {l : List Int} (hl : ∀ x ∈ l, (Lit.int .u8 x).wf = true) : ∀ (d : Nat) (L : List Ad) (p s : Int), L.length + d ≤ 20 → 0 ≤ p → p + 100 * d ≤ 100000000 → ∃ r p' s', Ev (fun k => spec_l1Cur_adders.l0 k L d l p s) (r, p', s') ∧ r.length ≤ 100 ∧ p ≤ p' ∧ p' ≤ p + 100 * d + 100 := by
  intro d
  induction d with
  | zero =>
    intro L p s hL h0 h1
    obtain ⟨v, p1, s1, e, a, b⟩ := one_ok hl p s 4 h0 (by omega)
    by_cases c : v = true
    · obtain ⟨n, p2, s2, e2, a2, b2⟩ := number9_ok hl p1 s1 (by omega) (by omega)
      by_cases hn : okNum n = true
      · obtain ⟨r, p3, s3, e3, hr, a3, b3⟩ := adders2_ok hl (addersV n).1 (by have := addersV_len n; omega) p2 s2 (by omega) (by omega)
        refine ⟨r, p3, s3, up ?_, hr, by omega, by omega⟩
        simp only [spec_l1Cur_adders.l0, if_neg (show ¬ ((0 : Nat) : Int) > 0 by omega), e, Option.bind_some, if_pos c, e2, siNumber_val, if_pos hn]
        exact Ev.bind (specAddersOf n) e3
      · obtain ⟨r, p3, s3, e3, hr, a3, b3⟩ := adders2_ok hl L (by omega) p2 s2 (by omega) (by omega)
        refine ⟨r, p3, s3, up ?_, hr, by omega, by omega⟩
        simp only [spec_l1Cur_adders.l0, if_neg (show ¬ ((0 : Nat) : Int) > 0 by omega), e, Option.bind_some, if_pos c, e2, siNumber_val, if_neg hn]
        exact e3
    · obtain ⟨r, p3, s3, e3, hr, a3, b3⟩ := adders2_ok hl L (by omega) p1 s1 (by omega) (by omega)
      refine ⟨r, p3, s3, up ?_, hr, by omega, by omega⟩
      simp only [spec_l1Cur_adders.l0, if_neg (show ¬ ((0 : Nat) : Int) > 0 by omega), e, Option.bind_some, if_neg c]
      exact e3
  | succ d ih =>
    intro L p s hL h0 h1
    have hw : wrap64 ((L.length : Int) + 1) = (L.length : Int) + 1 := wid (by omega) (by omega)
    have hd : wrap64 (((d + 1 : Nat) : Int) - 1) = (d : Int) := by rw [wid (by omega) (by omega)]; omega
    obtain ⟨v1, p1, s1, e1, _, _, a1, b1⟩ := pick_ok hl p s ((L.length : Int) + 1) h0 (by omega)
    obtain ⟨v2, p2, s2, e2, _, _, a2, b2⟩ := pick_ok hl p1 s1 4 (by omega) (by omega)
    obtain ⟨v3, p3, s3, e3, _, _, a3, b3⟩ := pick_ok hl p2 s2 ((L.length : Int) + 1) (by omega) (by omega)
    obtain ⟨v4, p4, s4, e4, _, _, a4, b4⟩ := pick_ok hl p3 s3 4 (by omega) (by omega)
    obtain ⟨v5, p5, s5, e5, a5, b5⟩ := one_ok hl p4 s4 3 (by omega) (by omega)
    obtain ⟨v6, p6, s6, e6, a6, b6⟩ := one_ok hl p5 s5 30 (by omega) (by omega)
    have J1 : ∀ (x : Int) (q t : Int), p6 ≤ q → q ≤ p6 + 4 → ∃ r p' s', Ev (fun k => spec_l1Cur_adders.j1 k L ((d + 1 : Nat) : Int) l q t x v2 v3 v4 v5) (r, p', s') ∧ r.length ≤ 100 ∧ p ≤ p' ∧ p' ≤ p + 100 * ((d + 1 : Nat) : Int) + 100 := by
      intro x q t hq0 hq1
      obtain ⟨v7, p7, s7, e7, a7, b7⟩ := one_ok hl q t 30 (by omega) (by omega)
      by_cases c : v7 = true
      · obtain ⟨v8, p8, s8, e8, _, a8, b8⟩ := among_ok hl p7 s7 (by omega) (by omega) [20, 21, (-1), 63] (by simp)
        obtain ⟨r, p', s', er, hr, ar, br⟩ := ih (L ++ [⟨x, v2, v3, v8, v5⟩]) p8 s8 (by simp; omega) (by omega) (by omega)
        refine ⟨r, p', s', up ?_, hr, by omega, by omega⟩
        simp only [spec_l1Cur_adders.j1, e7, Option.bind_some, if_pos c, e8, if_pos (show L.length < 3518437208883 by omega), hd]
        exact er
      · obtain ⟨r, p', s', er, hr, ar, br⟩ := ih (L ++ [⟨x, v2, v3, v4, v5⟩]) p7 s7 (by simp; omega) (by omega) (by omega)
        refine ⟨r, p', s', up ?_, hr, by omega, by omega⟩
        simp only [spec_l1Cur_adders.j1, e7, Option.bind_some, if_neg c, if_pos (show L.length < 3518437208883 by omega), hd]
        exact er
    by_cases c : v6 = true
    · obtain ⟨v7, p7, s7, e7, _, a7, b7⟩ := among_ok hl p6 s6 (by omega) (by omega) [(-1), (L.length : Int) + 1, 4611686018427387904] (by simp)
      obtain ⟨r, p', s', er, hr, ar, br⟩ := J1 v7 p7 s7 (by omega) (by omega)
      refine ⟨r, p', s', up ?_, hr, ar, br⟩
      simp only [spec_l1Cur_adders.l0, if_pos (show ((d + 1 : Nat) : Int) > 0 by omega), hw, e1, e2, e3, e4, e5, e6, e7, Option.bind_some, if_pos c]
      exact er
    · obtain ⟨r, p', s', er, hr, ar, br⟩ := J1 v1 p6 s6 (by omega) (by omega)
      refine ⟨r, p', s', up ?_, hr, ar, br⟩
      simp only [spec_l1Cur_adders.l0, if_pos (show ((d + 1 : Nat) : Int) > 0 by omega), hw, e1, e2, e3, e4, e5, e6, Option.bind_some, if_neg c]
      exact er
theorem adders_ok {l : List Int} (hl : ∀ x ∈ l, (Lit.int .u8 x).wf = true) : ∃ r p' s', Ev (fun k => spec_l1Cur_adders.f k l 0 0) (r, p', s') ∧ r.length ≤ 100 ∧ 0 ≤ p' ∧ p' ≤ 1000 := by
  obtain ⟨v, p1, s1, e, v0, v1, a, b⟩ := pick_ok hl 0 0 6 (by omega) (by omega)
  have v2 := v1 (by omega)
  obtain ⟨d, rfl⟩ := Int.eq_ofNat_of_zero_le v0
  obtain ⟨r, p', s', er, hr, ar, br⟩ := adders0_ok hl d [] p1 s1 (by simp; omega) (by omega) (by omega)
  refine ⟨r, p', s', ?_, hr, by omega, by omega⟩
  simp only [spec_l1Cur_adders.f, e, Option.bind_some]
  exact er
theorem drawRun_ok {l : List Int} (hl : ∀ x ∈ l, (Lit.int .u8 x).wf = true) : ∃ r x, Ev (fun k => spec_DrawRunAdders.f k l) (r, x) ∧ r.length ≤ 100 := by
  obtain ⟨r, p1, s1, e, hr, a, b⟩ := adders_ok hl
  obtain ⟨x, p2, s2, e2, _, a2, b2⟩ := among_ok hl p1 s1 a (by omega) [0, 1, (-1), 3, 17, 1000, (-1000), 1001, (-1001)] (by simp)
  refine ⟨r, x, ?_, hr⟩
  simp only [spec_DrawRunAdders.f]
  refine Ev.bind e ?_
  simp only [e2, Option.bind_some]
  exact Ev.now _
theorem rSame_loop (l : List Int) (hl : l.length ≤ 140737488351232) : ∀ (d : Nat) (i : Int), 0 ≤ i → i + d = l.length → Ev (fun k => laws_rSame.l0 k l l (l.length : Int) i) true := by
  intro d
  induction d with
  | zero =>
    intro i h0 h
    refine up ?_
    simp only [laws_rSame.l0, if_neg (show ¬ i < (l.length : Int) by omega)]
    exact Ev.now _
  | succ d ih =>
    intro i h0 h
    refine up ?_
    simp only [laws_rSame.l0, if_pos (show i < (l.length : Int) by omega), if_pos h0, if_true, wid (x := i + 1) (by omega) (by omega)]
    exact ih (i + 1) (by omega) (by omega)
theorem rSame_same (l : List Int) (hl : l.length ≤ 140737488351232) : Ev (fun k => laws_rSame.f k l l) true := by
  simp only [laws_rSame.f, if_true]
  exact rSame_loop l hl l.length 0 (by omega) (by omega)
theorem linear_loop (x : Int) (hx0 : -1000 ≤ x) (hx1 : x ≤ 1000) (ms : List Int) (hb : bnd 2097152 ms) (hl : ms.length ≤ 1000) : ∀ (d i : Nat), i + d = ms.length → Ev (fun k => laws_FnAddersAreLinear.l0 k x (ms.map (· * x)) ms (ms.length : Int) i) true := by
  intro d
  induction d with
  | zero =>
    intro i hi
    refine up ?_
    simp only [laws_FnAddersAreLinear.l0, if_neg (show ¬ (i : Int) < (ms.length : Int) by omega)]
    exact Ev.now _
  | succ d ih =>
    intro i hi
    have hlt : i < ms.length := by omega
    have hv := bnd_scale hb hx0 hx1 (ms[i] * x) (List.mem_map.2 ⟨ms[i], List.getElem_mem hlt, rfl⟩)
    have e : rd (ms.map (· * x)) (i : Int) = ms[i] * x := by rw [rd_at (by simpa using hlt)]; simp
    refine up ?_
    simp only [laws_FnAddersAreLinear.l0, if_pos (show (i : Int) < (ms.length : Int) by omega), if_pos (show (0 : Int) ≤ (i : Int) by omega), if_pos (show (i : Int) < ((ms.map (· * x)).length : Int) by simp; omega), rd_at hlt, e, wid (x := ms[i] * x) (by omega) (by omega), if_true, wid (x := (i : Int) + 1) (by omega) (by omega)]
    exact ih (i + 1) (by omega)
theorem main : laws_FnAddersAreLinear.Pure := by
  intro code more _ hc hcode _ hm _
  refine Ev.rounds ?_
  simp only [laws_FnAddersAreLinear.f, laws_big.f]
  by_cases hb : (code.length : Int) > 1048576
  · exact ⟨0, fun k _ => by simp only [if_pos hb, Option.bind_some, if_true]⟩
  simp only [if_neg hb, Option.bind_some, wid (x := 1048576 - (code.length : Int)) (by omega) (by omega)]
  by_cases hb2 : (more.length : Int) > 1048576 - (code.length : Int)
  · exact ⟨0, fun k _ => by simp only [hb2, decide_true, if_true]⟩
  simp only [hb2, decide_false, Bool.false_eq_true, if_false]
  obtain ⟨L, x, hd, hL⟩ := drawRun_ok hcode
  refine Ev.bind hd ?_
  refine Ev.bind (implRun L x (by omega)) ?_
  refine Ev.bind (specRun L x (by omega)) ?_
  simp only [bne_self_eq_false, Bool.false_eq_true, if_false]
  have hlen : (runV L x).1.length ≤ 140737488351232 := by
    unfold runV
    split
    · rename_i h
      obtain ⟨_, ms, hms⟩ := addersB_some h
      split
      · have := chk_len _ _ _ _ hms
        simp only [hms, Option.getD_some, List.length_map]; simp at this; omega
      · simp
    · simp
  refine Ev.bind (rSame_same _ hlen) ?_
  simp only [Bool.not_true]
  refine up ?_
  simp only [laws_FnAddersAreLinear.j0, Bool.false_eq_true, if_false]
  refine Ev.bind (implRun L 1 (by omega)) ?_
  refine Ev.bind (implAdders L (by omega)) ?_
  have j1f : ∀ (v w : List Int), Ev (fun k => laws_FnAddersAreLinear.j1 k x v false w false) true := fun v w => by
    refine up ?_
    simp only [laws_FnAddersAreLinear.j1, Bool.false_eq_true, if_false]
    exact Ev.now _
  by_cases h : addersB L = true
  · obtain ⟨hl, ms, hms⟩ := addersB_some h
    have e1 : runV L 1 = (ms, true) := by simp [runV, h, hms]
    rw [e1]
    by_cases hx : (decide (-1000 ≤ x) && decide (x ≤ 1000)) = true
    · have e2 : runV L x = (ms.map (· * x), true) := by simp only [runV, h, if_true, hx, hms, Option.getD_some]
      have hx' := hx
      rw [Bool.and_eq_true, decide_eq_true_eq, decide_eq_true_eq] at hx'
      simp only [h, e2, bne_self_eq_false, Bool.false_eq_true, if_false, if_true, Bool.not_true]
      refine up ?_
      simp only [laws_FnAddersAreLinear.j1, Bool.false_eq_true, if_false, if_true]
      have hln := chk_len _ _ _ _ hms
      exact linear_loop x hx'.1 hx'.2 ms (chk_bnd _ _ _ _ bnd_one hms) (by simp at hln; omega) ms.length 0 (by omega)
    · have e2 : runV L x = ([], false) := by simp only [runV, h, if_true]; exact if_neg hx
      simp only [h, e2, bne_self_eq_false, Bool.false_eq_true, if_false]
      exact j1f _ _
  · have e1 : runV L 1 = ([], false) := by unfold runV; exact if_neg h
    have e2 : runV L x = ([], false) := by unfold runV; exact if_neg h
    have hf : addersB L = false := by simpa using h
    simp only [hf, e1, e2, bne_self_eq_false, Bool.false_eq_true, if_false]
    exact j1f _ _
end Go.Proofs.Ytafnnnpcochnnaa.PureFnAddersAreLinearL
namespace Go.Proofs.Ytafnnnpcochnnaa.Pure
open Go.Proofs.Ytafnnnpcochnnaa.PFnAddersAreLinear
theorem FnAddersAreLinear : laws_FnAddersAreLinear.Pure := PureFnAddersAreLinearL.main
end Go.Proofs.Ytafnnnpcochnnaa.Pure
