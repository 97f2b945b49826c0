/- The program's RunAdders is the reference's, and gives lists that nothing else holds: the statement FnExactRunAdders holds for all arguments. -/
import Derived.Test.YtafnnnpcochnnaaPFnExactRunAddersx1
import Derived.Test.YtafnnnpcochnnaaPFnExactRunAddersx2
import Derived.Test.YtafnnnpcochnnaaPFnExactRunAddersx3
import Derived.Test.YtafnnnpcochnnaaPFnExactRunAddersx4
import Derived.Test.YtafnnnpcochnnaaPFnExactRunAddersx5
set_option linter.unusedVariables false
set_option linter.unusedSimpArgs false
namespace Go.Proofs.Ytafnnnpcochnnaa.PureFnExactRunAddersL
open Go.RowKit Go.Proofs.Ytafnnnpcochnnaa.PFnExactRunAdders Go.Proofs.YtafnnnpcochnnaaW.PrintWords Go.Proofs.YtafnnnpcochnnaaW.PrintLast Go.Proofs.YtafnnnpcochnnaaW.PrintMore
theorem up {α : Type} {g : Nat → Option α} {r : α} (h : Ev (fun k => g (k + 1)) r) : Ev g r := by
  obtain ⟨K, h⟩ := h
  refine ⟨K + 1, fun k hk => ?_⟩
  obtain ⟨m, rfl⟩ : ∃ m, k = m + 1 := ⟨k - 1, by omega⟩
  exact h m (by omega)
theorem wid {x : Int} (h0 : -9223372036854775808 ≤ x) (h1 : x ≤ 9223372036854775807) : wrap64 x = x := by unfold wrap64; omega
theorem ite_yes {α : Type} {c : Prop} [Decidable c] {a b : α} (h : c) : (if c then a else b) = a := if_pos h
theorem ite_no {α : Type} {c : Prop} [Decidable c] {a b : α} (h : ¬ c) : (if c then a else b) = b := if_neg h
theorem evsome {α β : Type} {x : Option α} {a : α} {f : Nat → α → Option β} {r : β} (hx : x = some a) (h : Ev (fun k => f k a) r) : Ev (fun k => x.bind (f k)) r := by subst hx; exact h
theorem if_pos_ev {α : Type} {c : Prop} [Decidable c] {f g : Nat → Option α} (h : c) : (fun k => if c then f k else g k) = f := funext fun k => if_pos h
theorem if_neg_ev {α : Type} {c : Prop} [Decidable c] {f g : Nat → Option α} (h : ¬ c) : (fun k => if c then f k else g k) = g := funext fun k => if_neg h
theorem rd_at {l : List Int} {i : Nat} (h : i < l.length) : rd l (i : Int) = l[i] := by
  unfold rd
  rw [Int.toNat_natCast, List.getD_eq_getElem?_getD, List.getElem?_eq_getElem h]; rfl
def allIn (a b : Int) (l : List Int) : Bool := l.all fun d => decide (a ≤ d) && decide (d ≤ b)
theorem l1In_val (x a b : Int) : spec_l1In.f x a b = some (decide (a ≤ x) && decide (x ≤ b)) := by
  unfold spec_l1In.f
  by_cases h : a ≤ x
  · rw [if_pos h]; simp [h]
  · rw [if_neg h]; simp [h]
theorem l1All_loop (a b : Int) (l : List Int) (hl : l.length ≤ 17592186044416) : ∀ (d i : Nat), i + d = l.length → Ev (fun k => spec_l1All.l0 k a b l (l.length : Int) i) (allIn a b (l.drop i)) := by
  intro d
  induction d with
  | zero =>
    intro i h
    refine up ?_
    simp only [spec_l1All.l0, if_neg (show ¬ (i : Int) < (l.length : Int) by omega)]
    rw [List.drop_of_length_le (by omega)]
    exact Ev.now _
  | succ d ih =>
    intro i h
    have hi : i < l.length := by omega
    refine up ?_
    simp only [spec_l1All.l0, if_pos (show (i : Int) < (l.length : Int) by omega), if_pos (show (0 : Int) ≤ (i : Int) by omega), l1In_val, Option.bind_some, wid (x := (i : Int) + 1) (by omega) (by omega), rd_at hi]
    have e : allIn a b (l.drop i) = ((decide (a ≤ l[i]) && decide (l[i] ≤ b)) && allIn a b (l.drop (i + 1))) := by
      rw [List.drop_eq_getElem_cons hi]; rfl
    rw [e]
    cases hb : (decide (a ≤ l[i]) && decide (l[i] ≤ b)) with
    | true => simp only [if_true, Bool.true_and]; exact ih (i + 1) (by omega)
    | false => simp only [Bool.false_eq_true, if_false, Bool.false_and]; exact Ev.now _
theorem l1All_val (a b : Int) (l : List Int) (hl : l.length ≤ 17592186044416) : Ev (fun k => spec_l1All.f k l a b) (allIn a b l) := l1All_loop a b l hl l.length 0 (by omega)
abbrev Ad := S69
theorem rdA_at {l : List Ad} {i : Nat} (h : i < l.length) : rd_T69 l (i : Int) = l[i] := by
  unfold rd_T69
  rw [Int.toNat_natCast, List.getD_eq_getElem?_getD, List.getElem?_eq_getElem h]; rfl
def okA (i : Int) (a : Ad) : Bool := (decide (0 ≤ a.f0) && decide (a.f0 ≤ i)) && ((decide (0 ≤ a.f2) && decide (a.f2 ≤ i)) && ((decide (0 ≤ a.f1) && decide (a.f1 ≤ 20)) && (decide (0 ≤ a.f3) && decide (a.f3 ≤ 20))))
theorem okA_iff {i : Int} {a : Ad} : okA i a = true ↔ (0 ≤ a.f0 ∧ a.f0 ≤ i) ∧ (0 ≤ a.f2 ∧ a.f2 ≤ i) ∧ (0 ≤ a.f1 ∧ a.f1 ≤ 20) ∧ 0 ≤ a.f3 ∧ a.f3 ≤ 20 := by
  unfold okA; simp only [Bool.and_eq_true, decide_eq_true_eq]
/-- The value of an adder, over the values before it. -/
def av (vs : List Int) (a : Ad) : Int := if a.f4 = true then rd vs a.f0 * 2 ^ a.f1.toNat - rd vs a.f2 * 2 ^ a.f3.toNat else rd vs a.f0 * 2 ^ a.f1.toNat + rd vs a.f2 * 2 ^ a.f3.toNat
def inM (v : Int) : Bool := decide (-2097152 ≤ v) && decide (v ≤ 2097152)
theorem inM_iff {v : Int} : inM v = true ↔ -2097152 ≤ v ∧ v ≤ 2097152 := by unfold inM; simp only [Bool.and_eq_true, decide_eq_true_eq]
/-- All values of adders, if they are valid from the i-th on. -/
def chk : Nat → List Int → List Ad → Option (List Int)
  | _, acc, [] => some acc
  | i, acc, a :: l => if okA i a = true then (if inM (av acc a) = true then chk (i + 1) (acc ++ [av acc a]) l else none) else none
def bnd (M : Int) (vs : List Int) : Prop := ∀ v ∈ vs, -M ≤ v ∧ v ≤ M
theorem bnd_rd {M : Int} {vs : List Int} (h : bnd M vs) (hM : 0 ≤ M) (i : Int) : -M ≤ rd vs i ∧ rd vs i ≤ M := by
  unfold rd
  rcases Nat.lt_or_ge i.toNat vs.length with h1 | h1
  · rw [List.getD_eq_getElem?_getD, List.getElem?_eq_getElem h1]
    exact h _ (List.getElem_mem h1)
  · rw [List.getD_eq_getElem?_getD, List.getElem?_eq_none h1]
    simp; omega
theorem pow_small {n : Int} (h1 : n ≤ 20) : (1 : Int) ≤ 2 ^ n.toNat ∧ (2 : Int) ^ n.toNat ≤ 1048576 := by
  have h := Nat.pow_le_pow_right (n := 2) (by omega) (show n.toNat ≤ 20 by omega)
  have e : ((2 ^ n.toNat : Nat) : Int) = (2 : Int) ^ n.toNat := by simp
  have hp : 0 < 2 ^ n.toNat := Nat.pow_pos (by omega)
  omega
theorem mul_bnd {x p M : Int} (h0 : -M ≤ x) (h1 : x ≤ M) (hM : 0 ≤ M) (p0 : 1 ≤ p) (p1 : p ≤ 1048576) : -(M * 1048576) ≤ x * p ∧ x * p ≤ M * 1048576 := by
  have a1 := Int.mul_le_mul_of_nonneg_right h1 (show (0 : Int) ≤ p by omega)
  have a0 := Int.mul_le_mul_of_nonneg_right h0 (show (0 : Int) ≤ p by omega)
  have b := Int.mul_le_mul_of_nonneg_left p1 hM
  have e : -M * p = -(M * p) := Int.neg_mul M p
  omega
theorem shl_val {x n : Int} (M : Int) (hM : 0 ≤ M) (hM2 : M ≤ 2200000000) (h0 : -M ≤ x) (h1 : x ≤ M) (n0 : 0 ≤ n) (n1 : n ≤ 20) : shl .i64 x n = x * 2 ^ n.toNat := by
  unfold shl
  rw [Nat.min_eq_left (show n.toNat ≤ IntKind.i64.bits by simp [IntKind.bits]; omega)]
  have hp := pow_small n1
  have hb := mul_bnd h0 h1 hM hp.1 hp.2
  generalize x * 2 ^ n.toNat = y at hb
  simp only [IntKind.wrap, IntKind.bits, IntKind.signed]
  simp
  omega
theorem rd_snoc_old (vs : List Int) (v : Int) {i : Int} (h : i < vs.length) (h0 : 0 ≤ i) : rd (vs ++ [v]) i = rd vs i := by
  unfold rd
  rw [List.getD_eq_getElem?_getD, List.getD_eq_getElem?_getD, List.getElem?_append_left (by omega)]
theorem rd_snoc_new (vs : List Int) (v : Int) : rd (vs ++ [v]) (vs.length : Int) = v := by
  unfold rd
  rw [Int.toNat_natCast, List.getD_eq_getElem?_getD]; simp
theorem bnd_snoc {M : Int} {vs : List Int} (h : bnd M vs) {v : Int} (hv : -M ≤ v ∧ v ≤ M) : bnd M (vs ++ [v]) := fun x hx => by
  rcases List.mem_append.1 hx with h1 | h1
  · exact h x h1
  · simp at h1; subst h1; exact hv
theorem chk_len : ∀ (l : List Ad) (i : Nat) (acc ms : List Int), chk i acc l = some ms → ms.length = acc.length + l.length
  | [], _, acc, ms, h => by simp only [chk, Option.some.injEq] at h; subst h; simp
  | a :: l, i, acc, ms, h => by
    simp only [chk] at h
    split at h
    · split at h
      · have := chk_len l _ _ _ h; simp at this ⊢; omega
      · cases h
    · cases h
theorem chk_bnd : ∀ (l : List Ad) (i : Nat) (acc ms : List Int), bnd 2097152 acc → chk i acc l = some ms → bnd 2097152 ms
  | [], _, acc, ms, hb, h => by simp only [chk, Option.some.injEq] at h; subst h; exact hb
  | a :: l, i, acc, ms, hb, h => by
    simp only [chk] at h
    split at h
    · split at h
      · rename_i h1 h2
        exact chk_bnd l _ _ _ (bnd_snoc hb (inM_iff.1 h2)) h
      · cases h
    · cases h
theorem av_scale {vs : List Int} {a : Ad} (x : Int) (h0 : 0 ≤ a.f0) (h2 : 0 ≤ a.f2) : av (vs.map (· * x)) a = av vs a * x := by
  have e : ∀ i : Int, rd (vs.map (· * x)) i = rd vs i * x := fun i => by
    unfold rd
    rw [List.getD_eq_getElem?_getD, List.getD_eq_getElem?_getD, List.getElem?_map]
    cases vs[i.toNat]? <;> simp
  unfold av
  rw [e, e]
  split <;> grind
theorem siValues_step (L : List Ad) (acc : List Int) (i : Nat) (hlt : i < L.length) (hL : L.length ≤ 2000000) (ha : acc.length = i + 1) (hbx : bnd 2097152000 acc) (hok : okA i L[i] = true) {r : List Int}
    (h : Ev (fun k => spec_siValues.l0 k (acc ++ [av acc L[i]]) L (L.length : Int) ((i + 1 : Nat) : Int)) r) : Ev (fun k => spec_siValues.l0 k acc L (L.length : Int) i) r := by
  obtain ⟨⟨q0, q1⟩, ⟨q2, q3⟩, ⟨q4, q5⟩, q6, q7⟩ := okA_iff.1 hok
  have b0 := bnd_rd hbx (by omega) L[i].f0
  have b2 := bnd_rd hbx (by omega) L[i].f2
  have s0 := shl_val 2097152000 (by omega) (by omega) b0.1 b0.2 q4 q5
  have s2 := shl_val 2097152000 (by omega) (by omega) b2.1 b2.2 q6 q7
  have p1 := pow_small q5
  have p3 := pow_small q7
  have t0 := mul_bnd b0.1 b0.2 (by omega) p1.1 p1.2
  have t2 := mul_bnd b2.1 b2.2 (by omega) p3.1 p3.2
  have ei : ((i + 1 : Nat) : Int) = (i : Int) + 1 := by omega
  rw [ei] at h
  refine up ?_
  simp only [spec_siValues.l0, if_pos (show (i : Int) < (L.length : Int) by omega), if_pos (show (0 : Int) ≤ (i : Int) by omega), rdA_at hlt, if_pos q0, if_pos q2, if_pos q4, if_pos q6,
    if_pos (show L[i].f0 < (acc.length : Int) by omega), if_pos (show L[i].f2 < (acc.length : Int) by omega),
    if_pos (show acc.length < 17592186044416 by omega), wid (x := (i : Int) + 1) (by omega) (by omega), s0, s2]
  unfold av at h
  by_cases hm : L[i].f4 = true
  · simp only [if_pos hm] at h ⊢
    rw [wid (x := -(rd acc L[i].f2 * 2 ^ L[i].f3.toNat)) (by omega) (by omega), wid (by omega) (by omega), ← Int.sub_eq_add_neg]
    exact h
  · simp only [if_neg hm] at h ⊢
    rw [wid (by omega) (by omega)]
    exact h
theorem bnd_scale {acc : List Int} (hb : bnd 2097152 acc) {x : Int} (hx0 : -1000 ≤ x) (hx1 : x ≤ 1000) : bnd 2097152000 (acc.map (· * x)) := fun v hv => by
  obtain ⟨u, hu, rfl⟩ := List.mem_map.1 hv
  have hb' := hb u hu
  have m1 : -(2097152 * 1000) ≤ u * x ∧ u * x ≤ 2097152 * 1000 := by
    rcases Int.le_total 0 x with hx | hx
    · have a1 := Int.mul_le_mul_of_nonneg_right hb'.2 hx
      have a0 := Int.mul_le_mul_of_nonneg_right hb'.1 hx
      omega
    · have a1 := Int.mul_le_mul_of_nonpos_right hb'.2 hx
      have a0 := Int.mul_le_mul_of_nonpos_right hb'.1 hx
      omega
  omega
/-- As far as adders are valid, the reference's values for an input are their multiples times the input. -/
theorem siValues_upto (L : List Ad) (x : Int) (hx0 : -1000 ≤ x) (hx1 : x ≤ 1000) (hL : L.length ≤ 2000000) : ∀ (d i : Nat) (acc ms : List Int), i + d ≤ L.length → acc.length = i + 1 → bnd 2097152 acc → chk i acc ((L.drop i).take d) = some ms → ∀ {r : List Int},
    Ev (fun k => spec_siValues.l0 k (ms.map (· * x)) L (L.length : Int) ((i + d : Nat) : Int)) r → Ev (fun k => spec_siValues.l0 k (acc.map (· * x)) L (L.length : Int) i) r := by
  intro d
  induction d with
  | zero =>
    intro i acc ms hi ha hb hc r hr
    simp only [List.take_zero, chk, Option.some.injEq] at hc
    subst hc
    exact hr
  | succ d ih =>
    intro i acc ms hi ha hb hc r hr
    have hlt : i < L.length := by omega
    rw [List.drop_eq_getElem_cons hlt, List.take_succ_cons] at hc
    simp only [chk] at hc
    split at hc
    · rename_i hok
      split at hc
      · rename_i hin
        obtain ⟨⟨q0, q1⟩, ⟨q2, q3⟩, _⟩ := okA_iff.1 hok
        have hv := inM_iff.1 hin
        have hav := av_scale (vs := acc) (a := L[i]) x q0 q2
        have ih := ih (i + 1) (acc ++ [av acc L[i]]) ms (by omega) (by simp; omega) (bnd_snoc hb hv) hc (by rw [show i + 1 + d = i + (d + 1) by omega]; exact hr)
        rw [List.map_append, List.map_cons, List.map_nil, ← hav] at ih
        exact siValues_step L (acc.map (· * x)) i hlt hL (by rw [List.length_map]; exact ha) (bnd_scale hb hx0 hx1) hok ih
      · cases hc
    · cases hc
theorem siValues_end (L : List Ad) (acc : List Int) : Ev (fun k => spec_siValues.l0 k acc L (L.length : Int) (L.length : Int)) acc := by
  refine up ?_
  simp only [spec_siValues.l0, if_neg (show ¬ (L.length : Int) < (L.length : Int) by omega)]
  exact Ev.now _
theorem bnd_one : bnd 2097152 [1] := fun v hv => by simp at hv; subst hv; omega
theorem siValues_val (L : List Ad) (x : Int) (hx0 : -1000 ≤ x) (hx1 : x ≤ 1000) (hL : L.length ≤ 2000000) {ms : List Int} (hc : chk 0 [1] L = some ms) : Ev (fun k => spec_siValues.f k L x) (ms.map (· * x)) := by
  have := siValues_upto L x hx0 hx1 hL L.length 0 [1] ms (by omega) rfl bnd_one (by simpa using hc) (r := ms.map (· * x)) (by simpa using siValues_end L _)
  simpa [spec_siValues.f] using this
theorem map_one (l : List Int) : l.map (· * 1) = l := by simp
/-- The values of the first i + 1 adders, the last of which need not be in range. -/
theorem siValues_last (L : List Ad) (hL : L.length ≤ 2000000) (i : Nat) (hi : i < L.length) {acc : List Int} (hc : chk 0 [1] (L.take i) = some acc) (hok : okA i L[i] = true) : Ev (fun k => spec_siValues.f k (L.take (i + 1)) 1) (acc ++ [av acc L[i]]) := by
  have hlen : (L.take (i + 1)).length = i + 1 := by rw [List.length_take]; omega
  have hb := chk_bnd _ _ _ _ bnd_one hc
  have hal := chk_len _ _ _ _ hc
  rw [List.length_take] at hal
  have e : ((L.take (i + 1)).drop 0).take i = L.take i := by rw [List.drop_zero, List.take_take]; congr 1; omega
  have hg : (L.take (i + 1))[i]'(by omega) = L[i] := List.getElem_take ..
  have hend := siValues_end (L.take (i + 1)) (acc ++ [av acc L[i]])
  have hstep := siValues_step (L.take (i + 1)) acc i (by omega) (by omega) (by simp at hal; omega) (fun v hv => by have := hb v hv; omega) (by rw [hg]; exact hok) (r := acc ++ [av acc L[i]]) (by rw [hg, show ((i + 1 : Nat) : Int) = ((L.take (i + 1)).length : Int) by rw [hlen]]; exact hend)
  have := siValues_upto (L.take (i + 1)) 1 (by omega) (by omega) (by omega) i 0 [1] acc (by omega) rfl bnd_one (by rw [e]; exact hc) (r := acc ++ [av acc L[i]]) (by rw [map_one, Nat.zero_add]; exact hstep)
  rw [map_one] at this
  exact this
theorem chk_take (L : List Ad) : ∀ (d i : Nat) (acc : List Int), i + d ≤ L.length → ∀ {ms : List Int}, chk i acc ((L.drop i).take d) = some ms → ∀ (e : Nat), i + d + e ≤ L.length → chk i acc ((L.drop i).take (d + e)) = chk (i + d) ms ((L.drop (i + d)).take e) := by
  intro d
  induction d with
  | zero => intro i acc hi ms hc e he; simp only [List.take_zero, chk, Option.some.injEq] at hc; subst hc; simp
  | succ d ih =>
    intro i acc hi ms hc e he
    have hlt : i < L.length := by omega
    rw [List.drop_eq_getElem_cons hlt, List.take_succ_cons] at hc
    rw [List.drop_eq_getElem_cons hlt, show d + 1 + e = (d + e) + 1 by omega, List.take_succ_cons]
    simp only [chk] at hc ⊢
    split at hc
    · rename_i h1
      split at hc
      · rename_i h2
        rw [if_pos h1, if_pos h2, ih (i + 1) _ (by omega) hc e (by omega), show i + 1 + d = i + (d + 1) by omega]
      · cases hc
    · cases hc
theorem allIn_snoc (a b : Int) (l : List Int) (v : Int) : allIn a b (l ++ [v]) = (allIn a b l && (decide (a ≤ v) && decide (v ≤ b))) := by
  unfold allIn; rw [List.all_append]; simp
theorem allIn_of_bnd {l : List Int} (h : bnd 2097152 l) : allIn (-2097152) 2097152 l = true := by
  unfold allIn
  rw [List.all_eq_true]
  intro v hv
  have := h v hv
  simp only [Bool.and_eq_true, decide_eq_true_eq]; exact this
theorem specAdders_loop (L : List Ad) (hL : L.length ≤ 2000000) : ∀ (d i : Nat) (acc : List Int), i + d = L.length → chk 0 [1] (L.take i) = some acc → Ev (fun k => spec_siAdders.l0 k L L (L.length : Int) i) ((chk i acc (L.drop i)).isSome) := by
  intro d
  induction d with
  | zero =>
    intro i acc hi hc
    refine up ?_
    rw [List.drop_of_length_le (by omega)]
    simp only [spec_siAdders.l0, if_neg (show ¬ (i : Int) < (L.length : Int) by omega), chk]
    exact Ev.now _
  | succ d ih =>
    intro i acc hi hc
    have hlt : i < L.length := by omega
    rw [List.drop_eq_getElem_cons hlt]
    have hb := chk_bnd _ _ _ _ bnd_one hc
    have jt : Ev (fun k => spec_siAdders.j1 k L i L (L.length : Int) i true) false := by refine up ?_; simp only [spec_siAdders.j1, if_true]; exact Ev.now _
    have jf : okA i L[i] = true → Ev (fun k => spec_siAdders.j1 k L i L (L.length : Int) i false) ((chk i acc (L[i] :: L.drop (i + 1))).isSome) := fun hok => by
      have hl := siValues_last L hL i hlt hc hok
      refine up ?_
      simp only [spec_siAdders.j1, Bool.false_eq_true, if_false, wid (x := (i : Int) + 1) (by omega) (by omega), if_pos (show (0 : Int) ≤ (i : Int) + 1 by omega), if_pos (show (i : Int) + 1 ≤ (L.length : Int) by omega), show ((i : Int) + 1).toNat = i + 1 by omega]
      refine Ev.bind hl ?_
      have hlen : (acc ++ [av acc L[i]]).length ≤ 17592186044416 := by
        have := chk_len _ _ _ _ hc
        rw [List.length_take] at this
        simp at this ⊢; omega
      refine Ev.bind (l1All_val (-2097152) 2097152 _ hlen) ?_
      simp only [chk, if_pos hok]
      rw [allIn_snoc, allIn_of_bnd hb, Bool.true_and]
      cases hin : inM (av acc L[i]) with
      | true =>
        rw [show (decide (-2097152 ≤ av acc L[i]) && decide (av acc L[i] ≤ 2097152)) = true from hin]
        simp only [if_true]
        have hn : chk 0 [1] (L.take (i + 1)) = some (acc ++ [av acc L[i]]) := by
          have := chk_take L i 0 [1] (by omega) (by rw [List.drop_zero]; exact hc) 1 (by omega)
          rw [List.drop_zero, Nat.zero_add] at this
          rw [this, List.drop_eq_getElem_cons hlt, List.take_succ_cons, List.take_zero]
          simp only [chk, if_pos hok, hin, if_true]
        exact ih (i + 1) _ (by omega) hn
      | false =>
        rw [show (decide (-2097152 ≤ av acc L[i]) && decide (av acc L[i] ≤ 2097152)) = false from hin]
        simp only [Bool.false_eq_true, if_false]
        exact Ev.now _
    refine up ?_
    simp only [spec_siAdders.l0, if_pos (show (i : Int) < (L.length : Int) by omega), if_pos (show (0 : Int) ≤ (i : Int) by omega), rdA_at hlt, l1In_val, Option.bind_some]
    cases h0 : (decide (0 ≤ L[i].f0) && decide (L[i].f0 ≤ (i : Int))) with
    | false =>
      have : okA i L[i] = false := by unfold okA; rw [h0]; rfl
      simp only [Bool.false_eq_true, if_false, chk, this]; exact jt
    | true =>
      simp only [if_true]
      cases h2 : (decide (0 ≤ L[i].f2) && decide (L[i].f2 ≤ (i : Int))) with
      | false =>
        have : okA i L[i] = false := by unfold okA; rw [h0, h2]; rfl
        simp only [Bool.false_eq_true, if_false, chk, this]; exact jt
      | true =>
        simp only [if_true]
        cases h1 : (decide (0 ≤ L[i].f1) && decide (L[i].f1 ≤ 20)) with
        | false =>
          have : okA i L[i] = false := by unfold okA; rw [h0, h2, h1]; rfl
          simp only [Bool.false_eq_true, if_false, chk, this]; exact jt
        | true =>
          simp only [if_true]
          cases h3 : (decide (0 ≤ L[i].f3) && decide (L[i].f3 ≤ 20)) with
          | false =>
            have : okA i L[i] = false := by unfold okA; rw [h0, h2, h1, h3]; rfl
            simp only [Bool.not_false, chk, this, Bool.false_eq_true, if_false]; exact jt
          | true =>
            have : okA i L[i] = true := by unfold okA; rw [h0, h2, h1, h3]; rfl
            simp only [Bool.not_true]; exact jf this
def addersB (L : List Ad) : Bool := decide (L.length ≤ 24) && (chk 0 [1] L).isSome
theorem specAdders (L : List Ad) (hL : L.length ≤ 2000000) : Ev (fun k => spec_siAdders.f k L) (addersB L) := by
  unfold addersB
  by_cases h : L.length ≤ 24
  · simp only [spec_siAdders.f, if_neg (show ¬ (L.length : Int) > 24 by omega), h, decide_true, Bool.true_and]
    exact specAdders_loop L hL L.length 0 [1] (by omega) rfl
  · simp only [spec_siAdders.f, if_pos (show (L.length : Int) > 24 by omega), h, decide_false, Bool.false_and]
    exact Ev.now _
theorem in_val (x a b : Int) : impl_in.f x a b = some (decide (a ≤ x) && decide (x ≤ b)) := by
  unfold impl_in.f
  by_cases h : x ≥ a
  · rw [if_pos h]; simp [show a ≤ x from h]
  · rw [if_neg h]; simp [show ¬ a ≤ x from h]
theorem value_val (acc : List Int) (a : Ad) (i : Nat) (ha : acc.length = i + 1) (hb : bnd 2097152 acc) (hok : okA i a = true) : impl_Adder_value.f a.f0 a.f1 a.f2 a.f3 a.f4 acc = some (av acc a) := by
  obtain ⟨⟨q0, q1⟩, ⟨q2, q3⟩, ⟨q4, q5⟩, q6, q7⟩ := okA_iff.1 hok
  have b0 := bnd_rd hb (by omega) a.f0
  have b2 := bnd_rd hb (by omega) a.f2
  have s0 := shl_val 2097152 (by omega) (by omega) b0.1 b0.2 q4 q5
  have s2 := shl_val 2097152 (by omega) (by omega) b2.1 b2.2 q6 q7
  have p1 := pow_small q5
  have p3 := pow_small q7
  have t0 := mul_bnd b0.1 b0.2 (by omega) p1.1 p1.2
  have t2 := mul_bnd b2.1 b2.2 (by omega) p3.1 p3.2
  unfold impl_Adder_value.f av
  rw [if_pos q0, if_pos (show a.f0 < (acc.length : Int) by omega), if_pos q4, if_pos q2, if_pos (show a.f2 < (acc.length : Int) by omega), if_pos q6, s0, s2, wid (by omega) (by omega), wid (by omega) (by omega)]
  split <;> rfl
def multR (L : List Ad) (o : Option (List Int)) : List Int × Bool := match o with | some ms => (ms, decide (L.length ≤ 24)) | none => ([], false)
theorem multiples_loop (L : List Ad) (hL : L.length ≤ 2000000) : ∀ (d i : Nat) (acc : List Int), i + d = L.length → acc.length = i + 1 → bnd 2097152 acc → Ev (fun k => impl_multiples.l0 k L 1 acc L (L.length : Int) i) (multR L (chk i acc (L.drop i))) := by
  intro d
  induction d with
  | zero =>
    intro i acc hi ha hb
    refine up ?_
    rw [List.drop_of_length_le (by omega)]
    simp only [impl_multiples.l0, if_neg (show ¬ (i : Int) < (L.length : Int) by omega), chk, multR]
    have e : decide ((L.length : Int) ≤ 24) = decide (L.length ≤ 24) := by
      by_cases h : L.length ≤ 24
      · rw [decide_eq_true h, decide_eq_true (by omega)]
      · rw [decide_eq_false h, decide_eq_false (by omega)]
    rw [e]
    exact Ev.now _
  | succ d ih =>
    intro i acc hi ha hb
    have hlt : i < L.length := by omega
    rw [List.drop_eq_getElem_cons hlt]
    have jt : Ev (fun k => impl_multiples.j1 k L 1 acc i L (L.length : Int) i true L[i].f0 L[i].f1 L[i].f2 L[i].f3 L[i].f4) ([], false) := by refine up ?_; simp only [impl_multiples.j1, if_true]; exact Ev.now _
    have jf : okA i L[i] = true → Ev (fun k => impl_multiples.j1 k L 1 acc i L (L.length : Int) i false L[i].f0 L[i].f1 L[i].f2 L[i].f3 L[i].f4) (multR L (chk i acc (L[i] :: L.drop (i + 1)))) := fun hok => by
      have hx : rd (acc ++ [av acc L[i]]) ((i : Int) + 1) = av acc L[i] := by
        have := rd_snoc_new acc (av acc L[i])
        rw [ha] at this
        rw [show (i : Int) + 1 = ((i + 1 : Nat) : Int) by omega]; exact this
      refine up ?_
      simp only [impl_multiples.j1, Bool.false_eq_true, if_false, value_val acc L[i] i ha hb hok, Option.bind_some, if_pos (show acc.length < 17592186044416 by omega), if_true, wid (x := (i : Int) + 1) (by omega) (by omega), if_pos (show (0 : Int) ≤ (i : Int) + 1 by omega), if_pos (show (i : Int) + 1 < ((acc ++ [av acc L[i]]).length : Int) by simp; omega), hx, in_val, chk, if_pos hok]
      cases hin : inM (av acc L[i]) with
      | true =>
        rw [show (decide (-2097152 ≤ av acc L[i]) && decide (av acc L[i] ≤ 2097152)) = true from hin]
        simp only [if_true]
        exact ih (i + 1) _ (by omega) (by simp; omega) (bnd_snoc hb (inM_iff.1 hin))
      | false =>
        rw [show (decide (-2097152 ≤ av acc L[i]) && decide (av acc L[i] ≤ 2097152)) = false from hin]
        simp only [Bool.false_eq_true, if_false, multR]
        exact Ev.now _
    refine up ?_
    simp only [impl_multiples.l0, if_pos (show (i : Int) < (L.length : Int) by omega), if_pos (show (0 : Int) ≤ (i : Int) by omega), rdA_at hlt, in_val, Option.bind_some]
    cases h0 : (decide (0 ≤ L[i].f0) && decide (L[i].f0 ≤ (i : Int))) with
    | false =>
      have : okA i L[i] = false := by unfold okA; rw [h0]; rfl
      simp only [Bool.false_eq_true, if_false, chk, this, multR]; exact jt
    | true =>
      simp only [if_true]
      cases h2 : (decide (0 ≤ L[i].f2) && decide (L[i].f2 ≤ (i : Int))) with
      | false =>
        have : okA i L[i] = false := by unfold okA; rw [h0, h2]; rfl
        simp only [Bool.false_eq_true, if_false, chk, this, multR]; exact jt
      | true =>
        simp only [if_true]
        cases h1 : (decide (0 ≤ L[i].f1) && decide (L[i].f1 ≤ 20)) with
        | false =>
          have : okA i L[i] = false := by unfold okA; rw [h0, h2, h1]; rfl
          simp only [Bool.false_eq_true, if_false, chk, this, multR]; exact jt
        | true =>
          simp only [if_true]
          cases h3 : (decide (0 ≤ L[i].f3) && decide (L[i].f3 ≤ 20)) with
          | false =>
            have : okA i L[i] = false := by unfold okA; rw [h0, h2, h1, h3]; rfl
            simp only [Bool.not_false, chk, this, Bool.false_eq_true, if_false, multR]; exact jt
          | true =>
            have : okA i L[i] = true := by unfold okA; rw [h0, h2, h1, h3]; rfl
            simp only [Bool.not_true]; exact jf this
theorem multiples_val (L : List Ad) (hL : L.length ≤ 2000000) : Ev (fun k => impl_multiples.f k L 1) (multR L (chk 0 [1] L)) := by
  have := multiples_loop L hL L.length 0 [1] (by omega) rfl bnd_one
  simpa [impl_multiples.f] using this
theorem multR_snd (L : List Ad) : (multR L (chk 0 [1] L)).2 = addersB L := by
  unfold multR addersB
  cases chk 0 [1] L <;> simp
theorem implAdders (L : List Ad) (hL : L.length ≤ 2000000) : Ev (fun k => impl_IsAdders.f k L) (addersB L) := by
  simp only [impl_IsAdders.f]
  refine Ev.bind (multiples_val L hL) ?_
  rw [multR_snd]
  exact Ev.now _
def runV (L : List Ad) (x : Int) : List Int × Bool := if addersB L = true then (if (decide (-1000 ≤ x) && decide (x ≤ 1000)) = true then (((chk 0 [1] L).getD []).map (· * x), true) else ([], false)) else ([], false)
theorem addersB_some {L : List Ad} (h : addersB L = true) : L.length ≤ 24 ∧ ∃ ms, chk 0 [1] L = some ms := by
  unfold addersB at h
  rw [Bool.and_eq_true, decide_eq_true_eq, Option.isSome_iff_exists] at h
  exact h
theorem specRun (L : List Ad) (x : Int) (hL : L.length ≤ 2000000) : Ev (fun k => spec_RunAdders.f k L x) (runV L x) := by
  simp only [spec_RunAdders.f, l1In_val, Option.bind_some]
  refine Ev.bind (specAdders L hL) ?_
  unfold runV
  by_cases h : addersB L = true
  · obtain ⟨hl, ms, hm⟩ := addersB_some h
    simp only [h, if_true, hm, Option.getD_some]
    by_cases hx : (decide (-1000 ≤ x) && decide (x ≤ 1000)) = true
    · simp only [hx, if_true]
      have hx' := hx
      rw [Bool.and_eq_true, decide_eq_true_eq, decide_eq_true_eq] at hx'
      exact Ev.bind (siValues_val L x hx'.1 hx'.2 hL hm) (Ev.now _)
    · simp only [hx, if_false]; exact Ev.now _
  · simp only [h, if_false]; exact Ev.now _
theorem scale_loop (x : Int) (hx0 : -1000 ≤ x) (hx1 : x ≤ 1000) (b : Bool) (ms : List Int) (hb : bnd 2097152 ms) (hl : ms.length ≤ 1000) : ∀ (d i : Nat), i + d = ms.length → Ev (fun k => impl_RunAdders.l0 k x ((ms.take i).map (· * x) ++ ms.drop i) b (ms.length : Int) i) (ms.map (· * x), b) := by
  intro d
  induction d with
  | zero =>
    intro i hi
    refine up ?_
    simp only [impl_RunAdders.l0, if_neg (show ¬ (i : Int) < (ms.length : Int) by omega)]
    rw [List.take_of_length_le (by omega), List.drop_of_length_le (by omega), List.append_nil]
    exact Ev.now _
  | succ d ih =>
    intro i hi
    have hlt : i < ms.length := by omega
    have hlen : ((ms.take i).map (· * x) ++ ms.drop i).length = ms.length := by simp; omega
    have hmid : ((ms.take i).map (· * x)).length = i := by simp; omega
    have hr : rd ((ms.take i).map (· * x) ++ ms.drop i) (i : Int) = ms[i] := by
      unfold rd
      rw [Int.toNat_natCast, List.getD_eq_getElem?_getD, List.getElem?_append_right (by omega), hmid, Nat.sub_self, List.getElem?_drop]
      simp [hlt]
    have hset : ((ms.take i).map (· * x) ++ ms.drop i).set i (ms[i] * x) = (ms.take (i + 1)).map (· * x) ++ ms.drop (i + 1) := by
      rw [List.set_append_right _ _ (by omega), hmid, Nat.sub_self, List.drop_eq_getElem_cons hlt, List.set_cons_zero, List.take_succ_eq_append_getElem hlt, List.map_append]
      simp
    have hv := bnd_scale hb hx0 hx1 (ms[i] * x) (List.mem_map.2 ⟨ms[i], List.getElem_mem hlt, rfl⟩)
    refine up ?_
    simp only [impl_RunAdders.l0, if_pos (show (i : Int) < (ms.length : Int) by omega), if_pos (show (0 : Int) ≤ (i : Int) by omega), if_pos (show (i : Int) < (((ms.take i).map (· * x) ++ ms.drop i).length : Int) by omega), hr, Int.toNat_natCast, wid (x := ms[i] * x) (by omega) (by omega), hset, wid (x := (i : Int) + 1) (by omega) (by omega)]
    exact ih (i + 1) (by omega)
theorem implRun (L : List Ad) (x : Int) (hL : L.length ≤ 2000000) : Ev (fun k => impl_RunAdders.f k L x) (runV L x) := by
  have j0t : Ev (fun k => impl_RunAdders.j0 k L x true) ([], false) := by refine up ?_; simp only [impl_RunAdders.j0, if_true]; exact Ev.now _
  simp only [impl_RunAdders.f, in_val, Option.bind_some]
  refine Ev.bind (implAdders L hL) ?_
  unfold runV
  by_cases h : addersB L = true
  · obtain ⟨hl, ms, hm⟩ := addersB_some h
    simp only [h, if_true, hm, Option.getD_some]
    by_cases hx : (decide (-1000 ≤ x) && decide (x ≤ 1000)) = true
    · simp only [hx, if_true, Bool.not_true]
      have hx' := hx
      rw [Bool.and_eq_true, decide_eq_true_eq, decide_eq_true_eq] at hx'
      refine up ?_
      simp only [impl_RunAdders.j0, Bool.false_eq_true, if_false]
      have hmv := multiples_val L hL
      rw [hm] at hmv
      refine Ev.bind hmv ?_
      simp only [multR, hl, decide_true]
      have hln := chk_len _ _ _ _ hm
      have := scale_loop x hx'.1 hx'.2 true ms (chk_bnd _ _ _ _ bnd_one hm) (by simp at hln; omega) ms.length 0 (by omega)
      simpa using this
    · simp only [hx, if_false, Bool.not_false]; exact j0t
  · simp only [h, if_false]; exact j0t
abbrev Ld := S88
def conv (a : Ld) : Ad := ⟨a.f0, a.f1, a.f2, a.f3, a.f4⟩
theorem rdL_at {l : List Ld} {i : Nat} (h : i < l.length) : rd_T88 l (i : Int) = l[i] := by
  unfold rd_T88
  rw [Int.toNat_natCast, List.getD_eq_getElem?_getD, List.getElem?_eq_getElem h]; rfl
theorem toAdderS_loop (l : List Ld) (hl : l.length ≤ 7036874417766) : ∀ (d : Nat) (i : Nat) (acc : List Ad), i + d = l.length → acc.length = l.length → (∀ j, j < i → acc[j]? = (l.map conv)[j]?) → Ev (fun k => laws_toAdderS.l0 k l acc i) (l.map conv) := by
  intro d
  induction d with
  | zero =>
    intro i acc h ha hj
    refine up ?_
    simp only [laws_toAdderS.l0, if_neg (show ¬ (i : Int) < (l.length : Int) by omega)]
    have : acc = l.map conv := List.ext_getElem? fun j => by
      rcases Nat.lt_or_ge j i with h1 | h1
      · exact hj j h1
      · rw [List.getElem?_eq_none (by omega), List.getElem?_eq_none (by rw [List.length_map]; omega)]
    rw [this]
    exact Ev.now _
  | succ d ih =>
    intro i acc h ha hj
    have hlt : i < l.length := by omega
    refine up ?_
    simp only [laws_toAdderS.l0, laws_toAdder.f, Option.bind_some, if_pos (show (i : Int) < (l.length : Int) by omega), if_pos (show (0 : Int) ≤ (i : Int) by omega), if_pos (show (i : Int) < (acc.length : Int) by omega), wid (x := (i : Int) + 1) (by omega) (by omega), Int.toNat_natCast, rdL_at hlt]
    refine ih (i + 1) _ (by omega) (by simp [ha]) fun j hj2 => ?_
    by_cases e : j = i
    · subst e
      rw [List.getElem?_set_self (by omega), List.getElem?_map, List.getElem?_eq_getElem hlt]
      rfl
    · rw [List.getElem?_set_ne (by omega)]
      exact hj j (by omega)
theorem toAdderS_val (l : List Ld) (hl : l.length ≤ 7036874417766) : Ev (fun k => laws_toAdderS.f k l) (l.map conv) := by
  simp only [laws_toAdderS.f, if_pos (show (0 : Int) ≤ (l.length : Int) by omega), Int.toNat_natCast, if_pos hl]
  exact toAdderS_loop l hl l.length 0 _ (by omega) (by simp) (fun j hj => by omega)
theorem eqAdderS_loop (l : List Ad) (hl : l.length ≤ 140737488351232) : ∀ (d : Nat) (i : Int), 0 ≤ i → i + d = l.length → Ev (fun k => laws_eqAdderS.l0 k l l i) true := by
  intro d
  induction d with
  | zero =>
    intro i h0 h
    refine up ?_
    simp only [laws_eqAdderS.l0, if_neg (show ¬ i < (l.length : Int) by omega)]
    exact Ev.now _
  | succ d ih =>
    intro i h0 h
    refine up ?_
    simp only [laws_eqAdderS.l0, laws_eqAdder.f, bne_self_eq_false, Bool.false_eq_true, if_false, Option.bind_some, if_pos (show i < (l.length : Int) by omega), if_pos h0, if_true, wid (x := i + 1) (by omega) (by omega)]
    exact ih (i + 1) (by omega) (by omega)
theorem eqAdderS_same (l : List Ad) (hl : l.length ≤ 140737488351232) : Ev (fun k => laws_eqAdderS.f k l l) true := by
  simp only [laws_eqAdderS.f, if_true]
  exact eqAdderS_loop l hl l.length 0 (by omega) (by omega)
theorem markAdderS_loop : ∀ (d i : Nat) (x : List Ad), i + d = x.length → x.length ≤ 2000000 → ∃ y, Ev (fun k => laws_markAdderS.l0 k x (1 + 5 * (i : Int)) i) (1 + 5 * (x.length : Int), y) := by
  intro d
  induction d with
  | zero =>
    intro i x h hx
    refine ⟨x, up ?_⟩
    simp only [laws_markAdderS.l0, if_neg (show ¬ (i : Int) < (x.length : Int) by omega)]
    rw [show i = x.length by omega]
    exact Ev.now _
  | succ d ih =>
    intro i x h hx
    have key : ∀ (X : List Ad) (a : Int), X.length = x.length → a = 1 + 5 * ((i : Int) + 1) → ∃ y, Ev (fun k => laws_markAdderS.l0 k X a ((i : Int) + 1)) (1 + 5 * (x.length : Int), y) := fun X a hX ha => by
      have := ih (i + 1) X (by omega) (by omega)
      rw [hX] at this
      subst ha
      exact this
    suffices hs : ∃ y, Ev (fun k => laws_markAdderS.l0 (k + 1) x (1 + 5 * (i : Int)) i) (1 + 5 * (x.length : Int), y) from hs.imp fun y hy => up hy
    simp only [laws_markAdderS.l0, Option.bind_some, if_pos (show (i : Int) < (x.length : Int) by omega), if_pos (show (0 : Int) ≤ (i : Int) by omega), wid (x := (i : Int) + 1) (by omega) (by omega)]
    refine key _ _ (by simp) ?_
    rw [wid (x := 1 + 5 * (i : Int) + 1) (by omega) (by omega), wid (x := 1 + 5 * (i : Int) + 1 + 1) (by omega) (by omega), wid (x := 1 + 5 * (i : Int) + 1 + 1 + 1) (by omega) (by omega), wid (x := 1 + 5 * (i : Int) + 1 + 1 + 1 + 1) (by omega) (by omega), wid (x := 1 + 5 * (i : Int) + 1 + 1 + 1 + 1 + 1) (by omega) (by omega)]
    omega
theorem markAdderS_val (x : List Ad) (hx : x.length ≤ 2000000) : ∃ y, Ev (fun k => laws_markAdderS.f k x 1) (1 + 5 * (x.length : Int), y) := by
  obtain ⟨y, hy⟩ := markAdderS_loop x.length 0 x (by omega) hx
  exact ⟨y, by simpa [laws_markAdderS.f] using hy⟩
theorem eqIntS_loop (l : List Int) (hl : l.length ≤ 140737488351232) : ∀ (d : Nat) (i : Int), 0 ≤ i → i + d = l.length → Ev (fun k => laws_eqIntS.l0 k l l i) true := by
  intro d
  induction d with
  | zero =>
    intro i h0 h
    refine up ?_
    simp only [laws_eqIntS.l0, if_neg (show ¬ i < (l.length : Int) by omega)]
    exact Ev.now _
  | succ d ih =>
    intro i h0 h
    refine up ?_
    simp only [laws_eqIntS.l0, if_pos (show i < (l.length : Int) by omega), if_pos h0, if_true, wid (x := i + 1) (by omega) (by omega)]
    exact ih (i + 1) (by omega) (by omega)
theorem eqIntS_same (l : List Int) (hl : l.length ≤ 140737488351232) : Ev (fun k => laws_eqIntS.f k l l) true := by
  simp only [laws_eqIntS.f, if_true]
  exact eqIntS_loop l hl l.length 0 (by omega) (by omega)
def marks : Int → Nat → List Int
  | _, 0 => []
  | a, n + 1 => a :: marks (a + 1) n
theorem mark_loop : ∀ (rest done : List Int) (a : Int), done.length + rest.length ≤ 140737488351232 → 0 ≤ a → a ≤ 140737488351232 →
    Ev (fun k => laws_markIntS.l0 k (done ++ rest) (a + done.length) done.length) (a + done.length + rest.length, done ++ marks (a + done.length) rest.length) := by
  intro rest
  induction rest with
  | nil =>
    intro done a h h0 h1
    refine up ?_
    simp only [laws_markIntS.l0, List.append_nil, if_neg (show ¬ (done.length : Int) < (done.length : Int) by omega), List.length_nil, marks]
    exact ⟨0, fun _ _ => by simp⟩
  | cons x rest ih =>
    intro done a h h0 h1
    simp only [List.length_cons] at h
    refine up ?_
    have e : (done ++ x :: rest).set ((done.length : Int)).toNat (a + done.length) = (done ++ [a + done.length]) ++ rest := by
      rw [Int.toNat_natCast, List.set_append_right _ _ (Nat.le_refl _)]; simp
    simp only [laws_markIntS.l0, if_pos (show (done.length : Int) < ((done ++ x :: rest).length : Int) by simp; omega), if_pos (show (0 : Int) ≤ (done.length : Int) by omega), e, wid (x := a + done.length + 1) (by omega) (by omega), wid (x := (done.length : Int) + 1) (by omega) (by omega)]
    have := ih (done ++ [a + done.length]) a (by simp; omega) h0 h1
    simp only [List.length_append, List.length_singleton, List.append_assoc, List.singleton_append, Int.natCast_add, Int.natCast_one] at this
    simp only [List.append_assoc, List.singleton_append, List.length_cons, marks, Int.natCast_add, Int.natCast_one]
    rw [show a + (done.length : Int) + ((rest.length : Int) + 1) = a + ((done.length : Int) + 1) + rest.length by omega, show a + (done.length : Int) + 1 = a + ((done.length : Int) + 1) by omega]
    exact this
theorem mark_all (l : List Int) (hl : l.length ≤ 140737488351232) : Ev (fun k => laws_markIntS.f k l 1) (1 + l.length, marks 1 l.length) := by
  have := mark_loop l [] 1 (by simpa using hl) (by omega) (by omega)
  simpa [laws_markIntS.f] using this
theorem marks_length (a : Int) (n : Nat) : (marks a n).length = n := by
  induction n generalizing a with
  | zero => rfl
  | succ n ih => simp [marks, ih]
theorem held_loop : ∀ (n : Nat) (done : List Int) (a : Int), done.length + n ≤ 140737488351232 → 0 ≤ a → a ≤ 140737488351232 →
    Ev (fun k => laws_heldIntS.l0 k (done ++ marks (a + done.length) n) (a + done.length) done.length) (a + done.length + n) := by
  intro n
  induction n with
  | zero =>
    intro done a h h0 h1
    refine up ?_
    simp only [laws_heldIntS.l0, marks, List.append_nil, if_neg (show ¬ (done.length : Int) < (done.length : Int) by omega)]
    exact ⟨0, fun _ _ => by simp⟩
  | succ n ih =>
    intro done a h h0 h1
    refine up ?_
    have e : rd (done ++ marks (a + done.length) (n + 1)) (done.length : Int) = a + done.length := by
      unfold rd; rw [Int.toNat_natCast]; simp [marks]
    simp only [laws_heldIntS.l0, if_pos (show (done.length : Int) < ((done ++ marks (a + done.length) (n + 1)).length : Int) by simp [marks_length]; omega), if_pos (show (0 : Int) ≤ (done.length : Int) by omega), e, if_true, wid (x := a + done.length + 1) (by omega) (by omega), wid (x := (done.length : Int) + 1) (by omega) (by omega)]
    have := ih (done ++ [a + done.length]) a (by simp; omega) h0 h1
    simp only [List.length_append, List.length_singleton, List.append_assoc, List.singleton_append, Int.natCast_add, Int.natCast_one] at this
    simp only [marks, Int.natCast_add, Int.natCast_one]
    rw [show a + (done.length : Int) + ((n : Int) + 1) = a + ((done.length : Int) + 1) + n by omega, show a + (done.length : Int) + 1 = a + ((done.length : Int) + 1) by omega]
    exact this
theorem held_all (n : Nat) (hl : n ≤ 140737488351232) : Ev (fun k => laws_heldIntS.f k (marks 1 n) 1) (1 + n) := by
  have := held_loop n [] 1 (by simpa using hl) (by omega) (by omega)
  simpa [laws_heldIntS.f] using this
theorem runV_len (L : List Ad) (x : Int) : (runV L x).1.length ≤ 1000 := by
  unfold runV
  by_cases h : addersB L = true
  · rw [if_pos h]
    obtain ⟨hl, ms, hms⟩ := addersB_some h
    split
    · have := chk_len _ _ _ _ hms
      simp only [hms, Option.getD_some, List.length_map]
      simp at this
      omega
    · simp
  · rw [if_neg h]; simp
theorem main : laws_FnExactRunAdders.Pure := by
  intro l x hl hc hw hx
  refine Ev.rounds ?_
  simp only [laws_FnExactRunAdders.f, laws_szAdderS.f]
  by_cases hb : 1048576 - (l.length : Int) < 0
  · exact ⟨0, fun k _ => by simp only [wid (x := 1048576 - (l.length : Int)) (by omega) (by omega), if_pos hb, Option.bind_some, if_pos (show (-1 : Int) < 0 by omega)]⟩
  simp only [wid (x := 1048576 - (l.length : Int)) (by omega) (by omega), if_neg hb, Option.bind_some]
  have hn : l.length ≤ 1048576 := by omega
  have hm : (l.map conv).length ≤ 1048576 := by rw [List.length_map]; exact hn
  have ha := toAdderS_val l (by omega)
  have hi := implRun (l.map conv) x (by omega)
  have hv := runV_len (l.map conv) x
  refine Ev.bind ha ?_
  refine Ev.bind (specRun _ x (by omega)) ?_
  refine Ev.bind ha ?_
  refine Ev.bind hi ?_
  refine Ev.bind (eqIntS_same _ (by omega)) ?_
  simp only [bne_self_eq_false, if_true]
  refine up ?_
  simp only [laws_FnExactRunAdders.j0, Bool.false_eq_true, if_false]
  refine Ev.bind ha ?_
  refine Ev.bind (eqAdderS_same _ (by omega)) ?_
  simp only [if_true]
  obtain ⟨y, hy⟩ := markAdderS_val (l.map conv) (by omega)
  refine Ev.bind hy ?_
  simp only [if_neg (show ¬ (1 + 5 * ((l.map conv).length : Int)) < 0 by omega)]
  refine Ev.bind (eqIntS_same _ (by omega)) ?_
  simp only [if_true]
  refine up ?_
  simp only [laws_FnExactRunAdders.j1, bne_self_eq_false, Bool.false_eq_true, if_false]
  refine Ev.bind (mark_all (runV (l.map conv) x).1 (by omega)) ?_
  have hh := held_all (runV (l.map conv) x).1.length (by omega)
  refine Ev.bind hh ?_
  simp only [if_neg (show ¬ (1 + ((runV (l.map conv) x).1.length : Int)) < 0 by omega), if_true]
  refine Ev.bind ha ?_
  refine Ev.bind hi ?_
  refine Ev.bind (eqIntS_same _ (by omega)) ?_
  simp only [if_true]
  refine up ?_
  simp only [laws_FnExactRunAdders.j2, bne_self_eq_false, Bool.false_eq_true, if_false]
  refine Ev.bind hh ?_
  simp only [if_neg (show ¬ (1 + ((runV (l.map conv) x).1.length : Int)) < 0 by omega), if_true]
  exact Ev.now _
end Go.Proofs.Ytafnnnpcochnnaa.PureFnExactRunAddersL
namespace Go.Proofs.Ytafnnnpcochnnaa.Pure
open Go.Proofs.Ytafnnnpcochnnaa.PFnExactRunAdders
theorem FnExactRunAdders : laws_FnExactRunAdders.Pure := PureFnExactRunAddersL.main
end Go.Proofs.Ytafnnnpcochnnaa.Pure
