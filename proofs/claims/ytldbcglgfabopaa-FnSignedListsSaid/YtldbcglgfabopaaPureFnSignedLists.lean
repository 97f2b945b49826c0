/- All lists of digits for a number are told in order, as many as are counted, and the least weight is one of theirs: the statement FnSignedLists holds for all its drawn arguments; nothing else is asked. -/
import Derived.Test.YtldbcglgfabopaaPFnSignedListsx1
import Derived.Test.YtldbcglgfabopaaPFnSignedListsx2
import Derived.Test.YtldbcglgfabopaaPFnSignedListsx3
import Derived.Test.YtldbcglgfabopaaPFnSignedListsx4
import Derived.Test.YtldbcglgfabopaaPFnSignedListsx5
import Derived.Test.YtldbcglgfabopaaPFnSignedListsx6
set_option linter.unusedVariables false
set_option linter.unusedSimpArgs false
namespace Go.Proofs.Ytldbcglgfabopaa.PureFnSignedListsL
open Go.RowKit Go.Proofs.Ytldbcglgfabopaa.PFnSignedLists Go.Proofs.YtldbcglgfabopaaW.PrintWords Go.Proofs.YtldbcglgfabopaaW.PrintLast Go.Proofs.YtldbcglgfabopaaW.PrintMore
theorem up {α : Type} {g : Nat → Option α} {r : α} (h : Ev (fun k => g (k + 1)) r) : Ev g r := by
  obtain ⟨K, h⟩ := h
  refine ⟨K + 1, fun k hk => ?_⟩
  obtain ⟨m, rfl⟩ : ∃ m, k = m + 1 := ⟨k - 1, by omega⟩
  exact h m (by omega)
theorem wid {x : Int} (h0 : -9223372036854775808 ≤ x) (h1 : x ≤ 9223372036854775807) : wrap64 x = x := by unfold wrap64; omega
theorem ite_yes {α : Type} {c : Prop} [Decidable c] {a b : α} (h : c) : (if c then a else b) = a := if_pos h
theorem ite_no {α : Type} {c : Prop} [Decidable c] {a b : α} (h : ¬ c) : (if c then a else b) = b := if_neg h
theorem evsome {α β : Type} {x : Option α} {a : α} {f : Nat → α → Option β} {r : β} (hx : x = some a) (h : Ev (fun k => f k a) r) : Ev (fun k => x.bind (f k)) r := by subst hx; exact h
theorem if_pos_ev {α : Type} {c : Prop} [Decidable c] {f g : Nat → Option α} (h : c) : (fun k => if c then f k else g k) = f := funext fun k => if_pos h
theorem if_neg_ev {α : Type} {c : Prop} [Decidable c] {f g : Nat → Option α} (h : ¬ c) : (fun k => if c then f k else g k) = g := funext fun k => if_neg h
theorem rd_at {l : List Int} {i : Nat} (h : i < l.length) : rd l (i : Int) = l[i] := by
  unfold rd
  rw [Int.toNat_natCast, List.getD_eq_getElem?_getD, List.getElem?_eq_getElem h]; rfl
/-- The number that digits stand for. -/
def val : List Int → Int
  | [] => 0
  | d :: l => d + 2 * val l
def small (l : List Int) : Prop := ∀ d ∈ l, -31 ≤ d ∧ d ≤ 31
theorem small_tail {d : Int} {l : List Int} (h : small (d :: l)) : small l := fun x hx => h x (List.mem_cons_of_mem _ hx)
theorem p2 (n : Nat) : (2 : Int) ^ (n + 1) = 2 * 2 ^ n := by rw [Int.pow_succ]; omega
theorem p2_pos (n : Nat) : (1 : Int) ≤ 2 ^ n := by
  induction n with
  | zero => decide
  | succ n ih => rw [p2]; omega
theorem p2_le {f : Nat} (hf : f ≤ 24) : (2 : Int) ^ f ≤ 16777216 := by
  have h := Nat.pow_le_pow_right (n := 2) (by omega) hf
  have e : ((2 ^ f : Nat) : Int) = (2 : Int) ^ f := by simp
  omega
theorem val_bound : ∀ (l : List Int), small l → -(31 * (2 ^ l.length - 1)) ≤ val l ∧ val l ≤ 31 * (2 ^ l.length - 1)
  | [], _ => by simp [val]
  | d :: l, h => by
    have hd := h d (List.mem_cons_self ..)
    have ih := val_bound l (small_tail h)
    have e := p2 l.length
    simp only [val, List.length_cons]
    omega
theorem val_big {l : List Int} (h : small l) (hl : l.length ≤ 24) : -520093696 ≤ val l ∧ val l ≤ 520093696 := by
  have := val_bound l h
  have := p2_le hl
  omega
theorem shl_small_val {d : Int} {i : Nat} (h0 : -31 ≤ d) (h1 : d ≤ 31) (hi : i ≤ 24) : shl .i64 d (i : Int) = d * 2 ^ i := by
  unfold shl
  rw [Int.toNat_natCast, Nat.min_eq_left (show i ≤ IntKind.i64.bits by simp [IntKind.bits]; omega)]
  have hp := p2_le hi
  have hq := p2_pos i
  have hb : -520093696 ≤ d * 2 ^ i ∧ d * 2 ^ i ≤ 520093696 := by
    constructor
    · have := Int.mul_le_mul_of_nonneg_right h0 (show (0 : Int) ≤ 2 ^ i by omega); omega
    · have := Int.mul_le_mul_of_nonneg_right h1 (show (0 : Int) ≤ 2 ^ i by omega); omega
  generalize d * 2 ^ i = x at hb
  simp only [IntKind.wrap, IntKind.bits, IntKind.signed]
  simp
  omega
theorem tmod_in {a b : Int} (hb : 0 < b) : -b < Int.tmod a b ∧ Int.tmod a b < b := ⟨Int.lt_tmod_of_pos a hb, Int.tmod_lt_of_pos a hb⟩
theorem posmod {a b : Int} (hb : 0 < b) (hb2 : b ≤ 1000000000000000) : Int.tmod (wrap64 ((Int.tmod a b) + b)) b = a % b := by
  have h := tmod_in (a := a) hb
  rw [wid (by omega) (by omega), Int.tmod_eq_emod_of_nonneg (by omega), Int.add_emod_right]
  rw [Int.tmod_def, Int.sub_mul_emod_self_left]
theorem odd_test (x : Int) : Int.tmod x 2 = 0 ↔ x % 2 = 0 := by
  rw [← Int.dvd_iff_tmod_eq_zero, ← Int.dvd_iff_emod_eq_zero]
theorem half_even {x : Int} (h : x % 2 = 0) : Int.tdiv x 2 = x / 2 := Int.tdiv_eq_ediv_of_dvd (Int.dvd_of_emod_eq_zero h)
theorem siOdd_val (x : Int) : spec_siOdd.f x = some (decide (¬ x % 2 = 0)) := by
  unfold spec_siOdd.f
  by_cases h : x % 2 = 0
  · have := (odd_test x).2 h; simp [h, this]
  · have := mt (odd_test x).1 h; simp [h, this]
theorem l1In_val (x a b : Int) : spec_l1In.f x a b = some (decide (a ≤ x) && decide (x ≤ b)) := by
  unfold spec_l1In.f
  by_cases h : a ≤ x
  · rw [if_pos h]; simp [h]
  · rw [if_neg h]; simp [h]
open Go.Proofs.YtldbcglgfabopaaLists (LV acc put1 sz okP LV_ok three_le three_pos sz_nonneg)
/-- How many lists of so many digits stand for a number, by their weight. -/
def cnt : Nat → Int → Nat → Int
  | 0, n, w => if n = 0 ∧ w = 0 then 1 else 0
  | L + 1, n, w => if sz n ≥ 2 ^ (L + 1) then 0 else if n % 2 = 0 then cnt L (n / 2) w else if w = 0 then 0 else cnt L ((n + 1) / 2) (w - 1) + cnt L ((n - 1) / 2) (w - 1)
def tab (c : Nat → Int) : List Int := (List.range 25).map c
theorem tab_length (c : Nat → Int) : (tab c).length = 25 := by simp [tab]
theorem tab_rd {c : Nat → Int} {i : Nat} (h : i < 25) : rd (tab c) (i : Int) = c i := by
  rw [rd_at (by rw [tab_length]; exact h)]
  simp [tab]
theorem tab_set {c : Nat → Int} {j : Nat} (v : Int) : (tab c).set j v = tab (fun w => if w = j then v else c w) := by
  apply List.ext_getElem
  · simp [tab]
  · intro i h1 h2
    rw [List.getElem_set]
    simp only [tab, List.getElem_map, List.getElem_range]
    by_cases h : j = i
    · subst h; simp
    · rw [if_neg h, if_neg (fun e => h e.symm)]
theorem tab_zero : tab (fun _ => 0) = List.replicate 25 0 := by decide
/-- The sum of the first so many. -/
def tot (c : Nat → Int) : Nat → Int
  | 0 => 0
  | k + 1 => tot c k + c k
theorem tot_add (a b : Nat → Int) : ∀ k, tot (fun w => a w + b w) k = tot a k + tot b k
  | 0 => rfl
  | k + 1 => by unfold tot; rw [tot_add a b k]; omega
theorem tot_shift (g : Nat → Int) : ∀ k, tot (fun w => if w = 0 then 0 else g (w - 1)) (k + 1) = tot g k
  | 0 => rfl
  | k + 1 => by
    rw [tot, tot_shift g k, tot]
    simp
theorem tot_nonneg {c : Nat → Int} (h : ∀ w, 0 ≤ c w) : ∀ k, 0 ≤ tot c k
  | 0 => Int.le_refl _
  | k + 1 => by have := tot_nonneg h k; have := h k; unfold tot; omega
theorem tot_ge {c : Nat → Int} (h : ∀ w, 0 ≤ c w) : ∀ (k w : Nat), w < k → c w ≤ tot c k
  | 0, w, hw => by omega
  | k + 1, w, hw => by
    have := tot_nonneg h k
    have := h k
    unfold tot
    by_cases e : w = k
    · subst e; omega
    · have := tot_ge h k w (by omega); omega
theorem tot_zero {c : Nat → Int} : ∀ (k : Nat), (∀ w, w < k → c w = 0) → tot c k = 0
  | 0, _ => rfl
  | k + 1, h => by unfold tot; rw [tot_zero k fun w hw => h w (by omega), h k (by omega)]; rfl
theorem acc_even (f : Int → Int × Int) {n : Int} (h : n % 2 = 0) : acc f n 3 = put1 0 (0, 0) (f (n / 2)) := by
  unfold acc acc acc acc
  rw [if_neg (show ¬ (n - (((2 : Nat) : Int) - 1)) % 2 = 0 by omega), if_pos (show (n - (((1 : Nat) : Int) - 1)) % 2 = 0 by omega), if_neg (show ¬ (n - (((0 : Nat) : Int) - 1)) % 2 = 0 by omega)]
  rw [show ((1 : Nat) : Int) - 1 = 0 by decide, Int.sub_zero]
theorem acc_odd (f : Int → Int × Int) {n : Int} (h : ¬ n % 2 = 0) : acc f n 3 = put1 1 (put1 (-1) (0, 0) (f ((n + 1) / 2))) (f ((n - 1) / 2)) := by
  unfold acc acc acc acc
  rw [if_pos (show (n - (((2 : Nat) : Int) - 1)) % 2 = 0 by omega), if_neg (show ¬ (n - (((1 : Nat) : Int) - 1)) % 2 = 0 by omega), if_pos (show (n - (((0 : Nat) : Int) - 1)) % 2 = 0 by omega)]
  rw [show ((2 : Nat) : Int) - 1 = 1 by decide, show ((0 : Nat) : Int) - 1 = -1 by decide, show n - -1 = n + 1 by omega]
/-- What the table by weights tells: as many lists as the program reckons, and the least weight. -/
structure Told (L : Nat) (c : Nat → Int) (p : Int × Int) : Prop where
  pos : ∀ w, 0 ≤ c w
  top : ∀ w, L < w → c w = 0
  sum : tot c 25 = p.1
  low : p.1 ≠ 0 → (∀ w : Nat, (w : Int) < p.2 → c w = 0) ∧ 0 < c p.2.toNat
theorem told_none (L : Nat) : Told L (fun _ => 0) (0, 0) := ⟨fun _ => Int.le_refl _, fun _ _ => rfl, tot_zero 25 fun _ _ => rfl, fun h => absurd rfl h⟩
theorem told_even {L : Nat} {c : Nat → Int} {o : Int × Int} (h : Told L c o) : Told (L + 1) c (put1 0 (0, 0) o) := by
  unfold put1
  rw [show sz 0 = 0 by decide]
  by_cases hz : o.1 = 0
  · rw [if_pos hz]
    refine ⟨h.pos, fun w hw => h.top w (by omega), by rw [h.sum, hz], fun h => absurd rfl h⟩
  · rw [if_neg hz]
    simp only [true_or, if_true, Int.zero_add, Int.add_zero]
    exact ⟨h.pos, fun w hw => h.top w (by omega), h.sum, h.low⟩
theorem told_zero {L : Nat} {c : Nat → Int} {o : Int × Int} (h : Told L c o) (hL : L ≤ 24) (hz : o.1 = 0) (w : Nat) : c w = 0 := by
  by_cases hw : w < 25
  · have h1 := tot_ge h.pos 25 w hw
    have h2 := h.pos w
    rw [h.sum, hz] at h1
    omega
  · exact h.top w (by omega)
theorem told_odd {L : Nat} (hL : L ≤ 23) {c1 c2 : Nat → Int} {o1 o2 : Int × Int} (h1 : Told L c1 o1) (h2 : Told L c2 o2) (b1 : okP L o1) (b2 : okP L o2) :
    Told (L + 1) (fun w => if w = 0 then 0 else c1 (w - 1) + c2 (w - 1)) (put1 1 (put1 (-1) (0, 0) o1) o2) := by
  have z1 : sz 1 = 1 := by decide
  have z2 : sz (-1) = 1 := by decide
  obtain ⟨b10, _, b12, b13⟩ := b1
  obtain ⟨b20, _, b22, b23⟩ := b2
  have hsum : tot (fun w => if w = 0 then 0 else c1 (w - 1) + c2 (w - 1)) 25 = o1.1 + o2.1 := by
    rw [tot_shift (fun w => c1 w + c2 w) 24, tot_add, ← h1.sum, ← h2.sum]
    show _ = tot c1 24 + c1 24 + (tot c2 24 + c2 24)
    rw [h1.top 24 (by omega), h2.top 24 (by omega)]
    omega
  have hpos : ∀ w, 0 ≤ (fun w => if w = 0 then 0 else c1 (w - 1) + c2 (w - 1)) w := fun w => by
    have := h1.pos (w - 1)
    have := h2.pos (w - 1)
    show 0 ≤ (if w = 0 then 0 else c1 (w - 1) + c2 (w - 1))
    split <;> omega
  have htop : ∀ w, L + 1 < w → (fun w => if w = 0 then 0 else c1 (w - 1) + c2 (w - 1)) w = 0 := fun w hw => by
    show (if w = 0 then 0 else c1 (w - 1) + c2 (w - 1)) = 0
    rw [if_neg (by omega), h1.top (w - 1) (by omega), h2.top (w - 1) (by omega)]; rfl
  unfold put1
  rw [z1, z2]
  by_cases e1 : o1.1 = 0
  · rw [if_pos e1]
    by_cases e2 : o2.1 = 0
    · rw [if_pos e2]
      exact ⟨hpos, htop, by rw [hsum, e1, e2]; rfl, fun h => absurd rfl h⟩
    · rw [if_neg e2]
      simp only [true_or, if_true, Int.zero_add]
      obtain ⟨l1, l2⟩ := h2.low e2
      refine ⟨hpos, htop, by rw [hsum, e1]; simp, fun _ => ⟨fun w hw => ?_, ?_⟩⟩
      · show (if w = 0 then 0 else c1 (w - 1) + c2 (w - 1)) = 0
        by_cases hw0 : w = 0
        · rw [if_pos hw0]
        · rw [if_neg hw0, told_zero h1 (by omega) e1, l1 (w - 1) (by omega)]; rfl
      · show 0 < (if (o2.2 + 1).toNat = 0 then 0 else c1 ((o2.2 + 1).toNat - 1) + c2 ((o2.2 + 1).toNat - 1))
        rw [if_neg (by omega), told_zero h1 (by omega) e1, show (o2.2 + 1).toNat - 1 = o2.2.toNat by omega]
        omega
  · rw [if_neg e1]
    simp only [true_or, if_true, Int.zero_add]
    obtain ⟨k1, k2⟩ := h1.low e1
    by_cases e2 : o2.1 = 0
    · rw [if_pos e2]
      refine ⟨hpos, htop, by rw [hsum, e2]; simp, fun _ => ⟨fun w hw => ?_, ?_⟩⟩
      · show (if w = 0 then 0 else c1 (w - 1) + c2 (w - 1)) = 0
        simp only at hw
        by_cases hw0 : w = 0
        · rw [if_pos hw0]
        · rw [if_neg hw0, told_zero h2 (by omega) e2, k1 (w - 1) (by omega)]; rfl
      · show 0 < (if (o1.2 + 1).toNat = 0 then 0 else c1 ((o1.2 + 1).toNat - 1) + c2 ((o1.2 + 1).toNat - 1))
        rw [if_neg (by omega), told_zero h2 (by omega) e2, show (o1.2 + 1).toNat - 1 = o1.2.toNat by omega]
        omega
    · rw [if_neg e2]
      obtain ⟨l1, l2⟩ := h2.low e2
      refine ⟨hpos, htop, hsum, fun _ => ?_⟩
      simp only [e1, false_or]
      have p1 := h1.pos
      have p2 := h2.pos
      by_cases hc : o2.2 + 1 < o1.2 + 1
      · rw [if_pos hc]
        refine ⟨fun w hw => ?_, ?_⟩
        · by_cases hw0 : w = 0
          · rw [if_pos hw0]
          · rw [if_neg hw0, k1 (w - 1) (by omega), l1 (w - 1) (by omega)]; rfl
        · rw [if_neg (by omega), show (o2.2 + 1).toNat - 1 = o2.2.toNat by omega]
          have := p1 o2.2.toNat
          omega
      · rw [if_neg hc]
        refine ⟨fun w hw => ?_, ?_⟩
        · by_cases hw0 : w = 0
          · rw [if_pos hw0]
          · rw [if_neg hw0, k1 (w - 1) (by omega), l1 (w - 1) (by omega)]; rfl
        · rw [if_neg (by omega), show (o1.2 + 1).toNat - 1 = o1.2.toNat by omega]
          have := p2 o1.2.toNat
          omega
theorem told : ∀ (L : Nat), L ≤ 24 → ∀ (n : Int), Told L (cnt L n) (LV L n)
  | 0, _, n => by
    by_cases h : n = 0
    · subst h
      refine ⟨fun w => ?_, fun w hw => ?_, by decide, fun _ => ⟨fun w hw => ?_, by decide⟩⟩
      · unfold cnt; split <;> omega
      · unfold cnt; rw [if_neg (fun c => by omega)]
      · rw [show (LV 0 0).2 = 0 by decide] at hw; omega
    · have h1 : LV 0 n = (0, 0) := by unfold LV; rw [if_pos (by unfold sz; split <;> omega)]
      have h2 : cnt 0 n = fun _ => 0 := funext fun w => by unfold cnt; rw [if_neg (fun c => h c.1)]
      rw [h1, h2]
      exact told_none 0
  | L + 1, hL, n => by
    by_cases hb : sz n ≥ 2 ^ (L + 1)
    · have h1 : LV (L + 1) n = (0, 0) := by unfold LV; rw [if_pos hb]
      have h2 : cnt (L + 1) n = fun _ => 0 := funext fun w => by unfold cnt; rw [if_pos hb]
      rw [h1, h2]
      exact told_none (L + 1)
    · have h1 : LV (L + 1) n = acc (LV L) n 3 := by show (if sz n ≥ 2 ^ (L + 1) then _ else _) = _; rw [if_neg hb]
      rw [h1]
      by_cases he : n % 2 = 0
      · have h2 : cnt (L + 1) n = cnt L (n / 2) := funext fun w => by rw [cnt, if_neg hb, if_pos he]
        rw [acc_even _ he, h2]
        exact told_even (told L (by omega) _)
      · have h2 : cnt (L + 1) n = fun w => if w = 0 then 0 else cnt L ((n + 1) / 2) (w - 1) + cnt L ((n - 1) / 2) (w - 1) := funext fun w => by rw [cnt, if_neg hb, if_neg he]
        rw [acc_odd _ he, h2]
        exact told_odd (by omega) (told L (by omega) _) (told L (by omega) _) (LV_ok L _) (LV_ok L _)
theorem cnt_small {L : Nat} (hL : L ≤ 24) (n : Int) (w : Nat) : 0 ≤ cnt L n w ∧ cnt L n w ≤ 282429536481 := by
  have h := told L hL n
  have hb := (LV_ok L n).2.1
  have h3 := three_le hL
  refine ⟨h.pos w, ?_⟩
  by_cases hw : w < 25
  · have := tot_ge h.pos 25 w hw
    rw [h.sum] at this
    omega
  · rw [h.top w (by omega)]; omega
theorem addLoop (n L0 : Int) (ys : List Int) (yl yi : Int) {g : Nat → Int} (hg : ∀ w, 0 ≤ g w ∧ g w ≤ 1000000000000) (h24 : g 24 = 0) {r : List Int} :
    ∀ (d i : Nat) (f : Nat → Int), i + d = 25 → (∀ w, i < w → 0 ≤ f w ∧ f w ≤ 1000000000000000) →
      Ev (fun k => spec_siCount.l0 k n L0 (tab fun w => f w + (if i + 1 ≤ w then g (w - 1) else 0)) ys yl (wrap64 (yi + 1))) r →
      Ev (fun k => spec_siCount.l1 k n L0 (tab f) ys yl yi (tab g) 25 (i : Int)) r := by
  intro d
  induction d with
  | zero =>
    intro i f h hf hr
    have e : (tab fun w => f w + (if i + 1 ≤ w then g (w - 1) else 0)) = tab f := by
      apply List.map_congr_left
      intro w hw
      have := List.mem_range.1 hw
      rw [if_neg (by omega), Int.add_zero]
    rw [e] at hr
    refine up ?_
    simp only [spec_siCount.l1, if_neg (show ¬ (i : Int) < 25 by omega)]
    exact hr
  | succ d ih =>
    intro i f h hf hr
    have hi : i < 25 := by omega
    have hgi := hg i
    refine up ?_
    simp only [spec_siCount.l1, if_pos (show (i : Int) < 25 by omega), if_pos (show (0 : Int) ≤ (i : Int) by omega), tab_length, if_pos (show (i : Int) < ((25 : Nat) : Int) by omega), tab_rd hi, wid (x := (i : Int) + 1) (by omega) (by omega)]
    by_cases hp : g i > 0
    · have hi2 : i + 1 < 25 := by
        by_cases e : i = 24
        · subst e; omega
        · omega
      have hfi := hf (i + 1) (by omega)
      rw [show (i : Int) + 1 = ((i + 1 : Nat) : Int) by omega]
      simp only [hp, if_true, if_pos (show (0 : Int) ≤ ((i + 1 : Nat) : Int) by omega), if_pos (show ((i + 1 : Nat) : Int) < ((25 : Nat) : Int) by omega), tab_rd hi2, Int.toNat_natCast, tab_set, wid (x := f (i + 1) + g i) (by omega) (by omega)]
      refine ih (i + 1) _ (by omega) (fun w hw => by rw [if_neg (by omega)]; exact hf w (by omega)) ?_
      have e : (fun w => (if w = i + 1 then f (i + 1) + g i else f w) + (if i + 1 + 1 ≤ w then g (w - 1) else 0)) = (fun w => f w + (if i + 1 ≤ w then g (w - 1) else 0)) := funext fun w => by
        by_cases hw : w = i + 1
        · subst hw
          rw [if_pos rfl, if_neg (by omega), if_pos (by omega), Nat.add_sub_cancel, Int.add_zero]
        · rw [if_neg hw]
          by_cases hw2 : i + 1 + 1 ≤ w
          · rw [if_pos hw2, if_pos (by omega)]
          · rw [if_neg hw2, if_neg (by omega)]
      rw [e]
      exact hr
    · have hz : g i = 0 := by omega
      simp only [hz, show ¬ (0 : Int) > 0 by omega, if_false]
      rw [show (i : Int) + 1 = ((i + 1 : Nat) : Int) by omega]
      refine ih (i + 1) f (by omega) (fun w hw => hf w (by omega)) ?_
      have e : (fun w => f w + (if i + 1 + 1 ≤ w then g (w - 1) else 0)) = (fun w => f w + (if i + 1 ≤ w then g (w - 1) else 0)) := funext fun w => by
        by_cases hw : w = i + 1
        · subst hw
          rw [if_neg (by omega), if_pos (by omega), Nat.add_sub_cancel, hz]
        · by_cases hw2 : i + 1 + 1 ≤ w
          · rw [if_pos hw2, if_pos (by omega)]
          · rw [if_neg hw2, if_neg (by omega)]
      rw [e]
      exact hr
theorem cnt_zero (L : Nat) {n : Int} (hb : sz n ≥ 2 ^ (L + 1)) : tab (cnt (L + 1) n) = List.replicate 25 0 := by
  rw [show cnt (L + 1) n = fun _ => 0 from funext fun w => by unfold cnt; rw [if_pos hb]]
  exact tab_zero
theorem siCount_val : ∀ (L : Nat), L ≤ 24 → ∀ (n : Int), -1000000000000 ≤ n → n ≤ 1000000000000 → Ev (fun k => spec_siCount.f k n (L : Int)) (tab (cnt L n)) := by
  intro L
  induction L with
  | zero =>
    intro _ n h0 h1
    refine up ?_
    simp only [spec_siCount.f, if_pos (show 25 ≤ 35184372088832 by omega), Option.bind_some, if_pos (show ((0 : Nat) : Int) = 0 from rfl)]
    by_cases h : n = 0
    · subst h
      simp only [if_true, List.length_replicate, if_pos (show (0 : Int) < ((25 : Nat) : Int) by omega)]
      rw [show tab (cnt 0 0) = (List.replicate 25 0).set (0 : Int).toNat 1 by decide]
      exact Ev.now _
    · simp only [if_neg h]
      rw [show tab (cnt 0 n) = List.replicate 25 0 from (by rw [show cnt 0 n = fun _ => 0 from funext fun w => by unfold cnt; rw [if_neg (fun c => h c.1)]]; exact tab_zero)]
      exact Ev.now _
  | succ L ih =>
    intro hL n h0 h1
    have hsh : shl .i64 1 (((L + 1 : Nat)) : Int) = 2 ^ (L + 1) := by rw [shl_small_val (by decide) (by decide) hL]; omega
    have hl1 : wrap64 (((L + 1 : Nat) : Int) - 1) = (L : Int) := by rw [wid (by omega) (by omega)]; omega
    refine up ?_
    simp only [spec_siCount.f, if_pos (show 25 ≤ 35184372088832 by omega), Option.bind_some, if_neg (show ¬ ((L + 1 : Nat) : Int) = 0 by omega), if_pos (show (0 : Int) ≤ ((L + 1 : Nat) : Int) by omega), hsh, wid (x := -n) (by omega) (by omega)]
    by_cases hb1 : n ≥ 2 ^ (L + 1)
    · simp only [if_pos hb1]
      rw [cnt_zero L (by unfold sz; split <;> omega)]
      refine up ?_
      simp only [spec_siCount.j0, if_true]
      exact Ev.now _
    simp only [if_neg hb1]
    by_cases hb2 : -n ≥ 2 ^ (L + 1)
    · rw [cnt_zero L (by unfold sz; split <;> omega)]
      refine up ?_
      simp only [spec_siCount.j0, decide_eq_true hb2, if_true]
      exact Ev.now _
    have hb : ¬ sz n ≥ 2 ^ (L + 1) := by unfold sz; split <;> omega
    refine up ?_
    simp only [spec_siCount.j0, decide_eq_false hb2, Bool.false_eq_true, if_false, siOdd_val, Option.bind_some, hl1]
    by_cases he : n % 2 = 0
    · have ht : Int.tdiv n 2 = n / 2 := half_even he
      simp only [he, not_true_eq_false, decide_false, Bool.false_eq_true, if_false, ht, wid (x := n / 2) (by omega) (by omega)]
      rw [show cnt (L + 1) n = cnt L (n / 2) from funext fun w => by rw [cnt, if_neg hb, if_pos he]]
      exact Ev.bind (ih (by omega) (n / 2) (by omega) (by omega)) (Ev.now _)
    · simp only [he, not_false_eq_true, decide_true, if_true, List.length_cons, List.length_nil]
      have s1 := fun w => cnt_small (L := L) (by omega) ((n + 1) / 2) w
      have s2 := fun w => cnt_small (L := L) (by omega) ((n - 1) / 2) w
      have t1 := (told L (by omega) ((n + 1) / 2)).top 24 (by omega)
      have t2 := (told L (by omega) ((n - 1) / 2)).top 24 (by omega)
      have i1 := ih (by omega) ((n + 1) / 2) (by omega) (by omega)
      have i2 := ih (by omega) ((n - 1) / 2) (by omega) (by omega)
      have hc : cnt (L + 1) n = fun w => (fun w => (fun _ => 0) w + (if 0 + 1 ≤ w then cnt L ((n + 1) / 2) (w - 1) else 0)) w + (if 0 + 1 ≤ w then cnt L ((n - 1) / 2) (w - 1) else 0) := funext fun w => by
        rw [cnt, if_neg hb, if_neg he]
        by_cases hw : w = 0
        · subst hw; simp
        · simp only [if_neg hw, if_pos (show 0 + 1 ≤ w by omega), Int.zero_add]
      rw [hc]
      rw [← tab_zero]
      -- the digit -1
      refine up ?_
      have e1 : Int.tdiv (wrap64 (n - -1)) 2 = (n + 1) / 2 := by rw [wid (by omega) (by omega), show n - -1 = n + 1 by omega, half_even (by omega)]
      have e2 : Int.tdiv (wrap64 (n - 1)) 2 = (n - 1) / 2 := by rw [wid (by omega) (by omega), half_even (by omega)]
      have r0 : rd [-1, 1] 0 = -1 := rfl
      have r1 : rd [-1, 1] 1 = 1 := rfl
      simp only [spec_siCount.l0, if_pos (show (0 : Int) < ((0 + 1 + 1 : Nat) : Int) by omega), if_pos (Int.le_refl 0), r0, e1, hl1, wid (x := (n + 1) / 2) (by omega) (by omega)]
      refine Ev.bind i1 ?_
      simp only [tab_length]
      refine addLoop n _ [-1, 1] _ 0 (fun w => ⟨(s1 w).1, by have := (s1 w).2; omega⟩) t1 25 0 (fun _ => 0) (by omega) (fun w _ => by simp) ?_
      -- the digit 1
      rw [show wrap64 (0 + 1) = 1 from wid (by decide) (by decide)]
      refine up ?_
      simp only [spec_siCount.l0, if_pos (show (1 : Int) < ((0 + 1 + 1 : Nat) : Int) by omega), if_pos (show (0 : Int) ≤ 1 by omega), r1, e2, hl1, wid (x := (n - 1) / 2) (by omega) (by omega)]
      refine Ev.bind i2 ?_
      simp only [tab_length]
      refine addLoop n _ [-1, 1] _ 1 (fun w => ⟨(s2 w).1, by have := (s2 w).2; omega⟩) t2 25 0 _ (by omega) (fun w _ => by
        show 0 ≤ 0 + (if 0 + 1 ≤ w then cnt L ((n + 1) / 2) (w - 1) else 0) ∧ 0 + (if 0 + 1 ≤ w then cnt L ((n + 1) / 2) (w - 1) else 0) ≤ _
        have := s1 (w - 1)
        split <;> omega) ?_
      rw [show wrap64 (1 + 1) = 2 from wid (by decide) (by decide)]
      refine up ?_
      simp only [spec_siCount.l0, if_neg (show ¬ (2 : Int) < ((0 + 1 + 1 : Nat) : Int) by omega)]
      exact Ev.now _
theorem siTask_val (n L : Int) : spec_siTask.f n L = some ((decide (-1000000 ≤ n) && decide (n ≤ 1000000)) && (decide (0 ≤ L) && decide (L ≤ 24))) := by
  simp only [spec_siTask.f, spec_siNumber.f, l1In_val, Option.bind_some]
  cases (decide (-1000000 ≤ n) && decide (n ≤ 1000000)) <;> simp
theorem put1_none {d : Int} {A o : Int × Int} (ho : 0 ≤ o.1) (hA : 0 ≤ A.1) (h0 : A.1 = 0 → A.2 = 0) (h : (put1 d A o).1 = 0) : (put1 d A o).2 = 0 := by
  unfold put1 at h ⊢
  by_cases hz : o.1 = 0
  · rw [if_pos hz] at h ⊢; exact h0 h
  · rw [if_neg hz] at h
    have : A.1 + o.1 = 0 := h
    omega
theorem put1_pos {d : Int} {A o : Int × Int} (ho : 0 ≤ o.1) (hA : 0 ≤ A.1) : 0 ≤ (put1 d A o).1 := by
  unfold put1
  split
  · exact hA
  · show 0 ≤ A.1 + o.1; omega
/-- Where there is no list, no weight is told. -/
theorem LV_none : ∀ (L : Nat) (n : Int), (LV L n).1 = 0 → (LV L n).2 = 0
  | 0, n => by
    unfold LV
    by_cases h : sz n ≥ 1
    · rw [if_pos h]; intro _; rfl
    · rw [if_neg h]; intro _; rfl
  | L + 1, n => by
    show (if sz n ≥ 2 ^ (L + 1) then ((0 : Int), (0 : Int)) else acc (LV L) n 3).1 = 0 → (if sz n ≥ 2 ^ (L + 1) then ((0 : Int), (0 : Int)) else acc (LV L) n 3).2 = 0
    by_cases h : sz n ≥ 2 ^ (L + 1)
    · rw [if_pos h]; intro _; rfl
    · rw [if_neg h]
      have p := fun x => (LV_ok L x).1
      by_cases he : n % 2 = 0
      · rw [acc_even _ he]
        exact put1_none (p _) (Int.le_refl 0) (fun _ => rfl)
      · rw [acc_odd _ he]
        exact put1_none (p _) (put1_pos (p _) (Int.le_refl 0)) (put1_none (p _) (Int.le_refl 0) (fun _ => rfl))
theorem sumLoop (L : Nat) (hL : L ≤ 24) (n : Int) : ∀ (d i : Nat), i + d = 25 → Ev (fun k => spec_CountSigned.l0 k (tot (cnt L n) i) (tab (cnt L n)) 25 (i : Int)) (tot (cnt L n) 25, true) := by
  intro d
  induction d with
  | zero =>
    intro i h
    have : i = 25 := by omega
    subst this
    refine up ?_
    simp only [spec_CountSigned.l0, if_neg (show ¬ (((25 : Nat) : Int) < 25) by omega)]
    exact Ev.now _
  | succ d ih =>
    intro i h
    have hi : i < 25 := by omega
    have hs := cnt_small hL n i
    have ht := told L hL n
    have h0 := tot_nonneg ht.pos i
    have hmono : tot (cnt L n) i ≤ 282429536481 * 25 := by
      have key : ∀ j, tot (cnt L n) j ≤ 282429536481 * j := by
        intro j
        induction j with
        | zero => exact Int.le_refl _
        | succ j ihj => have := (cnt_small hL n j).2; unfold tot; omega
      have := key i
      omega
    refine up ?_
    simp only [spec_CountSigned.l0, if_pos (show (i : Int) < 25 by omega), if_pos (show (0 : Int) ≤ (i : Int) by omega), tab_length, if_pos (show (i : Int) < ((25 : Nat) : Int) by omega), tab_rd hi, wid (x := (i : Int) + 1) (by omega) (by omega), wid (x := tot (cnt L n) i + cnt L n i) (by omega) (by omega)]
    exact ih (i + 1) (by omega)
theorem firstLoop (L : Nat) (hL : L ≤ 24) (n : Int) : ∀ (d i : Nat), i + d = 25 → (∀ w, w < i → cnt L n w = 0) → Ev (fun k => spec_LeastWeight.l0 k (tab (cnt L n)) 25 (i : Int)) ((LV L n).2, decide ((LV L n).1 > 0)) := by
  have ht := told L hL n
  have hok := LV_ok L n
  have hz2 : (LV L n).1 = 0 → (LV L n).2 = 0 := LV_none L n
  intro d
  induction d with
  | zero =>
    intro i h hw
    have : i = 25 := by omega
    subst this
    have h0 : (LV L n).1 = 0 := by rw [← ht.sum]; exact tot_zero 25 hw
    refine up ?_
    simp only [spec_LeastWeight.l0, if_neg (show ¬ (((25 : Nat) : Int) < 25) by omega), h0, hz2 h0]
    exact Ev.now _
  | succ d ih =>
    intro i h hw
    have hi : i < 25 := by omega
    have hs := cnt_small hL n i
    refine up ?_
    simp only [spec_LeastWeight.l0, if_pos (show (i : Int) < 25 by omega), if_pos (show (0 : Int) ≤ (i : Int) by omega), tab_length, if_pos (show (i : Int) < ((25 : Nat) : Int) by omega), tab_rd hi, wid (x := (i : Int) + 1) (by omega) (by omega)]
    by_cases hp : cnt L n i > 0
    · simp only [if_pos hp]
      have h1 : (LV L n).1 ≠ 0 := fun h0 => by have := told_zero ht hL h0 i; omega
      obtain ⟨k1, k2⟩ := ht.low h1
      have e : (LV L n).2 = (i : Int) := by
        have a1 : ¬ (i : Int) < (LV L n).2 := fun c => by have := k1 i c; omega
        have a2 : ¬ (LV L n).2 < (i : Int) := fun c => by
          have := hw (LV L n).2.toNat (by have := hok.2.2.1; omega)
          omega
        omega
      have h2 : (LV L n).1 > 0 := by have := hok.1; omega
      rw [e, decide_eq_true h2]
      exact Ev.now _
    · simp only [if_neg hp]
      exact ih (i + 1) (by omega) fun w hw2 => by
        by_cases e : w = i
        · subst e; omega
        · exact hw w (by omega)
/-- What CountSigned and LeastWeight answer. -/
def cntV (n L : Int) : Int × Bool := if (-1000000 ≤ n ∧ n ≤ 1000000) ∧ 0 ≤ L ∧ L ≤ 24 then ((LV L.toNat n).1, true) else (0, false)
def lwV (n L : Int) : Int × Bool := if (-1000000 ≤ n ∧ n ≤ 1000000) ∧ 0 ≤ L ∧ L ≤ 24 then ((LV L.toNat n).2, decide ((LV L.toNat n).1 > 0)) else (0, false)
theorem implCount (n L : Int) : impl_CountSigned.f n L = some (cntV n L) := by
  unfold impl_CountSigned.f cntV
  split <;> rfl
theorem implLeast (n L : Int) : impl_LeastWeight.f n L = some (lwV n L) := by
  unfold impl_LeastWeight.f lwV
  split <;> rfl
theorem task_no {n L : Int} (h : ¬ ((-1000000 ≤ n ∧ n ≤ 1000000) ∧ 0 ≤ L ∧ L ≤ 24)) : spec_siTask.f n L = some false := by
  rw [siTask_val]
  congr 1
  rw [Bool.and_eq_false_iff, Bool.and_eq_false_iff, Bool.and_eq_false_iff, decide_eq_false_iff_not, decide_eq_false_iff_not, decide_eq_false_iff_not, decide_eq_false_iff_not]
  omega
theorem task_yes {n L : Int} (h : (-1000000 ≤ n ∧ n ≤ 1000000) ∧ 0 ≤ L ∧ L ≤ 24) : spec_siTask.f n L = some true := by
  obtain ⟨⟨h0, h1⟩, h2, h3⟩ := h
  simp only [siTask_val, decide_eq_true h0, decide_eq_true h1, decide_eq_true h2, decide_eq_true h3, Bool.and_self]
theorem specCount (n L : Int) : Ev (fun k => spec_CountSigned.f k n L) (cntV n L) := by
  unfold cntV
  by_cases h : (-1000000 ≤ n ∧ n ≤ 1000000) ∧ 0 ≤ L ∧ L ≤ 24
  · rw [if_pos h]
    simp only [spec_CountSigned.f, task_yes h, Option.bind_some, if_true]
    obtain ⟨⟨h0, h1⟩, h2, h3⟩ := h
    obtain ⟨l, rfl⟩ := Int.eq_ofNat_of_zero_le h2
    have hl : l ≤ 24 := by omega
    refine Ev.bind (siCount_val l hl n (by omega) (by omega)) ?_
    simp only [tab_length]
    have := sumLoop l hl n 25 0 (by omega)
    rw [(told l hl n).sum] at this
    exact this
  · rw [if_neg h]
    simp only [spec_CountSigned.f, task_no h, Option.bind_some, Bool.false_eq_true, if_false]
    exact Ev.now _
theorem specLeast (n L : Int) : Ev (fun k => spec_LeastWeight.f k n L) (lwV n L) := by
  unfold lwV
  by_cases h : (-1000000 ≤ n ∧ n ≤ 1000000) ∧ 0 ≤ L ∧ L ≤ 24
  · rw [if_pos h]
    simp only [spec_LeastWeight.f, task_yes h, Option.bind_some, if_true]
    obtain ⟨⟨h0, h1⟩, h2, h3⟩ := h
    obtain ⟨l, rfl⟩ := Int.eq_ofNat_of_zero_le h2
    have hl : l ≤ 24 := by omega
    refine Ev.bind (siCount_val l hl n (by omega) (by omega)) ?_
    simp only [tab_length]
    exact firstLoop l hl n 25 0 (by omega) fun w hw => by omega
  · rw [if_neg h]
    simp only [spec_LeastWeight.f, task_no h, Option.bind_some, Bool.false_eq_true, if_false]
    exact Ev.now _
/-- How many digits are other than 0. -/
def wt : List Int → Nat
  | [] => 0
  | d :: l => (if d = 0 then 0 else 1) + wt l
theorem wt_le : ∀ l, wt l ≤ l.length
  | [] => Nat.le_refl _
  | d :: l => by have := wt_le l; unfold wt; split <;> simp only [List.length_cons] <;> omega
/-! All lists of so many digits for a number, in order. -/
theorem accL_mem {f : Int → List (List Int)} {n : Int} {l : List Int} : ∀ i, l ∈ accL f n i ↔ ∃ j, j < i ∧ (n - ((j : Int) - 1)) % 2 = 0 ∧ ∃ t ∈ f ((n - ((j : Int) - 1)) / 2), l = ((j : Int) - 1) :: t
  | 0 => by simp [accL]
  | i + 1 => by
    have ih := accL_mem (f := f) (n := n) (l := l) i
    unfold accL
    split
    · rename_i h
      rw [List.mem_append, ih]
      constructor
      · rintro (⟨j, hj, r⟩ | h2)
        · exact ⟨j, by omega, r⟩
        · obtain ⟨t, ht, e⟩ := List.mem_map.1 h2
          exact ⟨i, by omega, h, t, ht, e.symm⟩
      · rintro ⟨j, hj, h1, t, ht, e⟩
        by_cases hji : j = i
        · subst hji; exact Or.inr (List.mem_map.2 ⟨t, ht, e.symm⟩)
        · exact Or.inl ⟨j, by omega, h1, t, ht, e⟩
    · rename_i h
      rw [ih]
      constructor
      · rintro ⟨j, hj, r⟩; exact ⟨j, by omega, r⟩
      · rintro ⟨j, hj, h1, r⟩
        by_cases hji : j = i
        · subst hji; exact absurd h1 h
        · exact ⟨j, by omega, h1, r⟩
/-- Each of them stands for the number. -/
theorem LL_val : ∀ (L : Nat) (n : Int), ∀ l ∈ LL L n, l.length = L ∧ val l = n ∧ ∀ d ∈ l, d = -1 ∨ d = 0 ∨ d = 1
  | 0, n, l, h => by
    unfold LL at h
    split at h
    · rename_i hn
      rw [List.mem_singleton] at h; subst h; subst hn
      exact ⟨rfl, rfl, fun d hd => by cases hd⟩
    · cases h
  | L + 1, n, l, h => by
    unfold LL at h
    split at h
    · cases h
    · obtain ⟨j, hj, hm, t, ht, rfl⟩ := (accL_mem 3).1 h
      have ih := LL_val L _ t ht
      refine ⟨by simp [ih.1], ?_, fun d hd => ?_⟩
      · show ((j : Int) - 1) + 2 * val t = n
        rw [ih.2.1]; omega
      · rcases List.mem_cons.1 hd with rfl | hd
        · omega
        · exact ih.2.2 d hd
/-- Their least weight and their number, as LV tells them. -/
def leastOf (ls : List (List Int)) (p : Int × Int) : Prop := p.1 = ls.length ∧ (∀ l ∈ ls, p.2 ≤ wt l) ∧ (ls ≠ [] → ∃ l ∈ ls, p.2 = wt l)
theorem wt_cons (d : Int) (l : List Int) : wt (d :: l) = (if d = 0 then 0 else 1) + wt l := rfl
theorem sz_one {d : Int} (h : d = -1 ∨ d = 0 ∨ d = 1) : sz d = if d = 0 then 0 else 1 := by
  rcases h with rfl | rfl | rfl <;> decide
theorem least_put {A B : List (List Int)} {a b : Int × Int} {d : Int} (hd : d = -1 ∨ d = 0 ∨ d = 1) (hA : leastOf A a) (hB : leastOf B b) : leastOf (A ++ B.map (d :: ·)) (put1 d a b) := by
  obtain ⟨a1, a2, a3⟩ := hA
  obtain ⟨b1, b2, b3⟩ := hB
  have hs := sz_one hd
  unfold put1
  by_cases h0 : b.1 = 0
  · have : B = [] := List.eq_nil_of_length_eq_zero (by omega)
    subst this
    rw [if_pos h0]
    simpa using ⟨a1, a2, a3⟩
  · rw [if_neg h0]
    have hB0 : B ≠ [] := fun e => h0 (by rw [b1, e]; rfl)
    obtain ⟨lb, hlb, eb⟩ := b3 hB0
    refine ⟨by simp [a1, b1], fun l hl => ?_, fun _ => ?_⟩
    · show (if a.1 = 0 ∨ b.2 + sz d < a.2 then b.2 + sz d else a.2) ≤ _
      rcases List.mem_append.1 hl with h1 | h1
      · have := a2 l h1
        have : a.1 ≠ 0 := by
          have := List.length_pos_of_mem h1
          omega
        split <;> omega
      · obtain ⟨t, ht, rfl⟩ := List.mem_map.1 h1
        have h2 := b2 t ht
        have h3 : ((wt (d :: t) : Nat) : Int) = sz d + wt t := by
          rw [wt_cons, hs]; split <;> simp
        split <;> omega
    · show ∃ l ∈ _, (if a.1 = 0 ∨ b.2 + sz d < a.2 then b.2 + sz d else a.2) = _
      split
      · refine ⟨d :: lb, List.mem_append.2 (Or.inr (List.mem_map.2 ⟨lb, hlb, rfl⟩)), ?_⟩
        have h3 : ((wt (d :: lb) : Nat) : Int) = sz d + wt lb := by
          rw [wt_cons, hs]; split <;> simp
        omega
      · rename_i hc
        have hA0 : A ≠ [] := fun e => hc (Or.inl (by rw [a1, e]; rfl))
        obtain ⟨la, hla, ea⟩ := a3 hA0
        exact ⟨la, List.mem_append.2 (Or.inl hla), ea⟩
theorem least_acc {f : Int → List (List Int)} {g : Int → Int × Int} (h : ∀ x, leastOf (f x) (g x)) (n : Int) : ∀ i, i ≤ 3 → leastOf (accL f n i) (acc g n i)
  | 0, _ => ⟨rfl, fun l hl => (by cases hl), fun h => absurd rfl h⟩
  | i + 1, hi => by
    have ih := least_acc h n i (by omega)
    unfold accL acc
    split
    · exact least_put (by omega) ih (h _)
    · exact ih
theorem LL_LV : ∀ (L : Nat) (n : Int), leastOf (LL L n) (LV L n)
  | 0, n => by
    unfold LL LV
    by_cases h : n = 0
    · subst h
      rw [if_pos rfl, if_neg (by decide)]
      exact ⟨rfl, fun l hl => (by rw [List.mem_singleton] at hl; subst hl; decide), fun _ => ⟨[], List.mem_singleton.2 rfl, rfl⟩⟩
    · rw [if_neg h, if_pos (by unfold sz; split <;> omega)]
      exact ⟨rfl, fun l hl => (by cases hl), fun h => absurd rfl h⟩
  | L + 1, n => by
    unfold LL LV
    split
    · exact ⟨rfl, fun l hl => (by cases hl), fun h => absurd rfl h⟩
    · exact least_acc (LL_LV L) n 3 (by omega)
/-- The order of lists. -/
def lessB : List Int → List Int → Bool
  | [], b => decide (0 < b.length)
  | _ :: _, [] => false
  | x :: a, y :: b => if x = y then lessB a b else decide (x < y)
theorem lessB_head {x y : Int} (h : x < y) (a b : List Int) : lessB (x :: a) (y :: b) = true := by
  unfold lessB
  rw [if_neg (by omega), decide_eq_true h]
theorem lessB_same (x : Int) (a b : List Int) : lessB (x :: a) (x :: b) = lessB a b := by
  show (if x = x then lessB a b else decide (x < x)) = _
  rw [if_pos rfl]
theorem accL_sorted {f : Int → List (List Int)} (h : ∀ x, (f x).Pairwise (fun a b => lessB a b = true)) (n : Int) : ∀ i, (accL f n i).Pairwise (fun a b => lessB a b = true)
  | 0 => List.Pairwise.nil
  | i + 1 => by
    have ih := accL_sorted h n i
    unfold accL
    split
    · rw [List.pairwise_append]
      refine ⟨ih, ?_, fun a ha b hb => ?_⟩
      · rw [List.pairwise_map]
        exact (h _).imp (fun {a b} hab => by rw [lessB_same]; exact hab)
      · obtain ⟨j, hj, _, t, _, rfl⟩ := (accL_mem i).1 ha
        obtain ⟨s, _, rfl⟩ := List.mem_map.1 hb
        exact lessB_head (by omega) _ _
    · exact ih
theorem LL_sorted : ∀ (L : Nat) (n : Int), (LL L n).Pairwise (fun a b => lessB a b = true)
  | 0, n => by
    unfold LL
    split
    · exact List.pairwise_singleton _ _
    · exact List.Pairwise.nil
  | L + 1, n => by
    unfold LL
    split
    · exact List.Pairwise.nil
    · exact accL_sorted (LL_sorted L) n 3
def SV (L : Nat) (n : Int) (M : Nat) : List (List Int) := if L = 0 then LL 0 n else (LL L n).take M
theorem SV_take (L : Nat) (n d : Int) (M : Nat) : ((SV L n M).map (d :: ·)).take M = ((LL L n).map (d :: ·)).take M := by
  unfold SV
  split
  · rename_i h; subst h; rfl
  · rw [List.map_take, List.take_take, Nat.min_self]
theorem SV_mem {L : Nat} {n : Int} {M : Nat} {l : List Int} (h : l ∈ SV L n M) : l ∈ LL L n := by
  unfold SV at h
  split at h
  · rename_i h0; subst h0; exact h
  · exact List.mem_of_mem_take h
theorem rdSL_at {P : List (List Int)} {i : Nat} (h : i < P.length) : rd_L1 P (i : Int) = P[i] := by
  unfold rd_L1
  rw [Int.toNat_natCast, List.getD_eq_getElem?_getD, List.getElem?_eq_getElem h]; rfl
theorem siAll_inner (n : Int) (L0 : Int) (M : Nat) (hM : M ≤ 1000) (d : Int) (T : List (List Int)) (hT : T.length ≤ 1000000) (hr : ∀ l ∈ T, l.length ≤ 1000) {r : List (List Int)} : ∀ (e i : Nat) (X : List (List Int)), i + e = T.length →
    Ev (fun k => spec_siAll.l0 k n L0 (M : Int) (X ++ ((T.drop i).map (d :: ·)).take (M - X.length)) (wrap64 (d + 1))) r → Ev (fun k => spec_siAll.l1 k n L0 (M : Int) X d T (T.length : Int) i) r := by
  intro e
  induction e with
  | zero =>
    intro i X h hx
    rw [List.drop_of_length_le (by omega), List.map_nil, List.take_nil, List.append_nil] at hx
    refine up ?_
    simp only [spec_siAll.l1, if_neg (show ¬ (i : Int) < (T.length : Int) by omega)]
    exact hx
  | succ e ih =>
    intro i X h hx
    have hi : i < T.length := by omega
    have hl := hr _ (List.getElem_mem hi)
    rw [List.drop_eq_getElem_cons hi, List.map_cons] at hx
    refine up ?_
    simp only [spec_siAll.l1, if_pos (show (i : Int) < (T.length : Int) by omega), if_pos (show (0 : Int) ≤ (i : Int) by omega), rdSL_at hi, wid (x := (i : Int) + 1) (by omega) (by omega), Option.bind_some]
    by_cases hc : X.length < M
    · simp only [if_pos (show (X.length : Int) < (M : Int) by omega), if_pos (show ([d] : List Int).length + (T[i]).length < 17592186044416 by simp only [List.length_singleton]; omega), if_pos (show X.length < 5864062014805 by omega)]
      refine ih (i + 1) _ (by omega) ?_
      obtain ⟨m, hm⟩ : ∃ m, M - X.length = m + 1 := ⟨M - X.length - 1, by omega⟩
      rw [hm, List.take_succ_cons] at hx
      have e2 : M - (X ++ [[d] ++ T[i]]).length = m := by rw [List.length_append, List.length_singleton]; omega
      rw [e2, List.append_assoc]
      exact hx
    · simp only [if_neg (show ¬ (X.length : Int) < (M : Int) by omega)]
      refine ih (i + 1) X (by omega) ?_
      rw [show M - X.length = 0 by omega, List.take_zero] at hx ⊢
      exact hx
theorem take_step (a b : List (List Int)) (M : Nat) : a.take M ++ b.take (M - (a.take M).length) = (a ++ b).take M := by
  rw [List.take_append, List.length_take]
  congr 2
  omega
theorem accL_short (L : Nat) (n : Int) (i : Nat) (hi : i ≤ 3) (hL : L ≤ 23) : ∀ x, (LL L x).length ≤ 282429536481 := fun x => by
  have h1 := LL_len L x
  have h2 := (LV_ok L x).2.1
  have h3 := three_le (show L ≤ 24 by omega)
  omega
theorem siAll_val : ∀ (L : Nat), L ≤ 24 → ∀ (n : Int) (M : Nat), M ≤ 1000 → -1000000000000 ≤ n → n ≤ 1000000000000 → (L = 0 ∨ True) → Ev (fun k => spec_siAll.f k n (L : Int) (M : Int)) (SV L n M) := by
  intro L
  induction L with
  | zero =>
    intro _ n M hM h0 h1 _
    refine up ?_
    simp only [spec_siAll.f, if_pos (show ((0 : Nat) : Int) = 0 from rfl)]
    unfold SV
    rw [if_pos rfl]
    unfold LL
    by_cases h : n = 0
    · simp only [if_pos h]; exact Ev.now _
    · simp only [if_neg h]; exact Ev.now _
  | succ L ih =>
    intro hL n M hM h0 h1 _
    have hsh : shl .i64 1 (((L + 1 : Nat)) : Int) = 2 ^ (L + 1) := by rw [shl_small_val (by decide) (by decide) hL]; omega
    have hl1 : wrap64 (((L + 1 : Nat) : Int) - 1) = (L : Int) := by rw [wid (by omega) (by omega)]; omega
    have hno : sz n ≥ 2 ^ (L + 1) → SV (L + 1) n M = [] := fun h => by
      unfold SV
      rw [if_neg (by omega), LL, if_pos h, List.take_nil]
    refine up ?_
    simp only [spec_siAll.f, if_neg (show ¬ ((L + 1 : Nat) : Int) = 0 by omega), if_pos (show (0 : Int) ≤ ((L + 1 : Nat) : Int) by omega), hsh, wid (x := -n) (by omega) (by omega)]
    by_cases hb1 : n ≥ 2 ^ (L + 1)
    · simp only [if_pos hb1]
      rw [hno (by unfold sz; split <;> omega)]
      refine up ?_
      simp only [spec_siAll.j0, if_true]
      exact Ev.now _
    simp only [if_neg hb1]
    by_cases hb2 : -n ≥ 2 ^ (L + 1)
    · rw [hno (by unfold sz; split <;> omega)]
      refine up ?_
      simp only [spec_siAll.j0, decide_eq_true hb2, if_true]
      exact Ev.now _
    have hb : ¬ sz n ≥ 2 ^ (L + 1) := by unfold sz; split <;> omega
    refine up ?_
    simp only [spec_siAll.j0, decide_eq_false hb2, Bool.false_eq_true, if_false]
    have hSV : SV (L + 1) n M = (accL (LL L) n 3).take M := by
      unfold SV
      rw [if_neg (by omega), LL, if_neg hb]
    rw [hSV]
    have key : ∀ (e i : Nat), i + e = 3 → Ev (fun k => spec_siAll.l0 k n ((L + 1 : Nat) : Int) (M : Int) ((accL (LL L) n i).take M) ((i : Int) - 1)) ((accL (LL L) n 3).take M) := by
      intro e
      induction e with
      | zero =>
        intro i hi
        obtain rfl : i = 3 := by omega
        refine up ?_
        simp only [spec_siAll.l0, if_neg (show ¬ ((3 : Nat) : Int) - 1 ≤ 1 by omega)]
        exact Ev.now _
      | succ e ihe =>
        intro i hi
        have hnext := ihe (i + 1) (by omega)
        have hstep : accL (LL L) n (i + 1) = (if (n - ((i : Int) - 1)) % 2 = 0 then accL (LL L) n i ++ (LL L ((n - ((i : Int) - 1)) / 2)).map (((i : Int) - 1) :: ·) else accL (LL L) n i) := rfl
        have hd : ((i + 1 : Nat) : Int) - 1 = (i : Int) - 1 + 1 := by omega
        rw [hd] at hnext
        generalize hdd : (i : Int) - 1 = d at hnext hstep ⊢
        refine up ?_
        simp only [spec_siAll.l0, if_pos (show d ≤ 1 by omega), siOdd_val, Option.bind_some, wid (x := n - d) (by omega) (by omega), wid (x := d + 1) (by omega) (by omega), hl1]
        by_cases hev : (n - d) % 2 = 0
        · rw [if_pos hev] at hstep
          have ht : Int.tdiv (n - d) 2 = (n - d) / 2 := half_even hev
          have hlt : ((accL (LL L) n i).take M).length ≤ M := by rw [List.length_take]; omega
          simp only [hev, not_true_eq_false, decide_false, Bool.false_eq_true, if_false, ht, wid (x := (n - d) / 2) (by omega) (by omega), wid (x := (M : Int) - (((accL (LL L) n i).take M).length : Int)) (by omega) (by omega)]
          rw [show (M : Int) - (((accL (LL L) n i).take M).length : Int) = ((M - ((accL (LL L) n i).take M).length : Nat) : Int) by omega]
          refine Ev.bind (ih (by omega) ((n - d) / 2) (M - ((accL (LL L) n i).take M).length) (by omega) (by omega) (by omega) (Or.inr trivial)) ?_
          have hTl : (SV L ((n - d) / 2) (M - ((accL (LL L) n i).take M).length)).length ≤ 1000000 := by
            unfold SV
            split
            · unfold LL; split <;> simp
            · rw [List.length_take]; omega
          refine siAll_inner n _ M hM d _ hTl (fun l hl => by have := (LL_val L _ l (SV_mem hl)).1; omega) _ 0 _ (Nat.zero_add _) ?_
          rw [List.drop_zero, SV_take, take_step, ← hstep, wid (x := d + 1) (by omega) (by omega)]
          exact hnext
        · rw [if_neg hev] at hstep
          simp only [hev, not_false_eq_true, decide_true, if_true]
          rw [hstep] at hnext
          exact hnext
    have := key 3 0 (by omega)
    have e0 : (accL (LL L) n 0).take M = [] := by simp [accL]
    rw [e0] at this
    exact this
/-- What AllSigned answers. -/
def asV (n L : Int) : List (List Int) × Bool := if (cntV n L).2 = true ∧ (cntV n L).1 ≤ 300 then (LL L.toNat n, true) else ([], false)
theorem implAll (n L : Int) : impl_AllSigned.f n L = some (asV n L) := by
  unfold impl_AllSigned.f asV
  rw [implCount, Option.bind_some]
  split <;> rfl
theorem specAll (n L : Int) : Ev (fun k => spec_AllSigned.f k n L) (asV n L) := by
  unfold asV cntV
  by_cases h : (-1000000 ≤ n ∧ n ≤ 1000000) ∧ 0 ≤ L ∧ L ≤ 24
  · rw [if_pos h]
    simp only [spec_AllSigned.f, task_yes h, Option.bind_some, if_true]
    obtain ⟨⟨h0, h1⟩, h2, h3⟩ := h
    obtain ⟨l, rfl⟩ : ∃ l : Nat, L = (l : Int) := ⟨L.toNat, by omega⟩
    have hl : l ≤ 24 := by omega
    refine Ev.bind (siAll_val l hl n 301 (by omega) (by omega) (by omega) (Or.inr trivial)) ?_
    rw [Int.toNat_natCast]
    have hlen := LL_len l n
    by_cases h300 : (LV l n).1 ≤ 300
    · have e : SV l n 301 = LL l n := by
        unfold SV
        split
        · rename_i h0; subst h0; rfl
        · rw [List.take_of_length_le (by omega)]
      rw [e]
      simp only [true_and, if_pos h300, if_neg (show ¬ ((LL l n).length : Int) > 300 by omega)]
      exact Ev.now _
    · have e : ((SV l n 301).length : Int) > 300 := by
        unfold SV
        split
        · rename_i h0; subst h0; omega
        · rw [List.length_take]; omega
      simp only [true_and, if_neg h300, if_pos e]
      exact Ev.now _
  · rw [if_neg h]
    simp only [spec_AllSigned.f, task_no h, Option.bind_some, Bool.false_eq_true, if_false, false_and]
    exact Ev.now _
theorem signedB_len {l : List Int} (h : signedB l = true) : l.length ≤ 24 := by
  unfold signedB at h
  simp only [Bool.and_eq_true, decide_eq_true_eq] at h
  exact h.1
theorem signedB_mem {l : List Int} (h : signedB l = true) {d : Int} (hd : d ∈ l) : -1 ≤ d ∧ d ≤ 1 := by
  unfold signedB at h
  simp only [Bool.and_eq_true, decide_eq_true_eq, List.all_eq_true] at h
  exact h.2 d hd
theorem standW_val : ∀ (l : List Int), small l → l.length ≤ 24 → standW l = val l
  | [], _, _ => rfl
  | d :: l, h, hl => by
    have hd := h d (List.mem_cons_self ..)
    simp only [List.length_cons] at hl
    have ih := standW_val l (small_tail h) (by omega)
    have hb := val_big (small_tail h) (by omega)
    show wrap64 (wrap64 (2 * standW l) + d) = d + 2 * val l
    rw [ih, wid (x := 2 * val l) (by omega) (by omega), wid (x := 2 * val l + d) (by omega) (by omega)]
    omega
theorem standing_val {l : List Int} (h : small l) (hl : l.length ≤ 24) : impl_standing.f l = some (val l) := by
  unfold impl_standing.f
  rw [if_pos (by omega), standW_val l h hl]
def okNum (n : Int) : Bool := decide (-1000000 ≤ n) && decide (n ≤ 1000000)
theorem siNumber_val (n : Int) : spec_siNumber.f n = some (okNum n) := by simp only [spec_siNumber.f, l1In_val, Option.bind_some]; rfl
theorem signedOk_val (n : Int) : impl_signedOk.f n = some (okNum n) := by
  simp only [impl_signedOk.f, impl_in.f, okNum]
  by_cases h : n ≥ -1000000
  · simp [h, show -1000000 ≤ n from h]
  · simp [h, show ¬ -1000000 ≤ n from h]
theorem signedB_small {l : List Int} (h : signedB l = true) : small l := fun d hd => by have := signedB_mem h hd; omega
def fromV (l : List Int) : Int × Bool := if signedB l = true then (if okNum (val l) = true then (val l, true) else (0, false)) else (0, false)
theorem implFrom (l : List Int) : Ev (fun k => impl_FromSigned.f k l) (fromV l) := by
  simp only [impl_FromSigned.f, impl_isDigits.f, Option.bind_some, fromV]
  by_cases h : signedB l = true
  · simp only [h, if_true, standing_val (signedB_small h) (signedB_len h), Option.bind_some]
    refine up ?_
    simp only [impl_FromSigned.j0, impl_isDigits.f, Option.bind_some, h, if_true, signedOk_val]
    by_cases h2 : okNum (val l) = true
    · simp only [h2, if_true]; exact Ev.now _
    · simp only [h2, if_false]; exact Ev.now _
  · simp only [h, if_false]
    refine up ?_
    simp only [impl_FromSigned.j0, impl_isDigits.f, Option.bind_some, h, if_false]
    exact Ev.now _
theorem implWeight_loop (l : List Int) (hl : l.length ≤ 1000000) : ∀ (d i : Nat) (n : Nat), i + d = l.length → n ≤ i → Ev (fun k => impl_weight.l0 k n l (l.length : Int) i) ((n + wt (l.drop i) : Nat) : Int) := by
  intro d
  induction d with
  | zero =>
    intro i n h hn
    refine up ?_
    simp only [impl_weight.l0, if_neg (show ¬ (i : Int) < (l.length : Int) by omega)]
    rw [List.drop_of_length_le (by omega)]
    exact Ev.now _
  | succ d ih =>
    intro i n h hn
    have hi : i < l.length := by omega
    refine up ?_
    simp only [impl_weight.l0, if_pos (show (i : Int) < (l.length : Int) by omega), if_pos (show (0 : Int) ≤ (i : Int) by omega), wid (x := (i : Int) + 1) (by omega) (by omega), wid (x := (n : Int) + 1) (by omega) (by omega), rd_at hi]
    rw [List.drop_eq_getElem_cons hi, wt]
    by_cases hz : l[i] = 0
    · simp only [hz, if_true]
      have := ih (i + 1) n (by omega) (by omega)
      rw [show n + (0 + wt (l.drop (i + 1))) = n + wt (l.drop (i + 1)) by omega]; exact this
    · simp only [hz, if_false]
      have := ih (i + 1) (n + 1) (by omega) (by omega)
      rw [show n + (1 + wt (l.drop (i + 1))) = n + 1 + wt (l.drop (i + 1)) by omega]; exact this
theorem implWeight (l : List Int) (hl : l.length ≤ 1000000) : Ev (fun k => impl_weight.f k l) (wt l : Int) := by
  have := implWeight_loop l hl l.length 0 0 (by omega) (by omega)
  simpa [impl_weight.f] using this
theorem implWeightOf (l : List Int) : Ev (fun k => impl_WeightOf.f k l) (if signedB l = true then ((wt l : Int), true) else (0, false)) := by
  simp only [impl_WeightOf.f, impl_isDigits.f, Option.bind_some]
  by_cases h : signedB l = true
  · have hb := signedB_len h
    simp only [h, if_true]
    exact Ev.bind (implWeight l (by omega)) (Ev.now _)
  · simp only [h, if_false]; exact Ev.now _
theorem wf_byte {x : Int} (h : (Lit.int .u8 x).wf = true) : 0 ≤ x ∧ x ≤ 255 := by
  simp only [Lit.wf, Bool.and_eq_true, decide_eq_true_eq] at h
  exact h
theorem rd_byte {l : List Int} (hl : ∀ x ∈ l, (Lit.int .u8 x).wf = true) (i : Int) (h0 : 0 ≤ i) (h1 : i < l.length) : 0 ≤ rd l i ∧ rd l i ≤ 255 := by
  unfold rd
  have hi : i.toNat < l.length := by omega
  rw [List.getD_eq_getElem?_getD, List.getElem?_eq_getElem hi]
  exact wf_byte (hl _ (List.getElem_mem hi))
theorem wrapU_range (n : Int) : 0 ≤ IntKind.u64.wrap n ∧ IntKind.u64.wrap n < 18446744073709551616 := by
  simp only [IntKind.wrap, IntKind.bits, IntKind.signed, Bool.false_eq_true, false_and, if_false]
  simp
  omega
theorem and255 (x : Int) : 0 ≤ Go.bits .and .u64 (IntKind.u64.wrap x / 1099511627776) 255 ∧ Go.bits .and .u64 (IntKind.u64.wrap x / 1099511627776) 255 ≤ 255 := by
  have h := wrapU_range x
  have hw : ∀ n : Int, 0 ≤ n → n < 2 ^ 40 → IntKind.u64.wrap n = n := by
    intro n h0 h1
    have e : (2 : Int) ^ 40 = 1099511627776 := by decide
    simp only [IntKind.wrap, IntKind.bits, IntKind.signed, Bool.false_eq_true, false_and, if_false]
    simp
    omega
  have e : (2 : Int) ^ 40 = 1099511627776 := by decide
  have hb : Go.bits .and .u64 (IntKind.u64.wrap x / 1099511627776) ((2 : Int) ^ 8 - 1) = (IntKind.u64.wrap x / 1099511627776) % 2 ^ 8 := bits_mask .u64 40 (by decide) hw 8 (by decide) _ (by omega) (by omega)
  have e1 : (2 : Int) ^ 8 - 1 = 255 := by decide
  have e2 : (2 : Int) ^ 8 = 256 := by decide
  rw [e1, e2] at hb
  rw [hb]; omega
theorem next_ok {l : List Int} (hl : ∀ x ∈ l, (Lit.int .u8 x).wf = true) (p s : Int) (h0 : 0 ≤ p) (h1 : p ≤ 1000000000000) : ∃ v s', spec_l1Cur_next.f l p s = some (v, p + 1, s') ∧ 0 ≤ v ∧ v ≤ 255 := by
  unfold spec_l1Cur_next.f
  rw [wid (x := p + 1) (by omega) (by omega)]
  by_cases hlt : p < (l.length : Int)
  · have hb := rd_byte hl p h0 hlt
    rw [if_pos hlt, if_pos h0, if_pos (show p + 1 ≤ (l.length : Int) by omega), wid (x := rd l p) (by omega) (by omega)]
    exact ⟨_, _, rfl, by omega, by omega⟩
  · rw [if_neg hlt]
    by_cases hle : p + 1 ≤ (l.length : Int)
    · omega
    · rw [if_neg hle]
      have := and255 (IntKind.u64.wrap (IntKind.u64.wrap (s * 6364136223846793005)) + 1442695040888963407)
      rw [wid (by omega) (by omega)]
      exact ⟨_, _, rfl, this.1, this.2⟩
theorem pick_ok {l : List Int} (hl : ∀ x ∈ l, (Lit.int .u8 x).wf = true) (p s n : Int) (h0 : 0 ≤ p) (h1 : p ≤ 100000000000) : ∃ v p' s', spec_l1Cur_pick.f l p s n = some (v, p', s') ∧ 0 ≤ v ∧ (1 ≤ n → v < n) ∧ p ≤ p' ∧ p' ≤ p + 2 := by
  unfold spec_l1Cur_pick.f
  by_cases hn : n ≤ 1
  · rw [if_pos hn]; exact ⟨0, p, s, rfl, by omega, by omega, by omega, by omega⟩
  · rw [if_neg hn]
    obtain ⟨v, s1, e1, hv0, hv1⟩ := next_ok hl p s h0 (by omega)
    rw [e1]; simp only [Option.bind_some]
    by_cases hb : n > 200
    · obtain ⟨u, s2, e2, hu0, hu1⟩ := next_ok hl (p + 1) s1 (by omega) (by omega)
      rw [if_pos hb, e2]; simp only [Option.bind_some]
      rw [if_neg (by omega), wid (x := v * 256) (by omega) (by omega), wid (x := v * 256 + u) (by omega) (by omega), Int.tmod_eq_emod_of_nonneg (by omega)]
      have r1 := Int.emod_nonneg (v * 256 + u) (show n ≠ 0 by omega)
      have r2 := Int.emod_lt_of_pos (v * 256 + u) (show 0 < n by omega)
      exact ⟨_, _, _, rfl, r1, fun _ => r2, by omega, by omega⟩
    · rw [if_neg hb, if_neg (by omega), Int.tmod_eq_emod_of_nonneg (by omega)]
      have r1 := Int.emod_nonneg v (show n ≠ 0 by omega)
      have r2 := Int.emod_lt_of_pos v (show 0 < n by omega)
      exact ⟨_, _, _, rfl, r1, fun _ => r2, by omega, by omega⟩
theorem among_ok {l : List Int} (hl : ∀ x ∈ l, (Lit.int .u8 x).wf = true) (p s : Int) (h0 : 0 ≤ p) (h1 : p ≤ 100000000000) (t : List Int) (ht : 1 ≤ t.length) : ∃ v p' s', spec_l1Cur_among.f l p s t = some (v, p', s') ∧ v ∈ t ∧ p ≤ p' ∧ p' ≤ p + 2 := by
  obtain ⟨v, p', s', e, v0, v1, a, b⟩ := pick_ok hl p s t.length h0 h1
  have hv := v1 (by omega)
  refine ⟨rd t v, p', s', by simp only [spec_l1Cur_among.f, e, Option.bind_some, if_pos v0, if_pos hv], ?_, a, b⟩
  unfold rd
  have hi : v.toNat < t.length := by omega
  rw [List.getD_eq_getElem?_getD, List.getElem?_eq_getElem hi]
  exact List.getElem_mem hi
theorem number9_ok {l : List Int} (hl : ∀ x ∈ l, (Lit.int .u8 x).wf = true) (p s : Int) (h0 : 0 ≤ p) (h1 : p ≤ 10000000000) : ∃ v p' s', spec_l1Cur_number9.f l p s = some (v, p', s') ∧ p ≤ p' ∧ p' ≤ p + 8 := by
  unfold spec_l1Cur_number9.f
  obtain ⟨v, p1, s1, e, _, _, a, b⟩ := pick_ok hl p s 10 h0 (by omega)
  rw [e]; simp only [Option.bind_some]
  by_cases c0 : v = 0
  · obtain ⟨u, p2, s2, e2, _, a2, b2⟩ := among_ok hl p1 s1 (by omega) (by omega) [0, 1, (-1), 1000000, (-1000000), 1000001, (-1000001), 4611686018427387904, (-9223372036854775808)] (by simp)
    rw [if_pos c0, e2]; exact ⟨_, p2, s2, rfl, by omega, by omega⟩
  rw [if_neg c0]
  by_cases c1 : v = 1
  · obtain ⟨u, p2, s2, e2, _, _, a2, b2⟩ := pick_ok hl p1 s1 60000 (by omega) (by omega)
    rw [if_pos c1, e2]; exact ⟨_, p2, s2, rfl, by omega, by omega⟩
  rw [if_neg c1]
  by_cases c2 : v = 2
  · obtain ⟨u, p2, s2, e2, u0, _, a2, b2⟩ := pick_ok hl p1 s1 20 (by omega) (by omega)
    obtain ⟨t, p3, s3, e3, _, _, a3, b3⟩ := pick_ok hl p2 s2 3 (by omega) (by omega)
    rw [if_pos c2, e2]; simp only [Option.bind_some]
    rw [if_pos u0, e3]; exact ⟨_, p3, s3, rfl, by omega, by omega⟩
  rw [if_neg c2]
  obtain ⟨u, p2, s2, e2, _, a2, b2⟩ := among_ok hl p1 s1 (by omega) (by omega) [20, 200, 2000] (by simp)
  obtain ⟨t, p3, s3, e3, _, _, a3, b3⟩ := pick_ok hl p2 s2 u (by omega) (by omega)
  obtain ⟨q, p4, s4, e4, _, a4, b4⟩ := among_ok hl p3 s3 (by omega) (by omega) [0, 10, 100] (by simp)
  rw [e2]; simp only [Option.bind_some]
  rw [e3]; simp only [Option.bind_some]
  rw [e4]; exact ⟨_, p4, s4, rfl, by omega, by omega⟩
theorem one_ok {l : List Int} (hl : ∀ x ∈ l, (Lit.int .u8 x).wf = true) (p s n : Int) (h0 : 0 ≤ p) (h1 : p ≤ 100000000000) : ∃ v p' s', spec_l1Cur_one.f l p s n = some (v, p', s') ∧ p ≤ p' ∧ p' ≤ p + 2 := by
  obtain ⟨v, p', s', e, _, _, a, b⟩ := pick_ok hl p s n h0 h1
  exact ⟨(v == 0), p', s', by simp only [spec_l1Cur_one.f, e, Option.bind_some], a, b⟩
theorem rSame_loop (l : List Int) (hl : l.length ≤ 140737488351232) : ∀ (d : Nat) (i : Int), 0 ≤ i → i + d = l.length → Ev (fun k => laws_rSame.l0 k l l (l.length : Int) i) true := by
  intro d
  induction d with
  | zero =>
    intro i h0 h
    refine up ?_
    simp only [laws_rSame.l0, if_neg (show ¬ i < (l.length : Int) by omega)]
    exact Ev.now _
  | succ d ih =>
    intro i h0 h
    refine up ?_
    simp only [laws_rSame.l0, if_pos (show i < (l.length : Int) by omega), if_pos h0, if_true, wid (x := i + 1) (by omega) (by omega)]
    exact ih (i + 1) (by omega) (by omega)
theorem rSame_same (l : List Int) (hl : l.length ≤ 140737488351232) : Ev (fun k => laws_rSame.f k l l) true := by
  simp only [laws_rSame.f, if_true]
  exact rSame_loop l hl l.length 0 (by omega) (by omega)
theorem rSL_loop (E : List (List Int)) (hE : E.length ≤ 1000000) (hr : ∀ l ∈ E, l.length ≤ 1000) : ∀ (d i : Nat), i + d = E.length → Ev (fun k => laws_rSameLists.l0 k E E (E.length : Int) i) true := by
  intro d
  induction d with
  | zero =>
    intro i h
    refine up ?_
    simp only [laws_rSameLists.l0, if_neg (show ¬ (i : Int) < (E.length : Int) by omega)]
    exact Ev.now _
  | succ d ih =>
    intro i h
    have hi : i < E.length := by omega
    have := hr _ (List.getElem_mem hi)
    refine up ?_
    simp only [laws_rSameLists.l0, if_pos (show (i : Int) < (E.length : Int) by omega), if_pos (show (0 : Int) ≤ (i : Int) by omega), rdSL_at hi, wid (x := (i : Int) + 1) (by omega) (by omega)]
    refine Ev.bind (rSame_same E[i] (by omega)) ?_
    simp only [if_true]
    exact ih (i + 1) (by omega)
theorem rSL_same (E : List (List Int)) (hE : E.length ≤ 1000000) (hr : ∀ l ∈ E, l.length ≤ 1000) : Ev (fun k => laws_rSameLists.f k E E) true := by
  simp only [laws_rSameLists.f, if_true]
  exact rSL_loop E hE hr E.length 0 (by omega)
theorem rLess_loop (a b : List Int) (ha : a.length ≤ 1000000) : ∀ (d i : Nat), i + d = a.length → i ≤ b.length → Ev (fun k => laws_rLess.l0 k a b (a.length : Int) i) (lessB (a.drop i) (b.drop i)) := by
  intro d
  induction d with
  | zero =>
    intro i h hb
    refine up ?_
    simp only [laws_rLess.l0, if_neg (show ¬ (i : Int) < (a.length : Int) by omega)]
    rw [List.drop_of_length_le (show a.length ≤ i by omega)]
    have e : lessB [] (b.drop i) = decide ((a.length : Int) < (b.length : Int)) := by
      unfold lessB
      rw [List.length_drop]
      by_cases hlt : a.length < b.length
      · rw [decide_eq_true (by omega), decide_eq_true (by omega)]
      · rw [decide_eq_false (by omega), decide_eq_false (by omega)]
    rw [e]
    exact Ev.now _
  | succ d ih =>
    intro i h hb
    have hi : i < a.length := by omega
    refine up ?_
    simp only [laws_rLess.l0, if_pos (show (i : Int) < (a.length : Int) by omega)]
    by_cases hib : i = b.length
    · simp only [if_pos (show (i : Int) = (b.length : Int) by omega)]
      rw [List.drop_eq_getElem_cons hi, List.drop_of_length_le (show b.length ≤ i by omega)]
      exact Ev.now _
    · have hj : i < b.length := by omega
      simp only [if_neg (show ¬ (i : Int) = (b.length : Int) by omega), if_pos (show (0 : Int) ≤ (i : Int) by omega), if_pos (show (i : Int) < (b.length : Int) by omega), rd_at hi, rd_at hj, wid (x := (i : Int) + 1) (by omega) (by omega)]
      rw [List.drop_eq_getElem_cons hi, List.drop_eq_getElem_cons hj]
      show Ev _ (if a[i] = b[i] then lessB (a.drop (i + 1)) (b.drop (i + 1)) else decide (a[i] < b[i]))
      by_cases he : a[i] = b[i]
      · simp only [if_pos he]
        exact ih (i + 1) (by omega) (by omega)
      · simp only [if_neg he]
        exact Ev.now _
theorem rLess_val (a b : List Int) (ha : a.length ≤ 1000000) : Ev (fun k => laws_rLess.f k a b) (lessB a b) := by
  have := rLess_loop a b ha a.length 0 (by omega) (by omega)
  rw [List.drop_zero, List.drop_zero] at this
  exact this
theorem drawCount {l : List Int} (hl : ∀ x ∈ l, (Lit.int .u8 x).wf = true) : ∃ n L, spec_DrawCountSigned.f l = some (n, L) := by
  unfold spec_DrawCountSigned.f
  obtain ⟨v, p, s, e, _, hp⟩ := number9_ok hl 0 0 (by omega) (by omega)
  obtain ⟨v2, p2, s2, e2, _⟩ := among_ok hl p s (by omega) (by omega) [0, 1, 2, 3, 5, 8, 11, 16, 24, 25, -1] (by simp)
  rw [e]
  simp only [Option.bind_some]
  rw [e2]
  exact ⟨_, _, rfl⟩
theorem drawAll {l : List Int} (hl : ∀ x ∈ l, (Lit.int .u8 x).wf = true) : ∃ n L, spec_DrawAllSigned.f l = some (n, L) := by
  unfold spec_DrawAllSigned.f
  obtain ⟨v, p, s, e, h1, h2⟩ := one_ok hl 0 0 4 (by omega) (by omega)
  rw [e]
  simp only [Option.bind_some]
  cases v with
  | true =>
    obtain ⟨n, L, hd⟩ := drawCount hl
    simp only [if_true, hd, Option.bind_some]
    exact ⟨_, _, rfl⟩
  | false =>
    simp only [Bool.false_eq_true, if_false]
    obtain ⟨v1, p1, s1, e1, _, _, h3, h4⟩ := pick_ok hl p s 80 (by omega) (by omega)
    rw [e1]
    simp only [Option.bind_some]
    obtain ⟨v2, p2, s2, e2, _⟩ := pick_ok hl p1 s1 9 (by omega) (by omega)
    rw [e2]
    exact ⟨_, _, rfl⟩
theorem part2 {l : List Int} (hl : ∀ x ∈ l, (Lit.int .u8 x).wf = true) : Ev (fun k => laws_FnSignedLists.j2 k l) true := by
  obtain ⟨n, L, hd⟩ := drawCount hl
  refine up ?_
  simp only [laws_FnSignedLists.j2, hd, Option.bind_some, implCount, implLeast]
  refine Ev.bind (specCount n L) ?_
  refine Ev.bind (specLeast n L) ?_
  simp only [beq_self_eq_true, if_true]
  by_cases h : (-1000000 ≤ n ∧ n ≤ 1000000) ∧ 0 ≤ L ∧ L ≤ 24
  · unfold cntV lwV
    simp only [if_pos h, if_true, beq_self_eq_true]
    exact Ev.now _
  · unfold cntV lwV
    simp only [if_neg h, Bool.false_eq_true, if_false]
    exact Ev.now _
theorem LL_signed {L : Nat} (hL : L ≤ 24) {n : Int} {l : List Int} (h : l ∈ LL L n) : signedB l = true := by
  obtain ⟨h1, _, h3⟩ := LL_val L n l h
  unfold signedB
  simp only [Bool.and_eq_true, decide_eq_true_eq, List.all_eq_true]
  exact ⟨by omega, fun d hd => by have := h3 d hd; omega⟩
def fnd (E : List (List Int)) (w : Int) (i : Nat) : Bool := (E.take i).any fun l => ((wt l : Nat) : Int) == w
theorem fnd_step {E : List (List Int)} {w : Int} {i : Nat} (h : i < E.length) : fnd E w (i + 1) = (fnd E w i || (((wt E[i] : Nat) : Int) == w)) := by
  unfold fnd
  rw [List.take_succ_eq_append_getElem h, List.any_append]
  simp
theorem all_loop {x1 : List Int} (hx : ∀ x ∈ x1, (Lit.int .u8 x).wf = true) (L : Nat) (hL : L ≤ 24) (n : Int) (h0 : -1000000 ≤ n) (h1 : n ≤ 1000000) (hlen : (LL L n).length ≤ 1000) : ∀ (d i : Nat), i + d = (LL L n).length →
    Ev (fun k => laws_FnSignedLists.l0 k x1 n (L : Int) (LL L n) (LV L n).2 (decide ((LV L n).1 > 0)) (fnd (LL L n) (LV L n).2 i) (LL L n) ((LL L n).length : Int) i) true := by
  obtain ⟨q1, q2, q3⟩ := LL_LV L n
  have hsrt := LL_sorted L n
  have hmem : ∀ l ∈ LL L n, l.length = L ∧ val l = n ∧ signedB l = true := fun l hl => ⟨(LL_val L n l hl).1, (LL_val L n l hl).2.1, LL_signed hL hl⟩
  generalize LL L n = E at q1 q2 q3 hsrt hmem hlen ⊢
  generalize LV L n = p at q1 q2 q3 ⊢
  intro d
  induction d with
  | zero =>
    intro i h
    refine up ?_
    simp only [laws_FnSignedLists.l0, if_neg (show ¬ (i : Int) < (E.length : Int) by omega)]
    by_cases hz : p.1 > 0
    · have hne : E ≠ [] := fun e => by subst e; simp at q1; omega
      obtain ⟨l, hl, e⟩ := q3 hne
      have hf : fnd E p.2 i = true := by
        unfold fnd
        rw [List.take_of_length_le (by omega), List.any_eq_true]
        exact ⟨l, hl, by rw [e]; exact beq_self_eq_true _⟩
      simp only [decide_eq_true hz, hf, if_true]
      exact part2 hx
    · simp only [decide_eq_false hz, Bool.false_eq_true, if_false]
      exact part2 hx
  | succ d ih =>
    intro i h
    have hi : i < E.length := by omega
    obtain ⟨m1, m2, m3⟩ := hmem _ (List.getElem_mem hi)
    have hw := q2 _ (List.getElem_mem hi)
    have hF : Ev (fun k => impl_FromSigned.f k E[i]) (n, true) := by
      have := implFrom E[i]
      unfold fromV at this
      rw [if_pos m3, m2, if_pos (by unfold okNum; simp only [Bool.and_eq_true, decide_eq_true_eq]; exact ⟨h0, h1⟩)] at this
      exact this
    have hW : Ev (fun k => impl_WeightOf.f k E[i]) (((wt E[i] : Nat) : Int), true) := by
      have := implWeightOf E[i]
      rw [if_pos m3] at this
      exact this
    have hnext := ih (i + 1) (by omega)
    rw [fnd_step hi] at hnext
    have hgo : Ev (fun k => if fnd E p.2 i = true then laws_FnSignedLists.l0 k x1 n (L : Int) E p.2 (decide (p.1 > 0)) true E (E.length : Int) ((i + 1 : Nat) : Int) else laws_FnSignedLists.l0 k x1 n (L : Int) E p.2 (decide (p.1 > 0)) (((wt E[i] : Nat) : Int) == p.2) E (E.length : Int) ((i + 1 : Nat) : Int)) true := by
      cases hf : fnd E p.2 i with
      | true => rw [hf, Bool.true_or] at hnext; simp only [if_true]; exact hnext
      | false => rw [hf, Bool.false_or] at hnext; simp only [Bool.false_eq_true, if_false]; exact hnext
    refine up ?_
    simp only [laws_FnSignedLists.l0, if_pos (show (i : Int) < (E.length : Int) by omega), if_pos (show (0 : Int) ≤ (i : Int) by omega), rdSL_at hi]
    refine Ev.bind hF ?_
    refine Ev.bind hW ?_
    simp only [if_true, m1, if_neg (show ¬ ((wt E[i] : Nat) : Int) < p.2 by omega), wid (x := (i : Int) + 1) (by omega) (by omega), wid (x := (i : Int) - 1) (by omega) (by omega)]
    by_cases hi0 : i = 0
    · subst hi0
      simp only [if_neg (show ¬ ((0 : Nat) : Int) > 0 by omega)]
      exact hgo
    · obtain ⟨j, rfl⟩ : ∃ j, i = j + 1 := ⟨i - 1, by omega⟩
      have hj : j < E.length := by omega
      have hjm := (hmem _ (List.getElem_mem hj)).1
      have hle : lessB E[j] E[j + 1] = true := List.pairwise_iff_getElem.1 hsrt j (j + 1) hj hi (by omega)
      simp only [if_pos (show ((j + 1 : Nat) : Int) > 0 by omega), show ((j + 1 : Nat) : Int) - 1 = (j : Int) by omega, if_pos (show (0 : Int) ≤ (j : Int) by omega), if_pos (show (j : Int) < (E.length : Int) by omega), rdSL_at hj]
      refine Ev.bind (rLess_val E[j] E[j + 1] (by omega)) ?_
      rw [hle]
      simp only [if_true]
      exact hgo
theorem main : laws_FnSignedLists.Pure := by
  intro l0 l1 _ _ hw0 _ _ hw1
  refine Ev.rounds ?_
  simp only [laws_FnSignedLists.f]
  have hb : ∃ b, laws_big.f l0 l1 = some b := by
    unfold laws_big.f
    split <;> exact ⟨_, rfl⟩
  obtain ⟨b, hb⟩ := hb
  simp only [hb, Option.bind_some]
  cases b with
  | true => simp only [if_true]; exact Ev.now _
  | false =>
    simp only [Bool.false_eq_true, if_false]
    obtain ⟨n, L, hd⟩ := drawAll hw0
    simp only [hd, Option.bind_some, implAll, implCount]
    refine Ev.bind (specAll n L) ?_
    simp only [bne_self_eq_false, Bool.false_eq_true, if_false]
    by_cases h : (-1000000 ≤ n ∧ n ≤ 1000000) ∧ 0 ≤ L ∧ L ≤ 24
    · obtain ⟨⟨h0, h1⟩, h2, h3⟩ := id h
      obtain ⟨l, rfl⟩ : ∃ l : Nat, L = (l : Int) := ⟨L.toNat, by omega⟩
      have hl : l ≤ 24 := by omega
      have hc : cntV n (l : Int) = ((LV l n).1, true) := by unfold cntV; rw [if_pos h, Int.toNat_natCast]
      have hlw : lwV n (l : Int) = ((LV l n).2, decide ((LV l n).1 > 0)) := by unfold lwV; rw [if_pos h, Int.toNat_natCast]
      have hlen := LL_len l n
      by_cases h300 : (LV l n).1 ≤ 300
      · have ha : asV n (l : Int) = (LL l n, true) := by
          unfold asV
          rw [hc, if_pos ⟨rfl, h300⟩, Int.toNat_natCast]
        rw [ha, hc]
        refine Ev.bind (rSL_same (LL l n) (by omega) (fun x hx => by have := (LL_val l n x hx).1; omega)) ?_
        simp only [if_true, if_pos hlen.symm]
        refine up ?_
        simp only [laws_FnSignedLists.j0, Bool.false_eq_true, if_false, implLeast, Option.bind_some, hlw, if_true, bne_self_eq_false]
        have := all_loop hw1 l hl n h0 h1 (by omega) (LL l n).length 0 (by omega)
        exact this
      · have ha : asV n (l : Int) = ([], false) := by
          unfold asV
          rw [hc, if_neg (fun h => h300 h.2)]
        rw [ha, hc]
        refine Ev.bind (rSL_same [] (by simp) (fun x hx => by cases hx)) ?_
        simp only [if_true, Bool.false_eq_true, if_false, decide_eq_false h300]
        refine up ?_
        simp only [laws_FnSignedLists.j0, Bool.false_eq_true, if_false, implLeast, Option.bind_some]
        exact part2 hw1
    · have hc : cntV n L = (0, false) := by unfold cntV; rw [if_neg h]
      have ha : asV n L = ([], false) := by
        unfold asV
        rw [hc, if_neg (fun h => by cases h.1)]
      rw [ha, hc]
      refine Ev.bind (rSL_same [] (by simp) (fun x hx => by cases hx)) ?_
      simp only [if_true, Bool.false_eq_true, if_false]
      refine up ?_
      simp only [laws_FnSignedLists.j0, Bool.false_eq_true, if_false, implLeast, Option.bind_some]
      exact part2 hw1
end Go.Proofs.Ytldbcglgfabopaa.PureFnSignedListsL
namespace Go.Proofs.Ytldbcglgfabopaa.Pure
open Go.Proofs.Ytldbcglgfabopaa.PFnSignedLists
theorem FnSignedLists : laws_FnSignedLists.Pure := PureFnSignedListsL.main
end Go.Proofs.Ytldbcglgfabopaa.Pure
