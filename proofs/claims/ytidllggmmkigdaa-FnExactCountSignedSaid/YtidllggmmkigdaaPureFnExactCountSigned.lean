/- The program's CountSigned returns what the reference's returns: the statement FnExactCountSigned holds for all numbers and lengths. -/
import Derived.Test.YtidllggmmkigdaaPFnExactCountSignedx1
import Derived.Test.YtidllggmmkigdaaPFnExactCountSignedx2
set_option linter.unusedVariables false
set_option linter.unusedSimpArgs false
namespace Go.Proofs.Ytidllggmmkigdaa.PureFnExactCountSignedL
open Go.RowKit Go.Proofs.Ytidllggmmkigdaa.PFnExactCountSigned Go.Proofs.YtidllggmmkigdaaW.PrintWords Go.Proofs.YtidllggmmkigdaaW.PrintLast Go.Proofs.YtidllggmmkigdaaW.PrintMore
theorem up {α : Type} {g : Nat → Option α} {r : α} (h : Ev (fun k => g (k + 1)) r) : Ev g r := by
  obtain ⟨K, h⟩ := h
  refine ⟨K + 1, fun k hk => ?_⟩
  obtain ⟨m, rfl⟩ : ∃ m, k = m + 1 := ⟨k - 1, by omega⟩
  exact h m (by omega)
theorem wid {x : Int} (h0 : -9223372036854775808 ≤ x) (h1 : x ≤ 9223372036854775807) : wrap64 x = x := by unfold wrap64; omega
theorem ite_yes {α : Type} {c : Prop} [Decidable c] {a b : α} (h : c) : (if c then a else b) = a := if_pos h
theorem ite_no {α : Type} {c : Prop} [Decidable c] {a b : α} (h : ¬ c) : (if c then a else b) = b := if_neg h
theorem evsome {α β : Type} {x : Option α} {a : α} {f : Nat → α → Option β} {r : β} (hx : x = some a) (h : Ev (fun k => f k a) r) : Ev (fun k => x.bind (f k)) r := by subst hx; exact h
theorem if_pos_ev {α : Type} {c : Prop} [Decidable c] {f g : Nat → Option α} (h : c) : (fun k => if c then f k else g k) = f := funext fun k => if_pos h
theorem if_neg_ev {α : Type} {c : Prop} [Decidable c] {f g : Nat → Option α} (h : ¬ c) : (fun k => if c then f k else g k) = g := funext fun k => if_neg h
theorem rd_at {l : List Int} {i : Nat} (h : i < l.length) : rd l (i : Int) = l[i] := by
  unfold rd
  rw [Int.toNat_natCast, List.getD_eq_getElem?_getD, List.getElem?_eq_getElem h]; rfl
/-- The number that digits stand for. -/
def val : List Int → Int
  | [] => 0
  | d :: l => d + 2 * val l
def small (l : List Int) : Prop := ∀ d ∈ l, -31 ≤ d ∧ d ≤ 31
theorem small_tail {d : Int} {l : List Int} (h : small (d :: l)) : small l := fun x hx => h x (List.mem_cons_of_mem _ hx)
theorem p2 (n : Nat) : (2 : Int) ^ (n + 1) = 2 * 2 ^ n := by rw [Int.pow_succ]; omega
theorem p2_pos (n : Nat) : (1 : Int) ≤ 2 ^ n := by
  induction n with
  | zero => decide
  | succ n ih => rw [p2]; omega
theorem p2_le {f : Nat} (hf : f ≤ 24) : (2 : Int) ^ f ≤ 16777216 := by
  have h := Nat.pow_le_pow_right (n := 2) (by omega) hf
  have e : ((2 ^ f : Nat) : Int) = (2 : Int) ^ f := by simp
  omega
theorem val_bound : ∀ (l : List Int), small l → -(31 * (2 ^ l.length - 1)) ≤ val l ∧ val l ≤ 31 * (2 ^ l.length - 1)
  | [], _ => by simp [val]
  | d :: l, h => by
    have hd := h d (List.mem_cons_self ..)
    have ih := val_bound l (small_tail h)
    have e := p2 l.length
    simp only [val, List.length_cons]
    omega
theorem val_big {l : List Int} (h : small l) (hl : l.length ≤ 24) : -520093696 ≤ val l ∧ val l ≤ 520093696 := by
  have := val_bound l h
  have := p2_le hl
  omega
theorem shl_small_val {d : Int} {i : Nat} (h0 : -31 ≤ d) (h1 : d ≤ 31) (hi : i ≤ 24) : shl .i64 d (i : Int) = d * 2 ^ i := by
  unfold shl
  rw [Int.toNat_natCast, Nat.min_eq_left (show i ≤ IntKind.i64.bits by simp [IntKind.bits]; omega)]
  have hp := p2_le hi
  have hq := p2_pos i
  have hb : -520093696 ≤ d * 2 ^ i ∧ d * 2 ^ i ≤ 520093696 := by
    constructor
    · have := Int.mul_le_mul_of_nonneg_right h0 (show (0 : Int) ≤ 2 ^ i by omega); omega
    · have := Int.mul_le_mul_of_nonneg_right h1 (show (0 : Int) ≤ 2 ^ i by omega); omega
  generalize d * 2 ^ i = x at hb
  simp only [IntKind.wrap, IntKind.bits, IntKind.signed]
  simp
  omega
theorem tmod_in {a b : Int} (hb : 0 < b) : -b < Int.tmod a b ∧ Int.tmod a b < b := ⟨Int.lt_tmod_of_pos a hb, Int.tmod_lt_of_pos a hb⟩
theorem posmod {a b : Int} (hb : 0 < b) (hb2 : b ≤ 1000000000000000) : Int.tmod (wrap64 ((Int.tmod a b) + b)) b = a % b := by
  have h := tmod_in (a := a) hb
  rw [wid (by omega) (by omega), Int.tmod_eq_emod_of_nonneg (by omega), Int.add_emod_right]
  rw [Int.tmod_def, Int.sub_mul_emod_self_left]
theorem odd_test (x : Int) : Int.tmod x 2 = 0 ↔ x % 2 = 0 := by
  rw [← Int.dvd_iff_tmod_eq_zero, ← Int.dvd_iff_emod_eq_zero]
theorem half_even {x : Int} (h : x % 2 = 0) : Int.tdiv x 2 = x / 2 := Int.tdiv_eq_ediv_of_dvd (Int.dvd_of_emod_eq_zero h)
theorem siOdd_val (x : Int) : spec_siOdd.f x = some (decide (¬ x % 2 = 0)) := by
  unfold spec_siOdd.f
  by_cases h : x % 2 = 0
  · have := (odd_test x).2 h; simp [h, this]
  · have := mt (odd_test x).1 h; simp [h, this]
theorem l1In_val (x a b : Int) : spec_l1In.f x a b = some (decide (a ≤ x) && decide (x ≤ b)) := by
  unfold spec_l1In.f
  by_cases h : a ≤ x
  · rw [if_pos h]; simp [h]
  · rw [if_neg h]; simp [h]
open Go.Proofs.YtidllggmmkigdaaLists (LV acc put1 sz okP LV_ok three_le three_pos sz_nonneg)
/-- How many lists of so many digits stand for a number, by their weight. -/
def cnt : Nat → Int → Nat → Int
  | 0, n, w => if n = 0 ∧ w = 0 then 1 else 0
  | L + 1, n, w => if sz n ≥ 2 ^ (L + 1) then 0 else if n % 2 = 0 then cnt L (n / 2) w else if w = 0 then 0 else cnt L ((n + 1) / 2) (w - 1) + cnt L ((n - 1) / 2) (w - 1)
def tab (c : Nat → Int) : List Int := (List.range 25).map c
theorem tab_length (c : Nat → Int) : (tab c).length = 25 := by simp [tab]
theorem tab_rd {c : Nat → Int} {i : Nat} (h : i < 25) : rd (tab c) (i : Int) = c i := by
  rw [rd_at (by rw [tab_length]; exact h)]
  simp [tab]
theorem tab_set {c : Nat → Int} {j : Nat} (v : Int) : (tab c).set j v = tab (fun w => if w = j then v else c w) := by
  apply List.ext_getElem
  · simp [tab]
  · intro i h1 h2
    rw [List.getElem_set]
    simp only [tab, List.getElem_map, List.getElem_range]
    by_cases h : j = i
    · subst h; simp
    · rw [if_neg h, if_neg (fun e => h e.symm)]
theorem tab_zero : tab (fun _ => 0) = List.replicate 25 0 := by decide
/-- The sum of the first so many. -/
def tot (c : Nat → Int) : Nat → Int
  | 0 => 0
  | k + 1 => tot c k + c k
theorem tot_add (a b : Nat → Int) : ∀ k, tot (fun w => a w + b w) k = tot a k + tot b k
  | 0 => rfl
  | k + 1 => by unfold tot; rw [tot_add a b k]; omega
theorem tot_shift (g : Nat → Int) : ∀ k, tot (fun w => if w = 0 then 0 else g (w - 1)) (k + 1) = tot g k
  | 0 => rfl
  | k + 1 => by
    rw [tot, tot_shift g k, tot]
    simp
theorem tot_nonneg {c : Nat → Int} (h : ∀ w, 0 ≤ c w) : ∀ k, 0 ≤ tot c k
  | 0 => Int.le_refl _
  | k + 1 => by have := tot_nonneg h k; have := h k; unfold tot; omega
theorem tot_ge {c : Nat → Int} (h : ∀ w, 0 ≤ c w) : ∀ (k w : Nat), w < k → c w ≤ tot c k
  | 0, w, hw => by omega
  | k + 1, w, hw => by
    have := tot_nonneg h k
    have := h k
    unfold tot
    by_cases e : w = k
    · subst e; omega
    · have := tot_ge h k w (by omega); omega
theorem tot_zero {c : Nat → Int} : ∀ (k : Nat), (∀ w, w < k → c w = 0) → tot c k = 0
  | 0, _ => rfl
  | k + 1, h => by unfold tot; rw [tot_zero k fun w hw => h w (by omega), h k (by omega)]; rfl
theorem acc_even (f : Int → Int × Int) {n : Int} (h : n % 2 = 0) : acc f n 3 = put1 0 (0, 0) (f (n / 2)) := by
  unfold acc acc acc acc
  rw [if_neg (show ¬ (n - (((2 : Nat) : Int) - 1)) % 2 = 0 by omega), if_pos (show (n - (((1 : Nat) : Int) - 1)) % 2 = 0 by omega), if_neg (show ¬ (n - (((0 : Nat) : Int) - 1)) % 2 = 0 by omega)]
  rw [show ((1 : Nat) : Int) - 1 = 0 by decide, Int.sub_zero]
theorem acc_odd (f : Int → Int × Int) {n : Int} (h : ¬ n % 2 = 0) : acc f n 3 = put1 1 (put1 (-1) (0, 0) (f ((n + 1) / 2))) (f ((n - 1) / 2)) := by
  unfold acc acc acc acc
  rw [if_pos (show (n - (((2 : Nat) : Int) - 1)) % 2 = 0 by omega), if_neg (show ¬ (n - (((1 : Nat) : Int) - 1)) % 2 = 0 by omega), if_pos (show (n - (((0 : Nat) : Int) - 1)) % 2 = 0 by omega)]
  rw [show ((2 : Nat) : Int) - 1 = 1 by decide, show ((0 : Nat) : Int) - 1 = -1 by decide, show n - -1 = n + 1 by omega]
/-- What the table by weights tells: as many lists as the program reckons, and the least weight. -/
structure Told (L : Nat) (c : Nat → Int) (p : Int × Int) : Prop where
  pos : ∀ w, 0 ≤ c w
  top : ∀ w, L < w → c w = 0
  sum : tot c 25 = p.1
  low : p.1 ≠ 0 → (∀ w : Nat, (w : Int) < p.2 → c w = 0) ∧ 0 < c p.2.toNat
theorem told_none (L : Nat) : Told L (fun _ => 0) (0, 0) := ⟨fun _ => Int.le_refl _, fun _ _ => rfl, tot_zero 25 fun _ _ => rfl, fun h => absurd rfl h⟩
theorem told_even {L : Nat} {c : Nat → Int} {o : Int × Int} (h : Told L c o) : Told (L + 1) c (put1 0 (0, 0) o) := by
  unfold put1
  rw [show sz 0 = 0 by decide]
  by_cases hz : o.1 = 0
  · rw [if_pos hz]
    refine ⟨h.pos, fun w hw => h.top w (by omega), by rw [h.sum, hz], fun h => absurd rfl h⟩
  · rw [if_neg hz]
    simp only [true_or, if_true, Int.zero_add, Int.add_zero]
    exact ⟨h.pos, fun w hw => h.top w (by omega), h.sum, h.low⟩
theorem told_zero {L : Nat} {c : Nat → Int} {o : Int × Int} (h : Told L c o) (hL : L ≤ 24) (hz : o.1 = 0) (w : Nat) : c w = 0 := by
  by_cases hw : w < 25
  · have h1 := tot_ge h.pos 25 w hw
    have h2 := h.pos w
    rw [h.sum, hz] at h1
    omega
  · exact h.top w (by omega)
theorem told_odd {L : Nat} (hL : L ≤ 23) {c1 c2 : Nat → Int} {o1 o2 : Int × Int} (h1 : Told L c1 o1) (h2 : Told L c2 o2) (b1 : okP L o1) (b2 : okP L o2) :
    Told (L + 1) (fun w => if w = 0 then 0 else c1 (w - 1) + c2 (w - 1)) (put1 1 (put1 (-1) (0, 0) o1) o2) := by
  have z1 : sz 1 = 1 := by decide
  have z2 : sz (-1) = 1 := by decide
  obtain ⟨b10, _, b12, b13⟩ := b1
  obtain ⟨b20, _, b22, b23⟩ := b2
  have hsum : tot (fun w => if w = 0 then 0 else c1 (w - 1) + c2 (w - 1)) 25 = o1.1 + o2.1 := by
    rw [tot_shift (fun w => c1 w + c2 w) 24, tot_add, ← h1.sum, ← h2.sum]
    show _ = tot c1 24 + c1 24 + (tot c2 24 + c2 24)
    rw [h1.top 24 (by omega), h2.top 24 (by omega)]
    omega
  have hpos : ∀ w, 0 ≤ (fun w => if w = 0 then 0 else c1 (w - 1) + c2 (w - 1)) w := fun w => by
    have := h1.pos (w - 1)
    have := h2.pos (w - 1)
    show 0 ≤ (if w = 0 then 0 else c1 (w - 1) + c2 (w - 1))
    split <;> omega
  have htop : ∀ w, L + 1 < w → (fun w => if w = 0 then 0 else c1 (w - 1) + c2 (w - 1)) w = 0 := fun w hw => by
    show (if w = 0 then 0 else c1 (w - 1) + c2 (w - 1)) = 0
    rw [if_neg (by omega), h1.top (w - 1) (by omega), h2.top (w - 1) (by omega)]; rfl
  unfold put1
  rw [z1, z2]
  by_cases e1 : o1.1 = 0
  · rw [if_pos e1]
    by_cases e2 : o2.1 = 0
    · rw [if_pos e2]
      exact ⟨hpos, htop, by rw [hsum, e1, e2]; rfl, fun h => absurd rfl h⟩
    · rw [if_neg e2]
      simp only [true_or, if_true, Int.zero_add]
      obtain ⟨l1, l2⟩ := h2.low e2
      refine ⟨hpos, htop, by rw [hsum, e1]; simp, fun _ => ⟨fun w hw => ?_, ?_⟩⟩
      · show (if w = 0 then 0 else c1 (w - 1) + c2 (w - 1)) = 0
        by_cases hw0 : w = 0
        · rw [if_pos hw0]
        · rw [if_neg hw0, told_zero h1 (by omega) e1, l1 (w - 1) (by omega)]; rfl
      · show 0 < (if (o2.2 + 1).toNat = 0 then 0 else c1 ((o2.2 + 1).toNat - 1) + c2 ((o2.2 + 1).toNat - 1))
        rw [if_neg (by omega), told_zero h1 (by omega) e1, show (o2.2 + 1).toNat - 1 = o2.2.toNat by omega]
        omega
  · rw [if_neg e1]
    simp only [true_or, if_true, Int.zero_add]
    obtain ⟨k1, k2⟩ := h1.low e1
    by_cases e2 : o2.1 = 0
    · rw [if_pos e2]
      refine ⟨hpos, htop, by rw [hsum, e2]; simp, fun _ => ⟨fun w hw => ?_, ?_⟩⟩
      · show (if w = 0 then 0 else c1 (w - 1) + c2 (w - 1)) = 0
        simp only at hw
        by_cases hw0 : w = 0
        · rw [if_pos hw0]
        · rw [if_neg hw0, told_zero h2 (by omega) e2, k1 (w - 1) (by omega)]; rfl
      · show 0 < (if (o1.2 + 1).toNat = 0 then 0 else c1 ((o1.2 + 1).toNat - 1) + c2 ((o1.2 + 1).toNat - 1))
        rw [if_neg (by omega), told_zero h2 (by omega) e2, show (o1.2 + 1).toNat - 1 = o1.2.toNat by omega]
        omega
    · rw [if_neg e2]
      obtain ⟨l1, l2⟩ := h2.low e2
      refine ⟨hpos, htop, hsum, fun _ => ?_⟩
      simp only [e1, false_or]
      have p1 := h1.pos
      have p2 := h2.pos
      by_cases hc : o2.2 + 1 < o1.2 + 1
      · rw [if_pos hc]
        refine ⟨fun w hw => ?_, ?_⟩
        · by_cases hw0 : w = 0
          · rw [if_pos hw0]
          · rw [if_neg hw0, k1 (w - 1) (by omega), l1 (w - 1) (by omega)]; rfl
        · rw [if_neg (by omega), show (o2.2 + 1).toNat - 1 = o2.2.toNat by omega]
          have := p1 o2.2.toNat
          omega
      · rw [if_neg hc]
        refine ⟨fun w hw => ?_, ?_⟩
        · by_cases hw0 : w = 0
          · rw [if_pos hw0]
          · rw [if_neg hw0, k1 (w - 1) (by omega), l1 (w - 1) (by omega)]; rfl
        · rw [if_neg (by omega), show (o1.2 + 1).toNat - 1 = o1.2.toNat by omega]
          have := p2 o1.2.toNat
          omega
theorem told : ∀ (L : Nat), L ≤ 24 → ∀ (n : Int), Told L (cnt L n) (LV L n)
  | 0, _, n => by
    by_cases h : n = 0
    · subst h
      refine ⟨fun w => ?_, fun w hw => ?_, by decide, fun _ => ⟨fun w hw => ?_, by decide⟩⟩
      · unfold cnt; split <;> omega
      · unfold cnt; rw [if_neg (fun c => by omega)]
      · rw [show (LV 0 0).2 = 0 by decide] at hw; omega
    · have h1 : LV 0 n = (0, 0) := by unfold LV; rw [if_pos (by unfold sz; split <;> omega)]
      have h2 : cnt 0 n = fun _ => 0 := funext fun w => by unfold cnt; rw [if_neg (fun c => h c.1)]
      rw [h1, h2]
      exact told_none 0
  | L + 1, hL, n => by
    by_cases hb : sz n ≥ 2 ^ (L + 1)
    · have h1 : LV (L + 1) n = (0, 0) := by unfold LV; rw [if_pos hb]
      have h2 : cnt (L + 1) n = fun _ => 0 := funext fun w => by unfold cnt; rw [if_pos hb]
      rw [h1, h2]
      exact told_none (L + 1)
    · have h1 : LV (L + 1) n = acc (LV L) n 3 := by show (if sz n ≥ 2 ^ (L + 1) then _ else _) = _; rw [if_neg hb]
      rw [h1]
      by_cases he : n % 2 = 0
      · have h2 : cnt (L + 1) n = cnt L (n / 2) := funext fun w => by rw [cnt, if_neg hb, if_pos he]
        rw [acc_even _ he, h2]
        exact told_even (told L (by omega) _)
      · have h2 : cnt (L + 1) n = fun w => if w = 0 then 0 else cnt L ((n + 1) / 2) (w - 1) + cnt L ((n - 1) / 2) (w - 1) := funext fun w => by rw [cnt, if_neg hb, if_neg he]
        rw [acc_odd _ he, h2]
        exact told_odd (by omega) (told L (by omega) _) (told L (by omega) _) (LV_ok L _) (LV_ok L _)
theorem cnt_small {L : Nat} (hL : L ≤ 24) (n : Int) (w : Nat) : 0 ≤ cnt L n w ∧ cnt L n w ≤ 282429536481 := by
  have h := told L hL n
  have hb := (LV_ok L n).2.1
  have h3 := three_le hL
  refine ⟨h.pos w, ?_⟩
  by_cases hw : w < 25
  · have := tot_ge h.pos 25 w hw
    rw [h.sum] at this
    omega
  · rw [h.top w (by omega)]; omega
theorem addLoop (n L0 : Int) (ys : List Int) (yl yi : Int) {g : Nat → Int} (hg : ∀ w, 0 ≤ g w ∧ g w ≤ 1000000000000) (h24 : g 24 = 0) {r : List Int} :
    ∀ (d i : Nat) (f : Nat → Int), i + d = 25 → (∀ w, i < w → 0 ≤ f w ∧ f w ≤ 1000000000000000) →
      Ev (fun k => spec_siCount.l0 k n L0 (tab fun w => f w + (if i + 1 ≤ w then g (w - 1) else 0)) ys yl (wrap64 (yi + 1))) r →
      Ev (fun k => spec_siCount.l1 k n L0 (tab f) ys yl yi (tab g) 25 (i : Int)) r := by
  intro d
  induction d with
  | zero =>
    intro i f h hf hr
    have e : (tab fun w => f w + (if i + 1 ≤ w then g (w - 1) else 0)) = tab f := by
      apply List.map_congr_left
      intro w hw
      have := List.mem_range.1 hw
      rw [if_neg (by omega), Int.add_zero]
    rw [e] at hr
    refine up ?_
    simp only [spec_siCount.l1, if_neg (show ¬ (i : Int) < 25 by omega)]
    exact hr
  | succ d ih =>
    intro i f h hf hr
    have hi : i < 25 := by omega
    have hgi := hg i
    refine up ?_
    simp only [spec_siCount.l1, if_pos (show (i : Int) < 25 by omega), if_pos (show (0 : Int) ≤ (i : Int) by omega), tab_length, if_pos (show (i : Int) < ((25 : Nat) : Int) by omega), tab_rd hi, wid (x := (i : Int) + 1) (by omega) (by omega)]
    by_cases hp : g i > 0
    · have hi2 : i + 1 < 25 := by
        by_cases e : i = 24
        · subst e; omega
        · omega
      have hfi := hf (i + 1) (by omega)
      rw [show (i : Int) + 1 = ((i + 1 : Nat) : Int) by omega]
      simp only [hp, if_true, if_pos (show (0 : Int) ≤ ((i + 1 : Nat) : Int) by omega), if_pos (show ((i + 1 : Nat) : Int) < ((25 : Nat) : Int) by omega), tab_rd hi2, Int.toNat_natCast, tab_set, wid (x := f (i + 1) + g i) (by omega) (by omega)]
      refine ih (i + 1) _ (by omega) (fun w hw => by rw [if_neg (by omega)]; exact hf w (by omega)) ?_
      have e : (fun w => (if w = i + 1 then f (i + 1) + g i else f w) + (if i + 1 + 1 ≤ w then g (w - 1) else 0)) = (fun w => f w + (if i + 1 ≤ w then g (w - 1) else 0)) := funext fun w => by
        by_cases hw : w = i + 1
        · subst hw
          rw [if_pos rfl, if_neg (by omega), if_pos (by omega), Nat.add_sub_cancel, Int.add_zero]
        · rw [if_neg hw]
          by_cases hw2 : i + 1 + 1 ≤ w
          · rw [if_pos hw2, if_pos (by omega)]
          · rw [if_neg hw2, if_neg (by omega)]
      rw [e]
      exact hr
    · have hz : g i = 0 := by omega
      simp only [hz, show ¬ (0 : Int) > 0 by omega, if_false]
      rw [show (i : Int) + 1 = ((i + 1 : Nat) : Int) by omega]
      refine ih (i + 1) f (by omega) (fun w hw => hf w (by omega)) ?_
      have e : (fun w => f w + (if i + 1 + 1 ≤ w then g (w - 1) else 0)) = (fun w => f w + (if i + 1 ≤ w then g (w - 1) else 0)) := funext fun w => by
        by_cases hw : w = i + 1
        · subst hw
          rw [if_neg (by omega), if_pos (by omega), Nat.add_sub_cancel, hz]
        · by_cases hw2 : i + 1 + 1 ≤ w
          · rw [if_pos hw2, if_pos (by omega)]
          · rw [if_neg hw2, if_neg (by omega)]
      rw [e]
      exact hr
theorem cnt_zero (L : Nat) {n : Int} (hb : sz n ≥ 2 ^ (L + 1)) : tab (cnt (L + 1) n) = List.replicate 25 0 := by
  rw [show cnt (L + 1) n = fun _ => 0 from funext fun w => by unfold cnt; rw [if_pos hb]]
  exact tab_zero
theorem siCount_val : ∀ (L : Nat), L ≤ 24 → ∀ (n : Int), -1000000000000 ≤ n → n ≤ 1000000000000 → Ev (fun k => spec_siCount.f k n (L : Int)) (tab (cnt L n)) := by
  intro L
  induction L with
  | zero =>
    intro _ n h0 h1
    refine up ?_
    simp only [spec_siCount.f, if_pos (show 25 ≤ 35184372088832 by omega), Option.bind_some, if_pos (show ((0 : Nat) : Int) = 0 from rfl)]
    by_cases h : n = 0
    · subst h
      simp only [if_true, List.length_replicate, if_pos (show (0 : Int) < ((25 : Nat) : Int) by omega)]
      rw [show tab (cnt 0 0) = (List.replicate 25 0).set (0 : Int).toNat 1 by decide]
      exact Ev.now _
    · simp only [if_neg h]
      rw [show tab (cnt 0 n) = List.replicate 25 0 from (by rw [show cnt 0 n = fun _ => 0 from funext fun w => by unfold cnt; rw [if_neg (fun c => h c.1)]]; exact tab_zero)]
      exact Ev.now _
  | succ L ih =>
    intro hL n h0 h1
    have hsh : shl .i64 1 (((L + 1 : Nat)) : Int) = 2 ^ (L + 1) := by rw [shl_small_val (by decide) (by decide) hL]; omega
    have hl1 : wrap64 (((L + 1 : Nat) : Int) - 1) = (L : Int) := by rw [wid (by omega) (by omega)]; omega
    refine up ?_
    simp only [spec_siCount.f, if_pos (show 25 ≤ 35184372088832 by omega), Option.bind_some, if_neg (show ¬ ((L + 1 : Nat) : Int) = 0 by omega), if_pos (show (0 : Int) ≤ ((L + 1 : Nat) : Int) by omega), hsh, wid (x := -n) (by omega) (by omega)]
    by_cases hb1 : n ≥ 2 ^ (L + 1)
    · simp only [if_pos hb1]
      rw [cnt_zero L (by unfold sz; split <;> omega)]
      refine up ?_
      simp only [spec_siCount.j0, if_true]
      exact Ev.now _
    simp only [if_neg hb1]
    by_cases hb2 : -n ≥ 2 ^ (L + 1)
    · rw [cnt_zero L (by unfold sz; split <;> omega)]
      refine up ?_
      simp only [spec_siCount.j0, decide_eq_true hb2, if_true]
      exact Ev.now _
    have hb : ¬ sz n ≥ 2 ^ (L + 1) := by unfold sz; split <;> omega
    refine up ?_
    simp only [spec_siCount.j0, decide_eq_false hb2, Bool.false_eq_true, if_false, siOdd_val, Option.bind_some, hl1]
    by_cases he : n % 2 = 0
    · have ht : Int.tdiv n 2 = n / 2 := half_even he
      simp only [he, not_true_eq_false, decide_false, Bool.false_eq_true, if_false, ht, wid (x := n / 2) (by omega) (by omega)]
      rw [show cnt (L + 1) n = cnt L (n / 2) from funext fun w => by rw [cnt, if_neg hb, if_pos he]]
      exact Ev.bind (ih (by omega) (n / 2) (by omega) (by omega)) (Ev.now _)
    · simp only [he, not_false_eq_true, decide_true, if_true, List.length_cons, List.length_nil]
      have s1 := fun w => cnt_small (L := L) (by omega) ((n + 1) / 2) w
      have s2 := fun w => cnt_small (L := L) (by omega) ((n - 1) / 2) w
      have t1 := (told L (by omega) ((n + 1) / 2)).top 24 (by omega)
      have t2 := (told L (by omega) ((n - 1) / 2)).top 24 (by omega)
      have i1 := ih (by omega) ((n + 1) / 2) (by omega) (by omega)
      have i2 := ih (by omega) ((n - 1) / 2) (by omega) (by omega)
      have hc : cnt (L + 1) n = fun w => (fun w => (fun _ => 0) w + (if 0 + 1 ≤ w then cnt L ((n + 1) / 2) (w - 1) else 0)) w + (if 0 + 1 ≤ w then cnt L ((n - 1) / 2) (w - 1) else 0) := funext fun w => by
        rw [cnt, if_neg hb, if_neg he]
        by_cases hw : w = 0
        · subst hw; simp
        · simp only [if_neg hw, if_pos (show 0 + 1 ≤ w by omega), Int.zero_add]
      rw [hc]
      rw [← tab_zero]
      -- the digit -1
      refine up ?_
      have e1 : Int.tdiv (wrap64 (n - -1)) 2 = (n + 1) / 2 := by rw [wid (by omega) (by omega), show n - -1 = n + 1 by omega, half_even (by omega)]
      have e2 : Int.tdiv (wrap64 (n - 1)) 2 = (n - 1) / 2 := by rw [wid (by omega) (by omega), half_even (by omega)]
      have r0 : rd [-1, 1] 0 = -1 := rfl
      have r1 : rd [-1, 1] 1 = 1 := rfl
      simp only [spec_siCount.l0, if_pos (show (0 : Int) < ((0 + 1 + 1 : Nat) : Int) by omega), if_pos (Int.le_refl 0), r0, e1, hl1, wid (x := (n + 1) / 2) (by omega) (by omega)]
      refine Ev.bind i1 ?_
      simp only [tab_length]
      refine addLoop n _ [-1, 1] _ 0 (fun w => ⟨(s1 w).1, by have := (s1 w).2; omega⟩) t1 25 0 (fun _ => 0) (by omega) (fun w _ => by simp) ?_
      -- the digit 1
      rw [show wrap64 (0 + 1) = 1 from wid (by decide) (by decide)]
      refine up ?_
      simp only [spec_siCount.l0, if_pos (show (1 : Int) < ((0 + 1 + 1 : Nat) : Int) by omega), if_pos (show (0 : Int) ≤ 1 by omega), r1, e2, hl1, wid (x := (n - 1) / 2) (by omega) (by omega)]
      refine Ev.bind i2 ?_
      simp only [tab_length]
      refine addLoop n _ [-1, 1] _ 1 (fun w => ⟨(s2 w).1, by have := (s2 w).2; omega⟩) t2 25 0 _ (by omega) (fun w _ => by
        show 0 ≤ 0 + (if 0 + 1 ≤ w then cnt L ((n + 1) / 2) (w - 1) else 0) ∧ 0 + (if 0 + 1 ≤ w then cnt L ((n + 1) / 2) (w - 1) else 0) ≤ _
        have := s1 (w - 1)
        split <;> omega) ?_
      rw [show wrap64 (1 + 1) = 2 from wid (by decide) (by decide)]
      refine up ?_
      simp only [spec_siCount.l0, if_neg (show ¬ (2 : Int) < ((0 + 1 + 1 : Nat) : Int) by omega)]
      exact Ev.now _
theorem siTask_val (n L : Int) : spec_siTask.f n L = some ((decide (-1000000 ≤ n) && decide (n ≤ 1000000)) && (decide (0 ≤ L) && decide (L ≤ 24))) := by
  simp only [spec_siTask.f, spec_siNumber.f, l1In_val, Option.bind_some]
  cases (decide (-1000000 ≤ n) && decide (n ≤ 1000000)) <;> simp
theorem sumLoop (L : Nat) (hL : L ≤ 24) (n : Int) : ∀ (d i : Nat), i + d = 25 → Ev (fun k => spec_CountSigned.l0 k (tot (cnt L n) i) (tab (cnt L n)) 25 (i : Int)) (tot (cnt L n) 25, true) := by
  intro d
  induction d with
  | zero =>
    intro i h
    have : i = 25 := by omega
    subst this
    refine up ?_
    simp only [spec_CountSigned.l0, if_neg (show ¬ (((25 : Nat) : Int) < 25) by omega)]
    exact Ev.now _
  | succ d ih =>
    intro i h
    have hi : i < 25 := by omega
    have hs := cnt_small hL n i
    have ht := told L hL n
    have h0 := tot_nonneg ht.pos i
    have hmono : tot (cnt L n) i ≤ 282429536481 * 25 := by
      have key : ∀ j, tot (cnt L n) j ≤ 282429536481 * j := by
        intro j
        induction j with
        | zero => exact Int.le_refl _
        | succ j ihj => have := (cnt_small hL n j).2; unfold tot; omega
      have := key i
      omega
    refine up ?_
    simp only [spec_CountSigned.l0, if_pos (show (i : Int) < 25 by omega), if_pos (show (0 : Int) ≤ (i : Int) by omega), tab_length, if_pos (show (i : Int) < ((25 : Nat) : Int) by omega), tab_rd hi, wid (x := (i : Int) + 1) (by omega) (by omega), wid (x := tot (cnt L n) i + cnt L n i) (by omega) (by omega)]
    exact ih (i + 1) (by omega)
theorem main : laws_FnExactCountSigned.Pure := by
  intro n L _ _
  refine Ev.rounds ?_
  simp only [laws_FnExactCountSigned.f]
  by_cases h : (-1000000 ≤ n ∧ n ≤ 1000000) ∧ 0 ≤ L ∧ L ≤ 24
  · obtain ⟨⟨h0, h1⟩, h2, h3⟩ := h
    obtain ⟨l, rfl⟩ := Int.eq_ofNat_of_zero_le h2
    have hl : l ≤ 24 := by omega
    have hs : Ev (fun k => spec_CountSigned.f k n (l : Int)) ((LV l n).1, true) := by
      simp only [spec_CountSigned.f, siTask_val, Option.bind_some, decide_eq_true h0, decide_eq_true h1, decide_eq_true h2, decide_eq_true h3, Bool.and_self, if_true]
      refine Ev.bind (siCount_val l hl n (by omega) (by omega)) ?_
      simp only [tab_length]
      have := sumLoop l hl n 25 0 (by omega)
      rw [(told l hl n).sum] at this
      exact this
    refine Ev.bind hs ?_
    have hi : impl_CountSigned.f n (l : Int) = some ((LV l n).1, true) := by
      unfold impl_CountSigned.f
      rw [if_pos ⟨⟨h0, h1⟩, h2, h3⟩, Int.toNat_natCast]
    simp only [hi, Option.bind_some, if_true, bne_self_eq_false, Bool.false_eq_true, if_false]
    exact Ev.now _
  · have hs : Ev (fun k => spec_CountSigned.f k n L) (0, false) := by
      have hb : ((decide (-1000000 ≤ n) && decide (n ≤ 1000000)) && (decide (0 ≤ L) && decide (L ≤ 24))) = false := by
        rw [Bool.and_eq_false_iff, Bool.and_eq_false_iff, Bool.and_eq_false_iff, decide_eq_false_iff_not, decide_eq_false_iff_not, decide_eq_false_iff_not, decide_eq_false_iff_not]
        omega
      simp only [spec_CountSigned.f, siTask_val, Option.bind_some, hb, Bool.false_eq_true, if_false]
      exact Ev.now _
    refine Ev.bind hs ?_
    have hi : impl_CountSigned.f n L = some (0, false) := by unfold impl_CountSigned.f; rw [if_neg h]
    simp only [hi, Option.bind_some, if_true, bne_self_eq_false, Bool.false_eq_true, if_false]
    exact Ev.now _
end Go.Proofs.Ytidllggmmkigdaa.PureFnExactCountSignedL
namespace Go.Proofs.Ytidllggmmkigdaa.Pure
open Go.Proofs.Ytidllggmmkigdaa.PFnExactCountSigned
theorem FnExactCountSigned : laws_FnExactCountSigned.Pure := PureFnExactCountSignedL.main
end Go.Proofs.Ytidllggmmkigdaa.Pure
