-- Written by gprint.py, a program of this session, out of the translation (a changed print).
import Derived.Test.YtlmoemahamneoaaPFnSubtractionChainsx0
import Derived.Test.YtlmoemahamneoaaPFnSubtractionChainsx1
namespace Go.Proofs.Ytlmoemahamneoaa.PFnSubtractionChains
open Go.RowKit Go.Proofs.YtlmoemahamneoaaW.PrintWords Go.Proofs.YtlmoemahamneoaaW.PrintLast Go.Proofs.YtlmoemahamneoaaW.PrintMore
attribute [local go_sem] max2_int min2_int max_two min_two max_three min_three max_four min_four   -- for this text's walks alone
set_option linter.unusedVariables false
set_option linter.unusedSimpArgs false

/-! ### impl_ShortestSubtraction: function 83 -/
def ssLast (nn : List Int) : Int := rd nn ((nn.length : Int) - 1)
/-- What is asked next of a list: its last number and each of its numbers, added and taken away. -/
def ssNexts (last : Int) (nn : List Int) : List Int := nn.flatMap fun a => [last + a, last - a]
/-- The first of the numbers that goes on a list to its end. -/
def ssTry (most : Int) (f : List Int → List Int × Bool) (nn : List Int) : List Int → List Int × Bool
  | [] => ([], false)
  | x :: xs => if (1 ≤ x ∧ x ≤ most) ∧ nn.contains x = false then (if (f (nn ++ [x])).2 = true then ((f (nn ++ [x])).1, true) else ssTry most f nn xs) else ssTry most f nn xs
def ssSub (n most : Int) : Nat → List Int → List Int × Bool
  | 0, nn => (nn, ssLast nn == n)
  | l + 1, nn => if Lib.maxOf nn * 2 ^ (l + 1) < n then ([], false) else ssTry most (ssSub n most l) nn (YtlmoemahamneoaaInc.incOf (ssNexts (ssLast nn) nn))
def ssFind (n most : Int) : Nat → Nat → List Int × Bool
  | 0, _ => ([], false)
  | k + 1, l => if (ssSub n most l [1]).2 = true then ((ssSub n most l [1]).1, true) else ssFind n most k (l + 1)
def impl_ShortestSubtraction.f (a0 : Int) (a1 : Int) : Option (List Int × Bool) := if (1 ≤ a0 ∧ a0 ≤ 40) ∧ a0 ≤ a1 ∧ a1 ≤ 64 then some (ssFind a0 a1 7 0) else some ([], false)
theorem ssTry_len (most : Int) (f : List Int → List Int × Bool) (nn : List Int) (m : Nat) (h : ∀ x, (f (nn ++ [x])).1.length ≤ m) : ∀ xs, (ssTry most f nn xs).1.length ≤ m
  | [] => by rw [ssTry]; exact Nat.zero_le _
  | x :: xs => by
    rw [ssTry]
    split
    · split
      · exact h x
      · exact ssTry_len most f nn m h xs
    · exact ssTry_len most f nn m h xs
theorem ssSub_len (n most : Int) : ∀ (l : Nat) (nn : List Int), (ssSub n most l nn).1.length ≤ nn.length + l
  | 0, nn => by rw [ssSub]; exact Nat.le_refl _
  | l + 1, nn => by
    rw [ssSub]
    split
    · exact Nat.zero_le _
    · refine ssTry_len most _ nn _ (fun x => ?_) _
      have := ssSub_len n most l (nn ++ [x])
      rw [List.length_append, List.length_singleton] at this
      omega
theorem ssNexts_snoc (last : Int) (nn : List Int) (i : Nat) (h : i < nn.length) : ssNexts last (nn.take (i + 1)) = ssNexts last (nn.take i) ++ [last + rd nn (i : Int), last - rd nn (i : Int)] := by
  unfold ssNexts rd
  rw [List.take_succ_eq_append_getElem h, List.flatMap_append, Int.toNat_natCast, List.getD_eq_getElem?_getD, List.getElem?_eq_getElem h]
  simp
theorem ssNexts_len (last : Int) (nn : List Int) : (ssNexts last nn).length = 2 * nn.length := by
  unfold ssNexts
  induction nn with
  | nil => rfl
  | cons a nn ih => rw [List.flatMap_cons, List.length_append, ih, List.length_cons, List.length_cons, List.length_cons, List.length_nil]; omega
theorem ss_fold (b : Int) : ∀ (l : List Int) (a : Int), 1 ≤ a → a ≤ b → (∀ x ∈ l, 1 ≤ x ∧ x ≤ b) → 1 ≤ l.foldl max a ∧ l.foldl max a ≤ b
  | [], a, h1, h2, _ => ⟨h1, h2⟩
  | x :: l, a, h1, h2, h => by
    have hx := h x (List.mem_cons_self ..)
    exact ss_fold b l (max a x) (by omega) (by omega) (fun y hy => h y (List.mem_cons_of_mem _ hy))
theorem ss_max (b : Int) (nn : List Int) (hne : nn ≠ []) (h : ∀ x ∈ nn, 1 ≤ x ∧ x ≤ b) : 1 ≤ Lib.maxOf nn ∧ Lib.maxOf nn ≤ b := by
  cases nn with
  | nil => exact absurd rfl hne
  | cons a l =>
    have ha := h a (List.mem_cons_self ..)
    exact ss_fold b (a :: l) a ha.1 ha.2 h
theorem ss_rd {nn : List Int} {P : Int → Prop} (h : ∀ x ∈ nn, P x) {i : Nat} (hi : i < nn.length) : P (rd nn (i : Int)) := by
  unfold rd
  rw [Int.toNat_natCast, List.getD_eq_getElem?_getD, List.getElem?_eq_getElem hi]
  exact h _ (List.getElem_mem hi)
/-- A row of whole numbers that can be read: none, or a block that holds it. -/
def NowR (W : World) (A : Option Addr) (c : Nat) (nn : List Int) : Prop := (A = none ∧ nn = [] ∧ c = 0) ∨ (nn ≠ [] ∧ W.ownsRow 0 3 1 (.slice A nn.length c) nn.length (nums .i64 nn))
theorem now_C {W : World} {A : Option Addr} {c : Nat} {nn : List Int} (h : NowR W A c nn) : Kd.C (Kd.int .i64) W A nn.length nn ∧ nn.length ≤ c := by
  rcases h with ⟨rfl, rfl, rfl⟩ | ⟨_, h⟩
  · have := Kd.R_reads' (Kd.R_nil (Kd.int .i64) 3 W 0 (fun _ => True))
    exact ⟨this.2.2, this.2.1⟩
  · have hR : Kd.R (Kd.int .i64) 3 W 0 (fun _ => True) (.slice A nn.length c) nn := Kd.R_of_own h (fun _ _ => trivial)
    have := Kd.R_reads' hR
    exact ⟨this.2.2, this.2.1⟩
theorem al_nil (w : World) (a : Option Addr) (n c : Nat) : (Go.binOp .eql 29 (.slice a n c) (.slice none 0 0)).run Try.prog w = .ok (.bool a.isNone) w := Go.Lib.run_eql_slice_nil w _ _ a n c 0 0 Try.underlying29
theorem ex_int : (Try.prog.info? 3).map (fun i => (i.zero, i.size, i.bytes)) = some (some (.int .i64 0), 1, 8) := by kernel_rfl
theorem al_new (W : World) : Kd.R (Kd.int .i64) 3 (W.alloc (.cells #[] 3)) W.heap.size (fun _ => True) (.slice (some ⟨W.heap.size, 0, none⟩) 0 0) [] := by
  have h := World.ownsRow_lit (base := W.heap.size) (e := 3) (size := 1) W #[] 0 (Nat.le_refl _) (by decide) rfl
  have h2 : (W.alloc (.cells #[] 3)).ownsRow W.heap.size 3 1 (.slice (some ⟨W.heap.size, 0, none⟩) 0 0) 0 [] := by simpa using h
  exact Kd.R_of_own h2 (fun _ _ => trivial)
theorem ss_new (W : World) : (W.alloc (.cells #[] 3)).ownsRow W.heap.size 3 1 (.slice (some ⟨W.heap.size, 0, none⟩) 0 0) 0 (nums .i64 []) := by
  have h := World.ownsRow_lit (base := W.heap.size) (e := 3) (size := 1) W #[] 0 (Nat.le_refl _) (by decide) rfl
  simpa [nums] using h
theorem now_below {W W1 : World} {A : Option Addr} {c : Nat} {nn : List Int} (h : NowR W A c nn) (hk : Below W.heap.size W W1) : NowR W1 A c nn := by
  rcases h with h | ⟨hne, hl, h⟩
  · exact Or.inl h
  · refine Or.inr ⟨hne, hl, ?_⟩
    rcases h with h | ⟨g, cap, cur, hv, h0, hb, r⟩
    · exact Or.inl h
    · exact Or.inr ⟨g, cap, cur, hv, h0, (hk.block g (blk_lt hb)).trans hb, r⟩
theorem now_cells {W : World} {A : Option Addr} {c : Nat} {nn : List Int} (h : NowR W A c nn) : ∀ b, A = some b → ∀ (j : Nat) u, (nums .i64 nn)[j]? = some u → W.cell? (b.add j) = some u := fun b hb j u hu => by
  rcases h with ⟨rfl, _⟩ | ⟨hne, h⟩
  · cases hb
  · subst hb
    rcases h.2 with ⟨hv, h0⟩ | ⟨g, cap, cur, hv, _⟩
    · exact absurd (List.eq_nil_of_length_eq_zero h0) hne
    · injection hv with hA
      injection hA with hA
      subst hA
      exact h.cells rfl j u hu
theorem now_none {W : World} {A : Option Addr} {c : Nat} {nn : List Int} (h : NowR W A c nn) : A = none → nn.length = 0 ∧ nn.length = 0 := fun hA => by
  rcases h with ⟨_, rfl, _⟩ | ⟨hne, h⟩
  · exact ⟨rfl, rfl⟩
  · subst hA
    rcases h.2 with ⟨_, h0⟩ | ⟨g, cap, cur, hv, _⟩
    · exact ⟨h0, h0⟩
    · injection hv with hA; cases hA
theorem now_app {W : World} {b : Nat} {v : Value} {nn : List Int} {d : Int} (h : W.ownsRow b 3 1 v (nn.length + 1) (nums .i64 nn ++ [.int .i64 d])) : ∃ A c, v = .slice A (nn.length + 1) c ∧ NowR W A c (nn ++ [d]) := by
  have e : nums .i64 nn ++ [.int .i64 d] = nums .i64 (nn ++ [d]) := by simp [nums]
  have el : nn.length + 1 = (nn ++ [d]).length := by rw [List.length_append]; rfl
  rcases h with ⟨hl, ⟨_, h0⟩ | ⟨g, cap, cur, hv, _, r⟩⟩
  · cases h0
  · refine ⟨_, _, hv, Or.inr ⟨by simp, ?_⟩⟩
    rw [← el, ← e]
    exact ⟨hl, Or.inr ⟨g, cap, cur, rfl, Nat.zero_le _, r⟩⟩
theorem below_grown0 {W W1 : World} (h : W.grownBy W1 none) : Below W.heap.size W W1 := ⟨h.os, h.tape, h.output, h.size, fun k hk => h.block k hk (by simp)⟩
theorem ss_drawn {w w1 : World} (hd : Drawn0 w w1) : Below w.heap.size w w1 := by
  obtain ⟨q, rfl⟩ := YtlmoemahamneoaaHand.of_drawn hd
  exact ⟨rfl, rfl, rfl, Nat.le_refl _, fun _ _ => rfl⟩
theorem ss_in (x a b : Int) (w : World) : Calls Try.prog 146 #[.int .i64 x, .int .i64 a, .int .i64 b] w fun e w' => e = .returned (.bool (decide (a ≤ x ∧ x ≤ b))) ∧ Below w.heap.size w w' := by
  refine (impl_in.calls x a b (decide (a ≤ x ∧ x ≤ b)) w ?_).mono fun e w' ⟨he, hd⟩ => ⟨he, ss_drawn hd⟩
  unfold impl_in.f
  by_cases h : x ≥ a
  · rw [if_pos h]; simp [show a ≤ x from h]
  · rw [if_neg h]; simp [show ¬ a ≤ x from h]
theorem ss_contains (A0 : Option Addr) (c0 : Nat) (l0 : List Int) (x : Int) (w : World) (hr0 : Kd.C (Kd.int .i64) w A0 l0.length l0) :
    Calls Try.prog 176 #[.slice A0 l0.length c0, .int .i64 x] w fun e w' => e = .returned (.bool (l0.contains x)) ∧ w' = w := by
  rcases YtlmoemahamneoaaHand.int_slice hr0 with h0 | ⟨b, off, rfl, _, hcells⟩
  · subst h0
    exact Try.slices_Contains_int_empty A0 c0 x w
  · have := Try.slices_Contains_int b off l0.length c0 l0 x w (Nat.le_refl _) (YtlmoemahamneoaaHand.int_len hr0) hcells
    rw [List.take_length] at this
    exact this
theorem ss_maxc (A0 : Option Addr) (c0 : Nat) (l0 : List Int) (w : World) (hr0 : Kd.C (Kd.int .i64) w A0 l0.length l0) (hne : l0 ≠ []) :
    Calls Try.prog 149 #[.slice A0 l0.length c0] w fun e w' => e = .returned (.int .i64 (Lib.maxOf l0)) ∧ w' = w := by
  rcases YtlmoemahamneoaaHand.int_slice hr0 with h0 | ⟨b, off, rfl, _, hcells⟩
  · exact absurd h0 hne
  · have := Try.slices_Max_int b off l0.length c0 l0 w (List.length_pos_iff.2 hne) (Nat.le_refl _) (YtlmoemahamneoaaHand.int_len hr0) hcells
    rw [List.take_length] at this
    exact this
def SsHold (p : Prop) : Prop := p
theorem ss_hold {p : Prop} (h : SsHold p) : p := h
section
set_option maxRecDepth 100000
attribute [local go_sem] al_nil in
set_option maxHeartbeats 1000000 in
theorem clone_in (A : Option Addr) (c : Nat) (nn : List Int) (W : World) (h : NowR W A c nn) (hl : nn.length ≤ 100) :
    Calls Try.prog 132 #[.slice A nn.length c] W fun e w' => ∃ v, e = .returned v ∧ Kd.R (Kd.int .i64) 3 w' W.heap.size (fun _ => True) v nn ∧ Below W.heap.size W w' := by
  obtain ⟨hC, hc⟩ := now_C h
  rcases h with ⟨rfl, rfl, rfl⟩ | ⟨hne, h⟩
  · go_enter Try.func132, Try.ntmps132
    go_wp2
    go_ret
    exact ⟨_, rfl, Kd.R_nil _ _ _ _ _, Below.refl _ _⟩
  · obtain ⟨_, ⟨hv, h0⟩ | ⟨g, cap, cur, hv, _, hb, _, _, _, _⟩⟩ := h
    · exact absurd (List.eq_nil_of_length_eq_zero h0) hne
    · injection hv with hA hn hcc
      subst hA
      subst hcc
      have HC := Go.Lib.hid hC
      have HB := Aside0.mk (Below.refl W.heap.size W)
      have hl8 : nn.length ≤ 100 := hl
      clear hC hb hne hl
      go_enter Try.func132, Try.ntmps132
      go_wp2_with (at_builtin; refine ss_hold ?_)
      unfold SsHold
      have hrow := al_new W
      have hbl : Below W.heap.size W (W.alloc (.cells #[] 3)) := below_alloc (Below.refl _ _) _
      have hC2 := Kd.C_alloc HC.out (.cells #[] 3)
      obtain ⟨q, hq⟩ : ∃ q, W.heap.size = q := ⟨_, rfl⟩
      have HQ := Aside0.mk hq
      rw [hq] at hrow hbl ⊢
      obtain ⟨w5, hw5⟩ : ∃ w5, W.alloc (.cells #[] 3) = w5 := ⟨_, rfl⟩
      rw [hw5] at hrow hbl hC2 ⊢
      have hqs : q ≤ w5.heap.size := by rw [← hw5, World.size_alloc]; omega
      clear hw5
      refine Kd.R_append_rows (Kd.int .i64) (w0 := W) q rfl (.tmp 5) (.tmp 6) 29 3 (.int .i64 0) 8 rfl Try.underlying29 ex_int rfl (by decide) (by decide) (.slice (some ⟨q, 0, none⟩) 0 0) [] nn _ _ _ (fun _ => True) (fun _ => False) rfl rfl hrow hC2 (fun _ _ h => h) (fun _ h => h.elim) (fun _ _ => trivial) hbl hqs (by simp only [List.length_nil]; omega) ?_
      intro v1 w1 ho hb _ _
      rw [List.nil_append] at ho
      have HO := Aside0.mk ho
      have HB1 := Aside0.mk hb
      clear ho hb hrow hbl hC2
      go_wp2
      go_ret
      exact ⟨_, rfl, by rw [HQ.out]; exact HO.out, by rw [HQ.out]; exact HB1.out⟩
theorem clip_in (A : Option Addr) (c : Nat) (nn : List Int) (W : World) (h : NowR W A c nn) (hl : nn.length ≤ 100) :
    Calls Try.prog 231 #[.slice A nn.length c] W fun e w' => e = .returned (.slice A nn.length nn.length) ∧ w' = W := by
  have hc := (now_C h).2
  go_enter Try.func231, Try.ntmps231
  go_wp2
  go_ret
  exact ⟨rfl, rfl⟩
def SsPost (W : World) (p : List Int × Bool) (e : Ending) (W' : World) : Prop := ∃ A c, e = .returned (.tuple #[.slice A p.1.length c, .bool p.2]) ∧ NowR W' A c p.1 ∧ Below W.heap.size W W'
theorem ss_two (W : World) (x y : Int) : ReadsInt (W.alloc (.cells #[.int .i64 x, .int .i64 y] 3)) .i64 (some ⟨W.heap.size, 0, none⟩) 2 [x, y] := by
  have := Go.Proofs.YtlmoemahamneoaaW.PrintWords.own_lit W 0 3 .i64 [x, y] (Nat.zero_le _) (by simp)
  obtain ⟨A, c, e, h⟩ := own_reads this
  cases e
  exact h
set_option maxHeartbeats 1000000 in
theorem ss_leaf (n most : Int) (A : Option Addr) (c m : Nat) (nn : List Int) (W : World) (h : NowR W A c nn) (hm : nn.length = m + 1) (hl : m ≤ 100) :
    Calls Try.prog 179 #[.int .i64 n, .int .i64 most, .int .i64 (nn.length : Int), .slice A nn.length c] W (SsPost W (ssSub n most 0 nn)) := by
  obtain ⟨ad, e, hcell⟩ := Kd.at_int (now_C h).1 (m : Int) (by omega) (by omega)
  rw [Int.toNat_natCast] at hcell
  subst e
  have hw1 : wrap64 ((nn.length : Int) - 1) = (m : Int) := by rw [hm]; unfold wrap64; omega
  have hw2 : wrap64 ((nn.length : Int) - (nn.length : Int)) = 0 := by rw [Int.sub_self]; unfold wrap64; omega
  have hlt : m < nn.length := by omega
  have hS : ssSub n most 0 nn = (nn, rd nn (m : Int) == n) := by rw [ssSub]; unfold ssLast; rw [hm, show ((m + 1 : Nat) : Int) - 1 = (m : Int) by omega]
  rw [hS]
  have HN := Aside0.mk h
  clear h hS hm
  go_enter Try.func179, Try.ntmps179
  go_wp2
  go_ret2
  exact ⟨_, _, rfl, HN.out, Below.refl _ _⟩
theorem ss_shl {m l : Int} {k : Nat} (hl : l = (k : Int)) (h1 : 1 ≤ m) (h2 : m ≤ 64) (hk : k ≤ 6) : IntKind.i64.wrap (m * 2 ^ l.toNat) = m * 2 ^ k ∧ wrap64 (m * 2 ^ k) = m * 2 ^ k := by
  subst hl
  rw [Int.toNat_natCast]
  rcases (by omega : k = 0 ∨ k = 1 ∨ k = 2 ∨ k = 3 ∨ k = 4 ∨ k = 5 ∨ k = 6) with rfl | rfl | rfl | rfl | rfl | rfl | rfl <;> (simp only [IntKind.wrap, IntKind.bits, IntKind.signed, wrap64]; constructor <;> simp <;> omega)
set_option maxHeartbeats 1000000 in
theorem ss_cut (n most : Int) (l : Nat) (long : Int) (A : Option Addr) (c m : Nat) (nn : List Int) (W : World) (h : NowR W A c nn) (hm : nn.length = m + 1) (hml : m + (l + 1) ≤ 6) (hlong : long = (nn.length : Int) + ((l + 1 : Nat) : Int)) (hb : ∀ x ∈ nn, 1 ≤ x ∧ x ≤ 64) (hc : Lib.maxOf nn * 2 ^ (l + 1) < n) :
    Calls Try.prog 179 #[.int .i64 n, .int .i64 most, .int .i64 long, .slice A nn.length c] W (SsPost W (ssSub n most (l + 1) nn)) := by
  have hne : nn ≠ [] := by intro e; rw [e] at hm; cases hm
  obtain ⟨ad, e, hcell⟩ := Kd.at_int (now_C h).1 (m : Int) (by omega) (by omega)
  rw [Int.toNat_natCast] at hcell
  subst e
  have hmx := ss_max 64 nn hne hb
  have HMX := Aside0.mk (fun W1 (hk : Below W.heap.size W W1) => ss_maxc (some ad) c nn W1 (now_C (now_below h hk)).1 hne)
  obtain ⟨M, hM⟩ : ∃ M, Lib.maxOf nn = M := ⟨_, rfl⟩
  rw [hM] at hmx HMX hc
  obtain ⟨k, hk⟩ : ∃ k : Int, k = ((l + 1 : Nat) : Int) := ⟨_, rfl⟩
  have hs := ss_shl hk hmx.1 hmx.2 (by omega)
  have hw1 : wrap64 ((nn.length : Int) - 1) = (m : Int) := by rw [hm]; unfold wrap64; omega
  have hw2 : wrap64 (long - (nn.length : Int)) = k := by rw [hlong, hk]; unfold wrap64; omega
  have hk0 : (k == 0) = false := beq_eq_false_iff_ne.mpr (by omega)
  have hk1 : k ≤ 64 := by omega
  have hk2 : 0 ≤ k := by omega
  have hlt : m < nn.length := by omega
  have hd : decide (M * 2 ^ (l + 1) < n) = true := decide_eq_true hc
  have hS : ssSub n most (l + 1) nn = ([], false) := by rw [ssSub, hM, if_pos hc]
  rw [hS]
  have HN := Aside0.mk h
  clear h hS hm hmx hlong hb hc hk hM hne hml
  go_enter Try.func179, Try.ntmps179
  go_wp2_with (go_at_call 149; refine (HMX.out _ (Below.refl _ _)).mono ?_; rintro e w1 ⟨rfl, hw_⟩; obtain rfl := hw_.symm)
  go_ret2
  exact ⟨none, 0, rfl, Or.inl ⟨rfl, rfl, rfl⟩, Below.refl _ _⟩
theorem ssTry_no {most : Int} {f : List Int → List Int × Bool} {nn : List Int} {x : Int} {xs : List Int} (h : ¬ ((1 ≤ x ∧ x ≤ most) ∧ nn.contains x = false)) : ssTry most f nn (x :: xs) = ssTry most f nn xs := by rw [ssTry, if_neg h]
theorem ssTry_off {most : Int} {f : List Int → List Int × Bool} {nn : List Int} {x : Int} {xs : List Int} (h : (f (nn ++ [x])).2 = false) : ssTry most f nn (x :: xs) = ssTry most f nn xs := by
  rw [ssTry, h]
  split <;> simp
theorem ssTry_yes {most : Int} {f : List Int → List Int × Bool} {nn : List Int} {x : Int} {xs : List Int} (h : (1 ≤ x ∧ x ≤ most) ∧ nn.contains x = false) (h2 : (f (nn ++ [x])).2 = true) : ssTry most f nn (x :: xs) = ((f (nn ++ [x])).1, true) := by rw [ssTry, if_pos h, if_pos h2]
set_option maxHeartbeats 4000000 in
theorem ss_node (n most : Int) (l : Nat) (long : Int) (A : Option Addr) (c m : Nat) (nn : List Int) (W : World) (h : NowR W A c nn) (hm : nn.length = m + 1) (hml : m + (l + 1) ≤ 6) (hlong : long = (nn.length : Int) + ((l + 1 : Nat) : Int)) (hb : ∀ x ∈ nn, 1 ≤ x ∧ x ≤ 64) (hmost : most ≤ 64) (hc : ¬ Lib.maxOf nn * 2 ^ (l + 1) < n)
    (IH : ∀ (A' : Option Addr) (c' : Nat) (nn' : List Int) (W' : World), NowR W' A' c' nn' → nn'.length = m + 1 + 1 → (∀ x ∈ nn', 1 ≤ x ∧ x ≤ 64) → Calls Try.prog 179 #[.int .i64 n, .int .i64 most, .int .i64 long, .slice A' nn'.length c'] W' (SsPost W' (ssSub n most l nn'))) :
    Calls Try.prog 179 #[.int .i64 n, .int .i64 most, .int .i64 long, .slice A nn.length c] W (SsPost W (ssSub n most (l + 1) nn)) := by
  obtain ⟨i0, hin, hz0, hz1, hz2⟩ := info_parts ex_int
  have hne : nn ≠ [] := by intro e; rw [e] at hm; cases hm
  obtain ⟨ad, e, hcell⟩ := Kd.at_int (now_C h).1 (m : Int) (by omega) (by omega)
  rw [Int.toNat_natCast] at hcell
  subst e
  have hmx := ss_max 64 nn hne hb
  have HMX := Aside0.mk (fun W1 (hk : Below W.heap.size W W1) => ss_maxc (some ad) c nn W1 (now_C (now_below h hk)).1 hne)
  obtain ⟨M, hM⟩ : ∃ M, Lib.maxOf nn = M := ⟨_, rfl⟩
  rw [hM] at hmx HMX hc
  obtain ⟨k, hk⟩ : ∃ k : Int, k = ((l + 1 : Nat) : Int) := ⟨_, rfl⟩
  have hs := ss_shl hk hmx.1 hmx.2 (by omega)
  have hw1 : wrap64 ((nn.length : Int) - 1) = (m : Int) := by rw [hm]; unfold wrap64; omega
  have hw2 : wrap64 (long - (nn.length : Int)) = k := by rw [hlong, hk]; unfold wrap64; omega
  have hk0 : (k == 0) = false := beq_eq_false_iff_ne.mpr (by omega)
  have hk1 : k ≤ 64 := by omega
  have hk2 : 0 ≤ k := by omega
  have hlt : m < nn.length := by omega
  have hd : decide (M * 2 ^ (l + 1) < n) = false := decide_eq_false hc
  obtain ⟨last, hlast⟩ : ∃ last, rd nn (m : Int) = last := ⟨_, rfl⟩
  rw [hlast] at hcell
  have HLB := Aside0.mk (show 1 ≤ last ∧ last ≤ 64 by rw [← hlast]; exact ss_rd hb (by omega))
  have hS : ssSub n most (l + 1) nn = ssTry most (ssSub n most l) nn (YtlmoemahamneoaaInc.incOf (ssNexts last nn)) := by rw [ssSub, hM, if_neg hc]; unfold ssLast; rw [hm, show ((m + 1 : Nat) : Int) - 1 = (m : Int) by omega, hlast]
  rw [hS]
  obtain ⟨Q, hQ⟩ : ∃ Q, YtlmoemahamneoaaInc.incOf (ssNexts last nn) = Q := ⟨_, rfl⟩
  have HQ := Aside0.mk hQ
  rw [hQ]
  have HN := Aside0.mk h
  have HBD := Aside0.mk hb
  have HML := Aside0.mk (And.intro hm hml)
  have HMO := Aside0.mk hmost
  have HI := Aside0.mk IH
  clear h hS hm hmx hlong hb hc hk hM hne hml hlast hmost IH hQ
  go_enter Try.func179, Try.ntmps179
  go_wp2_with (go_at_call 149; refine (HMX.out _ (Below.refl _ _)).mono ?_; rintro e w1 ⟨rfl, hw_⟩; obtain rfl := hw_.symm)
  have I0 := Aside0.mk (ss_new W)
  have I1 := Aside0.mk (below_alloc (Below.refl W.heap.size W) (.cells #[] 3))
  have hl9 : nn.length ≤ 9223372036854775807 := by have := HML.out; omega
  clear HMX hs hd hk0 hk1 hk2 hw1 hw2
  go_loopw [12, 44] (fun v s wr => ∃ i : Nat, s = .int .i64 (i : Int) ∧ i ≤ nn.length ∧ Aside0 (Below W.heap.size W wr) ∧ Aside0 (wr.ownsRow W.heap.size 3 1 v (ssNexts last (nn.take i)).length (nums .i64 (ssNexts last (nn.take i))))) (fun _ s _ => nn.length - (intOf s).toNat)
  case atStart => exact ⟨0, rfl, Nat.zero_le _, I1, ⟨by rw [List.take_zero]; exact I0.out⟩⟩
  case round =>
    clear I0 I1
    obtain ⟨i, rfl, hi, HB, HO⟩ := hrel
    by_cases hlt2 : i < nn.length
    · have hltz : (i : Int) < (nn.length : Int) := by omega
      obtain ⟨ad', e', hcell2⟩ := Kd.at_int (now_C (now_below HN.out HB.out)).1 (i : Int) (by omega) hltz
      cases e'
      rw [Int.toNat_natCast] at hcell2
      have hst := ssNexts_snoc last nn i hlt2
      have hab := ss_rd HBD.out hlt2
      obtain ⟨a, ha⟩ : ∃ a, rd nn (i : Int) = a := ⟨_, rfl⟩
      rw [ha] at hcell2 hst hab
      have e1 : wrap64 (last + a) = last + a := by have := HLB.out; unfold wrap64; omega
      have e2 : wrap64 (last - a) = last - a := by have := HLB.out; unfold wrap64; omega
      have HST := Aside0.mk hst
      have HI3 := Aside0.mk hlt2
      have HLE := Aside0.mk (show ((ssNexts last (nn.take i)).length + 2) * 8 ≤ 140737488355328 by rw [ssNexts_len, List.length_take]; have := HML.out; omega)
      have HB2 := Aside0.mk (below_alloc HB.out (.cells #[.int .i64 (last + a), .int .i64 (last - a)] 3))
      have HS := Aside0.mk (show W.heap.size ≤ (wr.alloc (.cells #[.int .i64 (last + a), .int .i64 (last - a)] 3)).heap.size from HB2.out.size)
      clear hst hab ha hlt2 hi
      go_wp2_with (at_builtin; refine print_append_row (w0 := W) W.heap.size rfl (.tmp 48) (.tmp 55) 29 3 .i64 8 rfl Try.underlying29 ex_int (by omega) _ (ssNexts last (nn.take i)) [last + a, last - a] (some ⟨wr.heap.size, 0, none⟩) 2 2 rfl rfl (HO.out.alloc _) (ss_two wr _ _) HB2.out HS.out HLE.out ?_; intro v1 w2 hown hb_ _ _; have N1 := Aside0.mk hb_; have N2 := Aside0.mk hown; clear hown hb_)
      go_roundw
      case rel => exact ⟨i + 1, by have := HI3.out; have := HML.out; go_num, HI3.out, N1, ⟨by rw [HST.out]; exact N2.out⟩⟩
      case measure => (have := HI3.out); simp only [intOf]; go_num
    · obtain rfl : i = nn.length := by omega
      rw [List.take_length] at HO
      have hil := YtlmoemahamneoaaInc.inc_length (ssNexts last nn)
      rw [ssNexts_len] at hil
      have HIN := Aside0.mk (YtlmoemahamneoaaInc.increasing_in W.heap.size _ (ssNexts last nn) wr HO.out (by rw [ssNexts_len]; have := HML.out; omega))
      unfold YtlmoemahamneoaaInc.Left at HIN
      rw [HQ.out] at HIN hil
      have hQl : Q.length ≤ 14 := by have := HML.out; omega
      clear hlt2 hi hil HQ
      go_wp2_with (go_at_call 230; refine HIN.out.mono ?_; rintro e w2 ⟨v', rfl, ho_, hg_, _⟩; have HB3 := Aside0.mk (HB.out.grown hg_ HB.out.size (own_base HO.out)); obtain ⟨A2, c2, e2⟩ := own_slice ho_; have HO3 := Aside0.mk ho_; clear ho_ hg_; subst e2)
      clear HIN
      go_loopw [61] (fun s wr => ∃ i : Nat, s = .int .i64 (i : Int) ∧ i ≤ Q.length ∧ Aside0 (ssTry most (ssSub n most l) nn (Q.drop i) = ssTry most (ssSub n most l) nn Q) ∧ Aside0 (Below W.heap.size W wr) ∧ Aside0 (wr.ownsRow W.heap.size 3 1 (.slice A2 Q.length c2) Q.length (nums .i64 Q))) (fun s _ => Q.length - (intOf s).toNat)
      case atStart => exact ⟨0, rfl, Nat.zero_le _, ⟨rfl⟩, HB3, HO3⟩
      case round =>
        clear HB3 HO3 HB HO
        obtain ⟨i, rfl, hi, HT, HB, HO⟩ := hrel
        by_cases hlt2 : i < Q.length
        · have hltz : (i : Int) < (Q.length : Int) := by omega
          obtain ⟨ad', e', hcell2⟩ := Kd.at_int (Kd.R_reads' (Kd.R_of_own HO.out (fun _ _ => trivial) : Kd.R (Kd.int .i64) 3 wr W.heap.size (fun _ => True) (.slice A2 Q.length c2) Q)).2.2 (i : Int) (by omega) hltz
          subst e'
          rw [Int.toNat_natCast] at hcell2
          obtain ⟨x, hx⟩ : ∃ x, rd Q (i : Int) = x := ⟨_, rfl⟩
          have hdr : Q.drop i = x :: Q.drop (i + 1) := by
            rw [List.drop_eq_getElem_cons hlt2, ← hx]
            unfold rd
            rw [Int.toNat_natCast, List.getD_eq_getElem?_getD, List.getElem?_eq_getElem hlt2]
            rfl
          rw [hx] at hcell2
          have ht := HT.out
          rw [hdr] at ht
          have HI3 := Aside0.mk hlt2
          clear hdr hx HT hi hlt2
          have H8 := Aside0.mk (show (i : Int) + 1 ≤ 15 by have := HI3.out; omega)
          by_cases hix : 1 ≤ x ∧ x ≤ most
          · have HIN := Aside0.mk (fun W1 => by have h5 := ss_in x 1 most W1; rw [decide_eq_true hix] at h5; exact h5)
            cases hcon : nn.contains x with
            | true =>
              rw [ssTry_no (by rw [hcon]; simp)] at ht
              have HCO := Aside0.mk (fun W1 (hk : Below W.heap.size W W1) => by have h5 := ss_contains (some ad) c nn x W1 (now_C (now_below HN.out hk)).1; rw [hcon] at h5; exact h5)
              have HT := Aside0.mk ht
              clear ht hcon hix
              go_wp2_with (first
                | (go_at_call 146; refine (HIN.out _).mono ?_; rintro e w3 ⟨rfl, hb_⟩; have HB2 := Aside0.mk (HB.out.trans (hb_.mono HB.out.size)); have HO2 := Aside0.mk (pw_own_below HO.out hb_); clear hb_)
                | (go_at_call 176; refine (HCO.out _ HB2.out).mono ?_; rintro e w4 ⟨rfl, hw_⟩; obtain rfl := hw_.symm))
              go_roundw
              case rel => exact ⟨i + 1, by have := H8.out; go_num, HI3.out, HT, HB2, HO2⟩
              case measure => (have := HI3.out); (have := H8.out); simp only [intOf]; go_num
            | false =>
              have hyes : (1 ≤ x ∧ x ≤ most) ∧ nn.contains x = false := ⟨hix, hcon⟩
              have HCO := Aside0.mk (fun W1 (hk : Below W.heap.size W W1) => by have h5 := ss_contains (some ad) c nn x W1 (now_C (now_below HN.out hk)).1; rw [hcon] at h5; exact h5)
              have HXB := Aside0.mk (show ∀ y ∈ nn ++ [x], 1 ≤ y ∧ y ≤ 64 from fun y hy => by
                rcases List.mem_append.1 hy with hy | hy
                · exact HBD.out y hy
                · rw [List.mem_singleton] at hy
                  subst hy
                  have := HMO.out
                  omega)
              have HIC := Aside0.mk (fun A' c' W' (h5 : NowR W' A' c' (nn ++ [x])) => HI.out A' c' (nn ++ [x]) W' h5 (by rw [List.length_append, List.length_singleton, HML.out.1]) HXB.out)
              have hoff : (ssSub n most l (nn ++ [x])).2 = false → ssTry most (ssSub n most l) nn (x :: Q.drop (i + 1)) = ssTry most (ssSub n most l) nn (Q.drop (i + 1)) := fun h5 => ssTry_off h5
              have hon : (ssSub n most l (nn ++ [x])).2 = true → ssTry most (ssSub n most l) nn (x :: Q.drop (i + 1)) = ((ssSub n most l (nn ++ [x])).1, true) := fun h5 => ssTry_yes hyes h5
              obtain ⟨p, hp⟩ : ∃ p, ssSub n most l (nn ++ [x]) = p := ⟨_, rfl⟩
              rw [hp] at HIC hoff hon
              rw [List.length_append, List.length_singleton] at HIC
              obtain ⟨p1, p2⟩ := p
              have HOFF := Aside0.mk hoff
              have HON := Aside0.mk hon
              have HT := Aside0.mk ht
              clear ht hcon hix hyes hp hoff hon
              have HLN := Aside0.mk (show nn.length ≤ 100 by have := HML.out; omega)
              go_wp2_with (first
                | (go_at_call 146; refine (HIN.out _).mono ?_; rintro e w3 ⟨rfl, hb_⟩; have HB2 := Aside0.mk (HB.out.trans (hb_.mono HB.out.size)); have HO2 := Aside0.mk (pw_own_below HO.out hb_); clear hb_)
                | (go_at_call 176; refine (HCO.out _ HB2.out).mono ?_; rintro e w4 ⟨rfl, hw_⟩; obtain rfl := hw_.symm)
                | (go_at_call 231; refine (clip_in (some ad) c nn _ (now_below HN.out HB2.out) HLN.out).mono ?_; rintro e w4 ⟨rfl, hw_⟩; obtain rfl := hw_.symm)
                | (at_builtin; refine ss_hold ?_))
              unfold SsHold
              have hbl : Below w3.heap.size w3 (w3.alloc (.cells #[.int .i64 x] 3)) := below_alloc (Below.refl _ _) _
              have hnr2 := now_below HN.out (HB2.out.trans (hbl.mono HB2.out.size))
              have hnew := blk_new w3 (.cells #[.int .i64 x] 3)
              have HB3 := Aside0.mk (HB2.out.trans (hbl.mono HB2.out.size))
              have HO3 := Aside0.mk (pw_own_below HO2.out hbl)
              obtain ⟨q2, hq2⟩ : ∃ q2, w3.heap.size = q2 := ⟨_, rfl⟩
              rw [hq2] at hnew ⊢
              obtain ⟨w5, hw5⟩ : ∃ w5, w3.alloc (.cells #[.int .i64 x] 3) = w5 := ⟨_, rfl⟩
              rw [hw5] at HB3 HO3 hnr2 hnew ⊢
              clear hw5 hbl hq2
              have hln2 := HLN.out
              refine wpList_append_grows _ rfl (.tmp 79) (.tmp 81) 29 rfl 3 i0 (.int .i64 0) 1 8 Try.underlying29 hin hz0 hz1 hz2 rfl (by decide) (some ad) nn.length nn.length (nums .i64 nn) rfl (now_none hnr2) (by simp [nums]) (now_cells hnr2) ⟨q2, 0, none⟩ 1 1 [.int .i64 x] rfl rfl ?aC ?aO (by omega) (by simp only [maxLen]; omega) (by omega) ?_
              (case aC => intro j u hu; cases j with
                | zero => (have e_ := Option.some.inj hu); subst e_; exact (blk_cell hnew 0).trans rfl
                | succ j => simp at hu)
              (case aO => intro u hu; rw [List.mem_singleton] at hu; subst hu; rfl)
              intro v6 w6 ho6 hg6
              obtain ⟨A3, c3, e2, hn2⟩ := now_app ho6
              subst e2
              have hb6 := below_grown0 hg6
              have HB4 := Aside0.mk (HB3.out.trans (hb6.mono HB3.out.size))
              have HO4 := Aside0.mk (pw_own_below HO3.out hb6)
              have HC2 := Aside0.mk (HIC.out A3 c3 w6 hn2)
              clear hb6 hn2 ho6 hg6 hnr2 hnew hln2
              cases p2 with
              | true =>
                have hon := HON.out rfl
                go_wp2_with (go_at_call 179; refine HC2.out.mono ?_; rintro e w7 ⟨A7, c7, rfl, hn_, hb_⟩; have HN7 := Aside0.mk hn_; have HB7 := Aside0.mk (HB4.out.trans (hb_.mono HB4.out.size)); clear hn_ hb_)
                go_ret2
                rw [← HT.out, hon]
                exact ⟨A7, c7, rfl, HN7.out, HB7.out⟩
              | false =>
                have HT2 := Aside0.mk ((HOFF.out rfl).symm.trans HT.out)
                go_wp2_with (go_at_call 179; refine HC2.out.mono ?_; rintro e w7 ⟨A7, c7, rfl, hn_, hb_⟩; have HB7 := Aside0.mk (HB4.out.trans (hb_.mono HB4.out.size)); have HO7 := Aside0.mk (pw_own_below HO4.out hb_); clear hn_ hb_)
                go_roundw
                case rel => exact ⟨i + 1, by have := H8.out; go_num, HI3.out, HT2, HB7, HO7⟩
                case measure => (have := HI3.out); (have := H8.out); simp only [intOf]; go_num
          · have HIN := Aside0.mk (fun W1 => by have h5 := ss_in x 1 most W1; rw [decide_eq_false hix] at h5; exact h5)
            rw [ssTry_no (fun h => hix h.1)] at ht
            have HT := Aside0.mk ht
            clear ht hix
            go_wp2_with (go_at_call 146; refine (HIN.out _).mono ?_; rintro e w3 ⟨rfl, hb_⟩; have HB2 := Aside0.mk (HB.out.trans (hb_.mono HB.out.size)); have HO2 := Aside0.mk (pw_own_below HO.out hb_); clear hb_)
            go_roundw
            case rel => exact ⟨i + 1, by have := H8.out; go_num, HI3.out, HT, HB2, HO2⟩
            case measure => (have := HI3.out); (have := H8.out); simp only [intOf]; go_num
        · obtain rfl : i = Q.length := by omega
          have ht := HT.out
          rw [List.drop_length, ssTry] at ht
          have HT2 := Aside0.mk ht
          clear hlt2 hi ht HT
          go_wp2
          go_ret2
          rw [← HT2.out]
          exact ⟨none, 0, rfl, Or.inl ⟨rfl, rfl, rfl⟩, HB.out⟩
theorem ss_all (n most long : Int) (hmost : most ≤ 64) : ∀ (l : Nat) (A : Option Addr) (c m : Nat) (nn : List Int) (W : World), NowR W A c nn → nn.length = m + 1 → m + l ≤ 6 → long = (nn.length : Int) + (l : Int) → (∀ x ∈ nn, 1 ≤ x ∧ x ≤ 64) →
    Calls Try.prog 179 #[.int .i64 n, .int .i64 most, .int .i64 long, .slice A nn.length c] W (SsPost W (ssSub n most l nn)) := by
  intro l
  induction l with
  | zero =>
    intro A c m nn W h hm hml hlong hb
    have e : long = (nn.length : Int) := by omega
    subst e
    exact ss_leaf n most A c m nn W h hm (by omega)
  | succ l ih =>
    intro A c m nn W h hm hml hlong hb
    by_cases hc : Lib.maxOf nn * 2 ^ (l + 1) < n
    · exact ss_cut n most l long A c m nn W h hm hml hlong hb hc
    · exact ss_node n most l long A c m nn W h hm hml hlong hb hmost hc (fun A' c' nn' W' h5 h6 h7 => ih A' c' (m + 1) nn' W' h5 h6 (by omega) (by omega) h7)
theorem ss_up {l : Nat} (h : l < 7) : wrap64 ((l : Int) + 1 + 1) = (l : Int) + 2 := by unfold wrap64; omega
theorem ss_meas {l : Nat} (h : l < 7) : (9 - intOf (.int .i64 (wrap64 ((l : Int) + 1 + 1)))).toNat < (9 - intOf (.int .i64 ((l : Int) + 1))).toNat := by
  rw [ss_up h]
  show (9 - ((l : Int) + 2)).toNat < (9 - ((l : Int) + 1)).toNat
  omega
theorem ss_one (W : World) : NowR (W.alloc (.cells #[.int .i64 1] 3)) (some ⟨W.heap.size, 0, none⟩) 1 [1] := Or.inr ⟨by simp, Go.Proofs.YtlmoemahamneoaaW.PrintWords.own_lit W 0 3 .i64 [1] (Nat.zero_le _) (by simp)⟩
set_option maxHeartbeats 2000000 in
theorem ss_yes (a0 a1 : Int) (w : World) (h1 : 1 ≤ a0 ∧ a0 ≤ 40) (h2 : a0 ≤ a1 ∧ a1 ≤ 64) :
    Calls Try.prog 83 #[.int .i64 a0, .int .i64 a1] w fun e w' => ∃ v0_ : Value, e = .returned (.tuple #[v0_, .bool (ssFind a0 a1 7 0).2]) ∧ Kd.R (Kd.int .i64) 3 w' w.heap.size (fun _ => True) v0_ (ssFind a0 a1 7 0).1 ∧ Below w.heap.size w w' := by
  have hd1 : decide (1 ≤ a0 ∧ a0 ≤ 40) = true := decide_eq_true h1
  have hd2 : decide (a0 ≤ a1 ∧ a1 ≤ 64) = true := decide_eq_true h2
  obtain ⟨R, hR⟩ : ∃ R, ssFind a0 a1 7 0 = R := ⟨_, rfl⟩
  have HR := Aside0.mk hR
  have HM := Aside0.mk h2.2
  rw [hR]
  clear h1 h2 hR
  go_enter Try.func83, Try.ntmps83
  have HB0 := Aside0.mk (Below.refl w.heap.size w)
  go_wp2_with (go_at_call 146; refine (ss_in _ _ _ _).mono ?_; rintro e w1 ⟨rfl, hb_⟩; have HB0 := Aside0.mk (HB0.out.trans (hb_.mono HB0.out.size)); clear hb_)
  clear hd1 hd2
  go_loopw [6] (fun d wr => ∃ l : Nat, l ≤ 7 ∧ d = .int .i64 ((l : Int) + 1) ∧ Aside0 (ssFind a0 a1 (7 - l) l = R) ∧ Aside0 (Below w.heap.size w wr)) (fun d _ => (9 - intOf d).toNat)
  case atStart => exact ⟨0, by omega, rfl, HR, HB0⟩
  case round =>
    clear HB0 HR
    obtain ⟨l, hl, rfl, HR, HB⟩ := hrel
    by_cases hlt : l < 7
    · have hd : decide ((l : Int) + 1 ≤ 7) = true := decide_eq_true (by omega)
      have hc := ss_all a0 a1 ((l : Int) + 1) HM.out l (some ⟨wr.heap.size, 0, none⟩) 1 0 [1] (wr.alloc (.cells #[.int .i64 1] 3)) (ss_one wr) rfl (by omega) (by rw [List.length_singleton]; omega) (by intro x hx; rw [List.mem_singleton] at hx; omega)
      rw [List.length_singleton] at hc
      have hr := HR.out
      rw [show 7 - l = (7 - (l + 1)) + 1 by omega, ssFind] at hr
      have hln := ssSub_len a0 a1 l [1]
      obtain ⟨p, hp⟩ : ∃ p, ssSub a0 a1 l [1] = p := ⟨_, rfl⟩
      rw [hp] at hc hr hln
      obtain ⟨p1, p2⟩ := p
      have HC := Aside0.mk hc
      have HLN := Aside0.mk (show p1.length ≤ 100 by rw [List.length_singleton] at hln; dsimp only at hln; omega)
      have HL := Aside0.mk hlt
      have HBA := Aside0.mk (below_alloc HB.out (.cells #[.int .i64 1] 3))
      clear hc hp hln hlt hl HR
      cases p2 with
      | true =>
        rw [if_pos rfl] at hr
        have HR2 := Aside0.mk hr
        clear hr
        go_wp2_with (first
          | (go_at_call 179; refine HC.out.mono ?_; rintro e w7 ⟨A7, c7, rfl, hn_, hb_⟩; have HN7 := Aside0.mk hn_; have HB7 := Aside0.mk (HBA.out.trans (hb_.mono HBA.out.size)); clear hn_ hb_)
          | (go_at_call 132; refine (clone_in A7 c7 p1 _ HN7.out HLN.out).mono ?_; rintro e w8 ⟨v8, rfl, hr_, hb_⟩; have HR8 := Aside0.mk (Kd.R_lower hr_ HB7.out.size); have HB8 := Aside0.mk (HB7.out.trans (hb_.mono HB7.out.size)); clear hr_ hb_))
        go_ret2
        rw [← HR2.out]
        exact ⟨v8, rfl, HR8.out, HB8.out⟩
      | false =>
        rw [if_neg (by simp)] at hr
        have HR2 := Aside0.mk hr
        clear hr
        go_wp2_with (go_at_call 179; refine HC.out.mono ?_; rintro e w7 ⟨A7, c7, rfl, hn_, hb_⟩; have HN7 := Aside0.mk hn_; have HB7 := Aside0.mk (HBA.out.trans (hb_.mono HBA.out.size)); clear hn_ hb_)
        go_roundw
        case rel => exact ⟨l + 1, HL.out, by rw [ss_up HL.out, show (((l + 1 : Nat) : Int) + 1) = (l : Int) + 2 by omega], HR2, HB7⟩
        case measure => exact ss_meas HL.out
    · obtain rfl : l = 7 := by omega
      have hr := HR.out
      rw [show 7 - 7 = 0 from rfl, ssFind] at hr
      have HR2 := Aside0.mk hr
      clear hr HR hlt hl
      go_wp2
      go_ret2
      rw [← HR2.out]
      exact ⟨_, rfl, Kd.R_nil _ _ _ _ _, HB.out⟩
set_option maxHeartbeats 2000000 in
theorem ss_no (a0 a1 : Int) (w : World) (h : ¬ ((1 ≤ a0 ∧ a0 ≤ 40) ∧ a0 ≤ a1 ∧ a1 ≤ 64)) :
    Calls Try.prog 83 #[.int .i64 a0, .int .i64 a1] w fun e w' => ∃ v0_ : Value, e = .returned (.tuple #[v0_, .bool false]) ∧ Kd.R (Kd.int .i64) 3 w' w.heap.size (fun _ => True) v0_ [] ∧ Below w.heap.size w w' := by
  have HB0 := Aside0.mk (Below.refl w.heap.size w)
  by_cases h1 : 1 ≤ a0 ∧ a0 ≤ 40
  · have h2 : ¬ (a0 ≤ a1 ∧ a1 ≤ 64) := fun h2 => h ⟨h1, h2⟩
    have hd1 : decide (1 ≤ a0 ∧ a0 ≤ 40) = true := decide_eq_true h1
    have hd2 : decide (a0 ≤ a1 ∧ a1 ≤ 64) = false := decide_eq_false h2
    clear h1 h2 h
    go_enter Try.func83, Try.ntmps83
    go_wp2_with (go_at_call 146; refine (ss_in _ _ _ _).mono ?_; rintro e w1 ⟨rfl, hb_⟩; have HB0 := Aside0.mk (HB0.out.trans (hb_.mono HB0.out.size)); clear hb_)
    go_ret2
    exact ⟨_, rfl, Kd.R_nil _ _ _ _ _, HB0.out⟩
  · have HI1 := Aside0.mk (fun W1 => by have h5 := ss_in a0 1 40 W1; rw [decide_eq_false h1] at h5; exact h5)
    clear h1 h
    go_enter Try.func83, Try.ntmps83
    go_wp2_with (go_at_call 146; refine (HI1.out _).mono ?_; rintro e w1 ⟨rfl, hb_⟩; have HB1 := Aside0.mk (HB0.out.trans (hb_.mono HB0.out.size)); clear hb_)
    go_ret2
    exact ⟨_, rfl, Kd.R_nil _ _ _ _ _, HB1.out⟩
end
theorem impl_ShortestSubtraction.calls (a0 : Int) (a1 : Int) (r1 : List Int) (r2 : Bool) (w : World) (h : impl_ShortestSubtraction.f a0 a1 = some (r1, r2)) :
    Calls Try.prog 83 #[.int .i64 a0, .int .i64 a1] w fun e w' => ∃ v0_ : Value, e = .returned (.tuple #[v0_, .bool r2]) ∧ Kd.R (Kd.int .i64) 3 w' w.heap.size (fun _ => True) v0_ r1 ∧ Below w.heap.size w w' := by
  unfold impl_ShortestSubtraction.f at h
  by_cases hy : (1 ≤ a0 ∧ a0 ≤ 40) ∧ a0 ≤ a1 ∧ a1 ≤ 64
  · rw [if_pos hy] at h
    have h := Option.some.inj h
    have h5 := ss_yes a0 a1 w hy.1 hy.2
    rw [h] at h5
    exact h5
  · rw [if_neg hy] at h
    simp only [Option.some.injEq, Prod.mk.injEq] at h
    obtain ⟨rfl, rfl⟩ := h
    exact ss_no a0 a1 w hy

/-! ### impl_isShort: function 180 -/
def impl_isShort.f (a0 : Int) : Option (Bool) := (impl_in.f a0 1 100).bind fun t246 => (some t246)
set_option maxHeartbeats 8000000 in
set_option maxRecDepth 100000 in
theorem impl_isShort.calls (a0 : Int) (r : Bool) (w : World) (h : impl_isShort.f a0 = some r) :
    Calls Try.prog 180 #[.int .i64 a0] w fun e w' => e = .returned (.bool r) ∧ Drawn0 w w' := by
  have H : ((impl_in.f a0 1 100).bind fun t246 => (some t246)) = some r := h
  clear h
  replace H := Option.bind_eq_some_iff.mp H
  obtain ⟨t246, A20, H⟩ := H
  replace H : (some t246) = some r := H
  have A2 := Aside0.mk A20
  clear A20
  obtain rfl := Option.some.inj H
  go_enter Try.func180, Try.ntmps180
  go_wp2_with (first | ((with_reducible refine gate_callee (f := 146) rfl ?_); refine goesL_ (some 4) rfl rfl Try.func146 (by kernel_rfl) rfl #[.int .i64 a0, .int .i64 1, .int .i64 100] rfl (by (try simp only [List.map_toArray, List.map_cons, List.map_nil]); first | done | rfl | (simp only [List.length_drop, List.length_take]; rfl)) ?_; (with_reducible refine (impl_in.calls a0 1 100 t246 _ A2.out).mono ?_); rintro e w' ⟨rfl, ⟨nd, rfl⟩⟩; refine ⟨_, rfl, ?_⟩))
  go_ret
  exact ⟨by first | rfl | (simp; done) | (simp [*]; done), by repeat (first | exact Drawn0.refl _ | apply Drawn0.step)⟩

end Go.Proofs.Ytlmoemahamneoaa.PFnSubtractionChains
