-- Written by gprint.py, a program of this session, out of the translation (a changed print).
import Derived.Test.YtlmoemahamneoaaPFnSubtractionChainsx0
import Derived.Test.YtlmoemahamneoaaPFnSubtractionChainsx1
import Derived.Test.YtlmoemahamneoaaPFnSubtractionChainsx5
namespace Go.Proofs.Ytlmoemahamneoaa.PFnSubtractionChains
open Go.RowKit Go.Proofs.YtlmoemahamneoaaW.PrintWords Go.Proofs.YtlmoemahamneoaaW.PrintLast Go.Proofs.YtlmoemahamneoaaW.PrintMore
attribute [local go_sem] max2_int min2_int max_two min_two max_three min_three max_four min_four   -- for this text's walks alone
set_option linter.unusedVariables false
set_option linter.unusedSimpArgs false

/-! ### impl_StarLength: function 84 -/
/-- The first number of a list that, added to its last one, goes on it to the end that is sought. -/
def stTry (f : List Int → Option (List Int)) (last : Int) (nn : List Int) : List Int → Option (List Int)
  | [] => none
  | a :: r => match f (nn ++ [last + a]) with
    | some x => some x
    | none => stTry f last nn r
def stStar (n : Int) : Nat → List Int → Option (List Int)
  | 0, nn => if ssLast nn = n then some nn else none
  | l + 1, nn => if n ≤ ssLast nn ∨ ssLast nn * 2 ^ (l + 1) < n then none else stTry (stStar n l) (ssLast nn) nn nn
def stFind (n : Int) : Nat → Nat → Option (List Int)
  | 0, _ => none
  | k + 1, l => match stStar n l [1] with
    | some x => some x
    | none => stFind n k (l + 1)
def impl_StarLength.f (a0 : Int) : Option (Int × Bool) := if 1 ≤ a0 ∧ a0 ≤ 100 then (stFind a0 10 0).bind fun L => some ((L.length : Int) - 1, true) else some (0, false)
theorem stTry_len (f : List Int → Option (List Int)) (last : Int) (nn : List Int) (m : Nat) (h : ∀ x y, f (nn ++ [x]) = some y → y.length = m) : ∀ xs y, stTry f last nn xs = some y → y.length = m
  | [], y, e => by rw [stTry] at e; cases e
  | a :: r, y, e => by
    rw [stTry] at e
    cases hf : f (nn ++ [last + a]) with
    | some x => rw [hf] at e; rw [← Option.some.inj e]; exact h _ _ hf
    | none => rw [hf] at e; exact stTry_len f last nn m h r y e
theorem stStar_len (n : Int) : ∀ (l : Nat) (nn y : List Int), stStar n l nn = some y → y.length = nn.length + l
  | 0, nn, y, e => by
    rw [stStar] at e
    by_cases h : ssLast nn = n
    · rw [if_pos h] at e; rw [← Option.some.inj e]; rfl
    · rw [if_neg h] at e; cases e
  | l + 1, nn, y, e => by
    rw [stStar] at e
    by_cases h : n ≤ ssLast nn ∨ ssLast nn * 2 ^ (l + 1) < n
    · rw [if_pos h] at e; cases e
    · rw [if_neg h] at e
      refine stTry_len _ _ nn _ (fun x y h2 => ?_) nn y e
      rw [stStar_len n l _ y h2, List.length_append, List.length_singleton]; omega
theorem stFind_len (n : Int) : ∀ (k l : Nat) (y : List Int), stFind n k l = some y → 1 ≤ y.length ∧ y.length ≤ l + k
  | 0, _, y, e => by rw [stFind] at e; cases e
  | k + 1, l, y, e => by
    rw [stFind] at e
    cases hf : stStar n l [1] with
    | some x =>
      rw [hf] at e
      have := stStar_len n l [1] x hf
      rw [← Option.some.inj e, this, List.length_singleton]; omega
    | none =>
      rw [hf] at e
      have := stFind_len n k (l + 1) y e
      omega
abbrev stDo (B : Nat) : Value := .func (.func 247) #[] #[.pointer (some ⟨B, 0, none⟩)]
/-- The box that the search writes to, at a world behind another one. -/
def StBox (B : Nat) (w0 W : World) : Prop := (∃ v, W.heap[B]? = some (.cells #[v] 29 (0, 0))) ∧ Below w0.heap.size w0 W ∧ w0.heap.size ≤ B
def StPost (B : Nat) (w0 W : World) : Option (List Int) → Ending → World → Prop
  | none, e, W1 => e = .returned (.bool false) ∧ Below W.heap.size W W1
  | some L, e, W1 => e = .returned (.bool true) ∧ Below w0.heap.size w0 W1 ∧ ∃ A c, W1.heap[B]? = some (.cells #[.slice A L.length c] 29 (0, 0))
theorem stb_below {B : Nat} {w0 W W1 : World} (h : StBox B w0 W) (hb : Below W.heap.size W W1) : StBox B w0 W1 := by
  obtain ⟨⟨v, hv⟩, h2, h3⟩ := h
  exact ⟨⟨v, blk_below hv hb⟩, h2.trans (hb.mono h2.size), h3⟩
section
set_option maxRecDepth 100000
set_option maxHeartbeats 1000000 in
theorem std_in (B : Nat) (w0 : World) (A : Option Addr) (c : Nat) (nn : List Int) (W : World) (h : NowR W A c nn) (hl : nn.length ≤ 100) (hs : StBox B w0 W) :
    Calls Try.prog 247 #[.slice A nn.length c, .pointer (some ⟨B, 0, none⟩)] W (StPost B w0 W (some nn)) := by
  have HN := Aside0.mk (fun W1 (hb : Below W.heap.size W W1) => clone_in A c nn W1 (now_below h hb) hl)
  have HS := Aside0.mk hs
  obtain ⟨⟨v, hv⟩, hb, hge⟩ := hs
  have hcell : W.cell? ⟨B, 0, none⟩ = some v := (blk_cell hv 0).trans rfl
  clear h hb hge hv
  go_enter Try.func247, Try.ntmps247
  go_wp2_with (go_at_call 132; refine (HN.out _ (by first | exact Below.refl _ _ | exact below_drew1 (Below.refl _ _) | exact pw_below_drewN (Below.refl _ _) _)).mono ?_; rintro e w1 ⟨v1, rfl, hr_, hb_⟩; have HS1 := Aside0.mk (stb_below HS.out hb_); obtain ⟨A1, c1, rfl⟩ := Kd.R_slice hr_; obtain ⟨⟨v2, hv2⟩, hb2, hge2⟩ := HS1.out; have hcl2 : w1.cell? ⟨B, 0, none⟩ = some v2 := (blk_cell hv2 0).trans rfl; have hfz2 := blk_frozen hv2 0; have HV := Aside0.mk hv2; have HB := Aside0.mk hb2; have HG := Aside0.mk hge2; clear hr_ hb_ hv2 hb2 hge2)
  go_ret
  exact ⟨rfl, below_set HB.out HG.out, A1, c1, blk_put HV.out 0 _ rfl⟩
theorem st_shl {m l : Int} {k : Nat} (hl : l = (k : Int)) (h1 : 1 ≤ m) (h2 : m ≤ 1024) (hk : k ≤ 10) : IntKind.i64.wrap (m * 2 ^ l.toNat) = m * 2 ^ k ∧ wrap64 (m * 2 ^ k) = m * 2 ^ k := by
  subst hl
  rw [Int.toNat_natCast]
  rcases (by omega : k = 0 ∨ k = 1 ∨ k = 2 ∨ k = 3 ∨ k = 4 ∨ k = 5 ∨ k = 6 ∨ k = 7 ∨ k = 8 ∨ k = 9 ∨ k = 10) with rfl | rfl | rfl | rfl | rfl | rfl | rfl | rfl | rfl | rfl | rfl <;> (simp only [IntKind.wrap, IntKind.bits, IntKind.signed, wrap64]; constructor <;> simp <;> omega)
theorem st_pow {m : Nat} (h : m ≤ 10) : (2 : Int) ^ m ≤ 1024 := by
  rcases (by omega : m = 0 ∨ m = 1 ∨ m = 2 ∨ m = 3 ∨ m = 4 ∨ m = 5 ∨ m = 6 ∨ m = 7 ∨ m = 8 ∨ m = 9 ∨ m = 10) with rfl | rfl | rfl | rfl | rfl | rfl | rfl | rfl | rfl | rfl | rfl <;> decide
set_option maxHeartbeats 1000000 in
theorem st_leaf (B : Nat) (w0 : World) (n len : Int) (A : Option Addr) (c m : Nat) (nn : List Int) (W : World) (h : NowR W A c nn) (hm : nn.length = m + 1) (hl : m ≤ 10) (hlen : len = (m : Int)) (hs : StBox B w0 W) :
    Calls Try.prog 246 #[.int .i64 n, .int .i64 len, .slice A nn.length c, stDo B] W (StPost B w0 W (stStar n 0 nn)) := by
  obtain ⟨ad, e, hcell⟩ := Kd.at_int (now_C h).1 (m : Int) (by omega) (by omega)
  rw [Int.toNat_natCast] at hcell
  subst e
  have hw1 : wrap64 ((nn.length : Int) - 1) = (m : Int) := by rw [hm]; unfold wrap64; omega
  have hw2 : wrap64 (len - (nn.length : Int)) = -1 := by rw [hlen, hm]; unfold wrap64; omega
  have hw3 : wrap64 ((-1 : Int) + 1) = 0 := by unfold wrap64; omega
  have hlt : m < nn.length := by omega
  have HD := Aside0.mk (std_in B w0 (some ad) c nn W h (by omega) hs)
  have hS : stStar n 0 nn = if rd nn (m : Int) = n then some nn else none := by rw [stStar]; unfold ssLast; rw [hm, show ((m + 1 : Nat) : Int) - 1 = (m : Int) by omega]
  rw [hS]
  clear h hS hm hlen hs
  by_cases hy : rd nn (m : Int) = n
  · have hb : (rd nn (m : Int) == n) = true := beq_iff_eq.mpr hy
    rw [if_pos hy]
    clear hy
    go_enter Try.func246, Try.ntmps246
    go_wp2_with (go_at_call 247; refine HD.out.mono ?_; rintro e w1 ⟨rfl, hb_, hx_⟩; have HB := Aside0.mk hb_; have HX := Aside0.mk hx_; clear hb_ hx_)
    go_ret
    exact ⟨rfl, HB.out, HX.out⟩
  · have hb : (rd nn (m : Int) == n) = false := beq_eq_false_iff_ne.mpr hy
    rw [if_neg hy]
    clear hy
    go_enter Try.func246, Try.ntmps246
    go_wp2
    go_ret
    exact ⟨rfl, Below.refl _ _⟩
set_option maxHeartbeats 1000000 in
theorem st_cut (B : Nat) (w0 : World) (n : Int) (l : Nat) (len : Int) (A : Option Addr) (c m : Nat) (nn : List Int) (W : World) (h : NowR W A c nn) (hm : nn.length = m + 1) (hml : m + (l + 1) ≤ 10) (hlen : len = (m : Int) + ((l + 1 : Nat) : Int)) (hb : ∀ x ∈ nn, 1 ≤ x ∧ x ≤ 2 ^ m) (hc : n ≤ ssLast nn ∨ ssLast nn * 2 ^ (l + 1) < n) :
    Calls Try.prog 246 #[.int .i64 n, .int .i64 len, .slice A nn.length c, stDo B] W (StPost B w0 W none) := by
  obtain ⟨ad, e, hcell⟩ := Kd.at_int (now_C h).1 (m : Int) (by omega) (by omega)
  rw [Int.toNat_natCast] at hcell
  subst e
  obtain ⟨k, hk⟩ : ∃ k : Int, k = ((l + 1 : Nat) : Int) := ⟨_, rfl⟩
  have hw1 : wrap64 ((nn.length : Int) - 1) = (m : Int) := by rw [hm]; unfold wrap64; omega
  have hw2 : wrap64 (len - (nn.length : Int)) = (l : Int) := by rw [hlen, hm]; unfold wrap64; omega
  have hw3 : wrap64 ((l : Int) + 1) = k := by rw [hk]; unfold wrap64; omega
  have hk0 : (k == 0) = false := beq_eq_false_iff_ne.mpr (by omega)
  have hk1 : k ≤ 64 := by omega
  have hk2 : 0 ≤ k := by omega
  have hlt : m < nn.length := by omega
  have hla : ssLast nn = rd nn (m : Int) := by unfold ssLast; rw [hm, show ((m + 1 : Nat) : Int) - 1 = (m : Int) by omega]
  rw [hla] at hc
  have hr := ss_rd hb (show m < nn.length by omega)
  have hp := st_pow (show m ≤ 10 by omega)
  obtain ⟨last, hlast⟩ : ∃ last, rd nn (m : Int) = last := ⟨_, rfl⟩
  rw [hlast] at hcell hc hr
  have hs := st_shl hk hr.1 (by omega) (by omega)
  clear hla hlast hr hp hlen hb hml hm h hk
  by_cases h1 : n ≤ last
  · have hd1 : decide (n ≤ last) = true := decide_eq_true h1
    clear h1 hc
    go_enter Try.func246, Try.ntmps246
    go_wp2
    go_ret
    exact ⟨rfl, Below.refl _ _⟩
  · have hd1 : decide (n ≤ last) = false := decide_eq_false h1
    have hd2 : decide (last * 2 ^ (l + 1) < n) = true := decide_eq_true (hc.resolve_left h1)
    clear h1 hc
    go_enter Try.func246, Try.ntmps246
    go_wp2
    go_ret
    exact ⟨rfl, Below.refl _ _⟩
theorem st_wrap {last x : Int} {m : Nat} (h : 1 ≤ last ∧ last ≤ 2 ^ m ∧ (2 : Int) ^ m ≤ 1024) (hx : 1 ≤ x ∧ x ≤ 2 ^ m) : wrap64 (last + x) = last + x := by
  obtain ⟨q, hq⟩ : ∃ q : Int, 2 ^ m = q := ⟨_, rfl⟩
  rw [hq] at h hx
  unfold wrap64; omega
theorem st_up {last x : Int} {m : Nat} {nn : List Int} (h : 1 ≤ last ∧ last ≤ 2 ^ m ∧ (2 : Int) ^ m ≤ 1024) (hb : ∀ y ∈ nn, 1 ≤ y ∧ y ≤ 2 ^ m) (hx : 1 ≤ x ∧ x ≤ 2 ^ m) : ∀ y ∈ nn ++ [last + x], 1 ≤ y ∧ y ≤ 2 ^ (m + 1) := by
  intro y hy
  rw [Int.pow_succ]
  obtain ⟨q, hq⟩ : ∃ q : Int, 2 ^ m = q := ⟨_, rfl⟩
  rw [hq] at h hx ⊢
  rcases List.mem_append.1 hy with hy | hy
  · have := hb y hy
    rw [hq] at this
    omega
  · rw [List.mem_singleton] at hy
    omega
theorem st_meas2 {i L : Nat} (h : i < L) : L - (intOf (.int .i64 ((i : Int) + 1))).toNat < L - (intOf (.int .i64 (i : Int))).toNat := by
  show L - ((i : Int) + 1).toNat < L - ((i : Int)).toNat
  omega
theorem st_meas {i L : Nat} (h : i < L) (h8 : (i : Int) + 1 ≤ 15) : L - (intOf (.int .i64 (wrap64 ((i : Int) + 1)))).toNat < L - (intOf (.int .i64 (i : Int))).toNat := by
  have e : wrap64 ((i : Int) + 1) = ((i + 1 : Nat) : Int) := by unfold wrap64; omega
  rw [e]
  show L - (((i + 1 : Nat) : Int)).toNat < L - ((i : Int)).toNat
  rw [Int.toNat_natCast, Int.toNat_natCast]
  omega
set_option maxHeartbeats 4000000 in
theorem st_node (B : Nat) (w0 : World) (n : Int) (l : Nat) (len : Int) (A : Option Addr) (c m : Nat) (nn : List Int) (W : World) (h : NowR W A c nn) (hm : nn.length = m + 1) (hml : m + (l + 1) ≤ 10) (hlen : len = (m : Int) + ((l + 1 : Nat) : Int)) (hb : ∀ x ∈ nn, 1 ≤ x ∧ x ≤ 2 ^ m) (hc : ¬ (n ≤ ssLast nn ∨ ssLast nn * 2 ^ (l + 1) < n)) (hs0 : StBox B w0 W)
    (IH : ∀ (A' : Option Addr) (c' : Nat) (nn' : List Int) (W' : World), NowR W' A' c' nn' → nn'.length = m + 1 + 1 → (∀ x ∈ nn', 1 ≤ x ∧ x ≤ 2 ^ (m + 1)) → StBox B w0 W' → Calls Try.prog 246 #[.int .i64 n, .int .i64 len, .slice A' nn'.length c', stDo B] W' (StPost B w0 W' (stStar n l nn'))) :
    Calls Try.prog 246 #[.int .i64 n, .int .i64 len, .slice A nn.length c, stDo B] W (StPost B w0 W (stTry (stStar n l) (ssLast nn) nn nn)) := by
  have HC := Aside0.mk hc
  clear hc
  obtain ⟨i0, hin, hz0, hz1, hz2⟩ := info_parts ex_int
  obtain ⟨ad, e, hcell⟩ := Kd.at_int (now_C h).1 (m : Int) (by omega) (by omega)
  rw [Int.toNat_natCast] at hcell
  subst e
  obtain ⟨k, hk⟩ : ∃ k : Int, k = ((l + 1 : Nat) : Int) := ⟨_, rfl⟩
  have hw1 : wrap64 ((nn.length : Int) - 1) = (m : Int) := by rw [hm]; unfold wrap64; omega
  have hw2 : wrap64 (len - (nn.length : Int)) = (l : Int) := by rw [hlen, hm]; unfold wrap64; omega
  have hw3 : wrap64 ((l : Int) + 1) = k := by rw [hk]; unfold wrap64; omega
  have hk0 : (k == 0) = false := beq_eq_false_iff_ne.mpr (by omega)
  have hk1 : k ≤ 64 := by omega
  have hk2 : 0 ≤ k := by omega
  have hlt : m < nn.length := by omega
  have hla : ssLast nn = rd nn (m : Int) := by unfold ssLast; rw [hm, show ((m + 1 : Nat) : Int) - 1 = (m : Int) by omega]
  rw [hla] at HC ⊢
  have hr := ss_rd hb (show m < nn.length by omega)
  have hp := st_pow (show m ≤ 10 by omega)
  obtain ⟨last, hlast⟩ : ∃ last, rd nn (m : Int) = last := ⟨_, rfl⟩
  rw [hlast] at hcell HC hr ⊢
  have hs := st_shl hk hr.1 (by omega) (by omega)
  have hd1 : decide (n ≤ last) = false := decide_eq_false (fun h => HC.out (.inl h))
  have hd2 : decide (last * 2 ^ (l + 1) < n) = false := decide_eq_false (fun h => HC.out (.inr h))
  have HLB := Aside0.mk (show 1 ≤ last ∧ last ≤ 2 ^ m ∧ (2 : Int) ^ m ≤ 1024 from ⟨hr.1, hr.2, hp⟩)
  have HN := Aside0.mk h
  have HBD := Aside0.mk hb
  have HML := Aside0.mk (And.intro hm hml)
  have HI := Aside0.mk IH
  have HSB := Aside0.mk hs0
  clear h hm hlen hb HC hk hml hlast IH hla hr hp hs0
  go_enter Try.func246, Try.ntmps246
  go_wp2
  have HB0 := Aside0.mk (Below.refl W.heap.size W)
  have hl9 : nn.length ≤ 9223372036854775807 := by have := HML.out; omega
  clear hs hd1 hd2 hk0 hk1 hk2 hw1 hw2 hw3
  go_loopw [48] (fun s wr => ∃ i : Nat, s = .int .i64 (i : Int) ∧ i ≤ nn.length ∧ Aside0 (stTry (stStar n l) last nn (nn.drop i) = stTry (stStar n l) last nn nn) ∧ Aside0 (Below W.heap.size W wr)) (fun s _ => nn.length - (intOf s).toNat)
  case atStart => exact ⟨0, rfl, Nat.zero_le _, ⟨rfl⟩, HB0⟩
  case round =>
    clear HB0
    obtain ⟨i, rfl, hi, HT, HB⟩ := hrel
    by_cases hlt2 : i < nn.length
    · have hltz : (i : Int) < (nn.length : Int) := by omega
      obtain ⟨ad', e', hcell2⟩ := Kd.at_int (now_C (now_below HN.out HB.out)).1 (i : Int) (by omega) hltz
      cases e'
      rw [Int.toNat_natCast] at hcell2
      obtain ⟨x, hx⟩ : ∃ x, rd nn (i : Int) = x := ⟨_, rfl⟩
      have hdr : nn.drop i = x :: nn.drop (i + 1) := by
        rw [List.drop_eq_getElem_cons hlt2, ← hx]
        unfold rd
        rw [Int.toNat_natCast, List.getD_eq_getElem?_getD, List.getElem?_eq_getElem hlt2]
        rfl
      have hxb := ss_rd HBD.out hlt2
      rw [hx] at hcell2 hxb
      have ht := HT.out
      rw [hdr, stTry] at ht
      have hxl := HLB.out
      have e1 : wrap64 (last + x) = last + x := st_wrap hxl hxb
      have HXB := Aside0.mk (st_up hxl HBD.out hxb)
      have HI3 := Aside0.mk hlt2
      have H8 := Aside0.mk (show (i : Int) + 1 ≤ 15 by have := HML.out; omega)
      have HIC := Aside0.mk (fun A' c' W' (h5 : NowR W' A' c' (nn ++ [last + x])) (h6 : StBox B w0 W') => HI.out A' c' (nn ++ [last + x]) W' h5 (by rw [List.length_append, List.length_singleton, HML.out.1]) HXB.out h6)
      obtain ⟨p, hp⟩ : ∃ p, stStar n l (nn ++ [last + x]) = p := ⟨_, rfl⟩
      rw [hp] at HIC ht
      rw [List.length_append, List.length_singleton] at HIC
      have HTT := Aside0.mk ht
      have HLN := Aside0.mk (show nn.length ≤ 100 by have := HML.out; omega)
      clear hdr hx HT hi hlt2 ht hxb hxl hp
      go_wp2_with (first
        | (go_at_call 231; refine (clip_in (some ad) c nn _ (now_below HN.out HB.out) HLN.out).mono ?_; rintro e w4 ⟨rfl, hw_⟩; obtain rfl := hw_.symm)
        | (at_builtin; refine ss_hold ?_))
      unfold SsHold
      have hbl : Below wr.heap.size wr (wr.alloc (.cells #[.int .i64 (last + x)] 3)) := below_alloc (Below.refl _ _) _
      have hnr2 := now_below HN.out (HB.out.trans (hbl.mono HB.out.size))
      have hnew := blk_new wr (.cells #[.int .i64 (last + x)] 3)
      have HB3 := Aside0.mk (HB.out.trans (hbl.mono HB.out.size))
      obtain ⟨q2, hq2⟩ : ∃ q2, wr.heap.size = q2 := ⟨_, rfl⟩
      rw [hq2] at hnew ⊢
      obtain ⟨w5, hw5⟩ : ∃ w5, wr.alloc (.cells #[.int .i64 (last + x)] 3) = w5 := ⟨_, rfl⟩
      rw [hw5] at HB3 hnr2 hnew ⊢
      clear hw5 hbl hq2
      have hln2 := HLN.out
      refine wpList_append_grows _ rfl (.tmp 55) (.tmp 59) 29 rfl 3 i0 (.int .i64 0) 1 8 Try.underlying29 hin hz0 hz1 hz2 rfl (by decide) (some ad) nn.length nn.length (nums .i64 nn) rfl (now_none hnr2) (by simp [nums]) (now_cells hnr2) ⟨q2, 0, none⟩ 1 1 [.int .i64 (last + x)] rfl rfl ?aC ?aO (by omega) (by simp only [maxLen]; omega) (by omega) ?_
      (case aC => intro j u hu; cases j with
        | zero => (have e_ := Option.some.inj hu); subst e_; exact (blk_cell hnew 0).trans rfl
        | succ j => simp at hu)
      (case aO => intro u hu; rw [List.mem_singleton] at hu; subst hu; rfl)
      intro v6 w6 ho6 hg6
      obtain ⟨A3, c3, e2, hn2⟩ := now_app ho6
      subst e2
      have hb6 := below_grown0 hg6
      have HB4 := Aside0.mk (HB3.out.trans (hb6.mono HB3.out.size))
      have HC2 := Aside0.mk (HIC.out A3 c3 w6 hn2 (stb_below HSB.out HB4.out))
      clear hb6 hn2 ho6 hg6 hnr2 hnew hln2
      cases p with
      | some L =>
        have HON := Aside0.mk (show some L = stTry (stStar n l) last nn nn from HTT.out)
        clear HTT
        go_wp2_with (go_at_call 246; refine HC2.out.mono ?_; rintro e w7 ⟨rfl, hb_, hx_⟩; have HB7 := Aside0.mk hb_; have HX7 := Aside0.mk hx_; clear hb_ hx_)
        go_ret
        rw [← HON.out]
        exact ⟨rfl, HB7.out, HX7.out⟩
      | none =>
        have HT2 := Aside0.mk HTT.out
        clear HTT
        go_wp2_with (go_at_call 246; refine HC2.out.mono ?_; rintro e w7 ⟨rfl, hb_⟩; have HB7 := Aside0.mk (HB4.out.trans (hb_.mono HB4.out.size)); clear hb_)
        go_roundw
        case rel => exact ⟨i + 1, by have := H8.out; go_num, HI3.out, HT2, HB7⟩
        case measure => first | exact st_meas HI3.out H8.out | exact st_meas2 HI3.out
    · obtain rfl : i = nn.length := by omega
      have ht := HT.out
      rw [List.drop_length, stTry] at ht
      have HON := Aside0.mk ht
      clear hlt2 hi ht HT
      go_wp2
      go_ret
      rw [← HON.out]
      exact ⟨rfl, HB.out⟩
theorem st_all (B : Nat) (w0 : World) (n len : Int) : ∀ (l : Nat) (A : Option Addr) (c m : Nat) (nn : List Int) (W : World), NowR W A c nn → nn.length = m + 1 → m + l ≤ 10 → len = (m : Int) + (l : Int) → (∀ x ∈ nn, 1 ≤ x ∧ x ≤ 2 ^ m) → StBox B w0 W →
    Calls Try.prog 246 #[.int .i64 n, .int .i64 len, .slice A nn.length c, stDo B] W (StPost B w0 W (stStar n l nn)) := by
  intro l
  induction l with
  | zero =>
    intro A c m nn W h hm hml hlen hb hs
    exact st_leaf B w0 n len A c m nn W h hm (by omega) (by rw [hlen]; simp) hs
  | succ l ih =>
    intro A c m nn W h hm hml hlen hb hs
    by_cases hc : n ≤ ssLast nn ∨ ssLast nn * 2 ^ (l + 1) < n
    · rw [stStar, if_pos hc]
      exact st_cut B w0 n l len A c m nn W h hm hml hlen hb hc
    · rw [stStar, if_neg hc]
      exact st_node B w0 n l len A c m nn W h hm hml hlen hb hc hs (fun A' c' nn' W' h5 h6 h7 h8 => ih A' c' (m + 1) nn' W' h5 h6 (by rw [Nat.add_right_comm]; exact hml) (by rw [hlen]; simp only [Int.natCast_add]; ac_rfl) h7 h8)
def FsPost (r : Option (List Int)) (W : World) (e : Ending) (W' : World) : Prop := (match r with
  | some L => ∃ A c, e = .returned (.tuple #[.slice A L.length c, .bool true])
  | none => ∃ v, e = .returned (.tuple #[v, .bool false])) ∧ Below W.heap.size W W'
theorem fs_box (W : World) : StBox (W.heap.size + 1) W (((W.alloc (.cells #[] 3)).alloc (.cells #[.slice (some ⟨W.heap.size, 0, none⟩) 0 0] 29)).alloc (.cells #[.int .i64 1] 3)) := by
  have hx := blk_new (W.alloc (.cells #[] 3)) (.cells #[.slice (some ⟨W.heap.size, 0, none⟩) 0 0] 29)
  rw [World.size_alloc] at hx
  exact ⟨⟨_, blk_alloc hx _⟩, below_alloc (below_alloc (below_alloc (Below.refl _ _) _) _) _, Nat.le_succ _⟩
set_option maxHeartbeats 2000000 in
theorem fs_in (n : Int) (l : Nat) (hl : l ≤ 10) (W : World) :
    Calls Try.prog 232 #[.int .i64 n, .int .i64 (l : Int)] W (FsPost (stStar n l [1]) W) := by
  obtain ⟨r, hr⟩ : ∃ r, stStar n l [1] = r := ⟨_, rfl⟩
  have HA := Aside0.mk (fun (B : Nat) (W1 : World) (hs : StBox B W (W1.alloc (.cells #[.int .i64 1] 3))) => st_all B W n (l : Int) l (some ⟨W1.heap.size, 0, none⟩) 1 0 [1] (W1.alloc (.cells #[.int .i64 1] 3)) (ss_one W1) rfl (by omega) (by simp) (by intro x hx; rw [List.mem_singleton] at hx; subst hx; exact ⟨by decide, by decide⟩) hs)
  rw [hr] at HA ⊢
  have HB0 := Aside0.mk (fs_box W)
  have ha := HA.out _ _ HB0.out
  rw [World.size_alloc, World.size_alloc] at ha
  have HA1 := Aside0.mk ha
  clear hr hl HA ha
  cases r with
  | some L =>
    go_enter Try.func232, Try.ntmps232
    go_wp2_with (go_at_call 246; refine HA1.out.mono ?_; rintro e w1 ⟨rfl, hb_, A1, c1, hx_⟩; have HB := Aside0.mk hb_; have hcl1 : w1.cell? ⟨W.heap.size + 1, 0, none⟩ = some (.slice A1 L.length c1) := (blk_cell hx_ 0).trans rfl; clear hb_ hx_)
    go_ret2
    exact ⟨⟨_, _, rfl⟩, HB.out⟩
  | none =>
    go_enter Try.func232, Try.ntmps232
    go_wp2_with (go_at_call 246; refine HA1.out.mono ?_; rintro e w1 ⟨rfl, hb_⟩; obtain ⟨⟨v2, hv2⟩, hb2, _⟩ := stb_below HB0.out hb_; have HB := Aside0.mk hb2; have hcl1 : w1.cell? ⟨W.heap.size + 1, 0, none⟩ = some v2 := (blk_cell hv2 0).trans rfl; clear hb_ hv2 hb2)
    go_ret2
    exact ⟨⟨_, rfl⟩, HB.out⟩
theorem sh_up {l : Nat} (h : l < 10) : wrap64 ((l : Int) + 1) = ((l + 1 : Nat) : Int) := by unfold wrap64; omega
theorem sh_meas {l : Nat} (h : l < 10) : (11 - intOf (.int .i64 (wrap64 ((l : Int) + 1)))).toNat < (11 - intOf (.int .i64 (l : Int))).toNat := by
  rw [sh_up h]
  show (11 - (((l + 1 : Nat) : Int))).toNat < (11 - (l : Int)).toNat
  omega
theorem sh_meas2 {l : Nat} (h : l < 10) : (11 - intOf (.int .i64 ((l : Int) + 1))).toNat < (11 - intOf (.int .i64 (l : Int))).toNat := by
  show (11 - ((l : Int) + 1)).toNat < (11 - (l : Int)).toNat
  omega
set_option maxHeartbeats 2000000 in
theorem sh_in (n : Int) (L : List Int) (W : World) (h : stFind n 10 0 = some L) :
    Calls Try.prog 181 #[.int .i64 n] W fun e W' => ∃ A c, e = .returned (.slice A L.length c) ∧ Below W.heap.size W W' := by
  have HR := Aside0.mk h
  have HB0 := Aside0.mk (Below.refl W.heap.size W)
  clear h
  go_enter Try.func181, Try.ntmps181
  go_wp2
  go_loopw [3] (fun d wr => ∃ l : Nat, l ≤ 10 ∧ d = .int .i64 (l : Int) ∧ Aside0 (stFind n (10 - l) l = some L) ∧ Aside0 (Below W.heap.size W wr)) (fun d _ => (11 - intOf d).toNat)
  case atStart => exact ⟨0, by omega, rfl, HR, HB0⟩
  case round =>
    clear HB0 HR
    obtain ⟨l, hl, rfl, HR, HB⟩ := hrel
    have hlt : l < 10 := by
      by_cases e : l = 10
      · subst e
        have := HR.out
        rw [show 10 - 10 = 0 from rfl, stFind] at this
        cases this
      · omega
    have hr := HR.out
    rw [show 10 - l = (10 - (l + 1)) + 1 by omega, stFind] at hr
    have HC := Aside0.mk (fs_in n l hl wr)
    obtain ⟨r, hrr⟩ : ∃ r, stStar n l [1] = r := ⟨_, rfl⟩
    rw [hrr] at hr HC
    have HL := Aside0.mk hlt
    clear hrr hl hlt HR
    cases r with
    | some L2 =>
      obtain rfl := Option.some.inj (show some L2 = some L from hr)
      clear hr
      go_wp2_with (go_at_call 232; refine HC.out.mono ?_; rintro e w1 ⟨⟨A1, c1, rfl⟩, hb_⟩; have HB1 := Aside0.mk (HB.out.trans (hb_.mono HB.out.size)); clear hb_)
      go_ret
      exact ⟨_, _, rfl, HB1.out⟩
    | none =>
      have HR2 := Aside0.mk (show stFind n (10 - (l + 1)) (l + 1) = some L from hr)
      clear hr
      go_wp2_with (go_at_call 232; refine HC.out.mono ?_; rintro e w1 ⟨⟨v1, rfl⟩, hb_⟩; have HB1 := Aside0.mk (HB.out.trans (hb_.mono HB.out.size)); clear hb_)
      go_roundw
      case rel => exact ⟨l + 1, HL.out, (by first | rfl | rw [sh_up HL.out]), HR2, HB1⟩
      case measure => first | exact sh_meas HL.out | exact sh_meas2 HL.out
set_option maxHeartbeats 1000000 in
theorem sl_yes (a0 : Int) (L : List Int) (w : World) (h1 : 1 ≤ a0 ∧ a0 ≤ 100) (h : stFind a0 10 0 = some L) :
    Calls Try.prog 84 #[.int .i64 a0] w fun e w' => e = .returned (.tuple #[.int .i64 ((L.length : Int) - 1), .bool true]) ∧ Below w.heap.size w w' := by
  have hl := stFind_len a0 10 0 L h
  have HS := Aside0.mk (fun W1 => sh_in a0 L W1 h)
  have HI := Aside0.mk (fun W1 => impl_isShort.calls a0 true W1 (by unfold impl_isShort.f impl_in.f; simp [h1.1, h1.2]))
  have hw : wrap64 ((L.length : Int) - 1) = (L.length : Int) - 1 := by unfold wrap64; omega
  clear h h1 hl
  go_enter Try.func84, Try.ntmps84
  go_wp2_with (first
    | (go_at_call 180; refine (HI.out _).mono ?_; rintro e w1 ⟨rfl, hd_⟩; have HB := Aside0.mk (ss_drawn hd_); clear hd_)
    | (go_at_call 181; refine (HS.out _).mono ?_; rintro e w2 ⟨A1, c1, rfl, hb_⟩; have HB2 := Aside0.mk (HB.out.trans (hb_.mono HB.out.size)); clear hb_))
  go_ret2
  exact ⟨by simp; exact hw, HB2.out⟩
set_option maxHeartbeats 1000000 in
theorem sl_no (a0 : Int) (w : World) (h1 : ¬ (1 ≤ a0 ∧ a0 ≤ 100)) :
    Calls Try.prog 84 #[.int .i64 a0] w fun e w' => e = .returned (.tuple #[.int .i64 0, .bool false]) ∧ Below w.heap.size w w' := by
  have HI := Aside0.mk (fun W1 => impl_isShort.calls a0 false W1 (by
    unfold impl_isShort.f impl_in.f
    by_cases h : 1 ≤ a0
    · simp [h, show ¬ a0 ≤ 100 from fun h2 => h1 ⟨h, h2⟩]
    · simp [h]))
  clear h1
  go_enter Try.func84, Try.ntmps84
  go_wp2_with (go_at_call 180; refine (HI.out _).mono ?_; rintro e w1 ⟨rfl, hd_⟩; have HB := Aside0.mk (ss_drawn hd_); clear hd_)
  go_ret2
  exact ⟨rfl, HB.out⟩
end
theorem impl_StarLength.calls (a0 : Int) (r1 : Int) (r2 : Bool) (w : World) (h : impl_StarLength.f a0 = some (r1, r2)) :
    Calls Try.prog 84 #[.int .i64 a0] w fun e w' => e = .returned (.tuple #[.int .i64 r1, .bool r2]) ∧ Below w.heap.size w w' := by
  unfold impl_StarLength.f at h
  by_cases hy : 1 ≤ a0 ∧ a0 ≤ 100
  · rw [if_pos hy] at h
    obtain ⟨L, hL, h2⟩ := Option.bind_eq_some_iff.mp h
    simp only [Option.some.injEq, Prod.mk.injEq] at h2
    obtain ⟨rfl, rfl⟩ := h2
    exact sl_yes a0 L w hy hL
  · rw [if_neg hy] at h
    simp only [Option.some.injEq, Prod.mk.injEq] at h
    obtain ⟨rfl, rfl⟩ := h
    exact sl_no a0 w hy

/-! ### spec_l1Has: function 112 -/
def spec_l1Has.l0 : Nat → Int → List Int → Int → Int → Option (Bool)
  | 0, _, _, _, _ => none
  | k + 1, x1, x7, x8, x9 => if x9 < x8 then (if 0 ≤ x9 then (if x9 < (x7.length : Int) then (if (rd x7 x9) = x1 then (some true) else (spec_l1Has.l0 k x1 x7 x8 (wrap64 (x9 + 1)))) else (none)) else (none)) else (some false)
def spec_l1Has.f (k : Nat) (l0 : List Int) (a1 : Int) : Option (Bool) := spec_l1Has.l0 k a1 l0 (l0.length : Int) 0
theorem spec_l1Has.mono_l : ∀ k, (∀ y0 y1 y2 y3, LeO (spec_l1Has.l0 k y0 y1 y2 y3) (spec_l1Has.l0 (k + 1) y0 y1 y2 y3))
  | 0 => fun _ _ _ _ r h => by simp [spec_l1Has.l0] at h
  | k + 1 => by
    have ih0 := spec_l1Has.mono_l k
    · intro y0 y1 y2 y3
      unfold spec_l1Has.l0
      repeat' first
      | (with_reducible exact ih0 _ _ _ _)
      | (with_reducible exact LeO.refl _)
      | (with_reducible exact LeO.none _)
      | (with_reducible refine LeO.ite ?_ ?_)
      | (with_reducible refine LeO.bind ?_ (fun _ => ?_))
      | exact ih0 _ _ _ _
      | exact LeO.none _
      | refine LeO.ite ?_ ?_
      | refine LeO.bind ?_ (fun _ => ?_)
theorem spec_l1Has.mono : ∀ a0 a1 k, LeO (spec_l1Has.f k a0 a1) (spec_l1Has.f (k + 1) a0 a1) := by
  intro a0 a1 k
  have ih0 := spec_l1Has.mono_l k
  unfold spec_l1Has.f
  repeat' first
      | (with_reducible exact ih0 _ _ _ _)
      | (with_reducible exact LeO.refl _)
      | (with_reducible exact LeO.none _)
      | (with_reducible refine LeO.ite ?_ ?_)
      | (with_reducible refine LeO.bind ?_ (fun _ => ?_))
      | exact ih0 _ _ _ _
      | exact LeO.none _
      | refine LeO.ite ?_ ?_
      | refine LeO.bind ?_ (fun _ => ?_)
set_option maxHeartbeats 8000000 in
set_option maxRecDepth 100000 in
theorem spec_l1Has.calls (k : Nat) (A0 : Option Addr) (c0 : Nat) (l0 : List Int) (a1 : Int) (r : Bool) (w : World) (hr0 : Kd.C (Kd.int .i64) w A0 l0.length l0) (hc0 : l0.length ≤ c0) (h : spec_l1Has.f k l0 a1 = some r) :
    Calls Try.prog 112 #[.slice A0 l0.length c0, .int .i64 a1] w fun e w' => e = .returned (.bool r) ∧ Drawn0 w w' := by
  have HR0 := Aside0.mk hr0
  have HC0 := Aside0.mk hc0
  clear hr0 hc0
  have H : (spec_l1Has.l0 k a1 l0 (l0.length : Int) 0) = some r := h
  clear h
  have H' := Aside0.mk H
  clear H
  go_enter Try.func112, Try.ntmps112
  go_wp2
  go_loopg [9] k (fun kq v9 w' => ∃ (x9_1 : Int), v9 = .int .i64 x9_1 ∧ Aside0 (spec_l1Has.l0 kq a1 l0 (l0.length : Int) x9_1 = some r) ∧ Aside0 (kq ≤ k) ∧ Drawn0 w w')
  case atStart => exact ⟨(0), (by first | rfl | (simp; done) | (simp [*]; done)), H', ⟨Nat.le_refl _⟩, by repeat (first | exact Drawn0.refl _ | apply Drawn0.step)⟩
  case round =>
    clear H'
    try clear c1
    try clear p2
    obtain ⟨x9_1, rfl, HA, HK1, ⟨m1, rfl⟩⟩ := hrel
    cases gk with
    | zero => exact absurd HA.out (by simp [spec_l1Has.l0])
    | succ k1 =>
      have H := HA.out
      clear HA
      simp only [spec_l1Has.l0] at H
      by_cases c3 : x9_1 < (l0.length : Int)
      · rw [if_pos c3] at H
        have c3b0 : decide (x9_1 < (l0.length : Int)) = true := decide_eq_true c3
        clear c3
        by_cases c4 : 0 ≤ x9_1
        · rw [if_pos c4] at H
          have c4b0 : decide (0 ≤ x9_1) = true := decide_eq_true c4
          clear c4
          by_cases c5 : x9_1 < (l0.length : Int)
          · rw [if_pos c5] at H
            have c5b0 : decide (x9_1 < (l0.length : Int)) = true := decide_eq_true c5
            clear c5
            by_cases c6 : (rd l0 x9_1) = a1
            · rw [if_pos c6] at H
              have c6b0 : ((rd l0 x9_1) == a1) = true := beq_iff_eq.mpr c6
              have c6b1 : ((rd l0 x9_1) != a1) = false := bne_eq_false_iff_eq.mpr c6
              clear c6
              obtain rfl := Option.some.inj H
              have p247 : 0 ≤ (x9_1 : Int) := of_decide_eq_true (by first | (with_reducible assumption) | assumption)
              have q247 : x9_1 < (l0.length : Int) := of_decide_eq_true (by first | (with_reducible assumption) | assumption)
              obtain ⟨ad247, e247, hx247_0⟩ := Kd.at_int HR0.out x9_1 p247 q247
              cases e247
              replace p247 := eq_true p247
              replace q247 := eq_true q247
              go_wp2
              go_ret
              exact ⟨by first | rfl | (simp; done) | (simp [*]; done), by repeat (first | exact Drawn0.refl _ | apply Drawn0.step)⟩
            · rw [if_neg c6] at H
              have c6b0 : ((rd l0 x9_1) == a1) = false := beq_eq_false_iff_ne.mpr c6
              have c6b1 : ((rd l0 x9_1) != a1) = true := bne_iff_ne.mpr c6
              have H' := Aside0.mk H
              clear H
              have p247 : 0 ≤ (x9_1 : Int) := of_decide_eq_true (by first | (with_reducible assumption) | assumption)
              have q247 : x9_1 < (l0.length : Int) := of_decide_eq_true (by first | (with_reducible assumption) | assumption)
              obtain ⟨ad247, e247, hx247_0⟩ := Kd.at_int HR0.out x9_1 p247 q247
              cases e247
              replace p247 := eq_true p247
              replace q247 := eq_true q247
              go_wp2
              go_roundg k1
              case measure => have := HK1.out; omega
              case rel => exact ⟨(wrap64 (x9_1 + 1)), (by first | rfl | (simp; done) | (simp [*]; done)), H', ⟨by have := HK1.out; omega⟩, by repeat (first | exact Drawn0.refl _ | apply Drawn0.step)⟩
          · rw [if_neg c5] at H
            exact absurd H (by simp)
        · rw [if_neg c4] at H
          exact absurd H (by simp)
      · rw [if_neg c3] at H
        have c3b0 : decide (x9_1 < (l0.length : Int)) = false := decide_eq_false c3
        clear c3
        obtain rfl := Option.some.inj H
        go_wp2
        go_ret
        exact ⟨by first | rfl | (simp; done) | (simp [*]; done), by repeat (first | exact Drawn0.refl _ | apply Drawn0.step)⟩

/-! ### spec_l1Own: function 233 -/
def spec_l1Own.f (l0 : List Int) : Option (List Int) := (some (([] : List Int) : List Int)).bind fun y248 => (if y248.length + l0.length < 17592186044416 then (some (y248 ++ l0)) else (none))
set_option maxHeartbeats 8000000 in
set_option maxRecDepth 100000 in
theorem spec_l1Own.calls (A0 : Option Addr) (c0 : Nat) (l0 : List Int) (r : List Int) (w : World) (hr0 : Kd.C (Kd.int .i64) w A0 l0.length l0) (hc0 : l0.length ≤ c0) (h : spec_l1Own.f l0 = some r) :
    Calls Try.prog 233 #[.slice A0 l0.length c0] w fun e w' => ∃ v0_ : Value, e = .returned (v0_) ∧ Kd.R (Kd.int .i64) 3 w' w.heap.size (fun _ => True) v0_ r ∧ Below w.heap.size w w' := by
  have HR0 := Aside0.mk hr0
  have HC0 := Aside0.mk hc0
  clear hr0 hc0
  have HB := Aside0.mk (Below.refl w.heap.size w)
  have H : ((some (([] : List Int) : List Int)).bind fun y248 => (if y248.length + l0.length < 17592186044416 then (some (y248 ++ l0)) else (none))) = some r := h
  clear h
  obtain ⟨y248, hy248⟩ : ∃ y_ : List Int, y_ = (([] : List Int)) := ⟨_, rfl⟩
  replace H : (if y248.length + l0.length < 17592186044416 then (some (y248 ++ l0)) else (none)) = some r := by first | (rw [hy248]; with_reducible exact H) | (have H2_ := (Option.bind_some _ _).symm.trans H; rw [hy248]; with_reducible exact H2_) | (have H2_ := (Option.bind_some _ _).symm.trans H; with_reducible exact H2_) | with_reducible exact H | (rw [hy248]; exact H) | exact H
  have Ny248 := Aside0.mk hy248
  clear hy248
  by_cases c2 : y248.length + l0.length < 17592186044416
  · rw [if_pos c2] at H
    have LMc2 := Aside0.mk c2
    clear c2
    obtain ⟨y251, hy251⟩ : ∃ y_ : List Int, y_ = (y248 ++ l0) := ⟨_, rfl⟩
    replace H : (some y251) = some r := by first | (rw [hy251]; with_reducible exact H) | (have H2_ := (Option.bind_some _ _).symm.trans H; rw [hy251]; with_reducible exact H2_) | (have H2_ := (Option.bind_some _ _).symm.trans H; with_reducible exact H2_) | with_reducible exact H | (rw [hy251]; exact H) | exact H
    have Ny251 := Aside0.mk hy251
    clear hy251
    obtain rfl := Option.some.inj H
    go_enter Try.func233, Try.ntmps233
    go_wp2_with (first | ((with_reducible refine gate_dst (N := 3) rfl ?_); refine Kd.R_lit (Kd.int .i64) _ 3 ?hg (N := 3) ?hd (xs := ([] : List Int)) (inner := []) (ok := fun _ => True) (okp := fun _ => True) ?hr ?hp (fun _ hk => hk) trivial (Below.refl _ _) (Nat.le_refl _) (by simp) ?_; (case hd => rfl); (case hg => rfl); (case hr => first | (go_simp; done) | (go_simp; rfl)); (case hp => exact (Reps.none _ _)); intro v249 w3 ho4 hb hg_ hnew_; clear hg_ hnew_; (first | rw [← Ny248.out] at ho4 | (simp only [Int.reduceToNat] at ho4; rw [← Ny248.out] at ho4)); have n0_ := Aside0.mk (Kd.R_lower ho4 (below_size (by repeat (first | (with_reducible first | exact HB.out | apply below_alloc | apply pw_below_drewN | apply below_drew1) | exact HB.out)))); have n1_ := Aside0.mk (below_step (by repeat (first | (with_reducible first | exact HB.out | apply below_alloc | apply pw_below_drewN | apply below_drew1) | exact HB.out)) hb); clear HB; have HO250 := n0_; have HB := n1_; clear n0_ n1_; clear hb ho4) | ((with_reducible refine gate_builtin (b := .append) (xs := #[.tmp 3, .tmp 4]) rfl ?_); at_builtin; refine Kd.R_append_rows (Kd.int .i64) (w0 := w) w.heap.size rfl (.tmp 3) (.tmp 4) 29 3 (.int .i64 0) 8 rfl Try.underlying29 info3 rfl (by decide) (by omega) v249 y248 l0 _ _ _ (fun _ => True) (fun _ => False) rfl rfl ?aO ?aR (fun _ _ h => h) (fun _ h => h.elim) ?aF ?aB ?aS ?aL ?_; (case aR => repeat (first | exact (Kd.C_below HR0.out HB.out) | (with_reducible refine Kd.C_alloc ?_ _) | (with_reducible refine Kd.C_drewN ?_ _) | (with_reducible refine Kd.C_drew ?_))); (case aB => exact (by repeat (first | (with_reducible first | exact HB.out | apply below_alloc | apply pw_below_drewN | apply below_drew1) | exact HB.out))); (case aF => exact (fun _ _ => trivial)); (case aO => exact (by (with_reducible repeat (first | apply Kd.R_alloc | apply Kd.R_drewN | apply Kd.R_drew)); exact HO250.out)); (case aS => exact (below_size (by repeat (first | (with_reducible first | exact HB.out | apply below_alloc | apply pw_below_drewN | apply below_drew1) | exact HB.out)))); (case aL => have := LMc2.out; omega); intro v252 w5 ho hb hg hat; rw [← Ny251.out] at ho; have n0_ := Aside0.mk (hb); have n1_ := Aside0.mk (ho); clear HB; clear HO250; have HB := n0_; have HO253 := n1_; clear n0_ n1_; clear ho hb hg hat))
    go_ret
    exact ⟨_, by first | rfl | (simp [errW_none, errW_some] <;> rfl) | (simp [*, errW_none, errW_some] <;> rfl), by (with_reducible repeat (first | apply Kd.R_alloc | apply Kd.R_drewN | apply Kd.R_drew)); exact HO253.out, by repeat (first | (with_reducible first | exact HB.out | apply below_alloc | apply pw_below_drewN | apply below_drew1) | exact HB.out)⟩
  · rw [if_neg c2] at H
    exact absurd H (by simp)

end Go.Proofs.Ytlmoemahamneoaa.PFnSubtractionChains
