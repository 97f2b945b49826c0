-- Written by gprint.py, a program of this session, out of the translation (a changed print).
import Derived.Test.YtafnnnpcochnnaaPFnSignedTextsx0
import Derived.Test.YtafnnnpcochnnaaPFnSignedTextsx1
namespace Go.Proofs.Ytafnnnpcochnnaa.PFnSignedTexts
open Go.RowKit Go.Proofs.YtafnnnpcochnnaaW.PrintWords Go.Proofs.YtafnnnpcochnnaaW.PrintLast Go.Proofs.YtafnnnpcochnnaaW.PrintMore
attribute [local go_sem] max2_int min2_int max_two min_two max_three min_three max_four min_four   -- for this text's walks alone
set_option linter.unusedVariables false
set_option linter.unusedSimpArgs false

/-! ### spec_DrawFromSigned: function 58 -/
def spec_DrawFromSigned.f (k : Nat) (l0 : List Int) : Option (List Int) := (spec_l1Cur_signs.f k l0 0 0).bind fun bt165 => (some bt165.1)
theorem spec_DrawFromSigned.mono : ∀ a0 k, LeO (spec_DrawFromSigned.f k a0) (spec_DrawFromSigned.f (k + 1) a0) := by
  intro a0 k
  unfold spec_DrawFromSigned.f
  repeat' first
      | (with_reducible exact spec_l1Cur_signs.mono _ _ _ _)
      | (with_reducible exact LeO.refl _)
      | (with_reducible exact LeO.none _)
      | (with_reducible refine LeO.ite ?_ ?_)
      | (with_reducible refine LeO.bind ?_ (fun _ => ?_))
      | exact spec_l1Cur_signs.mono _ _ _ _
      | exact LeO.none _
      | refine LeO.ite ?_ ?_
      | refine LeO.bind ?_ (fun _ => ?_)
set_option maxHeartbeats 8000000 in
set_option maxRecDepth 100000 in
theorem spec_DrawFromSigned.calls (k : Nat) (A0 : Option Addr) (c0 : Nat) (l0 : List Int) (r : List Int) (w : World) (hr0 : Kd.C (Kd.int .u8) w A0 l0.length l0) (hc0 : l0.length ≤ c0) (h : spec_DrawFromSigned.f k l0 = some r) :
    Calls Try.prog 58 #[.slice A0 l0.length c0] w fun e w' => ∃ v0_ : Value, e = .returned (v0_) ∧ Kd.R (Kd.int .i64) 3 w' w.heap.size (fun _ => True) v0_ r ∧ Below w.heap.size w w' := by
  have hu97 := Try.underlying97
  have HR0 := Aside0.mk hr0
  have HC0 := Aside0.mk hc0
  clear hr0 hc0
  have HB := Aside0.mk (Below.refl w.heap.size w)
  have H : ((spec_l1Cur_signs.f k l0 0 0).bind fun bt165 => (some bt165.1)) = some r := h
  clear h
  replace H := Option.bind_eq_some_iff.mp H
  obtain ⟨⟨t165, t168, t169⟩, A20, H⟩ := H
  replace H : (some t165) = some r := H
  have A2 := Aside0.mk A20
  clear A20
  obtain rfl := Option.some.inj H
  go_enter Try.func58, Try.ntmps58
  go_wp2_with (first | ((with_reducible refine gate_dst (N := 6) rfl ?_); refine box_event ?hg (N := 6) ?hd (cs := #[.slice A0 l0.length c0, .int .i64 0, .int .u64 0]) (t := 97) ?hr ?_; (case hd => rfl); (case hg => rfl); (case hr => first | (go_simp; done) | (go_simp; rfl)); intro gb164 hg w3 hbox hb; have n0_ := Aside0.mk (below_step (by repeat (first | (with_reducible first | exact HB.out | apply below_alloc | apply pw_below_drewN | apply below_drew1) | exact HB.out)) hb); have n1_ := Aside0.mk ((by rw [hg]; exact (below_size (by repeat (first | (with_reducible first | exact HB.out | apply below_alloc | apply pw_below_drewN | apply below_drew1) | exact HB.out))) : w.heap.size ≤ gb164)); have n2_ := Aside0.mk ((by rw [hg]; exact (below_size (by repeat (first | (with_reducible first | exact HB.out | apply below_alloc | apply pw_below_drewN | apply below_drew1) | exact HB.out))) : w.heap.size ≤ gb164)); have n3_ := Aside0.mk ((show IsS97 w _ gb164 l0 0 0 from ⟨A0, c0, hbox, (by rw [hg]; exact (below_size (by repeat (first | (with_reducible first | exact HB.out | apply below_alloc | apply pw_below_drewN | apply below_drew1) | exact HB.out))) : w.heap.size ≤ gb164), HR0.out⟩)); clear HB; have HB := n0_; have GW164 := n1_; have GE164 := n2_; have HI164 := n3_; clear n0_ n1_ n2_ n3_; clear hb hbox hg) | ((with_reducible refine gate_callee (f := 112) rfl ?_); refine goesL_ (some 8) rfl rfl Try.func112 (by kernel_rfl) rfl #[.pointer (some ⟨gb164, 0, none⟩)] rfl (by (try simp only [List.map_toArray, List.map_cons, List.map_nil]); first | done | rfl | (simp only [List.length_drop, List.length_take]; rfl)) ?_; (with_reducible refine (spec_l1Cur_signs.calls k gb164 l0 0 0 t165 t168 t169 w _ ?side1 ?side2 A2.out).mono ?_); (case side1 => repeat (first | (with_reducible first | exact HI164.out | apply IsS97.alloc | apply IsS97.drewN | apply IsS97.drew | apply IsS97.set_1 | apply IsS97.set_2) | exact HI164.out)); (case side2 => repeat (first | (with_reducible first | exact HB.out | apply below_alloc | apply pw_below_drewN | apply below_drew1 | refine below_set ?_ (IsS97.ge HI164.out)) | exact HB.out)); rintro e w4 ⟨v166, rfl, ho0, hi, hb, hk⟩; refine ⟨_, rfl, ?_⟩; have n0_ := Aside0.mk (Kd.R_lower ho0 (below_size (by repeat (first | (with_reducible first | exact HB.out | apply below_alloc | apply pw_below_drewN | apply below_drew1 | refine below_set ?_ (IsS97.ge HI164.out)) | exact HB.out)))); have n1_ := Aside0.mk (hb); have n2_ := Aside0.mk (hi); clear HB; clear HI164; have HO167 := n0_; have HB := n1_; have HI164 := n2_; clear n0_ n1_ n2_; (try clear hb); (try clear hb2); (try clear hk); (try clear hi); (try clear ho0)))
  go_ret
  exact ⟨_, by first | rfl | (simp [errW_none, errW_some] <;> rfl) | (simp [*, errW_none, errW_some] <;> rfl), by (with_reducible repeat (first | apply Kd.R_alloc | apply Kd.R_drewN | apply Kd.R_drew)); exact HO167.out, by repeat (first | (with_reducible first | exact HB.out | apply below_alloc | apply pw_below_drewN | apply below_drew1 | refine below_set ?_ (IsS97.ge HI164.out)) | exact HB.out)⟩

/-! ### spec_DrawSignedText: function 38 -/
def spec_DrawSignedText.f (k : Nat) (l0 : List Int) : Option (List Int) := (spec_DrawFromSigned.f k l0).bind fun t170 => (some t170)
theorem spec_DrawSignedText.mono : ∀ a0 k, LeO (spec_DrawSignedText.f k a0) (spec_DrawSignedText.f (k + 1) a0) := by
  intro a0 k
  unfold spec_DrawSignedText.f
  repeat' first
      | (with_reducible exact spec_DrawFromSigned.mono _ _)
      | (with_reducible exact LeO.refl _)
      | (with_reducible exact LeO.none _)
      | (with_reducible refine LeO.ite ?_ ?_)
      | (with_reducible refine LeO.bind ?_ (fun _ => ?_))
      | exact spec_DrawFromSigned.mono _ _
      | exact LeO.none _
      | refine LeO.ite ?_ ?_
      | refine LeO.bind ?_ (fun _ => ?_)
set_option maxHeartbeats 8000000 in
set_option maxRecDepth 100000 in
theorem spec_DrawSignedText.calls (k : Nat) (A0 : Option Addr) (c0 : Nat) (l0 : List Int) (r : List Int) (w : World) (hr0 : Kd.C (Kd.int .u8) w A0 l0.length l0) (hc0 : l0.length ≤ c0) (h : spec_DrawSignedText.f k l0 = some r) :
    Calls Try.prog 38 #[.slice A0 l0.length c0] w fun e w' => ∃ v0_ : Value, e = .returned (v0_) ∧ Kd.R (Kd.int .i64) 3 w' w.heap.size (fun _ => True) v0_ r ∧ Below w.heap.size w w' := by
  have HR0 := Aside0.mk hr0
  have HC0 := Aside0.mk hc0
  clear hr0 hc0
  have HB := Aside0.mk (Below.refl w.heap.size w)
  have H : ((spec_DrawFromSigned.f k l0).bind fun t170 => (some t170)) = some r := h
  clear h
  replace H := Option.bind_eq_some_iff.mp H
  obtain ⟨t170, A20, H⟩ := H
  replace H : (some t170) = some r := H
  have A2 := Aside0.mk A20
  clear A20
  obtain rfl := Option.some.inj H
  go_enter Try.func38, Try.ntmps38
  go_wp2_with (first | ((with_reducible refine gate_callee (f := 58) rfl ?_); refine goesL_ (some 4) rfl rfl Try.func58 (by kernel_rfl) rfl #[.slice A0 l0.length c0] rfl (by (try simp only [List.map_toArray, List.map_cons, List.map_nil]); first | done | rfl | (simp only [List.length_drop, List.length_take]; rfl)) ?_; (with_reducible refine (spec_DrawFromSigned.calls k _ _ l0 t170 _ ?side1 ?side2 A2.out).mono ?_); (case side1 => repeat (first | exact HR0.out | (with_reducible refine Kd.C_alloc ?_ _) | (with_reducible refine Kd.C_drewN ?_ _) | (with_reducible refine Kd.C_drew ?_))); (case side2 => exact HC0.out); rintro e w3 ⟨v171, rfl, ho0, hb⟩; refine ⟨_, rfl, ?_⟩; have n0_ := Aside0.mk (Kd.R_lower ho0 (below_size (by repeat (first | (with_reducible first | exact HB.out | apply below_alloc | apply pw_below_drewN | apply below_drew1) | exact HB.out)))); have n1_ := Aside0.mk (below_step (by repeat (first | (with_reducible first | exact HB.out | apply below_alloc | apply pw_below_drewN | apply below_drew1) | exact HB.out)) hb); clear HB; have HO172 := n0_; have HB := n1_; clear n0_ n1_; (try clear hb); (try clear hb2); (try clear hk); (try clear hi); (try clear ho0)))
  go_ret
  exact ⟨_, by first | rfl | (simp [errW_none, errW_some] <;> rfl) | (simp [*, errW_none, errW_some] <;> rfl), by (with_reducible repeat (first | apply Kd.R_alloc | apply Kd.R_drewN | apply Kd.R_drew)); exact HO172.out, by repeat (first | (with_reducible first | exact HB.out | apply below_alloc | apply pw_below_drewN | apply below_drew1) | exact HB.out)⟩

/-! ### impl_in: function 86 -/
def impl_in.f (a0 : Int) (a1 : Int) (a2 : Int) : Option (Bool) := if a0 ≥ a1 then (some (decide (a0 ≤ a2))) else (some false)
set_option maxHeartbeats 8000000 in
set_option maxRecDepth 100000 in
theorem impl_in.calls (a0 : Int) (a1 : Int) (a2 : Int) (r : Bool) (w : World) (h : impl_in.f a0 a1 a2 = some r) :
    Calls Try.prog 86 #[.int .i64 a0, .int .i64 a1, .int .i64 a2] w fun e w' => e = .returned (.bool r) ∧ Drawn0 w w' := by
  have H : (if a0 ≥ a1 then (some (decide (a0 ≤ a2))) else (some false)) = some r := h
  clear h
  by_cases c4 : a0 ≥ a1
  · rw [if_pos c4] at H
    have c4b0 : decide (a1 ≤ a0) = true := decide_eq_true c4
    clear c4
    obtain rfl := Option.some.inj H
    go_enter Try.func86, Try.ntmps86
    go_wp2
    go_ret
    exact ⟨by first | rfl | (simp; done) | (simp [*]; done), by repeat (first | exact Drawn0.refl _ | apply Drawn0.step)⟩
  · rw [if_neg c4] at H
    have c4b0 : decide (a1 ≤ a0) = false := decide_eq_false c4
    clear c4
    obtain rfl := Option.some.inj H
    go_enter Try.func86, Try.ntmps86
    go_wp2
    go_ret
    exact ⟨by first | rfl | (simp; done) | (simp [*]; done), by repeat (first | exact Drawn0.refl _ | apply Drawn0.step)⟩

/-! ### impl_isDigits_1: function 136 -/
def impl_isDigits_1.f (a0 : Int) : Option (Bool) := (impl_in.f a0 (-1) 1).bind fun t173 => (some (!t173))
set_option maxHeartbeats 8000000 in
set_option maxRecDepth 100000 in
theorem impl_isDigits_1.calls (a0 : Int) (r : Bool) (w : World) (h : impl_isDigits_1.f a0 = some r) :
    Calls Try.prog 136 #[.int .i64 a0] w fun e w' => e = .returned (.bool r) ∧ Drawn0 w w' := by
  have H : ((impl_in.f a0 (-1) 1).bind fun t173 => (some (!t173))) = some r := h
  clear h
  replace H := Option.bind_eq_some_iff.mp H
  obtain ⟨t173, A20, H⟩ := H
  replace H : (some (!t173)) = some r := H
  have A2 := Aside0.mk A20
  clear A20
  obtain rfl := Option.some.inj H
  go_enter Try.func136, Try.ntmps136
  go_wp2_with (first | ((with_reducible refine gate_callee (f := 86) rfl ?_); refine goesL_ (some 4) rfl rfl Try.func86 (by kernel_rfl) rfl #[.int .i64 a0, .int .i64 (-1), .int .i64 1] rfl (by (try simp only [List.map_toArray, List.map_cons, List.map_nil]); first | done | rfl | (simp only [List.length_drop, List.length_take]; rfl)) ?_; (with_reducible refine (impl_in.calls a0 (-1) 1 t173 _ A2.out).mono ?_); rintro e w' ⟨rfl, ⟨nd, rfl⟩⟩; refine ⟨_, rfl, ?_⟩))
  go_ret
  exact ⟨by first | rfl | (simp; done) | (simp [*]; done), by repeat (first | exact Drawn0.refl _ | apply Drawn0.step)⟩

/-! ### impl_isDigits: function 108 -/
def signedB (l : List Int) : Bool := decide (l.length ≤ 24) && l.all fun d => decide (-1 ≤ d) && decide (d ≤ 1)
def impl_isDigits.f (l0 : List Int) : Option (Bool) := some (signedB l0)
set_option maxHeartbeats 1000000 in
set_option maxRecDepth 100000 in
theorem impl_isDigits.calls (A0 : Option Addr) (c0 : Nat) (l0 : List Int) (r : Bool) (w : World) (hr0 : Kd.C (Kd.int .i64) w A0 l0.length l0) (hc0 : l0.length ≤ c0) (h : impl_isDigits.f l0 = some r) :
    Calls Try.prog 108 #[.slice A0 l0.length c0] w fun e w' => e = .returned (.bool r) ∧ Drawn0 w w' := by
  have hcon : Calls Try.prog 84 #[.slice A0 l0.length c0, .func (.func 136) #[] #[]] w fun e w' => e = .returned (.bool (l0.any fun d => !(decide (-1 ≤ d) && decide (d ≤ 1)))) ∧ Drawn0 w w' := by
    rcases YtafnnnpcochnnaaHand.int_slice hr0 with h0 | ⟨b, off, rfl, _, hcells⟩
    · subst h0
      exact (Try.slices_ContainsFunc_empty (α := Int) A0 c0 _ w).mono fun e w' ⟨he, hw⟩ => ⟨he, by rw [hw]; exact Drawn0.refl _⟩
    · have eg : ∀ args w, (callFunc 136 args).run Try.prog w = .ok (.enter 136 args) w := enters_of Try.func136 (by kernel_rfl) rfl
      have hp : Go.Proofs.PredAt Try.prog 136 #[] (Value.int .i64) (fun d => !(decide (-1 ≤ d) && decide (d ≤ 1))) w := fun W x _ => by
        show Calls Try.prog 136 #[.int .i64 x] W _
        refine (impl_isDigits_1.calls x (!(decide (-1 ≤ x) && decide (x ≤ 1))) W ?_).mono fun e w' ⟨he, hw⟩ => ⟨he, YtafnnnpcochnnaaHand.of_drawn hw⟩
        simp only [impl_isDigits_1.f, impl_in.f]
        by_cases h1 : x ≥ -1
        · simp [h1, show -1 ≤ x from h1]
        · simp [h1, show ¬ -1 ≤ x from h1]
      have := Try.slices_ContainsFunc (Value.int .i64) _ 136 #[] eg b off l0.length c0 l0 w hp (Nat.le_refl _) (YtafnnnpcochnnaaHand.int_len hr0) (fun j hj => by rw [hcells j hj, YtafnnnpcochnnaaHand.getD_bang])
      rw [List.take_length] at this
      exact this.mono fun e w' ⟨he, hw⟩ => ⟨he, YtafnnnpcochnnaaHand.drawn_of hw⟩
  obtain rfl := Option.some.inj h
  have e1 : signedB l0 = (decide (l0.length ≤ 24) && !(l0.any fun d => !(decide (-1 ≤ d) && decide (d ≤ 1)))) := by
    unfold signedB
    rw [List.not_any_eq_all_not]
    simp
  rw [e1]
  generalize (l0.any fun d => !(decide (-1 ≤ d) && decide (d ≤ 1))) = b at hcon ⊢
  clear hr0 hc0 h e1
  by_cases hl : l0.length ≤ 24
  · have hd : decide ((l0.length : Int) ≤ 24) = true := decide_eq_true (by omega)
    go_enter Try.func108, Try.ntmps108
    go_wp2_with (go_at_call 84; refine hcon.mono ?_; rintro e w' ⟨rfl, ⟨⟨q, rfl⟩⟩⟩)
    go_ret
    exact ⟨by simp [hl], by repeat (first | exact Drawn0.refl _ | apply Drawn0.step)⟩
  · have hd : decide ((l0.length : Int) ≤ 24) = false := decide_eq_false (by omega)
    clear hcon
    go_enter Try.func108, Try.ntmps108
    go_wp2
    go_ret
    exact ⟨by simp [hl], Drawn0.refl _⟩

/-! ### impl_signedText: function 109 -/
/-- A digit's sign. -/
def signOf (d : Int) : Int := if d = -1 then 45 else if d = 0 then 48 else 43
def impl_signedText.f (l0 : List Int) : Option (ByteArray) := if l0.length = 0 then some ⟨#[61]⟩ else if l0.length * 8 ≤ 140737488351232 ∧ (∀ d ∈ l0, d = -1 ∨ d = 0 ∨ d = 1) then some (strOfNums (l0.reverse.map signOf)) else none
abbrev SDig := {p : Int × Int // p.2 = -1 ∨ p.2 = 0 ∨ p.2 = 1}
def signP (pre : List SDig) : List Int := pre.map fun p => signOf p.1.2
theorem signP_snoc (pre : List SDig) (x : SDig) : signP (pre ++ [x]) = signP pre ++ [signOf x.1.2] := by simp [signP]
theorem signP_length (pre : List SDig) : (signP pre).length = pre.length := by simp [signP]
theorem sdig_ok {zs : List Int} (hz : ∀ d ∈ zs, d = -1 ∨ d = 0 ∨ d = 1) (k : Nat) : (YtafnnnpcochnnaaBack.pairAt zs k).2 = -1 ∨ (YtafnnnpcochnnaaBack.pairAt zs k).2 = 0 ∨ (YtafnnnpcochnnaaBack.pairAt zs k).2 = 1 := by
  show zs[zs.length - 1 - k]?.getD 0 = -1 ∨ zs[zs.length - 1 - k]?.getD 0 = 0 ∨ zs[zs.length - 1 - k]?.getD 0 = 1
  cases h : zs[zs.length - 1 - k]? with
  | none => exact .inr (.inl rfl)
  | some d => exact hz d (List.mem_of_getElem? h)
theorem sdig_rev (zs : List Int) (hz : ∀ d ∈ zs, d = -1 ∨ d = 0 ∨ d = 1) : ∀ k, k ≤ zs.length → signP (YtafnnnpcochnnaaBack.upto (fun k => (⟨YtafnnnpcochnnaaBack.pairAt zs k, sdig_ok hz k⟩ : SDig)) k) = (zs.drop (zs.length - k)).reverse.map signOf := by
  intro k
  induction k with
  | zero => intro _; simp [YtafnnnpcochnnaaBack.upto, signP]
  | succ k ih =>
    intro hk
    rw [YtafnnnpcochnnaaBack.upto_succ, signP_snoc, ih (by omega)]
    have e : zs.length - k = (zs.length - (k + 1)) + 1 := by omega
    have hlt : zs.length - (k + 1) < zs.length := by omega
    rw [List.drop_eq_getElem_cons hlt, ← e, List.reverse_cons, List.map_append]
    congr 1
    simp only [List.map_cons, List.map_nil, YtafnnnpcochnnaaBack.pairAt]
    rw [show zs.length - 1 - k = zs.length - (k + 1) by omega, List.getElem?_eq_getElem hlt]; rfl
theorem sdig_all (zs : List Int) (hz : ∀ d ∈ zs, d = -1 ∨ d = 0 ∨ d = 1) : signP (YtafnnnpcochnnaaBack.upto (fun k => (⟨YtafnnnpcochnnaaBack.pairAt zs k, sdig_ok hz k⟩ : SDig)) zs.length) = zs.reverse.map signOf := by
  have h := sdig_rev zs hz zs.length (Nat.le_refl _)
  rw [Nat.sub_self, List.drop_zero] at h
  exact h
theorem boxed_own {β : Type} (B : Nat) (t : TypeId) (v : Value) : Own (fun (_ : β) W => Boxed W B t v) := fun s X Y row hs hg hr => hs.kept hg (fun e => by
  obtain ⟨o, ho, hc⟩ := hr B e.symm
  rw [show X.heap[B]? = _ from hs] at ho
  cases ho
  cases hc)
theorem signed_info : (Try.prog.info? 5).map (fun i => (i.zero, i.size, i.bytes)) = some (some (.int .u8 0), 1, 1) := by kernel_rfl
attribute [local go_sem] Oper.semAt_some in
open Go.Shelf in
set_option maxRecDepth 100000 in
set_option maxHeartbeats 4000000 in
theorem signedText_in (F : Fence) (n : Nat) (h3 : F.fn 109) (h5 : F.fn 93) (h7 : F.fn 131) (hro : F.round = none) (hn : 3 ≤ n) (a : Option Addr) (len cap : Nat) (zs : List Int) (hlen : len = zs.length) (hpos : 0 < zs.length) (hreach : zs.length * 8 ≤ 140737488351232) (hz : ∀ d ∈ zs, d = -1 ∨ d = 0 ∨ d = 1) (w : World) (hI : YtafnnnpcochnnaaBack.Ints w.heap.size w (.slice a len cap) zs) :
    CallsIn F n Try.prog 109 #[.slice a len cap] w fun e W' => e = .returned (.string (strOfNums (zs.reverse.map signOf))) ∧ Below w.heap.size w W' := by
  have h1 : 1 ≤ n := by omega
  obtain ⟨i0, hi, hz0, hz1, hz2⟩ := info_parts signed_info
  subst hlen
  have hl0 : ((zs.length : Int) == 0) = false := beq_eq_false_iff_ne.mpr (by omega)
  refine callsIn_of_wp_marks Try.func109 rfl h3 ?_ hro
  simp only [Try.ntmps109, List.size_toArray, List.length_cons, List.length_nil, Nat.reduceAdd, Nat.reduceSub, Array.replicate_succ, Array.replicate_zero, List.push_toArray, List.append_toArray, List.nil_append, List.cons_append]
  gi_wp2_with (gi_at_call 93; refine (YtafnnnpcochnnaaBack.back_in F (n - 1) h5 hro _ _ _ _).mono ?_; rintro e w' ⟨rfl, rfl⟩)
  have bO := Boxed.new (w.alloc (.cells #[] 5)) 48 (.slice (some ⟨w.heap.size, 0, none⟩) 0 0)
  rw [World.size_alloc] at bO
  have bB := blk_new ((w.alloc (.cells #[] 5)).alloc (.cells #[.slice (some ⟨w.heap.size, 0, none⟩) 0 0] 48)) (.cells #[.slice a zs.length cap] 22)
  rw [World.size_alloc, World.size_alloc] at bB
  have hB0 : Below w.heap.size w (((w.alloc (.cells #[] 5)).alloc (.cells #[.slice (some ⟨w.heap.size, 0, none⟩) 0 0] 48)).alloc (.cells #[.slice a zs.length cap] 22)) := (((Below.refl _ w).alloc (Nat.le_refl _) _).alloc (by simp) _).alloc (by simp; omega) _
  have ro : (((w.alloc (.cells #[] 5)).alloc (.cells #[.slice (some ⟨w.heap.size, 0, none⟩) 0 0] 48)).alloc (.cells #[.slice a zs.length cap] 22)).ownsRow w.heap.size 5 1 (.slice (some ⟨w.heap.size, 0, none⟩) 0 0) 0 [] := by
    refine World.ownsRow.alloc (World.ownsRow.alloc ⟨rfl, .inr ⟨w.heap.size, 0, #[], rfl, Nat.le_refl _, blk_new w _, Nat.le_refl _, by decide, rfl, rfl⟩⟩ _) _
  refine wpIn_rangeFunc_ownG hro h1 (gf := 131) (lb := #[.pointer (some ⟨w.heap.size + 1 + 1, 0, none⟩)]) rfl h7 (enters_of Try.func131 (by kernel_rfl) rfl)
    (YtafnnnpcochnnaaBack.back_stops_g F (n - 1) h7 hro (by omega) (Subtype.val : SDig → Int × Int) (fun k => ⟨YtafnnnpcochnnaaBack.pairAt zs k, sdig_ok hz k⟩) (w.heap.size + 1 + 1) w.heap.size _ zs (fun _ _ => rfl) hreach _ (by simp) (by simp; omega) bB (hI.below hB0)) YtafnnnpcochnnaaBack.KeepB.trans (YtafnnnpcochnnaaBack.keepB_b (by simp; omega)) (Below.refl _ _) (fun _ => rfl)
    (fun pre W => ((∃ v, Boxed W (w.heap.size + 1) 48 v ∧ W.ownsRow w.heap.size 5 1 v (signP pre).length ((signP pre).map (Value.int .u8)) ∧ True) ∧ Boxed W (w.heap.size + 1 + 1) 22 (.slice a zs.length cap)) ∧ Below w.heap.size w W)
    (fun _ _ _ => False)
    (OwnFrom.and (OwnFrom.and (Own.from (holdsRow_own w.heap.size (w.heap.size + 1) 48 5 1 (fun pre => (signP pre).length) (fun pre => (signP pre).map (Value.int .u8)) (fun _ _ => True)) _) (Own.from (boxed_own _ _ _) _)) (ownFrom_below (Nat.le_refl _) (by simp; omega)))
    (fun _ _ _ _ _ hs _ _ => hs)
    ⟨⟨⟨_, bO.alloc _, by simpa [signP] using ro, trivial⟩, bB⟩, hB0⟩
    (fun x => { tmps := #[.slice a zs.length cap, undef, .string ⟨#[]⟩, .pointer (some ⟨w.heap.size + 1, 0, none⟩), undef, .int .i64 x.1.2, .slice a zs.length cap, .int .i64 zs.length, .bool false, .slice (some ⟨w.heap.size, 0, none⟩) 0 0, .slice a zs.length cap, .func (.func 131) #[] #[.pointer (some ⟨w.heap.size + 1 + 1, 0, none⟩)], .int .i64 x.1.1, .int .i64 x.1.2, undef, undef, undef, undef, undef, undef, undef, undef], defers := [] }) ?assign ?body ?done ?stop
  case assign =>
    intro l x W K hK
    gi_wp2
    exact hK
  case body =>
    rintro l pre x W ⟨⟨⟨v, hv, hrow, _⟩, hbb⟩, hB⟩ hlt
    have hc := hv.cell
    have hf := hv.frozen
    have hca : ∀ o, (W.alloc o).cell? ⟨w.heap.size + 1, 0, none⟩ = some v := fun o => (hv.alloc o).cell
    have hpl : (signP pre).length ≤ pre.length := Nat.le_of_eq (signP_length pre)
    obtain ⟨⟨xi, xd⟩, hx⟩ := x
    dsimp only at hx ⊢
    have hd : 1 ≤ n - 1 - 1 := by omega
    have hmx : Try.prog.follows .mixedOrders = true := by kernel_rfl
    have e0 : IntKind.i64.wrap 0 = 0 := by decide
    have e1 : IntKind.i64.wrap 1 = 1 := by decide
    have e2 : IntKind.i64.wrap 2 = 2 := by decide
    rcases hx with rfl | rfl | rfl
    all_goals gi_wp2
    all_goals refine wpIn_region_any (by assumption) ?_
    all_goals try (change wpAnyIn _ _ _ _ _ _ _ _ _ (World.drew _))
    all_goals (
      refine wpAnyIn_ready (rs := [0, 1]) (by kernel_rfl) (by simp) (AllReadyIn.cons rfl (fun K hK => ?_) (AllReadyIn.cons rfl (fun K hK => ?_) AllReadyIn.nil))
      · go_simp; refine hK _ _ ?_; clear hK K
        refine wpAnyIn_ready (rs := [1]) (by kernel_rfl) (by simp) (AllReadyIn.cons rfl (fun K hK => ?_) AllReadyIn.nil)
        go_simp; refine hK _ _ ?_; clear hK K
        refine wpAnyIn_ready (rs := [2]) (by kernel_rfl) (by simp) (AllReadyIn.cons rfl (fun K hK => ?_) AllReadyIn.nil)
        go_simp; refine hK _ _ ?_; clear hK K
        refine wpAnyIn_ready (rs := [3]) (by kernel_rfl) (by simp) (AllReadyIn.cons rfl (fun K hK => ?_) AllReadyIn.nil)
        go_simp; refine hK _ _ ?_; clear hK K
        refine wpAnyIn_ready (rs := [4]) (by kernel_rfl) (by simp) (AllReadyIn.cons rfl (fun K hK => ?_) AllReadyIn.nil)
        go_simp; refine hK _ _ ?_; clear hK K
        (refine wpAnyIn_ready (rs := [5]) (by kernel_rfl) (by simp) (AllReadyIn.cons rfl (fun K hK => ?_) AllReadyIn.nil)
         refine Go.Proofs.Ytafnnnpcochnnaa.AppIn.wanted_then rfl ?_
         refine Go.Proofs.Ytafnnnpcochnnaa.AppIn.wpIn_append_own _ (.tmp 14) (.tmp 18) 48 rfl w.heap.size 5 i0 (.int .u8 0) 1 1 Try.underlying48 hi hz0 hz1 hz2 rfl (by decide) v (signP pre).length ((signP pre).map (Value.int .u8)) rfl (hrow.alloc _) ⟨W.heap.size, 0, none⟩ 1 1 [_] rfl rfl (by intro j u hj; exact cell_one_new W _ _ j u hj) (by simp [Value.oneCell']) (by simp only [maxLen]; omega) (by omega) (Nat.le_trans hB.size (by simp)) ?_
         intro v' w1 hown' hgrow0; have hgrow := Go.Proofs.Ytafnnnpcochnnaa.AppIn.undrew hgrow0
         obtain ⟨g', cap', rfl⟩ := ownsRow_succ hown'
         obtain ⟨hv1, hv2, hr2, hk2, hb2⟩ := Boxed.appended (tmp := .cells #[_] 5) hv (by decide) hrow hB.size (Nat.le_succ _) hown' hgrow
         have hbb2 := (((hbb.alloc _).kept hgrow (hbb.not_row (by decide) hrow)).other (B' := w.heap.size + 1) (by omega) (.slice (some ⟨g', 0, none⟩) ((signP pre).length + 1) cap'))
         have hc1 := hv1.cell
         have hf1 := hv1.frozen
         refine hK _ _ ?_; clear hK K
         refine wpAnyIn_ready (rs := [6]) (by kernel_rfl) (by simp) (AllReadyIn.cons rfl (fun K hK => ?_) AllReadyIn.nil)
         go_simp; refine hK _ _ ?_; clear hK K
         refine wpAnyIn_done (by kernel_rfl) ?_ _
         gi_wp2
         exact ⟨hk2.from _, ⟨hb2, fun cs t fr e => by have e' := e.symm.trans hbb; cases e'; exact hbb2⟩, ⟨⟨⟨_, hv2, by rw [signP_snoc, List.length_append, List.map_append]; exact hr2, trivial⟩, hbb2⟩, hB.trans hb2⟩⟩)
      · go_simp; refine hK _ _ ?_; clear hK K
        refine wpAnyIn_ready (rs := [0, 2]) (by kernel_rfl) (by simp) (AllReadyIn.cons rfl (fun K hK => ?_) (AllReadyIn.cons rfl (fun K hK => ?_) AllReadyIn.nil))
        · go_simp; refine hK _ _ ?_; clear hK K
          refine wpAnyIn_ready (rs := [2]) (by kernel_rfl) (by simp) (AllReadyIn.cons rfl (fun K hK => ?_) AllReadyIn.nil)
          go_simp; refine hK _ _ ?_; clear hK K
          refine wpAnyIn_ready (rs := [3]) (by kernel_rfl) (by simp) (AllReadyIn.cons rfl (fun K hK => ?_) AllReadyIn.nil)
          go_simp; refine hK _ _ ?_; clear hK K
          refine wpAnyIn_ready (rs := [4]) (by kernel_rfl) (by simp) (AllReadyIn.cons rfl (fun K hK => ?_) AllReadyIn.nil)
          go_simp; refine hK _ _ ?_; clear hK K
          (refine wpAnyIn_ready (rs := [5]) (by kernel_rfl) (by simp) (AllReadyIn.cons rfl (fun K hK => ?_) AllReadyIn.nil)
           refine Go.Proofs.Ytafnnnpcochnnaa.AppIn.wanted_then rfl ?_
           refine Go.Proofs.Ytafnnnpcochnnaa.AppIn.wpIn_append_own _ (.tmp 14) (.tmp 18) 48 rfl w.heap.size 5 i0 (.int .u8 0) 1 1 Try.underlying48 hi hz0 hz1 hz2 rfl (by decide) v (signP pre).length ((signP pre).map (Value.int .u8)) rfl (hrow.alloc _) ⟨W.heap.size, 0, none⟩ 1 1 [_] rfl rfl (by intro j u hj; exact cell_one_new W _ _ j u hj) (by simp [Value.oneCell']) (by simp only [maxLen]; omega) (by omega) (Nat.le_trans hB.size (by simp)) ?_
           intro v' w1 hown' hgrow0; have hgrow := Go.Proofs.Ytafnnnpcochnnaa.AppIn.undrew hgrow0
           obtain ⟨g', cap', rfl⟩ := ownsRow_succ hown'
           obtain ⟨hv1, hv2, hr2, hk2, hb2⟩ := Boxed.appended (tmp := .cells #[_] 5) hv (by decide) hrow hB.size (Nat.le_succ _) hown' hgrow
           have hbb2 := (((hbb.alloc _).kept hgrow (hbb.not_row (by decide) hrow)).other (B' := w.heap.size + 1) (by omega) (.slice (some ⟨g', 0, none⟩) ((signP pre).length + 1) cap'))
           have hc1 := hv1.cell
           have hf1 := hv1.frozen
           refine hK _ _ ?_; clear hK K
           refine wpAnyIn_ready (rs := [6]) (by kernel_rfl) (by simp) (AllReadyIn.cons rfl (fun K hK => ?_) AllReadyIn.nil)
           go_simp; refine hK _ _ ?_; clear hK K
           refine wpAnyIn_done (by kernel_rfl) ?_ _
           gi_wp2
           exact ⟨hk2.from _, ⟨hb2, fun cs t fr e => by have e' := e.symm.trans hbb; cases e'; exact hbb2⟩, ⟨⟨⟨_, hv2, by rw [signP_snoc, List.length_append, List.map_append]; exact hr2, trivial⟩, hbb2⟩, hB.trans hb2⟩⟩)
        · go_simp; refine hK _ _ ?_; clear hK K
          refine wpAnyIn_ready (rs := [0, 3]) (by kernel_rfl) (by simp) (AllReadyIn.cons rfl (fun K hK => ?_) (AllReadyIn.cons rfl (fun K hK => ?_) AllReadyIn.nil))
          · go_simp; refine hK _ _ ?_; clear hK K
            refine wpAnyIn_ready (rs := [3]) (by kernel_rfl) (by simp) (AllReadyIn.cons rfl (fun K hK => ?_) AllReadyIn.nil)
            go_simp; refine hK _ _ ?_; clear hK K
            refine wpAnyIn_ready (rs := [4]) (by kernel_rfl) (by simp) (AllReadyIn.cons rfl (fun K hK => ?_) AllReadyIn.nil)
            go_simp; refine hK _ _ ?_; clear hK K
            (refine wpAnyIn_ready (rs := [5]) (by kernel_rfl) (by simp) (AllReadyIn.cons rfl (fun K hK => ?_) AllReadyIn.nil)
             refine Go.Proofs.Ytafnnnpcochnnaa.AppIn.wanted_then rfl ?_
             refine Go.Proofs.Ytafnnnpcochnnaa.AppIn.wpIn_append_own _ (.tmp 14) (.tmp 18) 48 rfl w.heap.size 5 i0 (.int .u8 0) 1 1 Try.underlying48 hi hz0 hz1 hz2 rfl (by decide) v (signP pre).length ((signP pre).map (Value.int .u8)) rfl (hrow.alloc _) ⟨W.heap.size, 0, none⟩ 1 1 [_] rfl rfl (by intro j u hj; exact cell_one_new W _ _ j u hj) (by simp [Value.oneCell']) (by simp only [maxLen]; omega) (by omega) (Nat.le_trans hB.size (by simp)) ?_
             intro v' w1 hown' hgrow0; have hgrow := Go.Proofs.Ytafnnnpcochnnaa.AppIn.undrew hgrow0
             obtain ⟨g', cap', rfl⟩ := ownsRow_succ hown'
             obtain ⟨hv1, hv2, hr2, hk2, hb2⟩ := Boxed.appended (tmp := .cells #[_] 5) hv (by decide) hrow hB.size (Nat.le_succ _) hown' hgrow
             have hbb2 := (((hbb.alloc _).kept hgrow (hbb.not_row (by decide) hrow)).other (B' := w.heap.size + 1) (by omega) (.slice (some ⟨g', 0, none⟩) ((signP pre).length + 1) cap'))
             have hc1 := hv1.cell
             have hf1 := hv1.frozen
             refine hK _ _ ?_; clear hK K
             refine wpAnyIn_ready (rs := [6]) (by kernel_rfl) (by simp) (AllReadyIn.cons rfl (fun K hK => ?_) AllReadyIn.nil)
             go_simp; refine hK _ _ ?_; clear hK K
             refine wpAnyIn_done (by kernel_rfl) ?_ _
             gi_wp2
             exact ⟨hk2.from _, ⟨hb2, fun cs t fr e => by have e' := e.symm.trans hbb; cases e'; exact hbb2⟩, ⟨⟨⟨_, hv2, by rw [signP_snoc, List.length_append, List.map_append]; exact hr2, trivial⟩, hbb2⟩, hB.trans hb2⟩⟩)
          · go_simp; refine hK _ _ ?_; clear hK K
            refine wpAnyIn_ready (rs := [0, 4]) (by kernel_rfl) (by simp) (AllReadyIn.cons rfl (fun K hK => ?_) (AllReadyIn.cons rfl (fun K hK => ?_) AllReadyIn.nil))
            · go_simp; refine hK _ _ ?_; clear hK K
              refine wpAnyIn_ready (rs := [4]) (by kernel_rfl) (by simp) (AllReadyIn.cons rfl (fun K hK => ?_) AllReadyIn.nil)
              go_simp; refine hK _ _ ?_; clear hK K
              (refine wpAnyIn_ready (rs := [5]) (by kernel_rfl) (by simp) (AllReadyIn.cons rfl (fun K hK => ?_) AllReadyIn.nil)
               refine Go.Proofs.Ytafnnnpcochnnaa.AppIn.wanted_then rfl ?_
               refine Go.Proofs.Ytafnnnpcochnnaa.AppIn.wpIn_append_own _ (.tmp 14) (.tmp 18) 48 rfl w.heap.size 5 i0 (.int .u8 0) 1 1 Try.underlying48 hi hz0 hz1 hz2 rfl (by decide) v (signP pre).length ((signP pre).map (Value.int .u8)) rfl (hrow.alloc _) ⟨W.heap.size, 0, none⟩ 1 1 [_] rfl rfl (by intro j u hj; exact cell_one_new W _ _ j u hj) (by simp [Value.oneCell']) (by simp only [maxLen]; omega) (by omega) (Nat.le_trans hB.size (by simp)) ?_
               intro v' w1 hown' hgrow0; have hgrow := Go.Proofs.Ytafnnnpcochnnaa.AppIn.undrew hgrow0
               obtain ⟨g', cap', rfl⟩ := ownsRow_succ hown'
               obtain ⟨hv1, hv2, hr2, hk2, hb2⟩ := Boxed.appended (tmp := .cells #[_] 5) hv (by decide) hrow hB.size (Nat.le_succ _) hown' hgrow
               have hbb2 := (((hbb.alloc _).kept hgrow (hbb.not_row (by decide) hrow)).other (B' := w.heap.size + 1) (by omega) (.slice (some ⟨g', 0, none⟩) ((signP pre).length + 1) cap'))
               have hc1 := hv1.cell
               have hf1 := hv1.frozen
               refine hK _ _ ?_; clear hK K
               refine wpAnyIn_ready (rs := [6]) (by kernel_rfl) (by simp) (AllReadyIn.cons rfl (fun K hK => ?_) AllReadyIn.nil)
               go_simp; refine hK _ _ ?_; clear hK K
               refine wpAnyIn_done (by kernel_rfl) ?_ _
               gi_wp2
               exact ⟨hk2.from _, ⟨hb2, fun cs t fr e => by have e' := e.symm.trans hbb; cases e'; exact hbb2⟩, ⟨⟨⟨_, hv2, by rw [signP_snoc, List.length_append, List.map_append]; exact hr2, trivial⟩, hbb2⟩, hB.trans hb2⟩⟩)
            · go_simp; refine hK _ _ ?_; clear hK K
              refine wpAnyIn_ready (rs := [0]) (by kernel_rfl) (by simp) (AllReadyIn.cons rfl (fun K hK => ?_) AllReadyIn.nil)
              go_simp; refine hK _ _ ?_; clear hK K
              (refine wpAnyIn_ready (rs := [5]) (by kernel_rfl) (by simp) (AllReadyIn.cons rfl (fun K hK => ?_) AllReadyIn.nil)
               refine Go.Proofs.Ytafnnnpcochnnaa.AppIn.wanted_then rfl ?_
               refine Go.Proofs.Ytafnnnpcochnnaa.AppIn.wpIn_append_own _ (.tmp 14) (.tmp 18) 48 rfl w.heap.size 5 i0 (.int .u8 0) 1 1 Try.underlying48 hi hz0 hz1 hz2 rfl (by decide) v (signP pre).length ((signP pre).map (Value.int .u8)) rfl (hrow.alloc _) ⟨W.heap.size, 0, none⟩ 1 1 [_] rfl rfl (by intro j u hj; exact cell_one_new W _ _ j u hj) (by simp [Value.oneCell']) (by simp only [maxLen]; omega) (by omega) (Nat.le_trans hB.size (by simp)) ?_
               intro v' w1 hown' hgrow0; have hgrow := Go.Proofs.Ytafnnnpcochnnaa.AppIn.undrew hgrow0
               obtain ⟨g', cap', rfl⟩ := ownsRow_succ hown'
               obtain ⟨hv1, hv2, hr2, hk2, hb2⟩ := Boxed.appended (tmp := .cells #[_] 5) hv (by decide) hrow hB.size (Nat.le_succ _) hown' hgrow
               have hbb2 := (((hbb.alloc _).kept hgrow (hbb.not_row (by decide) hrow)).other (B' := w.heap.size + 1) (by omega) (.slice (some ⟨g', 0, none⟩) ((signP pre).length + 1) cap'))
               have hc1 := hv1.cell
               have hf1 := hv1.frozen
               refine hK _ _ ?_; clear hK K
               refine wpAnyIn_ready (rs := [6]) (by kernel_rfl) (by simp) (AllReadyIn.cons rfl (fun K hK => ?_) AllReadyIn.nil)
               go_simp; refine hK _ _ ?_; clear hK K
               refine wpAnyIn_done (by kernel_rfl) ?_ _
               gi_wp2
               exact ⟨hk2.from _, ⟨hb2, fun cs t fr e => by have e' := e.symm.trans hbb; cases e'; exact hbb2⟩, ⟨⟨⟨_, hv2, by rw [signP_snoc, List.length_append, List.map_append]; exact hr2, trivial⟩, hbb2⟩, hB.trans hb2⟩⟩)
    )
  case done =>
    rintro D ys W hD rfl ⟨⟨⟨v, hv, hrow, _⟩, _⟩, hB⟩ hK
    have hc := hv.cell
    rw [sdig_all zs hz] at hrow
    have hcv : (convert 48 9 v).run Try.prog W = _ := own_string Try.underlying48 Try.underlying5 Try.underlying9 hrow
    gi_wp2
    refine ⟨by simp, .inl ⟨_, _, rfl, run_takeDeferred hK, ?_⟩⟩
    exact ⟨_, results_tmp rfl _ _ _, by rw [List.map_reverse]; rfl, hB.trans (belowK_b (w := w) (Nat.le_refl _) W D _ _ (by simp at hD; omega) hK rfl rfl)⟩
  case stop =>
    rintro D c pre W _ _ h _
    exact h.elim
set_option maxRecDepth 100000 in
set_option maxHeartbeats 4000000 in
theorem signedText_empty (A0 : Option Addr) (c0 : Nat) (w : World) : Calls Try.prog 109 #[.slice A0 0 c0] w fun e w' => e = .returned (.string ⟨#[61]⟩) ∧ Below w.heap.size w w' := by
  go_enter Try.func109, Try.ntmps109
  go_wp2
  go_ret
  exact ⟨rfl, by first | exact Below.refl _ _ | (repeat (first | (with_reducible first | exact Below.refl _ _ | apply below_alloc | apply pw_below_drewN | apply below_drew1)))⟩
theorem impl_signedText.calls (A0 : Option Addr) (c0 : Nat) (l0 : List Int) (r : ByteArray) (w : World) (hr0 : Kd.C (Kd.int .i64) w A0 l0.length l0) (hc0 : l0.length ≤ c0) (h : impl_signedText.f l0 = some r) :
    Calls Try.prog 109 #[.slice A0 l0.length c0] w fun e w' => e = .returned (.string r) ∧ Below w.heap.size w w' := by
  unfold impl_signedText.f at h
  split at h
  · rename_i h0
    obtain rfl := Option.some.inj h
    rw [h0]
    exact signedText_empty A0 c0 w
  · rename_i h0
    split at h
    · rename_i hz
      obtain rfl := Option.some.inj h
      exact callsIn_wide.1 (signedText_in Fence.wide 5 trivial trivial trivial rfl (by omega) A0 l0.length c0 l0 rfl (by omega) hz.1 hz.2 w (YtafnnnpcochnnaaBack.ints_of hr0 (Nat.le_refl _)))
    · cases h

/-! ### impl_SignedText: function 39 -/
def impl_SignedText.f (l0 : List Int) : Option (ByteArray × Bool) := (impl_isDigits.f l0).bind fun t174 => (if t174 = true then ((impl_signedText.f l0).bind fun t175 => (some (t175, true))) else (some ((⟨#[]⟩ : ByteArray), false)))
set_option maxHeartbeats 8000000 in
set_option maxRecDepth 100000 in
theorem impl_SignedText.calls (A0 : Option Addr) (c0 : Nat) (l0 : List Int) (r1 : ByteArray) (r2 : Bool) (w : World) (hr0 : Kd.C (Kd.int .i64) w A0 l0.length l0) (hc0 : l0.length ≤ c0) (h : impl_SignedText.f l0 = some (r1, r2)) :
    Calls Try.prog 39 #[.slice A0 l0.length c0] w fun e w' => e = .returned (.tuple #[.string r1, .bool r2]) ∧ Below w.heap.size w w' := by
  have HR0 := Aside0.mk hr0
  have HC0 := Aside0.mk hc0
  clear hr0 hc0
  have HB := Aside0.mk (Below.refl w.heap.size w)
  have H : ((impl_isDigits.f l0).bind fun t174 => (if t174 = true then ((impl_signedText.f l0).bind fun t175 => (some (t175, true))) else (some ((⟨#[]⟩ : ByteArray), false)))) = some (r1, r2) := h
  clear h
  replace H := Option.bind_eq_some_iff.mp H
  obtain ⟨t174, A20, H⟩ := H
  replace H : (if t174 = true then ((impl_signedText.f l0).bind fun t175 => (some (t175, true))) else (some ((⟨#[]⟩ : ByteArray), false))) = some (r1, r2) := H
  have A2 := Aside0.mk A20
  clear A20
  by_cases c3 : t174 = true
  · subst c3
    have H1 : ((impl_signedText.f l0).bind fun t175 => (some (t175, true))) = some (r1, r2) := by rw [if_pos rfl] at H; exact H
    clear H
    have H := H1
    clear H1
    replace H := Option.bind_eq_some_iff.mp H
    obtain ⟨t175, A40, H⟩ := H
    replace H : (some (t175, true)) = some (r1, r2) := H
    have A4 := Aside0.mk A40
    clear A40
    simp only [Option.some.injEq, Prod.mk.injEq] at H
    obtain ⟨rfl, rfl⟩ := H
    go_enter Try.func39, Try.ntmps39
    go_wp2_with (first | ((with_reducible refine gate_callee (f := 108) rfl ?_); refine goesL_ (some 5) rfl rfl Try.func108 (by kernel_rfl) rfl #[.slice A0 l0.length c0] rfl (by (try simp only [List.map_toArray, List.map_cons, List.map_nil]); first | done | rfl | (simp only [List.length_drop, List.length_take]; rfl)) ?_; (with_reducible refine (impl_isDigits.calls _ _ l0 true _ ?side1 ?side2 A2.out).mono ?_); (case side1 => repeat (first | exact HR0.out | (with_reducible refine Kd.C_alloc ?_ _) | (with_reducible refine Kd.C_drewN ?_ _) | (with_reducible refine Kd.C_drew ?_))); (case side2 => exact HC0.out); rintro e w' ⟨rfl, ⟨nd, rfl⟩⟩; refine ⟨_, rfl, ?_⟩) | ((with_reducible refine gate_callee (f := 109) rfl ?_); refine goesL_ (some 8) rfl rfl Try.func109 (by kernel_rfl) rfl #[.slice A0 l0.length c0] rfl (by (try simp only [List.map_toArray, List.map_cons, List.map_nil]); first | done | rfl | (simp only [List.length_drop, List.length_take]; rfl)) ?_; (with_reducible refine (impl_signedText.calls _ _ l0 t175 _ ?side1 ?side2 A4.out).mono ?_); (case side1 => repeat (first | exact HR0.out | (with_reducible refine Kd.C_alloc ?_ _) | (with_reducible refine Kd.C_drewN ?_ _) | (with_reducible refine Kd.C_drew ?_))); (case side2 => exact HC0.out); rintro e w5 ⟨rfl, hb⟩; refine ⟨_, rfl, ?_⟩; have n0_ := Aside0.mk (below_step (by repeat (first | (with_reducible first | exact HB.out | apply below_alloc | apply pw_below_drewN | apply below_drew1) | exact HB.out)) hb); clear HB; have HB := n0_; clear n0_; (try clear hb); (try clear hb2); (try clear hk); (try clear hi)))
    go_ret2
    exact ⟨by first | rfl | (simp [errW_none, errW_some] <;> rfl) | (simp [*, errW_none, errW_some] <;> rfl), by repeat (first | (with_reducible first | exact HB.out | apply below_alloc | apply pw_below_drewN | apply below_drew1) | exact HB.out)⟩
  · replace c3 := Bool.eq_false_iff.mpr c3
    subst c3
    have H1 : (some ((⟨#[]⟩ : ByteArray), false)) = some (r1, r2) := by rw [if_neg (show ¬ (false = true) by decide)] at H; exact H
    clear H
    have H := H1
    clear H1
    simp only [Option.some.injEq, Prod.mk.injEq] at H
    obtain ⟨rfl, rfl⟩ := H
    go_enter Try.func39, Try.ntmps39
    go_wp2_with (first | ((with_reducible refine gate_callee (f := 108) rfl ?_); refine goesL_ (some 5) rfl rfl Try.func108 (by kernel_rfl) rfl #[.slice A0 l0.length c0] rfl (by (try simp only [List.map_toArray, List.map_cons, List.map_nil]); first | done | rfl | (simp only [List.length_drop, List.length_take]; rfl)) ?_; (with_reducible refine (impl_isDigits.calls _ _ l0 false _ ?side1 ?side2 A2.out).mono ?_); (case side1 => repeat (first | exact HR0.out | (with_reducible refine Kd.C_alloc ?_ _) | (with_reducible refine Kd.C_drewN ?_ _) | (with_reducible refine Kd.C_drew ?_))); (case side2 => exact HC0.out); rintro e w' ⟨rfl, ⟨nd, rfl⟩⟩; refine ⟨_, rfl, ?_⟩))
    go_ret2
    exact ⟨by first | rfl | (simp [errW_none, errW_some] <;> rfl) | (simp [*, errW_none, errW_some] <;> rfl), by repeat (first | (with_reducible first | exact HB.out | apply below_alloc | apply pw_below_drewN | apply below_drew1) | exact HB.out)⟩

/-! ### spec_l1In: function 89 -/
def spec_l1In.f (a0 : Int) (a1 : Int) (a2 : Int) : Option (Bool) := if a0 ≥ a1 then (some (decide (a0 ≤ a2))) else (some false)
set_option maxHeartbeats 8000000 in
set_option maxRecDepth 100000 in
theorem spec_l1In.calls (a0 : Int) (a1 : Int) (a2 : Int) (r : Bool) (w : World) (h : spec_l1In.f a0 a1 a2 = some r) :
    Calls Try.prog 89 #[.int .i64 a0, .int .i64 a1, .int .i64 a2] w fun e w' => e = .returned (.bool r) ∧ Drawn0 w w' := by
  have H : (if a0 ≥ a1 then (some (decide (a0 ≤ a2))) else (some false)) = some r := h
  clear h
  by_cases c4 : a0 ≥ a1
  · rw [if_pos c4] at H
    have c4b0 : decide (a1 ≤ a0) = true := decide_eq_true c4
    clear c4
    obtain rfl := Option.some.inj H
    go_enter Try.func89, Try.ntmps89
    go_wp2
    go_ret
    exact ⟨by first | rfl | (simp; done) | (simp [*]; done), by repeat (first | exact Drawn0.refl _ | apply Drawn0.step)⟩
  · rw [if_neg c4] at H
    have c4b0 : decide (a1 ≤ a0) = false := decide_eq_false c4
    clear c4
    obtain rfl := Option.some.inj H
    go_enter Try.func89, Try.ntmps89
    go_wp2
    go_ret
    exact ⟨by first | rfl | (simp; done) | (simp [*]; done), by repeat (first | exact Drawn0.refl _ | apply Drawn0.step)⟩

/-! ### spec_l1All: function 77 -/
def spec_l1All.l0 : Nat → Int → Int → List Int → Int → Int → Option (Bool)
  | 0, _, _, _, _, _ => none
  | k + 1, x1, x2, x9, x10, x11 => if x11 < x10 then (if 0 ≤ x11 then (if x11 < (x9.length : Int) then ((spec_l1In.f (rd x9 x11) x1 x2).bind fun t177 => (if t177 = true then (spec_l1All.l0 k x1 x2 x9 x10 (wrap64 (x11 + 1))) else (some false))) else (none)) else (none)) else (some true)
def spec_l1All.f (k : Nat) (l0 : List Int) (a1 : Int) (a2 : Int) : Option (Bool) := spec_l1All.l0 k a1 a2 l0 (l0.length : Int) 0
theorem spec_l1All.mono_l : ∀ k, (∀ y0 y1 y2 y3 y4, LeO (spec_l1All.l0 k y0 y1 y2 y3 y4) (spec_l1All.l0 (k + 1) y0 y1 y2 y3 y4))
  | 0 => fun _ _ _ _ _ r h => by simp [spec_l1All.l0] at h
  | k + 1 => by
    have ih0 := spec_l1All.mono_l k
    · intro y0 y1 y2 y3 y4
      unfold spec_l1All.l0
      repeat' first
      | (with_reducible exact ih0 _ _ _ _ _)
      | (with_reducible exact LeO.refl _)
      | (with_reducible exact LeO.none _)
      | (with_reducible refine LeO.ite ?_ ?_)
      | (with_reducible refine LeO.bind ?_ (fun _ => ?_))
      | exact ih0 _ _ _ _ _
      | exact LeO.none _
      | refine LeO.ite ?_ ?_
      | refine LeO.bind ?_ (fun _ => ?_)
theorem spec_l1All.mono : ∀ a0 a1 a2 k, LeO (spec_l1All.f k a0 a1 a2) (spec_l1All.f (k + 1) a0 a1 a2) := by
  intro a0 a1 a2 k
  have ih0 := spec_l1All.mono_l k
  unfold spec_l1All.f
  repeat' first
      | (with_reducible exact ih0 _ _ _ _ _)
      | (with_reducible exact LeO.refl _)
      | (with_reducible exact LeO.none _)
      | (with_reducible refine LeO.ite ?_ ?_)
      | (with_reducible refine LeO.bind ?_ (fun _ => ?_))
      | exact ih0 _ _ _ _ _
      | exact LeO.none _
      | refine LeO.ite ?_ ?_
      | refine LeO.bind ?_ (fun _ => ?_)
set_option maxHeartbeats 8000000 in
set_option maxRecDepth 100000 in
theorem spec_l1All.calls (k : Nat) (A0 : Option Addr) (c0 : Nat) (l0 : List Int) (a1 : Int) (a2 : Int) (r : Bool) (w : World) (hr0 : Kd.C (Kd.int .i64) w A0 l0.length l0) (hc0 : l0.length ≤ c0) (h : spec_l1All.f k l0 a1 a2 = some r) :
    Calls Try.prog 77 #[.slice A0 l0.length c0, .int .i64 a1, .int .i64 a2] w fun e w' => e = .returned (.bool r) ∧ Drawn0 w w' := by
  have HR0 := Aside0.mk hr0
  have HC0 := Aside0.mk hc0
  clear hr0 hc0
  have H : (spec_l1All.l0 k a1 a2 l0 (l0.length : Int) 0) = some r := h
  clear h
  have H' := Aside0.mk H
  clear H
  go_enter Try.func77, Try.ntmps77
  go_wp2
  go_loopg [11] k (fun kq v11 w' => ∃ (x11_1 : Int), v11 = .int .i64 x11_1 ∧ Aside0 (spec_l1All.l0 kq a1 a2 l0 (l0.length : Int) x11_1 = some r) ∧ Aside0 (kq ≤ k) ∧ Drawn0 w w')
  case atStart => exact ⟨(0), (by first | rfl | (simp; done) | (simp [*]; done)), H', ⟨Nat.le_refl _⟩, by repeat (first | exact Drawn0.refl _ | apply Drawn0.step)⟩
  case round =>
    clear H'
    try clear p2
    obtain ⟨x11_1, rfl, HA, HK1, ⟨m1, rfl⟩⟩ := hrel
    cases gk with
    | zero => exact absurd HA.out (by simp [spec_l1All.l0])
    | succ k1 =>
      have H := HA.out
      clear HA
      simp only [spec_l1All.l0] at H
      by_cases c4 : x11_1 < (l0.length : Int)
      · rw [if_pos c4] at H
        have c4b0 : decide (x11_1 < (l0.length : Int)) = true := decide_eq_true c4
        clear c4
        by_cases c5 : 0 ≤ x11_1
        · rw [if_pos c5] at H
          have c5b0 : decide (0 ≤ x11_1) = true := decide_eq_true c5
          clear c5
          by_cases c6 : x11_1 < (l0.length : Int)
          · rw [if_pos c6] at H
            have c6b0 : decide (x11_1 < (l0.length : Int)) = true := decide_eq_true c6
            clear c6
            replace H := Option.bind_eq_some_iff.mp H
            obtain ⟨t177, A70, H⟩ := H
            replace H : (if t177 = true then (spec_l1All.l0 k1 a1 a2 l0 (l0.length : Int) (wrap64 (x11_1 + 1))) else (some false)) = some r := H
            have A7 := Aside0.mk A70
            clear A70
            by_cases c8 : t177 = true
            · subst c8
              have H1 : (spec_l1All.l0 k1 a1 a2 l0 (l0.length : Int) (wrap64 (x11_1 + 1))) = some r := by rw [if_pos rfl] at H; exact H
              clear H
              have H := H1
              clear H1
              have H' := Aside0.mk H
              clear H
              have p176 : 0 ≤ (x11_1 : Int) := of_decide_eq_true (by first | (with_reducible assumption) | assumption)
              have q176 : x11_1 < (l0.length : Int) := of_decide_eq_true (by first | (with_reducible assumption) | assumption)
              obtain ⟨ad176, e176, hx176_0⟩ := Kd.at_int HR0.out x11_1 p176 q176
              cases e176
              replace p176 := eq_true p176
              replace q176 := eq_true q176
              go_wp2_with (first | ((with_reducible refine gate_callee (f := 89) rfl ?_); refine goesL_ (some 18) rfl rfl Try.func89 (by kernel_rfl) rfl #[.int .i64 (rd l0 x11_1), .int .i64 a1, .int .i64 a2] rfl (by (try simp only [List.map_toArray, List.map_cons, List.map_nil]); first | done | rfl | (simp only [List.length_drop, List.length_take]; rfl)) ?_; (with_reducible refine (spec_l1In.calls (rd l0 x11_1) a1 a2 true _ A7.out).mono ?_); rintro e w' ⟨rfl, ⟨nd, rfl⟩⟩; refine ⟨_, rfl, ?_⟩))
              go_roundg k1
              case measure => have := HK1.out; omega
              case rel => exact ⟨(wrap64 (x11_1 + 1)), (by first | rfl | (simp; done) | (simp [*]; done)), H', ⟨by have := HK1.out; omega⟩, by repeat (first | exact Drawn0.refl _ | apply Drawn0.step)⟩
            · replace c8 := Bool.eq_false_iff.mpr c8
              subst c8
              have H1 : (some false) = some r := by rw [if_neg (show ¬ (false = true) by decide)] at H; exact H
              clear H
              have H := H1
              clear H1
              obtain rfl := Option.some.inj H
              have p176 : 0 ≤ (x11_1 : Int) := of_decide_eq_true (by first | (with_reducible assumption) | assumption)
              have q176 : x11_1 < (l0.length : Int) := of_decide_eq_true (by first | (with_reducible assumption) | assumption)
              obtain ⟨ad176, e176, hx176_0⟩ := Kd.at_int HR0.out x11_1 p176 q176
              cases e176
              replace p176 := eq_true p176
              replace q176 := eq_true q176
              go_wp2_with (first | ((with_reducible refine gate_callee (f := 89) rfl ?_); refine goesL_ (some 18) rfl rfl Try.func89 (by kernel_rfl) rfl #[.int .i64 (rd l0 x11_1), .int .i64 a1, .int .i64 a2] rfl (by (try simp only [List.map_toArray, List.map_cons, List.map_nil]); first | done | rfl | (simp only [List.length_drop, List.length_take]; rfl)) ?_; (with_reducible refine (spec_l1In.calls (rd l0 x11_1) a1 a2 false _ A7.out).mono ?_); rintro e w' ⟨rfl, ⟨nd, rfl⟩⟩; refine ⟨_, rfl, ?_⟩))
              go_ret
              exact ⟨by first | rfl | (simp; done) | (simp [*]; done), by repeat (first | exact Drawn0.refl _ | apply Drawn0.step)⟩
          · rw [if_neg c6] at H
            exact absurd H (by simp)
        · rw [if_neg c5] at H
          exact absurd H (by simp)
      · rw [if_neg c4] at H
        have c4b0 : decide (x11_1 < (l0.length : Int)) = false := decide_eq_false c4
        clear c4
        obtain rfl := Option.some.inj H
        go_wp2
        go_ret
        exact ⟨by first | rfl | (simp; done) | (simp [*]; done), by repeat (first | exact Drawn0.refl _ | apply Drawn0.step)⟩

/-! ### spec_siDigits: function 110 -/
def spec_siDigits.f (k : Nat) (l0 : List Int) : Option (Bool) := if (l0.length : Int) ≤ 24 then ((spec_l1All.f k l0 (-1) 1).bind fun t178 => (some t178)) else (some false)
theorem spec_siDigits.mono : ∀ a0 k, LeO (spec_siDigits.f k a0) (spec_siDigits.f (k + 1) a0) := by
  intro a0 k
  unfold spec_siDigits.f
  repeat' first
      | (with_reducible exact spec_l1All.mono _ _ _ _)
      | (with_reducible exact LeO.refl _)
      | (with_reducible exact LeO.none _)
      | (with_reducible refine LeO.ite ?_ ?_)
      | (with_reducible refine LeO.bind ?_ (fun _ => ?_))
      | exact spec_l1All.mono _ _ _ _
      | exact LeO.none _
      | refine LeO.ite ?_ ?_
      | refine LeO.bind ?_ (fun _ => ?_)
set_option maxHeartbeats 8000000 in
set_option maxRecDepth 100000 in
theorem spec_siDigits.calls (k : Nat) (A0 : Option Addr) (c0 : Nat) (l0 : List Int) (r : Bool) (w : World) (hr0 : Kd.C (Kd.int .i64) w A0 l0.length l0) (hc0 : l0.length ≤ c0) (h : spec_siDigits.f k l0 = some r) :
    Calls Try.prog 110 #[.slice A0 l0.length c0] w fun e w' => e = .returned (.bool r) ∧ Drawn0 w w' := by
  have HR0 := Aside0.mk hr0
  have HC0 := Aside0.mk hc0
  clear hr0 hc0
  have H : (if (l0.length : Int) ≤ 24 then ((spec_l1All.f k l0 (-1) 1).bind fun t178 => (some t178)) else (some false)) = some r := h
  clear h
  by_cases c2 : (l0.length : Int) ≤ 24
  · rw [if_pos c2] at H
    have c2b0 : decide ((l0.length : Int) ≤ 24) = true := decide_eq_true c2
    have c2b1 : decide (l0.length ≤ 24) = true := decide_eq_true (by omega)
    clear c2
    replace H := Option.bind_eq_some_iff.mp H
    obtain ⟨t178, A30, H⟩ := H
    replace H : (some t178) = some r := H
    have A3 := Aside0.mk A30
    clear A30
    obtain rfl := Option.some.inj H
    go_enter Try.func110, Try.ntmps110
    go_wp2_with (first | (go_at_call 77; (with_reducible refine (spec_l1All.calls k _ _ l0 (-1) 1 t178 _ ?side1 ?side2 A3.out).mono ?_); (case side1 => repeat (first | exact HR0.out | (with_reducible refine Kd.C_alloc ?_ _) | (with_reducible refine Kd.C_drewN ?_ _) | (with_reducible refine Kd.C_drew ?_))); (case side2 => exact HC0.out); rintro e w' ⟨rfl, ⟨nd, rfl⟩⟩))
    go_ret
    exact ⟨by first | rfl | (simp; done) | (simp [*]; done), by repeat (first | exact Drawn0.refl _ | apply Drawn0.step)⟩
  · rw [if_neg c2] at H
    have c2b0 : decide ((l0.length : Int) ≤ 24) = false := decide_eq_false c2
    have c2b1 : decide (l0.length ≤ 24) = false := decide_eq_false (by omega)
    clear c2
    obtain rfl := Option.some.inj H
    go_enter Try.func110, Try.ntmps110
    go_wp2
    go_ret
    exact ⟨by first | rfl | (simp; done) | (simp [*]; done), by repeat (first | exact Drawn0.refl _ | apply Drawn0.step)⟩

/-! ### spec_SignedText: function 40 -/
def spec_SignedText.l0 : Nat → ByteArray → List Int → Int → Int → Option (ByteArray × Bool)
  | 0, _, _, _, _ => none
  | k + 1, x4, x13, x14, x15 => if x15 < x14 then (if 0 ≤ x15 then (if x15 < (x13.length : Int) then ((some (([(⟨#[45]⟩ : ByteArray), (⟨#[48]⟩ : ByteArray), (⟨#[43]⟩ : ByteArray)] : List ByteArray) : List ByteArray)).bind fun y181 => (if 0 ≤ (wrap64 ((rd x13 x15) + 1)) then (if (wrap64 ((rd x13 x15) + 1)) < (y181.length : Int) then (if (rdOf ByteArray.empty y181 (wrap64 ((rd x13 x15) + 1))).size + x4.size ≤ 9223372036854775807 then (spec_SignedText.l0 k ((rdOf ByteArray.empty y181 (wrap64 ((rd x13 x15) + 1))) ++ x4) x13 x14 (wrap64 (x15 + 1))) else (none)) else (none)) else (none))) else (none)) else (none)) else (some (x4, true))
def spec_SignedText.f (k : Nat) (l0 : List Int) : Option (ByteArray × Bool) := (spec_siDigits.f k l0).bind fun t179 => (if t179 = true then (if (l0.length : Int) = 0 then (some ((⟨#[61]⟩ : ByteArray), true)) else (spec_SignedText.l0 k (⟨#[]⟩ : ByteArray) l0 (l0.length : Int) 0)) else (some ((⟨#[]⟩ : ByteArray), false)))
theorem spec_SignedText.mono_l : ∀ k, (∀ y0 y1 y2 y3, LeO (spec_SignedText.l0 k y0 y1 y2 y3) (spec_SignedText.l0 (k + 1) y0 y1 y2 y3))
  | 0 => fun _ _ _ _ r h => by simp [spec_SignedText.l0] at h
  | k + 1 => by
    have ih0 := spec_SignedText.mono_l k
    · intro y0 y1 y2 y3
      unfold spec_SignedText.l0
      repeat' first
      | (with_reducible exact ih0 _ _ _ _)
      | (with_reducible exact spec_siDigits.mono _ _)
      | (with_reducible exact LeO.refl _)
      | (with_reducible exact LeO.none _)
      | (with_reducible refine LeO.ite ?_ ?_)
      | (with_reducible refine LeO.bind ?_ (fun _ => ?_))
      | exact ih0 _ _ _ _
      | exact spec_siDigits.mono _ _
      | exact LeO.none _
      | refine LeO.ite ?_ ?_
      | refine LeO.bind ?_ (fun _ => ?_)
theorem spec_SignedText.mono : ∀ a0 k, LeO (spec_SignedText.f k a0) (spec_SignedText.f (k + 1) a0) := by
  intro a0 k
  have ih0 := spec_SignedText.mono_l k
  unfold spec_SignedText.f
  repeat' first
      | (with_reducible exact ih0 _ _ _ _)
      | (with_reducible exact spec_siDigits.mono _ _)
      | (with_reducible exact LeO.refl _)
      | (with_reducible exact LeO.none _)
      | (with_reducible refine LeO.ite ?_ ?_)
      | (with_reducible refine LeO.bind ?_ (fun _ => ?_))
      | exact ih0 _ _ _ _
      | exact spec_siDigits.mono _ _
      | exact LeO.none _
      | refine LeO.ite ?_ ?_
      | refine LeO.bind ?_ (fun _ => ?_)
set_option maxHeartbeats 8000000 in
set_option maxRecDepth 100000 in
theorem spec_SignedText.calls (k : Nat) (A0 : Option Addr) (c0 : Nat) (l0 : List Int) (r1 : ByteArray) (r2 : Bool) (w : World) (hr0 : Kd.C (Kd.int .i64) w A0 l0.length l0) (hc0 : l0.length ≤ c0) (h : spec_SignedText.f k l0 = some (r1, r2)) :
    Calls Try.prog 40 #[.slice A0 l0.length c0] w fun e w' => e = .returned (.tuple #[.string r1, .bool r2]) ∧ Below w.heap.size w w' := by
  have HR0 := Aside0.mk hr0
  have HC0 := Aside0.mk hc0
  clear hr0 hc0
  have HB := Aside0.mk (Below.refl w.heap.size w)
  have H : ((spec_siDigits.f k l0).bind fun t179 => (if t179 = true then (if (l0.length : Int) = 0 then (some ((⟨#[61]⟩ : ByteArray), true)) else (spec_SignedText.l0 k (⟨#[]⟩ : ByteArray) l0 (l0.length : Int) 0)) else (some ((⟨#[]⟩ : ByteArray), false)))) = some (r1, r2) := h
  clear h
  replace H := Option.bind_eq_some_iff.mp H
  obtain ⟨t179, A20, H⟩ := H
  replace H : (if t179 = true then (if (l0.length : Int) = 0 then (some ((⟨#[61]⟩ : ByteArray), true)) else (spec_SignedText.l0 k (⟨#[]⟩ : ByteArray) l0 (l0.length : Int) 0)) else (some ((⟨#[]⟩ : ByteArray), false))) = some (r1, r2) := H
  have A2 := Aside0.mk A20
  clear A20
  by_cases c3 : t179 = true
  · subst c3
    have H1 : (if (l0.length : Int) = 0 then (some ((⟨#[61]⟩ : ByteArray), true)) else (spec_SignedText.l0 k (⟨#[]⟩ : ByteArray) l0 (l0.length : Int) 0)) = some (r1, r2) := by rw [if_pos rfl] at H; exact H
    clear H
    have H := H1
    clear H1
    by_cases c4 : (l0.length : Int) = 0
    · rw [if_pos c4] at H
      have c4b0 : ((l0.length : Int) == 0) = true := beq_iff_eq.mpr c4
      have c4b1 : ((l0.length : Int) != 0) = false := bne_eq_false_iff_eq.mpr c4
      clear c4
      simp only [Option.some.injEq, Prod.mk.injEq] at H
      obtain ⟨rfl, rfl⟩ := H
      go_enter Try.func40, Try.ntmps40
      go_wp2_with (first | ((with_reducible refine gate_callee (f := 110) rfl ?_); refine goesL_ (some 8) rfl rfl Try.func110 (by kernel_rfl) rfl #[.slice A0 l0.length c0] rfl (by (try simp only [List.map_toArray, List.map_cons, List.map_nil]); first | done | rfl | (simp only [List.length_drop, List.length_take]; rfl)) ?_; (with_reducible refine (spec_siDigits.calls k _ _ l0 true _ ?side1 ?side2 A2.out).mono ?_); (case side1 => repeat (first | exact HR0.out | (with_reducible refine Kd.C_alloc ?_ _) | (with_reducible refine Kd.C_drewN ?_ _) | (with_reducible refine Kd.C_drew ?_))); (case side2 => exact HC0.out); rintro e w' ⟨rfl, ⟨nd, rfl⟩⟩; refine ⟨_, rfl, ?_⟩))
      go_ret2
      exact ⟨by first | rfl | (simp [errW_none, errW_some] <;> rfl) | (simp [*, errW_none, errW_some] <;> rfl), by repeat (first | (with_reducible first | exact HB.out | apply below_alloc | apply pw_below_drewN | apply below_drew1) | exact HB.out)⟩
    · rw [if_neg c4] at H
      have c4b0 : ((l0.length : Int) == 0) = false := beq_eq_false_iff_ne.mpr c4
      have c4b1 : ((l0.length : Int) != 0) = true := bne_iff_ne.mpr c4
      have c4b2 : ¬ (l0 = []) := fun h_ => c4 (by rw [h_]; rfl)
      have H' := Aside0.mk H
      clear H
      go_enter Try.func40, Try.ntmps40
      go_wp2_with (first | ((with_reducible refine gate_callee (f := 110) rfl ?_); refine goesL_ (some 8) rfl rfl Try.func110 (by kernel_rfl) rfl #[.slice A0 l0.length c0] rfl (by (try simp only [List.map_toArray, List.map_cons, List.map_nil]); first | done | rfl | (simp only [List.length_drop, List.length_take]; rfl)) ?_; (with_reducible refine (spec_siDigits.calls k _ _ l0 true _ ?side1 ?side2 A2.out).mono ?_); (case side1 => repeat (first | exact HR0.out | (with_reducible refine Kd.C_alloc ?_ _) | (with_reducible refine Kd.C_drewN ?_ _) | (with_reducible refine Kd.C_drew ?_))); (case side2 => exact HC0.out); rintro e w' ⟨rfl, ⟨nd, rfl⟩⟩; refine ⟨_, rfl, ?_⟩))
      go_loopg [4, 15] k (fun kq v4 v15 w' => ∃ (x4_1 : ByteArray) (x15_1 : Int), v4 = .string x4_1 ∧ v15 = .int .i64 x15_1 ∧ Aside0 (spec_SignedText.l0 kq x4_1 l0 (l0.length : Int) x15_1 = some (r1, r2)) ∧ Aside0 (kq ≤ k) ∧ Aside0 (Below w.heap.size w w'))
      case atStart => exact ⟨((⟨#[]⟩ : ByteArray)), (0), (by first | rfl | (simp; done) | (simp [*]; done)), (by first | rfl | (simp; done) | (simp [*]; done)), H', ⟨Nat.le_refl _⟩, ⟨by repeat (first | (with_reducible first | exact HB.out | apply below_alloc | apply pw_below_drewN | apply below_drew1) | exact HB.out)⟩⟩
      case round =>
        clear H'
        try clear c1
        try clear p2
        try clear c3
        try clear c4
        try clear c4b0
        try clear c4b1
        try clear c4b2
        obtain ⟨x4_1, x15_1, rfl, rfl, HA, HK1, HB⟩ := hrel
        cases gk with
        | zero => exact absurd HA.out (by simp [spec_SignedText.l0])
        | succ k1 =>
          have H := HA.out
          clear HA
          simp only [spec_SignedText.l0] at H
          by_cases c5 : x15_1 < (l0.length : Int)
          · rw [if_pos c5] at H
            have c5b0 : decide (x15_1 < (l0.length : Int)) = true := decide_eq_true c5
            clear c5
            by_cases c6 : 0 ≤ x15_1
            · rw [if_pos c6] at H
              have c6b0 : decide (0 ≤ x15_1) = true := decide_eq_true c6
              clear c6
              by_cases c7 : x15_1 < (l0.length : Int)
              · rw [if_pos c7] at H
                have c7b0 : decide (x15_1 < (l0.length : Int)) = true := decide_eq_true c7
                clear c7
                obtain ⟨y181, hy181⟩ : ∃ y_ : List ByteArray, y_ = (([(⟨#[45]⟩ : ByteArray), (⟨#[48]⟩ : ByteArray), (⟨#[43]⟩ : ByteArray)] : List ByteArray)) := ⟨_, rfl⟩
                replace H : (if 0 ≤ (wrap64 ((rd l0 x15_1) + 1)) then (if (wrap64 ((rd l0 x15_1) + 1)) < (y181.length : Int) then (if (rdOf ByteArray.empty y181 (wrap64 ((rd l0 x15_1) + 1))).size + x4_1.size ≤ 9223372036854775807 then (spec_SignedText.l0 k1 ((rdOf ByteArray.empty y181 (wrap64 ((rd l0 x15_1) + 1))) ++ x4_1) l0 (l0.length : Int) (wrap64 (x15_1 + 1))) else (none)) else (none)) else (none)) = some (r1, r2) := by first | (rw [hy181]; with_reducible exact H) | (have H2_ := (Option.bind_some _ _).symm.trans H; rw [hy181]; with_reducible exact H2_) | (have H2_ := (Option.bind_some _ _).symm.trans H; with_reducible exact H2_) | with_reducible exact H | (rw [hy181]; exact H) | exact H
                have Ny181 := Aside0.mk hy181
                clear hy181
                obtain ⟨ji8, hji8⟩ : ∃ j_ : Int, (wrap64 ((rd l0 x15_1) + 1)) = j_ := ⟨_, rfl⟩
                replace H : (if 0 ≤ (ji8) then (if (ji8) < (y181.length : Int) then (if (rdOf ByteArray.empty y181 (ji8)).size + x4_1.size ≤ 9223372036854775807 then (spec_SignedText.l0 k1 ((rdOf ByteArray.empty y181 (ji8)) ++ x4_1) l0 (l0.length : Int) (wrap64 (x15_1 + 1))) else (none)) else (none)) else (none)) = some (r1, r2) := by first | (rw [hji8] at H; exact H) | (simp only [hji8] at H ⊢; exact H)
                have hji8w : (IntKind.i64.wrap ((rd l0 x15_1) + 1)) = ji8 := (i64_w _).trans hji8
                by_cases c9 : 0 ≤ (ji8)
                · rw [if_pos c9] at H
                  have c9b0 : decide (0 ≤ (ji8)) = true := decide_eq_true c9
                  clear c9
                  by_cases c10 : (ji8) < (y181.length : Int)
                  · rw [if_pos c10] at H
                    have c10b0 : decide ((ji8) < (y181.length : Int)) = true := decide_eq_true c10
                    clear c10
                    by_cases c11 : (rdOf ByteArray.empty y181 (ji8)).size + x4_1.size ≤ 9223372036854775807
                    · rw [if_pos c11] at H
                      have c11b0 := eq_true c11
                      have c11b1 : decide ((rdOf ByteArray.empty y181 (ji8)).size + x4_1.size ≤ 9223372036854775807) = true := decide_eq_true c11
                      try have c11b2 : (9223372036854775807 < (rdOf ByteArray.empty y181 (ji8)).size + x4_1.size) = False := eq_false (Nat.not_lt.2 c11)
                      have H' := Aside0.mk H
                      clear H
                      have p180 : 0 ≤ (x15_1 : Int) := of_decide_eq_true (by first | (with_reducible assumption) | assumption)
                      have q180 : x15_1 < (l0.length : Int) := of_decide_eq_true (by first | (with_reducible assumption) | assumption)
                      obtain ⟨ad180, e180, hx180_0⟩ := Kd.at_int HR0.out x15_1 p180 q180
                      cases e180
                      replace hx180_0 := (HB.out.cell (World.block_lt_of_cell? w _ hx180_0)).trans hx180_0
                      replace p180 := eq_true p180
                      replace q180 := eq_true q180
                      go_wp2_with (first | ((with_reducible refine gate_dst (N := 19) rfl ?_); refine Kd.R_lit Kd.string _ 9 ?hg (N := 19) ?hd (xs := ([(⟨#[45]⟩ : ByteArray), (⟨#[48]⟩ : ByteArray), (⟨#[43]⟩ : ByteArray)] : List ByteArray)) (inner := [.string (⟨#[45]⟩ : ByteArray), .string (⟨#[48]⟩ : ByteArray), .string (⟨#[43]⟩ : ByteArray)]) (ok := fun _ => True) (okp := fun _ => True) ?hr ?hp (fun _ hk => hk) trivial (Below.refl _ _) (Nat.le_refl _) (by simp) ?_; (case hd => rfl); (case hg => rfl); (case hr => first | (go_simp; done) | (go_simp; rfl)); (case hp => exact (Reps.one (show Kd.M Kd.string _ _ _ (⟨#[45]⟩ : ByteArray) [.string (⟨#[45]⟩ : ByteArray)] from rfl) (Reps.one (show Kd.M Kd.string _ _ _ (⟨#[48]⟩ : ByteArray) [.string (⟨#[48]⟩ : ByteArray)] from rfl) (Reps.one (show Kd.M Kd.string _ _ _ (⟨#[43]⟩ : ByteArray) [.string (⟨#[43]⟩ : ByteArray)] from rfl) (Reps.none _ _))))); intro v182 w12 ho13 hb hg_ hnew_; clear hg_ hnew_; (first | rw [← Ny181.out] at ho13 | (simp only [Int.reduceToNat] at ho13; rw [← Ny181.out] at ho13)); have n0_ := Aside0.mk (Kd.R_lower ho13 (below_size (by repeat (first | (with_reducible first | exact HB.out | apply below_alloc | apply pw_below_drewN | apply below_drew1) | exact HB.out)))); have n1_ := Aside0.mk (below_step (by repeat (first | (with_reducible first | exact HB.out | apply below_alloc | apply pw_below_drewN | apply below_drew1) | exact HB.out)) hb); clear HB; have HO183 := n0_; have HB := n1_; clear n0_ n1_; clear hb ho13; obtain ⟨Ao14, co14, eo14⟩ := Kd.R_slice HO183.out; subst eo14; have p184 : 0 ≤ ((ji8) : Int) := of_decide_eq_true (by first | (with_reducible assumption) | assumption); have q184 : (ji8) < (y181.length : Int) := of_decide_eq_true (by first | (with_reducible assumption) | assumption); obtain ⟨ad184, e184, hx184_0⟩ := Kd.at_string (Kd.R_reads' HO183.out).2.2 (ji8) p184 q184; cases e184; replace p184 := eq_true p184; replace q184 := eq_true q184))
                      go_roundg k1
                      case measure => have := HK1.out; omega
                      case rel => exact ⟨((rdOf ByteArray.empty y181 (ji8)) ++ x4_1), (wrap64 (x15_1 + 1)), (by first | rfl | (simp; done) | (simp only [← hji8] <;> (first | rfl | simp)) | (simp [*]; done)), (by first | rfl | (simp; done) | (simp [*]; done)), H', ⟨by have := HK1.out; omega⟩, ⟨by repeat (first | (with_reducible first | exact HB.out | apply below_alloc | apply pw_below_drewN | apply below_drew1) | exact HB.out)⟩⟩
                    · rw [if_neg c11] at H
                      exact absurd H (by simp)
                  · rw [if_neg c10] at H
                    exact absurd H (by simp)
                · rw [if_neg c9] at H
                  exact absurd H (by simp)
              · rw [if_neg c7] at H
                exact absurd H (by simp)
            · rw [if_neg c6] at H
              exact absurd H (by simp)
          · rw [if_neg c5] at H
            have c5b0 : decide (x15_1 < (l0.length : Int)) = false := decide_eq_false c5
            clear c5
            simp only [Option.some.injEq, Prod.mk.injEq] at H
            obtain ⟨rfl, rfl⟩ := H
            go_wp2
            go_ret2
            exact ⟨by first | rfl | (simp [errW_none, errW_some] <;> rfl) | (simp [*, errW_none, errW_some] <;> rfl), by repeat (first | (with_reducible first | exact HB.out | apply below_alloc | apply pw_below_drewN | apply below_drew1) | exact HB.out)⟩
  · replace c3 := Bool.eq_false_iff.mpr c3
    subst c3
    have H1 : (some ((⟨#[]⟩ : ByteArray), false)) = some (r1, r2) := by rw [if_neg (show ¬ (false = true) by decide)] at H; exact H
    clear H
    have H := H1
    clear H1
    simp only [Option.some.injEq, Prod.mk.injEq] at H
    obtain ⟨rfl, rfl⟩ := H
    go_enter Try.func40, Try.ntmps40
    go_wp2_with (first | ((with_reducible refine gate_callee (f := 110) rfl ?_); refine goesL_ (some 8) rfl rfl Try.func110 (by kernel_rfl) rfl #[.slice A0 l0.length c0] rfl (by (try simp only [List.map_toArray, List.map_cons, List.map_nil]); first | done | rfl | (simp only [List.length_drop, List.length_take]; rfl)) ?_; (with_reducible refine (spec_siDigits.calls k _ _ l0 false _ ?side1 ?side2 A2.out).mono ?_); (case side1 => repeat (first | exact HR0.out | (with_reducible refine Kd.C_alloc ?_ _) | (with_reducible refine Kd.C_drewN ?_ _) | (with_reducible refine Kd.C_drew ?_))); (case side2 => exact HC0.out); rintro e w' ⟨rfl, ⟨nd, rfl⟩⟩; refine ⟨_, rfl, ?_⟩))
    go_ret2
    exact ⟨by first | rfl | (simp [errW_none, errW_some] <;> rfl) | (simp [*, errW_none, errW_some] <;> rfl), by repeat (first | (with_reducible first | exact HB.out | apply below_alloc | apply pw_below_drewN | apply below_drew1) | exact HB.out)⟩

end Go.Proofs.Ytafnnnpcochnnaa.PFnSignedTexts
