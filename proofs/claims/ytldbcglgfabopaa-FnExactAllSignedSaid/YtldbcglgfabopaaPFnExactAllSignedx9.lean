-- Written by trial.py, a program of this session, out of law_FnExactAllSigned: the law's walk, by hand.
import Derived.Test.YtldbcglgfabopaaPFnExactAllSignedx3
import Derived.Lib.Hide
import Derived.Test.YtldbcglgfabopaaHand
namespace Go.Proofs.Ytldbcglgfabopaa.PFnExactAllSigned
open Go.RowKit Go.Proofs.YtldbcglgfabopaaW.PrintWords Go.Proofs.YtldbcglgfabopaaW.PrintLast Go.Proofs.YtldbcglgfabopaaW.PrintMore
set_option linter.unusedVariables false
set_option linter.unusedSimpArgs false
attribute [local go_sem] max2_int min2_int max_two min_two max_three min_three max_four min_four
/-! ### the law FnExactAllSigned, walked by hand: function 3 -/
def laws_markIntSS.f (k : Nat) : List (List Int) → Int → Option (Int × List (List Int))
  | [], a => some (a, [])
  | l :: r, a => (laws_markIntS.f k l a).bind fun p => (laws_markIntSS.f k r p.1).bind fun q => some (q.1, p.2 :: q.2)
theorem as_wrap {j L : Nat} (hj : j < L) (hL : L ≤ 1000) : Value.int .i64 (wrap64 ((j : Int) + 1)) = Value.int .i64 ((j + 1 : Nat) : Int) := by
  have : wrap64 ((j : Int) + 1) = (j : Int) + 1 := IntWalk.wrap64_in _ (by omega)
  rw [this]
  rfl
theorem as_meas {j L : Nat} (hj : j < L) (hL : L ≤ 1000) : L - (intOf (Value.int .i64 (wrap64 ((j : Int) + 1)))).toNat < L - (intOf (Value.int .i64 (j : Int))).toNat := by
  rw [as_wrap hj hL]
  simp only [intOf]
  omega
def AsHold (p : Prop) : Prop := p
theorem as_hold {p : Prop} (h : AsHold p) : p := h
section
set_option maxRecDepth 100000
set_option maxHeartbeats 2000000 in
theorem markSS_in (k : Nat) (v : Value) (xs r2 : List (List Int)) (a r1 : Int) (w0 w : World) (hB : Below w0.heap.size w0 w) (hS : Kd.S (Kd.slice 3 (Kd.int .i64)) 34 w w0.heap.size (fun _ => True) v xs) (hl : xs.length ≤ 1000) (h : laws_markIntSS.f k xs a = some (r1, r2)) :
    Calls Try.prog 9 #[v, .int .i64 a] w fun e W' => e = .returned (.int .i64 r1) ∧ Kd.S (Kd.slice 3 (Kd.int .i64)) 34 W' w0.heap.size (fun _ => True) v r2 ∧ Below w0.heap.size w0 W' := by
  obtain ⟨A, c, e⟩ := Kd.S_slice hS
  subst e
  obtain ⟨n, hn⟩ : ∃ n, xs.length = n := ⟨_, rfl⟩
  rw [hn] at hS hl ⊢
  have HS := Aside0.mk hS
  have HB := Aside0.mk hB
  have HL := Aside0.mk hl
  have HN := Aside0.mk hn
  have HH := Aside0.mk h
  clear hS hB hl hn h
  go_enter Try.func9, Try.ntmps9
  go_wp2
  go_loopw [1, 5] (fun v1 v5 wr => ∃ (i : Nat) (done rest : List (List Int)) (ai : Int), v1 = .int .i64 ai ∧ v5 = .int .i64 (i : Int) ∧ i ≤ n ∧ Aside0 (done.length = i ∧ i + rest.length = n ∧ ∃ rest', laws_markIntSS.f k rest ai = some (r1, rest') ∧ r2 = done ++ rest') ∧ Aside0 (Kd.S (Kd.slice 3 (Kd.int .i64)) 34 wr w0.heap.size (fun _ => True) (.slice A n c) (done ++ rest)) ∧ Aside0 (Below w0.heap.size w0 wr)) (fun _ s _ => n - (intOf s).toNat)
  case atStart => exact ⟨0, [], xs, a, rfl, rfl, Nat.zero_le _, ⟨rfl, by rw [HN.out]; omega, r2, HH.out, rfl⟩, HS, HB⟩
  case round =>
    clear HS HB HH
    obtain ⟨i, done, rest, ai, rfl, rfl, hi, HG, HS, HB⟩ := hrel
    by_cases hlt : i < n
    · obtain ⟨hd, hr, rest', hf, hr2⟩ := HG.out
      cases rest with
      | nil => simp at hr; omega
      | cons x rest2 =>
        rw [laws_markIntSS.f] at hf
        obtain ⟨⟨p1, p2⟩, hp, hf⟩ := Option.bind_eq_some_iff.mp hf
        obtain ⟨⟨q1, q2⟩, hq, hf⟩ := Option.bind_eq_some_iff.mp hf
        simp only [Option.some.injEq, Prod.mk.injEq] at hf
        obtain ⟨rfl, rfl⟩ := hf
        dsimp only at hq hp hr2
        have hlen : (done ++ x :: rest2).length = n := by rw [List.length_append, hd]; exact hr
        obtain ⟨g, cap, ev, -⟩ := Kd.S_form HS.out (by omega)
        rw [hlen] at ev
        simp only [Value.slice.injEq, true_and] at ev
        obtain ⟨eA, ec⟩ := ev
        subst eA
        subst ec
        have hltz : (i : Int) < (n : Int) := by omega
        obtain ⟨oki, cs, hcl, hM, hcc, hoki, hH⟩ := Kd.S_lend HS.out [] (i : Int) (by omega) hltz
        have hget : (done ++ x :: rest2).getD ((i : Int)).toNat [] = x := by
          rw [Int.toNat_natCast, List.getD_eq_getElem?_getD, List.getElem?_append_right (by omega), hd, Nat.sub_self]; rfl
        rw [hget] at hM
        obtain ⟨ve, rfl, ge⟩ := hM
        have hc0 := hcc 0 _ rfl
        have hc1 : wr.cell? ⟨g, i, none⟩ = some ve := by
          have e1 : ((i : Int)).toNat * (Kd.slice 3 (Kd.int .i64)).sz + 0 = i := by
            rw [Int.toNat_natCast]; show i * 1 + 0 = i; omega
          rw [e1] at hc0
          exact hc0
        have ge2 : Kd.R (Kd.int .i64) 3 wr w0.heap.size oki ve x := ge
        have HM := Aside0.mk (laws_markIntS.calls k oki ve x ai p1 p2 w0 wr HB.out ge2 hp)
        have HGE := Aside0.mk ge2
        have HHH := Aside0.mk hH
        have HI := Aside0.mk hlt
        have HQ := Aside0.mk hq
        have HR2 := Aside0.mk hr2
        have HD := Aside0.mk hd
        have HRL := Aside0.mk hr
        clear hf hp hq hr2 hlen hcl hcc hoki hH hget ge ge2 hc0 hi hlt hd hr
        go_wp2_with (go_at_call 25; refine HM.out.mono ?_; rintro e w3 ⟨rfl, hr_, hb_, hk_⟩; have N1 := Aside0.mk (Kd.H_back (Kd.H_kept HHH.out hk_ (fun _ _ hn => hn)) (okp := oki) (x' := p2) ⟨ve, rfl, Kd.R_reok rfl hr_ (fun k_ hk2 => HGE.out.1 k_ hk2)⟩ (fun _ hk => hk)); have N2 := Aside0.mk hb_; clear hr_ hb_ hk_)
        go_roundw
        case rel =>
          have e2 : (done ++ x :: rest2).set ((i : Int)).toNat p2 = (done ++ [p2]) ++ rest2 := by
            rw [Int.toNat_natCast, List.set_append_right _ _ (by rw [HD.out]; exact Nat.le_refl _), HD.out, Nat.sub_self, List.set_cons_zero, List.append_assoc]; rfl
          have N3 := N1.out
          rw [e2] at N3
          refine ⟨i + 1, done ++ [p2], rest2, p1, rfl, as_wrap HI.out HL.out, HI.out, ⟨?_, ?_, q2, HQ.out, ?_⟩, ⟨N3⟩, N2⟩
          · rw [List.length_append, List.length_singleton, HD.out]
          · have := HRL.out; rw [List.length_cons] at this; omega
          · rw [HR2.out, List.append_assoc]; rfl
        case measure => exact as_meas HI.out HL.out
    · obtain rfl : i = n := by omega
      obtain ⟨hd, hr, rest', hf, hr2⟩ := HG.out
      have hr0 : rest = [] := List.eq_nil_of_length_eq_zero (by omega)
      subst hr0
      rw [laws_markIntSS.f] at hf
      simp only [Option.some.injEq, Prod.mk.injEq] at hf
      obtain ⟨rfl, rfl⟩ := hf
      subst hr2
      clear hd hr hlt hi
      go_wp2
      go_ret
      exact ⟨rfl, HS.out, HB.out⟩
def laws_FnExactAllSigned.f (k : Nat) (a0 a1 : Int) : Option Bool :=
  (spec_AllSigned.f k a0 a1).bind fun s => (impl_AllSigned.f a0 a1).bind fun g => if s = g ∧ g.1.length ≤ 1000 then (laws_eqIntSS.f k g.1 g.1).bind fun t => (laws_markIntSS.f k g.1 1).bind fun m => (laws_heldIntSS.f k m.2 1).bind fun q => (if t = true ∧ q = m.1 ∧ 0 ≤ q then some true else none) else none
set_option maxHeartbeats 4000000 in
theorem laws_FnExactAllSigned.calls (k : Nat) (a0 a1 : Int) (r : Bool) (w : World) (h : laws_FnExactAllSigned.f k a0 a1 = some r) :
    Calls Try.prog 3 #[.int .i64 a0, .int .i64 a1] w fun e w' => e = .returned (.bool r) ∧ Below w.heap.size w w' := by
  unfold laws_FnExactAllSigned.f at h
  obtain ⟨s, hs, h1⟩ := Option.bind_eq_some_iff.mp h
  obtain ⟨⟨L, b⟩, hg, h2⟩ := Option.bind_eq_some_iff.mp h1
  clear h h1
  by_cases hc : s = (L, b) ∧ L.length ≤ 1000
  case neg => rw [if_neg hc] at h2; cases h2
  case pos =>
  rw [if_pos hc] at h2
  obtain ⟨hse, hL⟩ := hc
  subst hse
  obtain ⟨t, het, h3⟩ := Option.bind_eq_some_iff.mp h2
  obtain ⟨⟨r1, R2⟩, hm, h4⟩ := Option.bind_eq_some_iff.mp h3
  obtain ⟨q, hh, h5⟩ := Option.bind_eq_some_iff.mp h4
  clear h2 h3 h4
  dsimp only at het hm hh h5
  by_cases hz : t = true ∧ q = r1 ∧ 0 ≤ q
  case neg => rw [if_neg hz] at h5; cases h5
  case pos =>
  rw [if_pos hz] at h5
  obtain ⟨ht, hqr, hq0⟩ := hz
  subst ht
  subst hqr
  obtain rfl := Option.some.inj h5
  have hqd : decide (q < 0) = false := decide_eq_false (by omega)
  have SP := Aside0.mk (fun (W : World) => spec_AllSigned.calls k a0 a1 L b W hs)
  have IM := Aside0.mk (fun (W : World) => impl_AllSigned.calls a0 a1 L b W hg)
  have EQ1 := Aside0.mk het
  have EQ2 := Aside0.mk het
  have HE2 := Aside0.mk hh
  have MK := Aside0.mk hm
  have HE := Aside0.mk hh
  have HL := Aside0.mk hL
  clear hs hg het hm hh hL h5 hq0
  go_enter Try.func3, Try.ntmps3
  go_wp2_with (first
    | (go_at_call 6; refine (SP.out _).mono ?_; rintro e w1 ⟨v0, rfl, hS_, hb_⟩; obtain ⟨A0, c0, e0⟩ := Kd.S_slice hS_; subst e0; have S0 := Aside0.mk hS_; have B1 := Aside0.mk hb_; clear hS_ hb_)
    | (go_at_call 7; have b1_ := B1.out; refine (IM.out _).mono ?_; rintro e w2 ⟨v1, rfl, hS_, hb_⟩; obtain ⟨A1, c1, e1⟩ := Kd.S_slice hS_; subst e1; have S1 := Aside0.mk hS_; have BB := Aside0.mk hb_; have BK := Aside0.mk b1_; clear hS_ hb_ b1_ B1)
    | (go_at_call 8; have t0_ := Kd.S_below S0.out BB.out; refine (laws_eqIntSS.calls k A1 c1 L A0 c0 L true _ (Kd.S_reads' S1.out).2.2 (Kd.S_reads' S1.out).2.1 (Kd.S_reads' t0_).2.2 (Kd.S_reads' t0_).2.1 EQ1.out).mono ?_; rintro e w3 ⟨rfl, hd_⟩; obtain ⟨n3, rfl⟩ := YtldbcglgfabopaaHand.of_drawn hd_; have n1_ := Aside0.mk (Kd.S_drewN S1.out n3); have n2_ := Aside0.mk (pw_below_drewN BB.out n3); clear S1 BB EQ1 hd_ t0_; have S1 := n1_; have BB := n2_; clear n1_ n2_)
    | (go_at_call 9; refine (markSS_in k _ L R2 1 q w1 _ BB.out S1.out HL.out MK.out).mono ?_; rintro e w4 ⟨rfl, hS_, hb_⟩; have HLN := Aside0.mk (Kd.S_reads' hS_).1; clear S1 BB; have S1 := Aside0.mk hS_; have BB := Aside0.mk hb_; clear hS_ hb_ MK)
    | (go_at_call 10; have hh_ := laws_heldIntSS.calls k A1 c1 R2 1 q _ (Kd.S_reads' S1.out).2.2 (by have h_ := (Kd.S_reads' S1.out).2.1; rw [HLN.out] at h_; exact h_) HE.out; rw [← HLN.out] at hh_; refine hh_.mono ?_; rintro e w5 ⟨rfl, hd_⟩; obtain ⟨n5, rfl⟩ := YtldbcglgfabopaaHand.of_drawn hd_; have n1_ := Aside0.mk (Kd.S_drewN S1.out n5); have n2_ := Aside0.mk (pw_below_drewN BB.out n5); clear S1 BB HE hd_ hh_; have S1 := n1_; have BB := n2_; clear n1_ n2_)
    | (go_at_call 7; refine (IM.out _).mono ?_; rintro e w6 ⟨v2, rfl, hS_, hb_⟩; obtain ⟨A2, c2, e2⟩ := Kd.S_slice hS_; subst e2; have S2 := Aside0.mk hS_; have n1_ := Aside0.mk (Kd.S_below S1.out hb_); have n2_ := Aside0.mk (below_step BB.out hb_); clear S1 BB hS_ hb_; have S1 := n1_; have BB := n2_; clear n1_ n2_)
    | (go_at_call 8; have t0_ := Kd.S_below S0.out BB.out; refine (laws_eqIntSS.calls k A2 c2 L A0 c0 L true _ (Kd.S_reads' S2.out).2.2 (Kd.S_reads' S2.out).2.1 (Kd.S_reads' t0_).2.2 (Kd.S_reads' t0_).2.1 EQ2.out).mono ?_; rintro e w7 ⟨rfl, hd_⟩; obtain ⟨n7, rfl⟩ := YtldbcglgfabopaaHand.of_drawn hd_; have n1_ := Aside0.mk (Kd.S_drewN S1.out n7); have n2_ := Aside0.mk (pw_below_drewN BB.out n7); clear S1 BB EQ2 hd_ t0_; have S1 := n1_; have BB := n2_; clear n1_ n2_)
    | (go_at_call 10; have hh_ := laws_heldIntSS.calls k A1 c1 R2 1 q _ (Kd.S_reads' S1.out).2.2 (by have h_ := (Kd.S_reads' S1.out).2.1; rw [HLN.out] at h_; exact h_) HE2.out; rw [← HLN.out] at hh_; refine hh_.mono ?_; rintro e w8 ⟨rfl, hd_⟩; obtain ⟨n8, rfl⟩ := YtldbcglgfabopaaHand.of_drawn hd_; have n2_ := Aside0.mk (pw_below_drewN BB.out n8); clear S1 BB HE2 hd_ hh_; have BB := n2_; clear n2_))
  go_ret
  have hB_ := below_step BK.out BB.out
  exact ⟨rfl, by first | exact hB_ | (simpa using hB_) | (go_simp; exact hB_)⟩
end
/-- THE ONE PURE STATEMENT of laws_FnExactAllSigned. -/
def laws_FnExactAllSigned.Pure : Prop := ∀ (a0 : Int) (a1 : Int), (Lit.int .i64 a0).wf = true → (Lit.int .i64 a1).wf = true → ∃ k, laws_FnExactAllSigned.f k a0 a1 = some true
theorem laws_FnExactAllSigned.walk (P : laws_FnExactAllSigned.Pure) (a0 : Int) (a1 : Int) (w : World) (w0 : (Lit.int .i64 a0).wf = true) (w1 : (Lit.int .i64 a1).wf = true) :
    Calls Try.prog 3 #[.int .i64 a0, .int .i64 a1] w fun e w' => e = .returned (.bool true) ∧ Below w.heap.size w w' := by
  obtain ⟨k, h⟩ := P a0 a1 w0 w1
  exact laws_FnExactAllSigned.calls k a0 a1 true w h

end Go.Proofs.Ytldbcglgfabopaa.PFnExactAllSigned
