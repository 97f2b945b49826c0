-- gen_SaLaw.py, a program of ours: the law, walked by hand along the one way that it goes
import Derived.Test.YtlmoemahamneoaaPFnSchemesAgreex
namespace Go.Proofs.Ytlmoemahamneoaa.PFnSchemesAgree
open Go.RowKit Go.Proofs.YtlmoemahamneoaaW.PrintWords Go.Proofs.YtlmoemahamneoaaW.PrintLast Go.Proofs.YtlmoemahamneoaaW.PrintMore
open Go.Proofs.YtlmoemahamneoaaW.PrintWords.Aside0 renaming mk → zz
open Go.Proofs.YtlmoemahamneoaaW.PrintWords renaming pw_below_drewN → zq, below_alloc → zj, below_step → zw, blk_alloc → zx, blk_cell → zk, blk_below → zv
open Go.Proofs.YtlmoemahamneoaaW.PrintWords.Kd renaming C_below → qz
attribute [local go_sem] max2_int min2_int max_two min_two max_three min_three max_four min_four
set_option linter.unusedVariables false
set_option linter.unusedSimpArgs false
section
set_option maxRecDepth 100000
set_option maxHeartbeats 4000000 in
theorem sa_big (A0 : Option Addr) (c0 : Nat) (l0 : List Int) (A1 : Option Addr) (c1 : Nat) (l1 : List Int) (w : World) (hr0 : Kd.C (Kd.int .u8) w A0 l0.length l0) (hc0 : l0.length ≤ c0) (hr1 : Kd.C (Kd.int .u8) w A1 l1.length l1) (hc1 : l1.length ≤ c1) (h : laws_big.f l0 l1 = some true) :
  Calls Try.prog 7 #[.slice A0 l0.length c0, .slice A1 l1.length c1] w fun e w' => e = .returned (.bool true) ∧ Below w.heap.size w w' := by
 have H := zz (laws_big.calls A0 c0 l0 A1 c1 l1 true w hr0 hc0 hr1 hc1 h)
 clear hr0 hc0 hr1 hc1 h
 go_enter Try.func7, Try.ntmps7
 go_wp2_with (go_at_call 14; refine H.out.mono ?_; rintro e w1 ⟨rfl, hd_⟩; obtain ⟨n1, rfl⟩ := YtlmoemahamneoaaHand.of_drawn hd_; clear hd_)
 go_ret
 exact ⟨rfl, zq (Below.refl _ w) _⟩
theorem sa_up {i L : Nat} (h : i < L) (hL : L ≤ 1000) : Value.int .i64 (wrap64 ((i : Int) + 1)) = Value.int .i64 ((i + 1 : Nat) : Int) := by
 congr 1
 unfold wrap64
 omega
theorem sa_none {i L : Nat} (h : i < L) : ¬ L - i ≤ 0 := by omega
theorem sa_less {i L k : Nat} (h : L - i ≤ k + 1) : L - (i + 1) ≤ k := by omega
structure SaAll (k : Nat) (l0 l1 cs xs : List Int) (kk x m : Int) (g r h q p e : List S109) (go ro ho qo po eo : Int) (ok one : Bool) : Prop where
 big : laws_big.f l0 l1 = some false
 d0 : spec_DrawGiantCode.f k l0 = some (cs, kk)
 d1 : spec_DrawValueAt.f k l1 = some (xs, x, m)
 gi : impl_GiantCode.f k cs kk = some (g, go, ok)
 gs : spec_GiantCode.f k cs kk = some (r, ro, ok)
 s1 : laws_pSameCode.f k g go r ro = some true
 hi : impl_HornerCode.f k cs = some (h, ho, one)
 hs : spec_HornerCode.f k cs = some (q, qo, one)
 s2 : laws_pSameCode.f k h ho q qo = some true
 po : impl_PowersCode.f k cs = some (p, po, one)
 es : impl_EstrinCode.f k cs = some (e, eo, one)
set_option maxHeartbeats 8000000 in
theorem sa_no (k : Nat) (A0 : Option Addr) (c0 : Nat) (l0 : List Int) (A1 : Option Addr) (c1 : Nat) (l1 : List Int) (w : World) (hr0 : Kd.C (Kd.int .u8) w A0 l0.length l0) (hc0 : l0.length ≤ c0) (hr1 : Kd.C (Kd.int .u8) w A1 l1.length l1) (hc1 : l1.length ≤ c1) (cs xs : List Int) (kk x m : Int) (g r h q p e : List S109) (go ro ho qo po eo : Int) (hz : SaAll k l0 l1 cs xs kk x m g r h q p e go ro ho qo po eo false false) :
  Calls Try.prog 7 #[.slice A0 l0.length c0, .slice A1 l1.length c1] w fun e w' => e = .returned (.bool true) ∧ Below w.heap.size w w' := by
 have HBIG := zz (laws_big.calls A0 c0 l0 A1 c1 l1 false w hr0 hc0 hr1 hc1 hz.big)
 have HR0 := zz hr0
 have HR1 := zz hr1
 have HD0 := zz hz.d0
 have HD1 := zz hz.d1
 have HGI := zz hz.gi
 have HGS := zz hz.gs
 have HS1 := zz hz.s1
 have HHI := zz hz.hi
 have HHS := zz hz.hs
 have HS2 := zz hz.s2
 have HPO := zz hz.po
 have HES := zz hz.es
 clear hr0 hr1 hz
 go_enter Try.func7, Try.ntmps7
 go_wp2_with (first
  | (go_at_call 14; refine HBIG.out.mono ?_; rintro e_ w1 ⟨rfl, hd_⟩; obtain ⟨n1, rfl⟩ := YtlmoemahamneoaaHand.of_drawn hd_; clear hd_; have B_w1 := zz (zq (Below.refl w.heap.size w) n1); obtain ⟨w1, hw_⟩ : ∃ W, w.drewN n1 = W := ⟨_, rfl⟩; rw [hw_] at B_w1; rw [hw_]; clear hw_)
  | (go_at_call 42; refine (spec_DrawGiantCode.calls k A0 c0 l0 cs kk w1 (qz HR0.out B_w1.out) hc0 HD0.out).mono ?_; rintro e_ w2 ⟨v_, rfl, hr_, hb_⟩; obtain ⟨a2, k2, rfl, hl_, hC_⟩ := Kd.R_reads hr_; have B_w2 := zz hb_; have L2 := zz hl_; have C2 := zz hC_; clear hr_ hl_ hC_ hb_)
  | (go_at_call 43; refine (spec_DrawValueAt.calls k A1 c1 l1 xs x m w2 (qz HR1.out (zw B_w1.out B_w2.out)) hc1 HD1.out).mono ?_; rintro e_ w3 ⟨v_, rfl, hr_, hb_⟩; obtain ⟨a3, k3, rfl, hl_, hC_⟩ := Kd.R_reads hr_; have B_w3 := zz hb_; have L3 := zz hl_; have C3 := zz hC_; clear hr_ hl_ hC_ hb_)
  | (go_at_call 20; refine (impl_GiantCode.calls k a2 k2 cs kk g go false w3 (qz C2.out B_w3.out) L2.out HGI.out).mono ?_; rintro e_ w4 ⟨v_, rfl, hr_, hb_⟩; obtain ⟨a4, k4, rfl, hl_, hC_⟩ := Kd.R_reads hr_; have B_w4 := zz hb_; have L4 := zz hl_; have C4 := zz hC_; clear hr_ hl_ hC_ hb_)
  | (go_at_call 25; obtain ⟨u4, hu_⟩ : ∃ W, w4.alloc (.cells #[.slice a4 g.length k4, .int .i64 go] 32) = W := ⟨_, rfl⟩; have B_u4 := zz (show Below w4.heap.size w4 u4 by rw [← hu_]; exact zj (Below.refl _ _) _); have X_u4 := zz (show u4.heap[w4.heap.size]? = some (.cells #[.slice a4 g.length k4, .int .i64 go] 32 (0, 0)) by rw [← hu_]; exact blk_new _ _); rw [hu_]; clear hu_; refine (spec_GiantCode.calls k a2 k2 cs kk r ro false u4 (qz C2.out (zw (zw B_w3.out B_w4.out) B_u4.out)) L2.out HGS.out).mono ?_; rintro e_ w5 ⟨v_, rfl, hv_, hb_⟩; obtain ⟨a5, k5, rfl⟩ := Kd.V_slice hv_; obtain ⟨_, hl_, hC_⟩ := Kd.V_reads' hv_; have B_w5 := zz hb_; have L5 := zz hl_; have C5 := zz hC_; clear hv_ hl_ hC_ hb_; have kb_u4_w5_0 : (w5.alloc (.cells #[.slice a5 r.length k5, .int .i64 ro] 32)).cell? ⟨w4.heap.size, 0, none⟩ = some (.slice a4 g.length k4) := (zk (zx (zv X_u4.out B_w5.out) _) 0).trans rfl; have kb_u4_w5_1 : (w5.alloc (.cells #[.slice a5 r.length k5, .int .i64 ro] 32)).cell? ⟨w4.heap.size, 1, none⟩ = some (.int .i64 go) := (zk (zx (zv X_u4.out B_w5.out) _) 1).trans rfl)
  | (go_at_call 44; first | (obtain ⟨u5, hu_⟩ : ∃ W, w5.alloc (.cells #[.slice a5 r.length k5, .int .i64 ro] 32) = W := ⟨_, rfl⟩; have B_u5 := zz (show Below w5.heap.size w5 u5 by rw [← hu_]; exact zj (Below.refl _ _) _); have X_u5 := zz (show u5.heap[w5.heap.size]? = some (.cells #[.slice a5 r.length k5, .int .i64 ro] 32 (0, 0)) by rw [← hu_]; exact blk_new _ _); rw [hu_]; clear hu_; refine (laws_pSameCode.calls k a4 k4 g go a5 k5 r ro true u5 (qz C4.out (zw (zw B_u4.out B_w5.out) B_u5.out)) L4.out (qz C5.out B_u5.out) L5.out HS1.out).mono ?_; rintro e_ w6 ⟨rfl, hb_⟩; have B_w6 := zz hb_; clear hb_) | (obtain ⟨u8, hu_⟩ : ∃ W, w8.alloc (.cells #[.slice a8 q.length k8, .int .i64 qo] 32) = W := ⟨_, rfl⟩; have B_u8 := zz (show Below w8.heap.size w8 u8 by rw [← hu_]; exact zj (Below.refl _ _) _); have X_u8 := zz (show u8.heap[w8.heap.size]? = some (.cells #[.slice a8 q.length k8, .int .i64 qo] 32 (0, 0)) by rw [← hu_]; exact blk_new _ _); rw [hu_]; clear hu_; refine (laws_pSameCode.calls k a7 k7 h ho a8 k8 q qo true u8 (qz C7.out (zw (zw B_u7.out B_w8.out) B_u8.out)) L7.out (qz C8.out B_u8.out) L8.out HS2.out).mono ?_; rintro e_ w9 ⟨rfl, hb_⟩; have B_w9 := zz hb_; clear hb_))
  | (go_at_call 22; refine (impl_HornerCode.calls k a2 k2 cs h ho false w6 (qz C2.out (zw (zw (zw (zw (zw B_w3.out B_w4.out) B_u4.out) B_w5.out) B_u5.out) B_w6.out)) L2.out HHI.out).mono ?_; rintro e_ w7 ⟨v_, rfl, hr_, hb_⟩; obtain ⟨a7, k7, rfl, hl_, hC_⟩ := Kd.R_reads hr_; have B_w7 := zz hb_; have L7 := zz hl_; have C7 := zz hC_; clear hr_ hl_ hC_ hb_)
  | (go_at_call 45; obtain ⟨u7, hu_⟩ : ∃ W, w7.alloc (.cells #[.slice a7 h.length k7, .int .i64 ho] 32) = W := ⟨_, rfl⟩; have B_u7 := zz (show Below w7.heap.size w7 u7 by rw [← hu_]; exact zj (Below.refl _ _) _); have X_u7 := zz (show u7.heap[w7.heap.size]? = some (.cells #[.slice a7 h.length k7, .int .i64 ho] 32 (0, 0)) by rw [← hu_]; exact blk_new _ _); rw [hu_]; clear hu_; refine (spec_HornerCode.calls k a2 k2 cs q qo false u7 (qz C2.out (zw (zw (zw (zw (zw (zw (zw B_w3.out B_w4.out) B_u4.out) B_w5.out) B_u5.out) B_w6.out) B_w7.out) B_u7.out)) L2.out HHS.out).mono ?_; rintro e_ w8 ⟨v_, rfl, hr_, hb_⟩; obtain ⟨a8, k8, rfl, hl_, hC_⟩ := Kd.R_reads hr_; have B_w8 := zz hb_; have L8 := zz hl_; have C8 := zz hC_; clear hr_ hl_ hC_ hb_; have kb_u7_w8_0 : (w8.alloc (.cells #[.slice a8 q.length k8, .int .i64 qo] 32)).cell? ⟨w7.heap.size, 0, none⟩ = some (.slice a7 h.length k7) := (zk (zx (zv X_u7.out B_w8.out) _) 0).trans rfl; have kb_u7_w8_1 : (w8.alloc (.cells #[.slice a8 q.length k8, .int .i64 qo] 32)).cell? ⟨w7.heap.size, 1, none⟩ = some (.int .i64 ho) := (zk (zx (zv X_u7.out B_w8.out) _) 1).trans rfl)
  | (go_at_call 23; refine (impl_PowersCode.calls k a2 k2 cs p po false w9 (qz C2.out (zw (zw (zw (zw (zw (zw (zw (zw (zw (zw B_w3.out B_w4.out) B_u4.out) B_w5.out) B_u5.out) B_w6.out) B_w7.out) B_u7.out) B_w8.out) B_u8.out) B_w9.out)) L2.out HPO.out).mono ?_; rintro e_ w10 ⟨v_, rfl, hr_, hb_⟩; obtain ⟨a10, k10, rfl, hl_, hC_⟩ := Kd.R_reads hr_; have B_w10 := zz hb_; have L10 := zz hl_; have C10 := zz hC_; clear hr_ hl_ hC_ hb_)
  | (go_at_call 46; obtain ⟨u10, hu_⟩ : ∃ W, w10.alloc (.cells #[.slice a10 p.length k10, .int .i64 po] 32) = W := ⟨_, rfl⟩; have B_u10 := zz (show Below w10.heap.size w10 u10 by rw [← hu_]; exact zj (Below.refl _ _) _); have X_u10 := zz (show u10.heap[w10.heap.size]? = some (.cells #[.slice a10 p.length k10, .int .i64 po] 32 (0, 0)) by rw [← hu_]; exact blk_new _ _); rw [hu_]; clear hu_; refine (impl_EstrinCode.calls k a2 k2 cs e eo false u10 (qz C2.out (zw (zw (zw (zw (zw (zw (zw (zw (zw (zw (zw (zw B_w3.out B_w4.out) B_u4.out) B_w5.out) B_u5.out) B_w6.out) B_w7.out) B_u7.out) B_w8.out) B_u8.out) B_w9.out) B_w10.out) B_u10.out)) L2.out HES.out).mono ?_; rintro e_ w11 ⟨v_, rfl, hr_, hb_⟩; obtain ⟨a11, k11, rfl, hl_, hC_⟩ := Kd.R_reads hr_; have B_w11 := zz hb_; have L11 := zz hl_; have C11 := zz hC_; clear hr_ hl_ hC_ hb_))
 go_ret
 exact ⟨rfl, zj (zw (zw (zw (zw (zw (zw (zw (zw (zw (zw (zw (zw (zw (zw (zw B_w1.out B_w2.out) B_w3.out) B_w4.out) B_u4.out) B_w5.out) B_u5.out) B_w6.out) B_w7.out) B_u7.out) B_w8.out) B_u8.out) B_w9.out) B_w10.out) B_u10.out) B_w11.out) _⟩
set_option maxHeartbeats 16000000 in
theorem sa_yes (k : Nat) (A0 : Option Addr) (c0 : Nat) (l0 : List Int) (A1 : Option Addr) (c1 : Nat) (l1 : List Int) (w : World) (hr0 : Kd.C (Kd.int .u8) w A0 l0.length l0) (hc0 : l0.length ≤ c0) (hr1 : Kd.C (Kd.int .u8) w A1 l1.length l1) (hc1 : l1.length ≤ c1) (cs xs : List Int) (kk x m : Int) (g r h q p e : List S109) (go ro ho qo po eo : Int) (ok : Bool) (f g2 h2 : List Int) (v : Int) (t : Bool) (hz : SaAll k l0 l1 cs xs kk x m g r h q p e go ro ho qo po eo ok true) (hpf : impl_PolynomialOf.f k h ho = some (f, true)) (hpg : impl_PolynomialOf.f k p po = some (g2, true)) (hph : impl_PolynomialOf.f k e eo = some (h2, true)) (hig : laws_pSameInts.f k f g2 = some true) (hih : laws_pSameInts.f k f h2 = some true) (hlf : f.length ≤ cs.length) (hlc : cs.length ≤ 1000) (hcf : ∀ i : Nat, i < f.length → rd f i = rd cs i) (hcz : ∀ i : Nat, f.length ≤ i → i < cs.length → rd cs i = 0) (hsg : ok = true → impl_SameCode.f k g go h ho = some (true, true)) (hva : impl_ValueAt.f cs x m = some (v, t)) (hra : impl_RunCode.f k h ho x m = some (v, t)) (hrb : impl_RunCode.f k p po x m = some (v, t)) (hrc : impl_RunCode.f k e eo x m = some (v, t)) :
  Calls Try.prog 7 #[.slice A0 l0.length c0, .slice A1 l1.length c1] w fun e w' => e = .returned (.bool true) ∧ Below w.heap.size w w' := by
 have HBIG := zz (laws_big.calls A0 c0 l0 A1 c1 l1 false w hr0 hc0 hr1 hc1 hz.big)
 have HR0 := zz hr0
 have HR1 := zz hr1
 have HD0 := zz hz.d0
 have HD1 := zz hz.d1
 have HGI := zz hz.gi
 have HGS := zz hz.gs
 have HS1 := zz hz.s1
 have HHI := zz hz.hi
 have HHS := zz hz.hs
 have HS2 := zz hz.s2
 have HPO := zz hz.po
 have HES := zz hz.es
 have HPf := zz hpf
 have HPg2 := zz hpg
 have HPh2 := zz hph
 have HIg2 := zz hig
 have HIh2 := zz hih
 have HLF := zz hlf
 have HLC := zz hlc
 have HCF := zz hcf
 have HCZ := zz hcz
 have HSG := zz hsg
 have HVA := zz hva
 have HRA := zz hra
 have HRB := zz hrb
 have HRC := zz hrc
 have hne : (ok != ok) = false := by cases ok <;> rfl
 have hgt : decide ((cs.length : Int) < (f.length : Int)) = false := decide_eq_false (by omega)
 have hgt2 : decide (cs.length < f.length) = false := decide_eq_false (by omega)
 clear hr0 hr1 hz hpf hpg hph hig hih hlf hlc hcf hcz hsg hva hra hrb hrc
 go_enter Try.func7, Try.ntmps7
 go_wp2_with (first
  | (go_at_call 14; refine HBIG.out.mono ?_; rintro e_ w1 ⟨rfl, hd_⟩; obtain ⟨n1, rfl⟩ := YtlmoemahamneoaaHand.of_drawn hd_; clear hd_; have B_w1 := zz (zq (Below.refl w.heap.size w) n1); obtain ⟨w1, hw_⟩ : ∃ W, w.drewN n1 = W := ⟨_, rfl⟩; rw [hw_] at B_w1; rw [hw_]; clear hw_)
  | (go_at_call 42; refine (spec_DrawGiantCode.calls k A0 c0 l0 cs kk w1 (qz HR0.out B_w1.out) hc0 HD0.out).mono ?_; rintro e_ w2 ⟨v_, rfl, hr_, hb_⟩; obtain ⟨a2, k2, rfl, hl_, hC_⟩ := Kd.R_reads hr_; have B_w2 := zz hb_; have L2 := zz hl_; have C2 := zz hC_; clear hr_ hl_ hC_ hb_)
  | (go_at_call 43; refine (spec_DrawValueAt.calls k A1 c1 l1 xs x m w2 (qz HR1.out (zw B_w1.out B_w2.out)) hc1 HD1.out).mono ?_; rintro e_ w3 ⟨v_, rfl, hr_, hb_⟩; obtain ⟨a3, k3, rfl, hl_, hC_⟩ := Kd.R_reads hr_; have B_w3 := zz hb_; have L3 := zz hl_; have C3 := zz hC_; clear hr_ hl_ hC_ hb_)
  | (go_at_call 20; refine (impl_GiantCode.calls k a2 k2 cs kk g go ok w3 (qz C2.out B_w3.out) L2.out HGI.out).mono ?_; rintro e_ w4 ⟨v_, rfl, hr_, hb_⟩; obtain ⟨a4, k4, rfl, hl_, hC_⟩ := Kd.R_reads hr_; have B_w4 := zz hb_; have L4 := zz hl_; have C4 := zz hC_; clear hr_ hl_ hC_ hb_)
  | (go_at_call 25; obtain ⟨u4, hu_⟩ : ∃ W, w4.alloc (.cells #[.slice a4 g.length k4, .int .i64 go] 32) = W := ⟨_, rfl⟩; have B_u4 := zz (show Below w4.heap.size w4 u4 by rw [← hu_]; exact zj (Below.refl _ _) _); have X_u4 := zz (show u4.heap[w4.heap.size]? = some (.cells #[.slice a4 g.length k4, .int .i64 go] 32 (0, 0)) by rw [← hu_]; exact blk_new _ _); rw [hu_]; clear hu_; refine (spec_GiantCode.calls k a2 k2 cs kk r ro ok u4 (qz C2.out (zw (zw B_w3.out B_w4.out) B_u4.out)) L2.out HGS.out).mono ?_; rintro e_ w5 ⟨v_, rfl, hv_, hb_⟩; obtain ⟨a5, k5, rfl⟩ := Kd.V_slice hv_; obtain ⟨_, hl_, hC_⟩ := Kd.V_reads' hv_; have B_w5 := zz hb_; have L5 := zz hl_; have C5 := zz hC_; clear hv_ hl_ hC_ hb_; have kb_u4_w5_0 : (w5.alloc (.cells #[.slice a5 r.length k5, .int .i64 ro] 32)).cell? ⟨w4.heap.size, 0, none⟩ = some (.slice a4 g.length k4) := (zk (zx (zv X_u4.out B_w5.out) _) 0).trans rfl; have kb_u4_w5_1 : (w5.alloc (.cells #[.slice a5 r.length k5, .int .i64 ro] 32)).cell? ⟨w4.heap.size, 1, none⟩ = some (.int .i64 go) := (zk (zx (zv X_u4.out B_w5.out) _) 1).trans rfl)
  | (go_at_call 44; first | (obtain ⟨u5, hu_⟩ : ∃ W, w5.alloc (.cells #[.slice a5 r.length k5, .int .i64 ro] 32) = W := ⟨_, rfl⟩; have B_u5 := zz (show Below w5.heap.size w5 u5 by rw [← hu_]; exact zj (Below.refl _ _) _); have X_u5 := zz (show u5.heap[w5.heap.size]? = some (.cells #[.slice a5 r.length k5, .int .i64 ro] 32 (0, 0)) by rw [← hu_]; exact blk_new _ _); rw [hu_]; clear hu_; refine (laws_pSameCode.calls k a4 k4 g go a5 k5 r ro true u5 (qz C4.out (zw (zw B_u4.out B_w5.out) B_u5.out)) L4.out (qz C5.out B_u5.out) L5.out HS1.out).mono ?_; rintro e_ w6 ⟨rfl, hb_⟩; have B_w6 := zz hb_; clear hb_) | (obtain ⟨u8, hu_⟩ : ∃ W, w8.alloc (.cells #[.slice a8 q.length k8, .int .i64 qo] 32) = W := ⟨_, rfl⟩; have B_u8 := zz (show Below w8.heap.size w8 u8 by rw [← hu_]; exact zj (Below.refl _ _) _); have X_u8 := zz (show u8.heap[w8.heap.size]? = some (.cells #[.slice a8 q.length k8, .int .i64 qo] 32 (0, 0)) by rw [← hu_]; exact blk_new _ _); rw [hu_]; clear hu_; refine (laws_pSameCode.calls k a7 k7 h ho a8 k8 q qo true u8 (qz C7.out (zw (zw B_u7.out B_w8.out) B_u8.out)) L7.out (qz C8.out B_u8.out) L8.out HS2.out).mono ?_; rintro e_ w9 ⟨rfl, hb_⟩; have B_w9 := zz hb_; clear hb_))
  | (go_at_call 22; refine (impl_HornerCode.calls k a2 k2 cs h ho true w6 (qz C2.out (zw (zw (zw (zw (zw B_w3.out B_w4.out) B_u4.out) B_w5.out) B_u5.out) B_w6.out)) L2.out HHI.out).mono ?_; rintro e_ w7 ⟨v_, rfl, hr_, hb_⟩; obtain ⟨a7, k7, rfl, hl_, hC_⟩ := Kd.R_reads hr_; have B_w7 := zz hb_; have L7 := zz hl_; have C7 := zz hC_; clear hr_ hl_ hC_ hb_)
  | (go_at_call 45; obtain ⟨u7, hu_⟩ : ∃ W, w7.alloc (.cells #[.slice a7 h.length k7, .int .i64 ho] 32) = W := ⟨_, rfl⟩; have B_u7 := zz (show Below w7.heap.size w7 u7 by rw [← hu_]; exact zj (Below.refl _ _) _); have X_u7 := zz (show u7.heap[w7.heap.size]? = some (.cells #[.slice a7 h.length k7, .int .i64 ho] 32 (0, 0)) by rw [← hu_]; exact blk_new _ _); rw [hu_]; clear hu_; refine (spec_HornerCode.calls k a2 k2 cs q qo true u7 (qz C2.out (zw (zw (zw (zw (zw (zw (zw B_w3.out B_w4.out) B_u4.out) B_w5.out) B_u5.out) B_w6.out) B_w7.out) B_u7.out)) L2.out HHS.out).mono ?_; rintro e_ w8 ⟨v_, rfl, hr_, hb_⟩; obtain ⟨a8, k8, rfl, hl_, hC_⟩ := Kd.R_reads hr_; have B_w8 := zz hb_; have L8 := zz hl_; have C8 := zz hC_; clear hr_ hl_ hC_ hb_; have kb_u7_w8_0 : (w8.alloc (.cells #[.slice a8 q.length k8, .int .i64 qo] 32)).cell? ⟨w7.heap.size, 0, none⟩ = some (.slice a7 h.length k7) := (zk (zx (zv X_u7.out B_w8.out) _) 0).trans rfl; have kb_u7_w8_1 : (w8.alloc (.cells #[.slice a8 q.length k8, .int .i64 qo] 32)).cell? ⟨w7.heap.size, 1, none⟩ = some (.int .i64 ho) := (zk (zx (zv X_u7.out B_w8.out) _) 1).trans rfl)
  | (go_at_call 23; refine (impl_PowersCode.calls k a2 k2 cs p po true w9 (qz C2.out (zw (zw (zw (zw (zw (zw (zw (zw (zw (zw B_w3.out B_w4.out) B_u4.out) B_w5.out) B_u5.out) B_w6.out) B_w7.out) B_u7.out) B_w8.out) B_u8.out) B_w9.out)) L2.out HPO.out).mono ?_; rintro e_ w10 ⟨v_, rfl, hr_, hb_⟩; obtain ⟨a10, k10, rfl, hl_, hC_⟩ := Kd.R_reads hr_; have B_w10 := zz hb_; have L10 := zz hl_; have C10 := zz hC_; clear hr_ hl_ hC_ hb_)
  | (go_at_call 46; obtain ⟨u10, hu_⟩ : ∃ W, w10.alloc (.cells #[.slice a10 p.length k10, .int .i64 po] 32) = W := ⟨_, rfl⟩; have B_u10 := zz (show Below w10.heap.size w10 u10 by rw [← hu_]; exact zj (Below.refl _ _) _); have X_u10 := zz (show u10.heap[w10.heap.size]? = some (.cells #[.slice a10 p.length k10, .int .i64 po] 32 (0, 0)) by rw [← hu_]; exact blk_new _ _); rw [hu_]; clear hu_; refine (impl_EstrinCode.calls k a2 k2 cs e eo true u10 (qz C2.out (zw (zw (zw (zw (zw (zw (zw (zw (zw (zw (zw (zw B_w3.out B_w4.out) B_u4.out) B_w5.out) B_u5.out) B_w6.out) B_w7.out) B_u7.out) B_w8.out) B_u8.out) B_w9.out) B_w10.out) B_u10.out)) L2.out HES.out).mono ?_; rintro e_ w11 ⟨v_, rfl, hr_, hb_⟩; obtain ⟨a11, k11, rfl, hl_, hC_⟩ := Kd.R_reads hr_; have B_w11 := zz hb_; have L11 := zz hl_; have C11 := zz hC_; clear hr_ hl_ hC_ hb_; have kb_u7_w11_0 : (w11.alloc (.cells #[.slice a11 e.length k11, .int .i64 eo] 32)).cell? ⟨w7.heap.size, 0, none⟩ = some (.slice a7 h.length k7) := (zk (zx (zv X_u7.out (zw (zw (zw (zw (zw B_w8.out B_u8.out) B_w9.out) B_w10.out) B_u10.out) B_w11.out)) _) 0).trans rfl; have kb_u7_w11_1 : (w11.alloc (.cells #[.slice a11 e.length k11, .int .i64 eo] 32)).cell? ⟨w7.heap.size, 1, none⟩ = some (.int .i64 ho) := (zk (zx (zv X_u7.out (zw (zw (zw (zw (zw B_w8.out B_u8.out) B_w9.out) B_w10.out) B_u10.out) B_w11.out)) _) 1).trans rfl)
  | (go_at_call 47; refine (impl_PolynomialOf.calls k a11 k11 e eo h2 true w13 (qz C11.out (zw (zw B_u11.out B_w12.out) B_w13.out)) L11.out HPh2.out).mono ?_; rintro e_ w14 ⟨v_, rfl, hr_, hb_⟩; obtain ⟨a14, k14, rfl, hl_, hC_⟩ := Kd.R_reads hr_; have B_w14 := zz hb_; have L14 := zz hl_; have C14 := zz hC_; clear hr_ hl_ hC_ hb_)
  | (go_at_call 47; refine (impl_PolynomialOf.calls k a10 k10 p po g2 true w12 (qz C10.out (zw (zw (zw B_u10.out B_w11.out) B_u11.out) B_w12.out)) L10.out HPg2.out).mono ?_; rintro e_ w13 ⟨v_, rfl, hr_, hb_⟩; obtain ⟨a13, k13, rfl, hl_, hC_⟩ := Kd.R_reads hr_; have B_w13 := zz hb_; have L13 := zz hl_; have C13 := zz hC_; clear hr_ hl_ hC_ hb_; have kb_u11_w13_0 : w13.cell? ⟨w11.heap.size, 0, none⟩ = some (.slice a11 e.length k11) := (zk (zv X_u11.out (zw B_w12.out B_w13.out)) 0).trans rfl; have kb_u11_w13_1 : w13.cell? ⟨w11.heap.size, 1, none⟩ = some (.int .i64 eo) := (zk (zv X_u11.out (zw B_w12.out B_w13.out)) 1).trans rfl)
  | (go_at_call 47; obtain ⟨u11, hu_⟩ : ∃ W, w11.alloc (.cells #[.slice a11 e.length k11, .int .i64 eo] 32) = W := ⟨_, rfl⟩; have B_u11 := zz (show Below w11.heap.size w11 u11 by rw [← hu_]; exact zj (Below.refl _ _) _); have X_u11 := zz (show u11.heap[w11.heap.size]? = some (.cells #[.slice a11 e.length k11, .int .i64 eo] 32 (0, 0)) by rw [← hu_]; exact blk_new _ _); rw [hu_]; clear hu_; refine (impl_PolynomialOf.calls k a7 k7 h ho f true u11 (qz C7.out (zw (zw (zw (zw (zw (zw (zw B_u7.out B_w8.out) B_u8.out) B_w9.out) B_w10.out) B_u10.out) B_w11.out) B_u11.out)) L7.out HPf.out).mono ?_; rintro e_ w12 ⟨v_, rfl, hr_, hb_⟩; obtain ⟨a12, k12, rfl, hl_, hC_⟩ := Kd.R_reads hr_; have B_w12 := zz hb_; have L12 := zz hl_; have C12 := zz hC_; clear hr_ hl_ hC_ hb_; have kb_u10_w12_0 : w12.cell? ⟨w10.heap.size, 0, none⟩ = some (.slice a10 p.length k10) := (zk (zv X_u10.out (zw (zw B_w11.out B_u11.out) B_w12.out)) 0).trans rfl; have kb_u10_w12_1 : w12.cell? ⟨w10.heap.size, 1, none⟩ = some (.int .i64 po) := (zk (zv X_u10.out (zw (zw B_w11.out B_u11.out) B_w12.out)) 1).trans rfl)
  | (go_at_call 48; refine (laws_pSameInts.calls k a12 k12 f a14 k14 h2 true w15 (qz C12.out (zw (zw B_w13.out B_w14.out) B_w15.out)) L12.out (qz C14.out B_w15.out) L14.out HIh2.out).mono ?_; rintro e_ w16 ⟨rfl, hd_⟩; obtain ⟨n16, rfl⟩ := YtlmoemahamneoaaHand.of_drawn hd_; clear hd_; have B_w16 := zz (zq (Below.refl w15.heap.size w15) n16); obtain ⟨w16, hw_⟩ : ∃ W, w15.drewN n16 = W := ⟨_, rfl⟩; rw [hw_] at B_w16; rw [hw_]; clear hw_)
  | (go_at_call 48; refine (laws_pSameInts.calls k a12 k12 f a13 k13 g2 true w14 (qz C12.out (zw B_w13.out B_w14.out)) L12.out (qz C13.out B_w14.out) L13.out HIg2.out).mono ?_; rintro e_ w15 ⟨rfl, hd_⟩; obtain ⟨n15, rfl⟩ := YtlmoemahamneoaaHand.of_drawn hd_; clear hd_; have B_w15 := zz (zq (Below.refl w14.heap.size w14) n15); obtain ⟨w15, hw_⟩ : ∃ W, w14.drewN n15 = W := ⟨_, rfl⟩; rw [hw_] at B_w15; rw [hw_]; clear hw_))
 have CC := zz (qz C2.out (zw (zw (zw (zw (zw (zw (zw (zw (zw (zw (zw (zw (zw (zw (zw (zw (zw (zw (zw B_w3.out B_w4.out) B_u4.out) B_w5.out) B_u5.out) B_w6.out) B_w7.out) B_u7.out) B_w8.out) B_u8.out) B_w9.out) B_w10.out) B_u10.out) B_w11.out) B_u11.out) B_w12.out) B_w13.out) B_w14.out) B_w15.out) B_w16.out))
 have CF := zz (qz C12.out (zw (zw (zw B_w13.out B_w14.out) B_w15.out) B_w16.out))
 have CG := zz (qz C4.out (zw (zw (zw (zw (zw (zw (zw (zw (zw (zw (zw (zw (zw (zw (zw (zw (zw B_u4.out B_w5.out) B_u5.out) B_w6.out) B_w7.out) B_u7.out) B_w8.out) B_u8.out) B_w9.out) B_w10.out) B_u10.out) B_w11.out) B_u11.out) B_w12.out) B_w13.out) B_w14.out) B_w15.out) B_w16.out))
 have CH := zz (qz C7.out (zw (zw (zw (zw (zw (zw (zw (zw (zw (zw (zw (zw B_u7.out B_w8.out) B_u8.out) B_w9.out) B_w10.out) B_u10.out) B_w11.out) B_u11.out) B_w12.out) B_w13.out) B_w14.out) B_w15.out) B_w16.out))
 have CP := zz (qz C10.out (zw (zw (zw (zw (zw (zw (zw B_u10.out B_w11.out) B_u11.out) B_w12.out) B_w13.out) B_w14.out) B_w15.out) B_w16.out))
 have CE := zz (qz C11.out (zw (zw (zw (zw (zw B_u11.out B_w12.out) B_w13.out) B_w14.out) B_w15.out) B_w16.out))
 have BB := zz (zw (zw (zw (zw (zw (zw (zw (zw (zw (zw (zw (zw (zw (zw (zw (zw (zw (zw (zw (zw (zw B_w1.out B_w2.out) B_w3.out) B_w4.out) B_u4.out) B_w5.out) B_u5.out) B_w6.out) B_w7.out) B_u7.out) B_w8.out) B_u8.out) B_w9.out) B_w10.out) B_u10.out) B_w11.out) B_u11.out) B_w12.out) B_w13.out) B_w14.out) B_w15.out) B_w16.out)
 have bx_u4 := zz (zv X_u4.out (zw (zw (zw (zw (zw (zw (zw (zw (zw (zw (zw (zw (zw (zw (zw (zw B_w5.out B_u5.out) B_w6.out) B_w7.out) B_u7.out) B_w8.out) B_u8.out) B_w9.out) B_w10.out) B_u10.out) B_w11.out) B_u11.out) B_w12.out) B_w13.out) B_w14.out) B_w15.out) B_w16.out))
 have bx_u7 := zz (zv X_u7.out (zw (zw (zw (zw (zw (zw (zw (zw (zw (zw (zw B_w8.out B_u8.out) B_w9.out) B_w10.out) B_u10.out) B_w11.out) B_u11.out) B_w12.out) B_w13.out) B_w14.out) B_w15.out) B_w16.out))
 have bx_u10 := zz (zv X_u10.out (zw (zw (zw (zw (zw (zw B_w11.out B_u11.out) B_w12.out) B_w13.out) B_w14.out) B_w15.out) B_w16.out))
 have bx_u11 := zz (zv X_u11.out (zw (zw (zw (zw B_w12.out B_w13.out) B_w14.out) B_w15.out) B_w16.out))
 go_loopg [170] cs.length (fun kq v170 w' => ∃ i : Nat, v170 = .int .i64 (i : Int) ∧ i ≤ cs.length ∧ cs.length - i ≤ kq ∧ Drawn0 w16 w')
 case atStart => exact ⟨0, rfl, Nat.zero_le _, Nat.le_refl _, Drawn0.refl _⟩
 case round =>
  obtain ⟨i, rfl, hin, hgg, ⟨m1, rfl⟩⟩ := hrel
  by_cases hlt : i < cs.length
  ·have p1 : 0 ≤ (i : Int) := Int.natCast_nonneg i
   have q1 : (i : Int) < (cs.length : Int) := Int.ofNat_lt.mpr hlt
   obtain ⟨ad1, e1, hx1⟩ := Kd.at_int (Kd.C_drewN CC.out m1) (i : Int) p1 q1
   cases e1
   rw [Int.toNat_natCast] at hx1
   have d1 : decide ((i : Int) < (cs.length : Int)) = true := decide_eq_true q1
   replace p1 := eq_true p1
   replace q1 := eq_true q1
   have hup := sa_up hlt HLC.out
   cases gk with
   | zero => exact absurd hgg (sa_none hlt)
   | succ k1 =>
    by_cases hf : i < f.length
    ·have q2 : (i : Int) < (f.length : Int) := Int.ofNat_lt.mpr hf
     obtain ⟨ad2, e2, hx2⟩ := Kd.at_int (Kd.C_drewN CF.out m1) (i : Int) (Int.natCast_nonneg i) q2
     cases e2
     rw [Int.toNat_natCast] at hx2
     have d2 : decide ((i : Int) < (f.length : Int)) = true := decide_eq_true q2
     have d3 : decide ((f.length : Int) ≤ (i : Int)) = false := decide_eq_false (Int.not_le.mpr q2)
     have d4 : (rd f (i : Int) != rd cs (i : Int)) = false := bne_eq_false_iff_eq.mpr (HCF.out i hf)
     replace q2 := eq_true q2
     go_wp2
     repeat (go_quiet (fail); try go_wp2)
     go_roundg k1
     case measure => exact Nat.lt_succ_self _
     case rel => exact ⟨i + 1, (by first | exact hup | rfl), hlt, sa_less hgg, by repeat (first | exact Drawn0.refl _ | apply Drawn0.step)⟩
    ·have q2 : ¬ (i : Int) < (f.length : Int) := fun h => hf (Int.ofNat_lt.mp h)
     have d2 : decide ((i : Int) < (f.length : Int)) = false := decide_eq_false q2
     have d3 : decide ((f.length : Int) ≤ (i : Int)) = true := decide_eq_true (Int.not_lt.mp q2)
     have d4 : (rd cs (i : Int) != 0) = false := bne_eq_false_iff_eq.mpr (HCZ.out i (Nat.not_lt.mp hf) hlt)
     go_wp2
     repeat (go_quiet (fail); try go_wp2)
     go_roundg k1
     case measure => exact Nat.lt_succ_self _
     case rel => exact ⟨i + 1, (by first | exact hup | rfl), hlt, sa_less hgg, by repeat (first | exact Drawn0.refl _ | apply Drawn0.step)⟩
  ·have d1 : decide ((i : Int) < (cs.length : Int)) = false := decide_eq_false (fun h => hlt (Int.ofNat_lt.mp h))
   obtain ⟨w17, hw17⟩ : ∃ W, w16.drewN m1 = W := ⟨_, rfl⟩
   have B17 := zz (show Below w16.heap.size w16 w17 by rw [← hw17]; exact zq (Below.refl _ _) m1)
   rw [hw17]
   clear hw17 hin hgg
   cases ok with
   | false =>
    have kx0 := True.intro
    go_wp2_with (first
     | (go_at_call 50; refine (impl_ValueAt.calls a2 k2 cs x m v t w17 (qz CC.out B17.out) L2.out HVA.out).mono ?_; rintro e_ w19 ⟨rfl, hb_⟩; have B_w19 := zz hb_; clear hb_; have kx_u7_w19_0 : w19.cell? ⟨w7.heap.size, 0, none⟩ = some (.slice a7 h.length k7) := (zk (zv bx_u7.out (zw B17.out B_w19.out)) 0).trans rfl; have kx_u7_w19_1 : w19.cell? ⟨w7.heap.size, 1, none⟩ = some (.int .i64 ho) := (zk (zv bx_u7.out (zw B17.out B_w19.out)) 1).trans rfl)
     | (go_at_call 51; refine (impl_RunCode.calls k a11 k11 e eo x m v t w21 (qz CE.out (zw (zw (zw B17.out B_w19.out) B_w20.out) B_w21.out)) L11.out HRC.out).mono ?_; rintro e_ w22 ⟨rfl, hb_⟩; have B_w22 := zz hb_; clear hb_)
     | (go_at_call 51; refine (impl_RunCode.calls k a10 k10 p po x m v t w20 (qz CP.out (zw (zw B17.out B_w19.out) B_w20.out)) L10.out HRB.out).mono ?_; rintro e_ w21 ⟨rfl, hb_⟩; have B_w21 := zz hb_; clear hb_; have kx_u11_w21_0 : w21.cell? ⟨w11.heap.size, 0, none⟩ = some (.slice a11 e.length k11) := (zk (zv bx_u11.out (zw (zw (zw B17.out B_w19.out) B_w20.out) B_w21.out)) 0).trans rfl; have kx_u11_w21_1 : w21.cell? ⟨w11.heap.size, 1, none⟩ = some (.int .i64 eo) := (zk (zv bx_u11.out (zw (zw (zw B17.out B_w19.out) B_w20.out) B_w21.out)) 1).trans rfl)
     | (go_at_call 51; refine (impl_RunCode.calls k a7 k7 h ho x m v t w19 (qz CH.out (zw B17.out B_w19.out)) L7.out HRA.out).mono ?_; rintro e_ w20 ⟨rfl, hb_⟩; have B_w20 := zz hb_; clear hb_; have kx_u10_w20_0 : w20.cell? ⟨w10.heap.size, 0, none⟩ = some (.slice a10 p.length k10) := (zk (zv bx_u10.out (zw (zw B17.out B_w19.out) B_w20.out)) 0).trans rfl; have kx_u10_w20_1 : w20.cell? ⟨w10.heap.size, 1, none⟩ = some (.int .i64 po) := (zk (zv bx_u10.out (zw (zw B17.out B_w19.out) B_w20.out)) 1).trans rfl))
    go_ret
    exact ⟨by simp, zw BB.out (zw (zw (zw (zw B17.out B_w19.out) B_w20.out) B_w21.out) B_w22.out)⟩
   | true =>
    have HSG := zz (HSG.out rfl)
    have kx0 := True.intro
    have kx_u4_w17_0 : w17.cell? ⟨w4.heap.size, 0, none⟩ = some (.slice a4 g.length k4) := (zk (zv bx_u4.out B17.out) 0).trans rfl
    have kx_u4_w17_1 : w17.cell? ⟨w4.heap.size, 1, none⟩ = some (.int .i64 go) := (zk (zv bx_u4.out B17.out) 1).trans rfl
    have kx_u7_w17_0 : w17.cell? ⟨w7.heap.size, 0, none⟩ = some (.slice a7 h.length k7) := (zk (zv bx_u7.out B17.out) 0).trans rfl
    have kx_u7_w17_1 : w17.cell? ⟨w7.heap.size, 1, none⟩ = some (.int .i64 ho) := (zk (zv bx_u7.out B17.out) 1).trans rfl
    go_wp2_with (first
     | (go_at_call 49; refine (impl_SameCode.calls k a4 k4 g go a7 k7 h ho true true w17 (qz CG.out B17.out) L4.out (qz CH.out B17.out) L7.out HSG.out).mono ?_; rintro e_ w18 ⟨rfl, hb_⟩; have B_w18 := zz hb_; clear hb_)
     | (go_at_call 50; refine (impl_ValueAt.calls a2 k2 cs x m v t w18 (qz CC.out (zw B17.out B_w18.out)) L2.out HVA.out).mono ?_; rintro e_ w19 ⟨rfl, hb_⟩; have B_w19 := zz hb_; clear hb_; have kx_u7_w19_0 : w19.cell? ⟨w7.heap.size, 0, none⟩ = some (.slice a7 h.length k7) := (zk (zv bx_u7.out (zw (zw B17.out B_w18.out) B_w19.out)) 0).trans rfl; have kx_u7_w19_1 : w19.cell? ⟨w7.heap.size, 1, none⟩ = some (.int .i64 ho) := (zk (zv bx_u7.out (zw (zw B17.out B_w18.out) B_w19.out)) 1).trans rfl)
     | (go_at_call 51; refine (impl_RunCode.calls k a11 k11 e eo x m v t w21 (qz CE.out (zw (zw (zw (zw B17.out B_w18.out) B_w19.out) B_w20.out) B_w21.out)) L11.out HRC.out).mono ?_; rintro e_ w22 ⟨rfl, hb_⟩; have B_w22 := zz hb_; clear hb_)
     | (go_at_call 51; refine (impl_RunCode.calls k a10 k10 p po x m v t w20 (qz CP.out (zw (zw (zw B17.out B_w18.out) B_w19.out) B_w20.out)) L10.out HRB.out).mono ?_; rintro e_ w21 ⟨rfl, hb_⟩; have B_w21 := zz hb_; clear hb_; have kx_u11_w21_0 : w21.cell? ⟨w11.heap.size, 0, none⟩ = some (.slice a11 e.length k11) := (zk (zv bx_u11.out (zw (zw (zw (zw B17.out B_w18.out) B_w19.out) B_w20.out) B_w21.out)) 0).trans rfl; have kx_u11_w21_1 : w21.cell? ⟨w11.heap.size, 1, none⟩ = some (.int .i64 eo) := (zk (zv bx_u11.out (zw (zw (zw (zw B17.out B_w18.out) B_w19.out) B_w20.out) B_w21.out)) 1).trans rfl)
     | (go_at_call 51; refine (impl_RunCode.calls k a7 k7 h ho x m v t w19 (qz CH.out (zw (zw B17.out B_w18.out) B_w19.out)) L7.out HRA.out).mono ?_; rintro e_ w20 ⟨rfl, hb_⟩; have B_w20 := zz hb_; clear hb_; have kx_u10_w20_0 : w20.cell? ⟨w10.heap.size, 0, none⟩ = some (.slice a10 p.length k10) := (zk (zv bx_u10.out (zw (zw (zw B17.out B_w18.out) B_w19.out) B_w20.out)) 0).trans rfl; have kx_u10_w20_1 : w20.cell? ⟨w10.heap.size, 1, none⟩ = some (.int .i64 po) := (zk (zv bx_u10.out (zw (zw (zw B17.out B_w18.out) B_w19.out) B_w20.out)) 1).trans rfl))
    go_ret
    exact ⟨by simp, zw BB.out (zw (zw (zw (zw (zw B17.out B_w18.out) B_w19.out) B_w20.out) B_w21.out) B_w22.out)⟩
def SaOk (k : Nat) (l0 l1 : List Int) : Prop := laws_big.f l0 l1 = some true ∨ (∃ (cs xs : List Int) (kk x m : Int) (g r h q p e : List S109) (go ro ho qo po eo : Int), SaAll k l0 l1 cs xs kk x m g r h q p e go ro ho qo po eo false false) ∨ ∃ (cs xs : List Int) (kk x m : Int) (g r h q p e : List S109) (go ro ho qo po eo : Int) (ok : Bool) (f g2 h2 : List Int) (v : Int) (t : Bool), SaAll k l0 l1 cs xs kk x m g r h q p e go ro ho qo po eo ok true ∧ impl_PolynomialOf.f k h ho = some (f, true) ∧ impl_PolynomialOf.f k p po = some (g2, true) ∧ impl_PolynomialOf.f k e eo = some (h2, true) ∧ laws_pSameInts.f k f g2 = some true ∧ laws_pSameInts.f k f h2 = some true ∧ f.length ≤ cs.length ∧ cs.length ≤ 1000 ∧ (∀ i : Nat, i < f.length → rd f i = rd cs i) ∧ (∀ i : Nat, f.length ≤ i → i < cs.length → rd cs i = 0) ∧ (ok = true → impl_SameCode.f k g go h ho = some (true, true)) ∧ impl_ValueAt.f cs x m = some (v, t) ∧ impl_RunCode.f k h ho x m = some (v, t) ∧ impl_RunCode.f k p po x m = some (v, t) ∧ impl_RunCode.f k e eo x m = some (v, t)
def laws_FnSchemesAgree.Pure : Prop := ∀ (l0 : List Int) (l1 : List Int), l0.length ≤ maxLen → l0.length * 1 ≤ 140737488351232 → (∀ x ∈ l0, (Lit.int .u8 x).wf = true) → l1.length ≤ maxLen → l1.length * 1 ≤ 140737488351232 → (∀ x ∈ l1, (Lit.int .u8 x).wf = true) → ∃ k, SaOk k l0 l1
theorem laws_FnSchemesAgree.walk (P : laws_FnSchemesAgree.Pure) (a0 : Option Addr) (len0 cap0 : Nat) (z0 : List Int) (a1 : Option Addr) (len1 cap1 : Nat) (z1 : List Int) (w : World) (w0 : (a0 = none ∧ len0 = 0 ∧ cap0 = 0 ∧ z0 = []) ∨ ∃ x, a0 = some x ∧ len0 ≤ cap0 ∧ cap0 ≤ maxLen ∧ z0.length = cap0 ∧ (∀ i, i < z0.length → w.cell? (x.add i) = some (.int .u8 (z0.getD i 0))) ∧ ∀ n ∈ z0, (Lit.int .u8 n).wf = true) (y0 : len0 * 1 ≤ 140737488351232) (w1 : (a1 = none ∧ len1 = 0 ∧ cap1 = 0 ∧ z1 = []) ∨ ∃ x, a1 = some x ∧ len1 ≤ cap1 ∧ cap1 ≤ maxLen ∧ z1.length = cap1 ∧ (∀ i, i < z1.length → w.cell? (x.add i) = some (.int .u8 (z1.getD i 0))) ∧ ∀ n ∈ z1, (Lit.int .u8 n).wf = true) (y1 : len1 * 1 ≤ 140737488351232) :
  Calls Try.prog 7 #[.slice a0 len0 cap0, .slice a1 len1 cap1] w fun e w' => e = .returned (.bool true) ∧ Below w.heap.size w w' := by
 obtain ⟨l0, rfl, hr0, hm0, hw0, hc0⟩ := ReadsInt.ofRowC w0
 obtain ⟨l1, rfl, hr1, hm1, hw1, hc1⟩ := ReadsInt.ofRowC w1
 obtain ⟨k, h⟩ := P l0 l1 hm0 y0 hw0 hm1 y1 hw1
 have q0 := Kd.C_of_reads (d := (0 : Int)) (h1 := fun _ => rfl) hr0
 have q1 := Kd.C_of_reads (d := (0 : Int)) (h1 := fun _ => rfl) hr1
 rcases h with h | ⟨cs, xs, kk, x, m, g, r, h, q, p, e, go, ro, ho, qo, po, eo, hz⟩ | ⟨cs, xs, kk, x, m, g, r, h, q, p, e, go, ro, ho, qo, po, eo, ok, f, g2, h2, v, t, hz, b1, b2, b3, b4, b5, b6, b7, b8, b9, b10, b11, b12, b13, b14⟩
 ·exact sa_big _ _ l0 _ _ l1 w q0 hc0 q1 hc1 h
 ·exact sa_no k _ _ l0 _ _ l1 w q0 hc0 q1 hc1 cs xs kk x m g r h q p e go ro ho qo po eo hz
 ·exact sa_yes k _ _ l0 _ _ l1 w q0 hc0 q1 hc1 cs xs kk x m g r h q p e go ro ho qo po eo ok f g2 h2 v t hz b1 b2 b3 b4 b5 b6 b7 b8 b9 b10 b11 b12 b13 b14
end
end Go.Proofs.Ytlmoemahamneoaa.PFnSchemesAgree
