-- Written by gprint.py, a program of this session, out of the translation (a changed print).
import Derived.Test.YtafnnnpcochnnaaPFnWindowFormsx0
import Derived.Test.YtafnnnpcochnnaaPFnWindowFormsx1
namespace Go.Proofs.Ytafnnnpcochnnaa.PFnWindowForms
open Go.RowKit Go.Proofs.YtafnnnpcochnnaaW.PrintWords Go.Proofs.YtafnnnpcochnnaaW.PrintLast Go.Proofs.YtafnnnpcochnnaaW.PrintMore
attribute [local go_sem] max2_int min2_int max_two min_two max_three min_three max_four min_four   -- for this text's walks alone
set_option linter.unusedVariables false
set_option linter.unusedSimpArgs false

/-! ### impl_sparse: function 83 -/
mutual
def impl_sparse.j0 : Nat → List Int → Int → Bool → Option (Bool)
  | 0, _, _, _ => none
  | k + 1, x0, x1, x19 => if x19 = true then (some false) else (impl_sparse.l0 k x1 (wrap64 (-x1)) x0 (x0.length : Int) 0)
def impl_sparse.l0 : Nat → Int → Int → List Int → Int → Int → Option (Bool)
  | 0, _, _, _, _, _ => none
  | k + 1, x1, x5, x22, x23, x24 => if x24 < x23 then (if 0 ≤ x24 then (if x24 < (x22.length : Int) then (if (rd x22 x24) = 0 then (impl_sparse.l0 k x1 x5 x22 x23 (wrap64 (x24 + 1))) else (if (wrap64 (x24 - x5)) < x1 then (some false) else (impl_sparse.l0 k x1 x24 x22 x23 (wrap64 (x24 + 1))))) else (none)) else (none)) else (some true)
end
def impl_sparse.f (k : Nat) (l0 : List Int) (a1 : Int) : Option (Bool) := if (l0.length : Int) > 0 then (if 0 ≤ (wrap64 ((l0.length : Int) - 1)) then (if (wrap64 ((l0.length : Int) - 1)) < (l0.length : Int) then (impl_sparse.j0 k l0 a1 ((rd l0 (wrap64 ((l0.length : Int) - 1))) == 0)) else (none)) else (none)) else (impl_sparse.j0 k l0 a1 false)
theorem impl_sparse.mono_l : ∀ k, (∀ y0 y1 y2, LeO (impl_sparse.j0 k y0 y1 y2) (impl_sparse.j0 (k + 1) y0 y1 y2)) ∧ (∀ y0 y1 y2 y3 y4, LeO (impl_sparse.l0 k y0 y1 y2 y3 y4) (impl_sparse.l0 (k + 1) y0 y1 y2 y3 y4))
  | 0 => ⟨fun _ _ _ r h => by simp [impl_sparse.j0] at h, fun _ _ _ _ _ r h => by simp [impl_sparse.l0] at h⟩
  | k + 1 => by
    obtain ⟨ih0, ih1⟩ := impl_sparse.mono_l k
    refine ⟨?_, ?_⟩
    · intro y0 y1 y2
      unfold impl_sparse.j0
      repeat' first
      | (with_reducible exact ih0 _ _ _)
      | (with_reducible exact ih1 _ _ _ _ _)
      | (with_reducible exact LeO.refl _)
      | (with_reducible exact LeO.none _)
      | (with_reducible refine LeO.ite ?_ ?_)
      | (with_reducible refine LeO.bind ?_ (fun _ => ?_))
      | exact ih0 _ _ _
      | exact ih1 _ _ _ _ _
      | exact LeO.none _
      | refine LeO.ite ?_ ?_
      | refine LeO.bind ?_ (fun _ => ?_)
    · intro y0 y1 y2 y3 y4
      unfold impl_sparse.l0
      repeat' first
      | (with_reducible exact ih0 _ _ _)
      | (with_reducible exact ih1 _ _ _ _ _)
      | (with_reducible exact LeO.refl _)
      | (with_reducible exact LeO.none _)
      | (with_reducible refine LeO.ite ?_ ?_)
      | (with_reducible refine LeO.bind ?_ (fun _ => ?_))
      | exact ih0 _ _ _
      | exact ih1 _ _ _ _ _
      | exact LeO.none _
      | refine LeO.ite ?_ ?_
      | refine LeO.bind ?_ (fun _ => ?_)
theorem impl_sparse.mono : ∀ a0 a1 k, LeO (impl_sparse.f k a0 a1) (impl_sparse.f (k + 1) a0 a1) := by
  intro a0 a1 k
  obtain ⟨ih0, ih1⟩ := impl_sparse.mono_l k
  unfold impl_sparse.f
  repeat' first
      | (with_reducible exact ih0 _ _ _)
      | (with_reducible exact ih1 _ _ _ _ _)
      | (with_reducible exact LeO.refl _)
      | (with_reducible exact LeO.none _)
      | (with_reducible refine LeO.ite ?_ ?_)
      | (with_reducible refine LeO.bind ?_ (fun _ => ?_))
      | exact ih0 _ _ _
      | exact ih1 _ _ _ _ _
      | exact LeO.none _
      | refine LeO.ite ?_ ?_
      | refine LeO.bind ?_ (fun _ => ?_)
set_option maxHeartbeats 8000000 in
set_option maxRecDepth 100000 in
theorem impl_sparse.calls (k : Nat) (A0 : Option Addr) (c0 : Nat) (l0 : List Int) (a1 : Int) (r : Bool) (w : World) (hr0 : Kd.C (Kd.int .i64) w A0 l0.length l0) (hc0 : l0.length ≤ c0) (h : impl_sparse.f k l0 a1 = some r) :
    Calls Try.prog 83 #[.slice A0 l0.length c0, .int .i64 a1] w fun e w' => e = .returned (.bool r) ∧ Drawn0 w w' := by
  have HR0 := Aside0.mk hr0
  have HC0 := Aside0.mk hc0
  clear hr0 hc0
  have H : (if (l0.length : Int) > 0 then (if 0 ≤ (wrap64 ((l0.length : Int) - 1)) then (if (wrap64 ((l0.length : Int) - 1)) < (l0.length : Int) then (impl_sparse.j0 k l0 a1 ((rd l0 (wrap64 ((l0.length : Int) - 1))) == 0)) else (none)) else (none)) else (impl_sparse.j0 k l0 a1 false)) = some r := h
  clear h
  have HC3 := Aside0.mk H
  clear H
  go_enter Try.func83, Try.ntmps83
  go_upto_region 1 with (fail)
  go_cut [19] (fun v19 wc => ∃ (kq : Nat) (x19_2 : Bool), v19 = .bool x19_2 ∧ Aside0 (impl_sparse.j0 kq l0 a1 x19_2 = some r) ∧ Aside0 (kq ≤ k) ∧ Drawn0 w wc)
  case first =>
    have H := HC3.out
    clear HC3
    by_cases c4 : (l0.length : Int) > 0
    · rw [if_pos c4] at H
      have c4b0 : decide (0 < (l0.length : Int)) = true := decide_eq_true c4
      have c4b1 : decide (0 < l0.length) = true := decide_eq_true (by omega)
      clear c4
      (first | rw [c4b0] | (simp only [i64_w, i32_w]; rw [c4b0]) | skip)
      obtain ⟨ji5, hji5⟩ : ∃ j_ : Int, (wrap64 ((l0.length : Int) - 1)) = j_ := ⟨_, rfl⟩
      replace H : (if 0 ≤ (ji5) then (if (ji5) < (l0.length : Int) then (impl_sparse.j0 k l0 a1 ((rd l0 (ji5)) == 0)) else (none)) else (none)) = some r := by first | (rw [hji5] at H; exact H) | (simp only [hji5] at H ⊢; exact H)
      have hji5w : (IntKind.i64.wrap ((l0.length : Int) - 1)) = ji5 := (i64_w _).trans hji5
      by_cases c6 : 0 ≤ (ji5)
      · rw [if_pos c6] at H
        have c6b0 : decide (0 ≤ (ji5)) = true := decide_eq_true c6
        clear c6
        by_cases c7 : (ji5) < (l0.length : Int)
        · rw [if_pos c7] at H
          have c7b0 : decide ((ji5) < (l0.length : Int)) = true := decide_eq_true c7
          clear c7
          have H' := Aside0.mk H
          clear H
          have p117 : 0 ≤ ((ji5) : Int) := of_decide_eq_true (by first | (with_reducible assumption) | assumption)
          have q117 : (ji5) < (l0.length : Int) := of_decide_eq_true (by first | (with_reducible assumption) | assumption)
          obtain ⟨ad117, e117, hx117_0⟩ := Kd.at_int HR0.out (ji5) p117 q117
          cases e117
          replace p117 := eq_true p117
          replace q117 := eq_true q117
          go_wp2
          go_meet
          case rel => exact ⟨_, (((rd l0 (ji5)) == 0)), (by first | rfl | (simp; done) | (simp only [← hji5] <;> (first | rfl | simp)) | (simp [*]; done)), H', ⟨by first | omega | exact Nat.le_refl _⟩, by repeat (first | exact Drawn0.refl _ | apply Drawn0.step)⟩
        · rw [if_neg c7] at H
          exact absurd H (by simp)
      · rw [if_neg c6] at H
        exact absurd H (by simp)
    · rw [if_neg c4] at H
      have c4b0 : decide (0 < (l0.length : Int)) = false := decide_eq_false c4
      have c4b1 : decide (0 < l0.length) = false := decide_eq_false (by omega)
      clear c4
      (first | rw [c4b0] | (simp only [i64_w, i32_w]; rw [c4b0]) | skip)
      have H' := Aside0.mk H
      clear H
      go_wp2
      go_meet
      case rel => exact ⟨_, (false), (by first | rfl | (simp; done) | (simp [*]; done)), H', ⟨by first | omega | exact Nat.le_refl _⟩, by repeat (first | exact Drawn0.refl _ | apply Drawn0.step)⟩
  case rest =>
    clear HC3
    try clear p1
    try clear q1
    try clear hx1
    try clear p2
    try clear c4
    try clear c4b0
    try clear c4b1
    try clear c6
    try clear c6b0
    try clear p6
    try clear c7
    try clear c7b0
    try clear hx117_0
    try clear p117
    try clear q117
    obtain ⟨kq, x19_2, rfl, HA, HJ2, ⟨mc2, rfl⟩⟩ := hcut
    cases kq with
    | zero => exact absurd HA.out (by simp [impl_sparse.j0])
    | succ kj2 =>
      have H := HA.out
      clear HA
      simp only [impl_sparse.j0] at H
      by_cases c8 : x19_2 = true
      · subst c8
        have H1 : (some false) = some r := by rw [if_pos rfl] at H; exact H
        clear H
        have H := H1
        clear H1
        obtain rfl := Option.some.inj H
        go_wp2
        go_ret
        exact ⟨by first | rfl | (simp; done) | (simp [*]; done), by repeat (first | exact Drawn0.refl _ | apply Drawn0.step)⟩
      · replace c8 := Bool.eq_false_iff.mpr c8
        subst c8
        have H1 : (impl_sparse.l0 kj2 a1 (wrap64 (-a1)) l0 (l0.length : Int) 0) = some r := by rw [if_neg (show ¬ (false = true) by decide)] at H; exact H
        clear H
        have H := H1
        clear H1
        have H' := Aside0.mk H
        clear H
        go_wp2
        go_loopg [5, 24] kj2 (fun kq v5 v24 w' => ∃ (x5_2 : Int) (x24_2 : Int), v5 = .int .i64 x5_2 ∧ v24 = .int .i64 x24_2 ∧ Aside0 (impl_sparse.l0 kq a1 x5_2 l0 (l0.length : Int) x24_2 = some r) ∧ Aside0 (kq ≤ kj2) ∧ Drawn0 w w')
        case atStart => exact ⟨(wrap64 (-a1)), (0), (by first | rfl | (simp; done) | (simp [*]; done)), (by first | rfl | (simp; done) | (simp [*]; done)), H', ⟨Nat.le_refl _⟩, by repeat (first | exact Drawn0.refl _ | apply Drawn0.step)⟩
        case round =>
          clear H'
          try clear p1
          try clear q1
          try clear hx1
          try clear c2
          try clear p2
          try clear c4
          try clear c4b0
          try clear c4b1
          try clear c6
          try clear c6b0
          try clear p6
          try clear c7
          try clear c7b0
          try clear c8
          try clear hx117_0
          try clear p1
          try clear p117
          try clear p2
          try clear p6
          try clear q1
          try clear q117
          obtain ⟨x5_2, x24_2, rfl, rfl, HA, HK2, ⟨m2, rfl⟩⟩ := hrel
          cases gk with
          | zero => exact absurd HA.out (by simp [impl_sparse.l0])
          | succ k2 =>
            have H := HA.out
            clear HA
            simp only [impl_sparse.l0] at H
            by_cases c9 : x24_2 < (l0.length : Int)
            · rw [if_pos c9] at H
              have c9b0 : decide (x24_2 < (l0.length : Int)) = true := decide_eq_true c9
              clear c9
              by_cases c10 : 0 ≤ x24_2
              · rw [if_pos c10] at H
                have c10b0 : decide (0 ≤ x24_2) = true := decide_eq_true c10
                clear c10
                by_cases c11 : x24_2 < (l0.length : Int)
                · rw [if_pos c11] at H
                  have c11b0 : decide (x24_2 < (l0.length : Int)) = true := decide_eq_true c11
                  clear c11
                  by_cases c12 : (rd l0 x24_2) = 0
                  · rw [if_pos c12] at H
                    have c12b0 : ((rd l0 x24_2) == 0) = true := beq_iff_eq.mpr c12
                    have c12b1 : ((rd l0 x24_2) != 0) = false := bne_eq_false_iff_eq.mpr c12
                    clear c12
                    have H' := Aside0.mk H
                    clear H
                    have p118 : 0 ≤ (x24_2 : Int) := of_decide_eq_true (by first | (with_reducible assumption) | assumption)
                    have q118 : x24_2 < (l0.length : Int) := of_decide_eq_true (by first | (with_reducible assumption) | assumption)
                    obtain ⟨ad118, e118, hx118_0⟩ := Kd.at_int HR0.out x24_2 p118 q118
                    cases e118
                    replace p118 := eq_true p118
                    replace q118 := eq_true q118
                    go_wp2
                    go_roundg k2
                    case measure => have := HJ2.out; have := HK2.out; omega
                    case rel => exact ⟨(x5_2), (wrap64 (x24_2 + 1)), (by first | rfl | (simp; done) | (simp [*]; done)), (by first | rfl | (simp; done) | (simp [*]; done)), H', ⟨by have := HJ2.out; have := HK2.out; omega⟩, by repeat (first | exact Drawn0.refl _ | apply Drawn0.step)⟩
                  · rw [if_neg c12] at H
                    have c12b0 : ((rd l0 x24_2) == 0) = false := beq_eq_false_iff_ne.mpr c12
                    have c12b1 : ((rd l0 x24_2) != 0) = true := bne_iff_ne.mpr c12
                    by_cases c13 : (wrap64 (x24_2 - x5_2)) < a1
                    · rw [if_pos c13] at H
                      have c13b0 : decide ((wrap64 (x24_2 - x5_2)) < a1) = true := decide_eq_true c13
                      clear c13
                      obtain rfl := Option.some.inj H
                      have p118 : 0 ≤ (x24_2 : Int) := of_decide_eq_true (by first | (with_reducible assumption) | assumption)
                      have q118 : x24_2 < (l0.length : Int) := of_decide_eq_true (by first | (with_reducible assumption) | assumption)
                      obtain ⟨ad118, e118, hx118_0⟩ := Kd.at_int HR0.out x24_2 p118 q118
                      cases e118
                      replace p118 := eq_true p118
                      replace q118 := eq_true q118
                      go_wp2
                      go_ret
                      exact ⟨by first | rfl | (simp; done) | (simp [*]; done), by repeat (first | exact Drawn0.refl _ | apply Drawn0.step)⟩
                    · rw [if_neg c13] at H
                      have c13b0 : decide ((wrap64 (x24_2 - x5_2)) < a1) = false := decide_eq_false c13
                      clear c13
                      have H' := Aside0.mk H
                      clear H
                      have p118 : 0 ≤ (x24_2 : Int) := of_decide_eq_true (by first | (with_reducible assumption) | assumption)
                      have q118 : x24_2 < (l0.length : Int) := of_decide_eq_true (by first | (with_reducible assumption) | assumption)
                      obtain ⟨ad118, e118, hx118_0⟩ := Kd.at_int HR0.out x24_2 p118 q118
                      cases e118
                      replace p118 := eq_true p118
                      replace q118 := eq_true q118
                      go_wp2
                      go_roundg k2
                      case measure => have := HJ2.out; have := HK2.out; omega
                      case rel => exact ⟨(x24_2), (wrap64 (x24_2 + 1)), (by first | rfl | (simp; done) | (simp [*]; done)), (by first | rfl | (simp; done) | (simp [*]; done)), H', ⟨by have := HJ2.out; have := HK2.out; omega⟩, by repeat (first | exact Drawn0.refl _ | apply Drawn0.step)⟩
                · rw [if_neg c11] at H
                  exact absurd H (by simp)
              · rw [if_neg c10] at H
                exact absurd H (by simp)
            · rw [if_neg c9] at H
              have c9b0 : decide (x24_2 < (l0.length : Int)) = false := decide_eq_false c9
              clear c9
              obtain rfl := Option.some.inj H
              go_wp2
              go_ret
              exact ⟨by first | rfl | (simp; done) | (simp [*]; done), by repeat (first | exact Drawn0.refl _ | apply Drawn0.step)⟩

/-! ### impl_standing: function 87 -/
/-- The number that digits stand for, as the program reckons it: the last digit first. -/
def standW (l : List Int) : Int := l.foldr (fun d n => wrap64 (wrap64 (2 * n) + d)) 0
def impl_standing.f (l0 : List Int) : Option (Int) := if l0.length * 8 ≤ 140737488351232 then some (standW l0) else none
/-- What has been reckoned when some pairs have come. -/
def standP (pre : List (Int × Int)) : Int := pre.foldl (fun n p => wrap64 (wrap64 (2 * n) + p.2)) 0
theorem standP_snoc (pre : List (Int × Int)) (x : Int × Int) : standP (pre ++ [x]) = wrap64 (wrap64 (2 * standP pre) + x.2) := by simp [standP]
theorem upto_rev (zs : List Int) : ∀ k, k ≤ zs.length → (YtafnnnpcochnnaaBack.upto (YtafnnnpcochnnaaBack.pairAt zs) k).map Prod.snd = (zs.drop (zs.length - k)).reverse := by
  intro k
  induction k with
  | zero => intro _; simp [YtafnnnpcochnnaaBack.upto]
  | succ k ih =>
    intro hk
    rw [YtafnnnpcochnnaaBack.upto_succ, List.map_append, ih (by omega)]
    have e : zs.length - k = (zs.length - (k + 1)) + 1 := by omega
    have hlt : zs.length - (k + 1) < zs.length := by omega
    rw [List.drop_eq_getElem_cons hlt, ← e, List.reverse_cons]
    congr 1
    simp only [List.map_cons, List.map_nil, YtafnnnpcochnnaaBack.pairAt]
    rw [show zs.length - 1 - k = zs.length - (k + 1) by omega, List.getElem?_eq_getElem hlt]; rfl
theorem standP_all (zs : List Int) : standP (YtafnnnpcochnnaaBack.pairs zs) = standW zs := by
  have h := upto_rev zs zs.length (Nat.le_refl _)
  rw [Nat.sub_self, List.drop_zero] at h
  have e : standP (YtafnnnpcochnnaaBack.pairs zs) = ((YtafnnnpcochnnaaBack.pairs zs).map Prod.snd).foldl (fun n d => wrap64 (wrap64 (2 * n) + d)) 0 := by rw [List.foldl_map]; rfl
  rw [e]
  unfold YtafnnnpcochnnaaBack.pairs
  rw [h, List.foldl_reverse]; rfl
attribute [local go_sem] Oper.semAt_some in
open Go.Shelf in
set_option maxRecDepth 100000 in
set_option maxHeartbeats 4000000 in
theorem standing_in (F : Fence) (n : Nat) (h3 : F.fn 87) (h5 : F.fn 93) (h7 : F.fn 131) (hro : F.round = none) (hn : 3 ≤ n) (a : Option Addr) (len cap : Nat) (zs : List Int) (hreach : zs.length * 8 ≤ 140737488351232) (w : World) (hI : YtafnnnpcochnnaaBack.Ints w.heap.size w (.slice a len cap) zs) :
    CallsIn F n Try.prog 87 #[.slice a len cap] w fun e W' => e = .returned (.int .i64 (standW zs)) ∧ Below w.heap.size w W' := by
  have h1 : 1 ≤ n := by omega
  refine callsIn_of_wp_marks Try.func87 rfl h3 ?_ hro
  simp only [Try.ntmps87, List.size_toArray, List.length_cons, List.length_nil, Nat.reduceAdd, Nat.reduceSub, Array.replicate_succ, Array.replicate_zero, List.push_toArray, List.append_toArray, List.nil_append, List.cons_append]
  gi_wp2_with (gi_at_call 93; refine (YtafnnnpcochnnaaBack.back_in F (n - 1) h5 hro _ _ _ _).mono ?_; rintro e w' ⟨rfl, rfl⟩)
  have bS := Boxed.new w 3 (.int .i64 0)
  have bN := Boxed.new (w.alloc (.cells #[.int .i64 0] 3)) 22 (.slice a len cap)
  rw [World.size_alloc] at bN
  have hB0 : Below w.heap.size w ((w.alloc (.cells #[.int .i64 0] 3)).alloc (.cells #[.slice a len cap] 22)) := ((Below.refl _ w).alloc (Nat.le_refl _) _).alloc (by simp) _
  have bB := blk_new (w.alloc (.cells #[.int .i64 0] 3)) (.cells #[.slice a len cap] 22)
  rw [World.size_alloc] at bB
  refine wpIn_rangeFunc_ownG hro h1 (gf := 131) (lb := #[.pointer (some ⟨w.heap.size + 1, 0, none⟩)]) rfl h7 (enters_of Try.func131 (by kernel_rfl) rfl)
    (YtafnnnpcochnnaaBack.back_stops F (n - 1) h7 hro (by omega) (w.heap.size + 1) w.heap.size _ zs hreach _ (by simp) (by simp; omega) bB (hI.below hB0)) YtafnnnpcochnnaaBack.KeepB.trans (YtafnnnpcochnnaaBack.keepB_b (by simp; omega)) (Below.refl _ _) (fun _ => rfl)
    (fun pre W => (W.cell? ⟨w.heap.size, 0, none⟩ = some (.int .i64 (standP pre)) ∧ W.frozen? ⟨w.heap.size, 0, none⟩ = false) ∧ Below w.heap.size w W)
    (fun _ _ _ => False)
    (OwnFrom.and (Own.from (fun s A B row hs hg hr => ⟨cell_kept hs.1 hg hr, (frozen_kept hs.1 hg hr).trans hs.2⟩) _) (ownFrom_below (Nat.le_refl _) (by simp; omega)))
    (fun _ _ _ _ _ hs _ _ => hs)
    ⟨⟨(bS.alloc _).cell, (bS.alloc _).frozen⟩, hB0⟩
    (fun x => { tmps := #[.slice a len cap, undef, .int .i64 0, .pointer (some ⟨w.heap.size, 0, none⟩), undef, .int .i64 x.2, .slice a len cap, .func (.func 131) #[] #[.pointer (some ⟨w.heap.size + 1, 0, none⟩)], .int .i64 x.1, .int .i64 x.2, undef, undef, undef, undef, undef], defers := [] }) ?assign ?body ?done ?stop
  case assign =>
    intro l x W K hK
    gi_wp2
    exact hK
  case body =>
    rintro l pre x W ⟨⟨hc, hf⟩, hB⟩ _
    gi_wp2
    exact ⟨(KeepsOthers.setCell _ _ _).from _, YtafnnnpcochnnaaBack.KeepB.set (p := ⟨w.heap.size, 0, none⟩) (Nat.le_refl _) (by simp) _, ⟨by rw [standP_snoc]; exact World.cell?_setCell_same' _ _ _ (by rw [hc]; rfl), by rw [World.frozen?_setCell]; exact hf⟩, hB.setCell (p := ⟨w.heap.size, 0, none⟩) (Nat.le_refl _) _⟩
  case done =>
    rintro D ys W hD rfl ⟨⟨hc, _⟩, hB⟩ hK
    rw [standP_all] at hc
    gi_wp2
    refine ⟨by simp, .inl ⟨_, _, rfl, run_takeDeferred hK, ?_⟩⟩
    exact ⟨_, results_tmp rfl _ _ _, rfl, hB.trans (belowK_b (w := w) (Nat.le_refl _) W D _ _ (by simp at hD; omega) hK rfl rfl)⟩
  case stop =>
    rintro D c pre W _ _ h _
    exact h.elim
theorem impl_standing.calls (A0 : Option Addr) (c0 : Nat) (l0 : List Int) (r : Int) (w : World) (hr0 : Kd.C (Kd.int .i64) w A0 l0.length l0) (hc0 : l0.length ≤ c0) (h : impl_standing.f l0 = some r) :
    Calls Try.prog 87 #[.slice A0 l0.length c0] w fun e w' => e = .returned (.int .i64 r) ∧ Below w.heap.size w w' := by
  unfold impl_standing.f at h
  split at h
  · rename_i hre
    obtain rfl := Option.some.inj h
    exact callsIn_wide.1 (standing_in Fence.wide 5 trivial trivial trivial rfl (by omega) A0 l0.length c0 l0 hre w (YtafnnnpcochnnaaBack.ints_of hr0 (Nat.le_refl _)))
  · cases h

/-! ### impl_signedOk: function 88 -/
def impl_signedOk.f (a0 : Int) : Option (Bool) := (impl_in.f a0 (-1000000) 1000000).bind fun t119 => (some t119)
set_option maxHeartbeats 8000000 in
set_option maxRecDepth 100000 in
theorem impl_signedOk.calls (a0 : Int) (r : Bool) (w : World) (h : impl_signedOk.f a0 = some r) :
    Calls Try.prog 88 #[.int .i64 a0] w fun e w' => e = .returned (.bool r) ∧ Drawn0 w w' := by
  have H : ((impl_in.f a0 (-1000000) 1000000).bind fun t119 => (some t119)) = some r := h
  clear h
  replace H := Option.bind_eq_some_iff.mp H
  obtain ⟨t119, A20, H⟩ := H
  replace H : (some t119) = some r := H
  have A2 := Aside0.mk A20
  clear A20
  obtain rfl := Option.some.inj H
  go_enter Try.func88, Try.ntmps88
  go_wp2_with (first | ((with_reducible refine gate_callee (f := 86) rfl ?_); refine goesL_ (some 4) rfl rfl Try.func86 (by kernel_rfl) rfl #[.int .i64 a0, .int .i64 (-1000000), .int .i64 1000000] rfl (by (try simp only [List.map_toArray, List.map_cons, List.map_nil]); first | done | rfl | (simp only [List.length_drop, List.length_take]; rfl)) ?_; (with_reducible refine (impl_in.calls a0 (-1000000) 1000000 t119 _ A2.out).mono ?_); rintro e w' ⟨rfl, ⟨nd, rfl⟩⟩; refine ⟨_, rfl, ?_⟩))
  go_ret
  exact ⟨by first | rfl | (simp; done) | (simp [*]; done), by repeat (first | exact Drawn0.refl _ | apply Drawn0.step)⟩

/-! ### impl_FromWindow: function 17 -/
/-- A digit that does not fit: neither 0 nor an odd number within the limit. -/
def misfit (most d : Int) : Bool := !(d == 0) && (Int.tmod d 2 == 0 || !(decide (-most ≤ d) && decide (d ≤ most)))
def winB (most : Int) (l : List Int) : Bool := l.any (misfit most)
def mostOf (w : Int) : Int := if w = 2 then 1 else if w = 3 then 3 else if w = 4 then 7 else if w = 5 then 15 else 31
def impl_FromWindow.f (k : Nat) (l0 : List Int) (a1 : Int) : Option (Int × Bool) := if 2 ≤ a1 ∧ a1 ≤ 6 then (if l0.length ≤ 24 then (impl_sparse.f k l0 a1).bind fun s => (if s = true then (if winB (mostOf a1) l0 = true then some (0, false) else (impl_standing.f l0).bind fun n => (impl_signedOk.f n).bind fun o => (if o = true then some (n, true) else some (0, false))) else some (0, false)) else some (0, false)) else some (0, false)
set_option maxHeartbeats 1000000 in
set_option maxRecDepth 100000 in
theorem fromWindow_one (most x : Int) (hm : most = 1 ∨ most = 3 ∨ most = 7 ∨ most = 15 ∨ most = 31) (B : Nat) (W : World) (hb : W.cell? ⟨B, 0, none⟩ = some (.int .i64 most)) :
    Calls Try.prog 85 #[.int .i64 x, .pointer (some ⟨B, 0, none⟩)] W fun e w' => e = .returned (.bool (misfit most x)) ∧ ∃ q, w' = W.drewN q := by
  have H : impl_in.f x (-most) most = some (decide (-most ≤ x) && decide (x ≤ most)) := by
    unfold impl_in.f
    by_cases h : -most ≤ x
    · rw [if_pos h]; simp [h]
    · rw [if_neg h]; simp [h]
  unfold misfit
  generalize (decide (-most ≤ x) && decide (x ≤ most)) = b at H ⊢
  by_cases h0 : x = 0
  · subst h0
    clear H
    go_enter Try.func85, Try.ntmps85
    go_wp2
    go_ret
    exact ⟨by simp, 0, rfl⟩
  have g0 : (x == 0) = false := beq_eq_false_iff_ne.mpr h0
  by_cases h1 : Int.tmod x 2 = 0
  · have g1 : (Int.tmod x 2 == 0) = true := beq_iff_eq.mpr h1
    clear H
    go_enter Try.func85, Try.ntmps85
    go_wp2
    go_ret
    exact ⟨by simp [h0, h1] <;> rfl, 0, rfl⟩
  · have g1 : (Int.tmod x 2 == 0) = false := beq_eq_false_iff_ne.mpr h1
    have HH := Go.Lib.hid H
    clear H
    rcases hm with rfl | rfl | rfl | rfl | rfl
    all_goals
      go_enter Try.func85, Try.ntmps85
      go_wp2_with (go_at_call 86; refine (impl_in.calls _ _ _ b _ HH.out).mono ?_; rintro e w' ⟨rfl, ⟨⟨q, rfl⟩⟩⟩)
      go_ret
      exact ⟨by cases b <;> simp [h0, h1] <;> rfl, ⟨_, rfl⟩⟩
theorem fromWindow_any (most : Int) (hm : most = 1 ∨ most = 3 ∨ most = 7 ∨ most = 15 ∨ most = 31) (A0 : Option Addr) (c0 : Nat) (l0 : List Int) (w W : World) (hr0 : Kd.C (Kd.int .i64) w A0 l0.length l0) (hW : Below w.heap.size w W) (B : Nat) (hB : W.cell? ⟨B, 0, none⟩ = some (.int .i64 most)) :
    Calls Try.prog 84 #[.slice A0 l0.length c0, .func (.func 85) #[] #[.pointer (some ⟨B, 0, none⟩)]] W fun e w' => e = .returned (.bool (winB most l0)) ∧ ∃ q, w' = W.drewN q := by
  have hr2 := Kd.C_below hr0 hW
  rcases YtafnnnpcochnnaaHand.int_slice hr2 with h0 | ⟨b, off, rfl, _, hcells⟩
  · subst h0
    exact (Try.slices_ContainsFunc_empty (α := Int) A0 c0 _ _).mono fun e w' ⟨he, hw⟩ => ⟨he, 0, hw⟩
  · have eg : ∀ args w, (callFunc 85 args).run Try.prog w = .ok (.enter 85 args) w := enters_of Try.func85 (by kernel_rfl) rfl
    have hp : Go.Proofs.PredAt Try.prog 85 #[.pointer (some ⟨B, 0, none⟩)] (Value.int .i64) (misfit most) W := fun W2 x hb => by
      show Calls Try.prog 85 #[.int .i64 x, .pointer (some ⟨B, 0, none⟩)] W2 _
      exact fromWindow_one most x hm B W2 ((hb.cell (p := ⟨B, 0, none⟩) (World.block_lt_of_cell? _ _ hB)).trans hB)
    have := Try.slices_ContainsFunc (Value.int .i64) _ 85 _ eg b off l0.length c0 l0 _ hp (Nat.le_refl _) (YtafnnnpcochnnaaHand.int_len hr2) (fun j hj => by rw [hcells j hj, YtafnnnpcochnnaaHand.getD_bang])
    rw [List.take_length] at this
    exact this
theorem below_drawn {w w1 w2 : World} (h : Below w.heap.size w w1) (hd : Drawn0 w1 w2) : Below w.heap.size w w2 := by
  obtain ⟨q, rfl⟩ := YtafnnnpcochnnaaHand.of_drawn hd
  exact below_drewN' h q
theorem widthOk_val (x : Int) : impl_widthOk.f x = some (decide (2 ≤ x) && decide (x ≤ 6)) := by
  unfold impl_widthOk.f impl_in.f
  by_cases h : 2 ≤ x
  · rw [if_pos h]; simp [h]
  · rw [if_neg h]; simp [h]
set_option maxHeartbeats 4000000 in
set_option maxRecDepth 100000 in
theorem fromWindow_ok (k : Nat) (A0 : Option Addr) (c0 : Nat) (l0 : List Int) (a1 most : Int) (ha : a1 = 2 ∧ most = 1 ∨ a1 = 3 ∧ most = 3 ∨ a1 = 4 ∧ most = 7 ∨ a1 = 5 ∧ most = 15 ∨ a1 = 6 ∧ most = 31) (hl : l0.length ≤ 24) (n : Int) (w : World) (hr0 : Kd.C (Kd.int .i64) w A0 l0.length l0) (hc0 : l0.length ≤ c0) (hs : impl_sparse.f k l0 a1 = some true) (r : Int × Bool)
    (hq : if winB most l0 = true then (0, false) = r else ∃ o, impl_standing.f l0 = some n ∧ impl_signedOk.f n = some o ∧ (if o = true then (n, true) else (0, false)) = r) :
    Calls Try.prog 17 #[.slice A0 l0.length c0, .int .i64 a1] w fun e w' => e = .returned (.tuple #[.int .i64 r.1, .bool r.2]) ∧ Below w.heap.size w w' := by
  have hm : most = 1 ∨ most = 3 ∨ most = 7 ∨ most = 15 ∨ most = 31 := by omega
  have W1 := Go.Lib.hid (widthOk_val a1)
  have W2 := Go.Lib.hid hr0
  have W3 := Go.Lib.hid hc0
  have W4 := Go.Lib.hid hs
  have hd : decide ((24 : Int) < (l0.length : Int)) = false := decide_eq_false (by omega)
  have W5 := Go.Lib.hid fun W (hW : Below w.heap.size w W) B hB => fromWindow_any most hm A0 c0 l0 w W hr0 hW B hB
  clear hr0 hc0 hs
  cases hwin : winB most l0 with
  | true =>
    rw [hwin, if_pos rfl] at hq
    subst hq
    rw [hwin] at W5
    clear hwin hm
    rcases ha with ⟨rfl, rfl⟩ | ⟨rfl, rfl⟩ | ⟨rfl, rfl⟩ | ⟨rfl, rfl⟩ | ⟨rfl, rfl⟩
    all_goals
      have HB := Go.Lib.hid (Below.refl w.heap.size w)
      go_enter Try.func17, Try.ntmps17
      go_wp2_with (first
        | (go_at_call 82; refine (impl_widthOk.calls _ _ _ W1.out).mono ?_; rintro e w1 ⟨rfl, hd_⟩; have n_ := Go.Lib.hid (below_drawn HB.out hd_); clear HB hd_; have HB := n_; clear n_)
        | (go_at_call 83; refine (impl_sparse.calls _ _ _ _ _ _ _ (Kd.C_below W2.out (by repeat (first | (with_reducible first | exact HB.out | apply below_alloc | apply pw_below_drewN | apply below_drew1)))) W3.out W4.out).mono ?_; rintro e w1 ⟨rfl, hd_⟩; have n_ := Go.Lib.hid (below_drawn HB.out hd_); clear HB hd_; have HB := n_; clear n_)
        | (go_at_call 84; refine (W5.out _ (by repeat (first | (with_reducible first | exact HB.out | apply below_alloc | apply pw_below_drewN | apply below_drew1))) _ (by simp)).mono ?_; rintro e w' ⟨rfl, q3, rfl⟩))
      go_ret2
      exact ⟨rfl, by repeat (first | (with_reducible first | exact HB.out | apply below_alloc | apply pw_below_drewN | apply below_drew1))⟩
  | false =>
    rw [hwin, if_neg (by decide)] at hq
    obtain ⟨o, q1, q2, hq⟩ := hq
    subst hq
    rw [hwin] at W5
    clear hwin hm
    have W6 := Go.Lib.hid q1
    have W7 := Go.Lib.hid q2
    clear q1 q2
    cases o
    all_goals rcases ha with ⟨rfl, rfl⟩ | ⟨rfl, rfl⟩ | ⟨rfl, rfl⟩ | ⟨rfl, rfl⟩ | ⟨rfl, rfl⟩
    all_goals
      have HB := Go.Lib.hid (Below.refl w.heap.size w)
      go_enter Try.func17, Try.ntmps17
      go_wp2_with (first
        | (go_at_call 82; refine (impl_widthOk.calls _ _ _ W1.out).mono ?_; rintro e w1 ⟨rfl, hd_⟩; have n_ := Go.Lib.hid (below_drawn HB.out hd_); clear HB hd_; have HB := n_; clear n_)
        | (go_at_call 83; refine (impl_sparse.calls _ _ _ _ _ _ _ (Kd.C_below W2.out (by repeat (first | (with_reducible first | exact HB.out | apply below_alloc | apply pw_below_drewN | apply below_drew1)))) W3.out W4.out).mono ?_; rintro e w1 ⟨rfl, hd_⟩; have n_ := Go.Lib.hid (below_drawn HB.out hd_); clear HB hd_; have HB := n_; clear n_)
        | (go_at_call 84; refine (W5.out _ (by repeat (first | (with_reducible first | exact HB.out | apply below_alloc | apply pw_below_drewN | apply below_drew1))) _ (by simp)).mono ?_; rintro e w' ⟨rfl, q3, rfl⟩)
        | (go_at_call 87; refine (impl_standing.calls _ _ l0 n _ (Kd.C_below W2.out (by repeat (first | (with_reducible first | exact HB.out | apply below_alloc | apply pw_below_drewN | apply below_drew1)))) W3.out W6.out).mono ?_; rintro e w6 ⟨rfl, hb⟩; have n_ := Go.Lib.hid (below_step (by repeat (first | (with_reducible first | exact HB.out | apply below_alloc | apply pw_below_drewN | apply below_drew1))) hb); clear HB hb; have HB := n_; clear n_)
        | (go_at_call 88; refine (impl_signedOk.calls _ _ _ W7.out).mono ?_; rintro e w1 ⟨rfl, hd_⟩; have n_ := Go.Lib.hid (below_drawn HB.out hd_); clear HB hd_; have HB := n_; clear n_))
      go_ret2
      exact ⟨rfl, by repeat (first | (with_reducible first | exact HB.out | apply below_alloc | apply pw_below_drewN | apply below_drew1) | exact HB.out)⟩
set_option maxHeartbeats 2000000 in
set_option maxRecDepth 100000 in
theorem fromWindow_bad (k : Nat) (A0 : Option Addr) (c0 : Nat) (l0 : List Int) (a1 : Int) (w : World) (hr0 : Kd.C (Kd.int .i64) w A0 l0.length l0) (hc0 : l0.length ≤ c0) (hq : ¬ (2 ≤ a1 ∧ a1 ≤ 6) ∨ (2 ≤ a1 ∧ a1 ≤ 6) ∧ ¬ l0.length ≤ 24 ∨ (2 ≤ a1 ∧ a1 ≤ 6) ∧ l0.length ≤ 24 ∧ impl_sparse.f k l0 a1 = some false) :
    Calls Try.prog 17 #[.slice A0 l0.length c0, .int .i64 a1] w fun e w' => e = .returned (.tuple #[.int .i64 0, .bool false]) ∧ Below w.heap.size w w' := by
  rcases hq with h | ⟨h, h2⟩ | ⟨h, h2, h3⟩
  · have W1 := Go.Lib.hid (widthOk_val a1)
    rw [show (decide (2 ≤ a1) && decide (a1 ≤ 6)) = false by rw [Bool.and_eq_false_iff, decide_eq_false_iff_not, decide_eq_false_iff_not]; omega] at W1
    clear h hr0 hc0
    have HB := Go.Lib.hid (Below.refl w.heap.size w)
    go_enter Try.func17, Try.ntmps17
    go_wp2_with (go_at_call 82; refine (impl_widthOk.calls _ _ _ W1.out).mono ?_; rintro e w1 ⟨rfl, hd_⟩; have n_ := Go.Lib.hid (below_drawn HB.out hd_); clear HB hd_; have HB := n_; clear n_)
    go_ret2
    exact ⟨rfl, by repeat (first | (with_reducible first | exact HB.out | apply below_alloc | apply pw_below_drewN | apply below_drew1))⟩
  · have W1 := Go.Lib.hid (widthOk_val a1)
    rw [show (decide (2 ≤ a1) && decide (a1 ≤ 6)) = true by rw [Bool.and_eq_true, decide_eq_true_eq, decide_eq_true_eq]; omega] at W1
    have hd : decide ((24 : Int) < (l0.length : Int)) = true := decide_eq_true (by omega)
    clear h hr0 hc0 h2
    have HB := Go.Lib.hid (Below.refl w.heap.size w)
    go_enter Try.func17, Try.ntmps17
    go_wp2_with (go_at_call 82; refine (impl_widthOk.calls _ _ _ W1.out).mono ?_; rintro e w1 ⟨rfl, hd_⟩; have n_ := Go.Lib.hid (below_drawn HB.out hd_); clear HB hd_; have HB := n_; clear n_)
    go_ret2
    exact ⟨rfl, by repeat (first | (with_reducible first | exact HB.out | apply below_alloc | apply pw_below_drewN | apply below_drew1))⟩
  · have W1 := Go.Lib.hid (widthOk_val a1)
    rw [show (decide (2 ≤ a1) && decide (a1 ≤ 6)) = true by rw [Bool.and_eq_true, decide_eq_true_eq, decide_eq_true_eq]; omega] at W1
    have hd : decide ((24 : Int) < (l0.length : Int)) = false := decide_eq_false (by omega)
    have W2 := Go.Lib.hid hr0
    have W3 := Go.Lib.hid hc0
    have W4 := Go.Lib.hid h3
    clear h hr0 hc0 h2 h3
    have HB := Go.Lib.hid (Below.refl w.heap.size w)
    go_enter Try.func17, Try.ntmps17
    go_wp2_with (first
      | (go_at_call 82; refine (impl_widthOk.calls _ _ _ W1.out).mono ?_; rintro e w1 ⟨rfl, hd_⟩; have n_ := Go.Lib.hid (below_drawn HB.out hd_); clear HB hd_; have HB := n_; clear n_)
      | (go_at_call 83; refine (impl_sparse.calls _ _ _ _ _ _ _ (Kd.C_below W2.out (by repeat (first | (with_reducible first | exact HB.out | apply below_alloc | apply pw_below_drewN | apply below_drew1)))) W3.out W4.out).mono ?_; rintro e w1 ⟨rfl, hd_⟩; have n_ := Go.Lib.hid (below_drawn HB.out hd_); clear HB hd_; have HB := n_; clear n_))
    go_ret2
    exact ⟨rfl, by repeat (first | (with_reducible first | exact HB.out | apply below_alloc | apply pw_below_drewN | apply below_drew1))⟩
theorem impl_FromWindow.calls (k : Nat) (A0 : Option Addr) (c0 : Nat) (l0 : List Int) (a1 : Int) (r1 : Int) (r2 : Bool) (w : World) (hr0 : Kd.C (Kd.int .i64) w A0 l0.length l0) (hc0 : l0.length ≤ c0) (h : impl_FromWindow.f k l0 a1 = some (r1, r2)) :
    Calls Try.prog 17 #[.slice A0 l0.length c0, .int .i64 a1] w fun e w' => e = .returned (.tuple #[.int .i64 r1, .bool r2]) ∧ Below w.heap.size w w' := by
  unfold impl_FromWindow.f at h
  by_cases h1 : 2 ≤ a1 ∧ a1 ≤ 6
  · rw [if_pos h1] at h
    by_cases h2 : l0.length ≤ 24
    · rw [if_pos h2] at h
      obtain ⟨s, hs, h⟩ := Option.bind_eq_some_iff.mp h
      cases s with
      | false =>
        rw [if_neg (by decide)] at h
        obtain ⟨rfl, rfl⟩ := Prod.mk.inj (Option.some.inj h)
        exact fromWindow_bad k A0 c0 l0 a1 w hr0 hc0 (.inr (.inr ⟨h1, h2, hs⟩))
      | true =>
        rw [if_pos rfl] at h
        have ha : a1 = 2 ∧ mostOf a1 = 1 ∨ a1 = 3 ∧ mostOf a1 = 3 ∨ a1 = 4 ∧ mostOf a1 = 7 ∨ a1 = 5 ∧ mostOf a1 = 15 ∨ a1 = 6 ∧ mostOf a1 = 31 := by
          have : a1 = 2 ∨ a1 = 3 ∨ a1 = 4 ∨ a1 = 5 ∨ a1 = 6 := by omega
          rcases this with rfl | rfl | rfl | rfl | rfl <;> decide
        by_cases h3 : winB (mostOf a1) l0 = true
        · rw [if_pos h3] at h
          exact fromWindow_ok k A0 c0 l0 a1 (mostOf a1) ha h2 0 w hr0 hc0 hs (r1, r2) (by rw [if_pos h3]; exact Option.some.inj h)
        · rw [if_neg h3] at h
          obtain ⟨n, hn, h⟩ := Option.bind_eq_some_iff.mp h
          obtain ⟨o, ho, h⟩ := Option.bind_eq_some_iff.mp h
          exact fromWindow_ok k A0 c0 l0 a1 (mostOf a1) ha h2 n w hr0 hc0 hs (r1, r2) (by
            rw [if_neg h3]
            refine ⟨o, hn, ho, ?_⟩
            cases o with
            | true => rw [if_pos rfl] at h ⊢; exact Option.some.inj h
            | false => rw [if_neg (by decide)] at h ⊢; exact Option.some.inj h)
    · rw [if_neg h2] at h
      obtain ⟨rfl, rfl⟩ := Prod.mk.inj (Option.some.inj h)
      exact fromWindow_bad k A0 c0 l0 a1 w hr0 hc0 (.inr (.inl ⟨h1, h2⟩))
  · rw [if_neg h1] at h
    obtain ⟨rfl, rfl⟩ := Prod.mk.inj (Option.some.inj h)
    exact fromWindow_bad k A0 c0 l0 a1 w hr0 hc0 (.inl h1)
theorem impl_FromWindow.mono : ∀ (a0 : List Int) (a1 : Int) (k : Nat), LeO (impl_FromWindow.f k a0 a1) (impl_FromWindow.f (k + 1) a0 a1) := by
  intro a0 a1 k
  unfold impl_FromWindow.f
  repeat' first
    | (with_reducible exact impl_sparse.mono _ _ _)
    | (with_reducible exact LeO.refl _)
    | (with_reducible refine LeO.ite ?_ ?_)
    | (with_reducible refine LeO.bind ?_ (fun _ => ?_))

/-! ### laws_big: function 37 -/
def laws_big.f (l0 : List Int) (l1 : List Int) : Option (Bool) := if (l0.length : Int) > 1048576 then (some true) else (some (decide ((l1.length : Int) > (wrap64 (1048576 - (l0.length : Int))))))
set_option maxHeartbeats 8000000 in
set_option maxRecDepth 100000 in
theorem laws_big.calls (A0 : Option Addr) (c0 : Nat) (l0 : List Int) (A1 : Option Addr) (c1 : Nat) (l1 : List Int) (r : Bool) (w : World) (hr0 : Kd.C (Kd.int .u8) w A0 l0.length l0) (hc0 : l0.length ≤ c0) (hr1 : Kd.C (Kd.int .u8) w A1 l1.length l1) (hc1 : l1.length ≤ c1) (h : laws_big.f l0 l1 = some r) :
    Calls Try.prog 37 #[.slice A0 l0.length c0, .slice A1 l1.length c1] w fun e w' => e = .returned (.bool r) ∧ Drawn0 w w' := by
  have HR0 := Aside0.mk hr0
  have HC0 := Aside0.mk hc0
  clear hr0 hc0
  have HR1 := Aside0.mk hr1
  have HC1 := Aside0.mk hc1
  clear hr1 hc1
  have H : (if (l0.length : Int) > 1048576 then (some true) else (some (decide ((l1.length : Int) > (wrap64 (1048576 - (l0.length : Int))))))) = some r := h
  clear h
  by_cases c3 : (l0.length : Int) > 1048576
  · rw [if_pos c3] at H
    have c3b0 : decide (1048576 < (l0.length : Int)) = true := decide_eq_true c3
    have c3b1 : decide (1048576 < l0.length) = true := decide_eq_true (by omega)
    clear c3
    obtain rfl := Option.some.inj H
    go_enter Try.func37, Try.ntmps37
    go_wp2
    go_ret
    exact ⟨by first | rfl | (simp; done) | (simp [*]; done), by repeat (first | exact Drawn0.refl _ | apply Drawn0.step)⟩
  · rw [if_neg c3] at H
    have c3b0 : decide (1048576 < (l0.length : Int)) = false := decide_eq_false c3
    have c3b1 : decide (1048576 < l0.length) = false := decide_eq_false (by omega)
    clear c3
    obtain rfl := Option.some.inj H
    go_enter Try.func37, Try.ntmps37
    go_wp2
    go_ret
    exact ⟨by first | rfl | (simp; done) | (simp [*]; done), by repeat (first | exact Drawn0.refl _ | apply Drawn0.step)⟩

/-! ### laws_rSame: function 42 -/
def laws_rSame.l0 : Nat → List Int → List Int → Int → Int → Option (Bool)
  | 0, _, _, _, _ => none
  | k + 1, x0, x1, x12, x13 => if x13 < x12 then (if 0 ≤ x13 then (if x13 < (x0.length : Int) then (if x13 < (x1.length : Int) then (if (rd x0 x13) = (rd x1 x13) then (laws_rSame.l0 k x0 x1 x12 (wrap64 (x13 + 1))) else (some false)) else (none)) else (none)) else (none)) else (some true)
def laws_rSame.f (k : Nat) (l0 : List Int) (l1 : List Int) : Option (Bool) := if (l0.length : Int) = (l1.length : Int) then (laws_rSame.l0 k l0 l1 (l0.length : Int) 0) else (some false)
theorem laws_rSame.mono_l : ∀ k, (∀ y0 y1 y2 y3, LeO (laws_rSame.l0 k y0 y1 y2 y3) (laws_rSame.l0 (k + 1) y0 y1 y2 y3))
  | 0 => fun _ _ _ _ r h => by simp [laws_rSame.l0] at h
  | k + 1 => by
    have ih0 := laws_rSame.mono_l k
    · intro y0 y1 y2 y3
      unfold laws_rSame.l0
      repeat' first
      | (with_reducible exact ih0 _ _ _ _)
      | (with_reducible exact LeO.refl _)
      | (with_reducible exact LeO.none _)
      | (with_reducible refine LeO.ite ?_ ?_)
      | (with_reducible refine LeO.bind ?_ (fun _ => ?_))
      | exact ih0 _ _ _ _
      | exact LeO.none _
      | refine LeO.ite ?_ ?_
      | refine LeO.bind ?_ (fun _ => ?_)
theorem laws_rSame.mono : ∀ a0 a1 k, LeO (laws_rSame.f k a0 a1) (laws_rSame.f (k + 1) a0 a1) := by
  intro a0 a1 k
  have ih0 := laws_rSame.mono_l k
  unfold laws_rSame.f
  repeat' first
      | (with_reducible exact ih0 _ _ _ _)
      | (with_reducible exact LeO.refl _)
      | (with_reducible exact LeO.none _)
      | (with_reducible refine LeO.ite ?_ ?_)
      | (with_reducible refine LeO.bind ?_ (fun _ => ?_))
      | exact ih0 _ _ _ _
      | exact LeO.none _
      | refine LeO.ite ?_ ?_
      | refine LeO.bind ?_ (fun _ => ?_)
set_option maxHeartbeats 8000000 in
set_option maxRecDepth 100000 in
theorem laws_rSame.calls (k : Nat) (A0 : Option Addr) (c0 : Nat) (l0 : List Int) (A1 : Option Addr) (c1 : Nat) (l1 : List Int) (r : Bool) (w : World) (hr0 : Kd.C (Kd.int .i64) w A0 l0.length l0) (hc0 : l0.length ≤ c0) (hr1 : Kd.C (Kd.int .i64) w A1 l1.length l1) (hc1 : l1.length ≤ c1) (h : laws_rSame.f k l0 l1 = some r) :
    Calls Try.prog 42 #[.slice A0 l0.length c0, .slice A1 l1.length c1] w fun e w' => e = .returned (.bool r) ∧ Drawn0 w w' := by
  have HR0 := Aside0.mk hr0
  have HC0 := Aside0.mk hc0
  clear hr0 hc0
  have HR1 := Aside0.mk hr1
  have HC1 := Aside0.mk hc1
  clear hr1 hc1
  have H : (if (l0.length : Int) = (l1.length : Int) then (laws_rSame.l0 k l0 l1 (l0.length : Int) 0) else (some false)) = some r := h
  clear h
  by_cases c3 : (l0.length : Int) = (l1.length : Int)
  · rw [if_pos c3] at H
    have c3b0 : ((l0.length : Int) == (l1.length : Int)) = true := beq_iff_eq.mpr c3
    have c3b1 : ((l0.length : Int) != (l1.length : Int)) = false := bne_eq_false_iff_eq.mpr c3
    have c3b2 : (l0.length == l1.length) = true := by first | simpa using c3 | (simp at c3 ⊢; omega)
    clear c3
    have H' := Aside0.mk H
    clear H
    go_enter Try.func42, Try.ntmps42
    go_wp2
    repeat (go_quiet (fail); try go_wp2)
    go_loopg [13] k (fun kq v13 w' => ∃ (x13_1 : Int), v13 = .int .i64 x13_1 ∧ Aside0 (laws_rSame.l0 kq l0 l1 (l0.length : Int) x13_1 = some r) ∧ Aside0 (kq ≤ k) ∧ Drawn0 w w')
    case atStart => exact ⟨(0), (by first | rfl | (simp; done) | (simp [*]; done)), H', ⟨Nat.le_refl _⟩, by repeat (first | exact Drawn0.refl _ | apply Drawn0.step)⟩
    case round =>
      clear H'
      try clear c1
      try clear p2
      try clear c3
      try clear c3b0
      try clear c3b1
      try clear c3b2
      obtain ⟨x13_1, rfl, HA, HK1, ⟨m1, rfl⟩⟩ := hrel
      cases gk with
      | zero => exact absurd HA.out (by simp [laws_rSame.l0])
      | succ k1 =>
        have H := HA.out
        clear HA
        simp only [laws_rSame.l0] at H
        by_cases c4 : x13_1 < (l0.length : Int)
        · rw [if_pos c4] at H
          have c4b0 : decide (x13_1 < (l0.length : Int)) = true := decide_eq_true c4
          clear c4
          by_cases c5 : 0 ≤ x13_1
          · rw [if_pos c5] at H
            have c5b0 : decide (0 ≤ x13_1) = true := decide_eq_true c5
            clear c5
            by_cases c6 : x13_1 < (l0.length : Int)
            · rw [if_pos c6] at H
              have c6b0 : decide (x13_1 < (l0.length : Int)) = true := decide_eq_true c6
              clear c6
              by_cases c7 : x13_1 < (l1.length : Int)
              · rw [if_pos c7] at H
                have c7b0 : decide (x13_1 < (l1.length : Int)) = true := decide_eq_true c7
                clear c7
                by_cases c8 : (rd l0 x13_1) = (rd l1 x13_1)
                · rw [if_pos c8] at H
                  have c8b0 : ((rd l0 x13_1) == (rd l1 x13_1)) = true := beq_iff_eq.mpr c8
                  have c8b1 : ((rd l0 x13_1) != (rd l1 x13_1)) = false := bne_eq_false_iff_eq.mpr c8
                  clear c8
                  have H' := Aside0.mk H
                  clear H
                  have p120 : 0 ≤ (x13_1 : Int) := of_decide_eq_true (by first | (with_reducible assumption) | assumption)
                  have q120 : x13_1 < (l0.length : Int) := of_decide_eq_true (by first | (with_reducible assumption) | assumption)
                  obtain ⟨ad120, e120, hx120_0⟩ := Kd.at_int HR0.out x13_1 p120 q120
                  cases e120
                  replace p120 := eq_true p120
                  replace q120 := eq_true q120
                  have p121 : 0 ≤ (x13_1 : Int) := of_decide_eq_true (by first | (with_reducible assumption) | assumption)
                  have q121 : x13_1 < (l1.length : Int) := of_decide_eq_true (by first | (with_reducible assumption) | assumption)
                  obtain ⟨ad121, e121, hx121_0⟩ := Kd.at_int HR1.out x13_1 p121 q121
                  cases e121
                  replace p121 := eq_true p121
                  replace q121 := eq_true q121
                  go_wp2
                  repeat (go_quiet (fail); try go_wp2)
                  go_roundg k1
                  case measure => have := HK1.out; omega
                  case rel => exact ⟨(wrap64 (x13_1 + 1)), (by first | rfl | (simp; done) | (simp [*]; done)), H', ⟨by have := HK1.out; omega⟩, by repeat (first | exact Drawn0.refl _ | apply Drawn0.step)⟩
                · rw [if_neg c8] at H
                  have c8b0 : ((rd l0 x13_1) == (rd l1 x13_1)) = false := beq_eq_false_iff_ne.mpr c8
                  have c8b1 : ((rd l0 x13_1) != (rd l1 x13_1)) = true := bne_iff_ne.mpr c8
                  obtain rfl := Option.some.inj H
                  have p120 : 0 ≤ (x13_1 : Int) := of_decide_eq_true (by first | (with_reducible assumption) | assumption)
                  have q120 : x13_1 < (l0.length : Int) := of_decide_eq_true (by first | (with_reducible assumption) | assumption)
                  obtain ⟨ad120, e120, hx120_0⟩ := Kd.at_int HR0.out x13_1 p120 q120
                  cases e120
                  replace p120 := eq_true p120
                  replace q120 := eq_true q120
                  have p121 : 0 ≤ (x13_1 : Int) := of_decide_eq_true (by first | (with_reducible assumption) | assumption)
                  have q121 : x13_1 < (l1.length : Int) := of_decide_eq_true (by first | (with_reducible assumption) | assumption)
                  obtain ⟨ad121, e121, hx121_0⟩ := Kd.at_int HR1.out x13_1 p121 q121
                  cases e121
                  replace p121 := eq_true p121
                  replace q121 := eq_true q121
                  go_wp2
                  repeat (go_quiet (fail); try go_wp2)
                  go_ret
                  exact ⟨by first | rfl | (simp; done) | (simp [*]; done), by repeat (first | exact Drawn0.refl _ | apply Drawn0.step)⟩
              · rw [if_neg c7] at H
                exact absurd H (by simp)
            · rw [if_neg c6] at H
              exact absurd H (by simp)
          · rw [if_neg c5] at H
            exact absurd H (by simp)
        · rw [if_neg c4] at H
          have c4b0 : decide (x13_1 < (l0.length : Int)) = false := decide_eq_false c4
          clear c4
          obtain rfl := Option.some.inj H
          go_wp2
          repeat (go_quiet (fail); try go_wp2)
          go_ret
          exact ⟨by first | rfl | (simp; done) | (simp [*]; done), by repeat (first | exact Drawn0.refl _ | apply Drawn0.step)⟩
  · rw [if_neg c3] at H
    have c3b0 : ((l0.length : Int) == (l1.length : Int)) = false := beq_eq_false_iff_ne.mpr c3
    have c3b1 : ((l0.length : Int) != (l1.length : Int)) = true := bne_iff_ne.mpr c3
    have c3b2 : (l0.length == l1.length) = false := by first | simpa using c3 | (simp at c3 ⊢; omega)
    obtain rfl := Option.some.inj H
    go_enter Try.func42, Try.ntmps42
    go_wp2
    repeat (go_quiet (fail); try go_wp2)
    go_ret
    exact ⟨by first | rfl | (simp; done) | (simp [*]; done), by repeat (first | exact Drawn0.refl _ | apply Drawn0.step)⟩

end Go.Proofs.Ytafnnnpcochnnaa.PFnWindowForms
