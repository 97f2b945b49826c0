-- Of the print's words and parts, pruned by prune.py, a program of this session: what nothing of this claim names is left out.
import Derived.Test.YtlmoemahamneoaaPFnSchemesAgreex0
import Derived.Test.YtlmoemahamneoaaPFnSchemesAgreex5
import Derived.Test.YtlmoemahamneoaaPFnSchemesAgreex6
import Derived.Test.YtlmoemahamneoaaPFnSchemesAgreex9
import Derived.Test.YtlmoemahamneoaaPFnSchemesAgreex11
namespace Go.Proofs.Ytlmoemahamneoaa.PFnSchemesAgree
open Go.RowKit Go.Proofs.YtlmoemahamneoaaW.PrintWords Go.Proofs.YtlmoemahamneoaaW.PrintLast Go.Proofs.YtlmoemahamneoaaW.PrintMore
open Go.Proofs.YtlmoemahamneoaaW.PrintWords.Aside0 renaming mk → zz
open Go.Proofs.YtlmoemahamneoaaW.PrintWords renaming pw_below_drewN → zq, below_alloc → zj, below_drew1 → zw, below_set → zx, below_step → zk, below_size → zv, blk_drewN → qz, blk_cell → qq, blk_frozen → qj, blk_put → qw, blk_below → qx, gate_callee → yz, gate_dst → yq, gate_builtin → vz
open Go.Proofs.YtlmoemahamneoaaW.PrintWords.Kd renaming R_alloc → qk, R_drewN → qv, R_drew → jz, C_alloc → jq, C_drewN → jj, C_drew → jw, R_mono → yj, R_reads' → yw, R_slice → yx
open List renaming map_toArray → jx, length_drop → jk, length_take → jv
open Go.Proofs.YtlmoemahamneoaaW.PrintWords.LeO renaming bind → yk, refl → yv
open Go.Proofs.YtlmoemahamneoaaW.PrintLast renaming goesL_ → vq
attribute [local go_sem] max2_int min2_int max_two min_two max_three min_three max_four min_four
set_option linter.unusedVariables false
set_option linter.unusedSimpArgs false
def spec_GiantCode.f (k : Nat) (l0 : List Int) (a1 : Int) : Option (List (S109) × Int × Bool) := (spec_poCoefs.f k l0).bind fun c => (spec_l1In.f a1 1 17).bind fun d => if c = true ∧ d = true then (spec_poGiant.f k l0 a1).bind fun g => spec_poIf.f k g.1 g.2 else some ([], 0, false)
theorem spec_GiantCode.mono : ∀ (a0 : List Int) (a1 : Int) (k : Nat), LeO (spec_GiantCode.f k a0 a1) (spec_GiantCode.f (k + 1) a0 a1) := by
  intro a0 a1 k
  unfold spec_GiantCode.f
  exact yk (spec_poCoefs.mono _ _) (fun _ => yk (yv _) (fun _ => LeO.ite (yk (spec_poGiant.mono _ _ _) (fun _ => spec_poIf.mono _ _ _)) (yv _)))
section
set_option maxRecDepth 100000
set_option maxHeartbeats 2000000 in
theorem sg_if (k base : Nat) (ok : Nat → Prop) (A : Option Addr) (c : Nat) (l : List S109) (o : Int) (r1 : List S109) (r2 : Int) (r3 : Bool) (w : World) (hV : Kd.V k109 109 w base ok (.slice A l.length c) l) (h : spec_poIf.f k l o = some (r1, r2, r3)) :
    Calls Try.prog 105 #[.agg #[.slice A l.length c, .int .i64 o]] w fun e w' => ∃ v0_ : Value, e = .returned (.tuple #[.agg #[v0_, .int .i64 r2], .bool r3]) ∧ Kd.V k109 109 w' base ok v0_ r1 ∧ Below w.heap.size w w' := by
  unfold spec_poIf.f at h
  obtain ⟨b, hg, h2⟩ := Option.bind_eq_some_iff.mp h
  have hB1 : ∀ (W : World), Below w.heap.size w W → Kd.V k109 109 W base ok (.slice A l.length c) l := fun W hb => Kd.V_below hV hb
  have HV := zz hB1
  have HGD := zz (fun (W : World) (hb : Below w.heap.size w W) => spec_poGood.calls k A c l o b W (Kd.V_reads' (Kd.V_below hV hb)).2.2 (Kd.V_reads' (Kd.V_below hV hb)).2.1 hg)
  clear h hg hV hB1
  cases b with
  | true =>
    rw [if_pos rfl] at h2
    simp only [Option.some.injEq, Prod.mk.injEq] at h2
    obtain ⟨rfl, rfl, rfl⟩ := h2
    go_enter Try.func105, Try.ntmps105
    go_wp2_with (go_at_call 111; refine (HGD.out _ (zj (zj (Below.refl _ _) _) _)).mono ?_; rintro e w2 ⟨rfl, hb_⟩
                 have hbp := qx (blk_alloc (blk_new w (.cells #[.slice A l.length c, .int .i64 o] 32)) (.cells #[.slice none 0 0, .int .i64 0] 32)) hb_
                 have hbo : w2.heap[w.heap.size + 1]? = some (.cells #[.slice none 0 0, .int .i64 0] 32 (0, 0)) := qx (by have := blk_new (w.alloc (.cells #[.slice A l.length c, .int .i64 o] 32)) (.cells #[.slice none 0 0, .int .i64 0] 32); rw [World.size_alloc] at this; exact this) hb_
                 have HB2 := zz (zk (zj (zj (Below.refl _ w) _) _) hb_)
                 have p0 : w2.cell? ⟨w.heap.size, 0, none⟩ = some (.slice A l.length c) := (qq hbp 0).trans rfl
                 have p1 : w2.cell? ⟨w.heap.size, 1, none⟩ = some (.int .i64 o) := (qq hbp 1).trans rfl
                 have s0 : w2.cell? ⟨w.heap.size + 1, 0, none⟩ = some (.slice none 0 0) := (qq hbo 0).trans rfl
                 have s1 : w2.cell? ⟨w.heap.size + 1, 1, none⟩ = some (.int .i64 0) := (qq hbo 1).trans rfl
                 have f0 : w2.frozen? ⟨w.heap.size + 1, 0, none⟩ = false := qj hbo 0
                 have f1 : w2.frozen? ⟨w.heap.size + 1, 1, none⟩ = false := qj hbo 1
                 have HBO := zz hbo
                 clear hb_ hbp hbo)
    refine bodyPost_ret (results_ct rfl _ _ (w.heap.size + 1) 32 #[.slice A l.length c, .int .i64 o] (0, 0) _ rfl (qw (qw HBO.out 0 _ rfl) 1 _ rfl) Try.underlying32 rfl (by kernel_rfl)) rfl ?_
    have hB := Below.setCell (Below.setCell HB2.out (p := ⟨w.heap.size + 1, 0, none⟩) (Nat.le_succ _) (.slice A l.length c)) (p := ⟨w.heap.size + 1, 1, none⟩) (Nat.le_succ _) (.int .i64 o)
    exact ⟨_, rfl, HV.out _ hB, hB⟩
  | false =>
    rw [if_neg (by decide)] at h2
    simp only [Option.some.injEq, Prod.mk.injEq] at h2
    obtain ⟨rfl, rfl, rfl⟩ := h2
    go_enter Try.func105, Try.ntmps105
    go_wp2_with (go_at_call 111; refine (HGD.out _ (zj (zj (Below.refl _ _) _) _)).mono ?_; rintro e w2 ⟨rfl, hb_⟩
                 have hbo : w2.heap[w.heap.size + 1]? = some (.cells #[.slice none 0 0, .int .i64 0] 32 (0, 0)) := qx (by have := blk_new (w.alloc (.cells #[.slice A l.length c, .int .i64 o] 32)) (.cells #[.slice none 0 0, .int .i64 0] 32); rw [World.size_alloc] at this; exact this) hb_
                 have HB2 := zz (zk (zj (zj (Below.refl _ w) _) _) hb_)
                 have s0 : w2.cell? ⟨w.heap.size + 1, 0, none⟩ = some (.slice none 0 0) := (qq hbo 0).trans rfl
                 have s1 : w2.cell? ⟨w.heap.size + 1, 1, none⟩ = some (.int .i64 0) := (qq hbo 1).trans rfl
                 have f0 : w2.frozen? ⟨w.heap.size + 1, 0, none⟩ = false := qj hbo 0
                 have f1 : w2.frozen? ⟨w.heap.size + 1, 1, none⟩ = false := qj hbo 1
                 have HBO := zz hbo
                 clear hb_ hbo)
    refine bodyPost_ret (results_ct rfl _ _ (w.heap.size + 1) 32 #[.slice none 0 0, .int .i64 0] (0, 0) _ rfl (qw (qw HBO.out 0 _ rfl) 1 _ rfl) Try.underlying32 rfl (by kernel_rfl)) rfl ?_
    exact ⟨_, rfl, Kd.V_nil _ _ _ _ _, Below.setCell (Below.setCell HB2.out (p := ⟨w.heap.size + 1, 0, none⟩) (Nat.le_succ _) _) (p := ⟨w.heap.size + 1, 1, none⟩) (Nat.le_succ _) _⟩
set_option maxHeartbeats 2000000 in
theorem sg_yes (k : Nat) (A : Option Addr) (c0 : Nat) (l : List Int) (a1 : Int) (g1 : List S109) (g2 : Int) (r1 : List S109) (r2 : Int) (r3 : Bool) (w : World) (hC : Kd.C (Kd.int .i64) w A l.length l) (hcc : l.length ≤ c0) (hok : spec_poCoefs.f k l = some true) (hg : spec_l1In.f a1 1 17 = some true) (hgi : spec_poGiant.f k l a1 = some (g1, g2)) (hf : spec_poIf.f k g1 g2 = some (r1, r2, r3)) :
    Calls Try.prog 25 #[.slice A l.length c0, .int .i64 a1] w fun e w' => ∃ v0_ : Value, e = .returned (.tuple #[.agg #[v0_, .int .i64 r2], .bool r3]) ∧ Kd.V k109 109 w' w.heap.size (fun k_ => w.heap.size ≤ k_) v0_ r1 ∧ Below w.heap.size w w' := by
  have HC := zz hC
  have HLC := zz hcc
  have HOK := zz hok
  have HGO := zz hg
  have HGI := zz hgi
  have HF := zz hf
  clear hC hcc hok hg hgi hf
  go_enter Try.func25, Try.ntmps25
  go_wp2_with (first
    | (go_at_call 104; refine (spec_poCoefs.calls k _ c0 l true _ (jq HC.out _) HLC.out HOK.out).mono ?_; rintro e w2 ⟨rfl, hd_⟩; obtain ⟨n2, rfl⟩ := YtlmoemahamneoaaHand.of_drawn hd_; clear hd_)
    | (go_at_call 93; refine (spec_l1In.calls _ _ _ true _ HGO.out).mono ?_; rintro e w3 ⟨rfl, hd_⟩; obtain ⟨n3, rfl⟩ := YtlmoemahamneoaaHand.of_drawn hd_; clear hd_)
    | (go_at_call 106; refine (spec_poGiant.calls k A c0 l a1 g1 g2 _ (by repeat (first | exact HC.out | (with_reducible refine jq ?_ _) | (with_reducible refine jj ?_ _))) HLC.out HGI.out).mono ?_; rintro e w4 ⟨v4, rfl, hV_, hb_⟩; obtain ⟨A4, c4, e4⟩ := Kd.V_slice hV_; subst e4
       have hbo : w4.heap[w.heap.size]? = some (.cells #[.slice none 0 0, .int .i64 0] 32 (0, 0)) := by refine qx ?_ hb_; repeat (first | exact blk_new w _ | (with_reducible refine qz ?_ _))
       have hbw : Below w.heap.size w w4 := by refine zk ?_ hb_; repeat (first | (with_reducible exact Below.refl _ _) | (with_reducible apply zj) | (with_reducible apply zq))
       have HV4 := zz (Kd.V_mono (base := w.heap.size) (ok' := fun k_ => w.heap.size + 1 ≤ k_) (Kd.V_map hV_ (fun _ hf => hf)) (fun k_ hk => by simpa using hk))
       have HB4 := zz hbw
       have HBO := zz hbo
       clear hV_ hb_ hbo hbw)
    | (go_at_call 105; refine (sg_if k w.heap.size _ A4 c4 g1 g2 r1 r2 r3 w4 HV4.out HF.out).mono ?_; rintro e w5 ⟨v5, rfl, hV_, hb_⟩; obtain ⟨A5, c5, e5⟩ := Kd.V_slice hV_; subst e5
       have hbo := qx HBO.out hb_
       have HB5 := zz (zk HB4.out hb_)
       have s0 : w5.cell? ⟨w.heap.size, 0, none⟩ = some (.slice none 0 0) := (qq hbo 0).trans rfl
       have s1 : w5.cell? ⟨w.heap.size, 1, none⟩ = some (.int .i64 0) := (qq hbo 1).trans rfl
       have f0 : w5.frozen? ⟨w.heap.size, 0, none⟩ = false := qj hbo 0
       have f1 : w5.frozen? ⟨w.heap.size, 1, none⟩ = false := qj hbo 1
       have HV5 := zz hV_
       have HX := zz hbo
       clear hV_ hb_ hbo))
  refine bodyPost_ret (results_ct rfl _ _ w.heap.size 32 #[.slice A5 r1.length c5, .int .i64 r2] (0, 0) _ rfl (qw (qw HX.out 0 _ rfl) 1 _ rfl) Try.underlying32 rfl (by kernel_rfl)) rfl ?_
  refine ⟨_, rfl, ?_, Below.setCell (Below.setCell HB5.out (p := ⟨w.heap.size, 0, none⟩) (Nat.le_refl _) _) (p := ⟨w.heap.size, 1, none⟩) (Nat.le_refl _) _⟩
  exact Kd.V_mono (Kd.V_far (p := ⟨w.heap.size, 1, none⟩) (Kd.V_far (p := ⟨w.heap.size, 0, none⟩) HV5.out (fun k_ hk => by show k_ ≠ w.heap.size; omega) (.slice A5 r1.length c5)) (fun k_ hk => by show k_ ≠ w.heap.size; omega) (.int .i64 r2)) (fun k_ hk => by omega)
set_option maxHeartbeats 2000000 in
theorem sg_no (k : Nat) (A : Option Addr) (c0 : Nat) (l : List Int) (a1 : Int) (c d : Bool) (w : World) (hC : Kd.C (Kd.int .i64) w A l.length l) (hcc : l.length ≤ c0) (hok : spec_poCoefs.f k l = some c) (hg : spec_l1In.f a1 1 17 = some d) (hcd : c = false ∨ c = true ∧ d = false) :
    Calls Try.prog 25 #[.slice A l.length c0, .int .i64 a1] w fun e w' => ∃ v0_ : Value, e = .returned (.tuple #[.agg #[v0_, .int .i64 0], .bool false]) ∧ Kd.V k109 109 w' w.heap.size (fun k_ => w.heap.size ≤ k_) v0_ [] ∧ Below w.heap.size w w' := by
  have HC := zz hC
  have HLC := zz hcc
  have HOK := zz hok
  have HGO := zz hg
  clear hC hcc hok hg
  rcases hcd with rfl | ⟨rfl, rfl⟩
  all_goals go_enter Try.func25, Try.ntmps25
  all_goals go_wp2_with (first
    | (go_at_call 104; refine (spec_poCoefs.calls k _ c0 l _ _ (jq HC.out _) HLC.out HOK.out).mono ?_; rintro e w2 ⟨rfl, hd_⟩; obtain ⟨n2, rfl⟩ := YtlmoemahamneoaaHand.of_drawn hd_; clear hd_; have s0 : ((w.alloc (.cells #[.slice none 0 0, .int .i64 0] 32)).drewN n2).cell? ⟨w.heap.size, 0, none⟩ = some (.slice none 0 0) := (qq (qz (blk_new w _) n2) 0).trans rfl; have s1 : ((w.alloc (.cells #[.slice none 0 0, .int .i64 0] 32)).drewN n2).cell? ⟨w.heap.size, 1, none⟩ = some (.int .i64 0) := (qq (qz (blk_new w _) n2) 1).trans rfl)
    | (go_at_call 93; refine (spec_l1In.calls _ _ _ _ _ HGO.out).mono ?_; rintro e w3 ⟨rfl, hd_⟩; obtain ⟨n3, rfl⟩ := YtlmoemahamneoaaHand.of_drawn hd_; clear hd_))
  all_goals refine bodyPost_ret (results_ct rfl _ _ w.heap.size 32 #[.slice none 0 0, .int .i64 0] (0, 0) _ rfl (qw (qw (qz (blk_new w _) _) 0 _ rfl) 1 _ rfl) Try.underlying32 rfl (by kernel_rfl)) rfl ?_
  all_goals exact ⟨_, rfl, Kd.V_nil _ _ _ _ _, Below.setCell (Below.setCell (zq (zj (Below.refl _ _) _) _) (p := ⟨w.heap.size, 0, none⟩) (Nat.le_refl _) _) (p := ⟨w.heap.size, 1, none⟩) (Nat.le_refl _) _⟩
end
theorem spec_GiantCode.calls (k : Nat) (A0 : Option Addr) (c0 : Nat) (l0 : List Int) (a1 : Int) (r1 : List (S109)) (r2 : Int) (r3 : Bool) (w : World) (hr0 : Kd.C (Kd.int .i64) w A0 l0.length l0) (hc0 : l0.length ≤ c0) (h : spec_GiantCode.f k l0 a1 = some (r1, r2, r3)) :
    Calls Try.prog 25 #[.slice A0 l0.length c0, .int .i64 a1] w fun e w' => ∃ v0_ : Value, e = .returned (.tuple #[.agg #[v0_, .int .i64 r2], .bool r3]) ∧ Kd.V k109 109 w' w.heap.size (fun k_ => w.heap.size ≤ k_) v0_ r1 ∧ Below w.heap.size w w' := by
  unfold spec_GiantCode.f at h
  obtain ⟨c, hok, h1⟩ := Option.bind_eq_some_iff.mp h
  obtain ⟨d, hg, h2⟩ := Option.bind_eq_some_iff.mp h1
  clear h h1
  by_cases hy : c = true ∧ d = true
  · rw [if_pos hy] at h2
    obtain ⟨rfl, rfl⟩ := hy
    obtain ⟨⟨g1, g2⟩, hgi, h3⟩ := Option.bind_eq_some_iff.mp h2
    exact sg_yes k A0 c0 l0 a1 g1 g2 r1 r2 r3 w hr0 hc0 hok hg hgi h3
  · rw [if_neg hy] at h2
    simp only [Option.some.injEq, Prod.mk.injEq] at h2
    obtain ⟨rfl, rfl, rfl⟩ := h2
    refine sg_no k A0 c0 l0 a1 c d w hr0 hc0 hok hg ?_
    cases c with
    | false => exact Or.inl rfl
    | true => cases d with
      | false => exact Or.inr ⟨rfl, rfl⟩
      | true => exact absurd ⟨rfl, rfl⟩ hy
def IsS97 (w0 W : World) (g : Nat) (f0 : List Int) (f1 : Int) (f2 : Int) : Prop := ∃ A0 c0, W.heap[g]? = some (.cells #[.slice A0 f0.length c0, .int .i64 f1, .int .u64 f2] 97 (0, 0)) ∧ w0.heap.size ≤ g ∧ Kd.C (Kd.int .u8) w0 A0 f0.length f0
theorem IsS97.grown {w0 W : World} {g : Nat} {f0 : List Int} {f1 : Int} {f2 : Int} {W1 : World} {row : Option Nat} (h : IsS97 w0 W g f0 f1 f2) (hw : W.grownBy W1 row) (hne : some g ≠ row) : IsS97 w0 W1 g f0 f1 f2 := by
  obtain ⟨A0, c0, hb, hg, hr0⟩ := h
  exact ⟨A0, c0, blk_grown hb hw hne, hg, hr0⟩
theorem IsS97.kept {w0 W : World} {g : Nat} {f0 : List Int} {f1 : Int} {f2 : Int} {W1 : World} {S : Nat → Prop} (h : IsS97 w0 W g f0 f1 f2) (hk : Kept W W1 S) (hne : ¬ S g) : IsS97 w0 W1 g f0 f1 f2 := by
  obtain ⟨A0, c0, hb, hg, hr0⟩ := h
  exact ⟨A0, c0, blk_kept hb hk hne, hg, hr0⟩
theorem IsS97.below {w0 W : World} {g : Nat} {f0 : List Int} {f1 : Int} {f2 : Int} {W1 : World} (h : IsS97 w0 W g f0 f1 f2) (hw : Below W.heap.size W W1) : IsS97 w0 W1 g f0 f1 f2 := h.grown (grown_of_below hw none) (by simp)
theorem IsS97.alloc {w0 W : World} {g : Nat} {f0 : List Int} {f1 : Int} {f2 : Int} (h : IsS97 w0 W g f0 f1 f2) (o : Obj) : IsS97 w0 (W.alloc o) g f0 f1 f2 := h.below (zj (Below.refl _ _) o)
theorem IsS97.drewN {w0 W : World} {g : Nat} {f0 : List Int} {f1 : Int} {f2 : Int} (h : IsS97 w0 W g f0 f1 f2) (m : Nat) : IsS97 w0 (W.drewN m) g f0 f1 f2 := h
theorem IsS97.drew {w0 W : World} {g : Nat} {f0 : List Int} {f1 : Int} {f2 : Int} (h : IsS97 w0 W g f0 f1 f2) : IsS97 w0 W.drew g f0 f1 f2 := h
theorem IsS97.at_ {w0 W : World} {g : Nat} {f0 : List Int} {f1 : Int} {f2 : Int} {w' : World} {m : Nat} (hq : W.drewN m = w') (h : IsS97 w0 W g f0 f1 f2) : IsS97 w0 w' g f0 f1 f2 := by subst hq; exact IsS97.drewN h m
theorem IsS97.apart {w0 W : World} {g : Nat} {f0 : List Int} {f1 : Int} {f2 : Int} {α : Type} {d : Kd α} {e : Nat} {base : Nat} {ok : Nat → Prop} {v : Value} {xs : List α} (h : IsS97 w0 W g f0 f1 f2) (ho : d.R e W base ok v xs) (ht : ∀ q, q ∈ e :: d.E → q ≠ 97) : d.R e W base (fun k => ok k ∧ k ≠ g) v xs := by
  obtain ⟨A0, c0, hb, hg, hr0⟩ := h
  exact Kd.R_types ho hb ht
theorem IsS97.own_ne {w0 W : World} {g : Nat} {f0 : List Int} {f1 : Int} {f2 : Int} {α : Type} {d : Kd α} {e : Nat} {base : Nat} {ok : Nat → Prop} {v : Value} {xs : List α} (h : IsS97 w0 W g f0 f1 f2) (ho : d.R e W base ok v xs) (ht : e ≠ 97) : some g ≠ v.ownBlock := by
  obtain ⟨A0, c0, hb, hg, hr0⟩ := h
  exact Kd.R_ne ho hb ht
theorem IsS97.ge {w0 W : World} {g : Nat} {f0 : List Int} {f1 : Int} {f2 : Int} (h : IsS97 w0 W g f0 f1 f2) : w0.heap.size ≤ g := by
  obtain ⟨A0, c0, hb, hg, hr0⟩ := h
  exact hg
theorem IsS97.far {w0 W : World} {g : Nat} {f0 : List Int} {f1 : Int} {f2 : Int} {p : Addr} (h : IsS97 w0 W g f0 f1 f2) (hne : g ≠ p.block) (u : Value) : IsS97 w0 (W.setCell p u) g f0 f1 f2 := by
  obtain ⟨A0, c0, hb, hg, hr0⟩ := h
  exact ⟨A0, c0, blk_far hb hne u, hg, hr0⟩
theorem cellS97_0 {W : World} {g : Nat} {A0 : Option Addr} {c0 : Nat} {f0 : List Int} {f1 : Int} {f2 : Int} (h : W.heap[g]? = some (.cells #[.slice A0 f0.length c0, .int .i64 f1, .int .u64 f2] 97 (0, 0))) : W.cell? ⟨g, 0, none⟩ = some (.slice A0 f0.length c0) := (qq h 0).trans rfl
theorem cellS97_1 {W : World} {g : Nat} {A0 : Option Addr} {c0 : Nat} {f0 : List Int} {f1 : Int} {f2 : Int} (h : W.heap[g]? = some (.cells #[.slice A0 f0.length c0, .int .i64 f1, .int .u64 f2] 97 (0, 0))) : W.cell? ⟨g, 1, none⟩ = some (.int .i64 f1) := (qq h 1).trans rfl
theorem IsS97.set_1 {w0 W : World} {g : Nat} {f0 : List Int} {f1 : Int} {f2 : Int} (h : IsS97 w0 W g f0 f1 f2) (x : Int) : IsS97 w0 (W.setCell ⟨g, 1, none⟩ (.int .i64 x)) g f0 x f2 := by
  obtain ⟨A0, c0, hb, hg, hr0⟩ := h
  exact ⟨A0, c0, by simpa using blk_set hb 1 (.int .i64 x), hg, hr0⟩
theorem cellS97_2 {W : World} {g : Nat} {A0 : Option Addr} {c0 : Nat} {f0 : List Int} {f1 : Int} {f2 : Int} (h : W.heap[g]? = some (.cells #[.slice A0 f0.length c0, .int .i64 f1, .int .u64 f2] 97 (0, 0))) : W.cell? ⟨g, 2, none⟩ = some (.int .u64 f2) := (qq h 2).trans rfl
theorem IsS97.set_2 {w0 W : World} {g : Nat} {f0 : List Int} {f1 : Int} {f2 : Int} (h : IsS97 w0 W g f0 f1 f2) (x : Int) : IsS97 w0 (W.setCell ⟨g, 2, none⟩ (.int .u64 x)) g f0 f1 x := by
  obtain ⟨A0, c0, hb, hg, hr0⟩ := h
  exact ⟨A0, c0, by simpa using blk_set hb 2 (.int .u64 x), hg, hr0⟩
theorem IsS97.new (w0 W : World) (A0 : Option Addr) (c0 : Nat) (f0 : List Int) (f1 : Int) (f2 : Int) (hB : Below w0.heap.size w0 W) (hr0 : Kd.C (Kd.int .u8) w0 A0 f0.length f0) : IsS97 w0 (W.alloc (.cells #[.slice A0 f0.length c0, .int .i64 f1, .int .u64 f2] 97)) W.heap.size f0 f1 f2 := ⟨A0, c0, by simpa using heap_alloc_new W _, hB.size, hr0⟩
def spec_l1Cur_next.f (s0_0 : List Int) (s0_1 : Int) (s0_2 : Int) : Option (Int × Int × Int) := if s0_1 < (s0_0.length : Int) then (if 0 ≤ s0_1 then (if (wrap64 (s0_1 + 1)) ≤ (s0_0.length : Int) then (some (wrap64 (rd s0_0 s0_1), wrap64 (s0_1 + 1), IntKind.u64.wrap ((IntKind.u64.wrap ((IntKind.u64.wrap (s0_2 * 6364136223846793005)) + (IntKind.u64.wrap (wrap64 (rd s0_0 s0_1))))) + 1442695040888963407))) else (some (wrap64 (Go.bits .and .u64 ((IntKind.u64.wrap ((IntKind.u64.wrap ((IntKind.u64.wrap (s0_2 * 6364136223846793005)) + (IntKind.u64.wrap (wrap64 (rd s0_0 s0_1))))) + 1442695040888963407)) / 1099511627776) 255), wrap64 (s0_1 + 1), IntKind.u64.wrap ((IntKind.u64.wrap ((IntKind.u64.wrap (s0_2 * 6364136223846793005)) + (IntKind.u64.wrap (wrap64 (rd s0_0 s0_1))))) + 1442695040888963407)))) else (none)) else (if (wrap64 (s0_1 + 1)) ≤ (s0_0.length : Int) then (some (0, wrap64 (s0_1 + 1), IntKind.u64.wrap ((IntKind.u64.wrap ((IntKind.u64.wrap (s0_2 * 6364136223846793005)))) + 1442695040888963407))) else (some (wrap64 (Go.bits .and .u64 ((IntKind.u64.wrap ((IntKind.u64.wrap ((IntKind.u64.wrap (s0_2 * 6364136223846793005)))) + 1442695040888963407)) / 1099511627776) 255), wrap64 (s0_1 + 1), IntKind.u64.wrap ((IntKind.u64.wrap ((IntKind.u64.wrap (s0_2 * 6364136223846793005)))) + 1442695040888963407))))
set_option maxHeartbeats 8000000 in
set_option maxRecDepth 100000 in
theorem spec_l1Cur_next.calls (g : Nat) (s0_0 : List Int) (s0_1 : Int) (s0_2 : Int) (r1 : Int) (r2 : Int) (r3 : Int) (w0 w : World) (hI : IsS97 w0 w g s0_0 s0_1 s0_2) (hB : Below w0.heap.size w0 w) (h : spec_l1Cur_next.f s0_0 s0_1 s0_2 = some (r1, r2, r3)) :
  Calls Try.prog 185 #[.pointer (some ⟨g, 0, none⟩)] w fun e w' => e = .returned (.int .i64 r1) ∧ IsS97 w0 w' g s0_0 r2 r3 ∧ Below w0.heap.size w0 w' ∧ KeepBut w w' g none := by
 have HI0 := zz hI
 have HK := zz (KeepBut.refl w g none)
 have HL := zz hB.size
 clear hI
 have HW0 := zz hB.size
 have HB := zz hB
 clear hB
 have H : (if s0_1 < (s0_0.length : Int) then (if 0 ≤ s0_1 then (if (wrap64 (s0_1 + 1)) ≤ (s0_0.length : Int) then (some (wrap64 (rd s0_0 s0_1), wrap64 (s0_1 + 1), IntKind.u64.wrap ((IntKind.u64.wrap ((IntKind.u64.wrap (s0_2 * 6364136223846793005)) + (IntKind.u64.wrap (wrap64 (rd s0_0 s0_1))))) + 1442695040888963407))) else (some (wrap64 (Go.bits .and .u64 ((IntKind.u64.wrap ((IntKind.u64.wrap ((IntKind.u64.wrap (s0_2 * 6364136223846793005)) + (IntKind.u64.wrap (wrap64 (rd s0_0 s0_1))))) + 1442695040888963407)) / 1099511627776) 255), wrap64 (s0_1 + 1), IntKind.u64.wrap ((IntKind.u64.wrap ((IntKind.u64.wrap (s0_2 * 6364136223846793005)) + (IntKind.u64.wrap (wrap64 (rd s0_0 s0_1))))) + 1442695040888963407)))) else (none)) else (if (wrap64 (s0_1 + 1)) ≤ (s0_0.length : Int) then (some (0, wrap64 (s0_1 + 1), IntKind.u64.wrap ((IntKind.u64.wrap ((IntKind.u64.wrap (s0_2 * 6364136223846793005)))) + 1442695040888963407))) else (some (wrap64 (Go.bits .and .u64 ((IntKind.u64.wrap ((IntKind.u64.wrap ((IntKind.u64.wrap (s0_2 * 6364136223846793005)))) + 1442695040888963407)) / 1099511627776) 255), wrap64 (s0_1 + 1), IntKind.u64.wrap ((IntKind.u64.wrap ((IntKind.u64.wrap (s0_2 * 6364136223846793005)))) + 1442695040888963407))))) = some (r1, r2, r3) := h
 clear h
 by_cases c2 : s0_1 < (s0_0.length : Int)
 ·rw [if_pos c2] at H
  have c2b0 : decide (s0_1 < (s0_0.length : Int)) = true := decide_eq_true c2
  clear c2
  by_cases c3 : 0 ≤ s0_1
  ·rw [if_pos c3] at H
   have c3b0 : decide (0 ≤ s0_1) = true := decide_eq_true c3
   clear c3
   by_cases c4 : (wrap64 (s0_1 + 1)) ≤ (s0_0.length : Int)
   ·rw [if_pos c4] at H
    have c4b0 : decide ((wrap64 (s0_1 + 1)) ≤ (s0_0.length : Int)) = true := decide_eq_true c4
    clear c4
    simp only [Option.some.injEq, Prod.mk.injEq] at H
    obtain ⟨rfl, rfl, rfl⟩ := H
    obtain ⟨ASz5_0, cSz5_0, HGz5, hgz5, HSz5_0⟩ := HI0.out
    have hcz5_0 := cellS97_0 HGz5
    have hcz5_1 := cellS97_1 HGz5
    have hcz5_2 := cellS97_2 HGz5
    have hfz5_1 := qj HGz5 1
    have hfz5_2 := qj HGz5 2
    clear HGz5 hgz5
    have p315 : 0 ≤ (s0_1 : Int) := of_decide_eq_true (by with_reducible assumption)
    have q315 : s0_1 < (s0_0.length : Int) := of_decide_eq_true (by with_reducible assumption)
    obtain ⟨ad315, e315, hx315_0⟩ := Kd.at_int HSz5_0 s0_1 p315 q315
    cases e315
    replace hx315_0 := pw_cell_below HB.out hx315_0
    replace p315 := eq_true p315
    replace q315 := eq_true q315
    go_enter Try.func185, Try.ntmps185
    go_wp2
    repeat (go_quiet (fail); try go_wp2)
    go_ret
    exact ⟨by first | rfl | (simp <;> rfl) | (simp [*] <;> rfl), by repeat (with_reducible first | exact HI0.out | apply IsS97.alloc | apply IsS97.drewN | apply IsS97.drew | apply IsS97.set_1 | apply IsS97.set_2), by repeat (with_reducible first | exact HB.out | apply zj | apply zq | apply zw | refine zx ?_ (IsS97.ge HI0.out)), by repeat (with_reducible first | exact HK.out | apply KeepBut.set_ | apply keep_drewN | apply keep_drew | apply keep_alloc)⟩
   ·rw [if_neg c4] at H
    have c4b0 : decide ((wrap64 (s0_1 + 1)) ≤ (s0_0.length : Int)) = false := decide_eq_false c4
    clear c4
    simp only [Option.some.injEq, Prod.mk.injEq] at H
    obtain ⟨rfl, rfl, rfl⟩ := H
    obtain ⟨ASz6_0, cSz6_0, HGz6, hgz6, HSz6_0⟩ := HI0.out
    have hcz6_0 := cellS97_0 HGz6
    have hcz6_1 := cellS97_1 HGz6
    have hcz6_2 := cellS97_2 HGz6
    have hfz6_1 := qj HGz6 1
    have hfz6_2 := qj HGz6 2
    clear HGz6 hgz6
    have p315 : 0 ≤ (s0_1 : Int) := of_decide_eq_true (by with_reducible assumption)
    have q315 : s0_1 < (s0_0.length : Int) := of_decide_eq_true (by with_reducible assumption)
    obtain ⟨ad315, e315, hx315_0⟩ := Kd.at_int HSz6_0 s0_1 p315 q315
    cases e315
    replace hx315_0 := pw_cell_below HB.out hx315_0
    replace p315 := eq_true p315
    replace q315 := eq_true q315
    go_enter Try.func185, Try.ntmps185
    go_wp2
    repeat (go_quiet (fail); try go_wp2)
    go_ret
    exact ⟨by first | rfl | (simp <;> rfl) | (simp [*] <;> rfl), by repeat (with_reducible first | exact HI0.out | apply IsS97.alloc | apply IsS97.drewN | apply IsS97.drew | apply IsS97.set_1 | apply IsS97.set_2), by repeat (with_reducible first | exact HB.out | apply zj | apply zq | apply zw | refine zx ?_ (IsS97.ge HI0.out)), by repeat (with_reducible first | exact HK.out | apply KeepBut.set_ | apply keep_drewN | apply keep_drew | apply keep_alloc)⟩
  ·rw [if_neg c3] at H
   exact absurd H (by simp)
 ·rw [if_neg c2] at H
  have c2b0 : decide (s0_1 < (s0_0.length : Int)) = false := decide_eq_false c2
  clear c2
  by_cases c7 : (wrap64 (s0_1 + 1)) ≤ (s0_0.length : Int)
  ·rw [if_pos c7] at H
   have c7b0 : decide ((wrap64 (s0_1 + 1)) ≤ (s0_0.length : Int)) = true := decide_eq_true c7
   clear c7
   simp only [Option.some.injEq, Prod.mk.injEq] at H
   obtain ⟨rfl, rfl, rfl⟩ := H
   obtain ⟨ASz8_0, cSz8_0, HGz8, hgz8, HSz8_0⟩ := HI0.out
   have hcz8_0 := cellS97_0 HGz8
   have hcz8_1 := cellS97_1 HGz8
   have hcz8_2 := cellS97_2 HGz8
   have hfz8_1 := qj HGz8 1
   have hfz8_2 := qj HGz8 2
   clear HGz8 hgz8
   go_enter Try.func185, Try.ntmps185
   go_wp2
   repeat (go_quiet (fail); try go_wp2)
   go_ret
   exact ⟨by first | rfl | (simp <;> rfl) | (simp [*] <;> rfl), by repeat (with_reducible first | exact HI0.out | apply IsS97.alloc | apply IsS97.drewN | apply IsS97.drew | apply IsS97.set_1 | apply IsS97.set_2), by repeat (with_reducible first | exact HB.out | apply zj | apply zq | apply zw | refine zx ?_ (IsS97.ge HI0.out)), by repeat (with_reducible first | exact HK.out | apply KeepBut.set_ | apply keep_drewN | apply keep_drew | apply keep_alloc)⟩
  ·rw [if_neg c7] at H
   have c7b0 : decide ((wrap64 (s0_1 + 1)) ≤ (s0_0.length : Int)) = false := decide_eq_false c7
   clear c7
   simp only [Option.some.injEq, Prod.mk.injEq] at H
   obtain ⟨rfl, rfl, rfl⟩ := H
   obtain ⟨ASz9_0, cSz9_0, HGz9, hgz9, HSz9_0⟩ := HI0.out
   have hcz9_0 := cellS97_0 HGz9
   have hcz9_1 := cellS97_1 HGz9
   have hcz9_2 := cellS97_2 HGz9
   have hfz9_1 := qj HGz9 1
   have hfz9_2 := qj HGz9 2
   clear HGz9 hgz9
   go_enter Try.func185, Try.ntmps185
   go_wp2
   repeat (go_quiet (fail); try go_wp2)
   go_ret
   exact ⟨by first | rfl | (simp <;> rfl) | (simp [*] <;> rfl), by repeat (with_reducible first | exact HI0.out | apply IsS97.alloc | apply IsS97.drewN | apply IsS97.drew | apply IsS97.set_1 | apply IsS97.set_2), by repeat (with_reducible first | exact HB.out | apply zj | apply zq | apply zw | refine zx ?_ (IsS97.ge HI0.out)), by repeat (with_reducible first | exact HK.out | apply KeepBut.set_ | apply keep_drewN | apply keep_drew | apply keep_alloc)⟩
def spec_l1Cur_pick.f (s0_0 : List Int) (s0_1 : Int) (s0_2 : Int) (a1 : Int) : Option (Int × Int × Int) := if a1 ≤ 1 then (some (0, s0_1, s0_2)) else ((spec_l1Cur_next.f s0_0 s0_1 s0_2).bind fun bt316 => (if a1 > 200 then ((spec_l1Cur_next.f s0_0 bt316.2.1 bt316.2.2).bind fun bt319 => (if a1 = 0 then (none) else (some (Int.tmod (wrap64 ((wrap64 (bt316.1 * 256)) + bt319.1)) a1, bt319.2.1, bt319.2.2)))) else (if a1 = 0 then (none) else (some (Int.tmod bt316.1 a1, bt316.2.1, bt316.2.2)))))
set_option maxHeartbeats 8000000 in
set_option maxRecDepth 100000 in
theorem spec_l1Cur_pick.calls (g : Nat) (s0_0 : List Int) (s0_1 : Int) (s0_2 : Int) (a1 : Int) (r1 : Int) (r2 : Int) (r3 : Int) (w0 w : World) (hI : IsS97 w0 w g s0_0 s0_1 s0_2) (hB : Below w0.heap.size w0 w) (h : spec_l1Cur_pick.f s0_0 s0_1 s0_2 a1 = some (r1, r2, r3)) :
  Calls Try.prog 88 #[.pointer (some ⟨g, 0, none⟩), .int .i64 a1] w fun e w' => e = .returned (.int .i64 r1) ∧ IsS97 w0 w' g s0_0 r2 r3 ∧ Below w0.heap.size w0 w' ∧ KeepBut w w' g none := by
 have HI0 := zz hI
 have HK := zz (KeepBut.refl w g none)
 have HL := zz hB.size
 clear hI
 have HW0 := zz hB.size
 have HB := zz hB
 clear hB
 have H : (if a1 ≤ 1 then (some (0, s0_1, s0_2)) else ((spec_l1Cur_next.f s0_0 s0_1 s0_2).bind fun bt316 => (if a1 > 200 then ((spec_l1Cur_next.f s0_0 bt316.2.1 bt316.2.2).bind fun bt319 => (if a1 = 0 then (none) else (some (Int.tmod (wrap64 ((wrap64 (bt316.1 * 256)) + bt319.1)) a1, bt319.2.1, bt319.2.2)))) else (if a1 = 0 then (none) else (some (Int.tmod bt316.1 a1, bt316.2.1, bt316.2.2)))))) = some (r1, r2, r3) := h
 clear h
 by_cases c3 : a1 ≤ 1
 ·rw [if_pos c3] at H
  have c3b0 : decide (a1 ≤ 1) = true := decide_eq_true c3
  clear c3
  simp only [Option.some.injEq, Prod.mk.injEq] at H
  obtain ⟨rfl, rfl, rfl⟩ := H
  go_enter Try.func88, Try.ntmps88
  go_wp2
  go_ret
  exact ⟨by first | rfl | (simp <;> rfl) | (simp [*] <;> rfl), by repeat (with_reducible first | exact HI0.out | apply IsS97.alloc | apply IsS97.drewN | apply IsS97.drew | apply IsS97.set_1 | apply IsS97.set_2), by repeat (with_reducible first | exact HB.out | apply zj | apply zq | apply zw | refine zx ?_ (IsS97.ge HI0.out)), by repeat (with_reducible first | exact HK.out | apply KeepBut.set_ | apply keep_drewN | apply keep_drew | apply keep_alloc)⟩
 ·rw [if_neg c3] at H
  have c3b0 : decide (a1 ≤ 1) = false := decide_eq_false c3
  clear c3
  replace H := Option.bind_eq_some_iff.mp H
  obtain ⟨⟨t316, t317, t318⟩, A40, H⟩ := H
  replace H : (if a1 > 200 then ((spec_l1Cur_next.f s0_0 t317 t318).bind fun bt319 => (if a1 = 0 then (none) else (some (Int.tmod (wrap64 ((wrap64 (t316 * 256)) + bt319.1)) a1, bt319.2.1, bt319.2.2)))) else (if a1 = 0 then (none) else (some (Int.tmod t316 a1, t317, t318)))) = some (r1, r2, r3) := H
  have A4 := zz A40
  clear A40
  by_cases c5 : a1 > 200
  ·rw [if_pos c5] at H
   have c5b0 : decide (200 < a1) = true := decide_eq_true c5
   clear c5
   replace H := Option.bind_eq_some_iff.mp H
   obtain ⟨⟨t319, t320, t321⟩, A60, H⟩ := H
   replace H : (if a1 = 0 then (none) else (some (Int.tmod (wrap64 ((wrap64 (t316 * 256)) + t319)) a1, t320, t321))) = some (r1, r2, r3) := H
   have A6 := zz A60
   clear A60
   by_cases c7 : a1 = 0
   ·rw [if_pos c7] at H
    exact absurd H (by simp)
   ·rw [if_neg c7] at H
    have c7b0 : (a1 == 0) = false := beq_eq_false_iff_ne.mpr c7
    have c7b1 : (a1 != 0) = true := bne_iff_ne.mpr c7
    simp only [Option.some.injEq, Prod.mk.injEq] at H
    obtain ⟨rfl, rfl, rfl⟩ := H
    go_enter Try.func88, Try.ntmps88
    go_wp2_with (first | ((with_reducible refine yz (f := 185) rfl ?_); refine vq (some 9) rfl rfl Try.func185 (by kernel_rfl) rfl #[.pointer (some ⟨g, 0, none⟩)] rfl (by (try simp only [jx, List.map_cons, List.map_nil]); first | done | rfl) ?_; (with_reducible refine (spec_l1Cur_next.calls g s0_0 s0_1 s0_2 t316 t317 t318 w0 _ ?side1 ?side2 A4.out).mono ?_); (case side1 => repeat (with_reducible first | exact HI0.out | apply IsS97.alloc | apply IsS97.drewN | apply IsS97.drew | apply IsS97.set_1 | apply IsS97.set_2)); (case side2 => repeat (with_reducible first | exact HB.out | apply zj | apply zq | apply zw | refine zx ?_ (IsS97.ge HI0.out))); rintro e w8 ⟨rfl, hi, hb, hk⟩; refine ⟨_, rfl, ?_⟩; have n0_ := zz (KeepBut.trans (by repeat (with_reducible first | exact HK.out | apply KeepBut.set_ | apply keep_drewN | apply keep_drew | apply keep_alloc)) hk (.inl rfl)); have n1_ := zz (hb); have n2_ := zz (hi); clear HK; clear HB; clear HI0; have HK := n0_; have HB := n1_; have HI0 := n2_; clear n0_ n1_ n2_; (try clear hb); (try clear hi hk)) | ((with_reducible refine yz (f := 185) rfl ?_); refine vq (some 15) rfl rfl Try.func185 (by kernel_rfl) rfl #[.pointer (some ⟨g, 0, none⟩)] rfl (by (try simp only [jx, List.map_cons, List.map_nil]); first | done | rfl) ?_; (with_reducible refine (spec_l1Cur_next.calls g s0_0 t317 t318 t319 t320 t321 w0 _ ?side1 ?side2 A6.out).mono ?_); (case side1 => repeat (with_reducible first | exact HI0.out | apply IsS97.alloc | apply IsS97.drewN | apply IsS97.drew | apply IsS97.set_1 | apply IsS97.set_2)); (case side2 => repeat (with_reducible first | exact HB.out | apply zj | apply zq | apply zw | refine zx ?_ (IsS97.ge HI0.out))); rintro e w9 ⟨rfl, hi, hb, hk⟩; refine ⟨_, rfl, ?_⟩; have n0_ := zz (KeepBut.trans (by repeat (with_reducible first | exact HK.out | apply KeepBut.set_ | apply keep_drewN | apply keep_drew | apply keep_alloc)) hk (.inl rfl)); have n1_ := zz (hb); have n2_ := zz (hi); clear HK; clear HB; clear HI0; have HK := n0_; have HB := n1_; have HI0 := n2_; clear n0_ n1_ n2_; (try clear hb); (try clear hi hk)))
    go_ret
    exact ⟨by first | rfl | (simp <;> rfl) | (simp [*] <;> rfl), by repeat (with_reducible first | exact HI0.out | apply IsS97.alloc | apply IsS97.drewN | apply IsS97.drew | apply IsS97.set_1 | apply IsS97.set_2), by repeat (with_reducible first | exact HB.out | apply zj | apply zq | apply zw | refine zx ?_ (IsS97.ge HI0.out)), by repeat (with_reducible first | exact HK.out | apply KeepBut.set_ | apply keep_drewN | apply keep_drew | apply keep_alloc)⟩
  ·rw [if_neg c5] at H
   have c5b0 : decide (200 < a1) = false := decide_eq_false c5
   clear c5
   by_cases c10 : a1 = 0
   ·rw [if_pos c10] at H
    exact absurd H (by simp)
   ·rw [if_neg c10] at H
    have c10b0 : (a1 == 0) = false := beq_eq_false_iff_ne.mpr c10
    have c10b1 : (a1 != 0) = true := bne_iff_ne.mpr c10
    simp only [Option.some.injEq, Prod.mk.injEq] at H
    obtain ⟨rfl, rfl, rfl⟩ := H
    go_enter Try.func88, Try.ntmps88
    go_wp2_with (first | ((with_reducible refine yz (f := 185) rfl ?_); refine vq (some 9) rfl rfl Try.func185 (by kernel_rfl) rfl #[.pointer (some ⟨g, 0, none⟩)] rfl (by (try simp only [jx, List.map_cons, List.map_nil]); first | done | rfl) ?_; (with_reducible refine (spec_l1Cur_next.calls g s0_0 s0_1 s0_2 t316 t317 t318 w0 _ ?side1 ?side2 A4.out).mono ?_); (case side1 => repeat (with_reducible first | exact HI0.out | apply IsS97.alloc | apply IsS97.drewN | apply IsS97.drew | apply IsS97.set_1 | apply IsS97.set_2)); (case side2 => repeat (with_reducible first | exact HB.out | apply zj | apply zq | apply zw | refine zx ?_ (IsS97.ge HI0.out))); rintro e w11 ⟨rfl, hi, hb, hk⟩; refine ⟨_, rfl, ?_⟩; have n0_ := zz (KeepBut.trans (by repeat (with_reducible first | exact HK.out | apply KeepBut.set_ | apply keep_drewN | apply keep_drew | apply keep_alloc)) hk (.inl rfl)); have n1_ := zz (hb); have n2_ := zz (hi); clear HK; clear HB; clear HI0; have HK := n0_; have HB := n1_; have HI0 := n2_; clear n0_ n1_ n2_; (try clear hb); (try clear hi hk)))
    go_ret
    exact ⟨by first | rfl | (simp <;> rfl) | (simp [*] <;> rfl), by repeat (with_reducible first | exact HI0.out | apply IsS97.alloc | apply IsS97.drewN | apply IsS97.drew | apply IsS97.set_1 | apply IsS97.set_2), by repeat (with_reducible first | exact HB.out | apply zj | apply zq | apply zw | refine zx ?_ (IsS97.ge HI0.out)), by repeat (with_reducible first | exact HK.out | apply KeepBut.set_ | apply keep_drewN | apply keep_drew | apply keep_alloc)⟩
def spec_l1Cur_one.f (s0_0 : List Int) (s0_1 : Int) (s0_2 : Int) (a1 : Int) : Option (Bool × Int × Int) := (spec_l1Cur_pick.f s0_0 s0_1 s0_2 a1).bind fun bt322 => (some ((bt322.1 == 0), bt322.2.1, bt322.2.2))
set_option maxHeartbeats 8000000 in
set_option maxRecDepth 100000 in
theorem spec_l1Cur_one.calls (g : Nat) (s0_0 : List Int) (s0_1 : Int) (s0_2 : Int) (a1 : Int) (r1 : Bool) (r2 : Int) (r3 : Int) (w0 w : World) (hI : IsS97 w0 w g s0_0 s0_1 s0_2) (hB : Below w0.heap.size w0 w) (h : spec_l1Cur_one.f s0_0 s0_1 s0_2 a1 = some (r1, r2, r3)) :
  Calls Try.prog 143 #[.pointer (some ⟨g, 0, none⟩), .int .i64 a1] w fun e w' => e = .returned (.bool r1) ∧ IsS97 w0 w' g s0_0 r2 r3 ∧ Below w0.heap.size w0 w' ∧ KeepBut w w' g none := by
 have HI0 := zz hI
 have HK := zz (KeepBut.refl w g none)
 have HL := zz hB.size
 clear hI
 have HW0 := zz hB.size
 have HB := zz hB
 clear hB
 have H : ((spec_l1Cur_pick.f s0_0 s0_1 s0_2 a1).bind fun bt322 => (some ((bt322.1 == 0), bt322.2.1, bt322.2.2))) = some (r1, r2, r3) := h
 clear h
 replace H := Option.bind_eq_some_iff.mp H
 obtain ⟨⟨t322, t323, t324⟩, A30, H⟩ := H
 replace H : (some ((t322 == 0), t323, t324)) = some (r1, r2, r3) := H
 have A3 := zz A30
 clear A30
 simp only [Option.some.injEq, Prod.mk.injEq] at H
 obtain ⟨rfl, rfl, rfl⟩ := H
 go_enter Try.func143, Try.ntmps143
 go_wp2_with (first | ((with_reducible refine yz (f := 88) rfl ?_); refine vq (some 7) rfl rfl Try.func88 (by kernel_rfl) rfl #[.pointer (some ⟨g, 0, none⟩), .int .i64 a1] rfl (by (try simp only [jx, List.map_cons, List.map_nil]); first | done | rfl) ?_; (with_reducible refine (spec_l1Cur_pick.calls g s0_0 s0_1 s0_2 a1 t322 t323 t324 w0 _ ?side1 ?side2 A3.out).mono ?_); (case side1 => repeat (with_reducible first | exact HI0.out | apply IsS97.alloc | apply IsS97.drewN | apply IsS97.drew | apply IsS97.set_1 | apply IsS97.set_2)); (case side2 => repeat (with_reducible first | exact HB.out | apply zj | apply zq | apply zw | refine zx ?_ (IsS97.ge HI0.out))); rintro e w4 ⟨rfl, hi, hb, hk⟩; refine ⟨_, rfl, ?_⟩; have n0_ := zz (KeepBut.trans (by repeat (with_reducible first | exact HK.out | apply KeepBut.set_ | apply keep_drewN | apply keep_drew | apply keep_alloc)) hk (.inl rfl)); have n1_ := zz (hb); have n2_ := zz (hi); clear HK; clear HB; clear HI0; have HK := n0_; have HB := n1_; have HI0 := n2_; clear n0_ n1_ n2_; (try clear hb); (try clear hi hk)))
 go_ret
 exact ⟨by first | rfl | (simp <;> rfl) | (simp [*] <;> rfl), by repeat (with_reducible first | exact HI0.out | apply IsS97.alloc | apply IsS97.drewN | apply IsS97.drew | apply IsS97.set_1 | apply IsS97.set_2), by repeat (with_reducible first | exact HB.out | apply zj | apply zq | apply zw | refine zx ?_ (IsS97.ge HI0.out)), by repeat (with_reducible first | exact HK.out | apply KeepBut.set_ | apply keep_drewN | apply keep_drew | apply keep_alloc)⟩
def spec_l1Cur_among.f (s0_0 : List Int) (s0_1 : Int) (s0_2 : Int) (l1 : List Int) : Option (Int × Int × Int) := (spec_l1Cur_pick.f s0_0 s0_1 s0_2 (l1.length : Int)).bind fun bt325 => (if 0 ≤ bt325.1 then (if bt325.1 < (l1.length : Int) then (some (rd l1 bt325.1, bt325.2.1, bt325.2.2)) else (none)) else (none))
set_option maxHeartbeats 8000000 in
set_option maxRecDepth 100000 in
theorem spec_l1Cur_among.calls (g : Nat) (s0_0 : List Int) (s0_1 : Int) (s0_2 : Int) (A1 : Option Addr) (c1 : Nat) (l1 : List Int) (r1 : Int) (r2 : Int) (r3 : Int) (w0 w : World) (hI : IsS97 w0 w g s0_0 s0_1 s0_2) (hB : Below w0.heap.size w0 w) (hr1 : Kd.C (Kd.int .i64) w A1 l1.length l1) (hc1 : l1.length ≤ c1) (hf1 : ∀ ad, A1 = some ad → 0 < l1.length → ad.block ≠ g) (h : spec_l1Cur_among.f s0_0 s0_1 s0_2 l1 = some (r1, r2, r3)) :
  Calls Try.prog 178 #[.pointer (some ⟨g, 0, none⟩), .slice A1 l1.length c1] w fun e w' => e = .returned (.int .i64 r1) ∧ IsS97 w0 w' g s0_0 r2 r3 ∧ Below w0.heap.size w0 w' ∧ KeepBut w w' g none := by
 have HR1 := zz hr1
 have HC1 := zz hc1
 clear hr1 hc1
 have HI0 := zz hI
 have HK := zz (KeepBut.refl w g none)
 have HL := zz hB.size
 clear hI
 have HW0 := zz hB.size
 have HB := zz hB
 clear hB
 have H : ((spec_l1Cur_pick.f s0_0 s0_1 s0_2 (l1.length : Int)).bind fun bt325 => (if 0 ≤ bt325.1 then (if bt325.1 < (l1.length : Int) then (some (rd l1 bt325.1, bt325.2.1, bt325.2.2)) else (none)) else (none))) = some (r1, r2, r3) := h
 clear h
 replace H := Option.bind_eq_some_iff.mp H
 obtain ⟨⟨t325, t326, t327⟩, A30, H⟩ := H
 replace H : (if 0 ≤ t325 then (if t325 < (l1.length : Int) then (some (rd l1 t325, t326, t327)) else (none)) else (none)) = some (r1, r2, r3) := H
 have A3 := zz A30
 clear A30
 by_cases c4 : 0 ≤ t325
 ·rw [if_pos c4] at H
  have c4b0 : decide (0 ≤ t325) = true := decide_eq_true c4
  clear c4
  by_cases c5 : t325 < (l1.length : Int)
  ·rw [if_pos c5] at H
   have c5b0 : decide (t325 < (l1.length : Int)) = true := decide_eq_true c5
   clear c5
   simp only [Option.some.injEq, Prod.mk.injEq] at H
   obtain ⟨rfl, rfl, rfl⟩ := H
   go_enter Try.func178, Try.ntmps178
   go_wp2_with (first | ((with_reducible refine yz (f := 88) rfl ?_); refine vq (some 9) rfl rfl Try.func88 (by kernel_rfl) rfl #[.pointer (some ⟨g, 0, none⟩), .int .i64 (l1.length : Int)] rfl (by (try simp only [jx, List.map_cons, List.map_nil]); first | done | rfl) ?_; (with_reducible refine (spec_l1Cur_pick.calls g s0_0 s0_1 s0_2 (l1.length : Int) t325 t326 t327 w0 _ ?side1 ?side2 A3.out).mono ?_); (case side1 => repeat (with_reducible first | exact HI0.out | apply IsS97.alloc | apply IsS97.drewN | apply IsS97.drew | apply IsS97.set_1 | apply IsS97.set_2)); (case side2 => repeat (with_reducible first | exact HB.out | apply zj | apply zq | apply zw | refine zx ?_ (IsS97.ge HI0.out))); rintro e w6 ⟨rfl, hi, hb, hk⟩; refine ⟨_, rfl, ?_⟩; have n0_ := zz (KeepBut.trans (by repeat (with_reducible first | exact HK.out | apply KeepBut.set_ | apply keep_drewN | apply keep_drew | apply keep_alloc)) hk (.inl rfl)); have n1_ := zz (hb); have n2_ := zz (hi); clear HK; clear HB; clear HI0; have HK := n0_; have HB := n1_; have HI0 := n2_; clear n0_ n1_ n2_; (try clear hb); (try clear hi hk); have p328 : 0 ≤ (t325 : Int) := of_decide_eq_true (by with_reducible assumption); have q328 : t325 < (l1.length : Int) := of_decide_eq_true (by with_reducible assumption); obtain ⟨ad328, e328, hx328_0⟩ := Kd.at_int HR1.out t325 p328 q328; cases e328; replace hx328_0 := keep_cell HK.out hx328_0 (by first | (rw [add_block]; exact hf1 _ rfl (by omega)) | exact hf1 _ rfl (by omega) | exact hf1 ad328 rfl (by omega)); replace p328 := eq_true p328; replace q328 := eq_true q328))
   go_ret
   exact ⟨by first | rfl | (simp <;> rfl) | (simp [*] <;> rfl), by repeat (with_reducible first | exact HI0.out | apply IsS97.alloc | apply IsS97.drewN | apply IsS97.drew | apply IsS97.set_1 | apply IsS97.set_2), by repeat (with_reducible first | exact HB.out | apply zj | apply zq | apply zw | refine zx ?_ (IsS97.ge HI0.out)), by repeat (with_reducible first | exact HK.out | apply KeepBut.set_ | apply keep_drewN | apply keep_drew | apply keep_alloc)⟩
  ·rw [if_neg c5] at H
   exact absurd H (by simp)
 ·rw [if_neg c4] at H
  exact absurd H (by simp)
def spec_l1Cur_group.f (s0_0 : List Int) (s0_1 : Int) (s0_2 : Int) : Option (Int × Int × Int) := (spec_l1Cur_one.f s0_0 s0_1 s0_2 8).bind fun bt329 => (if bt329.1 = true then ((spec_l1Cur_among.f s0_0 bt329.2.1 bt329.2.2 (([(-1), 0, 17, 18] : List Int))).bind fun bt335 => (some (bt335.1, bt335.2.1, bt335.2.2))) else ((spec_l1Cur_pick.f s0_0 bt329.2.1 bt329.2.2 6).bind fun bt338 => (some (wrap64 (1 + bt338.1), bt338.2.1, bt338.2.2))))
set_option maxHeartbeats 8000000 in
set_option maxRecDepth 100000 in
theorem spec_l1Cur_group.calls (g : Nat) (s0_0 : List Int) (s0_1 : Int) (s0_2 : Int) (r1 : Int) (r2 : Int) (r3 : Int) (w0 w : World) (hI : IsS97 w0 w g s0_0 s0_1 s0_2) (hB : Below w0.heap.size w0 w) (h : spec_l1Cur_group.f s0_0 s0_1 s0_2 = some (r1, r2, r3)) :
  Calls Try.prog 89 #[.pointer (some ⟨g, 0, none⟩)] w fun e w' => e = .returned (.int .i64 r1) ∧ IsS97 w0 w' g s0_0 r2 r3 ∧ Below w0.heap.size w0 w' ∧ KeepBut w w' g none := by
 have HI0 := zz hI
 have HK := zz (KeepBut.refl w g none)
 have HL := zz hB.size
 clear hI
 have HW0 := zz hB.size
 have HB := zz hB
 clear hB
 have H : ((spec_l1Cur_one.f s0_0 s0_1 s0_2 8).bind fun bt329 => (if bt329.1 = true then ((spec_l1Cur_among.f s0_0 bt329.2.1 bt329.2.2 (([(-1), 0, 17, 18] : List Int))).bind fun bt335 => (some (bt335.1, bt335.2.1, bt335.2.2))) else ((spec_l1Cur_pick.f s0_0 bt329.2.1 bt329.2.2 6).bind fun bt338 => (some (wrap64 (1 + bt338.1), bt338.2.1, bt338.2.2))))) = some (r1, r2, r3) := h
 clear h
 replace H := Option.bind_eq_some_iff.mp H
 obtain ⟨⟨t329, t330, t331⟩, A20, H⟩ := H
 replace H : (if t329 = true then ((spec_l1Cur_among.f s0_0 t330 t331 (([(-1), 0, 17, 18] : List Int))).bind fun bt335 => (some (bt335.1, bt335.2.1, bt335.2.2))) else ((spec_l1Cur_pick.f s0_0 t330 t331 6).bind fun bt338 => (some (wrap64 (1 + bt338.1), bt338.2.1, bt338.2.2)))) = some (r1, r2, r3) := H
 have A2 := zz A20
 clear A20
 by_cases c3 : t329 = true
 ·subst c3
  have H1 : ((spec_l1Cur_among.f s0_0 t330 t331 (([(-1), 0, 17, 18] : List Int))).bind fun bt335 => (some (bt335.1, bt335.2.1, bt335.2.2))) = some (r1, r2, r3) := by rw [if_pos rfl] at H; exact H
  clear H
  have H := H1
  clear H1
  obtain ⟨y332, hy332⟩ : ∃ y_ : List Int, y_ = (([(-1), 0, 17, 18] : List Int)) := ⟨_, rfl⟩
  replace H : ((spec_l1Cur_among.f s0_0 t330 t331 y332).bind fun bt335 => (some (bt335.1, bt335.2.1, bt335.2.2))) = some (r1, r2, r3) := by first | (rw [hy332]; with_reducible exact H) | (have H2_ := (Option.bind_some _ _).symm.trans H; rw [hy332]; with_reducible exact H2_) | (have H2_ := (Option.bind_some _ _).symm.trans H; with_reducible exact H2_) | with_reducible exact H | (rw [hy332]; exact H) | exact H
  have Ny332 := zz hy332
  clear hy332
  replace H := Option.bind_eq_some_iff.mp H
  obtain ⟨⟨t335, t336, t337⟩, A40, H⟩ := H
  replace H : (some (t335, t336, t337)) = some (r1, r2, r3) := H
  have A4 := zz A40
  clear A40
  simp only [Option.some.injEq, Prod.mk.injEq] at H
  obtain ⟨rfl, rfl, rfl⟩ := H
  go_enter Try.func89, Try.ntmps89
  go_wp2_with (first | ((with_reducible refine yz (f := 143) rfl ?_); refine vq (some 4) rfl rfl Try.func143 (by kernel_rfl) rfl #[.pointer (some ⟨g, 0, none⟩), .int .i64 8] rfl (by (try simp only [jx, List.map_cons, List.map_nil]); first | done | rfl) ?_; (with_reducible refine (spec_l1Cur_one.calls g s0_0 s0_1 s0_2 8 true t330 t331 w0 _ ?side1 ?side2 A2.out).mono ?_); (case side1 => repeat (with_reducible first | exact HI0.out | apply IsS97.alloc | apply IsS97.drewN | apply IsS97.drew | apply IsS97.set_1 | apply IsS97.set_2)); (case side2 => repeat (with_reducible first | exact HB.out | apply zj | apply zq | apply zw | refine zx ?_ (IsS97.ge HI0.out))); rintro e w5 ⟨rfl, hi, hb, hk⟩; refine ⟨_, rfl, ?_⟩; have n0_ := zz (KeepBut.trans (by repeat (with_reducible first | exact HK.out | apply KeepBut.set_ | apply keep_drewN | apply keep_drew | apply keep_alloc)) hk (.inl rfl)); have n1_ := zz (hb); have n2_ := zz (hi); clear HK; clear HB; clear HI0; have HK := n0_; have HB := n1_; have HI0 := n2_; clear n0_ n1_ n2_; (try clear hb); (try clear hi hk)) | ((with_reducible refine yq (N := 6) rfl ?_); refine Kd.R_lit (Kd.int .i64) _ 3 ?hg (N := 6) ?hd (xs := ([(-1), 0, 17, 18] : List Int)) (inner := [.int .i64 (-1), .int .i64 0, .int .i64 17, .int .i64 18]) (ok := fun _ => True) (okp := fun _ => True) ?hr ?hp (fun _ hk => hk) trivial (Below.refl _ _) (Nat.le_refl _) (by simp) ?_; (case hd => rfl); (case hg => rfl); (case hr => first | (go_simp; done) | (go_simp; rfl)); (case hp => exact (Reps.one (show Kd.M (Kd.int .i64) _ _ _ (-1) [.int .i64 (-1)] from rfl) (Reps.one (show Kd.M (Kd.int .i64) _ _ _ 0 [.int .i64 0] from rfl) (Reps.one (show Kd.M (Kd.int .i64) _ _ _ 17 [.int .i64 17] from rfl) (Reps.one (show Kd.M (Kd.int .i64) _ _ _ 18 [.int .i64 18] from rfl) (Reps.none _ _)))))); intro v333 w6 ho7 hb hg_ hnew_; clear hg_ hnew_; (first | rw [← Ny332.out] at ho7 | (simp only [Int.reduceToNat] at ho7; rw [← Ny332.out] at ho7)); have n0_ := zz (Kd.R_lower ho7 (keep_size (w := w) (g := g) (row := none) (by repeat (with_reducible first | exact HK.out | apply KeepBut.set_ | apply keep_drewN | apply keep_drew | apply keep_alloc)))); have n1_ := zz (IsS97.below (by repeat (with_reducible first | exact HI0.out | apply IsS97.alloc | apply IsS97.drewN | apply IsS97.drew | apply IsS97.set_1 | apply IsS97.set_2)) hb); have n2_ := zz (KeepBut.trans (by repeat (with_reducible first | exact HK.out | apply KeepBut.set_ | apply keep_drewN | apply keep_drew | apply keep_alloc)) (KeepBut.of_below hb g none) (.inl rfl)); have n3_ := zz (zk (by repeat (with_reducible first | exact HB.out | apply zj | apply zq | apply zw | refine zx ?_ (IsS97.ge HI0.out))) hb); clear HI0; clear HK; clear HB; have HO334 := n0_; have HI0 := n1_; have HK := n2_; have HB := n3_; clear n0_ n1_ n2_ n3_; clear hb ho7; obtain ⟨Ao8, co8, eo8⟩ := yx HO334.out; subst eo8) | ((with_reducible refine yz (f := 178) rfl ?_); refine vq (some 7) rfl rfl Try.func178 (by kernel_rfl) rfl #[.pointer (some ⟨g, 0, none⟩), .slice Ao8 y332.length co8] rfl (by (try simp only [jx, List.map_cons, List.map_nil]); first | done | rfl) ?_; (with_reducible refine (spec_l1Cur_among.calls g s0_0 t330 t331 _ _ y332 t335 t336 t337 w0 _ ?side1 ?side2 ?side3 ?side4 ?side5 A4.out).mono ?_); (case side1 => repeat (with_reducible first | exact HI0.out | apply IsS97.alloc | apply IsS97.drewN | apply IsS97.drew | apply IsS97.set_1 | apply IsS97.set_2)); (case side2 => repeat (with_reducible first | exact HB.out | apply zj | apply zq | apply zw | refine zx ?_ (IsS97.ge HI0.out))); (case side3 => repeat (first | exact (yw HO334.out).2.2 | (with_reducible refine jq ?_ _) | (with_reducible refine jj ?_ _) | (with_reducible refine jw ?_))); (case side4 => exact (yw HO334.out).2.1); (case side5 => exact far_slice (IsS97.own_ne HI0.out HO334.out (by decide))); rintro e w9 ⟨rfl, hi, hb, hk⟩; refine ⟨_, rfl, ?_⟩; have n0_ := zz (yj (Kd.R_keep (IsS97.apart (show IsS97 w0 _ g s0_0 t330 t331 from by repeat (with_reducible first | exact HI0.out | apply IsS97.alloc | apply IsS97.drewN | apply IsS97.drew | apply IsS97.set_1 | apply IsS97.set_2)) (by (with_reducible repeat (first | apply qk | apply qv | apply jz)); exact HO334.out) (by decide)) hk (fun _ h => h.2)) (fun _ h => h.1)); have n1_ := zz (KeepBut.trans (by repeat (with_reducible first | exact HK.out | apply KeepBut.set_ | apply keep_drewN | apply keep_drew | apply keep_alloc)) hk (.inl rfl)); have n2_ := zz (hb); have n3_ := zz (hi); clear HO334; clear HK; clear HB; clear HI0; have HO334 := n0_; have HK := n1_; have HB := n2_; have HI0 := n3_; clear n0_ n1_ n2_ n3_; (try clear hb); (try clear hi hk)))
  go_ret
  exact ⟨by first | rfl | (simp <;> rfl) | (simp [*] <;> rfl), by repeat (with_reducible first | exact HI0.out | apply IsS97.alloc | apply IsS97.drewN | apply IsS97.drew | apply IsS97.set_1 | apply IsS97.set_2), by repeat (with_reducible first | exact HB.out | apply zj | apply zq | apply zw | refine zx ?_ (IsS97.ge HI0.out)), by repeat (with_reducible first | exact HK.out | apply KeepBut.set_ | apply keep_drewN | apply keep_drew | apply keep_alloc)⟩
 ·replace c3 := Bool.eq_false_iff.mpr c3
  subst c3
  have H1 : ((spec_l1Cur_pick.f s0_0 t330 t331 6).bind fun bt338 => (some (wrap64 (1 + bt338.1), bt338.2.1, bt338.2.2))) = some (r1, r2, r3) := by rw [if_neg (show ¬ (false = true) by decide)] at H; exact H
  clear H
  have H := H1
  clear H1
  replace H := Option.bind_eq_some_iff.mp H
  obtain ⟨⟨t338, t339, t340⟩, A100, H⟩ := H
  replace H : (some (wrap64 (1 + t338), t339, t340)) = some (r1, r2, r3) := H
  have A10 := zz A100
  clear A100
  simp only [Option.some.injEq, Prod.mk.injEq] at H
  obtain ⟨rfl, rfl, rfl⟩ := H
  go_enter Try.func89, Try.ntmps89
  go_wp2_with (first | ((with_reducible refine yz (f := 143) rfl ?_); refine vq (some 4) rfl rfl Try.func143 (by kernel_rfl) rfl #[.pointer (some ⟨g, 0, none⟩), .int .i64 8] rfl (by (try simp only [jx, List.map_cons, List.map_nil]); first | done | rfl) ?_; (with_reducible refine (spec_l1Cur_one.calls g s0_0 s0_1 s0_2 8 false t330 t331 w0 _ ?side1 ?side2 A2.out).mono ?_); (case side1 => repeat (with_reducible first | exact HI0.out | apply IsS97.alloc | apply IsS97.drewN | apply IsS97.drew | apply IsS97.set_1 | apply IsS97.set_2)); (case side2 => repeat (with_reducible first | exact HB.out | apply zj | apply zq | apply zw | refine zx ?_ (IsS97.ge HI0.out))); rintro e w11 ⟨rfl, hi, hb, hk⟩; refine ⟨_, rfl, ?_⟩; have n0_ := zz (KeepBut.trans (by repeat (with_reducible first | exact HK.out | apply KeepBut.set_ | apply keep_drewN | apply keep_drew | apply keep_alloc)) hk (.inl rfl)); have n1_ := zz (hb); have n2_ := zz (hi); clear HK; clear HB; clear HI0; have HK := n0_; have HB := n1_; have HI0 := n2_; clear n0_ n1_ n2_; (try clear hb); (try clear hi hk)) | ((with_reducible refine yz (f := 88) rfl ?_); refine vq (some 9) rfl rfl Try.func88 (by kernel_rfl) rfl #[.pointer (some ⟨g, 0, none⟩), .int .i64 6] rfl (by (try simp only [jx, List.map_cons, List.map_nil]); first | done | rfl) ?_; (with_reducible refine (spec_l1Cur_pick.calls g s0_0 t330 t331 6 t338 t339 t340 w0 _ ?side1 ?side2 A10.out).mono ?_); (case side1 => repeat (with_reducible first | exact HI0.out | apply IsS97.alloc | apply IsS97.drewN | apply IsS97.drew | apply IsS97.set_1 | apply IsS97.set_2)); (case side2 => repeat (with_reducible first | exact HB.out | apply zj | apply zq | apply zw | refine zx ?_ (IsS97.ge HI0.out))); rintro e w12 ⟨rfl, hi, hb, hk⟩; refine ⟨_, rfl, ?_⟩; have n0_ := zz (KeepBut.trans (by repeat (with_reducible first | exact HK.out | apply KeepBut.set_ | apply keep_drewN | apply keep_drew | apply keep_alloc)) hk (.inl rfl)); have n1_ := zz (hb); have n2_ := zz (hi); clear HK; clear HB; clear HI0; have HK := n0_; have HB := n1_; have HI0 := n2_; clear n0_ n1_ n2_; (try clear hb); (try clear hi hk)))
  go_ret
  exact ⟨by first | rfl | (simp <;> rfl) | (simp [*] <;> rfl), by repeat (with_reducible first | exact HI0.out | apply IsS97.alloc | apply IsS97.drewN | apply IsS97.drew | apply IsS97.set_1 | apply IsS97.set_2), by repeat (with_reducible first | exact HB.out | apply zj | apply zq | apply zw | refine zx ?_ (IsS97.ge HI0.out)), by repeat (with_reducible first | exact HK.out | apply KeepBut.set_ | apply keep_drewN | apply keep_drew | apply keep_alloc)⟩
mutual
def spec_l1Cur_coefs.l0 : Nat → List Int → Int → List Int → Int → Int → Option (List Int × Int × Int)
 | 0, _, _, _, _, _ => none
 | k + 1, x3, x4, x1000, x1001, x1002 => if x4 > 0 then ((spec_l1Cur_pick.f x1000 x1001 x1002 7).bind fun bt344 => (if x3.length < 17592186044416 then (spec_l1Cur_coefs.l0 k (x3 ++ [wrap64 (bt344.1 - 3)]) (wrap64 (x4 - 1)) x1000 bt344.2.1 bt344.2.2) else (none))) else ((spec_l1Cur_pick.f x1000 x1001 x1002 12).bind fun bt350 => (if bt350.1 = 0 then ((spec_l1Cur_among.f x1000 bt350.2.1 bt350.2.2 (([(-1000000), 1000000, (-1000001), 1000001] : List Int))).bind fun bt356 => (if x3.length < 17592186044416 then (some ((x3 ++ [bt356.1]), bt356.2.1, bt356.2.2)) else (none))) else (if bt350.1 = 1 then (spec_l1Cur_coefs.l1 k x3 x1000 bt350.2.1 bt350.2.2) else (if bt350.1 = 2 then (some (([] : List Int), bt350.2.1, bt350.2.2)) else (if bt350.1 = 3 then ((spec_l1Cur_pick.f x1000 bt350.2.1 bt350.2.2 (x3.length : Int)).bind fun bt371 => ((spec_l1Cur_pick.f x1000 bt371.2.1 bt371.2.2 2000000).bind fun bt374 => (if 0 ≤ bt371.1 then (if bt371.1 < (x3.length : Int) then (some ((x3.set (bt371.1 : Int).toNat (wrap64 (bt374.1 - 1000000))), bt374.2.1, bt374.2.2)) else (none)) else (none)))) else (some (x3, bt350.2.1, bt350.2.2)))))))
def spec_l1Cur_coefs.l1 : Nat → List Int → List Int → Int → Int → Option (List Int × Int × Int)
 | 0, _, _, _, _ => none
 | k + 1, x3, x1000, x1001, x1002 => (spec_l1Cur_pick.f x1000 x1001 x1002 2).bind fun bt362 => (if (x3.length : Int) < (wrap64 (17 + bt362.1)) then ((spec_l1Cur_pick.f x1000 bt362.2.1 bt362.2.2 3).bind fun bt365 => (if x3.length < 17592186044416 then (spec_l1Cur_coefs.l1 k (x3 ++ [bt365.1]) x1000 bt365.2.1 bt365.2.2) else (none))) else (some (x3, bt362.2.1, bt362.2.2)))
end
def spec_l1Cur_coefs.f (k : Nat) (s0_0 : List Int) (s0_1 : Int) (s0_2 : Int) : Option (List Int × Int × Int) := (spec_l1Cur_pick.f s0_0 s0_1 s0_2 7).bind fun bt341 => (spec_l1Cur_coefs.l0 k ([] : List Int) (wrap64 (1 + bt341.1)) s0_0 bt341.2.1 bt341.2.2)
theorem spec_l1Cur_coefs.mono_l : ∀ k, (∀ y0 y1 y2 y3 y4, LeO (spec_l1Cur_coefs.l0 k y0 y1 y2 y3 y4) (spec_l1Cur_coefs.l0 (k + 1) y0 y1 y2 y3 y4)) ∧ (∀ y0 y1 y2 y3, LeO (spec_l1Cur_coefs.l1 k y0 y1 y2 y3) (spec_l1Cur_coefs.l1 (k + 1) y0 y1 y2 y3))
 | 0 => ⟨fun _ _ _ _ _ r h => by simp [spec_l1Cur_coefs.l0] at h, fun _ _ _ _ r h => by simp [spec_l1Cur_coefs.l1] at h⟩
 | k + 1 => by
  obtain ⟨ih0, ih1⟩ := spec_l1Cur_coefs.mono_l k
  refine ⟨?_, ?_⟩
  ·intro y0 y1 y2 y3 y4
   unfold spec_l1Cur_coefs.l0
   repeat' with_reducible first
   | exact ih0 _ _ _ _ _
   | exact ih1 _ _ _ _
   | exact yv _
   | exact LeO.none _
   | refine LeO.ite ?_ ?_
   | refine yk ?_ (fun _ => ?_)
  ·intro y0 y1 y2 y3
   unfold spec_l1Cur_coefs.l1
   repeat' with_reducible first
   | exact ih0 _ _ _ _ _
   | exact ih1 _ _ _ _
   | exact yv _
   | exact LeO.none _
   | refine LeO.ite ?_ ?_
   | refine yk ?_ (fun _ => ?_)
theorem spec_l1Cur_coefs.mono : ∀ a0 a1 a2 k, LeO (spec_l1Cur_coefs.f k a0 a1 a2) (spec_l1Cur_coefs.f (k + 1) a0 a1 a2) := by
 intro a0 a1 a2 k
 obtain ⟨ih0, ih1⟩ := spec_l1Cur_coefs.mono_l k
 unfold spec_l1Cur_coefs.f
 repeat' with_reducible first
   | exact ih0 _ _ _ _ _
   | exact ih1 _ _ _ _
   | exact yv _
   | exact LeO.none _
   | refine LeO.ite ?_ ?_
   | refine yk ?_ (fun _ => ?_)
set_option maxHeartbeats 8000000 in
set_option maxRecDepth 100000 in
theorem spec_l1Cur_coefs.calls (k : Nat) (g : Nat) (s0_0 : List Int) (s0_1 : Int) (s0_2 : Int) (r1 : List Int) (r2 : Int) (r3 : Int) (w0 w : World) (hI : IsS97 w0 w g s0_0 s0_1 s0_2) (hB : Below w0.heap.size w0 w) (h : spec_l1Cur_coefs.f k s0_0 s0_1 s0_2 = some (r1, r2, r3)) :
  Calls Try.prog 127 #[.pointer (some ⟨g, 0, none⟩)] w fun e w' => ∃ v0_ : Value, e = .returned (v0_) ∧ Kd.R (Kd.int .i64) 3 w' w.heap.size (fun _ => True) v0_ r1 ∧ IsS97 w0 w' g s0_0 r2 r3 ∧ Below w0.heap.size w0 w' ∧ KeepBut w w' g none := by
 have HI0 := zz hI
 have HK := zz (KeepBut.refl w g none)
 have HL := zz hB.size
 clear hI
 have HW0 := zz hB.size
 have HB := zz hB
 clear hB
 have H : ((spec_l1Cur_pick.f s0_0 s0_1 s0_2 7).bind fun bt341 => (spec_l1Cur_coefs.l0 k ([] : List Int) (wrap64 (1 + bt341.1)) s0_0 bt341.2.1 bt341.2.2)) = some (r1, r2, r3) := h
 clear h
 replace H := Option.bind_eq_some_iff.mp H
 obtain ⟨⟨t341, t342, t343⟩, A20, H⟩ := H
 replace H : (spec_l1Cur_coefs.l0 k ([] : List Int) (wrap64 (1 + t341)) s0_0 t342 t343) = some (r1, r2, r3) := H
 have A2 := zz A20
 clear A20
 have H' := zz H
 clear H
 go_enter Try.func127, Try.ntmps127
 go_wp2_with (first | ((with_reducible refine yz (f := 88) rfl ?_); refine vq (some 6) rfl rfl Try.func88 (by kernel_rfl) rfl #[.pointer (some ⟨g, 0, none⟩), .int .i64 7] rfl (by (try simp only [jx, List.map_cons, List.map_nil]); first | done | rfl) ?_; (with_reducible refine (spec_l1Cur_pick.calls g s0_0 s0_1 s0_2 7 t341 t342 t343 w0 _ ?side1 ?side2 A2.out).mono ?_); (case side1 => repeat (with_reducible first | exact HI0.out | apply IsS97.alloc | apply IsS97.drewN | apply IsS97.drew | apply IsS97.set_1 | apply IsS97.set_2)); (case side2 => repeat (with_reducible first | exact HB.out | apply zj | apply zq | apply zw | refine zx ?_ (IsS97.ge HI0.out))); rintro e w3 ⟨rfl, hi, hb, hk⟩; refine ⟨_, rfl, ?_⟩; have n0_ := zz (KeepBut.trans (by repeat (with_reducible first | exact HK.out | apply KeepBut.set_ | apply keep_drewN | apply keep_drew | apply keep_alloc)) hk (.inl rfl)); have n1_ := zz (hb); have n2_ := zz (hi); clear HK; clear HB; clear HI0; have HK := n0_; have HB := n1_; have HI0 := n2_; clear n0_ n1_ n2_; (try clear hb); (try clear hi hk)))
 go_loopg [3, 4] k (fun kq v3 v4 w' => ∃ (x3_1 : List Int) (x4_1 : Int) (x1001_1 : Int) (x1002_1 : Int), v4 = .int .i64 x4_1 ∧ Aside0 (spec_l1Cur_coefs.l0 kq x3_1 x4_1 s0_0 x1001_1 x1002_1 = some (r1, r2, r3)) ∧ Aside0 (kq ≤ k) ∧ Aside0 (Kd.R (Kd.int .i64) 3 w' w.heap.size (fun _ => True) v3 x3_1) ∧ Aside0 (IsS97 w0 w' g s0_0 x1001_1 x1002_1) ∧ Aside0 (KeepBut w w' g none) ∧ Aside0 (Below w0.heap.size w0 w'))
 case atStart => exact ⟨(([] : List Int)), (wrap64 (1 + t341)), (t342), (t343), (by first | rfl | (simp; done) | (simp [*]; done)), H', ⟨Nat.le_refl _⟩, ⟨by first | exact Kd.R_nil _ _ _ _ _ | exact Kd.N_nil _ _ _ _ _ | exact Kd.V_nil _ _ _ _ _ | exact Kd.Q_nil _ _ _ _ _ | exact Kd.S_nil _ _ _ _ _⟩, ⟨by repeat (with_reducible first | exact HI0.out | apply IsS97.alloc | apply IsS97.drewN | apply IsS97.drew | apply IsS97.set_1 | apply IsS97.set_2)⟩, ⟨by repeat (with_reducible first | exact HK.out | apply KeepBut.set_ | apply keep_drewN | apply keep_drew | apply keep_alloc)⟩, ⟨by repeat (with_reducible first | exact HB.out | apply zj | apply zq | apply zw | refine zx ?_ (IsS97.ge HI0.out))⟩⟩
 case round =>
  clear H'
  try clear c1
  try clear p2
  obtain ⟨x3_1, x4_1, x1001_1, x1002_1, rfl, HA, HK1, HO_3, HI0, HK, HB⟩ := hrel
  cases gk with
  | zero => exact absurd HA.out (by simp [spec_l1Cur_coefs.l0])
  | succ k1 =>
   have H := HA.out
   clear HA
   simp only [spec_l1Cur_coefs.l0] at H
   by_cases c4 : x4_1 > 0
   ·rw [if_pos c4] at H
    have c4b0 : decide (0 < x4_1) = true := decide_eq_true c4
    clear c4
    replace H := Option.bind_eq_some_iff.mp H
    obtain ⟨⟨t344, t345, t346⟩, A50, H⟩ := H
    replace H : (if x3_1.length < 17592186044416 then (spec_l1Cur_coefs.l0 k1 (x3_1 ++ [wrap64 (t344 - 3)]) (wrap64 (x4_1 - 1)) s0_0 t345 t346) else (none)) = some (r1, r2, r3) := H
    have A5 := zz A50
    clear A50
    by_cases c6 : x3_1.length < 17592186044416
    ·rw [if_pos c6] at H
     have LMc6 := zz c6
     clear c6
     obtain ⟨y347, hy347⟩ : ∃ y_ : List Int, y_ = (x3_1 ++ [wrap64 (t344 - 3)]) := ⟨_, rfl⟩
     replace H : (spec_l1Cur_coefs.l0 k1 y347 (wrap64 (x4_1 - 1)) s0_0 t345 t346) = some (r1, r2, r3) := by first | (rw [hy347]; with_reducible exact H) | (have H2_ := (Option.bind_some _ _).symm.trans H; rw [hy347]; with_reducible exact H2_) | (have H2_ := (Option.bind_some _ _).symm.trans H; with_reducible exact H2_) | with_reducible exact H | (rw [hy347]; exact H) | exact H
     have Ny347 := zz hy347
     clear hy347
     have H' := zz H
     clear H
     go_wp2_with (first | ((with_reducible refine yz (f := 88) rfl ?_); refine vq (some 14) rfl rfl Try.func88 (by kernel_rfl) rfl #[.pointer (some ⟨g, 0, none⟩), .int .i64 7] rfl (by (try simp only [jx, List.map_cons, List.map_nil]); first | done | rfl) ?_; (with_reducible refine (spec_l1Cur_pick.calls g s0_0 x1001_1 x1002_1 7 t344 t345 t346 w0 _ ?side1 ?side2 A5.out).mono ?_); (case side1 => repeat (with_reducible first | exact HI0.out | apply IsS97.alloc | apply IsS97.drewN | apply IsS97.drew | apply IsS97.set_1 | apply IsS97.set_2)); (case side2 => repeat (with_reducible first | exact HB.out | apply zj | apply zq | apply zw | refine zx ?_ (IsS97.ge HI0.out))); rintro e w7 ⟨rfl, hi, hb, hk⟩; refine ⟨_, rfl, ?_⟩; have n0_ := zz (yj (Kd.R_keep (IsS97.apart (show IsS97 w0 _ g s0_0 x1001_1 x1002_1 from by repeat (with_reducible first | exact HI0.out | apply IsS97.alloc | apply IsS97.drewN | apply IsS97.drew | apply IsS97.set_1 | apply IsS97.set_2)) (by (with_reducible repeat (first | apply qk | apply qv | apply jz)); exact HO_3.out) (by decide)) hk (fun _ h => h.2)) (fun _ h => h.1)); have n1_ := zz (KeepBut.trans (by repeat (with_reducible first | exact HK.out | apply KeepBut.set_ | apply keep_drewN | apply keep_drew | apply keep_alloc)) hk (.inl rfl)); have n2_ := zz (hb); have n3_ := zz (hi); clear HO_3; clear HK; clear HB; clear HI0; have HO_3 := n0_; have HK := n1_; have HB := n2_; have HI0 := n3_; clear n0_ n1_ n2_ n3_; (try clear hb); (try clear hi hk)) | ((with_reducible refine vz (b := .append) (xs := #[.tmp 12, .tmp 16]) rfl ?_); at_builtin; refine Kd.R_append (Kd.int .i64) w.heap.size rfl (.tmp 12) (.tmp 16) 29 3 (.int .i64 0) 8 rfl Try.underlying29 info3 rfl (by decide) (by omega) u3 x3_1 (wrap64 (t344 - 3)) [.int .i64 (wrap64 (t344 - 3))] (fun _ => True) (fun _ => False) rfl rfl ?aP (fun _ hk => hk.elim) ?aF ?aO (Below.refl _ _) ?aS ?aL ?_; (case aP => exact rfl); (case aF => exact (fun _ _ => trivial)); (case aO => exact (by (with_reducible repeat (first | apply qk | apply qv | apply jz)); exact HO_3.out)); (case aS => exact (keep_size (w := w) (g := g) (row := none) (by repeat (with_reducible first | exact HK.out | apply KeepBut.set_ | apply keep_drewN | apply keep_drew | apply keep_alloc)))); (case aL => have := LMc6.out; omega); intro v348 w8 ho hb hg hat; rw [← Ny347.out] at ho; have n0_ := zz (IsS97.grown (show IsS97 w0 _ g s0_0 t345 t346 from by repeat (with_reducible first | exact HI0.out | apply IsS97.alloc | apply IsS97.drewN | apply IsS97.drew | apply IsS97.set_1 | apply IsS97.set_2)) hg (IsS97.own_ne HI0.out HO_3.out (by decide))); have n1_ := zz (below_weaken (by repeat (with_reducible first | exact HB.out | apply zj | apply zq | apply zw | refine zx ?_ (IsS97.ge HI0.out))) HL.out hb); have n2_ := zz (KeepBut.trans (by repeat (with_reducible first | exact HK.out | apply KeepBut.set_ | apply keep_drewN | apply keep_drew | apply keep_alloc)) (KeepBut.of_grown hg g) (Kd.R_base2 HO_3.out)); have n3_ := zz (ho); clear HI0; clear HB; clear HK; clear HO_3; have HI0 := n0_; have HB := n1_; have HK := n2_; have HO349 := n3_; clear n0_ n1_ n2_ n3_; clear ho hb hg hat))
     go_roundg k1
     case measure => have := HK1.out; omega
     case rel => exact ⟨(y347), (wrap64 (x4_1 - 1)), (t345), (t346), (by first | rfl | (simp; done) | (simp [*]; done)), H', ⟨by have := HK1.out; omega⟩, ⟨by (with_reducible repeat (first | apply qk | apply qv | apply jz)); exact HO349.out⟩, ⟨by repeat (with_reducible first | exact HI0.out | apply IsS97.alloc | apply IsS97.drewN | apply IsS97.drew | apply IsS97.set_1 | apply IsS97.set_2)⟩, ⟨by repeat (with_reducible first | exact HK.out | apply KeepBut.set_ | apply keep_drewN | apply keep_drew | apply keep_alloc)⟩, ⟨by repeat (with_reducible first | exact HB.out | apply zj | apply zq | apply zw | refine zx ?_ (IsS97.ge HI0.out))⟩⟩
    ·rw [if_neg c6] at H
     exact absurd H (by simp)
   ·rw [if_neg c4] at H
    have c4b0 : decide (0 < x4_1) = false := decide_eq_false c4
    clear c4
    replace H := Option.bind_eq_some_iff.mp H
    obtain ⟨⟨t350, t351, t352⟩, A90, H⟩ := H
    replace H : (if t350 = 0 then ((spec_l1Cur_among.f s0_0 t351 t352 (([(-1000000), 1000000, (-1000001), 1000001] : List Int))).bind fun bt356 => (if x3_1.length < 17592186044416 then (some ((x3_1 ++ [bt356.1]), bt356.2.1, bt356.2.2)) else (none))) else (if t350 = 1 then (spec_l1Cur_coefs.l1 k1 x3_1 s0_0 t351 t352) else (if t350 = 2 then (some (([] : List Int), t351, t352)) else (if t350 = 3 then ((spec_l1Cur_pick.f s0_0 t351 t352 (x3_1.length : Int)).bind fun bt371 => ((spec_l1Cur_pick.f s0_0 bt371.2.1 bt371.2.2 2000000).bind fun bt374 => (if 0 ≤ bt371.1 then (if bt371.1 < (x3_1.length : Int) then (some ((x3_1.set (bt371.1 : Int).toNat (wrap64 (bt374.1 - 1000000))), bt374.2.1, bt374.2.2)) else (none)) else (none)))) else (some (x3_1, t351, t352)))))) = some (r1, r2, r3) := H
    have A9 := zz A90
    clear A90
    by_cases c10 : t350 = 0
    ·rw [if_pos c10] at H
     have c10b0 : (t350 == 0) = true := beq_iff_eq.mpr c10
     have c10b1 : (t350 != 0) = false := bne_eq_false_iff_eq.mpr c10
     clear c10
     obtain ⟨y353, hy353⟩ : ∃ y_ : List Int, y_ = (([(-1000000), 1000000, (-1000001), 1000001] : List Int)) := ⟨_, rfl⟩
     replace H : ((spec_l1Cur_among.f s0_0 t351 t352 y353).bind fun bt356 => (if x3_1.length < 17592186044416 then (some ((x3_1 ++ [bt356.1]), bt356.2.1, bt356.2.2)) else (none))) = some (r1, r2, r3) := by first | (rw [hy353]; with_reducible exact H) | (have H2_ := (Option.bind_some _ _).symm.trans H; rw [hy353]; with_reducible exact H2_) | (have H2_ := (Option.bind_some _ _).symm.trans H; with_reducible exact H2_) | with_reducible exact H | (rw [hy353]; exact H) | exact H
     have Ny353 := zz hy353
     clear hy353
     replace H := Option.bind_eq_some_iff.mp H
     obtain ⟨⟨t356, t357, t358⟩, A110, H⟩ := H
     replace H : (if x3_1.length < 17592186044416 then (some ((x3_1 ++ [t356]), t357, t358)) else (none)) = some (r1, r2, r3) := H
     have A11 := zz A110
     clear A110
     by_cases c12 : x3_1.length < 17592186044416
     ·rw [if_pos c12] at H
      have LMc12 := zz c12
      clear c12
      obtain ⟨y359, hy359⟩ : ∃ y_ : List Int, y_ = (x3_1 ++ [t356]) := ⟨_, rfl⟩
      replace H : (some (y359, t357, t358)) = some (r1, r2, r3) := by first | (rw [hy359]; with_reducible exact H) | (have H2_ := (Option.bind_some _ _).symm.trans H; rw [hy359]; with_reducible exact H2_) | (have H2_ := (Option.bind_some _ _).symm.trans H; with_reducible exact H2_) | with_reducible exact H | (rw [hy359]; exact H) | exact H
      have Ny359 := zz hy359
      clear hy359
      simp only [Option.some.injEq, Prod.mk.injEq] at H
      obtain ⟨rfl, rfl, rfl⟩ := H
      go_wp2_with (first | ((with_reducible refine yz (f := 88) rfl ?_); refine vq (some 19) rfl rfl Try.func88 (by kernel_rfl) rfl #[.pointer (some ⟨g, 0, none⟩), .int .i64 12] rfl (by (try simp only [jx, List.map_cons, List.map_nil]); first | done | rfl) ?_; (with_reducible refine (spec_l1Cur_pick.calls g s0_0 x1001_1 x1002_1 12 t350 t351 t352 w0 _ ?side1 ?side2 A9.out).mono ?_); (case side1 => repeat (with_reducible first | exact HI0.out | apply IsS97.alloc | apply IsS97.drewN | apply IsS97.drew | apply IsS97.set_1 | apply IsS97.set_2)); (case side2 => repeat (with_reducible first | exact HB.out | apply zj | apply zq | apply zw | refine zx ?_ (IsS97.ge HI0.out))); rintro e w13 ⟨rfl, hi, hb, hk⟩; refine ⟨_, rfl, ?_⟩; have n0_ := zz (yj (Kd.R_keep (IsS97.apart (show IsS97 w0 _ g s0_0 x1001_1 x1002_1 from by repeat (with_reducible first | exact HI0.out | apply IsS97.alloc | apply IsS97.drewN | apply IsS97.drew | apply IsS97.set_1 | apply IsS97.set_2)) (by (with_reducible repeat (first | apply qk | apply qv | apply jz)); exact HO_3.out) (by decide)) hk (fun _ h => h.2)) (fun _ h => h.1)); have n1_ := zz (KeepBut.trans (by repeat (with_reducible first | exact HK.out | apply KeepBut.set_ | apply keep_drewN | apply keep_drew | apply keep_alloc)) hk (.inl rfl)); have n2_ := zz (hb); have n3_ := zz (hi); clear HO_3; clear HK; clear HB; clear HI0; have HO_3 := n0_; have HK := n1_; have HB := n2_; have HI0 := n3_; clear n0_ n1_ n2_ n3_; (try clear hb); (try clear hi hk)) | ((with_reducible refine yq (N := 24) rfl ?_); refine Kd.R_lit (Kd.int .i64) _ 3 ?hg (N := 24) ?hd (xs := ([(-1000000), 1000000, (-1000001), 1000001] : List Int)) (inner := [.int .i64 (-1000000), .int .i64 1000000, .int .i64 (-1000001), .int .i64 1000001]) (ok := fun _ => True) (okp := fun _ => True) ?hr ?hp (fun _ hk => hk) trivial (Below.refl _ _) (Nat.le_refl _) (by simp) ?_; (case hd => rfl); (case hg => rfl); (case hr => first | (go_simp; done) | (go_simp; rfl)); (case hp => exact (Reps.one (show Kd.M (Kd.int .i64) _ _ _ (-1000000) [.int .i64 (-1000000)] from rfl) (Reps.one (show Kd.M (Kd.int .i64) _ _ _ 1000000 [.int .i64 1000000] from rfl) (Reps.one (show Kd.M (Kd.int .i64) _ _ _ (-1000001) [.int .i64 (-1000001)] from rfl) (Reps.one (show Kd.M (Kd.int .i64) _ _ _ 1000001 [.int .i64 1000001] from rfl) (Reps.none _ _)))))); intro v354 w14 ho15 hb hg_ hnew_; clear hg_ hnew_; (first | rw [← Ny353.out] at ho15 | (simp only [Int.reduceToNat] at ho15; rw [← Ny353.out] at ho15)); have n0_ := zz (Kd.R_elder' (by (with_reducible repeat (first | apply qk | apply qv | apply jz)); exact HO_3.out) (Kd.R_base ho15) hb); have n1_ := zz (Kd.R_lower (Kd.R_new' ho15 (Kd.R_lt (by (with_reducible repeat (first | apply qk | apply qv | apply jz)); exact HO_3.out))) (keep_size (w := w) (g := g) (row := none) (by repeat (with_reducible first | exact HK.out | apply KeepBut.set_ | apply keep_drewN | apply keep_drew | apply keep_alloc)))); have n2_ := zz (IsS97.below (by repeat (with_reducible first | exact HI0.out | apply IsS97.alloc | apply IsS97.drewN | apply IsS97.drew | apply IsS97.set_1 | apply IsS97.set_2)) hb); have n3_ := zz (KeepBut.trans (by repeat (with_reducible first | exact HK.out | apply KeepBut.set_ | apply keep_drewN | apply keep_drew | apply keep_alloc)) (KeepBut.of_below hb g none) (.inl rfl)); have n4_ := zz (zk (by repeat (with_reducible first | exact HB.out | apply zj | apply zq | apply zw | refine zx ?_ (IsS97.ge HI0.out))) hb); clear HO_3; clear HI0; clear HK; clear HB; have HO_3 := n0_; have HO355 := n1_; have HI0 := n2_; have HK := n3_; have HB := n4_; clear n0_ n1_ n2_ n3_ n4_; clear hb ho15; obtain ⟨Ao16, co16, eo16⟩ := yx HO355.out; subst eo16) | ((with_reducible refine yz (f := 178) rfl ?_); refine vq (some 25) rfl rfl Try.func178 (by kernel_rfl) rfl #[.pointer (some ⟨g, 0, none⟩), .slice Ao16 y353.length co16] rfl (by (try simp only [jx, List.map_cons, List.map_nil]); first | done | rfl) ?_; (with_reducible refine (spec_l1Cur_among.calls g s0_0 t351 t352 _ _ y353 t356 t357 t358 w0 _ ?side1 ?side2 ?side3 ?side4 ?side5 A11.out).mono ?_); (case side1 => repeat (with_reducible first | exact HI0.out | apply IsS97.alloc | apply IsS97.drewN | apply IsS97.drew | apply IsS97.set_1 | apply IsS97.set_2)); (case side2 => repeat (with_reducible first | exact HB.out | apply zj | apply zq | apply zw | refine zx ?_ (IsS97.ge HI0.out))); (case side3 => repeat (first | exact (yw HO355.out).2.2 | (with_reducible refine jq ?_ _) | (with_reducible refine jj ?_ _) | (with_reducible refine jw ?_))); (case side4 => exact (yw HO355.out).2.1); (case side5 => exact far_slice (IsS97.own_ne HI0.out HO355.out (by decide))); rintro e w17 ⟨rfl, hi, hb, hk⟩; refine ⟨_, rfl, ?_⟩; have n0_ := zz (yj (Kd.R_keep (IsS97.apart (show IsS97 w0 _ g s0_0 t351 t352 from by repeat (with_reducible first | exact HI0.out | apply IsS97.alloc | apply IsS97.drewN | apply IsS97.drew | apply IsS97.set_1 | apply IsS97.set_2)) (by (with_reducible repeat (first | apply qk | apply qv | apply jz)); exact HO_3.out) (by decide)) hk (fun _ h => h.2)) (fun _ h => h.1)); have n1_ := zz (yj (Kd.R_keep (IsS97.apart (show IsS97 w0 _ g s0_0 t351 t352 from by repeat (with_reducible first | exact HI0.out | apply IsS97.alloc | apply IsS97.drewN | apply IsS97.drew | apply IsS97.set_1 | apply IsS97.set_2)) (by (with_reducible repeat (first | apply qk | apply qv | apply jz)); exact HO355.out) (by decide)) hk (fun _ h => h.2)) (fun _ h => h.1)); have n2_ := zz (KeepBut.trans (by repeat (with_reducible first | exact HK.out | apply KeepBut.set_ | apply keep_drewN | apply keep_drew | apply keep_alloc)) hk (.inl rfl)); have n3_ := zz (hb); have n4_ := zz (hi); clear HO_3; clear HO355; clear HK; clear HB; clear HI0; have HO_3 := n0_; have HO355 := n1_; have HK := n2_; have HB := n3_; have HI0 := n4_; clear n0_ n1_ n2_ n3_ n4_; (try clear hb); (try clear hi hk)) | ((with_reducible refine vz (b := .append) (xs := #[.tmp 22, .tmp 26]) rfl ?_); at_builtin; refine Kd.R_append (Kd.int .i64) w.heap.size rfl (.tmp 22) (.tmp 26) 29 3 (.int .i64 0) 8 rfl Try.underlying29 info3 rfl (by decide) (by omega) u3 x3_1 t356 [.int .i64 t356] (fun k_ => some k_ ≠ (.slice Ao16 y353.length co16 : Value).ownBlock) (fun _ => False) rfl rfl ?aP (fun _ hk => hk.elim) ?aF ?aO (Below.refl _ _) ?aS ?aL ?_; (case aP => exact rfl); (case aF => exact (fun k_ hk => Kd.fresh' (Kd.R_lt (by (with_reducible repeat (first | apply qk | apply qv | apply jz)); exact HO355.out)) k_ hk)); (case aO => exact (by (with_reducible repeat (first | apply qk | apply qv | apply jz)); exact yj HO_3.out (fun _ hk => hk.2))); (case aS => exact (keep_size (w := w) (g := g) (row := none) (by repeat (with_reducible first | exact HK.out | apply KeepBut.set_ | apply keep_drewN | apply keep_drew | apply keep_alloc)))); (case aL => have := LMc12.out; omega); intro v360 w18 ho hb hg hat; rw [← Ny359.out] at ho; have n0_ := zz (IsS97.grown (show IsS97 w0 _ g s0_0 t357 t358 from by repeat (with_reducible first | exact HI0.out | apply IsS97.alloc | apply IsS97.drewN | apply IsS97.drew | apply IsS97.set_1 | apply IsS97.set_2)) hg (IsS97.own_ne HI0.out HO_3.out (by decide))); have n1_ := zz (Kd.R_after (ok := (fun _ => True)) (by (with_reducible repeat (first | apply qk | apply qv | apply jz)); exact HO355.out) hg hat); have n2_ := zz (below_weaken (by repeat (with_reducible first | exact HB.out | apply zj | apply zq | apply zw | refine zx ?_ (IsS97.ge HI0.out))) HL.out hb); have n3_ := zz (KeepBut.trans (by repeat (with_reducible first | exact HK.out | apply KeepBut.set_ | apply keep_drewN | apply keep_drew | apply keep_alloc)) (KeepBut.of_grown hg g) (Kd.R_base2 HO_3.out)); have n4_ := zz (ho); clear HI0; clear HO355; clear HB; clear HK; clear HO_3; have HI0 := n0_; have HO355 := n1_; have HB := n2_; have HK := n3_; have HO361 := n4_; clear n0_ n1_ n2_ n3_ n4_; clear ho hb hg hat))
      go_ret
      exact ⟨_, by first | rfl | (simp <;> rfl) | (simp [*] <;> rfl), by (with_reducible repeat (first | apply qk | apply qv | apply jz)); exact yj HO361.out (fun _ hk => trivial), by repeat (with_reducible first | exact HI0.out | apply IsS97.alloc | apply IsS97.drewN | apply IsS97.drew | apply IsS97.set_1 | apply IsS97.set_2), by repeat (with_reducible first | exact HB.out | apply zj | apply zq | apply zw | refine zx ?_ (IsS97.ge HI0.out)), by repeat (with_reducible first | exact HK.out | apply KeepBut.set_ | apply keep_drewN | apply keep_drew | apply keep_alloc)⟩
     ·rw [if_neg c12] at H
      exact absurd H (by simp)
    ·rw [if_neg c10] at H
     have c10b0 : (t350 == 0) = false := beq_eq_false_iff_ne.mpr c10
     have c10b1 : (t350 != 0) = true := bne_iff_ne.mpr c10
     by_cases c19 : t350 = 1
     ·rw [if_pos c19] at H
      have c19b0 : (t350 == 1) = true := beq_iff_eq.mpr c19
      have c19b1 : (t350 != 1) = false := bne_eq_false_iff_eq.mpr c19
      clear c19
      have H' := zz H
      clear H
      go_wp2_with (first | ((with_reducible refine yz (f := 88) rfl ?_); refine vq (some 19) rfl rfl Try.func88 (by kernel_rfl) rfl #[.pointer (some ⟨g, 0, none⟩), .int .i64 12] rfl (by (try simp only [jx, List.map_cons, List.map_nil]); first | done | rfl) ?_; (with_reducible refine (spec_l1Cur_pick.calls g s0_0 x1001_1 x1002_1 12 t350 t351 t352 w0 _ ?side1 ?side2 A9.out).mono ?_); (case side1 => repeat (with_reducible first | exact HI0.out | apply IsS97.alloc | apply IsS97.drewN | apply IsS97.drew | apply IsS97.set_1 | apply IsS97.set_2)); (case side2 => repeat (with_reducible first | exact HB.out | apply zj | apply zq | apply zw | refine zx ?_ (IsS97.ge HI0.out))); rintro e w20 ⟨rfl, hi, hb, hk⟩; refine ⟨_, rfl, ?_⟩; have n0_ := zz (yj (Kd.R_keep (IsS97.apart (show IsS97 w0 _ g s0_0 x1001_1 x1002_1 from by repeat (with_reducible first | exact HI0.out | apply IsS97.alloc | apply IsS97.drewN | apply IsS97.drew | apply IsS97.set_1 | apply IsS97.set_2)) (by (with_reducible repeat (first | apply qk | apply qv | apply jz)); exact HO_3.out) (by decide)) hk (fun _ h => h.2)) (fun _ h => h.1)); have n1_ := zz (KeepBut.trans (by repeat (with_reducible first | exact HK.out | apply KeepBut.set_ | apply keep_drewN | apply keep_drew | apply keep_alloc)) hk (.inl rfl)); have n2_ := zz (hb); have n3_ := zz (hi); clear HO_3; clear HK; clear HB; clear HI0; have HO_3 := n0_; have HK := n1_; have HB := n2_; have HI0 := n3_; clear n0_ n1_ n2_ n3_; (try clear hb); (try clear hi hk)))
      go_loopg [3] k1 (fun kq v3 w' => ∃ (x3_2 : List Int) (x1001_2 : Int) (x1002_2 : Int), Aside0 (spec_l1Cur_coefs.l1 kq x3_2 s0_0 x1001_2 x1002_2 = some (r1, r2, r3)) ∧ Aside0 (kq ≤ k1) ∧ Aside0 (Kd.R (Kd.int .i64) 3 w' w.heap.size (fun _ => True) v3 x3_2) ∧ Aside0 (IsS97 w0 w' g s0_0 x1001_2 x1002_2) ∧ Aside0 (KeepBut w w' g none) ∧ Aside0 (Below w0.heap.size w0 w'))
      case atStart => exact ⟨(x3_1), (t351), (t352), H', ⟨Nat.le_refl _⟩, ⟨by (with_reducible repeat (first | apply qk | apply qv | apply jz)); exact HO_3.out⟩, ⟨by repeat (with_reducible first | exact HI0.out | apply IsS97.alloc | apply IsS97.drewN | apply IsS97.drew | apply IsS97.set_1 | apply IsS97.set_2)⟩, ⟨by repeat (with_reducible first | exact HK.out | apply KeepBut.set_ | apply keep_drewN | apply keep_drew | apply keep_alloc)⟩, ⟨by repeat (with_reducible first | exact HB.out | apply zj | apply zq | apply zw | refine zx ?_ (IsS97.ge HI0.out))⟩⟩
      case round =>
       clear H'
       try clear c1
       try clear p2
       try clear c4
       try clear c4b0
       try clear c6
       try clear p6
       try clear c8
       try clear c10
       try clear c10b0
       try clear c10b1
       try clear c12
       try clear c17
       try clear c19
       try clear c19b0
       try clear c19b1
       try clear p2
       obtain ⟨x3_2, x1001_2, x1002_2, HA, HK2, HO_3, HI0, HK, HB⟩ := hrel
       cases gk with
       | zero => exact absurd HA.out (by simp [spec_l1Cur_coefs.l1])
       | succ k2 =>
        have H := HA.out
        clear HA
        simp only [spec_l1Cur_coefs.l1] at H
        replace H := Option.bind_eq_some_iff.mp H
        obtain ⟨⟨t362, t363, t364⟩, A210, H⟩ := H
        replace H : (if (x3_2.length : Int) < (wrap64 (17 + t362)) then ((spec_l1Cur_pick.f s0_0 t363 t364 3).bind fun bt365 => (if x3_2.length < 17592186044416 then (spec_l1Cur_coefs.l1 k2 (x3_2 ++ [bt365.1]) s0_0 bt365.2.1 bt365.2.2) else (none))) else (some (x3_2, t363, t364))) = some (r1, r2, r3) := H
        have A21 := zz A210
        clear A210
        by_cases c22 : (x3_2.length : Int) < (wrap64 (17 + t362))
        ·rw [if_pos c22] at H
         have c22b0 : decide ((x3_2.length : Int) < (wrap64 (17 + t362))) = true := decide_eq_true c22
         clear c22
         replace H := Option.bind_eq_some_iff.mp H
         obtain ⟨⟨t365, t366, t367⟩, A230, H⟩ := H
         replace H : (if x3_2.length < 17592186044416 then (spec_l1Cur_coefs.l1 k2 (x3_2 ++ [t365]) s0_0 t366 t367) else (none)) = some (r1, r2, r3) := H
         have A23 := zz A230
         clear A230
         by_cases c24 : x3_2.length < 17592186044416
         ·rw [if_pos c24] at H
          have LMc24 := zz c24
          clear c24
          obtain ⟨y368, hy368⟩ : ∃ y_ : List Int, y_ = (x3_2 ++ [t365]) := ⟨_, rfl⟩
          replace H : (spec_l1Cur_coefs.l1 k2 y368 s0_0 t366 t367) = some (r1, r2, r3) := by first | (rw [hy368]; with_reducible exact H) | (have H2_ := (Option.bind_some _ _).symm.trans H; rw [hy368]; with_reducible exact H2_) | (have H2_ := (Option.bind_some _ _).symm.trans H; with_reducible exact H2_) | with_reducible exact H | (rw [hy368]; exact H) | exact H
          have Ny368 := zz hy368
          clear hy368
          have H' := zz H
          clear H
          obtain ⟨Ao25, co25, eo25⟩ := yx HO_3.out
          subst eo25
          go_wp2_with (first | ((with_reducible refine yz (f := 88) rfl ?_); refine vq (some 33) rfl rfl Try.func88 (by kernel_rfl) rfl #[.pointer (some ⟨g, 0, none⟩), .int .i64 2] rfl (by (try simp only [jx, List.map_cons, List.map_nil]); first | done | rfl) ?_; (with_reducible refine (spec_l1Cur_pick.calls g s0_0 x1001_2 x1002_2 2 t362 t363 t364 w0 _ ?side1 ?side2 A21.out).mono ?_); (case side1 => repeat (with_reducible first | exact HI0.out | apply IsS97.alloc | apply IsS97.drewN | apply IsS97.drew | apply IsS97.set_1 | apply IsS97.set_2)); (case side2 => repeat (with_reducible first | exact HB.out | apply zj | apply zq | apply zw | refine zx ?_ (IsS97.ge HI0.out))); rintro e w26 ⟨rfl, hi, hb, hk⟩; refine ⟨_, rfl, ?_⟩; have n0_ := zz (yj (Kd.R_keep (IsS97.apart (show IsS97 w0 _ g s0_0 x1001_2 x1002_2 from by repeat (with_reducible first | exact HI0.out | apply IsS97.alloc | apply IsS97.drewN | apply IsS97.drew | apply IsS97.set_1 | apply IsS97.set_2)) (by (with_reducible repeat (first | apply qk | apply qv | apply jz)); exact HO_3.out) (by decide)) hk (fun _ h => h.2)) (fun _ h => h.1)); have n1_ := zz (KeepBut.trans (by repeat (with_reducible first | exact HK.out | apply KeepBut.set_ | apply keep_drewN | apply keep_drew | apply keep_alloc)) hk (.inl rfl)); have n2_ := zz (hb); have n3_ := zz (hi); clear HO_3; clear HK; clear HB; clear HI0; have HO_3 := n0_; have HK := n1_; have HB := n2_; have HI0 := n3_; clear n0_ n1_ n2_ n3_; (try clear hb); (try clear hi hk)) | ((with_reducible refine yz (f := 88) rfl ?_); refine vq (some 38) rfl rfl Try.func88 (by kernel_rfl) rfl #[.pointer (some ⟨g, 0, none⟩), .int .i64 3] rfl (by (try simp only [jx, List.map_cons, List.map_nil]); first | done | rfl) ?_; (with_reducible refine (spec_l1Cur_pick.calls g s0_0 t363 t364 3 t365 t366 t367 w0 _ ?side1 ?side2 A23.out).mono ?_); (case side1 => repeat (with_reducible first | exact HI0.out | apply IsS97.alloc | apply IsS97.drewN | apply IsS97.drew | apply IsS97.set_1 | apply IsS97.set_2)); (case side2 => repeat (with_reducible first | exact HB.out | apply zj | apply zq | apply zw | refine zx ?_ (IsS97.ge HI0.out))); rintro e w27 ⟨rfl, hi, hb, hk⟩; refine ⟨_, rfl, ?_⟩; have n0_ := zz (yj (Kd.R_keep (IsS97.apart (show IsS97 w0 _ g s0_0 t363 t364 from by repeat (with_reducible first | exact HI0.out | apply IsS97.alloc | apply IsS97.drewN | apply IsS97.drew | apply IsS97.set_1 | apply IsS97.set_2)) (by (with_reducible repeat (first | apply qk | apply qv | apply jz)); exact HO_3.out) (by decide)) hk (fun _ h => h.2)) (fun _ h => h.1)); have n1_ := zz (KeepBut.trans (by repeat (with_reducible first | exact HK.out | apply KeepBut.set_ | apply keep_drewN | apply keep_drew | apply keep_alloc)) hk (.inl rfl)); have n2_ := zz (hb); have n3_ := zz (hi); clear HO_3; clear HK; clear HB; clear HI0; have HO_3 := n0_; have HK := n1_; have HB := n2_; have HI0 := n3_; clear n0_ n1_ n2_ n3_; (try clear hb); (try clear hi hk)) | ((with_reducible refine vz (b := .append) (xs := #[.tmp 36, .tmp 39]) rfl ?_); at_builtin; refine Kd.R_append (Kd.int .i64) w.heap.size rfl (.tmp 36) (.tmp 39) 29 3 (.int .i64 0) 8 rfl Try.underlying29 info3 rfl (by decide) (by omega) (.slice Ao25 x3_2.length co25) x3_2 t365 [.int .i64 t365] (fun _ => True) (fun _ => False) rfl rfl ?aP (fun _ hk => hk.elim) ?aF ?aO (Below.refl _ _) ?aS ?aL ?_; (case aP => exact rfl); (case aF => exact (fun _ _ => trivial)); (case aO => exact (by (with_reducible repeat (first | apply qk | apply qv | apply jz)); exact HO_3.out)); (case aS => exact (keep_size (w := w) (g := g) (row := none) (by repeat (with_reducible first | exact HK.out | apply KeepBut.set_ | apply keep_drewN | apply keep_drew | apply keep_alloc)))); (case aL => have := LMc24.out; omega); intro v369 w28 ho hb hg hat; rw [← Ny368.out] at ho; have n0_ := zz (IsS97.grown (show IsS97 w0 _ g s0_0 t366 t367 from by repeat (with_reducible first | exact HI0.out | apply IsS97.alloc | apply IsS97.drewN | apply IsS97.drew | apply IsS97.set_1 | apply IsS97.set_2)) hg (IsS97.own_ne HI0.out HO_3.out (by decide))); have n1_ := zz (below_weaken (by repeat (with_reducible first | exact HB.out | apply zj | apply zq | apply zw | refine zx ?_ (IsS97.ge HI0.out))) HL.out hb); have n2_ := zz (KeepBut.trans (by repeat (with_reducible first | exact HK.out | apply KeepBut.set_ | apply keep_drewN | apply keep_drew | apply keep_alloc)) (KeepBut.of_grown hg g) (Kd.R_base2 HO_3.out)); have n3_ := zz (ho); clear HI0; clear HB; clear HK; clear HO_3; have HI0 := n0_; have HB := n1_; have HK := n2_; have HO370 := n3_; clear n0_ n1_ n2_ n3_; clear ho hb hg hat))
          go_roundg k2
          case measure => have := HK1.out; have := HK2.out; omega
          case rel => exact ⟨(y368), (t366), (t367), H', ⟨by have := HK1.out; have := HK2.out; omega⟩, ⟨by (with_reducible repeat (first | apply qk | apply qv | apply jz)); exact HO370.out⟩, ⟨by repeat (with_reducible first | exact HI0.out | apply IsS97.alloc | apply IsS97.drewN | apply IsS97.drew | apply IsS97.set_1 | apply IsS97.set_2)⟩, ⟨by repeat (with_reducible first | exact HK.out | apply KeepBut.set_ | apply keep_drewN | apply keep_drew | apply keep_alloc)⟩, ⟨by repeat (with_reducible first | exact HB.out | apply zj | apply zq | apply zw | refine zx ?_ (IsS97.ge HI0.out))⟩⟩
         ·rw [if_neg c24] at H
          exact absurd H (by simp)
        ·rw [if_neg c22] at H
         have c22b0 : decide ((x3_2.length : Int) < (wrap64 (17 + t362))) = false := decide_eq_false c22
         clear c22
         simp only [Option.some.injEq, Prod.mk.injEq] at H
         obtain ⟨rfl, rfl, rfl⟩ := H
         obtain ⟨Ao29, co29, eo29⟩ := yx HO_3.out
         subst eo29
         go_wp2_with (first | ((with_reducible refine yz (f := 88) rfl ?_); refine vq (some 33) rfl rfl Try.func88 (by kernel_rfl) rfl #[.pointer (some ⟨g, 0, none⟩), .int .i64 2] rfl (by (try simp only [jx, List.map_cons, List.map_nil]); first | done | rfl) ?_; (with_reducible refine (spec_l1Cur_pick.calls g s0_0 x1001_2 x1002_2 2 t362 t363 t364 w0 _ ?side1 ?side2 A21.out).mono ?_); (case side1 => repeat (with_reducible first | exact HI0.out | apply IsS97.alloc | apply IsS97.drewN | apply IsS97.drew | apply IsS97.set_1 | apply IsS97.set_2)); (case side2 => repeat (with_reducible first | exact HB.out | apply zj | apply zq | apply zw | refine zx ?_ (IsS97.ge HI0.out))); rintro e w30 ⟨rfl, hi, hb, hk⟩; refine ⟨_, rfl, ?_⟩; have n0_ := zz (yj (Kd.R_keep (IsS97.apart (show IsS97 w0 _ g s0_0 x1001_2 x1002_2 from by repeat (with_reducible first | exact HI0.out | apply IsS97.alloc | apply IsS97.drewN | apply IsS97.drew | apply IsS97.set_1 | apply IsS97.set_2)) (by (with_reducible repeat (first | apply qk | apply qv | apply jz)); exact HO_3.out) (by decide)) hk (fun _ h => h.2)) (fun _ h => h.1)); have n1_ := zz (KeepBut.trans (by repeat (with_reducible first | exact HK.out | apply KeepBut.set_ | apply keep_drewN | apply keep_drew | apply keep_alloc)) hk (.inl rfl)); have n2_ := zz (hb); have n3_ := zz (hi); clear HO_3; clear HK; clear HB; clear HI0; have HO_3 := n0_; have HK := n1_; have HB := n2_; have HI0 := n3_; clear n0_ n1_ n2_ n3_; (try clear hb); (try clear hi hk)))
         go_ret
         exact ⟨_, by first | rfl | (simp <;> rfl) | (simp [*] <;> rfl), by (with_reducible repeat (first | apply qk | apply qv | apply jz)); exact HO_3.out, by repeat (with_reducible first | exact HI0.out | apply IsS97.alloc | apply IsS97.drewN | apply IsS97.drew | apply IsS97.set_1 | apply IsS97.set_2), by repeat (with_reducible first | exact HB.out | apply zj | apply zq | apply zw | refine zx ?_ (IsS97.ge HI0.out)), by repeat (with_reducible first | exact HK.out | apply KeepBut.set_ | apply keep_drewN | apply keep_drew | apply keep_alloc)⟩
     ·rw [if_neg c19] at H
      have c19b0 : (t350 == 1) = false := beq_eq_false_iff_ne.mpr c19
      have c19b1 : (t350 != 1) = true := bne_iff_ne.mpr c19
      by_cases c31 : t350 = 2
      ·rw [if_pos c31] at H
       have c31b0 : (t350 == 2) = true := beq_iff_eq.mpr c31
       have c31b1 : (t350 != 2) = false := bne_eq_false_iff_eq.mpr c31
       clear c31
       simp only [Option.some.injEq, Prod.mk.injEq] at H
       obtain ⟨rfl, rfl, rfl⟩ := H
       go_wp2_with (first | ((with_reducible refine yz (f := 88) rfl ?_); refine vq (some 19) rfl rfl Try.func88 (by kernel_rfl) rfl #[.pointer (some ⟨g, 0, none⟩), .int .i64 12] rfl (by (try simp only [jx, List.map_cons, List.map_nil]); first | done | rfl) ?_; (with_reducible refine (spec_l1Cur_pick.calls g s0_0 x1001_1 x1002_1 12 t350 t351 t352 w0 _ ?side1 ?side2 A9.out).mono ?_); (case side1 => repeat (with_reducible first | exact HI0.out | apply IsS97.alloc | apply IsS97.drewN | apply IsS97.drew | apply IsS97.set_1 | apply IsS97.set_2)); (case side2 => repeat (with_reducible first | exact HB.out | apply zj | apply zq | apply zw | refine zx ?_ (IsS97.ge HI0.out))); rintro e w32 ⟨rfl, hi, hb, hk⟩; refine ⟨_, rfl, ?_⟩; have n0_ := zz (yj (Kd.R_keep (IsS97.apart (show IsS97 w0 _ g s0_0 x1001_1 x1002_1 from by repeat (with_reducible first | exact HI0.out | apply IsS97.alloc | apply IsS97.drewN | apply IsS97.drew | apply IsS97.set_1 | apply IsS97.set_2)) (by (with_reducible repeat (first | apply qk | apply qv | apply jz)); exact HO_3.out) (by decide)) hk (fun _ h => h.2)) (fun _ h => h.1)); have n1_ := zz (KeepBut.trans (by repeat (with_reducible first | exact HK.out | apply KeepBut.set_ | apply keep_drewN | apply keep_drew | apply keep_alloc)) hk (.inl rfl)); have n2_ := zz (hb); have n3_ := zz (hi); clear HO_3; clear HK; clear HB; clear HI0; have HO_3 := n0_; have HK := n1_; have HB := n2_; have HI0 := n3_; clear n0_ n1_ n2_ n3_; (try clear hb); (try clear hi hk)))
       go_ret
       exact ⟨_, by first | rfl | (simp <;> rfl) | (simp [*] <;> rfl), by first | exact Kd.R_nil _ _ _ _ _ | exact Kd.N_nil _ _ _ _ _ | exact Kd.V_nil _ _ _ _ _ | exact Kd.Q_nil _ _ _ _ _ | exact Kd.S_nil _ _ _ _ _, by repeat (with_reducible first | exact HI0.out | apply IsS97.alloc | apply IsS97.drewN | apply IsS97.drew | apply IsS97.set_1 | apply IsS97.set_2), by repeat (with_reducible first | exact HB.out | apply zj | apply zq | apply zw | refine zx ?_ (IsS97.ge HI0.out)), by repeat (with_reducible first | exact HK.out | apply KeepBut.set_ | apply keep_drewN | apply keep_drew | apply keep_alloc)⟩
      ·rw [if_neg c31] at H
       have c31b0 : (t350 == 2) = false := beq_eq_false_iff_ne.mpr c31
       have c31b1 : (t350 != 2) = true := bne_iff_ne.mpr c31
       by_cases c33 : t350 = 3
       ·rw [if_pos c33] at H
        have c33b0 : (t350 == 3) = true := beq_iff_eq.mpr c33
        have c33b1 : (t350 != 3) = false := bne_eq_false_iff_eq.mpr c33
        clear c33
        replace H := Option.bind_eq_some_iff.mp H
        obtain ⟨⟨t371, t372, t373⟩, A340, H⟩ := H
        replace H : ((spec_l1Cur_pick.f s0_0 t372 t373 2000000).bind fun bt374 => (if 0 ≤ t371 then (if t371 < (x3_1.length : Int) then (some ((x3_1.set (t371 : Int).toNat (wrap64 (bt374.1 - 1000000))), bt374.2.1, bt374.2.2)) else (none)) else (none))) = some (r1, r2, r3) := H
        have A34 := zz A340
        clear A340
        replace H := Option.bind_eq_some_iff.mp H
        obtain ⟨⟨t374, t375, t376⟩, A350, H⟩ := H
        replace H : (if 0 ≤ t371 then (if t371 < (x3_1.length : Int) then (some ((x3_1.set (t371 : Int).toNat (wrap64 (t374 - 1000000))), t375, t376)) else (none)) else (none)) = some (r1, r2, r3) := H
        have A35 := zz A350
        clear A350
        by_cases c36 : 0 ≤ t371
        ·rw [if_pos c36] at H
         have c36b0 : decide (0 ≤ t371) = true := decide_eq_true c36
         clear c36
         by_cases c37 : t371 < (x3_1.length : Int)
         ·rw [if_pos c37] at H
          have c37b0 : decide (t371 < (x3_1.length : Int)) = true := decide_eq_true c37
          clear c37
          obtain ⟨y377, hy377⟩ : ∃ y_ : List Int, y_ = (x3_1.set (t371 : Int).toNat (wrap64 (t374 - 1000000))) := ⟨_, rfl⟩
          replace H : (some (y377, t375, t376)) = some (r1, r2, r3) := by first | (rw [hy377]; with_reducible exact H) | (have H2_ := (Option.bind_some _ _).symm.trans H; rw [hy377]; with_reducible exact H2_) | (have H2_ := (Option.bind_some _ _).symm.trans H; with_reducible exact H2_) | with_reducible exact H | (rw [hy377]; exact H) | exact H
          have Ny377 := zz hy377
          clear hy377
          simp only [Option.some.injEq, Prod.mk.injEq] at H
          obtain ⟨rfl, rfl, rfl⟩ := H
          go_wp2_with (first | ((with_reducible refine yz (f := 88) rfl ?_); refine vq (some 19) rfl rfl Try.func88 (by kernel_rfl) rfl #[.pointer (some ⟨g, 0, none⟩), .int .i64 12] rfl (by (try simp only [jx, List.map_cons, List.map_nil]); first | done | rfl) ?_; (with_reducible refine (spec_l1Cur_pick.calls g s0_0 x1001_1 x1002_1 12 t350 t351 t352 w0 _ ?side1 ?side2 A9.out).mono ?_); (case side1 => repeat (with_reducible first | exact HI0.out | apply IsS97.alloc | apply IsS97.drewN | apply IsS97.drew | apply IsS97.set_1 | apply IsS97.set_2)); (case side2 => repeat (with_reducible first | exact HB.out | apply zj | apply zq | apply zw | refine zx ?_ (IsS97.ge HI0.out))); rintro e w39 ⟨rfl, hi, hb, hk⟩; refine ⟨_, rfl, ?_⟩; have n0_ := zz (yj (Kd.R_keep (IsS97.apart (show IsS97 w0 _ g s0_0 x1001_1 x1002_1 from by repeat (with_reducible first | exact HI0.out | apply IsS97.alloc | apply IsS97.drewN | apply IsS97.drew | apply IsS97.set_1 | apply IsS97.set_2)) (by (with_reducible repeat (first | apply qk | apply qv | apply jz)); exact HO_3.out) (by decide)) hk (fun _ h => h.2)) (fun _ h => h.1)); have n1_ := zz (KeepBut.trans (by repeat (with_reducible first | exact HK.out | apply KeepBut.set_ | apply keep_drewN | apply keep_drew | apply keep_alloc)) hk (.inl rfl)); have n2_ := zz (hb); have n3_ := zz (hi); clear HO_3; clear HK; clear HB; clear HI0; have HO_3 := n0_; have HK := n1_; have HB := n2_; have HI0 := n3_; clear n0_ n1_ n2_ n3_; (try clear hb); (try clear hi hk); obtain ⟨Ao40, co40, eo40⟩ := yx HO_3.out; subst eo40) | ((with_reducible refine yz (f := 88) rfl ?_); refine vq (some 49) rfl rfl Try.func88 (by kernel_rfl) rfl #[.pointer (some ⟨g, 0, none⟩), .int .i64 (x3_1.length : Int)] rfl (by (try simp only [jx, List.map_cons, List.map_nil]); first | done | rfl) ?_; (with_reducible refine (spec_l1Cur_pick.calls g s0_0 t351 t352 (x3_1.length : Int) t371 t372 t373 w0 _ ?side1 ?side2 A34.out).mono ?_); (case side1 => repeat (with_reducible first | exact HI0.out | apply IsS97.alloc | apply IsS97.drewN | apply IsS97.drew | apply IsS97.set_1 | apply IsS97.set_2)); (case side2 => repeat (with_reducible first | exact HB.out | apply zj | apply zq | apply zw | refine zx ?_ (IsS97.ge HI0.out))); rintro e w41 ⟨rfl, hi, hb, hk⟩; refine ⟨_, rfl, ?_⟩; have n0_ := zz (yj (Kd.R_keep (IsS97.apart (show IsS97 w0 _ g s0_0 t351 t352 from by repeat (with_reducible first | exact HI0.out | apply IsS97.alloc | apply IsS97.drewN | apply IsS97.drew | apply IsS97.set_1 | apply IsS97.set_2)) (by (with_reducible repeat (first | apply qk | apply qv | apply jz)); exact HO_3.out) (by decide)) hk (fun _ h => h.2)) (fun _ h => h.1)); have n1_ := zz (KeepBut.trans (by repeat (with_reducible first | exact HK.out | apply KeepBut.set_ | apply keep_drewN | apply keep_drew | apply keep_alloc)) hk (.inl rfl)); have n2_ := zz (hb); have n3_ := zz (hi); clear HO_3; clear HK; clear HB; clear HI0; have HO_3 := n0_; have HK := n1_; have HB := n2_; have HI0 := n3_; clear n0_ n1_ n2_ n3_; (try clear hb); (try clear hi hk)) | ((with_reducible refine yz (f := 88) rfl ?_); refine vq (some 51) rfl rfl Try.func88 (by kernel_rfl) rfl #[.pointer (some ⟨g, 0, none⟩), .int .i64 2000000] rfl (by (try simp only [jx, List.map_cons, List.map_nil]); first | done | rfl) ?_; (with_reducible refine (spec_l1Cur_pick.calls g s0_0 t372 t373 2000000 t374 t375 t376 w0 _ ?side1 ?side2 A35.out).mono ?_); (case side1 => repeat (with_reducible first | exact HI0.out | apply IsS97.alloc | apply IsS97.drewN | apply IsS97.drew | apply IsS97.set_1 | apply IsS97.set_2)); (case side2 => repeat (with_reducible first | exact HB.out | apply zj | apply zq | apply zw | refine zx ?_ (IsS97.ge HI0.out))); rintro e w42 ⟨rfl, hi, hb, hk⟩; refine ⟨_, rfl, ?_⟩; have n0_ := zz (yj (Kd.R_keep (IsS97.apart (show IsS97 w0 _ g s0_0 t372 t373 from by repeat (with_reducible first | exact HI0.out | apply IsS97.alloc | apply IsS97.drewN | apply IsS97.drew | apply IsS97.set_1 | apply IsS97.set_2)) (by (with_reducible repeat (first | apply qk | apply qv | apply jz)); exact HO_3.out) (by decide)) hk (fun _ h => h.2)) (fun _ h => h.1)); have n1_ := zz (KeepBut.trans (by repeat (with_reducible first | exact HK.out | apply KeepBut.set_ | apply keep_drewN | apply keep_drew | apply keep_alloc)) hk (.inl rfl)); have n2_ := zz (hb); have n3_ := zz (hi); clear HO_3; clear HK; clear HB; clear HI0; have HO_3 := n0_; have HK := n1_; have HB := n2_; have HI0 := n3_; clear n0_ n1_ n2_ n3_; (try clear hb); (try clear hi hk); have p38 : 0 ≤ (t371 : Int) := of_decide_eq_true (by with_reducible assumption); have q38 : (t371 : Int) < ((x3_1.length : Int) : Int) := of_decide_eq_true (by with_reducible assumption); obtain ⟨go38, co38, eo38, gb38, gl38, cl38, HG38⟩ := Kd.R_form HO_3.out (by omega); (first | cases eo38 | (injection eo38 with ea_ en_ ec_; (first | subst ea_ | (injection ea_ with ea_; subst ea_)); subst ec_; clear en_)); have GB38 := zz gb38; have GG38 := zz HG38; clear gb38 gl38 HG38; obtain ⟨hx38_0, hf38_0⟩ := Kd.R_celln 0 HO_3.out (t371 : Int) p38 q38; replace p38 := eq_true p38; replace q38 := eq_true q38; obtain ⟨hy43_, hz43_⟩ := Kd.R_celln 0 HO_3.out (t371 : Int) (of_decide_eq_true (by with_reducible assumption)) (of_decide_eq_true (by with_reducible assumption)); have HP43 := Kd.R_putg HO_3.out (t371 : Int) (wrap64 (t374 - 1000000))) | ((with_reducible refine gate_store (t := 3) (p := 53) rfl ?_); refine store_event (t := 3) (p := 53) (v := ?vo_w44) (w1 := (w42.setCell ⟨go38, (t371 : Int).toNat, none⟩ (.int .i64 (wrap64 (t374 - 1000000))))) ?hg ?ho ?hn ?hr ?_; (case ho => rfl); (case hg => rfl); (case hn => rfl); (case hr => first | (go_simp; done) | (go_simp; rfl)); intro w44 hw; have hg : w42.grownBy w44 (some go38) := (by rw [hw]; exact HP43.2); have hp_ : Kd.R (Kd.int .i64) 3 w44 w.heap.size (fun _ => True) (.slice (some ⟨go38, 0, none⟩) x3_1.length co40) y377 := (by rw [hw, Ny377.out]; exact HP43.1); clear HP43; have n0_ := zz (hp_); have n1_ := zz (IsS97.grown (by repeat (with_reducible first | exact HI0.out | apply IsS97.alloc | apply IsS97.drewN | apply IsS97.drew | apply IsS97.set_1 | apply IsS97.set_2)) hg (IsS97.own_ne HI0.out HO_3.out (by decide))); have n2_ := zz ((by rw [hw]; exact zx (HB.out) (Nat.le_trans HL.out GB38.out) : Below w0.heap.size w0 w44)); have n3_ := zz (KeepBut.trans (by repeat (with_reducible first | exact HK.out | apply KeepBut.set_ | apply keep_drewN | apply keep_drew | apply keep_alloc)) (KeepBut.of_grown hg g) (Kd.R_base2 HO_3.out)); clear HO_3; clear HI0; clear HB; clear HK; have HO_3 := n0_; have HI0 := n1_; have HB := n2_; have HK := n3_; clear n0_ n1_ n2_ n3_; clear hg hw hp_))
          go_ret
          exact ⟨_, by first | rfl | (simp <;> rfl) | (simp [*] <;> rfl), by (with_reducible repeat (first | apply qk | apply qv | apply jz)); exact HO_3.out, by repeat (with_reducible first | exact HI0.out | apply IsS97.alloc | apply IsS97.drewN | apply IsS97.drew | apply IsS97.set_1 | apply IsS97.set_2), by repeat (with_reducible first | exact HB.out | apply zj | apply zq | apply zw | refine zx ?_ (IsS97.ge HI0.out)), by repeat (with_reducible first | exact HK.out | apply KeepBut.set_ | apply keep_drewN | apply keep_drew | apply keep_alloc)⟩
         ·rw [if_neg c37] at H
          exact absurd H (by simp)
        ·rw [if_neg c36] at H
         exact absurd H (by simp)
       ·rw [if_neg c33] at H
        have c33b0 : (t350 == 3) = false := beq_eq_false_iff_ne.mpr c33
        have c33b1 : (t350 != 3) = true := bne_iff_ne.mpr c33
        simp only [Option.some.injEq, Prod.mk.injEq] at H
        obtain ⟨rfl, rfl, rfl⟩ := H
        go_wp2_with (first | ((with_reducible refine yz (f := 88) rfl ?_); refine vq (some 19) rfl rfl Try.func88 (by kernel_rfl) rfl #[.pointer (some ⟨g, 0, none⟩), .int .i64 12] rfl (by (try simp only [jx, List.map_cons, List.map_nil]); first | done | rfl) ?_; (with_reducible refine (spec_l1Cur_pick.calls g s0_0 x1001_1 x1002_1 12 t350 t351 t352 w0 _ ?side1 ?side2 A9.out).mono ?_); (case side1 => repeat (with_reducible first | exact HI0.out | apply IsS97.alloc | apply IsS97.drewN | apply IsS97.drew | apply IsS97.set_1 | apply IsS97.set_2)); (case side2 => repeat (with_reducible first | exact HB.out | apply zj | apply zq | apply zw | refine zx ?_ (IsS97.ge HI0.out))); rintro e w45 ⟨rfl, hi, hb, hk⟩; refine ⟨_, rfl, ?_⟩; have n0_ := zz (yj (Kd.R_keep (IsS97.apart (show IsS97 w0 _ g s0_0 x1001_1 x1002_1 from by repeat (with_reducible first | exact HI0.out | apply IsS97.alloc | apply IsS97.drewN | apply IsS97.drew | apply IsS97.set_1 | apply IsS97.set_2)) (by (with_reducible repeat (first | apply qk | apply qv | apply jz)); exact HO_3.out) (by decide)) hk (fun _ h => h.2)) (fun _ h => h.1)); have n1_ := zz (KeepBut.trans (by repeat (with_reducible first | exact HK.out | apply KeepBut.set_ | apply keep_drewN | apply keep_drew | apply keep_alloc)) hk (.inl rfl)); have n2_ := zz (hb); have n3_ := zz (hi); clear HO_3; clear HK; clear HB; clear HI0; have HO_3 := n0_; have HK := n1_; have HB := n2_; have HI0 := n3_; clear n0_ n1_ n2_ n3_; (try clear hb); (try clear hi hk)))
        go_ret
        exact ⟨_, by first | rfl | (simp <;> rfl) | (simp [*] <;> rfl), by (with_reducible repeat (first | apply qk | apply qv | apply jz)); exact HO_3.out, by repeat (with_reducible first | exact HI0.out | apply IsS97.alloc | apply IsS97.drewN | apply IsS97.drew | apply IsS97.set_1 | apply IsS97.set_2), by repeat (with_reducible first | exact HB.out | apply zj | apply zq | apply zw | refine zx ?_ (IsS97.ge HI0.out)), by repeat (with_reducible first | exact HK.out | apply KeepBut.set_ | apply keep_drewN | apply keep_drew | apply keep_alloc)⟩
def spec_DrawGiantCode.f (k : Nat) (l0 : List Int) : Option (List Int × Int) := (spec_l1Cur_coefs.f k l0 0 0).bind fun bt379 => ((spec_l1Cur_group.f l0 bt379.2.1 bt379.2.2).bind fun bt384 => (some (bt379.1, bt384.1)))
theorem spec_DrawGiantCode.mono : ∀ a0 k, LeO (spec_DrawGiantCode.f k a0) (spec_DrawGiantCode.f (k + 1) a0) := by
 intro a0 k
 unfold spec_DrawGiantCode.f
 repeat' with_reducible first
   | exact spec_l1Cur_coefs.mono _ _ _ _
   | exact yv _
   | exact LeO.none _
   | refine LeO.ite ?_ ?_
   | refine yk ?_ (fun _ => ?_)
set_option maxHeartbeats 8000000 in
set_option maxRecDepth 100000 in
theorem spec_DrawGiantCode.calls (k : Nat) (A0 : Option Addr) (c0 : Nat) (l0 : List Int) (r1 : List Int) (r2 : Int) (w : World) (hr0 : Kd.C (Kd.int .u8) w A0 l0.length l0) (hc0 : l0.length ≤ c0) (h : spec_DrawGiantCode.f k l0 = some (r1, r2)) :
  Calls Try.prog 42 #[.slice A0 l0.length c0] w fun e w' => ∃ v0_ : Value, e = .returned (.tuple #[v0_, .int .i64 r2]) ∧ Kd.R (Kd.int .i64) 3 w' w.heap.size (fun _ => True) v0_ r1 ∧ Below w.heap.size w w' := by
 have hu97 := Try.underlying97
 have HR0 := zz hr0
 have HC0 := zz hc0
 clear hr0 hc0
 have HB := zz (Below.refl w.heap.size w)
 have H : ((spec_l1Cur_coefs.f k l0 0 0).bind fun bt379 => ((spec_l1Cur_group.f l0 bt379.2.1 bt379.2.2).bind fun bt384 => (some (bt379.1, bt384.1)))) = some (r1, r2) := h
 clear h
 replace H := Option.bind_eq_some_iff.mp H
 obtain ⟨⟨t379, t382, t383⟩, A20, H⟩ := H
 replace H : ((spec_l1Cur_group.f l0 t382 t383).bind fun bt384 => (some (t379, bt384.1))) = some (r1, r2) := H
 have A2 := zz A20
 clear A20
 replace H := Option.bind_eq_some_iff.mp H
 obtain ⟨⟨t384, t385, t386⟩, A30, H⟩ := H
 replace H : (some (t379, t384)) = some (r1, r2) := H
 have A3 := zz A30
 clear A30
 simp only [Option.some.injEq, Prod.mk.injEq] at H
 obtain ⟨rfl, rfl⟩ := H
 go_enter Try.func42, Try.ntmps42
 go_wp2_with (first | ((with_reducible refine yq (N := 7) rfl ?_); refine box_event ?hg (N := 7) ?hd (cs := #[.slice A0 l0.length c0, .int .i64 0, .int .u64 0]) (t := 97) ?hr ?_; (case hd => rfl); (case hg => rfl); (case hr => first | (go_simp; done) | (go_simp; rfl)); intro gb378 hg w4 hbox hb; have n0_ := zz (zk (by repeat (with_reducible first | exact HB.out | apply zj | apply zq | apply zw)) hb); have n1_ := zz ((by rw [hg]; exact (zv (by repeat (with_reducible first | exact HB.out | apply zj | apply zq | apply zw))) : w.heap.size ≤ gb378)); have n2_ := zz ((by rw [hg]; exact (zv (by repeat (with_reducible first | exact HB.out | apply zj | apply zq | apply zw))) : w.heap.size ≤ gb378)); have n3_ := zz ((show IsS97 w _ gb378 l0 0 0 from ⟨A0, c0, hbox, (by rw [hg]; exact (zv (by repeat (with_reducible first | exact HB.out | apply zj | apply zq | apply zw))) : w.heap.size ≤ gb378), HR0.out⟩)); clear HB; have HB := n0_; have GW378 := n1_; have GE378 := n2_; have HI378 := n3_; clear n0_ n1_ n2_ n3_; clear hb hbox hg) | ((with_reducible refine yz (f := 127) rfl ?_); refine vq (some 9) rfl rfl Try.func127 (by kernel_rfl) rfl #[.pointer (some ⟨gb378, 0, none⟩)] rfl (by (try simp only [jx, List.map_cons, List.map_nil]); first | done | rfl) ?_; (with_reducible refine (spec_l1Cur_coefs.calls k gb378 l0 0 0 t379 t382 t383 w _ ?side1 ?side2 A2.out).mono ?_); (case side1 => repeat (with_reducible first | exact HI378.out | apply IsS97.alloc | apply IsS97.drewN | apply IsS97.drew | apply IsS97.set_1 | apply IsS97.set_2)); (case side2 => repeat (with_reducible first | exact HB.out | apply zj | apply zq | apply zw | refine zx ?_ (IsS97.ge HI378.out))); rintro e w5 ⟨v380, rfl, ho0, hi, hb, hk⟩; refine ⟨_, rfl, ?_⟩; have n0_ := zz (Kd.R_lower ho0 (zv (by repeat (with_reducible first | exact HB.out | apply zj | apply zq | apply zw | refine zx ?_ (IsS97.ge HI378.out))))); have n1_ := zz (hb); have n2_ := zz (hi); clear HB; clear HI378; have HO381 := n0_; have HB := n1_; have HI378 := n2_; clear n0_ n1_ n2_; (try clear hb); (try clear hi hk); (try clear ho0)) | ((with_reducible refine yz (f := 89) rfl ?_); refine vq (some 11) rfl rfl Try.func89 (by kernel_rfl) rfl #[.pointer (some ⟨gb378, 0, none⟩)] rfl (by (try simp only [jx, List.map_cons, List.map_nil]); first | done | rfl) ?_; (with_reducible refine (spec_l1Cur_group.calls gb378 l0 t382 t383 t384 t385 t386 w _ ?side1 ?side2 A3.out).mono ?_); (case side1 => repeat (with_reducible first | exact HI378.out | apply IsS97.alloc | apply IsS97.drewN | apply IsS97.drew | apply IsS97.set_1 | apply IsS97.set_2)); (case side2 => repeat (with_reducible first | exact HB.out | apply zj | apply zq | apply zw | refine zx ?_ (IsS97.ge HI378.out))); rintro e w6 ⟨rfl, hi, hb, hk⟩; refine ⟨_, rfl, ?_⟩; have n0_ := zz (yj (Kd.R_keep (IsS97.apart (show IsS97 w _ gb378 l0 t382 t383 from by repeat (with_reducible first | exact HI378.out | apply IsS97.alloc | apply IsS97.drewN | apply IsS97.drew | apply IsS97.set_1 | apply IsS97.set_2)) (by (with_reducible repeat (first | apply qk | apply qv | apply jz)); exact HO381.out) (by decide)) hk (fun _ h => h.2)) (fun _ h => h.1)); have n1_ := zz (hb); have n2_ := zz (hi); clear HO381; clear HB; clear HI378; have HO381 := n0_; have HB := n1_; have HI378 := n2_; clear n0_ n1_ n2_; (try clear hb); (try clear hi hk)))
 go_ret2
 exact ⟨_, by first | rfl | (simp <;> rfl) | (simp [*] <;> rfl), by (with_reducible repeat (first | apply qk | apply qv | apply jz)); exact HO381.out, by repeat (with_reducible first | exact HB.out | apply zj | apply zq | apply zw | refine zx ?_ (IsS97.ge HI378.out))⟩
def spec_l1Cur_argument.f (s0_0 : List Int) (s0_1 : Int) (s0_2 : Int) : Option (Int × Int × Int) := (spec_l1Cur_one.f s0_0 s0_1 s0_2 6).bind fun bt387 => (if bt387.1 = true then ((spec_l1Cur_among.f s0_0 bt387.2.1 bt387.2.2 (([(-1000001), (-1000000), 1000000, 1000001] : List Int))).bind fun bt393 => (some (bt393.1, bt393.2.1, bt393.2.2))) else ((spec_l1Cur_pick.f s0_0 bt387.2.1 bt387.2.2 60).bind fun bt396 => (some (wrap64 (bt396.1 - 30), bt396.2.1, bt396.2.2))))
set_option maxHeartbeats 8000000 in
set_option maxRecDepth 100000 in
theorem spec_l1Cur_argument.calls (g : Nat) (s0_0 : List Int) (s0_1 : Int) (s0_2 : Int) (r1 : Int) (r2 : Int) (r3 : Int) (w0 w : World) (hI : IsS97 w0 w g s0_0 s0_1 s0_2) (hB : Below w0.heap.size w0 w) (h : spec_l1Cur_argument.f s0_0 s0_1 s0_2 = some (r1, r2, r3)) :
  Calls Try.prog 128 #[.pointer (some ⟨g, 0, none⟩)] w fun e w' => e = .returned (.int .i64 r1) ∧ IsS97 w0 w' g s0_0 r2 r3 ∧ Below w0.heap.size w0 w' ∧ KeepBut w w' g none := by
 have HI0 := zz hI
 have HK := zz (KeepBut.refl w g none)
 have HL := zz hB.size
 clear hI
 have HW0 := zz hB.size
 have HB := zz hB
 clear hB
 have H : ((spec_l1Cur_one.f s0_0 s0_1 s0_2 6).bind fun bt387 => (if bt387.1 = true then ((spec_l1Cur_among.f s0_0 bt387.2.1 bt387.2.2 (([(-1000001), (-1000000), 1000000, 1000001] : List Int))).bind fun bt393 => (some (bt393.1, bt393.2.1, bt393.2.2))) else ((spec_l1Cur_pick.f s0_0 bt387.2.1 bt387.2.2 60).bind fun bt396 => (some (wrap64 (bt396.1 - 30), bt396.2.1, bt396.2.2))))) = some (r1, r2, r3) := h
 clear h
 replace H := Option.bind_eq_some_iff.mp H
 obtain ⟨⟨t387, t388, t389⟩, A20, H⟩ := H
 replace H : (if t387 = true then ((spec_l1Cur_among.f s0_0 t388 t389 (([(-1000001), (-1000000), 1000000, 1000001] : List Int))).bind fun bt393 => (some (bt393.1, bt393.2.1, bt393.2.2))) else ((spec_l1Cur_pick.f s0_0 t388 t389 60).bind fun bt396 => (some (wrap64 (bt396.1 - 30), bt396.2.1, bt396.2.2)))) = some (r1, r2, r3) := H
 have A2 := zz A20
 clear A20
 by_cases c3 : t387 = true
 ·subst c3
  have H1 : ((spec_l1Cur_among.f s0_0 t388 t389 (([(-1000001), (-1000000), 1000000, 1000001] : List Int))).bind fun bt393 => (some (bt393.1, bt393.2.1, bt393.2.2))) = some (r1, r2, r3) := by rw [if_pos rfl] at H; exact H
  clear H
  have H := H1
  clear H1
  obtain ⟨y390, hy390⟩ : ∃ y_ : List Int, y_ = (([(-1000001), (-1000000), 1000000, 1000001] : List Int)) := ⟨_, rfl⟩
  replace H : ((spec_l1Cur_among.f s0_0 t388 t389 y390).bind fun bt393 => (some (bt393.1, bt393.2.1, bt393.2.2))) = some (r1, r2, r3) := by first | (rw [hy390]; with_reducible exact H) | (have H2_ := (Option.bind_some _ _).symm.trans H; rw [hy390]; with_reducible exact H2_) | (have H2_ := (Option.bind_some _ _).symm.trans H; with_reducible exact H2_) | with_reducible exact H | (rw [hy390]; exact H) | exact H
  have Ny390 := zz hy390
  clear hy390
  replace H := Option.bind_eq_some_iff.mp H
  obtain ⟨⟨t393, t394, t395⟩, A40, H⟩ := H
  replace H : (some (t393, t394, t395)) = some (r1, r2, r3) := H
  have A4 := zz A40
  clear A40
  simp only [Option.some.injEq, Prod.mk.injEq] at H
  obtain ⟨rfl, rfl, rfl⟩ := H
  go_enter Try.func128, Try.ntmps128
  go_wp2_with (first | ((with_reducible refine yz (f := 143) rfl ?_); refine vq (some 4) rfl rfl Try.func143 (by kernel_rfl) rfl #[.pointer (some ⟨g, 0, none⟩), .int .i64 6] rfl (by (try simp only [jx, List.map_cons, List.map_nil]); first | done | rfl) ?_; (with_reducible refine (spec_l1Cur_one.calls g s0_0 s0_1 s0_2 6 true t388 t389 w0 _ ?side1 ?side2 A2.out).mono ?_); (case side1 => repeat (with_reducible first | exact HI0.out | apply IsS97.alloc | apply IsS97.drewN | apply IsS97.drew | apply IsS97.set_1 | apply IsS97.set_2)); (case side2 => repeat (with_reducible first | exact HB.out | apply zj | apply zq | apply zw | refine zx ?_ (IsS97.ge HI0.out))); rintro e w5 ⟨rfl, hi, hb, hk⟩; refine ⟨_, rfl, ?_⟩; have n0_ := zz (KeepBut.trans (by repeat (with_reducible first | exact HK.out | apply KeepBut.set_ | apply keep_drewN | apply keep_drew | apply keep_alloc)) hk (.inl rfl)); have n1_ := zz (hb); have n2_ := zz (hi); clear HK; clear HB; clear HI0; have HK := n0_; have HB := n1_; have HI0 := n2_; clear n0_ n1_ n2_; (try clear hb); (try clear hi hk)) | ((with_reducible refine yq (N := 6) rfl ?_); refine Kd.R_lit (Kd.int .i64) _ 3 ?hg (N := 6) ?hd (xs := ([(-1000001), (-1000000), 1000000, 1000001] : List Int)) (inner := [.int .i64 (-1000001), .int .i64 (-1000000), .int .i64 1000000, .int .i64 1000001]) (ok := fun _ => True) (okp := fun _ => True) ?hr ?hp (fun _ hk => hk) trivial (Below.refl _ _) (Nat.le_refl _) (by simp) ?_; (case hd => rfl); (case hg => rfl); (case hr => first | (go_simp; done) | (go_simp; rfl)); (case hp => exact (Reps.one (show Kd.M (Kd.int .i64) _ _ _ (-1000001) [.int .i64 (-1000001)] from rfl) (Reps.one (show Kd.M (Kd.int .i64) _ _ _ (-1000000) [.int .i64 (-1000000)] from rfl) (Reps.one (show Kd.M (Kd.int .i64) _ _ _ 1000000 [.int .i64 1000000] from rfl) (Reps.one (show Kd.M (Kd.int .i64) _ _ _ 1000001 [.int .i64 1000001] from rfl) (Reps.none _ _)))))); intro v391 w6 ho7 hb hg_ hnew_; clear hg_ hnew_; (first | rw [← Ny390.out] at ho7 | (simp only [Int.reduceToNat] at ho7; rw [← Ny390.out] at ho7)); have n0_ := zz (Kd.R_lower ho7 (keep_size (w := w) (g := g) (row := none) (by repeat (with_reducible first | exact HK.out | apply KeepBut.set_ | apply keep_drewN | apply keep_drew | apply keep_alloc)))); have n1_ := zz (IsS97.below (by repeat (with_reducible first | exact HI0.out | apply IsS97.alloc | apply IsS97.drewN | apply IsS97.drew | apply IsS97.set_1 | apply IsS97.set_2)) hb); have n2_ := zz (KeepBut.trans (by repeat (with_reducible first | exact HK.out | apply KeepBut.set_ | apply keep_drewN | apply keep_drew | apply keep_alloc)) (KeepBut.of_below hb g none) (.inl rfl)); have n3_ := zz (zk (by repeat (with_reducible first | exact HB.out | apply zj | apply zq | apply zw | refine zx ?_ (IsS97.ge HI0.out))) hb); clear HI0; clear HK; clear HB; have HO392 := n0_; have HI0 := n1_; have HK := n2_; have HB := n3_; clear n0_ n1_ n2_ n3_; clear hb ho7; obtain ⟨Ao8, co8, eo8⟩ := yx HO392.out; subst eo8) | ((with_reducible refine yz (f := 178) rfl ?_); refine vq (some 7) rfl rfl Try.func178 (by kernel_rfl) rfl #[.pointer (some ⟨g, 0, none⟩), .slice Ao8 y390.length co8] rfl (by (try simp only [jx, List.map_cons, List.map_nil]); first | done | rfl) ?_; (with_reducible refine (spec_l1Cur_among.calls g s0_0 t388 t389 _ _ y390 t393 t394 t395 w0 _ ?side1 ?side2 ?side3 ?side4 ?side5 A4.out).mono ?_); (case side1 => repeat (with_reducible first | exact HI0.out | apply IsS97.alloc | apply IsS97.drewN | apply IsS97.drew | apply IsS97.set_1 | apply IsS97.set_2)); (case side2 => repeat (with_reducible first | exact HB.out | apply zj | apply zq | apply zw | refine zx ?_ (IsS97.ge HI0.out))); (case side3 => repeat (first | exact (yw HO392.out).2.2 | (with_reducible refine jq ?_ _) | (with_reducible refine jj ?_ _) | (with_reducible refine jw ?_))); (case side4 => exact (yw HO392.out).2.1); (case side5 => exact far_slice (IsS97.own_ne HI0.out HO392.out (by decide))); rintro e w9 ⟨rfl, hi, hb, hk⟩; refine ⟨_, rfl, ?_⟩; have n0_ := zz (yj (Kd.R_keep (IsS97.apart (show IsS97 w0 _ g s0_0 t388 t389 from by repeat (with_reducible first | exact HI0.out | apply IsS97.alloc | apply IsS97.drewN | apply IsS97.drew | apply IsS97.set_1 | apply IsS97.set_2)) (by (with_reducible repeat (first | apply qk | apply qv | apply jz)); exact HO392.out) (by decide)) hk (fun _ h => h.2)) (fun _ h => h.1)); have n1_ := zz (KeepBut.trans (by repeat (with_reducible first | exact HK.out | apply KeepBut.set_ | apply keep_drewN | apply keep_drew | apply keep_alloc)) hk (.inl rfl)); have n2_ := zz (hb); have n3_ := zz (hi); clear HO392; clear HK; clear HB; clear HI0; have HO392 := n0_; have HK := n1_; have HB := n2_; have HI0 := n3_; clear n0_ n1_ n2_ n3_; (try clear hb); (try clear hi hk)))
  go_ret
  exact ⟨by first | rfl | (simp <;> rfl) | (simp [*] <;> rfl), by repeat (with_reducible first | exact HI0.out | apply IsS97.alloc | apply IsS97.drewN | apply IsS97.drew | apply IsS97.set_1 | apply IsS97.set_2), by repeat (with_reducible first | exact HB.out | apply zj | apply zq | apply zw | refine zx ?_ (IsS97.ge HI0.out)), by repeat (with_reducible first | exact HK.out | apply KeepBut.set_ | apply keep_drewN | apply keep_drew | apply keep_alloc)⟩
 ·replace c3 := Bool.eq_false_iff.mpr c3
  subst c3
  have H1 : ((spec_l1Cur_pick.f s0_0 t388 t389 60).bind fun bt396 => (some (wrap64 (bt396.1 - 30), bt396.2.1, bt396.2.2))) = some (r1, r2, r3) := by rw [if_neg (show ¬ (false = true) by decide)] at H; exact H
  clear H
  have H := H1
  clear H1
  replace H := Option.bind_eq_some_iff.mp H
  obtain ⟨⟨t396, t397, t398⟩, A100, H⟩ := H
  replace H : (some (wrap64 (t396 - 30), t397, t398)) = some (r1, r2, r3) := H
  have A10 := zz A100
  clear A100
  simp only [Option.some.injEq, Prod.mk.injEq] at H
  obtain ⟨rfl, rfl, rfl⟩ := H
  go_enter Try.func128, Try.ntmps128
  go_wp2_with (first | ((with_reducible refine yz (f := 143) rfl ?_); refine vq (some 4) rfl rfl Try.func143 (by kernel_rfl) rfl #[.pointer (some ⟨g, 0, none⟩), .int .i64 6] rfl (by (try simp only [jx, List.map_cons, List.map_nil]); first | done | rfl) ?_; (with_reducible refine (spec_l1Cur_one.calls g s0_0 s0_1 s0_2 6 false t388 t389 w0 _ ?side1 ?side2 A2.out).mono ?_); (case side1 => repeat (with_reducible first | exact HI0.out | apply IsS97.alloc | apply IsS97.drewN | apply IsS97.drew | apply IsS97.set_1 | apply IsS97.set_2)); (case side2 => repeat (with_reducible first | exact HB.out | apply zj | apply zq | apply zw | refine zx ?_ (IsS97.ge HI0.out))); rintro e w11 ⟨rfl, hi, hb, hk⟩; refine ⟨_, rfl, ?_⟩; have n0_ := zz (KeepBut.trans (by repeat (with_reducible first | exact HK.out | apply KeepBut.set_ | apply keep_drewN | apply keep_drew | apply keep_alloc)) hk (.inl rfl)); have n1_ := zz (hb); have n2_ := zz (hi); clear HK; clear HB; clear HI0; have HK := n0_; have HB := n1_; have HI0 := n2_; clear n0_ n1_ n2_; (try clear hb); (try clear hi hk)) | ((with_reducible refine yz (f := 88) rfl ?_); refine vq (some 9) rfl rfl Try.func88 (by kernel_rfl) rfl #[.pointer (some ⟨g, 0, none⟩), .int .i64 60] rfl (by (try simp only [jx, List.map_cons, List.map_nil]); first | done | rfl) ?_; (with_reducible refine (spec_l1Cur_pick.calls g s0_0 t388 t389 60 t396 t397 t398 w0 _ ?side1 ?side2 A10.out).mono ?_); (case side1 => repeat (with_reducible first | exact HI0.out | apply IsS97.alloc | apply IsS97.drewN | apply IsS97.drew | apply IsS97.set_1 | apply IsS97.set_2)); (case side2 => repeat (with_reducible first | exact HB.out | apply zj | apply zq | apply zw | refine zx ?_ (IsS97.ge HI0.out))); rintro e w12 ⟨rfl, hi, hb, hk⟩; refine ⟨_, rfl, ?_⟩; have n0_ := zz (KeepBut.trans (by repeat (with_reducible first | exact HK.out | apply KeepBut.set_ | apply keep_drewN | apply keep_drew | apply keep_alloc)) hk (.inl rfl)); have n1_ := zz (hb); have n2_ := zz (hi); clear HK; clear HB; clear HI0; have HK := n0_; have HB := n1_; have HI0 := n2_; clear n0_ n1_ n2_; (try clear hb); (try clear hi hk)))
  go_ret
  exact ⟨by first | rfl | (simp <;> rfl) | (simp [*] <;> rfl), by repeat (with_reducible first | exact HI0.out | apply IsS97.alloc | apply IsS97.drewN | apply IsS97.drew | apply IsS97.set_1 | apply IsS97.set_2), by repeat (with_reducible first | exact HB.out | apply zj | apply zq | apply zw | refine zx ?_ (IsS97.ge HI0.out)), by repeat (with_reducible first | exact HK.out | apply KeepBut.set_ | apply keep_drewN | apply keep_drew | apply keep_alloc)⟩
end Go.Proofs.Ytlmoemahamneoaa.PFnSchemesAgree
