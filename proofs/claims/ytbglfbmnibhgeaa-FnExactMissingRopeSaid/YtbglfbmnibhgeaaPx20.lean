-- Written by gprint.py (own program, over the printer of the kit) out of the translation. Lean checks it.
import Derived.Test.YtbglfbmnibhgeaaPx0
import Derived.Test.YtbglfbmnibhgeaaPx2
import Derived.Test.YtbglfbmnibhgeaaPx5
import Derived.Test.YtbglfbmnibhgeaaPx8
import Derived.Test.YtbglfbmnibhgeaaPx10
import Derived.Test.YtbglfbmnibhgeaaPx13
import Derived.Test.YtbglfbmnibhgeaaPx19
import Derived.Test.YtbglfbmnibhgeaaPx21
import Derived.Test.YtbglfbmnibhgeaaWPk
namespace Go.Proofs.Ytbglfbmnibhgeaa.P
open Go.RowKit Go.Proofs.YtbglfbmnibhgeaaW.PrintWords Go.Proofs.YtbglfbmnibhgeaaW.PrintLast Go.Proofs.YtbglfbmnibhgeaaW.PrintMore Go.Proofs.YtbglfbmnibhgeaaW.Pk
open Bool renaming true → T_, false → F_
open List renaming setIfInBounds_toArray → sT_, set_cons_zero → s0_, set_cons_succ → sS_
attribute [local go_sem] max2_int min2_int max_two min_two max_three min_three max_four min_four   -- for this text's walks alone
set_option linter.unusedVariables false
set_option linter.unusedSimpArgs false

/-! ### spec_MissingRope: function 42 -/
mutual
def spec_MissingRope.l0 : Nat → List (S45) → List (S55) → List (S55) → Int → Option ((List (S55)) × Int)
 | 0, _, _, _, _ => none
 | k + 1, x0, x1, x7, x8 => if x8 < (x1.length : Int) then (spec_MissingRope.l1 k x0 x1 x7 x8 false 0 0) else (some (x7, 0))
def spec_MissingRope.l1 : Nat → List (S45) → List (S55) → List (S55) → Int → Bool → Int → Int → Option ((List (S55)) × Int)
 | 0, _, _, _, _, _, _, _ => none
 | k + 1, x0, x1, x7, x8, x9, x10, x11 => if x11 < (x1.length : Int) then (if 0 ≤ x11 then (if 0 ≤ x8 then (if x8 < (x1.length : Int) then (if ((rd_T55 x1 x11).f0).toList = ((rd_T55 x1 x8).f0).toList then (if x9 = true then (spec_MissingRope.l1 k x0 x1 x7 x8 true (wrap64 (x10 + ((rd_T55 x1 x11).f1))) (wrap64 (x11 + 1))) else (spec_MissingRope.l1 k x0 x1 x7 x8 (decide (x11 < x8)) (wrap64 (x10 + ((rd_T55 x1 x11).f1))) (wrap64 (x11 + 1)))) else (spec_MissingRope.l1 k x0 x1 x7 x8 x9 x10 (wrap64 (x11 + 1)))) else (none)) else (none)) else (none)) else (if 0 ≤ x8 then (if x8 < (x1.length : Int) then ((spec_l23Left.f k x0 ((rd_T55 x1 x8).f0)).bind fun t533 => (if x9 = true then (spec_MissingRope.l0 k x0 x1 x7 (wrap64 (x8 + 1))) else (if x10 > t533 then (if x7.length < 5864062014805 then (spec_MissingRope.l0 k x0 x1 (x7 ++ [(⟨(rd_T55 x1 x8).f0, wrap64 (x10 - t533)⟩ : S55)]) (wrap64 (x8 + 1))) else (none)) else (spec_MissingRope.l0 k x0 x1 x7 (wrap64 (x8 + 1)))))) else (none)) else (none))
end
def spec_MissingRope.f (k : Nat) (l0 : List (S45)) (l1 : List (S55)) : Option ((List (S55)) × Int) := (spec_l23All.f k l0 l1).bind fun t524 => (if t524 = 0 then (spec_MissingRope.l0 k l0 l1 (([] : List (S55))) 0) else (some (([] : List (S55)), t524)))
theorem spec_MissingRope.mono_l : ∀ k, (∀ y0 y1 y2 y3, LeO (spec_MissingRope.l0 k y0 y1 y2 y3) (spec_MissingRope.l0 (k + 1) y0 y1 y2 y3)) ∧ (∀ y0 y1 y2 y3 y4 y5 y6, LeO (spec_MissingRope.l1 k y0 y1 y2 y3 y4 y5 y6) (spec_MissingRope.l1 (k + 1) y0 y1 y2 y3 y4 y5 y6))
 | 0 => ⟨fun _ _ _ _ r h => by simp [spec_MissingRope.l0] at h, fun _ _ _ _ _ _ _ r h => by simp [spec_MissingRope.l1] at h⟩
 | k + 1 => by
  obtain ⟨ih0, ih1⟩ := spec_MissingRope.mono_l k
  refine ⟨?_, ?_⟩
  ·intro y0 y1 y2 y3
   unfold spec_MissingRope.l0
   repeat' first
   | (with_reducible exact ih0 _ _ _ _)
   | (with_reducible exact ih1 _ _ _ _ _ _ _)
   | (with_reducible exact spec_l23All.mono _ _ _)
   | (with_reducible exact spec_l23Left.mono _ _ _)
   | (with_reducible exact LeO.refl _)
   | (with_reducible exact LeO.none _)
   | (with_reducible refine LeO.ite ?_ ?_)
   | (with_reducible refine LeO.bind ?_ (fun _ => ?_))
   | exact ih0 _ _ _ _
   | exact ih1 _ _ _ _ _ _ _
   | exact spec_l23All.mono _ _ _
   | exact spec_l23Left.mono _ _ _
   | exact LeO.none _
   | refine LeO.ite ?_ ?_
   | refine LeO.bind ?_ (fun _ => ?_)
  ·intro y0 y1 y2 y3 y4 y5 y6
   unfold spec_MissingRope.l1
   repeat' first
   | (with_reducible exact ih0 _ _ _ _)
   | (with_reducible exact ih1 _ _ _ _ _ _ _)
   | (with_reducible exact spec_l23All.mono _ _ _)
   | (with_reducible exact spec_l23Left.mono _ _ _)
   | (with_reducible exact LeO.refl _)
   | (with_reducible exact LeO.none _)
   | (with_reducible refine LeO.ite ?_ ?_)
   | (with_reducible refine LeO.bind ?_ (fun _ => ?_))
   | exact ih0 _ _ _ _
   | exact ih1 _ _ _ _ _ _ _
   | exact spec_l23All.mono _ _ _
   | exact spec_l23Left.mono _ _ _
   | exact LeO.none _
   | refine LeO.ite ?_ ?_
   | refine LeO.bind ?_ (fun _ => ?_)
theorem spec_MissingRope.mono : ∀ a0 a1 k, LeO (spec_MissingRope.f k a0 a1) (spec_MissingRope.f (k + 1) a0 a1) := by
 intro a0 a1 k
 obtain ⟨ih0, ih1⟩ := spec_MissingRope.mono_l k
 unfold spec_MissingRope.f
 repeat' first
   | (with_reducible exact ih0 _ _ _ _)
   | (with_reducible exact ih1 _ _ _ _ _ _ _)
   | (with_reducible exact spec_l23All.mono _ _ _)
   | (with_reducible exact spec_l23Left.mono _ _ _)
   | (with_reducible exact LeO.refl _)
   | (with_reducible exact LeO.none _)
   | (with_reducible refine LeO.ite ?_ ?_)
   | (with_reducible refine LeO.bind ?_ (fun _ => ?_))
   | exact ih0 _ _ _ _
   | exact ih1 _ _ _ _ _ _ _
   | exact spec_l23All.mono _ _ _
   | exact spec_l23Left.mono _ _ _
   | exact LeO.none _
   | refine LeO.ite ?_ ?_
   | refine LeO.bind ?_ (fun _ => ?_)
set_option maxHeartbeats 8000000 in
set_option maxRecDepth 100000 in
theorem spec_MissingRope.calls (k : Nat) (A0 : Option Addr) (c0 : Nat) (l0 : List (S45)) (A1 : Option Addr) (c1 : Nat) (l1 : List (S55)) (r1 : List (S55)) (r2 : Int) (w : World) (hr0 : Kd.C k45 w A0 l0.length l0) (hc0 : l0.length ≤ c0) (hr1 : Kd.C k55 w A1 l1.length l1) (hc1 : l1.length ≤ c1) (h : spec_MissingRope.f k l0 l1 = some (r1, r2)) :
  Calls Try.prog 42 #[.slice A0 l0.length c0, .slice A1 l1.length c1] w fun e w' => ∃ v0_ : Value, e = .returned (.tuple #[v0_, .int .i64 r2]) ∧ Kd.R k55 55 w' w.heap.size (fun _ => True) v0_ r1 ∧ Below w.heap.size w w' := by
 have hu55 := Try.underlying55
 have HR0 := Aside0.mk hr0
 have HC0 := Aside0.mk hc0
 clear hr0 hc0
 have HR1 := Aside0.mk hr1
 have HC1 := Aside0.mk hc1
 clear hr1 hc1
 have HB := Aside0.mk (Below.refl w.heap.size w)
 have H : ((spec_l23All.f k l0 l1).bind fun t524 => (if t524 = 0 then (spec_MissingRope.l0 k l0 l1 (([] : List (S55))) 0) else (some (([] : List (S55)), t524)))) = some (r1, r2) := h
 clear h
 replace H := Option.bind_eq_some_iff.mp H
 obtain ⟨t524, A30, H⟩ := H
 replace H : (if t524 = 0 then (spec_MissingRope.l0 k l0 l1 (([] : List (S55))) 0) else (some (([] : List (S55)), t524))) = some (r1, r2) := H
 have A3 := Aside0.mk A30
 clear A30
 by_cases c4 : t524 = 0
 ·rw [if_pos c4] at H
  have c4b0 : (t524 == 0) = true := beq_iff_eq.mpr c4
  have c4b1 : (t524 != 0) = false := bne_eq_false_iff_eq.mpr c4
  clear c4
  obtain ⟨y525, hy525⟩ : ∃ y_ : List (S55), y_ = (([] : List (S55))) := ⟨_, rfl⟩
  replace H : (spec_MissingRope.l0 k l0 l1 y525 0) = some (r1, r2) := by first | (rw [hy525]; with_reducible exact H) | (have H2_ := (Option.bind_some _ _).symm.trans H; rw [hy525]; with_reducible exact H2_) | (have H2_ := (Option.bind_some _ _).symm.trans H; with_reducible exact H2_) | with_reducible exact H | (rw [hy525]; exact H) | exact H
  have Ny525 := Aside0.mk hy525
  clear hy525
  have H' := Aside0.mk H
  clear H
  go_enter Try.func42, Try.ntmps42
  go_wp2_with (first | (go_at_call 72; (with_reducible refine (spec_l23All.calls k _ _ l0 _ _ l1 t524 _ ?side1 ?side2 ?side3 ?side4 A3.out).mono ?_); (case side1 => exact kc_ HR0.out); (case side2 => exact HC0.out); (case side3 => exact kc_ HR1.out); (case side4 => exact HC1.out); rintro e w5 ⟨rfl, hb⟩; have n0_ := Aside0.mk (below_step hb_ hb); clear HB; have HB := n0_; clear n0_; (try clear hb); (try clear hb2); (try clear hk); (try clear hi)) | ((with_reducible refine gate_dst (N := 19) rfl ?_); refine Kd.R_lit k55 _ 55 ?hg (N := 19) ?hd (xs := ([] : List (S55))) (inner := []) (ok := fun _ => True) (okp := fun _ => True) ?hr ?hp (fun _ hk => hk) trivial (Below.refl _ _) (Nat.le_refl _) (by simp) ?_; (case hd => rfl); (case hg => rfl); (case hr => first | (go_simp; done) | (go_simp; rfl)); (case hp => exact (Reps.none _ _)); intro v526 w6 ho7 hb hg_ hnew_; clear hg_ hnew_; (first | rw [← Ny525.out] at ho7 | (simp only [Int.reduceToNat] at ho7; rw [← Ny525.out] at ho7)); have n0_ := Aside0.mk (Kd.R_lower ho7 (below_size hb_)); have n1_ := Aside0.mk (below_step hb_ hb); clear HB; have HO527 := n0_; have HB := n1_; clear n0_ n1_; clear hb ho7))
  repeat (go_quiet (first | (go_at_call 72; (with_reducible refine (spec_l23All.calls k _ _ l0 _ _ l1 t524 _ ?side1 ?side2 ?side3 ?side4 A3.out).mono ?_); (case side1 => exact kc_ HR0.out); (case side2 => exact HC0.out); (case side3 => exact kc_ HR1.out); (case side4 => exact HC1.out); rintro e w5 ⟨rfl, hb⟩; have n0_ := Aside0.mk (below_step hb_ hb); clear HB; have HB := n0_; clear n0_; (try clear hb); (try clear hb2); (try clear hk); (try clear hi)) | ((with_reducible refine gate_dst (N := 19) rfl ?_); refine Kd.R_lit k55 _ 55 ?hg (N := 19) ?hd (xs := ([] : List (S55))) (inner := []) (ok := fun _ => True) (okp := fun _ => True) ?hr ?hp (fun _ hk => hk) trivial (Below.refl _ _) (Nat.le_refl _) (by simp) ?_; (case hd => rfl); (case hg => rfl); (case hr => first | (go_simp; done) | (go_simp; rfl)); (case hp => exact (Reps.none _ _)); intro v526 w6 ho7 hb hg_ hnew_; clear hg_ hnew_; (first | rw [← Ny525.out] at ho7 | (simp only [Int.reduceToNat] at ho7; rw [← Ny525.out] at ho7)); have n0_ := Aside0.mk (Kd.R_lower ho7 (below_size hb_)); have n1_ := Aside0.mk (below_step hb_ hb); clear HB; have HO527 := n0_; have HB := n1_; clear n0_ n1_; clear hb ho7)); try go_wp2_with (first | (go_at_call 72; (with_reducible refine (spec_l23All.calls k _ _ l0 _ _ l1 t524 _ ?side1 ?side2 ?side3 ?side4 A3.out).mono ?_); (case side1 => exact kc_ HR0.out); (case side2 => exact HC0.out); (case side3 => exact kc_ HR1.out); (case side4 => exact HC1.out); rintro e w5 ⟨rfl, hb⟩; have n0_ := Aside0.mk (below_step hb_ hb); clear HB; have HB := n0_; clear n0_; (try clear hb); (try clear hb2); (try clear hk); (try clear hi)) | ((with_reducible refine gate_dst (N := 19) rfl ?_); refine Kd.R_lit k55 _ 55 ?hg (N := 19) ?hd (xs := ([] : List (S55))) (inner := []) (ok := fun _ => True) (okp := fun _ => True) ?hr ?hp (fun _ hk => hk) trivial (Below.refl _ _) (Nat.le_refl _) (by simp) ?_; (case hd => rfl); (case hg => rfl); (case hr => first | (go_simp; done) | (go_simp; rfl)); (case hp => exact (Reps.none _ _)); intro v526 w6 ho7 hb hg_ hnew_; clear hg_ hnew_; (first | rw [← Ny525.out] at ho7 | (simp only [Int.reduceToNat] at ho7; rw [← Ny525.out] at ho7)); have n0_ := Aside0.mk (Kd.R_lower ho7 (below_size hb_)); have n1_ := Aside0.mk (below_step hb_ hb); clear HB; have HO527 := n0_; have HB := n1_; clear n0_ n1_; clear hb ho7)))
  go_loopg [7, 8] k (fun kq v7 v8 w' => ∃ (x7_1 : List (S55)) (x8_1 : Int), v8 = .int .i64 x8_1 ∧ Aside0 (spec_MissingRope.l0 kq l0 l1 x7_1 x8_1 = some (r1, r2)) ∧ Aside0 (kq ≤ k) ∧ Aside0 (Kd.R k55 55 w' w.heap.size (fun _ => True) v7 x7_1) ∧ Aside0 (Below w.heap.size w w'))
  case atStart => exact ⟨(y525), (0), (by first | rfl | (simp; done) | (simp [*]; done)), H', ⟨Nat.le_refl _⟩, ⟨by (with_reducible repeat (first | apply Kd.R_alloc | apply Kd.R_drewN | apply Kd.R_drew)); exact HO527.out⟩, ⟨hb_⟩⟩
  case round =>
   clear H'
   try clear c1
   try clear p2
   try clear c4
   try clear c4b0
   try clear c4b1
   obtain ⟨x7_1, x8_1, rfl, HA, HK1, HO_7, HB⟩ := hrel
   cases gk with
   | zero => exact absurd HA.out (by simp [spec_MissingRope.l0])
   | succ k1 =>
    have H := HA.out
    clear HA
    simp only [spec_MissingRope.l0] at H
    by_cases c8 : x8_1 < (l1.length : Int)
    ·rw [if_pos c8] at H
     have c8b0 : decide (x8_1 < (l1.length : Int)) = true := decide_eq_true c8
     clear c8
     have H' := Aside0.mk H
     clear H
     go_wp2
     repeat (go_quiet (fail); try go_wp2)
     go_loopg [9, 10, 11] k1 (fun kq v9 v10 v11 w' => ∃ (x9_2 : Bool) (x10_2 : Int) (x11_2 : Int), v9 = .bool x9_2 ∧ v10 = .int .i64 x10_2 ∧ v11 = .int .i64 x11_2 ∧ Aside0 (spec_MissingRope.l1 kq l0 l1 x7_1 x8_1 x9_2 x10_2 x11_2 = some (r1, r2)) ∧ Aside0 (kq ≤ k1) ∧ Aside0 (Kd.R k55 55 w' w.heap.size (fun _ => True) u7 x7_1) ∧ Aside0 (Below w.heap.size w w'))
     case atStart => exact ⟨(false), (0), (0), (by first | rfl | (simp; done) | (simp [*]; done)), (by first | rfl | (simp; done) | (simp [*]; done)), (by first | rfl | (simp; done) | (simp [*]; done)), H', ⟨Nat.le_refl _⟩, ⟨by (with_reducible repeat (first | apply Kd.R_alloc | apply Kd.R_drewN | apply Kd.R_drew)); exact HO_7.out⟩, ⟨hb_⟩⟩
     case round =>
      clear H'
      try clear c1
      try clear p2
      try clear c4
      try clear c4b0
      try clear c4b1
      try clear c8
      try clear c8b0
      try clear p2
      obtain ⟨x9_2, x10_2, x11_2, rfl, rfl, rfl, HA, HK2, HO_7, HB⟩ := hrel
      cases gk with
      | zero => exact absurd HA.out (by simp [spec_MissingRope.l1])
      | succ k2 =>
       have H := HA.out
       clear HA
       simp only [spec_MissingRope.l1] at H
       by_cases c9 : x11_2 < (l1.length : Int)
       ·rw [if_pos c9] at H
        have c9b0 : decide (x11_2 < (l1.length : Int)) = true := decide_eq_true c9
        clear c9
        by_cases c10 : 0 ≤ x11_2
        ·rw [if_pos c10] at H
         have c10b0 : decide (0 ≤ x11_2) = true := decide_eq_true c10
         clear c10
         by_cases c11 : 0 ≤ x8_1
         ·rw [if_pos c11] at H
          have c11b0 : decide (0 ≤ x8_1) = true := decide_eq_true c11
          clear c11
          by_cases c12 : x8_1 < (l1.length : Int)
          ·rw [if_pos c12] at H
           have c12b0 : decide (x8_1 < (l1.length : Int)) = true := decide_eq_true c12
           clear c12
           by_cases c13 : ((rd_T55 l1 x11_2).f0).toList = ((rd_T55 l1 x8_1).f0).toList
           ·rw [if_pos c13] at H
            have c13b0 : (((rd_T55 l1 x11_2).f0).toList == ((rd_T55 l1 x8_1).f0).toList) = true := beq_iff_eq.mpr c13
            have c13b1 : (((rd_T55 l1 x11_2).f0).toList != ((rd_T55 l1 x8_1).f0).toList) = false := bne_eq_false_iff_eq.mpr c13
            clear c13
            by_cases c14 : x9_2 = true
            ·subst c14
             have H1 : (spec_MissingRope.l1 k2 l0 l1 x7_1 x8_1 true (wrap64 (x10_2 + ((rd_T55 l1 x11_2).f1))) (wrap64 (x11_2 + 1))) = some (r1, r2) := by rw [if_pos rfl] at H; exact H
             clear H
             have H := H1
             clear H1
             have H' := Aside0.mk H
             clear H
             have p528 : 0 ≤ (x11_2 : Int) := od_
             have q528 : x11_2 < (l1.length : Int) := od_
             obtain ⟨ad528, e528, hx528_0, hx528_1⟩ := at_T55 HR1.out x11_2 p528 q528
             cases e528
             replace hx528_0 := cq_ HB hx528_0
             replace hx528_1 := cq_ HB hx528_1
             replace p528 := eq_true p528
             replace q528 := eq_true q528
             have p529 : 0 ≤ (x8_1 : Int) := od_
             have q529 : x8_1 < (l1.length : Int) := od_
             obtain ⟨ad529, e529, hx529_0, hx529_1⟩ := at_T55 HR1.out x8_1 p529 q529
             obtain rfl : ad528 = ad529 := (by injection e529)
             replace hx529_0 := cq_ HB hx529_0
             replace hx529_1 := cq_ HB hx529_1
             replace p529 := eq_true p529
             replace q529 := eq_true q529
             have p530 : 0 ≤ (x11_2 : Int) := od_
             have q530 : x11_2 < (l1.length : Int) := od_
             obtain ⟨ad530, e530, hx530_0, hx530_1⟩ := at_T55 HR1.out x11_2 p530 q530
             obtain rfl : ad528 = ad530 := (by injection e530)
             replace hx530_0 := cq_ HB hx530_0
             replace hx530_1 := cq_ HB hx530_1
             replace p530 := eq_true p530
             replace q530 := eq_true q530
             go_wp2
             repeat (go_quiet (fail); try go_wp2)
             go_roundg k2
             case measure => have := HK1.out; have := HK2.out; omega
             case rel => exact ⟨(true), (wrap64 (x10_2 + ((rd_T55 l1 x11_2).f1))), (wrap64 (x11_2 + 1)), (by first | rfl | (simp; done) | (simp [*]; done)), (by first | rfl | (simp; done) | (simp [*]; done)), (by first | rfl | (simp; done) | (simp [*]; done)), H', ⟨by have := HK1.out; have := HK2.out; omega⟩, ⟨by (with_reducible repeat (first | apply Kd.R_alloc | apply Kd.R_drewN | apply Kd.R_drew)); exact HO_7.out⟩, ⟨hb_⟩⟩
            ·replace c14 := Bool.eq_false_iff.mpr c14
             subst c14
             have H1 : (spec_MissingRope.l1 k2 l0 l1 x7_1 x8_1 (decide (x11_2 < x8_1)) (wrap64 (x10_2 + ((rd_T55 l1 x11_2).f1))) (wrap64 (x11_2 + 1))) = some (r1, r2) := by rw [if_neg (show ¬ (false = true) by decide)] at H; exact H
             clear H
             have H := H1
             clear H1
             have H' := Aside0.mk H
             clear H
             have p528 : 0 ≤ (x11_2 : Int) := od_
             have q528 : x11_2 < (l1.length : Int) := od_
             obtain ⟨ad528, e528, hx528_0, hx528_1⟩ := at_T55 HR1.out x11_2 p528 q528
             cases e528
             replace hx528_0 := cq_ HB hx528_0
             replace hx528_1 := cq_ HB hx528_1
             replace p528 := eq_true p528
             replace q528 := eq_true q528
             have p529 : 0 ≤ (x8_1 : Int) := od_
             have q529 : x8_1 < (l1.length : Int) := od_
             obtain ⟨ad529, e529, hx529_0, hx529_1⟩ := at_T55 HR1.out x8_1 p529 q529
             obtain rfl : ad528 = ad529 := (by injection e529)
             replace hx529_0 := cq_ HB hx529_0
             replace hx529_1 := cq_ HB hx529_1
             replace p529 := eq_true p529
             replace q529 := eq_true q529
             have p531 : 0 ≤ (x11_2 : Int) := od_
             have q531 : x11_2 < (l1.length : Int) := od_
             obtain ⟨ad531, e531, hx531_0, hx531_1⟩ := at_T55 HR1.out x11_2 p531 q531
             obtain rfl : ad528 = ad531 := (by injection e531)
             replace hx531_0 := cq_ HB hx531_0
             replace hx531_1 := cq_ HB hx531_1
             replace p531 := eq_true p531
             replace q531 := eq_true q531
             go_wp2
             repeat (go_quiet (fail); try go_wp2)
             go_roundg k2
             case measure => have := HK1.out; have := HK2.out; omega
             case rel => exact ⟨(decide (x11_2 < x8_1)), (wrap64 (x10_2 + ((rd_T55 l1 x11_2).f1))), (wrap64 (x11_2 + 1)), (by first | rfl | (simp; done) | (simp [*]; done)), (by first | rfl | (simp; done) | (simp [*]; done)), (by first | rfl | (simp; done) | (simp [*]; done)), H', ⟨by have := HK1.out; have := HK2.out; omega⟩, ⟨by (with_reducible repeat (first | apply Kd.R_alloc | apply Kd.R_drewN | apply Kd.R_drew)); exact HO_7.out⟩, ⟨hb_⟩⟩
           ·rw [if_neg c13] at H
            have c13b0 : (((rd_T55 l1 x11_2).f0).toList == ((rd_T55 l1 x8_1).f0).toList) = false := beq_eq_false_iff_ne.mpr c13
            have c13b1 : (((rd_T55 l1 x11_2).f0).toList != ((rd_T55 l1 x8_1).f0).toList) = true := bne_iff_ne.mpr c13
            have H' := Aside0.mk H
            clear H
            have p528 : 0 ≤ (x11_2 : Int) := od_
            have q528 : x11_2 < (l1.length : Int) := od_
            obtain ⟨ad528, e528, hx528_0, hx528_1⟩ := at_T55 HR1.out x11_2 p528 q528
            cases e528
            replace hx528_0 := cq_ HB hx528_0
            replace hx528_1 := cq_ HB hx528_1
            replace p528 := eq_true p528
            replace q528 := eq_true q528
            have p529 : 0 ≤ (x8_1 : Int) := od_
            have q529 : x8_1 < (l1.length : Int) := od_
            obtain ⟨ad529, e529, hx529_0, hx529_1⟩ := at_T55 HR1.out x8_1 p529 q529
            obtain rfl : ad528 = ad529 := (by injection e529)
            replace hx529_0 := cq_ HB hx529_0
            replace hx529_1 := cq_ HB hx529_1
            replace p529 := eq_true p529
            replace q529 := eq_true q529
            go_wp2
            repeat (go_quiet (fail); try go_wp2)
            go_roundg k2
            case measure => have := HK1.out; have := HK2.out; omega
            case rel => exact ⟨(x9_2), (x10_2), (wrap64 (x11_2 + 1)), (by first | rfl | (simp; done) | (simp [*]; done)), (by first | rfl | (simp; done) | (simp [*]; done)), (by first | rfl | (simp; done) | (simp [*]; done)), H', ⟨by have := HK1.out; have := HK2.out; omega⟩, ⟨by (with_reducible repeat (first | apply Kd.R_alloc | apply Kd.R_drewN | apply Kd.R_drew)); exact HO_7.out⟩, ⟨hb_⟩⟩
          ·rw [if_neg c12] at H
           exact absurd H (by simp)
         ·rw [if_neg c11] at H
          exact absurd H (by simp)
        ·rw [if_neg c10] at H
         exact absurd H (by simp)
       ·rw [if_neg c9] at H
        have c9b0 : decide (x11_2 < (l1.length : Int)) = false := decide_eq_false c9
        clear c9
        by_cases c15 : 0 ≤ x8_1
        ·rw [if_pos c15] at H
         have c15b0 : decide (0 ≤ x8_1) = true := decide_eq_true c15
         clear c15
         by_cases c16 : x8_1 < (l1.length : Int)
         ·rw [if_pos c16] at H
          have c16b0 : decide (x8_1 < (l1.length : Int)) = true := decide_eq_true c16
          clear c16
          replace H := Option.bind_eq_some_iff.mp H
          obtain ⟨t533, A170, H⟩ := H
          replace H : (if x9_2 = true then (spec_MissingRope.l0 k2 l0 l1 x7_1 (wrap64 (x8_1 + 1))) else (if x10_2 > t533 then (if x7_1.length < 5864062014805 then (spec_MissingRope.l0 k2 l0 l1 (x7_1 ++ [(⟨(rd_T55 l1 x8_1).f0, wrap64 (x10_2 - t533)⟩ : S55)]) (wrap64 (x8_1 + 1))) else (none)) else (spec_MissingRope.l0 k2 l0 l1 x7_1 (wrap64 (x8_1 + 1))))) = some (r1, r2) := H
          have A17 := Aside0.mk A170
          clear A170
          by_cases c18 : x9_2 = true
          ·subst c18
           have H1 : (spec_MissingRope.l0 k2 l0 l1 x7_1 (wrap64 (x8_1 + 1))) = some (r1, r2) := by rw [if_pos rfl] at H; exact H
           clear H
           have H := H1
           clear H1
           have H' := Aside0.mk H
           clear H
           have p532 : 0 ≤ (x8_1 : Int) := od_
           have q532 : x8_1 < (l1.length : Int) := od_
           obtain ⟨ad532, e532, hx532_0, hx532_1⟩ := at_T55 HR1.out x8_1 p532 q532
           cases e532
           replace hx532_0 := cq_ HB hx532_0
           replace hx532_1 := cq_ HB hx532_1
           replace p532 := eq_true p532
           replace q532 := eq_true q532
           go_wp2_with (first | (go_at_call 61; (with_reducible refine (spec_l23Left.calls k2 _ _ l0 ((rd_T55 l1 x8_1).f0) t533 _ ?side1 ?side2 A17.out).mono ?_); (case side1 => exact kc_ (Kd.C_below HR0.out HB.out)); (case side2 => exact HC0.out); rintro e w' ⟨rfl, ⟨nd, rfl⟩⟩; (try first | exact ⟨rfl, _, World.drewN_drewN _ _ _⟩ | exact ⟨rfl, _, Eq.trans (World.drewN_drewN _ _ _) (congrArg (World.drewN _) (Nat.add_assoc _ _ _))⟩)))
           repeat (go_quiet (first | (go_at_call 61; (with_reducible refine (spec_l23Left.calls k2 _ _ l0 ((rd_T55 l1 x8_1).f0) t533 _ ?side1 ?side2 A17.out).mono ?_); (case side1 => exact kc_ (Kd.C_below HR0.out HB.out)); (case side2 => exact HC0.out); rintro e w' ⟨rfl, ⟨nd, rfl⟩⟩; (try first | exact ⟨rfl, _, World.drewN_drewN _ _ _⟩ | exact ⟨rfl, _, Eq.trans (World.drewN_drewN _ _ _) (congrArg (World.drewN _) (Nat.add_assoc _ _ _))⟩))); try go_wp2_with (first | (go_at_call 61; (with_reducible refine (spec_l23Left.calls k2 _ _ l0 ((rd_T55 l1 x8_1).f0) t533 _ ?side1 ?side2 A17.out).mono ?_); (case side1 => exact kc_ (Kd.C_below HR0.out HB.out)); (case side2 => exact HC0.out); rintro e w' ⟨rfl, ⟨nd, rfl⟩⟩; (try first | exact ⟨rfl, _, World.drewN_drewN _ _ _⟩ | exact ⟨rfl, _, Eq.trans (World.drewN_drewN _ _ _) (congrArg (World.drewN _) (Nat.add_assoc _ _ _))⟩))))
           go_roundg k2
           case measure => have := HK1.out; have := HK2.out; omega
           case rel => exact ⟨(x7_1), (wrap64 (x8_1 + 1)), (by first | rfl | (simp; done) | (simp [*]; done)), H', ⟨by have := HK1.out; have := HK2.out; omega⟩, ⟨by (with_reducible repeat (first | apply Kd.R_alloc | apply Kd.R_drewN | apply Kd.R_drew)); exact HO_7.out⟩, ⟨hb_⟩⟩
          ·replace c18 := Bool.eq_false_iff.mpr c18
           subst c18
           have H1 : (if x10_2 > t533 then (if x7_1.length < 5864062014805 then (spec_MissingRope.l0 k2 l0 l1 (x7_1 ++ [(⟨(rd_T55 l1 x8_1).f0, wrap64 (x10_2 - t533)⟩ : S55)]) (wrap64 (x8_1 + 1))) else (none)) else (spec_MissingRope.l0 k2 l0 l1 x7_1 (wrap64 (x8_1 + 1)))) = some (r1, r2) := by rw [if_neg (show ¬ (false = true) by decide)] at H; exact H
           clear H
           have H := H1
           clear H1
           by_cases c19 : x10_2 > t533
           ·rw [if_pos c19] at H
            have c19b0 : decide (t533 < x10_2) = true := decide_eq_true c19
            clear c19
            by_cases c20 : x7_1.length < 5864062014805
            ·rw [if_pos c20] at H
             have LMc20 := Aside0.mk c20
             clear c20
             obtain ⟨y535, hy535⟩ : ∃ y_ : List (S55), y_ = (x7_1 ++ [(⟨(rd_T55 l1 x8_1).f0, wrap64 (x10_2 - t533)⟩ : S55)]) := ⟨_, rfl⟩
             replace H : (spec_MissingRope.l0 k2 l0 l1 y535 (wrap64 (x8_1 + 1))) = some (r1, r2) := by first | (rw [hy535]; with_reducible exact H) | (have H2_ := (Option.bind_some _ _).symm.trans H; rw [hy535]; with_reducible exact H2_) | (have H2_ := (Option.bind_some _ _).symm.trans H; with_reducible exact H2_) | with_reducible exact H | (rw [hy535]; exact H) | exact H
             have Ny535 := Aside0.mk hy535
             clear hy535
             have H' := Aside0.mk H
             clear H
             have p532 : 0 ≤ (x8_1 : Int) := od_
             have q532 : x8_1 < (l1.length : Int) := od_
             obtain ⟨ad532, e532, hx532_0, hx532_1⟩ := at_T55 HR1.out x8_1 p532 q532
             cases e532
             replace hx532_0 := cq_ HB hx532_0
             replace hx532_1 := cq_ HB hx532_1
             replace p532 := eq_true p532
             replace q532 := eq_true q532
             go_wp2_with (first | (go_at_call 61; (with_reducible refine (spec_l23Left.calls k2 _ _ l0 ((rd_T55 l1 x8_1).f0) t533 _ ?side1 ?side2 A17.out).mono ?_); (case side1 => exact kc_ (Kd.C_below HR0.out HB.out)); (case side2 => exact HC0.out); rintro e w' ⟨rfl, ⟨nd, rfl⟩⟩; (try first | exact ⟨rfl, _, World.drewN_drewN _ _ _⟩ | exact ⟨rfl, _, Eq.trans (World.drewN_drewN _ _ _) (congrArg (World.drewN _) (Nat.add_assoc _ _ _))⟩); have p534 : 0 ≤ (x8_1 : Int) := od_; have q534 : x8_1 < (l1.length : Int) := od_; obtain ⟨ad534, e534, hx534_0, hx534_1⟩ := at_T55 HR1.out x8_1 p534 q534; obtain rfl : ad532 = ad534 := (by injection e534); replace hx534_0 := cq_ HB hx534_0; replace hx534_1 := cq_ HB hx534_1; replace p534 := eq_true p534; replace q534 := eq_true q534) | ((with_reducible refine gate_builtin (b := .append) (xs := #[.tmp 70, .tmp 80]) rfl ?_); at_builtin; refine Kd.R_append k55 (w0 := w) w.heap.size rfl (.tmp 70) (.tmp 80) 33 55 (.agg #[(.string ⟨#[]⟩), (.int .i64 0)]) 24 rfl Try.underlying33 info55 rfl (by decide) (by omega) u7 x7_1 (⟨(rd_T55 l1 x8_1).f0, wrap64 (x10_2 - t533)⟩ : S55) [.string ((rd_T55 l1 x8_1).f0), .int .i64 (wrap64 (x10_2 - t533))] (fun _ => True) (fun _ => False) rfl rfl ?aP (fun _ hk => hk.elim) ?aF ?aO ?aB ?aS ?aL ?_; (case aP => exact k55_mkM _ _ _ (⟨(rd_T55 l1 x8_1).f0, wrap64 (x10_2 - t533)⟩ : S55)); (case aB => exact hb_); (case aF => exact (fun _ _ => trivial)); (case aO => exact (kr_ HO_7)); (case aS => exact (below_size hb_)); (case aL => have := LMc20.out; omega); intro v536 w21 ho hb hg hat; rw [← Ny535.out] at ho; have n0_ := Aside0.mk (hb); have n1_ := Aside0.mk (ho); clear HB; clear HO_7; have HB := n0_; have HO537 := n1_; clear n0_ n1_; clear ho hb hg hat))
             repeat (go_quiet (first | (go_at_call 61; (with_reducible refine (spec_l23Left.calls k2 _ _ l0 ((rd_T55 l1 x8_1).f0) t533 _ ?side1 ?side2 A17.out).mono ?_); (case side1 => exact kc_ (Kd.C_below HR0.out HB.out)); (case side2 => exact HC0.out); rintro e w' ⟨rfl, ⟨nd, rfl⟩⟩; (try first | exact ⟨rfl, _, World.drewN_drewN _ _ _⟩ | exact ⟨rfl, _, Eq.trans (World.drewN_drewN _ _ _) (congrArg (World.drewN _) (Nat.add_assoc _ _ _))⟩); have p534 : 0 ≤ (x8_1 : Int) := od_; have q534 : x8_1 < (l1.length : Int) := od_; obtain ⟨ad534, e534, hx534_0, hx534_1⟩ := at_T55 HR1.out x8_1 p534 q534; obtain rfl : ad532 = ad534 := (by injection e534); replace hx534_0 := cq_ HB hx534_0; replace hx534_1 := cq_ HB hx534_1; replace p534 := eq_true p534; replace q534 := eq_true q534) | ((with_reducible refine gate_builtin (b := .append) (xs := #[.tmp 70, .tmp 80]) rfl ?_); at_builtin; refine Kd.R_append k55 (w0 := w) w.heap.size rfl (.tmp 70) (.tmp 80) 33 55 (.agg #[(.string ⟨#[]⟩), (.int .i64 0)]) 24 rfl Try.underlying33 info55 rfl (by decide) (by omega) u7 x7_1 (⟨(rd_T55 l1 x8_1).f0, wrap64 (x10_2 - t533)⟩ : S55) [.string ((rd_T55 l1 x8_1).f0), .int .i64 (wrap64 (x10_2 - t533))] (fun _ => True) (fun _ => False) rfl rfl ?aP (fun _ hk => hk.elim) ?aF ?aO ?aB ?aS ?aL ?_; (case aP => exact k55_mkM _ _ _ (⟨(rd_T55 l1 x8_1).f0, wrap64 (x10_2 - t533)⟩ : S55)); (case aB => exact hb_); (case aF => exact (fun _ _ => trivial)); (case aO => exact (kr_ HO_7)); (case aS => exact (below_size hb_)); (case aL => have := LMc20.out; omega); intro v536 w21 ho hb hg hat; rw [← Ny535.out] at ho; have n0_ := Aside0.mk (hb); have n1_ := Aside0.mk (ho); clear HB; clear HO_7; have HB := n0_; have HO537 := n1_; clear n0_ n1_; clear ho hb hg hat)); try go_wp2_with (first | (go_at_call 61; (with_reducible refine (spec_l23Left.calls k2 _ _ l0 ((rd_T55 l1 x8_1).f0) t533 _ ?side1 ?side2 A17.out).mono ?_); (case side1 => exact kc_ (Kd.C_below HR0.out HB.out)); (case side2 => exact HC0.out); rintro e w' ⟨rfl, ⟨nd, rfl⟩⟩; (try first | exact ⟨rfl, _, World.drewN_drewN _ _ _⟩ | exact ⟨rfl, _, Eq.trans (World.drewN_drewN _ _ _) (congrArg (World.drewN _) (Nat.add_assoc _ _ _))⟩); have p534 : 0 ≤ (x8_1 : Int) := od_; have q534 : x8_1 < (l1.length : Int) := od_; obtain ⟨ad534, e534, hx534_0, hx534_1⟩ := at_T55 HR1.out x8_1 p534 q534; obtain rfl : ad532 = ad534 := (by injection e534); replace hx534_0 := cq_ HB hx534_0; replace hx534_1 := cq_ HB hx534_1; replace p534 := eq_true p534; replace q534 := eq_true q534) | ((with_reducible refine gate_builtin (b := .append) (xs := #[.tmp 70, .tmp 80]) rfl ?_); at_builtin; refine Kd.R_append k55 (w0 := w) w.heap.size rfl (.tmp 70) (.tmp 80) 33 55 (.agg #[(.string ⟨#[]⟩), (.int .i64 0)]) 24 rfl Try.underlying33 info55 rfl (by decide) (by omega) u7 x7_1 (⟨(rd_T55 l1 x8_1).f0, wrap64 (x10_2 - t533)⟩ : S55) [.string ((rd_T55 l1 x8_1).f0), .int .i64 (wrap64 (x10_2 - t533))] (fun _ => True) (fun _ => False) rfl rfl ?aP (fun _ hk => hk.elim) ?aF ?aO ?aB ?aS ?aL ?_; (case aP => exact k55_mkM _ _ _ (⟨(rd_T55 l1 x8_1).f0, wrap64 (x10_2 - t533)⟩ : S55)); (case aB => exact hb_); (case aF => exact (fun _ _ => trivial)); (case aO => exact (kr_ HO_7)); (case aS => exact (below_size hb_)); (case aL => have := LMc20.out; omega); intro v536 w21 ho hb hg hat; rw [← Ny535.out] at ho; have n0_ := Aside0.mk (hb); have n1_ := Aside0.mk (ho); clear HB; clear HO_7; have HB := n0_; have HO537 := n1_; clear n0_ n1_; clear ho hb hg hat)))
             go_roundg k2
             case measure => have := HK1.out; have := HK2.out; omega
             case rel => exact ⟨(y535), (wrap64 (x8_1 + 1)), (by first | rfl | (simp; done) | (simp [*]; done)), H', ⟨by have := HK1.out; have := HK2.out; omega⟩, ⟨by (with_reducible repeat (first | apply Kd.R_alloc | apply Kd.R_drewN | apply Kd.R_drew)); exact HO537.out⟩, ⟨hb_⟩⟩
            ·rw [if_neg c20] at H
             exact absurd H (by simp)
           ·rw [if_neg c19] at H
            have c19b0 : decide (t533 < x10_2) = false := decide_eq_false c19
            clear c19
            have H' := Aside0.mk H
            clear H
            have p532 : 0 ≤ (x8_1 : Int) := od_
            have q532 : x8_1 < (l1.length : Int) := od_
            obtain ⟨ad532, e532, hx532_0, hx532_1⟩ := at_T55 HR1.out x8_1 p532 q532
            cases e532
            replace hx532_0 := cq_ HB hx532_0
            replace hx532_1 := cq_ HB hx532_1
            replace p532 := eq_true p532
            replace q532 := eq_true q532
            go_wp2_with (first | (go_at_call 61; (with_reducible refine (spec_l23Left.calls k2 _ _ l0 ((rd_T55 l1 x8_1).f0) t533 _ ?side1 ?side2 A17.out).mono ?_); (case side1 => exact kc_ (Kd.C_below HR0.out HB.out)); (case side2 => exact HC0.out); rintro e w' ⟨rfl, ⟨nd, rfl⟩⟩; (try first | exact ⟨rfl, _, World.drewN_drewN _ _ _⟩ | exact ⟨rfl, _, Eq.trans (World.drewN_drewN _ _ _) (congrArg (World.drewN _) (Nat.add_assoc _ _ _))⟩)))
            repeat (go_quiet (first | (go_at_call 61; (with_reducible refine (spec_l23Left.calls k2 _ _ l0 ((rd_T55 l1 x8_1).f0) t533 _ ?side1 ?side2 A17.out).mono ?_); (case side1 => exact kc_ (Kd.C_below HR0.out HB.out)); (case side2 => exact HC0.out); rintro e w' ⟨rfl, ⟨nd, rfl⟩⟩; (try first | exact ⟨rfl, _, World.drewN_drewN _ _ _⟩ | exact ⟨rfl, _, Eq.trans (World.drewN_drewN _ _ _) (congrArg (World.drewN _) (Nat.add_assoc _ _ _))⟩))); try go_wp2_with (first | (go_at_call 61; (with_reducible refine (spec_l23Left.calls k2 _ _ l0 ((rd_T55 l1 x8_1).f0) t533 _ ?side1 ?side2 A17.out).mono ?_); (case side1 => exact kc_ (Kd.C_below HR0.out HB.out)); (case side2 => exact HC0.out); rintro e w' ⟨rfl, ⟨nd, rfl⟩⟩; (try first | exact ⟨rfl, _, World.drewN_drewN _ _ _⟩ | exact ⟨rfl, _, Eq.trans (World.drewN_drewN _ _ _) (congrArg (World.drewN _) (Nat.add_assoc _ _ _))⟩))))
            go_roundg k2
            case measure => have := HK1.out; have := HK2.out; omega
            case rel => exact ⟨(x7_1), (wrap64 (x8_1 + 1)), (by first | rfl | (simp; done) | (simp [*]; done)), H', ⟨by have := HK1.out; have := HK2.out; omega⟩, ⟨by (with_reducible repeat (first | apply Kd.R_alloc | apply Kd.R_drewN | apply Kd.R_drew)); exact HO_7.out⟩, ⟨hb_⟩⟩
         ·rw [if_neg c16] at H
          exact absurd H (by simp)
        ·rw [if_neg c15] at H
         exact absurd H (by simp)
    ·rw [if_neg c8] at H
     have c8b0 : decide (x8_1 < (l1.length : Int)) = false := decide_eq_false c8
     clear c8
     simp only [Option.some.injEq, Prod.mk.injEq] at H
     obtain ⟨rfl, rfl⟩ := H
     go_wp2
     repeat (go_quiet (fail); try go_wp2)
     go_ret2
     exact ⟨_, ew_, by (with_reducible repeat (first | apply Kd.R_alloc | apply Kd.R_drewN | apply Kd.R_drew)); exact HO_7.out, hb_⟩
 ·rw [if_neg c4] at H
  have c4b0 : (t524 == 0) = false := beq_eq_false_iff_ne.mpr c4
  have c4b1 : (t524 != 0) = true := bne_iff_ne.mpr c4
  simp only [Option.some.injEq, Prod.mk.injEq] at H
  obtain ⟨rfl, rfl⟩ := H
  go_enter Try.func42, Try.ntmps42
  go_wp2_with (first | (go_at_call 72; (with_reducible refine (spec_l23All.calls k _ _ l0 _ _ l1 t524 _ ?side1 ?side2 ?side3 ?side4 A3.out).mono ?_); (case side1 => exact kc_ HR0.out); (case side2 => exact HC0.out); (case side3 => exact kc_ HR1.out); (case side4 => exact HC1.out); rintro e w22 ⟨rfl, hb⟩; have n0_ := Aside0.mk (below_step hb_ hb); clear HB; have HB := n0_; clear n0_; (try clear hb); (try clear hb2); (try clear hk); (try clear hi)))
  repeat (go_quiet (first | (go_at_call 72; (with_reducible refine (spec_l23All.calls k _ _ l0 _ _ l1 t524 _ ?side1 ?side2 ?side3 ?side4 A3.out).mono ?_); (case side1 => exact kc_ HR0.out); (case side2 => exact HC0.out); (case side3 => exact kc_ HR1.out); (case side4 => exact HC1.out); rintro e w22 ⟨rfl, hb⟩; have n0_ := Aside0.mk (below_step hb_ hb); clear HB; have HB := n0_; clear n0_; (try clear hb); (try clear hb2); (try clear hk); (try clear hi))); try go_wp2_with (first | (go_at_call 72; (with_reducible refine (spec_l23All.calls k _ _ l0 _ _ l1 t524 _ ?side1 ?side2 ?side3 ?side4 A3.out).mono ?_); (case side1 => exact kc_ HR0.out); (case side2 => exact HC0.out); (case side3 => exact kc_ HR1.out); (case side4 => exact HC1.out); rintro e w22 ⟨rfl, hb⟩; have n0_ := Aside0.mk (below_step hb_ hb); clear HB; have HB := n0_; clear n0_; (try clear hb); (try clear hb2); (try clear hk); (try clear hi))))
  go_ret2
  exact ⟨_, ew_, by first | exact Kd.R_nil _ _ _ _ _ | exact Kd.N_nil _ _ _ _ _ | exact Kd.V_nil _ _ _ _ _ | exact Kd.Q_nil _ _ _ _ _ | exact Kd.S_nil _ _ _ _ _, hb_⟩

/-! ### impl_Want_73: function 73 -/
def impl_Want_73.go : List S55 → ByteArray → Int → Int
 | [], _, _ => -1
 | x :: xs, a, i => if x.f0.toList = a.toList then i else impl_Want_73.go xs a (i + 1)
def impl_Want_73.f (l0 : List S55) (s1_0 : ByteArray) (_s1_1 : Int) : Option Bool := some (decide (0 ≤ impl_Want_73.go l0 s1_0 0))
theorem impl_Want_73.pred (x : S55) (name : ByteArray) (b : Bool) (hq : (x.f0.toList == name.toList) = b) (B : Addr) (w : World) (hB : w.cell? B = some (.string name)) :
  Calls Try.prog 74 #[.agg #[.string x.f0, .int .i64 x.f1], .pointer (some B)] w fun e w' => e = .returned (.bool b) ∧ Below w.heap.size w w' := by
 have hlt := World.block_lt_of_cell? w _ hB
 have hne : B.block ≠ w.heap.size := by omega
 have hc : (w.alloc (.cells #[.string x.f0, .int .i64 x.f1] 55)).cell? B = some (.string name) := (World.cell?_alloc_lt w _ B hlt).trans hB
 have hu := Try.underlying55
 go_enter Try.func74, Try.ntmps74
 go_wp2
 go_ret
 exact ⟨rfl, (Below.refl _ _).alloc (Nat.le_refl _) _⟩
theorem impl_Want_73.step (l : List S55) (a : ByteArray) (j : Nat) (h : j < l.length) : impl_Want_73.go (l.drop j) a j = if (rd_T55 l j).f0.toList = a.toList then (j : Int) else impl_Want_73.go (l.drop (j + 1)) a ((j + 1 : Nat) : Int) := by
 rw [List.drop_eq_getElem_cons h, impl_Want_73.go]
 have e : rd_T55 l (j : Int) = l[j] := by
  unfold rd_T55
  rw [Int.toNat_natCast, List.getD_eq_getElem?_getD, List.getElem?_eq_getElem h]
  rfl
 rw [e]
 rfl
set_option maxHeartbeats 2000000 in
theorem impl_Want_73.loop (A0 : Option Addr) (c0 : Nat) (l0 : List S55) (name : ByteArray) (B : Addr) (w : World) (hr : Kd.C k55 w A0 l0.length l0) (hB : w.cell? B = some (.string name)) :
  Calls Try.prog 81 #[.slice A0 l0.length c0, .func (.func 74) #[] #[.pointer (some B)]] w fun e w' => e = .returned (.int .i64 (impl_Want_73.go l0 name 0)) ∧ Below w.heap.size w w' := by
 have eg : ∀ args w, (callFunc 74 args).run Try.prog w = .ok (.enter 74 args) w := enters_of Try.func74 (by kernel_rfl) rfl
 have HR := Aside0.mk hr
 have hm := hr.2.1
 have HBX := Aside0.mk hB
 have HG : Aside0 (impl_Want_73.go l0 name 0 = impl_Want_73.go (l0.drop 0) name ((0 : Nat) : Int)) := ⟨rfl⟩
 clear hr hB
 go_enter Try.func81, Try.ntmps81
 go_wp2
 go_loopg [5, 8] l0.length (fun gg _ v8 wr => ∃ j : Nat, v8 = .int .i64 (j : Int) ∧ Aside0 (j ≤ l0.length ∧ l0.length - j ≤ gg) ∧ Aside0 (impl_Want_73.go l0 name 0 = impl_Want_73.go (l0.drop j) name (j : Int)) ∧ Aside0 (Below w.heap.size w wr))
 case atStart => exact ⟨0, rfl, ⟨Nat.zero_le _, by omega⟩, HG, ⟨Below.refl _ _⟩⟩
 case round =>
  clear HG
  obtain ⟨j, rfl, HJ, HG, HB⟩ := hrel
  by_cases hlt : j < l0.length
  ·have p0 : (0 : Int) ≤ (j : Int) := Int.natCast_nonneg j
   have q0 : (j : Int) < (l0.length : Int) := by omega
   obtain ⟨ad, e0, hx0, hx1⟩ := at_T55 HR.out (j : Int) p0 q0
   cases e0
   replace hx0 := cq_ HB hx0
   replace hx1 := cq_ HB hx1
   have HG2 := Aside0.mk (HG.out.trans (impl_Want_73.step l0 name j hlt))
   clear HG
   have hBw : wr.cell? B = some (.string name) := (HB.out.cell (World.block_lt_of_cell? w _ HBX.out)).trans HBX.out
   rw [Int.toNat_natCast] at hx0 hx1
   cases hq : ((rd_T55 l0 (j : Int)).f0.toList == name.toList) with
   | true =>
    have hcall := impl_Want_73.pred (rd_T55 l0 (j : Int)) name true hq B wr hBw
    have HC := Aside0.mk hcall
    have HV : Aside0 (impl_Want_73.go l0 name 0 = (j : Int)) := ⟨by rw [HG2.out, if_pos (by simpa using hq)]⟩
    clear hcall hq hBw HG2
    go_wp2_with (go_at_fn 74; refine HC.out.mono ?_; rintro e w' ⟨rfl, hb⟩)
    go_ret
    exact ⟨by rw [HV.out]; rfl, HB.out.trans (hb.mono HB.out.size)⟩
   | false =>
    have hcall := impl_Want_73.pred (rd_T55 l0 (j : Int)) name false hq B wr hBw
    have HC := Aside0.mk hcall
    have HV : Aside0 (impl_Want_73.go l0 name 0 = impl_Want_73.go (l0.drop (j + 1)) name ((j + 1 : Nat) : Int)) := ⟨by rw [HG2.out, if_neg (by simpa using hq)]⟩
    clear hcall hq hBw HG2
    go_wp2_with (go_at_fn 74; refine HC.out.mono ?_; rintro e w' ⟨rfl, hb⟩)
    go_roundg (l0.length - (j + 1))
    case measure => have := HJ.out; omega
    case rel => exact ⟨j + 1, by go_num, ⟨by omega, by omega⟩, HV, ⟨HB.out.trans (hb.mono HB.out.size)⟩⟩
  ·have he : j = l0.length := by have := HJ.out; omega
   have HV : Aside0 (impl_Want_73.go l0 name 0 = -1) := ⟨by rw [HG.out, he, List.drop_length]; rfl⟩
   have hlt2 : decide (j < l0.length) = false := decide_eq_false hlt
   clear HG he hlt
   go_wp2
   go_ret
   exact ⟨by rw [HV.out]; rfl, HB.out⟩
theorem impl_Want_73.calls (A0 : Option Addr) (c0 : Nat) (l0 : List S55) (g : Addr) (s1_0 : ByteArray) (s1_1 : Int) (r : Bool) (w : World) (hr0 : Kd.C k55 w A0 l0.length l0) (_hc0 : l0.length ≤ c0) (he0 : w.cell? g = some (.string s1_0)) (_he1 : w.cell? ⟨g.block, g.off + 1, none⟩ = some (.int .i64 s1_1)) (h : impl_Want_73.f l0 s1_0 s1_1 = some r) :
  Calls Try.prog 73 #[.slice A0 l0.length c0, .func (.func 74) #[] #[.pointer (some g)]] w fun e w' => e = .returned (.bool r) ∧ Below w.heap.size w w' := by
 have hr := Option.some.inj h
 have hcon := impl_Want_73.loop A0 c0 l0 s1_0 g w hr0 he0
 generalize impl_Want_73.go l0 s1_0 0 = z at hcon hr
 have HC := Aside0.mk hcon
 clear hcon h hr0 he0
 cases r with
 | true =>
  have hd : decide (0 ≤ z) = true := hr
  have hp : 0 ≤ z := of_decide_eq_true hr
  clear hr
  go_enter Try.func73, Try.ntmps73
  go_wp2_with (go_at_call 81; refine HC.out.mono ?_; rintro e w' ⟨rfl, hb⟩)
  go_ret
  exact ⟨by first | rfl | (simp; done) | (simp; omega), hb⟩
 | false =>
  have hd : decide (0 ≤ z) = false := hr
  have hp : ¬ 0 ≤ z := of_decide_eq_false hr
  clear hr
  go_enter Try.func73, Try.ntmps73
  go_wp2_with (go_at_call 81; refine HC.out.mono ?_; rintro e w' ⟨rfl, hb⟩)
  go_ret
  exact ⟨by first | rfl | (simp; done) | (simp; omega), hb⟩


/-! ### impl_MissingRope: function 43 -/
mutual
def impl_MissingRope.j0 : Nat → List (S45) → List (S55) → Bool → Option ((List (S55)) × Int)
 | 0, _, _, _ => none
 | k + 1, x0, x1, x19 => if x19 = true then (some (([] : List (S55)), 1)) else (impl_MissingRope.l0 k x0 x1 (([] : List (S55))) x1 (x1.length : Int) 0)
def impl_MissingRope.l0 : Nat → List (S45) → List (S55) → List (S55) → List (S55) → Int → Int → Option ((List (S55)) × Int)
 | 0, _, _, _, _, _, _ => none
 | k + 1, x0, x1, x6, x21, x22, x23 => if x23 < x22 then (if 0 ≤ x23 then (if x23 < (x21.length : Int) then (if x23 ≤ (x1.length : Int) then ((impl_Want_73.f (x1.take (x23 : Int).toNat) ((rd_T55 x21 x23).f0) ((rd_T55 x21 x23).f1)).bind fun t549 => (if t549 = true then (impl_MissingRope.l0 k x0 x1 x6 x21 x22 (wrap64 (x23 + 1))) else ((impl_leftOf.f k x0 ((rd_T55 x21 x23).f0)).bind fun t550 => (impl_MissingRope.l1 k x0 x1 x6 (wrap64 (-t550)) x21 x22 x23 x1 (x1.length : Int) 0 ((rd_T55 x21 x23).f0) ((rd_T55 x21 x23).f1))))) else (none)) else (none)) else (none)) else (some (x6, 0))
def impl_MissingRope.l1 : Nat → List (S45) → List (S55) → List (S55) → Int → List (S55) → Int → Int → List (S55) → Int → Int → ByteArray → Int → Option ((List (S55)) × Int)
 | 0, _, _, _, _, _, _, _, _, _, _, _, _ => none
 | k + 1, x0, x1, x6, x9, x21, x22, x23, x38, x39, x40, x545000, x545001 => if x40 < x39 then (if 0 ≤ x40 then (if x40 < (x38.length : Int) then (if ((rd_T55 x38 x40).f0).toList = x545000.toList then (impl_MissingRope.l1 k x0 x1 x6 (wrap64 (x9 + ((rd_T55 x38 x40).f1))) x21 x22 x23 x38 x39 (wrap64 (x40 + 1)) x545000 x545001) else (impl_MissingRope.l1 k x0 x1 x6 x9 x21 x22 x23 x38 x39 (wrap64 (x40 + 1)) x545000 x545001)) else (none)) else (none)) else (if x9 > 0 then (if x6.length < 5864062014805 then (impl_MissingRope.l0 k x0 x1 (x6 ++ [(⟨x545000, x9⟩ : S55)]) x21 x22 (wrap64 (x23 + 1))) else (none)) else (impl_MissingRope.l0 k x0 x1 x6 x21 x22 (wrap64 (x23 + 1))))
end
def impl_MissingRope.f (k : Nat) (l0 : List (S45)) (l1 : List (S55)) : Option ((List (S55)) × Int) := (impl_ValidStockCoils.f k l0).bind fun t538 => (if t538 = true then ((impl_ValidWants.f k l1).bind fun t539 => (impl_MissingRope.j0 k l0 l1 (!t539))) else (impl_MissingRope.j0 k l0 l1 true))
theorem impl_MissingRope.mono_l : ∀ k, (∀ y0 y1 y2, LeO (impl_MissingRope.j0 k y0 y1 y2) (impl_MissingRope.j0 (k + 1) y0 y1 y2)) ∧ (∀ y0 y1 y2 y3 y4 y5, LeO (impl_MissingRope.l0 k y0 y1 y2 y3 y4 y5) (impl_MissingRope.l0 (k + 1) y0 y1 y2 y3 y4 y5)) ∧ (∀ y0 y1 y2 y3 y4 y5 y6 y7 y8 y9 y10 y11, LeO (impl_MissingRope.l1 k y0 y1 y2 y3 y4 y5 y6 y7 y8 y9 y10 y11) (impl_MissingRope.l1 (k + 1) y0 y1 y2 y3 y4 y5 y6 y7 y8 y9 y10 y11))
 | 0 => ⟨fun _ _ _ r h => by simp [impl_MissingRope.j0] at h, fun _ _ _ _ _ _ r h => by simp [impl_MissingRope.l0] at h, fun _ _ _ _ _ _ _ _ _ _ _ _ r h => by simp [impl_MissingRope.l1] at h⟩
 | k + 1 => by
  obtain ⟨ih0, ih1, ih2⟩ := impl_MissingRope.mono_l k
  refine ⟨?_, ?_, ?_⟩
  ·intro y0 y1 y2
   unfold impl_MissingRope.j0
   repeat' first
   | (with_reducible exact ih0 _ _ _)
   | (with_reducible exact ih1 _ _ _ _ _ _)
   | (with_reducible exact ih2 _ _ _ _ _ _ _ _ _ _ _ _)
   | (with_reducible exact impl_ValidStockCoils.mono _ _)
   | (with_reducible exact impl_ValidWants.mono _ _)
   | (with_reducible exact impl_leftOf.mono _ _ _)
   | (with_reducible exact LeO.refl _)
   | (with_reducible exact LeO.none _)
   | (with_reducible refine LeO.ite ?_ ?_)
   | (with_reducible refine LeO.bind ?_ (fun _ => ?_))
   | exact ih0 _ _ _
   | exact ih1 _ _ _ _ _ _
   | exact ih2 _ _ _ _ _ _ _ _ _ _ _ _
   | exact impl_ValidStockCoils.mono _ _
   | exact impl_ValidWants.mono _ _
   | exact impl_leftOf.mono _ _ _
   | exact LeO.none _
   | refine LeO.ite ?_ ?_
   | refine LeO.bind ?_ (fun _ => ?_)
  ·intro y0 y1 y2 y3 y4 y5
   unfold impl_MissingRope.l0
   repeat' first
   | (with_reducible exact ih0 _ _ _)
   | (with_reducible exact ih1 _ _ _ _ _ _)
   | (with_reducible exact ih2 _ _ _ _ _ _ _ _ _ _ _ _)
   | (with_reducible exact impl_ValidStockCoils.mono _ _)
   | (with_reducible exact impl_ValidWants.mono _ _)
   | (with_reducible exact impl_leftOf.mono _ _ _)
   | (with_reducible exact LeO.refl _)
   | (with_reducible exact LeO.none _)
   | (with_reducible refine LeO.ite ?_ ?_)
   | (with_reducible refine LeO.bind ?_ (fun _ => ?_))
   | exact ih0 _ _ _
   | exact ih1 _ _ _ _ _ _
   | exact ih2 _ _ _ _ _ _ _ _ _ _ _ _
   | exact impl_ValidStockCoils.mono _ _
   | exact impl_ValidWants.mono _ _
   | exact impl_leftOf.mono _ _ _
   | exact LeO.none _
   | refine LeO.ite ?_ ?_
   | refine LeO.bind ?_ (fun _ => ?_)
  ·intro y0 y1 y2 y3 y4 y5 y6 y7 y8 y9 y10 y11
   unfold impl_MissingRope.l1
   repeat' first
   | (with_reducible exact ih0 _ _ _)
   | (with_reducible exact ih1 _ _ _ _ _ _)
   | (with_reducible exact ih2 _ _ _ _ _ _ _ _ _ _ _ _)
   | (with_reducible exact impl_ValidStockCoils.mono _ _)
   | (with_reducible exact impl_ValidWants.mono _ _)
   | (with_reducible exact impl_leftOf.mono _ _ _)
   | (with_reducible exact LeO.refl _)
   | (with_reducible exact LeO.none _)
   | (with_reducible refine LeO.ite ?_ ?_)
   | (with_reducible refine LeO.bind ?_ (fun _ => ?_))
   | exact ih0 _ _ _
   | exact ih1 _ _ _ _ _ _
   | exact ih2 _ _ _ _ _ _ _ _ _ _ _ _
   | exact impl_ValidStockCoils.mono _ _
   | exact impl_ValidWants.mono _ _
   | exact impl_leftOf.mono _ _ _
   | exact LeO.none _
   | refine LeO.ite ?_ ?_
   | refine LeO.bind ?_ (fun _ => ?_)
theorem impl_MissingRope.mono : ∀ a0 a1 k, LeO (impl_MissingRope.f k a0 a1) (impl_MissingRope.f (k + 1) a0 a1) := by
 intro a0 a1 k
 obtain ⟨ih0, ih1, ih2⟩ := impl_MissingRope.mono_l k
 unfold impl_MissingRope.f
 repeat' first
   | (with_reducible exact ih0 _ _ _)
   | (with_reducible exact ih1 _ _ _ _ _ _)
   | (with_reducible exact ih2 _ _ _ _ _ _ _ _ _ _ _ _)
   | (with_reducible exact impl_ValidStockCoils.mono _ _)
   | (with_reducible exact impl_ValidWants.mono _ _)
   | (with_reducible exact impl_leftOf.mono _ _ _)
   | (with_reducible exact LeO.refl _)
   | (with_reducible exact LeO.none _)
   | (with_reducible refine LeO.ite ?_ ?_)
   | (with_reducible refine LeO.bind ?_ (fun _ => ?_))
   | exact ih0 _ _ _
   | exact ih1 _ _ _ _ _ _
   | exact ih2 _ _ _ _ _ _ _ _ _ _ _ _
   | exact impl_ValidStockCoils.mono _ _
   | exact impl_ValidWants.mono _ _
   | exact impl_leftOf.mono _ _ _
   | exact LeO.none _
   | refine LeO.ite ?_ ?_
   | refine LeO.bind ?_ (fun _ => ?_)
set_option maxHeartbeats 8000000 in
set_option maxRecDepth 100000 in
theorem impl_MissingRope.calls (k : Nat) (A0 : Option Addr) (c0 : Nat) (l0 : List (S45)) (A1 : Option Addr) (c1 : Nat) (l1 : List (S55)) (r1 : List (S55)) (r2 : Int) (w : World) (hr0 : Kd.C k45 w A0 l0.length l0) (hc0 : l0.length ≤ c0) (hr1 : Kd.C k55 w A1 l1.length l1) (hc1 : l1.length ≤ c1) (h : impl_MissingRope.f k l0 l1 = some (r1, r2)) :
  Calls Try.prog 43 #[.slice A0 l0.length c0, .slice A1 l1.length c1] w fun e w' => ∃ v0_ : Value, e = .returned (.tuple #[v0_, .int .i64 r2]) ∧ Kd.R k55 55 w' w.heap.size (fun _ => True) v0_ r1 ∧ Below w.heap.size w w' := by
 have hu55 := Try.underlying55
 have hmf : ∀ (fn : Fn) (first cap : Array Value) (w : World), (Instr.makeFunc fn first cap).run Try.prog w = .ok (.func fn first cap) w := fun _ _ _ _ => rfl
 have HR0 := Aside0.mk hr0
 have HC0 := Aside0.mk hc0
 clear hr0 hc0
 have HR1 := Aside0.mk hr1
 have HC1 := Aside0.mk hc1
 clear hr1 hc1
 have HB := Aside0.mk (Below.refl w.heap.size w)
 have H : ((impl_ValidStockCoils.f k l0).bind fun t538 => (if t538 = true then ((impl_ValidWants.f k l1).bind fun t539 => (impl_MissingRope.j0 k l0 l1 (!t539))) else (impl_MissingRope.j0 k l0 l1 true))) = some (r1, r2) := h
 clear h
 have HC3 := Aside0.mk H
 clear H
 go_enter Try.func43, Try.ntmps43
 go_upto_region 1 with (fail)
 go_cut [19] (fun v19 wc => ∃ (kq : Nat) (x19_2 : Bool), v19 = .bool x19_2 ∧ Aside0 (impl_MissingRope.j0 kq l0 l1 x19_2 = some (r1, r2)) ∧ Aside0 (kq ≤ k) ∧ Aside0 (Below w.heap.size w wc))
 case first =>
  have H := HC3.out
  clear HC3
  replace H := Option.bind_eq_some_iff.mp H
  obtain ⟨t538, A40, H⟩ := H
  replace H : (if t538 = true then ((impl_ValidWants.f k l1).bind fun t539 => (impl_MissingRope.j0 k l0 l1 (!t539))) else (impl_MissingRope.j0 k l0 l1 true)) = some (r1, r2) := H
  have A4 := Aside0.mk A40
  clear A40
  by_cases c5 : t538 = true
  ·subst c5
   have H1 : ((impl_ValidWants.f k l1).bind fun t539 => (impl_MissingRope.j0 k l0 l1 (!t539))) = some (r1, r2) := by rw [if_pos rfl] at H; exact H
   clear H
   have H := H1
   clear H1
   replace H := Option.bind_eq_some_iff.mp H
   obtain ⟨t539, A60, H⟩ := H
   replace H : (impl_MissingRope.j0 k l0 l1 (!t539)) = some (r1, r2) := H
   have A6 := Aside0.mk A60
   clear A60
   have H' := Aside0.mk H
   clear H
   go_wp2_with (first | ((with_reducible refine gate_callee (f := 20) rfl ?_); refine goesL_ (some 13) rfl rfl Try.func20 (by kernel_rfl) rfl #[.slice A0 l0.length c0] rfl ln_ ?_; (with_reducible refine (impl_ValidStockCoils.calls k _ _ l0 true _ ?side1 ?side2 A4.out).mono ?_); (case side1 => exact kc_ (Kd.C_below HR0.out HB.out)); (case side2 => exact HC0.out); rintro e w7 ⟨rfl, hb⟩; refine ⟨_, rfl, ?_⟩; have n0_ := Aside0.mk (below_step hb_ hb); clear HB; have HB := n0_; clear n0_; (try clear hb); (try clear hb2); (try clear hk); (try clear hi)) | (go_at_call 24; (with_reducible refine (impl_ValidWants.calls k _ _ l1 t539 _ ?side1 ?side2 A6.out).mono ?_); (case side1 => exact kc_ (Kd.C_below HR1.out HB.out)); (case side2 => exact HC1.out); rintro e w8 ⟨rfl, hb⟩; have n0_ := Aside0.mk (below_step hb_ hb); clear HB; have HB := n0_; clear n0_; (try clear hb); (try clear hb2); (try clear hk); (try clear hi)))
   go_meet
   case rel => exact ⟨_, (!t539), (by first | rfl | (simp; done) | (simp [*]; done)), H', ⟨by first | omega | exact Nat.le_refl _⟩, ⟨hb_⟩⟩
  ·replace c5 := Bool.eq_false_iff.mpr c5
   subst c5
   have H1 : (impl_MissingRope.j0 k l0 l1 true) = some (r1, r2) := by rw [if_neg (show ¬ (false = true) by decide)] at H; exact H
   clear H
   have H := H1
   clear H1
   have H' := Aside0.mk H
   clear H
   go_wp2_with (first | ((with_reducible refine gate_callee (f := 20) rfl ?_); refine goesL_ (some 13) rfl rfl Try.func20 (by kernel_rfl) rfl #[.slice A0 l0.length c0] rfl ln_ ?_; (with_reducible refine (impl_ValidStockCoils.calls k _ _ l0 false _ ?side1 ?side2 A4.out).mono ?_); (case side1 => exact kc_ (Kd.C_below HR0.out HB.out)); (case side2 => exact HC0.out); rintro e w9 ⟨rfl, hb⟩; refine ⟨_, rfl, ?_⟩; have n0_ := Aside0.mk (below_step hb_ hb); clear HB; have HB := n0_; clear n0_; (try clear hb); (try clear hb2); (try clear hk); (try clear hi)))
   go_meet
   case rel => exact ⟨_, (true), (by first | rfl | (simp; done) | (simp [*]; done)), H', ⟨by first | omega | exact Nat.le_refl _⟩, ⟨hb_⟩⟩
 case rest =>
  clear HC3
  try clear c1
  try clear c2
  try clear p2
  try clear c4
  try clear c5
  obtain ⟨kq, x19_2, rfl, HA, HJ2, HB⟩ := hcut
  cases kq with
  | zero => exact absurd HA.out (by simp [impl_MissingRope.j0])
  | succ kj2 =>
   have H := HA.out
   clear HA
   simp only [impl_MissingRope.j0] at H
   by_cases c10 : x19_2 = true
   ·subst c10
    have H1 : (some (([] : List (S55)), 1)) = some (r1, r2) := by rw [if_pos rfl] at H; exact H
    clear H
    have H := H1
    clear H1
    simp only [Option.some.injEq, Prod.mk.injEq] at H
    obtain ⟨rfl, rfl⟩ := H
    go_wp2
    go_ret2
    exact ⟨_, ew_, by first | exact Kd.R_nil _ _ _ _ _ | exact Kd.N_nil _ _ _ _ _ | exact Kd.V_nil _ _ _ _ _ | exact Kd.Q_nil _ _ _ _ _ | exact Kd.S_nil _ _ _ _ _, hb_⟩
   ·replace c10 := Bool.eq_false_iff.mpr c10
    subst c10
    have H1 : (impl_MissingRope.l0 kj2 l0 l1 (([] : List (S55))) l1 (l1.length : Int) 0) = some (r1, r2) := by rw [if_neg (show ¬ (false = true) by decide)] at H; exact H
    clear H
    have H := H1
    clear H1
    obtain ⟨y540, hy540⟩ : ∃ y_ : List (S55), y_ = (([] : List (S55))) := ⟨_, rfl⟩
    replace H : (impl_MissingRope.l0 kj2 l0 l1 y540 l1 (l1.length : Int) 0) = some (r1, r2) := by first | (rw [hy540]; with_reducible exact H) | (have H2_ := (Option.bind_some _ _).symm.trans H; rw [hy540]; with_reducible exact H2_) | (have H2_ := (Option.bind_some _ _).symm.trans H; with_reducible exact H2_) | with_reducible exact H | (rw [hy540]; exact H) | exact H
    have Ny540 := Aside0.mk hy540
    clear hy540
    have H' := Aside0.mk H
    clear H
    go_wp2_with (first | ((with_reducible refine gate_dst (N := 20) rfl ?_); refine Kd.R_lit k55 _ 55 ?hg (N := 20) ?hd (xs := ([] : List (S55))) (inner := []) (ok := fun _ => True) (okp := fun _ => True) ?hr ?hp (fun _ hk => hk) trivial (Below.refl _ _) (Nat.le_refl _) (by simp) ?_; (case hd => rfl); (case hg => rfl); (case hr => first | (go_simp; done) | (go_simp; rfl)); (case hp => exact (Reps.none _ _)); intro v541 w11 ho12 hb hg_ hnew_; clear hg_ hnew_; (first | rw [← Ny540.out] at ho12 | (simp only [Int.reduceToNat] at ho12; rw [← Ny540.out] at ho12)); have n0_ := Aside0.mk (Kd.R_lower ho12 (below_size hb_)); have n1_ := Aside0.mk (below_step hb_ hb); clear HB; have HO542 := n0_; have HB := n1_; clear n0_ n1_; clear hb ho12))
    go_loopg [6, 23] kj2 (fun kq v6 v23 w' => ∃ (x6_2 : List (S55)) (x23_2 : Int), v23 = .int .i64 x23_2 ∧ Aside0 (impl_MissingRope.l0 kq l0 l1 x6_2 l1 (l1.length : Int) x23_2 = some (r1, r2)) ∧ Aside0 (kq ≤ kj2) ∧ Aside0 (Kd.R k55 55 w' w.heap.size (fun _ => True) v6 x6_2) ∧ Aside0 (Below w.heap.size w w'))
    case atStart => exact ⟨(y540), (0), (by first | rfl | (simp; done) | (simp [*]; done)), H', ⟨Nat.le_refl _⟩, ⟨by (with_reducible repeat (first | apply Kd.R_alloc | apply Kd.R_drewN | apply Kd.R_drew)); exact HO542.out⟩, ⟨hb_⟩⟩
    case round =>
     clear H'
     try clear c1
     try clear c2
     try clear p2
     try clear c4
     try clear c5
     try clear c10
     try clear p2
     obtain ⟨x6_2, x23_2, rfl, HA, HK2, HO_6, HB⟩ := hrel
     cases gk with
     | zero => exact absurd HA.out (by simp [impl_MissingRope.l0])
     | succ k2 =>
      have H := HA.out
      clear HA
      simp only [impl_MissingRope.l0] at H
      by_cases c13 : x23_2 < (l1.length : Int)
      ·rw [if_pos c13] at H
       have c13b0 : decide (x23_2 < (l1.length : Int)) = true := decide_eq_true c13
       clear c13
       by_cases c14 : 0 ≤ x23_2
       ·rw [if_pos c14] at H
        have c14b0 : decide (0 ≤ x23_2) = true := decide_eq_true c14
        clear c14
        by_cases c15 : x23_2 < (l1.length : Int)
        ·rw [if_pos c15] at H
         have c15b0 : decide (x23_2 < (l1.length : Int)) = true := decide_eq_true c15
         clear c15
         have c16b0 := eq_true (od_ : 0 ≤ x23_2)
         by_cases c17 : x23_2 ≤ (l1.length : Int)
         ·rw [if_pos c17] at H
          have c17b0 := eq_true c17
          have c17b1 : decide (x23_2 ≤ (l1.length : Int)) = true := decide_eq_true c17
          clear c17
          obtain ⟨y545, hy545⟩ : ∃ y_ : List (S55), y_ = (l1.take (x23_2 : Int).toNat) := ⟨_, rfl⟩
          replace H : ((impl_Want_73.f y545 ((rd_T55 l1 x23_2).f0) ((rd_T55 l1 x23_2).f1)).bind fun t549 => (if t549 = true then (impl_MissingRope.l0 k2 l0 l1 x6_2 l1 (l1.length : Int) (wrap64 (x23_2 + 1))) else ((impl_leftOf.f k2 l0 ((rd_T55 l1 x23_2).f0)).bind fun t550 => (impl_MissingRope.l1 k2 l0 l1 x6_2 (wrap64 (-t550)) l1 (l1.length : Int) x23_2 l1 (l1.length : Int) 0 ((rd_T55 l1 x23_2).f0) ((rd_T55 l1 x23_2).f1))))) = some (r1, r2) := by first | (rw [hy545]; with_reducible exact H) | (have H2_ := (Option.bind_some _ _).symm.trans H; rw [hy545]; with_reducible exact H2_) | (have H2_ := (Option.bind_some _ _).symm.trans H; with_reducible exact H2_) | with_reducible exact H | (rw [hy545]; exact H) | exact H
          have Ny545 := Aside0.mk hy545
          clear hy545
          replace H := Option.bind_eq_some_iff.mp H
          obtain ⟨t549, A180, H⟩ := H
          replace H : (if t549 = true then (impl_MissingRope.l0 k2 l0 l1 x6_2 l1 (l1.length : Int) (wrap64 (x23_2 + 1))) else ((impl_leftOf.f k2 l0 ((rd_T55 l1 x23_2).f0)).bind fun t550 => (impl_MissingRope.l1 k2 l0 l1 x6_2 (wrap64 (-t550)) l1 (l1.length : Int) x23_2 l1 (l1.length : Int) 0 ((rd_T55 l1 x23_2).f0) ((rd_T55 l1 x23_2).f1)))) = some (r1, r2) := H
          have A18 := Aside0.mk A180
          clear A180
          by_cases c19 : t549 = true
          ·subst c19
           have H1 : (impl_MissingRope.l0 k2 l0 l1 x6_2 l1 (l1.length : Int) (wrap64 (x23_2 + 1))) = some (r1, r2) := by rw [if_pos rfl] at H; exact H
           clear H
           have H := H1
           clear H1
           have H' := Aside0.mk H
           clear H
           have p543 : 0 ≤ (x23_2 : Int) := od_
           have q543 : x23_2 < (l1.length : Int) := od_
           obtain ⟨ad543, e543, hx543_0, hx543_1⟩ := at_T55 HR1.out x23_2 p543 q543
           cases e543
           replace hx543_0 := cq_ HB hx543_0
           replace hx543_1 := cq_ HB hx543_1
           replace p543 := eq_true p543
           replace q543 := eq_true q543
           go_wp2_with (first | ((with_reducible refine gate_dst (N := 8) rfl ?_); refine box_event ?hg (N := 8) ?hd (cs := #[.string (⟨#[]⟩ : ByteArray), .int .i64 0]) (t := 55) ?hr ?_; (case hd => rfl); (case hg => rfl); (case hr => first | (go_simp; done) | (go_simp; rfl)); intro gb544 hg w20 hbox hb; have n0_ := Aside0.mk (Kd.R_below (Kd.R_elderB (kr_ HO_6) gb544 (Nat.le_of_eq hg.symm)) hb); have n1_ := Aside0.mk (below_step hb_ hb); have n2_ := Aside0.mk (hbox); have n3_ := Aside0.mk ((by rw [hg]; exact (below_size hb_) : w.heap.size ≤ gb544)); have n4_ := Aside0.mk ((by rw [hg]; exact (below_size hb_) : w.heap.size ≤ gb544)); clear HO_6; clear HB; have HO_6 := n0_; have HB := n1_; have BK544 := n2_; have GW544 := n3_; have GE544 := n4_; clear n0_ n1_ n2_ n3_ n4_; clear hb hbox hg; have hcz21_0 : w20.cell? ⟨gb544, 0, none⟩ = some (.string (⟨#[]⟩ : ByteArray)) := (blk_cell BK544.out 0).trans rfl; have hcz21_1 : w20.cell? ⟨gb544, 1, none⟩ = some (.int .i64 0) := (blk_cell BK544.out 1).trans rfl; have hfz21_0 := blk_frozen BK544.out 0; have hfz21_1 := blk_frozen BK544.out 1) | ((with_reducible refine gate_store (t := 55) (p := 8) rfl ?_); refine store_event (t := 55) (p := 8) (v := ?vo_w22) (w1 := ((w20.setCell ⟨gb544, 0, none⟩ (.string ((rd_T55 l1 x23_2).f0))).setCell ⟨gb544, 1, none⟩ (.int .i64 ((rd_T55 l1 x23_2).f1)))) ?hg ?ho ?hn ?hr ?_; (case ho => rfl); (case hg => rfl); (case hn => rfl); (case hr => first | (go_simp; done) | (go_simp; rfl)); intro w22 hw; have n0_ : Aside0 (Kd.R k55 55 w22 w.heap.size (fun k_ => k_ ≠ gb544) u6 x6_2) := ⟨(by rw [hw]; exact (by (with_reducible repeat (first | apply Kd.R_alloc | apply Kd.R_drewN | apply Kd.R_drew)); exact Kd.R_mono (Kd.R_far (p := ⟨gb544, 1, none⟩) (Kd.R_far (p := ⟨gb544, 0, none⟩) (Kd.R_mono HO_6.out (fun k_ hk => (⟨hk, hk.2⟩ : _ ∧ k_ ≠ gb544))) (fun _ hk => hk.2) (.string ((rd_T55 l1 x23_2).f0))) (fun _ hk => hk.2) (.int .i64 ((rd_T55 l1 x23_2).f1))) (fun _ hk => hk.1.2)))⟩; have n1_ : Aside0 (w22.heap[gb544]? = some (.cells #[.string ((rd_T55 l1 x23_2).f0), .int .i64 ((rd_T55 l1 x23_2).f1)] 55 (0, 0))) := ⟨(by rw [hw]; exact (by (with_reducible repeat (first | refine blk_drewN ?_ _ | refine blk_drew ?_ | refine blk_alloc ?_ _)); refine blk_put (cs := #[.string ((rd_T55 l1 x23_2).f0), .int .i64 0]) ?_ 1 _ rfl; (with_reducible repeat (first | refine blk_drewN ?_ _ | refine blk_drew ?_ | refine blk_alloc ?_ _)); refine blk_put (cs := #[.string (⟨#[]⟩ : ByteArray), .int .i64 0]) ?_ 0 _ rfl; (with_reducible repeat (first | refine blk_drewN ?_ _ | refine blk_drew ?_ | refine blk_alloc ?_ _)); exact BK544.out))⟩; have n2_ : Aside0 (Below w.heap.size w w22) := ⟨(by rw [hw]; exact (hg_ GE544))⟩; clear hw; clear HO_6; clear BK544; clear HB; have HO_6 := n0_; have BK544 := n1_; have HB := n2_; clear n0_ n1_ n2_; have q23 : (x23_2 : Int) ≤ ((l1.length : Int) : Int) := od_; obtain ⟨i023, hi023, _, hsz23, _⟩ := info_parts info55; have hroom23 : l1.length ≤ c1 := HC1.out; have hC23 : Kd.C k55 _ (some ad543) l1.length l1 := HR1.out; have hcut23 := cut_to (P := Try.prog) 33 55 .i64 Try.underlying33 hi023 (some ad543) l1.length c1 x23_2 (od_) q23 hroom23; have hr23 := Kd.C_take (m := (x23_2 : Int).toNat) hC23 (by omega); have hy23 : y545.length = (x23_2 : Int).toNat := (by rw [Ny545.out, List.length_take]; omega); rw [← Ny545.out] at hr23; rw [← hy23] at hcut23; have HR548 := Aside0.mk hr23; have HC548 := Aside0.mk (show y545.length ≤ c1 from by omega); clear hr23 hC23 hroom23 hi023 hsz23; have KY23 := Aside0.mk hy23; clear hy23; replace q23 := eq_true q23) | ((with_reducible refine gate_callee (f := 73) rfl ?_); refine goesL_ (some 32) rfl rfl Try.func73 (by kernel_rfl) rfl #[.slice (some ad543) y545.length c1, .func (.func 74) #[] #[.pointer (some ⟨gb544, 0, none⟩)]] rfl ln_ ?_; (with_reducible refine (impl_Want_73.calls _ _ y545 _ ((rd_T55 l1 x23_2).f0) ((rd_T55 l1 x23_2).f1) true _ ?side1 ?side2 ?side3 ?side4 A18.out).mono ?_); (case side1 => exact kc_ (Kd.C_below HR548.out HB.out)); (case side2 => exact HC548.out); (case side3 => exact (blk_cell (cs := #[.string ((rd_T55 l1 x23_2).f0), .int .i64 ((rd_T55 l1 x23_2).f1)]) (bk_ BK544) 0).trans rfl); (case side4 => exact (blk_cell (cs := #[.string ((rd_T55 l1 x23_2).f0), .int .i64 ((rd_T55 l1 x23_2).f1)]) (bk_ BK544) 1).trans rfl); rintro e w24 ⟨rfl, hb⟩; refine ⟨_, rfl, ?_⟩; have n0_ := Aside0.mk (Kd.R_below (kr_ HO_6) hb); have n1_ := Aside0.mk (blk_below (g := gb544) (o := .cells #[.string ((rd_T55 l1 x23_2).f0), .int .i64 ((rd_T55 l1 x23_2).f1)] 55 (0, 0)) (bk_ BK544) hb); have n2_ := Aside0.mk (below_step (hg_ GE544) hb); clear HO_6; clear BK544; clear HB; have HO_6 := n0_; have BK544 := n1_; have HB := n2_; clear n0_ n1_ n2_; (try clear hb); (try clear hb2); (try clear hk); (try clear hi)))
           go_roundg k2
           case measure => have := HJ2.out; have := HK2.out; omega
           case rel => exact ⟨(x6_2), (wrap64 (x23_2 + 1)), (by first | rfl | (simp; done) | (simp [*]; done)), H', ⟨by have := HJ2.out; have := HK2.out; omega⟩, ⟨by (with_reducible repeat (first | apply Kd.R_alloc | apply Kd.R_drewN | apply Kd.R_drew)); exact Kd.R_mono HO_6.out (fun _ hk => trivial)⟩, ⟨(hg_ GE544)⟩⟩
          ·replace c19 := Bool.eq_false_iff.mpr c19
           subst c19
           have H1 : ((impl_leftOf.f k2 l0 ((rd_T55 l1 x23_2).f0)).bind fun t550 => (impl_MissingRope.l1 k2 l0 l1 x6_2 (wrap64 (-t550)) l1 (l1.length : Int) x23_2 l1 (l1.length : Int) 0 ((rd_T55 l1 x23_2).f0) ((rd_T55 l1 x23_2).f1))) = some (r1, r2) := by rw [if_neg (show ¬ (false = true) by decide)] at H; exact H
           clear H
           have H := H1
           clear H1
           replace H := Option.bind_eq_some_iff.mp H
           obtain ⟨t550, A250, H⟩ := H
           replace H : (impl_MissingRope.l1 k2 l0 l1 x6_2 (wrap64 (-t550)) l1 (l1.length : Int) x23_2 l1 (l1.length : Int) 0 ((rd_T55 l1 x23_2).f0) ((rd_T55 l1 x23_2).f1)) = some (r1, r2) := H
           have A25 := Aside0.mk A250
           clear A250
           have H' := Aside0.mk H
           clear H
           have p543 : 0 ≤ (x23_2 : Int) := od_
           have q543 : x23_2 < (l1.length : Int) := od_
           obtain ⟨ad543, e543, hx543_0, hx543_1⟩ := at_T55 HR1.out x23_2 p543 q543
           cases e543
           replace hx543_0 := cq_ HB hx543_0
           replace hx543_1 := cq_ HB hx543_1
           replace p543 := eq_true p543
           replace q543 := eq_true q543
           go_wp2_with (first | ((with_reducible refine gate_dst (N := 8) rfl ?_); refine box_event ?hg (N := 8) ?hd (cs := #[.string (⟨#[]⟩ : ByteArray), .int .i64 0]) (t := 55) ?hr ?_; (case hd => rfl); (case hg => rfl); (case hr => first | (go_simp; done) | (go_simp; rfl)); intro gb544 hg w26 hbox hb; have n0_ := Aside0.mk (Kd.R_below (Kd.R_elderB (kr_ HO_6) gb544 (Nat.le_of_eq hg.symm)) hb); have n1_ := Aside0.mk (below_step hb_ hb); have n2_ := Aside0.mk (hbox); have n3_ := Aside0.mk ((by rw [hg]; exact (below_size hb_) : w.heap.size ≤ gb544)); have n4_ := Aside0.mk ((by rw [hg]; exact (below_size hb_) : w.heap.size ≤ gb544)); clear HO_6; clear HB; have HO_6 := n0_; have HB := n1_; have BK544 := n2_; have GW544 := n3_; have GE544 := n4_; clear n0_ n1_ n2_ n3_ n4_; clear hb hbox hg; have hcz27_0 : w26.cell? ⟨gb544, 0, none⟩ = some (.string (⟨#[]⟩ : ByteArray)) := (blk_cell BK544.out 0).trans rfl; have hcz27_1 : w26.cell? ⟨gb544, 1, none⟩ = some (.int .i64 0) := (blk_cell BK544.out 1).trans rfl; have hfz27_0 := blk_frozen BK544.out 0; have hfz27_1 := blk_frozen BK544.out 1) | ((with_reducible refine gate_store (t := 55) (p := 8) rfl ?_); refine store_event (t := 55) (p := 8) (v := ?vo_w28) (w1 := ((w26.setCell ⟨gb544, 0, none⟩ (.string ((rd_T55 l1 x23_2).f0))).setCell ⟨gb544, 1, none⟩ (.int .i64 ((rd_T55 l1 x23_2).f1)))) ?hg ?ho ?hn ?hr ?_; (case ho => rfl); (case hg => rfl); (case hn => rfl); (case hr => first | (go_simp; done) | (go_simp; rfl)); intro w28 hw; have n0_ : Aside0 (Kd.R k55 55 w28 w.heap.size (fun k_ => k_ ≠ gb544) u6 x6_2) := ⟨(by rw [hw]; exact (by (with_reducible repeat (first | apply Kd.R_alloc | apply Kd.R_drewN | apply Kd.R_drew)); exact Kd.R_mono (Kd.R_far (p := ⟨gb544, 1, none⟩) (Kd.R_far (p := ⟨gb544, 0, none⟩) (Kd.R_mono HO_6.out (fun k_ hk => (⟨hk, hk.2⟩ : _ ∧ k_ ≠ gb544))) (fun _ hk => hk.2) (.string ((rd_T55 l1 x23_2).f0))) (fun _ hk => hk.2) (.int .i64 ((rd_T55 l1 x23_2).f1))) (fun _ hk => hk.1.2)))⟩; have n1_ : Aside0 (w28.heap[gb544]? = some (.cells #[.string ((rd_T55 l1 x23_2).f0), .int .i64 ((rd_T55 l1 x23_2).f1)] 55 (0, 0))) := ⟨(by rw [hw]; exact (by (with_reducible repeat (first | refine blk_drewN ?_ _ | refine blk_drew ?_ | refine blk_alloc ?_ _)); refine blk_put (cs := #[.string ((rd_T55 l1 x23_2).f0), .int .i64 0]) ?_ 1 _ rfl; (with_reducible repeat (first | refine blk_drewN ?_ _ | refine blk_drew ?_ | refine blk_alloc ?_ _)); refine blk_put (cs := #[.string (⟨#[]⟩ : ByteArray), .int .i64 0]) ?_ 0 _ rfl; (with_reducible repeat (first | refine blk_drewN ?_ _ | refine blk_drew ?_ | refine blk_alloc ?_ _)); exact BK544.out))⟩; have n2_ : Aside0 (Below w.heap.size w w28) := ⟨(by rw [hw]; exact (hg_ GE544))⟩; clear hw; clear HO_6; clear BK544; clear HB; have HO_6 := n0_; have BK544 := n1_; have HB := n2_; clear n0_ n1_ n2_; have q29 : (x23_2 : Int) ≤ ((l1.length : Int) : Int) := od_; obtain ⟨i029, hi029, _, hsz29, _⟩ := info_parts info55; have hroom29 : l1.length ≤ c1 := HC1.out; have hC29 : Kd.C k55 _ (some ad543) l1.length l1 := HR1.out; have hcut29 := cut_to (P := Try.prog) 33 55 .i64 Try.underlying33 hi029 (some ad543) l1.length c1 x23_2 (od_) q29 hroom29; have hr29 := Kd.C_take (m := (x23_2 : Int).toNat) hC29 (by omega); have hy29 : y545.length = (x23_2 : Int).toNat := (by rw [Ny545.out, List.length_take]; omega); rw [← Ny545.out] at hr29; rw [← hy29] at hcut29; have HR548 := Aside0.mk hr29; have HC548 := Aside0.mk (show y545.length ≤ c1 from by omega); clear hr29 hC29 hroom29 hi029 hsz29; have KY29 := Aside0.mk hy29; clear hy29; replace q29 := eq_true q29) | ((with_reducible refine gate_callee (f := 73) rfl ?_); refine goesL_ (some 32) rfl rfl Try.func73 (by kernel_rfl) rfl #[.slice (some ad543) y545.length c1, .func (.func 74) #[] #[.pointer (some ⟨gb544, 0, none⟩)]] rfl ln_ ?_; (with_reducible refine (impl_Want_73.calls _ _ y545 _ ((rd_T55 l1 x23_2).f0) ((rd_T55 l1 x23_2).f1) false _ ?side1 ?side2 ?side3 ?side4 A18.out).mono ?_); (case side1 => exact kc_ (Kd.C_below HR548.out HB.out)); (case side2 => exact HC548.out); (case side3 => exact (blk_cell (cs := #[.string ((rd_T55 l1 x23_2).f0), .int .i64 ((rd_T55 l1 x23_2).f1)]) (bk_ BK544) 0).trans rfl); (case side4 => exact (blk_cell (cs := #[.string ((rd_T55 l1 x23_2).f0), .int .i64 ((rd_T55 l1 x23_2).f1)]) (bk_ BK544) 1).trans rfl); rintro e w30 ⟨rfl, hb⟩; refine ⟨_, rfl, ?_⟩; have n0_ := Aside0.mk (Kd.R_below (kr_ HO_6) hb); have n1_ := Aside0.mk (blk_below (g := gb544) (o := .cells #[.string ((rd_T55 l1 x23_2).f0), .int .i64 ((rd_T55 l1 x23_2).f1)] 55 (0, 0)) (bk_ BK544) hb); have n2_ := Aside0.mk (below_step (hg_ GE544) hb); clear HO_6; clear BK544; clear HB; have HO_6 := n0_; have BK544 := n1_; have HB := n2_; clear n0_ n1_ n2_; (try clear hb); (try clear hb2); (try clear hk); (try clear hi); have hcz31_0 : w30.cell? ⟨gb544, 0, none⟩ = some (.string ((rd_T55 l1 x23_2).f0)) := (blk_cell BK544.out 0).trans rfl; have hcz31_1 : w30.cell? ⟨gb544, 1, none⟩ = some (.int .i64 ((rd_T55 l1 x23_2).f1)) := (blk_cell BK544.out 1).trans rfl; have hfz31_0 := blk_frozen BK544.out 0; have hfz31_1 := blk_frozen BK544.out 1) | ((with_reducible refine gate_callee (f := 63) rfl ?_); refine goesL_ (some 36) rfl rfl Try.func63 (by kernel_rfl) rfl #[.slice A0 l0.length c0, .string ((rd_T55 l1 x23_2).f0)] rfl ln_ ?_; (with_reducible refine (impl_leftOf.calls k2 _ _ l0 ((rd_T55 l1 x23_2).f0) t550 _ ?side1 ?side2 A25.out).mono ?_); (case side1 => exact kc_ (Kd.C_below HR0.out HB.out)); (case side2 => exact HC0.out); rintro e w32 ⟨rfl, hb⟩; refine ⟨_, rfl, ?_⟩; have n0_ := Aside0.mk (Kd.R_below (kr_ HO_6) hb); have n1_ := Aside0.mk (blk_below (g := gb544) (o := .cells #[.string ((rd_T55 l1 x23_2).f0), .int .i64 ((rd_T55 l1 x23_2).f1)] 55 (0, 0)) (bk_ BK544) hb); have n2_ := Aside0.mk (below_step (hg_ GE544) hb); clear HO_6; clear BK544; clear HB; have HO_6 := n0_; have BK544 := n1_; have HB := n2_; clear n0_ n1_ n2_; (try clear hb); (try clear hb2); (try clear hk); (try clear hi)))
           go_loopg [9, 40] k2 (fun kq v9 v40 w' => ∃ (x9_3 : Int) (x40_3 : Int), v9 = .int .i64 x9_3 ∧ v40 = .int .i64 x40_3 ∧ Aside0 (impl_MissingRope.l1 kq l0 l1 x6_2 x9_3 l1 (l1.length : Int) x23_2 l1 (l1.length : Int) x40_3 ((rd_T55 l1 x23_2).f0) ((rd_T55 l1 x23_2).f1) = some (r1, r2)) ∧ Aside0 (kq ≤ k2) ∧ Aside0 (Kd.R k55 55 w' w.heap.size (fun k_ => k_ ≠ gb544) u6 x6_2) ∧ Aside0 (w'.heap[gb544]? = some (.cells #[.string ((rd_T55 l1 x23_2).f0), .int .i64 ((rd_T55 l1 x23_2).f1)] 55 (0, 0))) ∧ Aside0 (Below w.heap.size w w'))
           case atStart => exact ⟨(wrap64 (-t550)), (0), (by first | rfl | (simp; done) | (simp [*]; done)), (by first | rfl | (simp; done) | (simp [*]; done)), H', ⟨Nat.le_refl _⟩, ⟨by (with_reducible repeat (first | apply Kd.R_alloc | apply Kd.R_drewN | apply Kd.R_drew)); exact HO_6.out⟩, ⟨by (with_reducible repeat (first | refine blk_drewN ?_ _ | refine blk_drew ?_ | refine blk_alloc ?_ _)); exact BK544.out⟩, ⟨(hg_ GE544)⟩⟩
           case round =>
            clear H'
            try clear c1
            try clear c2
            try clear p2
            try clear q2
            try clear c4
            try clear c5
            try clear p5
            try clear q5
            try clear hx5
            try clear c6
            try clear p6
            try clear c7
            try clear c10
            try clear c13
            try clear c13b0
            try clear c14
            try clear c14b0
            try clear c15
            try clear c15b0
            try clear c16
            try clear c16b0
            try clear c17
            try clear c17b0
            try clear c17b1
            try clear c19
            try clear c20
            try clear q23
            try clear q29
            try clear hcz21_0
            try clear hcz21_1
            try clear hcz27_0
            try clear hcz27_1
            try clear hcz31_0
            try clear hcz31_1
            try clear hfz21_0
            try clear hfz21_1
            try clear hfz27_0
            try clear hfz27_1
            try clear hfz31_0
            try clear hfz31_1
            try clear hx543_0
            try clear hx543_1
            try clear p2
            try clear p543
            try clear q23
            try clear q29
            try clear q543
            obtain ⟨x9_3, x40_3, rfl, rfl, HA, HK3, HO_6, BK544, HB⟩ := hrel
            cases gk with
            | zero => exact absurd HA.out (by simp [impl_MissingRope.l1])
            | succ k3 =>
             have H := HA.out
             clear HA
             simp only [impl_MissingRope.l1] at H
             by_cases c33 : x40_3 < (l1.length : Int)
             ·rw [if_pos c33] at H
              have c33b0 : decide (x40_3 < (l1.length : Int)) = true := decide_eq_true c33
              clear c33
              by_cases c34 : 0 ≤ x40_3
              ·rw [if_pos c34] at H
               have c34b0 : decide (0 ≤ x40_3) = true := decide_eq_true c34
               clear c34
               by_cases c35 : x40_3 < (l1.length : Int)
               ·rw [if_pos c35] at H
                have c35b0 : decide (x40_3 < (l1.length : Int)) = true := decide_eq_true c35
                clear c35
                by_cases c36 : ((rd_T55 l1 x40_3).f0).toList = ((rd_T55 l1 x23_2).f0).toList
                ·rw [if_pos c36] at H
                 have c36b0 : (((rd_T55 l1 x40_3).f0).toList == ((rd_T55 l1 x23_2).f0).toList) = true := beq_iff_eq.mpr c36
                 have c36b1 : (((rd_T55 l1 x40_3).f0).toList != ((rd_T55 l1 x23_2).f0).toList) = false := bne_eq_false_iff_eq.mpr c36
                 clear c36
                 have H' := Aside0.mk H
                 clear H
                 have p551 : 0 ≤ (x40_3 : Int) := od_
                 have q551 : x40_3 < (l1.length : Int) := od_
                 obtain ⟨ad551, e551, hx551_0, hx551_1⟩ := at_T55 HR1.out x40_3 p551 q551
                 obtain rfl : ad543 = ad551 := (by injection e551)
                 replace hx551_0 := cq_ HB hx551_0
                 replace hx551_1 := cq_ HB hx551_1
                 replace p551 := eq_true p551
                 replace q551 := eq_true q551
                 go_wp2_with (first | ((with_reducible refine gate_dst (N := 11) rfl ?_); refine box_event ?hg (N := 11) ?hd (cs := #[.string (⟨#[]⟩ : ByteArray), .int .i64 0]) (t := 55) ?hr ?_; (case hd => rfl); (case hg => rfl); (case hr => first | (go_simp; done) | (go_simp; rfl)); intro gb552 hg w37 hbox hb; have n0_ := Aside0.mk (Kd.R_below (Kd.R_elderB (kr_ HO_6) gb552 (Nat.le_of_eq hg.symm)) hb); have n1_ := Aside0.mk (blk_below (g := gb544) (o := .cells #[.string ((rd_T55 l1 x23_2).f0), .int .i64 ((rd_T55 l1 x23_2).f1)] 55 (0, 0)) (bk_ BK544) hb); have n2_ := Aside0.mk (below_step (hg_ GE544) hb); have n3_ := Aside0.mk (hbox); have n4_ := Aside0.mk ((by rw [hg]; exact (below_size (hg_ GE544)) : w.heap.size ≤ gb552)); have n5_ := Aside0.mk ((by rw [hg]; exact (below_size (hg_ GE544)) : w.heap.size ≤ gb552)); have n6_ := Aside0.mk ((by rw [hg]; exact Nat.ne_of_lt (blk_lt (g := gb544) (o := .cells #[.string ((rd_T55 l1 x23_2).f0), .int .i64 ((rd_T55 l1 x23_2).f1)] 55 (0, 0)) (bk_ BK544)) : gb544 ≠ gb552)); have n7_ := Aside0.mk ((by rw [hg]; exact Nat.ne_of_gt (blk_lt (g := gb544) (o := .cells #[.string ((rd_T55 l1 x23_2).f0), .int .i64 ((rd_T55 l1 x23_2).f1)] 55 (0, 0)) (bk_ BK544)) : gb552 ≠ gb544)); clear HO_6; clear BK544; clear HB; have HO_6 := n0_; have BK544 := n1_; have HB := n2_; have BK552 := n3_; have GW552 := n4_; have GE552 := n5_; have NB544_552 := n6_; have NB552_544 := n7_; clear n0_ n1_ n2_ n3_ n4_ n5_ n6_ n7_; clear hb hbox hg; have hnb38 := NB552_544.out; have hnc38 := NB544_552.out; have hcz39_0 : w37.cell? ⟨gb552, 0, none⟩ = some (.string (⟨#[]⟩ : ByteArray)) := (blk_cell BK552.out 0).trans rfl; have hcz39_1 : w37.cell? ⟨gb552, 1, none⟩ = some (.int .i64 0) := (blk_cell BK552.out 1).trans rfl; have hfz39_0 := blk_frozen BK552.out 0; have hfz39_1 := blk_frozen BK552.out 1; have hcz40_0 : w37.cell? ⟨gb544, 0, none⟩ = some (.string ((rd_T55 l1 x23_2).f0)) := (blk_cell BK544.out 0).trans rfl; have hcz40_1 : w37.cell? ⟨gb544, 1, none⟩ = some (.int .i64 ((rd_T55 l1 x23_2).f1)) := (blk_cell BK544.out 1).trans rfl; have hfz40_0 := blk_frozen BK544.out 0; have hfz40_1 := blk_frozen BK544.out 1))
                 go_roundg k3
                 case measure => have := HJ2.out; have := HK2.out; have := HK3.out; omega
                 case rel => exact ⟨(wrap64 (x9_3 + ((rd_T55 l1 x40_3).f1))), (wrap64 (x40_3 + 1)), (by first | rfl | (simp; done) | (simp [*]; done)), (by first | rfl | (simp; done) | (simp [*]; done)), H', ⟨by have := HJ2.out; have := HK2.out; have := HK3.out; omega⟩, ⟨by (with_reducible repeat (first | apply Kd.R_alloc | apply Kd.R_drewN | apply Kd.R_drew)); exact Kd.R_mono (Kd.R_far (p := ⟨gb552, 1, none⟩) (Kd.R_far (p := ⟨gb552, 0, none⟩) (Kd.R_mono HO_6.out (fun k_ hk => (⟨hk, hk.2⟩ : _ ∧ k_ ≠ gb552))) (fun _ hk => hk.2) (.string ((rd_T55 l1 x40_3).f0))) (fun _ hk => hk.2) (.int .i64 ((rd_T55 l1 x40_3).f1))) (fun _ hk => hk.1.1)⟩, ⟨by (with_reducible repeat (first | refine blk_drewN ?_ _ | refine blk_drew ?_ | refine blk_alloc ?_ _)); refine blk_far ?_ NB544_552.out _; (with_reducible repeat (first | refine blk_drewN ?_ _ | refine blk_drew ?_ | refine blk_alloc ?_ _)); refine blk_far ?_ NB544_552.out _; (with_reducible repeat (first | refine blk_drewN ?_ _ | refine blk_drew ?_ | refine blk_alloc ?_ _)); exact BK544.out⟩, ⟨(hg2_ GE544 GE552)⟩⟩
                ·rw [if_neg c36] at H
                 have c36b0 : (((rd_T55 l1 x40_3).f0).toList == ((rd_T55 l1 x23_2).f0).toList) = false := beq_eq_false_iff_ne.mpr c36
                 have c36b1 : (((rd_T55 l1 x40_3).f0).toList != ((rd_T55 l1 x23_2).f0).toList) = true := bne_iff_ne.mpr c36
                 have H' := Aside0.mk H
                 clear H
                 have p551 : 0 ≤ (x40_3 : Int) := od_
                 have q551 : x40_3 < (l1.length : Int) := od_
                 obtain ⟨ad551, e551, hx551_0, hx551_1⟩ := at_T55 HR1.out x40_3 p551 q551
                 obtain rfl : ad543 = ad551 := (by injection e551)
                 replace hx551_0 := cq_ HB hx551_0
                 replace hx551_1 := cq_ HB hx551_1
                 replace p551 := eq_true p551
                 replace q551 := eq_true q551
                 go_wp2_with (first | ((with_reducible refine gate_dst (N := 11) rfl ?_); refine box_event ?hg (N := 11) ?hd (cs := #[.string (⟨#[]⟩ : ByteArray), .int .i64 0]) (t := 55) ?hr ?_; (case hd => rfl); (case hg => rfl); (case hr => first | (go_simp; done) | (go_simp; rfl)); intro gb552 hg w41 hbox hb; have n0_ := Aside0.mk (Kd.R_below (Kd.R_elderB (kr_ HO_6) gb552 (Nat.le_of_eq hg.symm)) hb); have n1_ := Aside0.mk (blk_below (g := gb544) (o := .cells #[.string ((rd_T55 l1 x23_2).f0), .int .i64 ((rd_T55 l1 x23_2).f1)] 55 (0, 0)) (bk_ BK544) hb); have n2_ := Aside0.mk (below_step (hg_ GE544) hb); have n3_ := Aside0.mk (hbox); have n4_ := Aside0.mk ((by rw [hg]; exact (below_size (hg_ GE544)) : w.heap.size ≤ gb552)); have n5_ := Aside0.mk ((by rw [hg]; exact (below_size (hg_ GE544)) : w.heap.size ≤ gb552)); have n6_ := Aside0.mk ((by rw [hg]; exact Nat.ne_of_lt (blk_lt (g := gb544) (o := .cells #[.string ((rd_T55 l1 x23_2).f0), .int .i64 ((rd_T55 l1 x23_2).f1)] 55 (0, 0)) (bk_ BK544)) : gb544 ≠ gb552)); have n7_ := Aside0.mk ((by rw [hg]; exact Nat.ne_of_gt (blk_lt (g := gb544) (o := .cells #[.string ((rd_T55 l1 x23_2).f0), .int .i64 ((rd_T55 l1 x23_2).f1)] 55 (0, 0)) (bk_ BK544)) : gb552 ≠ gb544)); clear HO_6; clear BK544; clear HB; have HO_6 := n0_; have BK544 := n1_; have HB := n2_; have BK552 := n3_; have GW552 := n4_; have GE552 := n5_; have NB544_552 := n6_; have NB552_544 := n7_; clear n0_ n1_ n2_ n3_ n4_ n5_ n6_ n7_; clear hb hbox hg; have hnb42 := NB552_544.out; have hnc42 := NB544_552.out; have hcz43_0 : w41.cell? ⟨gb552, 0, none⟩ = some (.string (⟨#[]⟩ : ByteArray)) := (blk_cell BK552.out 0).trans rfl; have hcz43_1 : w41.cell? ⟨gb552, 1, none⟩ = some (.int .i64 0) := (blk_cell BK552.out 1).trans rfl; have hfz43_0 := blk_frozen BK552.out 0; have hfz43_1 := blk_frozen BK552.out 1; have hcz44_0 : w41.cell? ⟨gb544, 0, none⟩ = some (.string ((rd_T55 l1 x23_2).f0)) := (blk_cell BK544.out 0).trans rfl; have hcz44_1 : w41.cell? ⟨gb544, 1, none⟩ = some (.int .i64 ((rd_T55 l1 x23_2).f1)) := (blk_cell BK544.out 1).trans rfl; have hfz44_0 := blk_frozen BK544.out 0; have hfz44_1 := blk_frozen BK544.out 1))
                 go_roundg k3
                 case measure => have := HJ2.out; have := HK2.out; have := HK3.out; omega
                 case rel => exact ⟨(x9_3), (wrap64 (x40_3 + 1)), (by first | rfl | (simp; done) | (simp [*]; done)), (by first | rfl | (simp; done) | (simp [*]; done)), H', ⟨by have := HJ2.out; have := HK2.out; have := HK3.out; omega⟩, ⟨by (with_reducible repeat (first | apply Kd.R_alloc | apply Kd.R_drewN | apply Kd.R_drew)); exact Kd.R_mono (Kd.R_far (p := ⟨gb552, 1, none⟩) (Kd.R_far (p := ⟨gb552, 0, none⟩) (Kd.R_mono HO_6.out (fun k_ hk => (⟨hk, hk.2⟩ : _ ∧ k_ ≠ gb552))) (fun _ hk => hk.2) (.string ((rd_T55 l1 x40_3).f0))) (fun _ hk => hk.2) (.int .i64 ((rd_T55 l1 x40_3).f1))) (fun _ hk => hk.1.1)⟩, ⟨by (with_reducible repeat (first | refine blk_drewN ?_ _ | refine blk_drew ?_ | refine blk_alloc ?_ _)); refine blk_far ?_ NB544_552.out _; (with_reducible repeat (first | refine blk_drewN ?_ _ | refine blk_drew ?_ | refine blk_alloc ?_ _)); refine blk_far ?_ NB544_552.out _; (with_reducible repeat (first | refine blk_drewN ?_ _ | refine blk_drew ?_ | refine blk_alloc ?_ _)); exact BK544.out⟩, ⟨(hg2_ GE544 GE552)⟩⟩
               ·rw [if_neg c35] at H
                exact absurd H (by simp)
              ·rw [if_neg c34] at H
               exact absurd H (by simp)
             ·rw [if_neg c33] at H
              have c33b0 : decide (x40_3 < (l1.length : Int)) = false := decide_eq_false c33
              clear c33
              by_cases c45 : x9_3 > 0
              ·rw [if_pos c45] at H
               have c45b0 : decide (0 < x9_3) = true := decide_eq_true c45
               clear c45
               by_cases c46 : x6_2.length < 5864062014805
               ·rw [if_pos c46] at H
                have LMc46 := Aside0.mk c46
                clear c46
                obtain ⟨y553, hy553⟩ : ∃ y_ : List (S55), y_ = (x6_2 ++ [(⟨((rd_T55 l1 x23_2).f0), x9_3⟩ : S55)]) := ⟨_, rfl⟩
                replace H : (impl_MissingRope.l0 k3 l0 l1 y553 l1 (l1.length : Int) (wrap64 (x23_2 + 1))) = some (r1, r2) := by first | (rw [hy553]; with_reducible exact H) | (have H2_ := (Option.bind_some _ _).symm.trans H; rw [hy553]; with_reducible exact H2_) | (have H2_ := (Option.bind_some _ _).symm.trans H; with_reducible exact H2_) | with_reducible exact H | (rw [hy553]; exact H) | exact H
                have Ny553 := Aside0.mk hy553
                clear hy553
                have H' := Aside0.mk H
                clear H
                have hcz47_0 : wr.cell? ⟨gb544, 0, none⟩ = some (.string ((rd_T55 l1 x23_2).f0)) := (blk_cell BK544.out 0).trans rfl
                have hcz47_1 : wr.cell? ⟨gb544, 1, none⟩ = some (.int .i64 ((rd_T55 l1 x23_2).f1)) := (blk_cell BK544.out 1).trans rfl
                have hfz47_0 := blk_frozen BK544.out 0
                have hfz47_1 := blk_frozen BK544.out 1
                go_wp2_with (first | ((with_reducible refine gate_builtin (b := .append) (xs := #[.tmp 56, .tmp 61]) rfl ?_); at_builtin; refine Kd.R_append k55 (w0 := w) w.heap.size rfl (.tmp 56) (.tmp 61) 33 55 (.agg #[(.string ⟨#[]⟩), (.int .i64 0)]) 24 rfl Try.underlying33 info55 rfl (by decide) (by omega) u6 x6_2 (⟨((rd_T55 l1 x23_2).f0), x9_3⟩ : S55) [.string ((rd_T55 l1 x23_2).f0), .int .i64 x9_3] (fun k_ => k_ ≠ gb544) (fun _ => False) rfl rfl ?aP (fun _ hk => hk.elim) ?aF ?aO ?aB ?aS ?aL ?_; (case aP => exact k55_mkM _ _ _ (⟨((rd_T55 l1 x23_2).f0), x9_3⟩ : S55)); (case aB => exact (hg_ GE544)); (case aF => exact (fun k_ hk => Kd.freshB (g := gb544) (o := .cells #[.string ((rd_T55 l1 x23_2).f0), .int .i64 ((rd_T55 l1 x23_2).f1)] 55 (0, 0)) (bk_ BK544) k_ hk)); (case aO => exact (kr_ HO_6)); (case aS => exact (below_size (hg_ GE544))); (case aL => have := LMc46.out; omega); intro v554 w48 ho hb hg hat; rw [← Ny553.out] at ho; have n0_ := Aside0.mk (blk_grown (g := gb544) (o := .cells #[.string ((rd_T55 l1 x23_2).f0), .int .i64 ((rd_T55 l1 x23_2).f1)] 55 (0, 0)) (bk_ BK544) hg (Kd.R_away HO_6.out (fun _ hk => hk))); have n1_ := Aside0.mk (hb); have n2_ := Aside0.mk (ho); clear BK544; clear HB; clear HO_6; have BK544 := n0_; have HB := n1_; have HO555 := n2_; clear n0_ n1_ n2_; clear ho hb hg hat))
                go_roundg k3
                case measure => have := HJ2.out; have := HK2.out; have := HK3.out; omega
                case rel => exact ⟨(y553), (wrap64 (x23_2 + 1)), (by first | rfl | (simp; done) | (simp [*]; done)), H', ⟨by have := HJ2.out; have := HK2.out; have := HK3.out; omega⟩, ⟨by (with_reducible repeat (first | apply Kd.R_alloc | apply Kd.R_drewN | apply Kd.R_drew)); exact Kd.R_mono HO555.out (fun _ hk => trivial)⟩, ⟨(hg_ GE544)⟩⟩
               ·rw [if_neg c46] at H
                exact absurd H (by simp)
              ·rw [if_neg c45] at H
               have c45b0 : decide (0 < x9_3) = false := decide_eq_false c45
               clear c45
               have H' := Aside0.mk H
               clear H
               go_wp2
               go_roundg k3
               case measure => have := HJ2.out; have := HK2.out; have := HK3.out; omega
               case rel => exact ⟨(x6_2), (wrap64 (x23_2 + 1)), (by first | rfl | (simp; done) | (simp [*]; done)), H', ⟨by have := HJ2.out; have := HK2.out; have := HK3.out; omega⟩, ⟨by (with_reducible repeat (first | apply Kd.R_alloc | apply Kd.R_drewN | apply Kd.R_drew)); exact Kd.R_mono HO_6.out (fun _ hk => trivial)⟩, ⟨(hg_ GE544)⟩⟩
         ·rw [if_neg c17] at H
          exact absurd H (by simp)
        ·rw [if_neg c15] at H
         exact absurd H (by simp)
       ·rw [if_neg c14] at H
        exact absurd H (by simp)
      ·rw [if_neg c13] at H
       have c13b0 : decide (x23_2 < (l1.length : Int)) = false := decide_eq_false c13
       clear c13
       simp only [Option.some.injEq, Prod.mk.injEq] at H
       obtain ⟨rfl, rfl⟩ := H
       go_wp2
       go_ret2
       exact ⟨_, ew_, by (with_reducible repeat (first | apply Kd.R_alloc | apply Kd.R_drewN | apply Kd.R_drew)); exact HO_6.out, hb_⟩

/-! ### laws_heldWantS: function 45 -/
def laws_heldWantS.l0 : Nat → List (S55) → Int → Int → Option (Int)
 | 0, _, _, _ => none
 | k + 1, x0, x1, x5 => if x5 < (x0.length : Int) then (if 0 ≤ x5 then ((laws_markText.f k x1).bind fun t560 => (if ((rd_T55 x0 x5).f0).toList = t560.toList then (if ((rd_T55 x0 x5).f1) = (wrap64 (x1 + 1)) then (laws_heldWantS.l0 k x0 (wrap64 ((wrap64 (x1 + 1)) + 1)) (wrap64 (x5 + 1))) else (some (-1))) else (some (-1)))) else (none)) else (some x1)
def laws_heldWantS.f (k : Nat) (l0 : List (S55)) (a1 : Int) : Option (Int) := laws_heldWantS.l0 k l0 a1 0
theorem laws_heldWantS.mono_l : ∀ k, (∀ y0 y1 y2, LeO (laws_heldWantS.l0 k y0 y1 y2) (laws_heldWantS.l0 (k + 1) y0 y1 y2))
 | 0 => fun _ _ _ r h => by simp [laws_heldWantS.l0] at h
 | k + 1 => by
  have ih0 := laws_heldWantS.mono_l k
  ·intro y0 y1 y2
   unfold laws_heldWantS.l0
   repeat' first
   | (with_reducible exact ih0 _ _ _)
   | (with_reducible exact laws_markText.mono _ _)
   | (with_reducible exact LeO.refl _)
   | (with_reducible exact LeO.none _)
   | (with_reducible refine LeO.ite ?_ ?_)
   | (with_reducible refine LeO.bind ?_ (fun _ => ?_))
   | exact ih0 _ _ _
   | exact laws_markText.mono _ _
   | exact LeO.none _
   | refine LeO.ite ?_ ?_
   | refine LeO.bind ?_ (fun _ => ?_)
theorem laws_heldWantS.mono : ∀ a0 a1 k, LeO (laws_heldWantS.f k a0 a1) (laws_heldWantS.f (k + 1) a0 a1) := by
 intro a0 a1 k
 have ih0 := laws_heldWantS.mono_l k
 unfold laws_heldWantS.f
 repeat' first
   | (with_reducible exact ih0 _ _ _)
   | (with_reducible exact laws_markText.mono _ _)
   | (with_reducible exact LeO.refl _)
   | (with_reducible exact LeO.none _)
   | (with_reducible refine LeO.ite ?_ ?_)
   | (with_reducible refine LeO.bind ?_ (fun _ => ?_))
   | exact ih0 _ _ _
   | exact laws_markText.mono _ _
   | exact LeO.none _
   | refine LeO.ite ?_ ?_
   | refine LeO.bind ?_ (fun _ => ?_)
def laws_heldWantS.T4 : Bool × List (List Nat × List Nat) := (true, [([], []), ([], []), ([0, 1], [0, 1]), ([2], [2]), ([3], [3]), ([], []), ([5], [5]), ([4, 6], [4, 6])])
def laws_heldWantS.B4 : List Nat := [0, 0, 3, 7, 15, 0, 32, 127]
theorem laws_heldWantS.tab4 : rtab .any (opsOf Try.f45 4) = laws_heldWantS.T4 := by kernel_rfl
theorem laws_heldWantS.bits4 : waitsOk laws_heldWantS.T4.2 laws_heldWantS.B4 = true := by kernel_rfl
set_option maxHeartbeats 8000000 in
set_option maxRecDepth 100000 in
theorem laws_heldWantS.calls (k : Nat) (A0 : Option Addr) (c0 : Nat) (l0 : List (S55)) (a1 : Int) (r : Int) (w : World) (hr0 : Kd.C k55 w A0 l0.length l0) (hc0 : l0.length ≤ c0) (h : laws_heldWantS.f k l0 a1 = some r) :
  Calls Try.prog 45 #[.slice A0 l0.length c0, .int .i64 a1] w fun e w' => e = .returned (.int .i64 r) ∧ Below w.heap.size w w' := by
 have HR0 := Aside0.mk hr0
 have HC0 := Aside0.mk hc0
 clear hr0 hc0
 have HB := Aside0.mk (Below.refl w.heap.size w)
 have H : (laws_heldWantS.l0 k l0 a1 0) = some r := h
 clear h
 have H' := Aside0.mk H
 clear H
 go_enter Try.func45, Try.ntmps45
 go_wp2
 go_loopg [1, 5] k (fun kq v1 v5 w' => ∃ (x1_1 : Int) (x5_1 : Int), v1 = .int .i64 x1_1 ∧ v5 = .int .i64 x5_1 ∧ Aside0 (laws_heldWantS.l0 kq l0 x1_1 x5_1 = some r) ∧ Aside0 (kq ≤ k) ∧ Aside0 (Below w.heap.size w w'))
 case atStart => exact ⟨(a1), (0), (by first | rfl | (simp; done) | (simp [*]; done)), (by first | rfl | (simp; done) | (simp [*]; done)), H', ⟨Nat.le_refl _⟩, ⟨hb_⟩⟩
 case round =>
  clear H'
  try clear p2
  obtain ⟨x1_1, x5_1, rfl, rfl, HA, HK1, HB⟩ := hrel
  cases gk with
  | zero => exact absurd HA.out (by simp [laws_heldWantS.l0])
  | succ k1 =>
   have H := HA.out
   clear HA
   simp only [laws_heldWantS.l0] at H
   by_cases c3 : x5_1 < (l0.length : Int)
   ·rw [if_pos c3] at H
    have c3b0 : decide (x5_1 < (l0.length : Int)) = true := decide_eq_true c3
    clear c3
    by_cases c4 : 0 ≤ x5_1
    ·rw [if_pos c4] at H
     have c4b0 : decide (0 ≤ x5_1) = true := decide_eq_true c4
     clear c4
     replace H := Option.bind_eq_some_iff.mp H
     obtain ⟨t560, A50, H⟩ := H
     replace H : (if ((rd_T55 l0 x5_1).f0).toList = t560.toList then (if ((rd_T55 l0 x5_1).f1) = (wrap64 (x1_1 + 1)) then (laws_heldWantS.l0 k1 l0 (wrap64 ((wrap64 (x1_1 + 1)) + 1)) (wrap64 (x5_1 + 1))) else (some (-1))) else (some (-1))) = some r := H
     have A5 := Aside0.mk A50
     clear A50
     by_cases c6 : ((rd_T55 l0 x5_1).f0).toList = t560.toList
     ·rw [if_pos c6] at H
      have c6b0 : (((rd_T55 l0 x5_1).f0).toList == t560.toList) = true := beq_iff_eq.mpr c6
      have c6b1 : (((rd_T55 l0 x5_1).f0).toList != t560.toList) = false := bne_eq_false_iff_eq.mpr c6
      clear c6
      by_cases c7 : ((rd_T55 l0 x5_1).f1) = (wrap64 (x1_1 + 1))
      ·rw [if_pos c7] at H
       have c7b0 : (((rd_T55 l0 x5_1).f1) == (wrap64 (x1_1 + 1))) = true := beq_iff_eq.mpr c7
       have c7b1 : (((rd_T55 l0 x5_1).f1) != (wrap64 (x1_1 + 1))) = false := bne_eq_false_iff_eq.mpr c7
       clear c7
       have H' := Aside0.mk H
       clear H
       try go_wp2
       have n0_ := Aside0.mk (below_drew1 HB.out)
       clear HB
       have HB := n0_
       clear n0_
       have p559 : 0 ≤ (x5_1 : Int) := od_
       have q559 : x5_1 < (l0.length : Int) := od_
       obtain ⟨ad559, e559, hx559_0, hx559_1⟩ := at_T55 HR0.out x5_1 p559 q559
       have hw559_1 := hx559_1
       have hw559_0 := hx559_0
       cases e559
       replace hx559_0 := cq_ HB hx559_0
       replace hx559_1 := cq_ HB hx559_1
       replace p559 := eq_true p559
       replace q559 := eq_true q559
       refine start_ (n := 8) (S := fun w' => w'.cell? (ad559.add ((x5_1).toNat * 2)) = some (.string ((rd_T55 l0 x5_1).f0)) ∧ w'.cell? ⟨(ad559.add ((x5_1).toNat * 2)).block, (ad559.add ((x5_1).toNat * 2)).off + 1, none⟩ = some (.int .i64 ((rd_T55 l0 x5_1).f1))) (ds := []) #[F_,F_,F_,F_,F_,F_,F_,F_] (by kernel_rfl) rfl rfl ⟨((HB.out.cell (World.block_lt_of_cell? w _ hw559_0)).trans hw559_0), ((HB.out.cell (World.block_lt_of_cell? w _ hw559_1)).trans hw559_1)⟩ (fun hHeld => ?_); refine with_tabW laws_heldWantS.tab4 laws_heldWantS.bits4 (fun HT_ HW_ => ?_)
       generalize wr.drew = w8 at HB hx559_0 hx559_1 hHeld ⊢
       refine pu (i := 0) (N := some 12) #[T_,F_,F_,F_,F_,F_,F_,F_] HT_ ?_
       refine pu (i := 1) (N := some 13) #[T_,T_,F_,F_,F_,F_,F_,F_] HT_ ?_
       refine pu (i := 2) (N := some 14) #[T_,T_,T_,F_,F_,F_,F_,F_] HT_ ?_
       refine pu (i := 3) (N := some 15) #[T_,T_,T_,T_,F_,F_,F_,F_] HT_ ?_
       refine pu (i := 5) (N := some 17) #[T_,T_,T_,T_,F_,T_,F_,F_] HT_ ?_
       refine take_ (i := 4) (N := some 16) (v := ?_) (a' := ?_) #[T_,T_,T_,T_,T_,T_,F_,F_] rfl rfl (take_ofW HT_.out HW_.out (by kernel_rfl)) (fun _ _ _ h => h) (Or.inl ⟨by rfl, ?_⟩) hHeld ?_ ?_
       rotate_left
       ·rintro w' ⟨s0, s1⟩
        go_simp
        with_reducible rfl
       rotate_left
       ·simp only [Act.put, sT_, s0_, sS_, i64_w, i32_w]
        rfl
       refine one_ (i := 6) (N := some 18) #[T_,T_,T_,T_,T_,T_,T_,F_] rfl rfl (one_of HT_.out (by kernel_rfl)) (by decide) (fun K hK => ?_)
       refine goes_ Try.func65 (by kernel_rfl) rfl #[.int .i64 x1_1] (by rfl) rfl rfl ln_ ?_
       with_reducible refine (laws_markText.calls k1 x1_1 t560 _ A5.out).mono ?_
       rintro e w9 ⟨rfl, hb⟩
       refine ⟨_, rfl, ?_⟩
       have n0_ := Aside0.mk (below_step hb_ hb)
       clear HB
       have HB := n0_
       clear n0_
       (try clear hb)
       (try clear hb2)
       (try clear hk)
       (try clear hi)
       refine hK.out _ _ ⟨((HB.out.cell (World.block_lt_of_cell? w _ hw559_0)).trans hw559_0), ((HB.out.cell (World.block_lt_of_cell? w _ hw559_1)).trans hw559_1)⟩ (fun hHeld => ?_)
       clear hK K
       refine norm_ (a' := ?_) ?_ ?_
       rotate_left
       ·show Act.put _ (some 18) _ = _
        simp only [Act.put, sT_, s0_, sS_, i64_w, i32_w]
        rfl
       refine pu (i := 7) (N := some 19) #[T_,T_,T_,T_,T_,T_,T_,T_] HT_ ?_
       refine done_ (done_of HT_.out (by kernel_rfl)) ?_
       have p561 : 0 ≤ (x5_1 : Int) := od_
       have q561 : x5_1 < (l0.length : Int) := od_
       obtain ⟨ad561, e561, hx561_0, hx561_1⟩ := at_T55 HR0.out x5_1 p561 q561
       obtain rfl : ad559 = ad561 := (by injection e561)
       replace hx561_0 := cq_ HB hx561_0
       replace hx561_1 := cq_ HB hx561_1
       replace p561 := eq_true p561
       replace q561 := eq_true q561
       try go_wp2
       go_roundg k1
       case measure => have := HK1.out; omega
       case rel => exact ⟨(wrap64 ((wrap64 (x1_1 + 1)) + 1)), (wrap64 (x5_1 + 1)), (by first | rfl | (simp; done) | (simp [*]; done)), (by first | rfl | (simp; done) | (simp [*]; done)), H', ⟨by have := HK1.out; omega⟩, ⟨hb_⟩⟩
      ·rw [if_neg c7] at H
       have c7b0 : (((rd_T55 l0 x5_1).f1) == (wrap64 (x1_1 + 1))) = false := beq_eq_false_iff_ne.mpr c7
       have c7b1 : (((rd_T55 l0 x5_1).f1) != (wrap64 (x1_1 + 1))) = true := bne_iff_ne.mpr c7
       obtain rfl := Option.some.inj H
       try go_wp2
       have n0_ := Aside0.mk (below_drew1 HB.out)
       clear HB
       have HB := n0_
       clear n0_
       have p559 : 0 ≤ (x5_1 : Int) := od_
       have q559 : x5_1 < (l0.length : Int) := od_
       obtain ⟨ad559, e559, hx559_0, hx559_1⟩ := at_T55 HR0.out x5_1 p559 q559
       have hw559_1 := hx559_1
       have hw559_0 := hx559_0
       cases e559
       replace hx559_0 := cq_ HB hx559_0
       replace hx559_1 := cq_ HB hx559_1
       replace p559 := eq_true p559
       replace q559 := eq_true q559
       refine start_ (n := 8) (S := fun w' => w'.cell? (ad559.add ((x5_1).toNat * 2)) = some (.string ((rd_T55 l0 x5_1).f0)) ∧ w'.cell? ⟨(ad559.add ((x5_1).toNat * 2)).block, (ad559.add ((x5_1).toNat * 2)).off + 1, none⟩ = some (.int .i64 ((rd_T55 l0 x5_1).f1))) (ds := []) #[F_,F_,F_,F_,F_,F_,F_,F_] (by kernel_rfl) rfl rfl ⟨((HB.out.cell (World.block_lt_of_cell? w _ hw559_0)).trans hw559_0), ((HB.out.cell (World.block_lt_of_cell? w _ hw559_1)).trans hw559_1)⟩ (fun hHeld => ?_); refine with_tabW laws_heldWantS.tab4 laws_heldWantS.bits4 (fun HT_ HW_ => ?_)
       generalize wr.drew = w10 at HB hx559_0 hx559_1 hHeld ⊢
       refine pu (i := 0) (N := some 12) #[T_,F_,F_,F_,F_,F_,F_,F_] HT_ ?_
       refine pu (i := 1) (N := some 13) #[T_,T_,F_,F_,F_,F_,F_,F_] HT_ ?_
       refine pu (i := 2) (N := some 14) #[T_,T_,T_,F_,F_,F_,F_,F_] HT_ ?_
       refine pu (i := 3) (N := some 15) #[T_,T_,T_,T_,F_,F_,F_,F_] HT_ ?_
       refine pu (i := 5) (N := some 17) #[T_,T_,T_,T_,F_,T_,F_,F_] HT_ ?_
       refine take_ (i := 4) (N := some 16) (v := ?_) (a' := ?_) #[T_,T_,T_,T_,T_,T_,F_,F_] rfl rfl (take_ofW HT_.out HW_.out (by kernel_rfl)) (fun _ _ _ h => h) (Or.inl ⟨by rfl, ?_⟩) hHeld ?_ ?_
       rotate_left
       ·rintro w' ⟨s0, s1⟩
        go_simp
        with_reducible rfl
       rotate_left
       ·simp only [Act.put, sT_, s0_, sS_, i64_w, i32_w]
        rfl
       refine one_ (i := 6) (N := some 18) #[T_,T_,T_,T_,T_,T_,T_,F_] rfl rfl (one_of HT_.out (by kernel_rfl)) (by decide) (fun K hK => ?_)
       refine goes_ Try.func65 (by kernel_rfl) rfl #[.int .i64 x1_1] (by rfl) rfl rfl ln_ ?_
       with_reducible refine (laws_markText.calls k1 x1_1 t560 _ A5.out).mono ?_
       rintro e w11 ⟨rfl, hb⟩
       refine ⟨_, rfl, ?_⟩
       have n0_ := Aside0.mk (below_step hb_ hb)
       clear HB
       have HB := n0_
       clear n0_
       (try clear hb)
       (try clear hb2)
       (try clear hk)
       (try clear hi)
       refine hK.out _ _ ⟨((HB.out.cell (World.block_lt_of_cell? w _ hw559_0)).trans hw559_0), ((HB.out.cell (World.block_lt_of_cell? w _ hw559_1)).trans hw559_1)⟩ (fun hHeld => ?_)
       clear hK K
       refine norm_ (a' := ?_) ?_ ?_
       rotate_left
       ·show Act.put _ (some 18) _ = _
        simp only [Act.put, sT_, s0_, sS_, i64_w, i32_w]
        rfl
       refine pu (i := 7) (N := some 19) #[T_,T_,T_,T_,T_,T_,T_,T_] HT_ ?_
       refine done_ (done_of HT_.out (by kernel_rfl)) ?_
       have p561 : 0 ≤ (x5_1 : Int) := od_
       have q561 : x5_1 < (l0.length : Int) := od_
       obtain ⟨ad561, e561, hx561_0, hx561_1⟩ := at_T55 HR0.out x5_1 p561 q561
       obtain rfl : ad559 = ad561 := (by injection e561)
       replace hx561_0 := cq_ HB hx561_0
       replace hx561_1 := cq_ HB hx561_1
       replace p561 := eq_true p561
       replace q561 := eq_true q561
       try go_wp2
       go_ret
       exact ⟨ew_, hb_⟩
     ·rw [if_neg c6] at H
      have c6b0 : (((rd_T55 l0 x5_1).f0).toList == t560.toList) = false := beq_eq_false_iff_ne.mpr c6
      have c6b1 : (((rd_T55 l0 x5_1).f0).toList != t560.toList) = true := bne_iff_ne.mpr c6
      obtain rfl := Option.some.inj H
      try go_wp2
      have n0_ := Aside0.mk (below_drew1 HB.out)
      clear HB
      have HB := n0_
      clear n0_
      have p559 : 0 ≤ (x5_1 : Int) := od_
      have q559 : x5_1 < (l0.length : Int) := od_
      obtain ⟨ad559, e559, hx559_0, hx559_1⟩ := at_T55 HR0.out x5_1 p559 q559
      have hw559_1 := hx559_1
      have hw559_0 := hx559_0
      cases e559
      replace hx559_0 := cq_ HB hx559_0
      replace hx559_1 := cq_ HB hx559_1
      replace p559 := eq_true p559
      replace q559 := eq_true q559
      refine start_ (n := 8) (S := fun w' => w'.cell? (ad559.add ((x5_1).toNat * 2)) = some (.string ((rd_T55 l0 x5_1).f0)) ∧ w'.cell? ⟨(ad559.add ((x5_1).toNat * 2)).block, (ad559.add ((x5_1).toNat * 2)).off + 1, none⟩ = some (.int .i64 ((rd_T55 l0 x5_1).f1))) (ds := []) #[F_,F_,F_,F_,F_,F_,F_,F_] (by kernel_rfl) rfl rfl ⟨((HB.out.cell (World.block_lt_of_cell? w _ hw559_0)).trans hw559_0), ((HB.out.cell (World.block_lt_of_cell? w _ hw559_1)).trans hw559_1)⟩ (fun hHeld => ?_); refine with_tabW laws_heldWantS.tab4 laws_heldWantS.bits4 (fun HT_ HW_ => ?_)
      generalize wr.drew = w12 at HB hx559_0 hx559_1 hHeld ⊢
      refine pu (i := 0) (N := some 12) #[T_,F_,F_,F_,F_,F_,F_,F_] HT_ ?_
      refine pu (i := 1) (N := some 13) #[T_,T_,F_,F_,F_,F_,F_,F_] HT_ ?_
      refine pu (i := 2) (N := some 14) #[T_,T_,T_,F_,F_,F_,F_,F_] HT_ ?_
      refine pu (i := 3) (N := some 15) #[T_,T_,T_,T_,F_,F_,F_,F_] HT_ ?_
      refine pu (i := 5) (N := some 17) #[T_,T_,T_,T_,F_,T_,F_,F_] HT_ ?_
      refine take_ (i := 4) (N := some 16) (v := ?_) (a' := ?_) #[T_,T_,T_,T_,T_,T_,F_,F_] rfl rfl (take_ofW HT_.out HW_.out (by kernel_rfl)) (fun _ _ _ h => h) (Or.inl ⟨by rfl, ?_⟩) hHeld ?_ ?_
      rotate_left
      ·rintro w' ⟨s0, s1⟩
       go_simp
       with_reducible rfl
      rotate_left
      ·simp only [Act.put, sT_, s0_, sS_, i64_w, i32_w]
       rfl
      refine one_ (i := 6) (N := some 18) #[T_,T_,T_,T_,T_,T_,T_,F_] rfl rfl (one_of HT_.out (by kernel_rfl)) (by decide) (fun K hK => ?_)
      refine goes_ Try.func65 (by kernel_rfl) rfl #[.int .i64 x1_1] (by rfl) rfl rfl ln_ ?_
      with_reducible refine (laws_markText.calls k1 x1_1 t560 _ A5.out).mono ?_
      rintro e w13 ⟨rfl, hb⟩
      refine ⟨_, rfl, ?_⟩
      have n0_ := Aside0.mk (below_step hb_ hb)
      clear HB
      have HB := n0_
      clear n0_
      (try clear hb)
      (try clear hb2)
      (try clear hk)
      (try clear hi)
      refine hK.out _ _ ⟨((HB.out.cell (World.block_lt_of_cell? w _ hw559_0)).trans hw559_0), ((HB.out.cell (World.block_lt_of_cell? w _ hw559_1)).trans hw559_1)⟩ (fun hHeld => ?_)
      clear hK K
      refine norm_ (a' := ?_) ?_ ?_
      rotate_left
      ·show Act.put _ (some 18) _ = _
       simp only [Act.put, sT_, s0_, sS_, i64_w, i32_w]
       rfl
      refine pu (i := 7) (N := some 19) #[T_,T_,T_,T_,T_,T_,T_,T_] HT_ ?_
      refine done_ (done_of HT_.out (by kernel_rfl)) ?_
      try go_wp2
      go_ret
      exact ⟨ew_, hb_⟩
    ·rw [if_neg c4] at H
     exact absurd H (by simp)
   ·rw [if_neg c3] at H
    have c3b0 : decide (x5_1 < (l0.length : Int)) = false := decide_eq_false c3
    clear c3
    obtain rfl := Option.some.inj H
    go_wp2
    go_ret
    exact ⟨ew_, hb_⟩

/-! ### laws_FnExactMissingRope: function 11 -/
mutual
def laws_FnExactMissingRope.j0 : Nat → List (S41) → List (S52) → List (S55) → Int → List (S45) → List (S55) → List (S55) → Int → Bool → Option (Bool)
 | 0, _, _, _, _, _, _, _, _, _ => none
 | k + 1, x0, x1, x6, x7, x8, x9, x10, x11, x53 => if x53 = true then (some false) else ((laws_toCoilS.f k x0).bind fun t585 => ((laws_eqCoilS.f k x8 t585).bind fun t588 => (if t588 = true then ((laws_toWantS.f k x1).bind fun t589 => ((laws_eqWantS.f k x9 t589).bind fun t592 => (if t592 = true then ((laws_markCoilS.f k x8 1).bind fun bt593 => ((laws_markWantS.f k x9 bt593.1).bind fun bt595 => (if bt595.1 < 0 then (laws_FnExactMissingRope.j1 k x0 x1 x6 x7 x10 true) else ((laws_eqWantS.f k x10 x6).bind fun t597 => (if t597 = true then (laws_FnExactMissingRope.j1 k x0 x1 x6 x7 x10 (x11 != x7)) else (laws_FnExactMissingRope.j1 k x0 x1 x6 x7 x10 true)))))) else (some false)))) else (some false))))
def laws_FnExactMissingRope.j1 : Nat → List (S41) → List (S52) → List (S55) → Int → List (S55) → Bool → Option (Bool)
 | 0, _, _, _, _, _, _ => none
 | k + 1, x0, x1, x6, x7, x10, x82 => if x82 = true then (some false) else ((laws_markWantS.f k x10 1).bind fun bt598 => ((laws_heldWantS.f k bt598.2 1).bind fun t600 => (if t600 < 0 then (some false) else (if t600 = bt598.1 then ((laws_toCoilS.f k x0).bind fun t601 => ((laws_toWantS.f k x1).bind fun t604 => ((impl_MissingRope.f k t601 t604).bind fun bt607 => ((laws_eqWantS.f k bt607.1 x6).bind fun t611 => (if t611 = true then (laws_FnExactMissingRope.j2 k bt598.2 bt598.1 (bt607.2 != x7)) else (laws_FnExactMissingRope.j2 k bt598.2 bt598.1 true)))))) else (some false)))))
def laws_FnExactMissingRope.j2 : Nat → List (S55) → Int → Bool → Option (Bool)
 | 0, _, _, _ => none
 | k + 1, x10, x13, x110 => if x110 = true then (some false) else ((laws_heldWantS.f k x10 1).bind fun t612 => (if t612 < 0 then (some false) else (if t612 = x13 then (some true) else (some false))))
end
def laws_FnExactMissingRope.f (k : Nat) (l0 : List (S41)) (l1 : List (S52)) : Option (Bool) := (laws_szCoilS.f k l0 1048576).bind fun t562 => (if t562 < 0 then (some true) else ((laws_szWantS.f k l1 t562).bind fun t563 => (if t563 < 0 then (some true) else ((laws_toCoilS.f k l0).bind fun t564 => ((laws_toWantS.f k l1).bind fun t567 => ((spec_MissingRope.f k t564 t567).bind fun bt570 => ((laws_toCoilS.f k l0).bind fun t574 => ((laws_toWantS.f k l1).bind fun t577 => ((impl_MissingRope.f k t574 t577).bind fun bt580 => ((laws_eqWantS.f k bt580.1 bt570.1).bind fun t584 => (if t584 = true then (laws_FnExactMissingRope.j0 k l0 l1 bt570.1 bt570.2 t574 t577 bt580.1 bt580.2 (bt580.2 != bt570.2)) else (laws_FnExactMissingRope.j0 k l0 l1 bt570.1 bt570.2 t574 t577 bt580.1 bt580.2 true))))))))))))
theorem laws_FnExactMissingRope.mono_l : ∀ k, (∀ y0 y1 y2 y3 y4 y5 y6 y7 y8, LeO (laws_FnExactMissingRope.j0 k y0 y1 y2 y3 y4 y5 y6 y7 y8) (laws_FnExactMissingRope.j0 (k + 1) y0 y1 y2 y3 y4 y5 y6 y7 y8)) ∧ (∀ y0 y1 y2 y3 y4 y5, LeO (laws_FnExactMissingRope.j1 k y0 y1 y2 y3 y4 y5) (laws_FnExactMissingRope.j1 (k + 1) y0 y1 y2 y3 y4 y5)) ∧ (∀ y0 y1 y2, LeO (laws_FnExactMissingRope.j2 k y0 y1 y2) (laws_FnExactMissingRope.j2 (k + 1) y0 y1 y2))
 | 0 => ⟨fun _ _ _ _ _ _ _ _ _ r h => by simp [laws_FnExactMissingRope.j0] at h, fun _ _ _ _ _ _ r h => by simp [laws_FnExactMissingRope.j1] at h, fun _ _ _ r h => by simp [laws_FnExactMissingRope.j2] at h⟩
 | k + 1 => by
  obtain ⟨ih0, ih1, ih2⟩ := laws_FnExactMissingRope.mono_l k
  refine ⟨?_, ?_, ?_⟩
  ·intro y0 y1 y2 y3 y4 y5 y6 y7 y8
   unfold laws_FnExactMissingRope.j0
   repeat' first
   | (with_reducible exact ih0 _ _ _ _ _ _ _ _ _)
   | (with_reducible exact ih1 _ _ _ _ _ _)
   | (with_reducible exact ih2 _ _ _)
   | (with_reducible exact impl_MissingRope.mono _ _ _)
   | (with_reducible exact laws_eqCoilS.mono _ _ _)
   | (with_reducible exact laws_eqWantS.mono _ _ _)
   | (with_reducible exact laws_heldWantS.mono _ _ _)
   | (with_reducible exact laws_markCoilS.mono _ _ _)
   | (with_reducible exact laws_markWantS.mono _ _ _)
   | (with_reducible exact laws_szCoilS.mono _ _ _)
   | (with_reducible exact laws_szWantS.mono _ _ _)
   | (with_reducible exact laws_toCoilS.mono _ _)
   | (with_reducible exact laws_toWantS.mono _ _)
   | (with_reducible exact spec_MissingRope.mono _ _ _)
   | (with_reducible exact LeO.refl _)
   | (with_reducible exact LeO.none _)
   | (with_reducible refine LeO.ite ?_ ?_)
   | (with_reducible refine LeO.bind ?_ (fun _ => ?_))
   | exact ih0 _ _ _ _ _ _ _ _ _
   | exact ih1 _ _ _ _ _ _
   | exact ih2 _ _ _
   | exact impl_MissingRope.mono _ _ _
   | exact laws_eqCoilS.mono _ _ _
   | exact laws_eqWantS.mono _ _ _
   | exact laws_heldWantS.mono _ _ _
   | exact laws_markCoilS.mono _ _ _
   | exact laws_markWantS.mono _ _ _
   | exact laws_szCoilS.mono _ _ _
   | exact laws_szWantS.mono _ _ _
   | exact laws_toCoilS.mono _ _
   | exact laws_toWantS.mono _ _
   | exact spec_MissingRope.mono _ _ _
   | exact LeO.none _
   | refine LeO.ite ?_ ?_
   | refine LeO.bind ?_ (fun _ => ?_)
  ·intro y0 y1 y2 y3 y4 y5
   unfold laws_FnExactMissingRope.j1
   repeat' first
   | (with_reducible exact ih0 _ _ _ _ _ _ _ _ _)
   | (with_reducible exact ih1 _ _ _ _ _ _)
   | (with_reducible exact ih2 _ _ _)
   | (with_reducible exact impl_MissingRope.mono _ _ _)
   | (with_reducible exact laws_eqCoilS.mono _ _ _)
   | (with_reducible exact laws_eqWantS.mono _ _ _)
   | (with_reducible exact laws_heldWantS.mono _ _ _)
   | (with_reducible exact laws_markCoilS.mono _ _ _)
   | (with_reducible exact laws_markWantS.mono _ _ _)
   | (with_reducible exact laws_szCoilS.mono _ _ _)
   | (with_reducible exact laws_szWantS.mono _ _ _)
   | (with_reducible exact laws_toCoilS.mono _ _)
   | (with_reducible exact laws_toWantS.mono _ _)
   | (with_reducible exact spec_MissingRope.mono _ _ _)
   | (with_reducible exact LeO.refl _)
   | (with_reducible exact LeO.none _)
   | (with_reducible refine LeO.ite ?_ ?_)
   | (with_reducible refine LeO.bind ?_ (fun _ => ?_))
   | exact ih0 _ _ _ _ _ _ _ _ _
   | exact ih1 _ _ _ _ _ _
   | exact ih2 _ _ _
   | exact impl_MissingRope.mono _ _ _
   | exact laws_eqCoilS.mono _ _ _
   | exact laws_eqWantS.mono _ _ _
   | exact laws_heldWantS.mono _ _ _
   | exact laws_markCoilS.mono _ _ _
   | exact laws_markWantS.mono _ _ _
   | exact laws_szCoilS.mono _ _ _
   | exact laws_szWantS.mono _ _ _
   | exact laws_toCoilS.mono _ _
   | exact laws_toWantS.mono _ _
   | exact spec_MissingRope.mono _ _ _
   | exact LeO.none _
   | refine LeO.ite ?_ ?_
   | refine LeO.bind ?_ (fun _ => ?_)
  ·intro y0 y1 y2
   unfold laws_FnExactMissingRope.j2
   repeat' first
   | (with_reducible exact ih0 _ _ _ _ _ _ _ _ _)
   | (with_reducible exact ih1 _ _ _ _ _ _)
   | (with_reducible exact ih2 _ _ _)
   | (with_reducible exact impl_MissingRope.mono _ _ _)
   | (with_reducible exact laws_eqCoilS.mono _ _ _)
   | (with_reducible exact laws_eqWantS.mono _ _ _)
   | (with_reducible exact laws_heldWantS.mono _ _ _)
   | (with_reducible exact laws_markCoilS.mono _ _ _)
   | (with_reducible exact laws_markWantS.mono _ _ _)
   | (with_reducible exact laws_szCoilS.mono _ _ _)
   | (with_reducible exact laws_szWantS.mono _ _ _)
   | (with_reducible exact laws_toCoilS.mono _ _)
   | (with_reducible exact laws_toWantS.mono _ _)
   | (with_reducible exact spec_MissingRope.mono _ _ _)
   | (with_reducible exact LeO.refl _)
   | (with_reducible exact LeO.none _)
   | (with_reducible refine LeO.ite ?_ ?_)
   | (with_reducible refine LeO.bind ?_ (fun _ => ?_))
   | exact ih0 _ _ _ _ _ _ _ _ _
   | exact ih1 _ _ _ _ _ _
   | exact ih2 _ _ _
   | exact impl_MissingRope.mono _ _ _
   | exact laws_eqCoilS.mono _ _ _
   | exact laws_eqWantS.mono _ _ _
   | exact laws_heldWantS.mono _ _ _
   | exact laws_markCoilS.mono _ _ _
   | exact laws_markWantS.mono _ _ _
   | exact laws_szCoilS.mono _ _ _
   | exact laws_szWantS.mono _ _ _
   | exact laws_toCoilS.mono _ _
   | exact laws_toWantS.mono _ _
   | exact spec_MissingRope.mono _ _ _
   | exact LeO.none _
   | refine LeO.ite ?_ ?_
   | refine LeO.bind ?_ (fun _ => ?_)
theorem laws_FnExactMissingRope.mono : ∀ a0 a1 k, LeO (laws_FnExactMissingRope.f k a0 a1) (laws_FnExactMissingRope.f (k + 1) a0 a1) := by
 intro a0 a1 k
 obtain ⟨ih0, ih1, ih2⟩ := laws_FnExactMissingRope.mono_l k
 unfold laws_FnExactMissingRope.f
 repeat' first
   | (with_reducible exact ih0 _ _ _ _ _ _ _ _ _)
   | (with_reducible exact ih1 _ _ _ _ _ _)
   | (with_reducible exact ih2 _ _ _)
   | (with_reducible exact impl_MissingRope.mono _ _ _)
   | (with_reducible exact laws_eqCoilS.mono _ _ _)
   | (with_reducible exact laws_eqWantS.mono _ _ _)
   | (with_reducible exact laws_heldWantS.mono _ _ _)
   | (with_reducible exact laws_markCoilS.mono _ _ _)
   | (with_reducible exact laws_markWantS.mono _ _ _)
   | (with_reducible exact laws_szCoilS.mono _ _ _)
   | (with_reducible exact laws_szWantS.mono _ _ _)
   | (with_reducible exact laws_toCoilS.mono _ _)
   | (with_reducible exact laws_toWantS.mono _ _)
   | (with_reducible exact spec_MissingRope.mono _ _ _)
   | (with_reducible exact LeO.refl _)
   | (with_reducible exact LeO.none _)
   | (with_reducible refine LeO.ite ?_ ?_)
   | (with_reducible refine LeO.bind ?_ (fun _ => ?_))
   | exact ih0 _ _ _ _ _ _ _ _ _
   | exact ih1 _ _ _ _ _ _
   | exact ih2 _ _ _
   | exact impl_MissingRope.mono _ _ _
   | exact laws_eqCoilS.mono _ _ _
   | exact laws_eqWantS.mono _ _ _
   | exact laws_heldWantS.mono _ _ _
   | exact laws_markCoilS.mono _ _ _
   | exact laws_markWantS.mono _ _ _
   | exact laws_szCoilS.mono _ _ _
   | exact laws_szWantS.mono _ _ _
   | exact laws_toCoilS.mono _ _
   | exact laws_toWantS.mono _ _
   | exact spec_MissingRope.mono _ _ _
   | exact LeO.none _
   | refine LeO.ite ?_ ?_
   | refine LeO.bind ?_ (fun _ => ?_)
set_option maxHeartbeats 8000000 in
set_option maxRecDepth 100000 in
theorem laws_FnExactMissingRope.calls (k : Nat) (A0 : Option Addr) (c0 : Nat) (l0 : List (S41)) (A1 : Option Addr) (c1 : Nat) (l1 : List (S52)) (r : Bool) (w : World) (hr0 : Kd.C k41 w A0 l0.length l0) (hc0 : l0.length ≤ c0) (hr1 : Kd.C k52 w A1 l1.length l1) (hc1 : l1.length ≤ c1) (h : laws_FnExactMissingRope.f k l0 l1 = some r) :
  Calls Try.prog 11 #[.slice A0 l0.length c0, .slice A1 l1.length c1] w fun e w' => e = .returned (.bool r) ∧ Below w.heap.size w w' := by
 have HR0 := Aside0.mk hr0
 have HC0 := Aside0.mk hc0
 clear hr0 hc0
 have HR1 := Aside0.mk hr1
 have HC1 := Aside0.mk hc1
 clear hr1 hc1
 have HB := Aside0.mk (Below.refl w.heap.size w)
 have H : ((laws_szCoilS.f k l0 1048576).bind fun t562 => (if t562 < 0 then (some true) else ((laws_szWantS.f k l1 t562).bind fun t563 => (if t563 < 0 then (some true) else ((laws_toCoilS.f k l0).bind fun t564 => ((laws_toWantS.f k l1).bind fun t567 => ((spec_MissingRope.f k t564 t567).bind fun bt570 => ((laws_toCoilS.f k l0).bind fun t574 => ((laws_toWantS.f k l1).bind fun t577 => ((impl_MissingRope.f k t574 t577).bind fun bt580 => ((laws_eqWantS.f k bt580.1 bt570.1).bind fun t584 => (if t584 = true then (laws_FnExactMissingRope.j0 k l0 l1 bt570.1 bt570.2 t574 t577 bt580.1 bt580.2 (bt580.2 != bt570.2)) else (laws_FnExactMissingRope.j0 k l0 l1 bt570.1 bt570.2 t574 t577 bt580.1 bt580.2 true))))))))))))) = some r := h
 clear h
 replace H := Option.bind_eq_some_iff.mp H
 obtain ⟨t562, A30, H⟩ := H
 replace H : (if t562 < 0 then (some true) else ((laws_szWantS.f k l1 t562).bind fun t563 => (if t563 < 0 then (some true) else ((laws_toCoilS.f k l0).bind fun t564 => ((laws_toWantS.f k l1).bind fun t567 => ((spec_MissingRope.f k t564 t567).bind fun bt570 => ((laws_toCoilS.f k l0).bind fun t574 => ((laws_toWantS.f k l1).bind fun t577 => ((impl_MissingRope.f k t574 t577).bind fun bt580 => ((laws_eqWantS.f k bt580.1 bt570.1).bind fun t584 => (if t584 = true then (laws_FnExactMissingRope.j0 k l0 l1 bt570.1 bt570.2 t574 t577 bt580.1 bt580.2 (bt580.2 != bt570.2)) else (laws_FnExactMissingRope.j0 k l0 l1 bt570.1 bt570.2 t574 t577 bt580.1 bt580.2 true)))))))))))) = some r := H
 have A3 := Aside0.mk A30
 clear A30
 by_cases c4 : t562 < 0
 ·rw [if_pos c4] at H
  have c4b0 : decide (t562 < 0) = true := decide_eq_true c4
  clear c4
  obtain rfl := Option.some.inj H
  go_enter Try.func11, Try.ntmps11
  go_wp2_with (first | ((with_reducible refine gate_callee (f := 14) rfl ?_); refine goesL_ (some 19) rfl rfl Try.func14 (by kernel_rfl) rfl #[.slice A0 l0.length c0, .int .i64 1048576] rfl ln_ ?_; (with_reducible refine (laws_szCoilS.calls k _ _ l0 1048576 t562 _ ?side1 ?side2 A3.out).mono ?_); (case side1 => exact kc_ HR0.out); (case side2 => exact HC0.out); rintro e w5 ⟨rfl, hb⟩; refine ⟨_, rfl, ?_⟩; have n0_ := Aside0.mk (below_step hb_ hb); clear HB; have HB := n0_; clear n0_; (try clear hb); (try clear hb2); (try clear hk); (try clear hi)))
  go_ret
  exact ⟨ew_, hb_⟩
 ·rw [if_neg c4] at H
  have c4b0 : decide (t562 < 0) = false := decide_eq_false c4
  clear c4
  replace H := Option.bind_eq_some_iff.mp H
  obtain ⟨t563, A60, H⟩ := H
  replace H : (if t563 < 0 then (some true) else ((laws_toCoilS.f k l0).bind fun t564 => ((laws_toWantS.f k l1).bind fun t567 => ((spec_MissingRope.f k t564 t567).bind fun bt570 => ((laws_toCoilS.f k l0).bind fun t574 => ((laws_toWantS.f k l1).bind fun t577 => ((impl_MissingRope.f k t574 t577).bind fun bt580 => ((laws_eqWantS.f k bt580.1 bt570.1).bind fun t584 => (if t584 = true then (laws_FnExactMissingRope.j0 k l0 l1 bt570.1 bt570.2 t574 t577 bt580.1 bt580.2 (bt580.2 != bt570.2)) else (laws_FnExactMissingRope.j0 k l0 l1 bt570.1 bt570.2 t574 t577 bt580.1 bt580.2 true)))))))))) = some r := H
  have A6 := Aside0.mk A60
  clear A60
  by_cases c7 : t563 < 0
  ·rw [if_pos c7] at H
   have c7b0 : decide (t563 < 0) = true := decide_eq_true c7
   clear c7
   obtain rfl := Option.some.inj H
   go_enter Try.func11, Try.ntmps11
   go_wp2_with (first | ((with_reducible refine gate_callee (f := 14) rfl ?_); refine goesL_ (some 19) rfl rfl Try.func14 (by kernel_rfl) rfl #[.slice A0 l0.length c0, .int .i64 1048576] rfl ln_ ?_; (with_reducible refine (laws_szCoilS.calls k _ _ l0 1048576 t562 _ ?side1 ?side2 A3.out).mono ?_); (case side1 => exact kc_ HR0.out); (case side2 => exact HC0.out); rintro e w8 ⟨rfl, hb⟩; refine ⟨_, rfl, ?_⟩; have n0_ := Aside0.mk (below_step hb_ hb); clear HB; have HB := n0_; clear n0_; (try clear hb); (try clear hb2); (try clear hk); (try clear hi)) | ((with_reducible refine gate_callee (f := 21) rfl ?_); refine goesL_ (some 24) rfl rfl Try.func21 (by kernel_rfl) rfl #[.slice A1 l1.length c1, .int .i64 t562] rfl ln_ ?_; (with_reducible refine (laws_szWantS.calls k _ _ l1 t562 t563 _ ?side1 ?side2 A6.out).mono ?_); (case side1 => exact kc_ (Kd.C_below HR1.out HB.out)); (case side2 => exact HC1.out); rintro e w9 ⟨rfl, hb⟩; refine ⟨_, rfl, ?_⟩; have n0_ := Aside0.mk (below_step hb_ hb); clear HB; have HB := n0_; clear n0_; (try clear hb); (try clear hb2); (try clear hk); (try clear hi)))
   go_ret
   exact ⟨ew_, hb_⟩
  ·rw [if_neg c7] at H
   have c7b0 : decide (t563 < 0) = false := decide_eq_false c7
   clear c7
   replace H := Option.bind_eq_some_iff.mp H
   obtain ⟨t564, A100, H⟩ := H
   replace H : ((laws_toWantS.f k l1).bind fun t567 => ((spec_MissingRope.f k t564 t567).bind fun bt570 => ((laws_toCoilS.f k l0).bind fun t574 => ((laws_toWantS.f k l1).bind fun t577 => ((impl_MissingRope.f k t574 t577).bind fun bt580 => ((laws_eqWantS.f k bt580.1 bt570.1).bind fun t584 => (if t584 = true then (laws_FnExactMissingRope.j0 k l0 l1 bt570.1 bt570.2 t574 t577 bt580.1 bt580.2 (bt580.2 != bt570.2)) else (laws_FnExactMissingRope.j0 k l0 l1 bt570.1 bt570.2 t574 t577 bt580.1 bt580.2 true)))))))) = some r := H
   have A10 := Aside0.mk A100
   clear A100
   replace H := Option.bind_eq_some_iff.mp H
   obtain ⟨t567, A110, H⟩ := H
   replace H : ((spec_MissingRope.f k t564 t567).bind fun bt570 => ((laws_toCoilS.f k l0).bind fun t574 => ((laws_toWantS.f k l1).bind fun t577 => ((impl_MissingRope.f k t574 t577).bind fun bt580 => ((laws_eqWantS.f k bt580.1 bt570.1).bind fun t584 => (if t584 = true then (laws_FnExactMissingRope.j0 k l0 l1 bt570.1 bt570.2 t574 t577 bt580.1 bt580.2 (bt580.2 != bt570.2)) else (laws_FnExactMissingRope.j0 k l0 l1 bt570.1 bt570.2 t574 t577 bt580.1 bt580.2 true))))))) = some r := H
   have A11 := Aside0.mk A110
   clear A110
   replace H := Option.bind_eq_some_iff.mp H
   obtain ⟨⟨t570, t571⟩, A120, H⟩ := H
   replace H : ((laws_toCoilS.f k l0).bind fun t574 => ((laws_toWantS.f k l1).bind fun t577 => ((impl_MissingRope.f k t574 t577).bind fun bt580 => ((laws_eqWantS.f k bt580.1 t570).bind fun t584 => (if t584 = true then (laws_FnExactMissingRope.j0 k l0 l1 t570 t571 t574 t577 bt580.1 bt580.2 (bt580.2 != t571)) else (laws_FnExactMissingRope.j0 k l0 l1 t570 t571 t574 t577 bt580.1 bt580.2 true)))))) = some r := H
   have A12 := Aside0.mk A120
   clear A120
   replace H := Option.bind_eq_some_iff.mp H
   obtain ⟨t574, A130, H⟩ := H
   replace H : ((laws_toWantS.f k l1).bind fun t577 => ((impl_MissingRope.f k t574 t577).bind fun bt580 => ((laws_eqWantS.f k bt580.1 t570).bind fun t584 => (if t584 = true then (laws_FnExactMissingRope.j0 k l0 l1 t570 t571 t574 t577 bt580.1 bt580.2 (bt580.2 != t571)) else (laws_FnExactMissingRope.j0 k l0 l1 t570 t571 t574 t577 bt580.1 bt580.2 true))))) = some r := H
   have A13 := Aside0.mk A130
   clear A130
   replace H := Option.bind_eq_some_iff.mp H
   obtain ⟨t577, A140, H⟩ := H
   replace H : ((impl_MissingRope.f k t574 t577).bind fun bt580 => ((laws_eqWantS.f k bt580.1 t570).bind fun t584 => (if t584 = true then (laws_FnExactMissingRope.j0 k l0 l1 t570 t571 t574 t577 bt580.1 bt580.2 (bt580.2 != t571)) else (laws_FnExactMissingRope.j0 k l0 l1 t570 t571 t574 t577 bt580.1 bt580.2 true)))) = some r := H
   have A14 := Aside0.mk A140
   clear A140
   replace H := Option.bind_eq_some_iff.mp H
   obtain ⟨⟨t580, t581⟩, A150, H⟩ := H
   replace H : ((laws_eqWantS.f k t580 t570).bind fun t584 => (if t584 = true then (laws_FnExactMissingRope.j0 k l0 l1 t570 t571 t574 t577 t580 t581 (t581 != t571)) else (laws_FnExactMissingRope.j0 k l0 l1 t570 t571 t574 t577 t580 t581 true))) = some r := H
   have A15 := Aside0.mk A150
   clear A150
   have HC16 := Aside0.mk H
   clear H
   go_enter Try.func11, Try.ntmps11
   go_upto_region 12 with (first | ((with_reducible refine gate_callee (f := 14) rfl ?_); refine goesL_ (some 19) rfl rfl Try.func14 (by kernel_rfl) rfl #[.slice A0 l0.length c0, .int .i64 1048576] rfl ln_ ?_; (with_reducible refine (laws_szCoilS.calls k _ _ l0 1048576 t562 _ ?side1 ?side2 A3.out).mono ?_); (case side1 => exact kc_ HR0.out); (case side2 => exact HC0.out); rintro e w17 ⟨rfl, hb⟩; refine ⟨_, rfl, ?_⟩; have n0_ := Aside0.mk (below_step hb_ hb); clear HB; have HB := n0_; clear n0_; (try clear hb); (try clear hb2); (try clear hk); (try clear hi)) | ((with_reducible refine gate_callee (f := 21) rfl ?_); refine goesL_ (some 24) rfl rfl Try.func21 (by kernel_rfl) rfl #[.slice A1 l1.length c1, .int .i64 t562] rfl ln_ ?_; (with_reducible refine (laws_szWantS.calls k _ _ l1 t562 t563 _ ?side1 ?side2 A6.out).mono ?_); (case side1 => exact kc_ (Kd.C_below HR1.out HB.out)); (case side2 => exact HC1.out); rintro e w18 ⟨rfl, hb⟩; refine ⟨_, rfl, ?_⟩; have n0_ := Aside0.mk (below_step hb_ hb); clear HB; have HB := n0_; clear n0_; (try clear hb); (try clear hb2); (try clear hk); (try clear hi)) | ((with_reducible refine gate_callee (f := 16) rfl ?_); refine goesL_ (some 29) rfl rfl Try.func16 (by kernel_rfl) rfl #[.slice A0 l0.length c0] rfl ln_ ?_; (with_reducible refine (laws_toCoilS.calls k _ _ l0 t564 _ ?side1 ?side2 A10.out).mono ?_); (case side1 => exact kc_ (Kd.C_below HR0.out HB.out)); (case side2 => exact HC0.out); rintro e w19 ⟨v565, rfl, ho0, hb⟩; refine ⟨_, rfl, ?_⟩; have n0_ := Aside0.mk (Kd.R_lower ho0 (below_size hb_)); have n1_ := Aside0.mk (below_step hb_ hb); clear HB; have HO566 := n0_; have HB := n1_; clear n0_ n1_; (try clear hb); (try clear hb2); (try clear hk); (try clear hi); (try clear ho0)) | ((with_reducible refine gate_callee (f := 23) rfl ?_); refine goesL_ (some 31) rfl rfl Try.func23 (by kernel_rfl) rfl #[.slice A1 l1.length c1] rfl ln_ ?_; (with_reducible refine (laws_toWantS.calls k _ _ l1 t567 _ ?side1 ?side2 A11.out).mono ?_); (case side1 => exact kc_ (Kd.C_below HR1.out HB.out)); (case side2 => exact HC1.out); rintro e w20 ⟨v568, rfl, ho0, hb⟩; refine ⟨_, rfl, ?_⟩; have n0_ := Aside0.mk (Kd.R_below (kr_ HO566) hb); have n1_ := Aside0.mk (Kd.R_lower ho0 (below_size hb_)); have n2_ := Aside0.mk (below_step hb_ hb); clear HO566; clear HB; have HO566 := n0_; have HO569 := n1_; have HB := n2_; clear n0_ n1_ n2_; (try clear hb); (try clear hb2); (try clear hk); (try clear hi); (try clear ho0); obtain ⟨Ao21, co21, eo21⟩ := Kd.R_slice HO566.out; subst eo21; obtain ⟨Ao22, co22, eo22⟩ := Kd.R_slice HO569.out; subst eo22) | ((with_reducible refine gate_callee (f := 42) rfl ?_); refine goesL_ (some 32) rfl rfl Try.func42 (by kernel_rfl) rfl #[.slice Ao21 t564.length co21, .slice Ao22 t567.length co22] rfl ln_ ?_; (with_reducible refine (spec_MissingRope.calls k _ _ t564 _ _ t567 t570 t571 _ ?side1 ?side2 ?side3 ?side4 A12.out).mono ?_); (case side1 => repeat (first | exact (Kd.R_reads' HO566.out).2.2 | (with_reducible refine Kd.C_alloc ?_ _) | (with_reducible refine Kd.C_drewN ?_ _) | (with_reducible refine Kd.C_drew ?_))); (case side2 => exact (Kd.R_reads' HO566.out).2.1); (case side3 => repeat (first | exact (Kd.R_reads' HO569.out).2.2 | (with_reducible refine Kd.C_alloc ?_ _) | (with_reducible refine Kd.C_drewN ?_ _) | (with_reducible refine Kd.C_drew ?_))); (case side4 => exact (Kd.R_reads' HO569.out).2.1); rintro e w23 ⟨v572, rfl, ho0, hb⟩; refine ⟨_, rfl, ?_⟩; have n0_ := Aside0.mk (Kd.R_below (kr_ HO566) hb); have n1_ := Aside0.mk (Kd.R_elder' (kr_ HO569) (Kd.R_base ho0) hb); have n2_ := Aside0.mk (Kd.R_lower (Kd.R_new' ho0 (Kd.R_lt (kr_ HO569))) (below_size hb_)); have n3_ := Aside0.mk (below_step hb_ hb); clear HO566; clear HO569; clear HB; have HO566 := n0_; have HO569 := n1_; have HO573 := n2_; have HB := n3_; clear n0_ n1_ n2_ n3_; (try clear hb); (try clear hb2); (try clear hk); (try clear hi); (try clear ho0)) | ((with_reducible refine gate_callee (f := 16) rfl ?_); refine goesL_ (some 36) rfl rfl Try.func16 (by kernel_rfl) rfl #[.slice A0 l0.length c0] rfl ln_ ?_; (with_reducible refine (laws_toCoilS.calls k _ _ l0 t574 _ ?side1 ?side2 A13.out).mono ?_); (case side1 => exact kc_ (Kd.C_below HR0.out HB.out)); (case side2 => exact HC0.out); rintro e w24 ⟨v575, rfl, ho0, hb⟩; refine ⟨_, rfl, ?_⟩; have n0_ := Aside0.mk (Kd.R_elder' (kr_ HO566) (Kd.R_base ho0) hb); have n1_ := Aside0.mk (Kd.R_below (kr_ HO569) hb); have n2_ := Aside0.mk (Kd.R_below (kr_ HO573) hb); have n3_ := Aside0.mk (Kd.R_lower (Kd.R_new' ho0 (Kd.R_lt (kr_ HO566))) (below_size hb_)); have n4_ := Aside0.mk (below_step hb_ hb); clear HO566; clear HO569; clear HO573; clear HB; have HO566 := n0_; have HO569 := n1_; have HO573 := n2_; have HO576 := n3_; have HB := n4_; clear n0_ n1_ n2_ n3_ n4_; (try clear hb); (try clear hb2); (try clear hk); (try clear hi); (try clear ho0)) | ((with_reducible refine gate_callee (f := 23) rfl ?_); refine goesL_ (some 38) rfl rfl Try.func23 (by kernel_rfl) rfl #[.slice A1 l1.length c1] rfl ln_ ?_; (with_reducible refine (laws_toWantS.calls k _ _ l1 t577 _ ?side1 ?side2 A14.out).mono ?_); (case side1 => exact kc_ (Kd.C_below HR1.out HB.out)); (case side2 => exact HC1.out); rintro e w25 ⟨v578, rfl, ho0, hb⟩; refine ⟨_, rfl, ?_⟩; have n0_ := Aside0.mk (Kd.R_below (kr_ HO566) hb); have n1_ := Aside0.mk (Kd.R_elder' (kr_ HO569) (Kd.R_base ho0) hb); have n2_ := Aside0.mk (Kd.R_elder' (kr_ HO573) (Kd.R_base ho0) hb); have n3_ := Aside0.mk (Kd.R_below (kr_ HO576) hb); have n4_ := Aside0.mk (Kd.R_lower (Kd.R_new' (Kd.R_new' ho0 (Kd.R_lt (kr_ HO569))) (Kd.R_lt (kr_ HO573))) (below_size hb_)); have n5_ := Aside0.mk (below_step hb_ hb); clear HO566; clear HO569; clear HO573; clear HO576; clear HB; have HO566 := n0_; have HO569 := n1_; have HO573 := n2_; have HO576 := n3_; have HO579 := n4_; have HB := n5_; clear n0_ n1_ n2_ n3_ n4_ n5_; (try clear hb); (try clear hb2); (try clear hk); (try clear hi); (try clear ho0); obtain ⟨Ao26, co26, eo26⟩ := Kd.R_slice HO576.out; subst eo26; obtain ⟨Ao27, co27, eo27⟩ := Kd.R_slice HO579.out; subst eo27) | ((with_reducible refine gate_callee (f := 43) rfl ?_); refine goesL_ (some 42) rfl rfl Try.func43 (by kernel_rfl) rfl #[.slice Ao26 t574.length co26, .slice Ao27 t577.length co27] rfl ln_ ?_; (with_reducible refine (impl_MissingRope.calls k _ _ t574 _ _ t577 t580 t581 _ ?side1 ?side2 ?side3 ?side4 A15.out).mono ?_); (case side1 => repeat (first | exact (Kd.R_reads' HO576.out).2.2 | (with_reducible refine Kd.C_alloc ?_ _) | (with_reducible refine Kd.C_drewN ?_ _) | (with_reducible refine Kd.C_drew ?_))); (case side2 => exact (Kd.R_reads' HO576.out).2.1); (case side3 => repeat (first | exact (Kd.R_reads' HO579.out).2.2 | (with_reducible refine Kd.C_alloc ?_ _) | (with_reducible refine Kd.C_drewN ?_ _) | (with_reducible refine Kd.C_drew ?_))); (case side4 => exact (Kd.R_reads' HO579.out).2.1); rintro e w28 ⟨v582, rfl, ho0, hb⟩; refine ⟨_, rfl, ?_⟩; have n0_ := Aside0.mk (Kd.R_below (kr_ HO566) hb); have n1_ := Aside0.mk (Kd.R_elder' (kr_ HO569) (Kd.R_base ho0) hb); have n2_ := Aside0.mk (Kd.R_elder' (kr_ HO573) (Kd.R_base ho0) hb); have n3_ := Aside0.mk (Kd.R_below (kr_ HO576) hb); have n4_ := Aside0.mk (Kd.R_elder' (kr_ HO579) (Kd.R_base ho0) hb); have n5_ := Aside0.mk (Kd.R_lower (Kd.R_new' (Kd.R_new' (Kd.R_new' ho0 (Kd.R_lt (kr_ HO569))) (Kd.R_lt (kr_ HO573))) (Kd.R_lt (kr_ HO579))) (below_size hb_)); have n6_ := Aside0.mk (below_step hb_ hb); clear HO566; clear HO569; clear HO573; clear HO576; clear HO579; clear HB; have HO566 := n0_; have HO569 := n1_; have HO573 := n2_; have HO576 := n3_; have HO579 := n4_; have HO583 := n5_; have HB := n6_; clear n0_ n1_ n2_ n3_ n4_ n5_ n6_; (try clear hb); (try clear hb2); (try clear hk); (try clear hi); (try clear ho0)))
   (try simp only [Act.put, List.setIfInBounds_toArray, List.set_cons_zero, List.set_cons_succ])
   go_cut [53] (fun v53 wc => ∃ (kq : Nat) (x53_15 : Bool), v53 = .bool x53_15 ∧ Aside0 (laws_FnExactMissingRope.j0 kq l0 l1 t570 t571 t574 t577 t580 t581 x53_15 = some r) ∧ Aside0 (kq ≤ k) ∧ Aside0 (Kd.R k55 55 wc w.heap.size (fun k_ => some k_ ≠ ((.slice Ao27 t577.length co27) : Value).ownBlock ∧ some k_ ≠ (v582 : Value).ownBlock) v572 t570) ∧ Aside0 (Kd.R k45 45 wc w.heap.size (fun _ => True) (.slice Ao26 t574.length co26) t574) ∧ Aside0 (Kd.R k55 55 wc w.heap.size (fun k_ => some k_ ≠ (v572 : Value).ownBlock ∧ some k_ ≠ (v582 : Value).ownBlock) (.slice Ao27 t577.length co27) t577) ∧ Aside0 (Kd.R k55 55 wc w.heap.size (fun k_ => some k_ ≠ (v572 : Value).ownBlock ∧ some k_ ≠ ((.slice Ao27 t577.length co27) : Value).ownBlock) v582 t580) ∧ Aside0 (Below w.heap.size w wc))
   case first =>
    have H := HC16.out
    clear HC16
    replace H := Option.bind_eq_some_iff.mp H
    obtain ⟨t584, A290, H⟩ := H
    replace H : (if t584 = true then (laws_FnExactMissingRope.j0 k l0 l1 t570 t571 t574 t577 t580 t581 (t581 != t571)) else (laws_FnExactMissingRope.j0 k l0 l1 t570 t571 t574 t577 t580 t581 true)) = some r := H
    have A29 := Aside0.mk A290
    clear A290
    by_cases c30 : t584 = true
    ·subst c30
     have H1 : (laws_FnExactMissingRope.j0 k l0 l1 t570 t571 t574 t577 t580 t581 (t581 != t571)) = some r := by rw [if_pos rfl] at H; exact H
     clear H
     have H := H1
     clear H1
     have H' := Aside0.mk H
     clear H
     obtain ⟨Ao31, co31, eo31⟩ := Kd.R_slice HO583.out
     subst eo31
     obtain ⟨Ao32, co32, eo32⟩ := Kd.R_slice HO573.out
     subst eo32
     go_wp2_with (first | ((with_reducible refine gate_callee (f := 25) rfl ?_); refine goesL_ (some 47) rfl rfl Try.func25 (by kernel_rfl) rfl #[.slice Ao31 t580.length co31, .slice Ao32 t570.length co32] rfl ln_ ?_; (with_reducible refine (laws_eqWantS.calls k _ _ t580 _ _ t570 true _ ?side1 ?side2 ?side3 ?side4 A29.out).mono ?_); (case side1 => repeat (first | exact (Kd.R_reads' HO583.out).2.2 | (with_reducible refine Kd.C_alloc ?_ _) | (with_reducible refine Kd.C_drewN ?_ _) | (with_reducible refine Kd.C_drew ?_))); (case side2 => exact (Kd.R_reads' HO583.out).2.1); (case side3 => repeat (first | exact (Kd.R_reads' HO573.out).2.2 | (with_reducible refine Kd.C_alloc ?_ _) | (with_reducible refine Kd.C_drewN ?_ _) | (with_reducible refine Kd.C_drew ?_))); (case side4 => exact (Kd.R_reads' HO573.out).2.1); rintro e w33 ⟨rfl, hb⟩; refine ⟨_, rfl, ?_⟩; have n0_ := Aside0.mk (Kd.R_below (kr_ HO566) hb); have n1_ := Aside0.mk (Kd.R_below (kr_ HO569) hb); have n2_ := Aside0.mk (Kd.R_below (kr_ HO573) hb); have n3_ := Aside0.mk (Kd.R_below (kr_ HO576) hb); have n4_ := Aside0.mk (Kd.R_below (kr_ HO579) hb); have n5_ := Aside0.mk (Kd.R_below (kr_ HO583) hb); have n6_ := Aside0.mk (below_step hb_ hb); clear HO566; clear HO569; clear HO573; clear HO576; clear HO579; clear HO583; clear HB; have HO566 := n0_; have HO569 := n1_; have HO573 := n2_; have HO576 := n3_; have HO579 := n4_; have HO583 := n5_; have HB := n6_; clear n0_ n1_ n2_ n3_ n4_ n5_ n6_; (try clear hb); (try clear hb2); (try clear hk); (try clear hi)))
     go_meet
     case rel => exact ⟨_, ((t581 != t571)), (by first | rfl | (simp; done) | (simp [*]; done)), H', ⟨by first | omega | exact Nat.le_refl _⟩, ⟨by (with_reducible repeat (first | apply Kd.R_alloc | apply Kd.R_drewN | apply Kd.R_drew)); exact Kd.R_mono HO573.out (fun _ hk => ⟨hk.1.2, hk.2⟩)⟩, ⟨by (with_reducible repeat (first | apply Kd.R_alloc | apply Kd.R_drewN | apply Kd.R_drew)); exact Kd.R_mono HO576.out (fun _ hk => trivial)⟩, ⟨by (with_reducible repeat (first | apply Kd.R_alloc | apply Kd.R_drewN | apply Kd.R_drew)); exact Kd.R_mono HO579.out (fun _ hk => ⟨hk.1.2, hk.2⟩)⟩, ⟨by (with_reducible repeat (first | apply Kd.R_alloc | apply Kd.R_drewN | apply Kd.R_drew)); exact Kd.R_mono HO583.out (fun _ hk => ⟨hk.1.2, hk.2⟩)⟩, ⟨hb_⟩⟩
    ·replace c30 := Bool.eq_false_iff.mpr c30
     subst c30
     have H1 : (laws_FnExactMissingRope.j0 k l0 l1 t570 t571 t574 t577 t580 t581 true) = some r := by rw [if_neg (show ¬ (false = true) by decide)] at H; exact H
     clear H
     have H := H1
     clear H1
     have H' := Aside0.mk H
     clear H
     obtain ⟨Ao34, co34, eo34⟩ := Kd.R_slice HO583.out
     subst eo34
     obtain ⟨Ao35, co35, eo35⟩ := Kd.R_slice HO573.out
     subst eo35
     go_wp2_with (first | ((with_reducible refine gate_callee (f := 25) rfl ?_); refine goesL_ (some 47) rfl rfl Try.func25 (by kernel_rfl) rfl #[.slice Ao34 t580.length co34, .slice Ao35 t570.length co35] rfl ln_ ?_; (with_reducible refine (laws_eqWantS.calls k _ _ t580 _ _ t570 false _ ?side1 ?side2 ?side3 ?side4 A29.out).mono ?_); (case side1 => repeat (first | exact (Kd.R_reads' HO583.out).2.2 | (with_reducible refine Kd.C_alloc ?_ _) | (with_reducible refine Kd.C_drewN ?_ _) | (with_reducible refine Kd.C_drew ?_))); (case side2 => exact (Kd.R_reads' HO583.out).2.1); (case side3 => repeat (first | exact (Kd.R_reads' HO573.out).2.2 | (with_reducible refine Kd.C_alloc ?_ _) | (with_reducible refine Kd.C_drewN ?_ _) | (with_reducible refine Kd.C_drew ?_))); (case side4 => exact (Kd.R_reads' HO573.out).2.1); rintro e w36 ⟨rfl, hb⟩; refine ⟨_, rfl, ?_⟩; have n0_ := Aside0.mk (Kd.R_below (kr_ HO566) hb); have n1_ := Aside0.mk (Kd.R_below (kr_ HO569) hb); have n2_ := Aside0.mk (Kd.R_below (kr_ HO573) hb); have n3_ := Aside0.mk (Kd.R_below (kr_ HO576) hb); have n4_ := Aside0.mk (Kd.R_below (kr_ HO579) hb); have n5_ := Aside0.mk (Kd.R_below (kr_ HO583) hb); have n6_ := Aside0.mk (below_step hb_ hb); clear HO566; clear HO569; clear HO573; clear HO576; clear HO579; clear HO583; clear HB; have HO566 := n0_; have HO569 := n1_; have HO573 := n2_; have HO576 := n3_; have HO579 := n4_; have HO583 := n5_; have HB := n6_; clear n0_ n1_ n2_ n3_ n4_ n5_ n6_; (try clear hb); (try clear hb2); (try clear hk); (try clear hi)))
     go_meet
     case rel => exact ⟨_, (true), (by first | rfl | (simp; done) | (simp [*]; done)), H', ⟨by first | omega | exact Nat.le_refl _⟩, ⟨by (with_reducible repeat (first | apply Kd.R_alloc | apply Kd.R_drewN | apply Kd.R_drew)); exact Kd.R_mono HO573.out (fun _ hk => ⟨hk.1.2, hk.2⟩)⟩, ⟨by (with_reducible repeat (first | apply Kd.R_alloc | apply Kd.R_drewN | apply Kd.R_drew)); exact Kd.R_mono HO576.out (fun _ hk => trivial)⟩, ⟨by (with_reducible repeat (first | apply Kd.R_alloc | apply Kd.R_drewN | apply Kd.R_drew)); exact Kd.R_mono HO579.out (fun _ hk => ⟨hk.1.2, hk.2⟩)⟩, ⟨by (with_reducible repeat (first | apply Kd.R_alloc | apply Kd.R_drewN | apply Kd.R_drew)); exact Kd.R_mono HO583.out (fun _ hk => ⟨hk.1.2, hk.2⟩)⟩, ⟨hb_⟩⟩
   case rest =>
    clear HC16
    try clear c1
    try clear c2
    try clear p2
    try clear c3
    try clear c4
    try clear c4b0
    try clear c7
    try clear c7b0
    try clear c11
    try clear c14
    try clear c16
    try clear c21
    try clear c23
    try clear c25
    try clear c30
    obtain ⟨kq, x53_15, rfl, HA, HJ15, HO_6, HO_8, HO_9, HO_10, HB⟩ := hcut
    cases kq with
    | zero => exact absurd HA.out (by simp [laws_FnExactMissingRope.j0])
    | succ kj15 =>
     have H := HA.out
     clear HA
     simp only [laws_FnExactMissingRope.j0] at H
     by_cases c37 : x53_15 = true
     ·subst c37
      have H1 : (some false) = some r := by rw [if_pos rfl] at H; exact H
      clear H
      have H := H1
      clear H1
      obtain rfl := Option.some.inj H
      go_wp2
      go_ret
      exact ⟨ew_, hb_⟩
     ·replace c37 := Bool.eq_false_iff.mpr c37
      subst c37
      have H1 : ((laws_toCoilS.f kj15 l0).bind fun t585 => ((laws_eqCoilS.f kj15 t574 t585).bind fun t588 => (if t588 = true then ((laws_toWantS.f kj15 l1).bind fun t589 => ((laws_eqWantS.f kj15 t577 t589).bind fun t592 => (if t592 = true then ((laws_markCoilS.f kj15 t574 1).bind fun bt593 => ((laws_markWantS.f kj15 t577 bt593.1).bind fun bt595 => (if bt595.1 < 0 then (laws_FnExactMissingRope.j1 kj15 l0 l1 t570 t571 t580 true) else ((laws_eqWantS.f kj15 t580 t570).bind fun t597 => (if t597 = true then (laws_FnExactMissingRope.j1 kj15 l0 l1 t570 t571 t580 (t581 != t571)) else (laws_FnExactMissingRope.j1 kj15 l0 l1 t570 t571 t580 true)))))) else (some false)))) else (some false)))) = some r := by rw [if_neg (show ¬ (false = true) by decide)] at H; exact H
      clear H
      have H := H1
      clear H1
      replace H := Option.bind_eq_some_iff.mp H
      obtain ⟨t585, A380, H⟩ := H
      replace H : ((laws_eqCoilS.f kj15 t574 t585).bind fun t588 => (if t588 = true then ((laws_toWantS.f kj15 l1).bind fun t589 => ((laws_eqWantS.f kj15 t577 t589).bind fun t592 => (if t592 = true then ((laws_markCoilS.f kj15 t574 1).bind fun bt593 => ((laws_markWantS.f kj15 t577 bt593.1).bind fun bt595 => (if bt595.1 < 0 then (laws_FnExactMissingRope.j1 kj15 l0 l1 t570 t571 t580 true) else ((laws_eqWantS.f kj15 t580 t570).bind fun t597 => (if t597 = true then (laws_FnExactMissingRope.j1 kj15 l0 l1 t570 t571 t580 (t581 != t571)) else (laws_FnExactMissingRope.j1 kj15 l0 l1 t570 t571 t580 true)))))) else (some false)))) else (some false))) = some r := H
      have A38 := Aside0.mk A380
      clear A380
      replace H := Option.bind_eq_some_iff.mp H
      obtain ⟨t588, A390, H⟩ := H
      replace H : (if t588 = true then ((laws_toWantS.f kj15 l1).bind fun t589 => ((laws_eqWantS.f kj15 t577 t589).bind fun t592 => (if t592 = true then ((laws_markCoilS.f kj15 t574 1).bind fun bt593 => ((laws_markWantS.f kj15 t577 bt593.1).bind fun bt595 => (if bt595.1 < 0 then (laws_FnExactMissingRope.j1 kj15 l0 l1 t570 t571 t580 true) else ((laws_eqWantS.f kj15 t580 t570).bind fun t597 => (if t597 = true then (laws_FnExactMissingRope.j1 kj15 l0 l1 t570 t571 t580 (t581 != t571)) else (laws_FnExactMissingRope.j1 kj15 l0 l1 t570 t571 t580 true)))))) else (some false)))) else (some false)) = some r := H
      have A39 := Aside0.mk A390
      clear A390
      by_cases c40 : t588 = true
      ·subst c40
       have H1 : ((laws_toWantS.f kj15 l1).bind fun t589 => ((laws_eqWantS.f kj15 t577 t589).bind fun t592 => (if t592 = true then ((laws_markCoilS.f kj15 t574 1).bind fun bt593 => ((laws_markWantS.f kj15 t577 bt593.1).bind fun bt595 => (if bt595.1 < 0 then (laws_FnExactMissingRope.j1 kj15 l0 l1 t570 t571 t580 true) else ((laws_eqWantS.f kj15 t580 t570).bind fun t597 => (if t597 = true then (laws_FnExactMissingRope.j1 kj15 l0 l1 t570 t571 t580 (t581 != t571)) else (laws_FnExactMissingRope.j1 kj15 l0 l1 t570 t571 t580 true)))))) else (some false)))) = some r := by rw [if_pos rfl] at H; exact H
       clear H
       have H := H1
       clear H1
       replace H := Option.bind_eq_some_iff.mp H
       obtain ⟨t589, A410, H⟩ := H
       replace H : ((laws_eqWantS.f kj15 t577 t589).bind fun t592 => (if t592 = true then ((laws_markCoilS.f kj15 t574 1).bind fun bt593 => ((laws_markWantS.f kj15 t577 bt593.1).bind fun bt595 => (if bt595.1 < 0 then (laws_FnExactMissingRope.j1 kj15 l0 l1 t570 t571 t580 true) else ((laws_eqWantS.f kj15 t580 t570).bind fun t597 => (if t597 = true then (laws_FnExactMissingRope.j1 kj15 l0 l1 t570 t571 t580 (t581 != t571)) else (laws_FnExactMissingRope.j1 kj15 l0 l1 t570 t571 t580 true)))))) else (some false))) = some r := H
       have A41 := Aside0.mk A410
       clear A410
       replace H := Option.bind_eq_some_iff.mp H
       obtain ⟨t592, A420, H⟩ := H
       replace H : (if t592 = true then ((laws_markCoilS.f kj15 t574 1).bind fun bt593 => ((laws_markWantS.f kj15 t577 bt593.1).bind fun bt595 => (if bt595.1 < 0 then (laws_FnExactMissingRope.j1 kj15 l0 l1 t570 t571 t580 true) else ((laws_eqWantS.f kj15 t580 t570).bind fun t597 => (if t597 = true then (laws_FnExactMissingRope.j1 kj15 l0 l1 t570 t571 t580 (t581 != t571)) else (laws_FnExactMissingRope.j1 kj15 l0 l1 t570 t571 t580 true)))))) else (some false)) = some r := H
       have A42 := Aside0.mk A420
       clear A420
       by_cases c43 : t592 = true
       ·subst c43
        have H1 : ((laws_markCoilS.f kj15 t574 1).bind fun bt593 => ((laws_markWantS.f kj15 t577 bt593.1).bind fun bt595 => (if bt595.1 < 0 then (laws_FnExactMissingRope.j1 kj15 l0 l1 t570 t571 t580 true) else ((laws_eqWantS.f kj15 t580 t570).bind fun t597 => (if t597 = true then (laws_FnExactMissingRope.j1 kj15 l0 l1 t570 t571 t580 (t581 != t571)) else (laws_FnExactMissingRope.j1 kj15 l0 l1 t570 t571 t580 true)))))) = some r := by rw [if_pos rfl] at H; exact H
        clear H
        have H := H1
        clear H1
        replace H := Option.bind_eq_some_iff.mp H
        obtain ⟨⟨t593, t594⟩, A440, H⟩ := H
        replace H : ((laws_markWantS.f kj15 t577 t593).bind fun bt595 => (if bt595.1 < 0 then (laws_FnExactMissingRope.j1 kj15 l0 l1 t570 t571 t580 true) else ((laws_eqWantS.f kj15 t580 t570).bind fun t597 => (if t597 = true then (laws_FnExactMissingRope.j1 kj15 l0 l1 t570 t571 t580 (t581 != t571)) else (laws_FnExactMissingRope.j1 kj15 l0 l1 t570 t571 t580 true))))) = some r := H
        have A44 := Aside0.mk A440
        clear A440
        replace H := Option.bind_eq_some_iff.mp H
        obtain ⟨⟨t595, t596⟩, A450, H⟩ := H
        replace H : (if t595 < 0 then (laws_FnExactMissingRope.j1 kj15 l0 l1 t570 t571 t580 true) else ((laws_eqWantS.f kj15 t580 t570).bind fun t597 => (if t597 = true then (laws_FnExactMissingRope.j1 kj15 l0 l1 t570 t571 t580 (t581 != t571)) else (laws_FnExactMissingRope.j1 kj15 l0 l1 t570 t571 t580 true)))) = some r := H
        have A45 := Aside0.mk A450
        clear A450
        have HC46 := Aside0.mk H
        clear H
        go_upto_region 21 with (first | ((with_reducible refine gate_callee (f := 16) rfl ?_); refine goesL_ (some 56) rfl rfl Try.func16 (by kernel_rfl) rfl #[.slice A0 l0.length c0] rfl ln_ ?_; (with_reducible refine (laws_toCoilS.calls kj15 _ _ l0 t585 _ ?side1 ?side2 A38.out).mono ?_); (case side1 => exact kc_ (Kd.C_below HR0.out HB.out)); (case side2 => exact HC0.out); rintro e w47 ⟨v586, rfl, ho0, hb⟩; refine ⟨_, rfl, ?_⟩; have n0_ := Aside0.mk (Kd.R_below (kr_ HO_6) hb); have n1_ := Aside0.mk (Kd.R_elder' (kr_ HO_8) (Kd.R_base ho0) hb); have n2_ := Aside0.mk (Kd.R_below (kr_ HO_9) hb); have n3_ := Aside0.mk (Kd.R_below (kr_ HO_10) hb); have n4_ := Aside0.mk (Kd.R_lower (Kd.R_new' ho0 (Kd.R_lt (kr_ HO_8))) (below_size hb_)); have n5_ := Aside0.mk (below_step hb_ hb); clear HO_6; clear HO_8; clear HO_9; clear HO_10; clear HB; have HO_6 := n0_; have HO_8 := n1_; have HO_9 := n2_; have HO_10 := n3_; have HO587 := n4_; have HB := n5_; clear n0_ n1_ n2_ n3_ n4_ n5_; (try clear hb); (try clear hb2); (try clear hk); (try clear hi); (try clear ho0); obtain ⟨Ao48, co48, eo48⟩ := Kd.R_slice HO587.out; subst eo48) | ((with_reducible refine gate_callee (f := 18) rfl ?_); refine goesL_ (some 57) rfl rfl Try.func18 (by kernel_rfl) rfl #[.slice Ao26 t574.length co26, .slice Ao48 t585.length co48] rfl ln_ ?_; (with_reducible refine (laws_eqCoilS.calls kj15 _ _ t574 _ _ t585 true _ ?side1 ?side2 ?side3 ?side4 A39.out).mono ?_); (case side1 => repeat (first | exact (Kd.R_reads' HO_8.out).2.2 | (with_reducible refine Kd.C_alloc ?_ _) | (with_reducible refine Kd.C_drewN ?_ _) | (with_reducible refine Kd.C_drew ?_))); (case side2 => exact (Kd.R_reads' HO_8.out).2.1); (case side3 => repeat (first | exact (Kd.R_reads' HO587.out).2.2 | (with_reducible refine Kd.C_alloc ?_ _) | (with_reducible refine Kd.C_drewN ?_ _) | (with_reducible refine Kd.C_drew ?_))); (case side4 => exact (Kd.R_reads' HO587.out).2.1); rintro e w49 ⟨rfl, hb⟩; refine ⟨_, rfl, ?_⟩; have n0_ := Aside0.mk (Kd.R_below (kr_ HO_6) hb); have n1_ := Aside0.mk (Kd.R_below (kr_ HO_8) hb); have n2_ := Aside0.mk (Kd.R_below (kr_ HO_9) hb); have n3_ := Aside0.mk (Kd.R_below (kr_ HO_10) hb); have n4_ := Aside0.mk (Kd.R_below (kr_ HO587) hb); have n5_ := Aside0.mk (below_step hb_ hb); clear HO_6; clear HO_8; clear HO_9; clear HO_10; clear HO587; clear HB; have HO_6 := n0_; have HO_8 := n1_; have HO_9 := n2_; have HO_10 := n3_; have HO587 := n4_; have HB := n5_; clear n0_ n1_ n2_ n3_ n4_ n5_; (try clear hb); (try clear hb2); (try clear hk); (try clear hi)) | ((with_reducible refine gate_callee (f := 23) rfl ?_); refine goesL_ (some 61) rfl rfl Try.func23 (by kernel_rfl) rfl #[.slice A1 l1.length c1] rfl ln_ ?_; (with_reducible refine (laws_toWantS.calls kj15 _ _ l1 t589 _ ?side1 ?side2 A41.out).mono ?_); (case side1 => exact kc_ (Kd.C_below HR1.out HB.out)); (case side2 => exact HC1.out); rintro e w50 ⟨v590, rfl, ho0, hb⟩; refine ⟨_, rfl, ?_⟩; have n0_ := Aside0.mk (Kd.R_elder' (kr_ HO_6) (Kd.R_base ho0) hb); have n1_ := Aside0.mk (Kd.R_below (kr_ HO_8) hb); have n2_ := Aside0.mk (Kd.R_elder' (kr_ HO_9) (Kd.R_base ho0) hb); have n3_ := Aside0.mk (Kd.R_elder' (kr_ HO_10) (Kd.R_base ho0) hb); have n4_ := Aside0.mk (Kd.R_below (kr_ HO587) hb); have n5_ := Aside0.mk (Kd.R_lower (Kd.R_new' (Kd.R_new' (Kd.R_new' ho0 (Kd.R_lt (kr_ HO_6))) (Kd.R_lt (kr_ HO_9))) (Kd.R_lt (kr_ HO_10))) (below_size hb_)); have n6_ := Aside0.mk (below_step hb_ hb); clear HO_6; clear HO_8; clear HO_9; clear HO_10; clear HO587; clear HB; have HO_6 := n0_; have HO_8 := n1_; have HO_9 := n2_; have HO_10 := n3_; have HO587 := n4_; have HO591 := n5_; have HB := n6_; clear n0_ n1_ n2_ n3_ n4_ n5_ n6_; (try clear hb); (try clear hb2); (try clear hk); (try clear hi); (try clear ho0); obtain ⟨Ao51, co51, eo51⟩ := Kd.R_slice HO591.out; subst eo51) | ((with_reducible refine gate_callee (f := 25) rfl ?_); refine goesL_ (some 62) rfl rfl Try.func25 (by kernel_rfl) rfl #[.slice Ao27 t577.length co27, .slice Ao51 t589.length co51] rfl ln_ ?_; (with_reducible refine (laws_eqWantS.calls kj15 _ _ t577 _ _ t589 true _ ?side1 ?side2 ?side3 ?side4 A42.out).mono ?_); (case side1 => repeat (first | exact (Kd.R_reads' HO_9.out).2.2 | (with_reducible refine Kd.C_alloc ?_ _) | (with_reducible refine Kd.C_drewN ?_ _) | (with_reducible refine Kd.C_drew ?_))); (case side2 => exact (Kd.R_reads' HO_9.out).2.1); (case side3 => repeat (first | exact (Kd.R_reads' HO591.out).2.2 | (with_reducible refine Kd.C_alloc ?_ _) | (with_reducible refine Kd.C_drewN ?_ _) | (with_reducible refine Kd.C_drew ?_))); (case side4 => exact (Kd.R_reads' HO591.out).2.1); rintro e w52 ⟨rfl, hb⟩; refine ⟨_, rfl, ?_⟩; have n0_ := Aside0.mk (Kd.R_below (kr_ HO_6) hb); have n1_ := Aside0.mk (Kd.R_below (kr_ HO_8) hb); have n2_ := Aside0.mk (Kd.R_below (kr_ HO_9) hb); have n3_ := Aside0.mk (Kd.R_below (kr_ HO_10) hb); have n4_ := Aside0.mk (Kd.R_below (kr_ HO587) hb); have n5_ := Aside0.mk (Kd.R_below (kr_ HO591) hb); have n6_ := Aside0.mk (below_step hb_ hb); clear HO_6; clear HO_8; clear HO_9; clear HO_10; clear HO587; clear HO591; clear HB; have HO_6 := n0_; have HO_8 := n1_; have HO_9 := n2_; have HO_10 := n3_; have HO587 := n4_; have HO591 := n5_; have HB := n6_; clear n0_ n1_ n2_ n3_ n4_ n5_ n6_; (try clear hb); (try clear hb2); (try clear hk); (try clear hi)) | ((with_reducible refine gate_callee (f := 32) rfl ?_); refine goesL_ (some 66) rfl rfl Try.func32 (by kernel_rfl) rfl #[.slice Ao26 t574.length co26, .int .i64 1] rfl ln_ ?_; (with_reducible refine (laws_markCoilS.calls kj15 (fun k_ => some k_ = (.slice Ao26 t574.length co26 : Value).ownBlock) (.slice Ao26 t574.length co26) t574 1 t593 t594 w _ ?side1 ?side2 A44.out).mono ?_); (case side1 => repeat (first | (with_reducible first | exact HB.out | apply below_alloc | apply pw_below_drewN | apply below_drew1) | exact HB.out)); (case side2 => exact Kd.R_tight rfl HO_8.out); rintro e w53 ⟨rfl, hy0, hb, hkp⟩; refine ⟨_, rfl, ?_⟩; have n0_ := Aside0.mk (Kd.R_mono (ok' := fun k_ => some k_ ≠ (.slice Ao27 t577.length co27 : Value).ownBlock ∧ some k_ ≠ (v582 : Value).ownBlock ∧ some k_ ≠ (.slice Ao51 t589.length co51 : Value).ownBlock) (Kd.R_keptB ((Kd.R_apart' HO_6.out (Kd.R_typed HO_8.out) (by decide))) hkp (fun k_ hk_ hs_ => (hk_.2) hs_)) (fun k_ hk_ => ⟨hk_.1.1.1.1, hk_.1.1.1.2, hk_.1.1.2⟩)); have n1_ := Aside0.mk (Kd.R_reok rfl hy0 (fun k_ e_ => HO_8.out.1 k_ e_)); have n2_ := Aside0.mk (Kd.R_mono (ok' := fun k_ => some k_ ≠ (v572 : Value).ownBlock ∧ some k_ ≠ (v582 : Value).ownBlock ∧ some k_ ≠ (.slice Ao51 t589.length co51 : Value).ownBlock) (Kd.R_keptB ((Kd.R_apart' HO_9.out (Kd.R_typed HO_8.out) (by decide))) hkp (fun k_ hk_ hs_ => (hk_.2) hs_)) (fun k_ hk_ => ⟨hk_.1.1.1.1, hk_.1.1.1.2, hk_.1.1.2⟩)); have n3_ := Aside0.mk (Kd.R_mono (ok' := fun k_ => some k_ ≠ (v572 : Value).ownBlock ∧ some k_ ≠ (.slice Ao27 t577.length co27 : Value).ownBlock ∧ some k_ ≠ (.slice Ao51 t589.length co51 : Value).ownBlock) (Kd.R_keptB ((Kd.R_apart' HO_10.out (Kd.R_typed HO_8.out) (by decide))) hkp (fun k_ hk_ hs_ => (hk_.2) hs_)) (fun k_ hk_ => ⟨hk_.1.1.1.1, hk_.1.1.1.2, hk_.1.1.2⟩)); have n4_ := Aside0.mk (Kd.R_mono (ok' := fun k_ => some k_ ≠ (.slice Ao26 t574.length co26 : Value).ownBlock) (Kd.R_keptB (HO587.out) hkp (fun k_ hk_ hs_ => (hk_.2) hs_)) (fun k_ hk_ => hk_.1.2)); have n5_ := Aside0.mk (Kd.R_mono (ok' := fun k_ => some k_ ≠ (v572 : Value).ownBlock ∧ some k_ ≠ (.slice Ao27 t577.length co27 : Value).ownBlock ∧ some k_ ≠ (v582 : Value).ownBlock) (Kd.R_keptB ((Kd.R_apart' HO591.out (Kd.R_typed HO_8.out) (by decide))) hkp (fun k_ hk_ hs_ => (hk_.2) hs_)) (fun k_ hk_ => ⟨hk_.1.1.1.1.2, hk_.1.1.1.2, hk_.1.1.2⟩)); have n6_ := Aside0.mk (hb); clear HO_6; clear HO_8; clear HO_9; clear HO_10; clear HO587; clear HO591; clear HB; have HO_6 := n0_; have HO_8 := n1_; have HO_9 := n2_; have HO_10 := n3_; have HO587 := n4_; have HO591 := n5_; have HB := n6_; clear n0_ n1_ n2_ n3_ n4_ n5_ n6_; (try clear hb); (try clear hkp); (try clear hy0)) | ((with_reducible refine gate_callee (f := 44) rfl ?_); refine goesL_ (some 69) rfl rfl Try.func44 (by kernel_rfl) rfl #[.slice Ao27 t577.length co27, .int .i64 t593] rfl ln_ ?_; (with_reducible refine (laws_markWantS.calls kj15 (fun k_ => some k_ = (.slice Ao27 t577.length co27 : Value).ownBlock) (.slice Ao27 t577.length co27) t577 t593 t595 t596 w _ ?side1 ?side2 A45.out).mono ?_); (case side1 => repeat (first | (with_reducible first | exact HB.out | apply below_alloc | apply pw_below_drewN | apply below_drew1) | exact HB.out)); (case side2 => exact Kd.R_tight rfl HO_9.out); rintro e w54 ⟨rfl, hy0, hb, hkp⟩; refine ⟨_, rfl, ?_⟩; have n0_ := Aside0.mk (Kd.R_mono (ok' := fun k_ => some k_ ≠ (.slice Ao27 t577.length co27 : Value).ownBlock ∧ some k_ ≠ (v582 : Value).ownBlock ∧ some k_ ≠ (.slice Ao51 t589.length co51 : Value).ownBlock) (Kd.R_keptB (HO_6.out) hkp (fun k_ hk_ hs_ => (hk_.1) hs_)) (fun k_ hk_ => ⟨hk_.1.1, hk_.1.2.1, hk_.1.2.2⟩)); have n1_ := Aside0.mk (Kd.R_mono (ok' := fun k_ => some k_ ≠ (.slice Ao48 t585.length co48 : Value).ownBlock) (Kd.R_keptB ((Kd.R_apart' HO_8.out (Kd.R_typed HO_9.out) (by decide))) hkp (fun k_ hk_ hs_ => (hk_.2) hs_)) (fun k_ hk_ => hk_.1.1.2)); have n2_ := Aside0.mk (Kd.R_reok rfl hy0 (fun k_ e_ => HO_9.out.1 k_ e_)); have n3_ := Aside0.mk (Kd.R_mono (ok' := fun k_ => some k_ ≠ (v572 : Value).ownBlock ∧ some k_ ≠ (.slice Ao27 t577.length co27 : Value).ownBlock ∧ some k_ ≠ (.slice Ao51 t589.length co51 : Value).ownBlock) (Kd.R_keptB (HO_10.out) hkp (fun k_ hk_ hs_ => (hk_.2.1) hs_)) (fun k_ hk_ => ⟨hk_.1.1, hk_.1.2.1, hk_.1.2.2⟩)); have n4_ := Aside0.mk (Kd.R_mono (ok' := fun k_ => some k_ ≠ (.slice Ao26 t574.length co26 : Value).ownBlock) (Kd.R_keptB ((Kd.R_apart' HO587.out (Kd.R_typed HO_9.out) (by decide))) hkp (fun k_ hk_ hs_ => (hk_.2) hs_)) (fun k_ hk_ => hk_.1.1)); have n5_ := Aside0.mk (Kd.R_mono (ok' := fun k_ => some k_ ≠ (v572 : Value).ownBlock ∧ some k_ ≠ (.slice Ao27 t577.length co27 : Value).ownBlock ∧ some k_ ≠ (v582 : Value).ownBlock) (Kd.R_keptB (HO591.out) hkp (fun k_ hk_ hs_ => (hk_.2.1) hs_)) (fun k_ hk_ => ⟨hk_.1.1, hk_.1.2.1, hk_.1.2.2⟩)); have n6_ := Aside0.mk (hb); clear HO_6; clear HO_8; clear HO_9; clear HO_10; clear HO587; clear HO591; clear HB; have HO_6 := n0_; have HO_8 := n1_; have HO_9 := n2_; have HO_10 := n3_; have HO587 := n4_; have HO591 := n5_; have HB := n6_; clear n0_ n1_ n2_ n3_ n4_ n5_ n6_; (try clear hb); (try clear hkp); (try clear hy0)))
        (try simp only [Act.put, List.setIfInBounds_toArray, List.set_cons_zero, List.set_cons_succ])
        go_cut [82] (fun v82 wc => ∃ (kq : Nat) (x82_45 : Bool), v82 = .bool x82_45 ∧ Aside0 (laws_FnExactMissingRope.j1 kq l0 l1 t570 t571 t580 x82_45 = some r) ∧ Aside0 (kq ≤ kj15) ∧ Aside0 (Kd.R k55 55 wc w.heap.size (fun k_ => some k_ ≠ (v582 : Value).ownBlock) v572 t570) ∧ Aside0 (Kd.R k55 55 wc w.heap.size (fun k_ => some k_ ≠ (v572 : Value).ownBlock) v582 t580) ∧ Aside0 (Below w.heap.size w wc))
        case first =>
         have H := HC46.out
         clear HC46
         by_cases c55 : t595 < 0
         ·rw [if_pos c55] at H
          have c55b0 : decide (t595 < 0) = true := decide_eq_true c55
          clear c55
          (first | rw [c55b0] | (simp only [i64_w, i32_w]; rw [c55b0]) | skip)
          have H' := Aside0.mk H
          clear H
          go_wp2
          go_meet
          case rel => exact ⟨_, (true), (by first | rfl | (simp; done) | (simp [*]; done)), H', ⟨by have := HJ15.out; first | omega | exact Nat.le_refl _⟩, ⟨by (with_reducible repeat (first | apply Kd.R_alloc | apply Kd.R_drewN | apply Kd.R_drew)); exact Kd.R_mono HO_6.out (fun _ hk => hk.2.1)⟩, ⟨by (with_reducible repeat (first | apply Kd.R_alloc | apply Kd.R_drewN | apply Kd.R_drew)); exact Kd.R_mono HO_10.out (fun _ hk => hk.1)⟩, ⟨hb_⟩⟩
         ·rw [if_neg c55] at H
          have c55b0 : decide (t595 < 0) = false := decide_eq_false c55
          clear c55
          (first | rw [c55b0] | (simp only [i64_w, i32_w]; rw [c55b0]) | skip)
          replace H := Option.bind_eq_some_iff.mp H
          obtain ⟨t597, A560, H⟩ := H
          replace H : (if t597 = true then (laws_FnExactMissingRope.j1 kj15 l0 l1 t570 t571 t580 (t581 != t571)) else (laws_FnExactMissingRope.j1 kj15 l0 l1 t570 t571 t580 true)) = some r := H
          have A56 := Aside0.mk A560
          clear A560
          by_cases c57 : t597 = true
          ·subst c57
           have H1 : (laws_FnExactMissingRope.j1 kj15 l0 l1 t570 t571 t580 (t581 != t571)) = some r := by rw [if_pos rfl] at H; exact H
           clear H
           have H := H1
           clear H1
           have H' := Aside0.mk H
           clear H
           obtain ⟨Ao58, co58, eo58⟩ := Kd.R_slice HO_10.out
           subst eo58
           obtain ⟨Ao59, co59, eo59⟩ := Kd.R_slice HO_6.out
           subst eo59
           go_wp2_with (first | (go_at_call 25; (with_reducible refine (laws_eqWantS.calls kj15 _ _ t580 _ _ t570 true _ ?side1 ?side2 ?side3 ?side4 A56.out).mono ?_); (case side1 => repeat (first | exact (Kd.R_reads' HO_10.out).2.2 | (with_reducible refine Kd.C_alloc ?_ _) | (with_reducible refine Kd.C_drewN ?_ _) | (with_reducible refine Kd.C_drew ?_))); (case side2 => exact (Kd.R_reads' HO_10.out).2.1); (case side3 => repeat (first | exact (Kd.R_reads' HO_6.out).2.2 | (with_reducible refine Kd.C_alloc ?_ _) | (with_reducible refine Kd.C_drewN ?_ _) | (with_reducible refine Kd.C_drew ?_))); (case side4 => exact (Kd.R_reads' HO_6.out).2.1); rintro e w60 ⟨rfl, hb⟩; have n0_ := Aside0.mk (Kd.R_below (kr_ HO_6) hb); have n1_ := Aside0.mk (Kd.R_below (kr_ HO_8) hb); have n2_ := Aside0.mk (Kd.R_below (kr_ HO_9) hb); have n3_ := Aside0.mk (Kd.R_below (kr_ HO_10) hb); have n4_ := Aside0.mk (Kd.R_below (kr_ HO587) hb); have n5_ := Aside0.mk (Kd.R_below (kr_ HO591) hb); have n6_ := Aside0.mk (below_step hb_ hb); clear HO_6; clear HO_8; clear HO_9; clear HO_10; clear HO587; clear HO591; clear HB; have HO_6 := n0_; have HO_8 := n1_; have HO_9 := n2_; have HO_10 := n3_; have HO587 := n4_; have HO591 := n5_; have HB := n6_; clear n0_ n1_ n2_ n3_ n4_ n5_ n6_; (try clear hb); (try clear hb2); (try clear hk); (try clear hi)))
           go_meet
           case rel => exact ⟨_, ((t581 != t571)), (by first | rfl | (simp; done) | (simp [*]; done)), H', ⟨by have := HJ15.out; first | omega | exact Nat.le_refl _⟩, ⟨by (with_reducible repeat (first | apply Kd.R_alloc | apply Kd.R_drewN | apply Kd.R_drew)); exact Kd.R_mono HO_6.out (fun _ hk => hk.2.1)⟩, ⟨by (with_reducible repeat (first | apply Kd.R_alloc | apply Kd.R_drewN | apply Kd.R_drew)); exact Kd.R_mono HO_10.out (fun _ hk => hk.1)⟩, ⟨hb_⟩⟩
          ·replace c57 := Bool.eq_false_iff.mpr c57
           subst c57
           have H1 : (laws_FnExactMissingRope.j1 kj15 l0 l1 t570 t571 t580 true) = some r := by rw [if_neg (show ¬ (false = true) by decide)] at H; exact H
           clear H
           have H := H1
           clear H1
           have H' := Aside0.mk H
           clear H
           obtain ⟨Ao61, co61, eo61⟩ := Kd.R_slice HO_10.out
           subst eo61
           obtain ⟨Ao62, co62, eo62⟩ := Kd.R_slice HO_6.out
           subst eo62
           go_wp2_with (first | (go_at_call 25; (with_reducible refine (laws_eqWantS.calls kj15 _ _ t580 _ _ t570 false _ ?side1 ?side2 ?side3 ?side4 A56.out).mono ?_); (case side1 => repeat (first | exact (Kd.R_reads' HO_10.out).2.2 | (with_reducible refine Kd.C_alloc ?_ _) | (with_reducible refine Kd.C_drewN ?_ _) | (with_reducible refine Kd.C_drew ?_))); (case side2 => exact (Kd.R_reads' HO_10.out).2.1); (case side3 => repeat (first | exact (Kd.R_reads' HO_6.out).2.2 | (with_reducible refine Kd.C_alloc ?_ _) | (with_reducible refine Kd.C_drewN ?_ _) | (with_reducible refine Kd.C_drew ?_))); (case side4 => exact (Kd.R_reads' HO_6.out).2.1); rintro e w63 ⟨rfl, hb⟩; have n0_ := Aside0.mk (Kd.R_below (kr_ HO_6) hb); have n1_ := Aside0.mk (Kd.R_below (kr_ HO_8) hb); have n2_ := Aside0.mk (Kd.R_below (kr_ HO_9) hb); have n3_ := Aside0.mk (Kd.R_below (kr_ HO_10) hb); have n4_ := Aside0.mk (Kd.R_below (kr_ HO587) hb); have n5_ := Aside0.mk (Kd.R_below (kr_ HO591) hb); have n6_ := Aside0.mk (below_step hb_ hb); clear HO_6; clear HO_8; clear HO_9; clear HO_10; clear HO587; clear HO591; clear HB; have HO_6 := n0_; have HO_8 := n1_; have HO_9 := n2_; have HO_10 := n3_; have HO587 := n4_; have HO591 := n5_; have HB := n6_; clear n0_ n1_ n2_ n3_ n4_ n5_ n6_; (try clear hb); (try clear hb2); (try clear hk); (try clear hi)))
           go_meet
           case rel => exact ⟨_, (true), (by first | rfl | (simp; done) | (simp [*]; done)), H', ⟨by have := HJ15.out; first | omega | exact Nat.le_refl _⟩, ⟨by (with_reducible repeat (first | apply Kd.R_alloc | apply Kd.R_drewN | apply Kd.R_drew)); exact Kd.R_mono HO_6.out (fun _ hk => hk.2.1)⟩, ⟨by (with_reducible repeat (first | apply Kd.R_alloc | apply Kd.R_drewN | apply Kd.R_drew)); exact Kd.R_mono HO_10.out (fun _ hk => hk.1)⟩, ⟨hb_⟩⟩
        case rest =>
         clear HC46
         try clear c1
         try clear c2
         try clear p2
         try clear c3
         try clear c4
         try clear c4b0
         try clear c5
         try clear c7
         try clear c7b0
         try clear c11
         try clear c14
         try clear c16
         try clear c18
         try clear c21
         try clear c23
         try clear c25
         try clear c30
         try clear c32
         try clear c37
         try clear c40
         try clear c42
         try clear c43
         try clear c44
         try clear c55
         try clear c55b0
         try clear c57
         try clear p2
         obtain ⟨kq, x82_45, rfl, HA, HJ45, HO_6, HO_10, HB⟩ := hcut
         cases kq with
         | zero => exact absurd HA.out (by simp [laws_FnExactMissingRope.j1])
         | succ kj45 =>
          have H := HA.out
          clear HA
          simp only [laws_FnExactMissingRope.j1] at H
          by_cases c64 : x82_45 = true
          ·subst c64
           have H1 : (some false) = some r := by rw [if_pos rfl] at H; exact H
           clear H
           have H := H1
           clear H1
           obtain rfl := Option.some.inj H
           go_wp2
           go_ret
           exact ⟨ew_, hb_⟩
          ·replace c64 := Bool.eq_false_iff.mpr c64
           subst c64
           have H1 : ((laws_markWantS.f kj45 t580 1).bind fun bt598 => ((laws_heldWantS.f kj45 bt598.2 1).bind fun t600 => (if t600 < 0 then (some false) else (if t600 = bt598.1 then ((laws_toCoilS.f kj45 l0).bind fun t601 => ((laws_toWantS.f kj45 l1).bind fun t604 => ((impl_MissingRope.f kj45 t601 t604).bind fun bt607 => ((laws_eqWantS.f kj45 bt607.1 t570).bind fun t611 => (if t611 = true then (laws_FnExactMissingRope.j2 kj45 bt598.2 bt598.1 (bt607.2 != t571)) else (laws_FnExactMissingRope.j2 kj45 bt598.2 bt598.1 true)))))) else (some false))))) = some r := by rw [if_neg (show ¬ (false = true) by decide)] at H; exact H
           clear H
           have H := H1
           clear H1
           replace H := Option.bind_eq_some_iff.mp H
           obtain ⟨⟨t598, t599⟩, A650, H⟩ := H
           replace H : ((laws_heldWantS.f kj45 t599 1).bind fun t600 => (if t600 < 0 then (some false) else (if t600 = t598 then ((laws_toCoilS.f kj45 l0).bind fun t601 => ((laws_toWantS.f kj45 l1).bind fun t604 => ((impl_MissingRope.f kj45 t601 t604).bind fun bt607 => ((laws_eqWantS.f kj45 bt607.1 t570).bind fun t611 => (if t611 = true then (laws_FnExactMissingRope.j2 kj45 t599 t598 (bt607.2 != t571)) else (laws_FnExactMissingRope.j2 kj45 t599 t598 true)))))) else (some false)))) = some r := H
           have A65 := Aside0.mk A650
           clear A650
           replace H := Option.bind_eq_some_iff.mp H
           obtain ⟨t600, A660, H⟩ := H
           replace H : (if t600 < 0 then (some false) else (if t600 = t598 then ((laws_toCoilS.f kj45 l0).bind fun t601 => ((laws_toWantS.f kj45 l1).bind fun t604 => ((impl_MissingRope.f kj45 t601 t604).bind fun bt607 => ((laws_eqWantS.f kj45 bt607.1 t570).bind fun t611 => (if t611 = true then (laws_FnExactMissingRope.j2 kj45 t599 t598 (bt607.2 != t571)) else (laws_FnExactMissingRope.j2 kj45 t599 t598 true)))))) else (some false))) = some r := H
           have A66 := Aside0.mk A660
           clear A660
           by_cases c67 : t600 < 0
           ·rw [if_pos c67] at H
            have c67b0 : decide (t600 < 0) = true := decide_eq_true c67
            clear c67
            obtain rfl := Option.some.inj H
            obtain ⟨Ao68, co68, eo68⟩ := Kd.R_slice HO_10.out
            subst eo68
            go_wp2_with (first | ((with_reducible refine gate_callee (f := 44) rfl ?_); refine goesL_ (some 85) rfl rfl Try.func44 (by kernel_rfl) rfl #[.slice Ao68 t580.length co68, .int .i64 1] rfl ln_ ?_; (with_reducible refine (laws_markWantS.calls kj45 (fun k_ => some k_ = (.slice Ao68 t580.length co68 : Value).ownBlock) (.slice Ao68 t580.length co68) t580 1 t598 t599 w _ ?side1 ?side2 A65.out).mono ?_); (case side1 => repeat (first | (with_reducible first | exact HB.out | apply below_alloc | apply pw_below_drewN | apply below_drew1) | exact HB.out)); (case side2 => exact Kd.R_tight rfl HO_10.out); rintro e w69 ⟨rfl, hy0, hb, hkp⟩; refine ⟨_, rfl, ?_⟩; have n0_ := Aside0.mk (Kd.R_mono (ok' := fun k_ => some k_ ≠ (.slice Ao68 t580.length co68 : Value).ownBlock) (Kd.R_keptB (HO_6.out) hkp (fun k_ hk_ hs_ => (hk_) hs_)) (fun k_ hk_ => hk_.1)); have n1_ := Aside0.mk (Kd.R_reok rfl hy0 (fun k_ e_ => HO_10.out.1 k_ e_)); have n2_ := Aside0.mk (hb); clear HO_6; clear HO_10; clear HB; have HO_6 := n0_; have HO_10 := n1_; have HB := n2_; clear n0_ n1_ n2_; (try clear hb); (try clear hkp); (try clear hy0)) | ((with_reducible refine gate_callee (f := 45) rfl ?_); refine goesL_ (some 88) rfl rfl Try.func45 (by kernel_rfl) rfl #[.slice Ao68 t599.length co68, .int .i64 1] rfl (by (try simp only [List.map_toArray, List.map_cons, List.map_nil]); first | done | (rw [show t599.length = t580.length from (Kd.R_reads' HO_10.out).1.symm] <;> rfl) | rfl | (simp only [List.length_drop, List.length_take]; rfl)) ?_; (with_reducible refine (laws_heldWantS.calls kj45 _ _ t599 1 t600 _ ?side1 ?side2 A66.out).mono ?_); (case side1 => repeat (first | exact (Kd.R_reads' HO_10.out).2.2 | (with_reducible refine Kd.C_alloc ?_ _) | (with_reducible refine Kd.C_drewN ?_ _) | (with_reducible refine Kd.C_drew ?_))); (case side2 => rw [show t599.length = t580.length from (Kd.R_reads' HO_10.out).1.symm]; exact (Kd.R_reads' HO_10.out).2.1); rintro e w70 ⟨rfl, hb⟩; refine ⟨_, rfl, ?_⟩; have n0_ := Aside0.mk (Kd.R_below (kr_ HO_6) hb); have n1_ := Aside0.mk (Kd.R_below (kr_ HO_10) hb); have n2_ := Aside0.mk (below_step hb_ hb); clear HO_6; clear HO_10; clear HB; have HO_6 := n0_; have HO_10 := n1_; have HB := n2_; clear n0_ n1_ n2_; (try clear hb); (try clear hb2); (try clear hk); (try clear hi)))
            go_ret
            exact ⟨ew_, hb_⟩
           ·rw [if_neg c67] at H
            have c67b0 : decide (t600 < 0) = false := decide_eq_false c67
            clear c67
            by_cases c71 : t600 = t598
            ·rw [if_pos c71] at H
             have c71b0 : (t600 == t598) = true := beq_iff_eq.mpr c71
             have c71b1 : (t600 != t598) = false := bne_eq_false_iff_eq.mpr c71
             clear c71
             replace H := Option.bind_eq_some_iff.mp H
             obtain ⟨t601, A720, H⟩ := H
             replace H : ((laws_toWantS.f kj45 l1).bind fun t604 => ((impl_MissingRope.f kj45 t601 t604).bind fun bt607 => ((laws_eqWantS.f kj45 bt607.1 t570).bind fun t611 => (if t611 = true then (laws_FnExactMissingRope.j2 kj45 t599 t598 (bt607.2 != t571)) else (laws_FnExactMissingRope.j2 kj45 t599 t598 true))))) = some r := H
             have A72 := Aside0.mk A720
             clear A720
             replace H := Option.bind_eq_some_iff.mp H
             obtain ⟨t604, A730, H⟩ := H
             replace H : ((impl_MissingRope.f kj45 t601 t604).bind fun bt607 => ((laws_eqWantS.f kj45 bt607.1 t570).bind fun t611 => (if t611 = true then (laws_FnExactMissingRope.j2 kj45 t599 t598 (bt607.2 != t571)) else (laws_FnExactMissingRope.j2 kj45 t599 t598 true)))) = some r := H
             have A73 := Aside0.mk A730
             clear A730
             replace H := Option.bind_eq_some_iff.mp H
             obtain ⟨⟨t607, t608⟩, A740, H⟩ := H
             replace H : ((laws_eqWantS.f kj45 t607 t570).bind fun t611 => (if t611 = true then (laws_FnExactMissingRope.j2 kj45 t599 t598 (t608 != t571)) else (laws_FnExactMissingRope.j2 kj45 t599 t598 true))) = some r := H
             have A74 := Aside0.mk A740
             clear A740
             have HC75 := Aside0.mk H
             clear H
             obtain ⟨Ao76, co76, eo76⟩ := Kd.R_slice HO_10.out
             subst eo76
             go_upto_region 32 with (first | ((with_reducible refine gate_callee (f := 44) rfl ?_); refine goesL_ (some 85) rfl rfl Try.func44 (by kernel_rfl) rfl #[.slice Ao76 t580.length co76, .int .i64 1] rfl ln_ ?_; (with_reducible refine (laws_markWantS.calls kj45 (fun k_ => some k_ = (.slice Ao76 t580.length co76 : Value).ownBlock) (.slice Ao76 t580.length co76) t580 1 t598 t599 w _ ?side1 ?side2 A65.out).mono ?_); (case side1 => repeat (first | (with_reducible first | exact HB.out | apply below_alloc | apply pw_below_drewN | apply below_drew1) | exact HB.out)); (case side2 => exact Kd.R_tight rfl HO_10.out); rintro e w77 ⟨rfl, hy0, hb, hkp⟩; refine ⟨_, rfl, ?_⟩; have n0_ := Aside0.mk (Kd.R_mono (ok' := fun k_ => some k_ ≠ (.slice Ao76 t580.length co76 : Value).ownBlock) (Kd.R_keptB (HO_6.out) hkp (fun k_ hk_ hs_ => (hk_) hs_)) (fun k_ hk_ => hk_.1)); have n1_ := Aside0.mk (Kd.R_reok rfl hy0 (fun k_ e_ => HO_10.out.1 k_ e_)); have n2_ := Aside0.mk (hb); clear HO_6; clear HO_10; clear HB; have HO_6 := n0_; have HO_10 := n1_; have HB := n2_; clear n0_ n1_ n2_; (try clear hb); (try clear hkp); (try clear hy0)) | ((with_reducible refine gate_callee (f := 45) rfl ?_); refine goesL_ (some 88) rfl rfl Try.func45 (by kernel_rfl) rfl #[.slice Ao76 t599.length co76, .int .i64 1] rfl (by (try simp only [List.map_toArray, List.map_cons, List.map_nil]); first | done | (rw [show t599.length = t580.length from (Kd.R_reads' HO_10.out).1.symm] <;> rfl) | rfl | (simp only [List.length_drop, List.length_take]; rfl)) ?_; (with_reducible refine (laws_heldWantS.calls kj45 _ _ t599 1 t600 _ ?side1 ?side2 A66.out).mono ?_); (case side1 => repeat (first | exact (Kd.R_reads' HO_10.out).2.2 | (with_reducible refine Kd.C_alloc ?_ _) | (with_reducible refine Kd.C_drewN ?_ _) | (with_reducible refine Kd.C_drew ?_))); (case side2 => rw [show t599.length = t580.length from (Kd.R_reads' HO_10.out).1.symm]; exact (Kd.R_reads' HO_10.out).2.1); rintro e w78 ⟨rfl, hb⟩; refine ⟨_, rfl, ?_⟩; have n0_ := Aside0.mk (Kd.R_below (kr_ HO_6) hb); have n1_ := Aside0.mk (Kd.R_below (kr_ HO_10) hb); have n2_ := Aside0.mk (below_step hb_ hb); clear HO_6; clear HO_10; clear HB; have HO_6 := n0_; have HO_10 := n1_; have HB := n2_; clear n0_ n1_ n2_; (try clear hb); (try clear hb2); (try clear hk); (try clear hi)) | ((with_reducible refine gate_callee (f := 16) rfl ?_); refine goesL_ (some 96) rfl rfl Try.func16 (by kernel_rfl) rfl #[.slice A0 l0.length c0] rfl ln_ ?_; (with_reducible refine (laws_toCoilS.calls kj45 _ _ l0 t601 _ ?side1 ?side2 A72.out).mono ?_); (case side1 => exact kc_ (Kd.C_below HR0.out HB.out)); (case side2 => exact HC0.out); rintro e w79 ⟨v602, rfl, ho0, hb⟩; refine ⟨_, rfl, ?_⟩; have n0_ := Aside0.mk (Kd.R_below (kr_ HO_6) hb); have n1_ := Aside0.mk (Kd.R_below (kr_ HO_10) hb); have n2_ := Aside0.mk (Kd.R_lower ho0 (below_size hb_)); have n3_ := Aside0.mk (below_step hb_ hb); clear HO_6; clear HO_10; clear HB; have HO_6 := n0_; have HO_10 := n1_; have HO603 := n2_; have HB := n3_; clear n0_ n1_ n2_ n3_; (try clear hb); (try clear hb2); (try clear hk); (try clear hi); (try clear ho0)) | ((with_reducible refine gate_callee (f := 23) rfl ?_); refine goesL_ (some 98) rfl rfl Try.func23 (by kernel_rfl) rfl #[.slice A1 l1.length c1] rfl ln_ ?_; (with_reducible refine (laws_toWantS.calls kj45 _ _ l1 t604 _ ?side1 ?side2 A73.out).mono ?_); (case side1 => exact kc_ (Kd.C_below HR1.out HB.out)); (case side2 => exact HC1.out); rintro e w80 ⟨v605, rfl, ho0, hb⟩; refine ⟨_, rfl, ?_⟩; have n0_ := Aside0.mk (Kd.R_elder' (kr_ HO_6) (Kd.R_base ho0) hb); have n1_ := Aside0.mk (Kd.R_elder' (kr_ HO_10) (Kd.R_base ho0) hb); have n2_ := Aside0.mk (Kd.R_below (kr_ HO603) hb); have n3_ := Aside0.mk (Kd.R_lower (Kd.R_new' (Kd.R_new' ho0 (Kd.R_lt (kr_ HO_6))) (Kd.R_lt (kr_ HO_10))) (below_size hb_)); have n4_ := Aside0.mk (below_step hb_ hb); clear HO_6; clear HO_10; clear HO603; clear HB; have HO_6 := n0_; have HO_10 := n1_; have HO603 := n2_; have HO606 := n3_; have HB := n4_; clear n0_ n1_ n2_ n3_ n4_; (try clear hb); (try clear hb2); (try clear hk); (try clear hi); (try clear ho0); obtain ⟨Ao81, co81, eo81⟩ := Kd.R_slice HO603.out; subst eo81; obtain ⟨Ao82, co82, eo82⟩ := Kd.R_slice HO606.out; subst eo82) | ((with_reducible refine gate_callee (f := 43) rfl ?_); refine goesL_ (some 99) rfl rfl Try.func43 (by kernel_rfl) rfl #[.slice Ao81 t601.length co81, .slice Ao82 t604.length co82] rfl ln_ ?_; (with_reducible refine (impl_MissingRope.calls kj45 _ _ t601 _ _ t604 t607 t608 _ ?side1 ?side2 ?side3 ?side4 A74.out).mono ?_); (case side1 => repeat (first | exact (Kd.R_reads' HO603.out).2.2 | (with_reducible refine Kd.C_alloc ?_ _) | (with_reducible refine Kd.C_drewN ?_ _) | (with_reducible refine Kd.C_drew ?_))); (case side2 => exact (Kd.R_reads' HO603.out).2.1); (case side3 => repeat (first | exact (Kd.R_reads' HO606.out).2.2 | (with_reducible refine Kd.C_alloc ?_ _) | (with_reducible refine Kd.C_drewN ?_ _) | (with_reducible refine Kd.C_drew ?_))); (case side4 => exact (Kd.R_reads' HO606.out).2.1); rintro e w83 ⟨v609, rfl, ho0, hb⟩; refine ⟨_, rfl, ?_⟩; have n0_ := Aside0.mk (Kd.R_elder' (kr_ HO_6) (Kd.R_base ho0) hb); have n1_ := Aside0.mk (Kd.R_elder' (kr_ HO_10) (Kd.R_base ho0) hb); have n2_ := Aside0.mk (Kd.R_below (kr_ HO603) hb); have n3_ := Aside0.mk (Kd.R_elder' (kr_ HO606) (Kd.R_base ho0) hb); have n4_ := Aside0.mk (Kd.R_lower (Kd.R_new' (Kd.R_new' (Kd.R_new' ho0 (Kd.R_lt (kr_ HO_6))) (Kd.R_lt (kr_ HO_10))) (Kd.R_lt (kr_ HO606))) (below_size hb_)); have n5_ := Aside0.mk (below_step hb_ hb); clear HO_6; clear HO_10; clear HO603; clear HO606; clear HB; have HO_6 := n0_; have HO_10 := n1_; have HO603 := n2_; have HO606 := n3_; have HO610 := n4_; have HB := n5_; clear n0_ n1_ n2_ n3_ n4_ n5_; (try clear hb); (try clear hb2); (try clear hk); (try clear hi); (try clear ho0)))
             (try simp only [Act.put, List.setIfInBounds_toArray, List.set_cons_zero, List.set_cons_succ])
             go_cut [110] (fun v110 wc => ∃ (kq : Nat) (x110_74 : Bool), v110 = .bool x110_74 ∧ Aside0 (laws_FnExactMissingRope.j2 kq t599 t598 x110_74 = some r) ∧ Aside0 (kq ≤ kj45) ∧ Aside0 (Kd.R k55 55 wc w.heap.size (fun _ => True) (.slice Ao76 t580.length co76) t599) ∧ Aside0 (Below w.heap.size w wc))
             case first =>
              have H := HC75.out
              clear HC75
              replace H := Option.bind_eq_some_iff.mp H
              obtain ⟨t611, A840, H⟩ := H
              replace H : (if t611 = true then (laws_FnExactMissingRope.j2 kj45 t599 t598 (t608 != t571)) else (laws_FnExactMissingRope.j2 kj45 t599 t598 true)) = some r := H
              have A84 := Aside0.mk A840
              clear A840
              by_cases c85 : t611 = true
              ·subst c85
               have H1 : (laws_FnExactMissingRope.j2 kj45 t599 t598 (t608 != t571)) = some r := by rw [if_pos rfl] at H; exact H
               clear H
               have H := H1
               clear H1
               have H' := Aside0.mk H
               clear H
               obtain ⟨Ao86, co86, eo86⟩ := Kd.R_slice HO610.out
               subst eo86
               obtain ⟨Ao87, co87, eo87⟩ := Kd.R_slice HO_6.out
               subst eo87
               go_wp2_with (first | ((with_reducible refine gate_callee (f := 25) rfl ?_); refine goesL_ (some 104) rfl rfl Try.func25 (by kernel_rfl) rfl #[.slice Ao86 t607.length co86, .slice Ao87 t570.length co87] rfl ln_ ?_; (with_reducible refine (laws_eqWantS.calls kj45 _ _ t607 _ _ t570 true _ ?side1 ?side2 ?side3 ?side4 A84.out).mono ?_); (case side1 => repeat (first | exact (Kd.R_reads' HO610.out).2.2 | (with_reducible refine Kd.C_alloc ?_ _) | (with_reducible refine Kd.C_drewN ?_ _) | (with_reducible refine Kd.C_drew ?_))); (case side2 => exact (Kd.R_reads' HO610.out).2.1); (case side3 => repeat (first | exact (Kd.R_reads' HO_6.out).2.2 | (with_reducible refine Kd.C_alloc ?_ _) | (with_reducible refine Kd.C_drewN ?_ _) | (with_reducible refine Kd.C_drew ?_))); (case side4 => exact (Kd.R_reads' HO_6.out).2.1); rintro e w88 ⟨rfl, hb⟩; refine ⟨_, rfl, ?_⟩; have n0_ := Aside0.mk (Kd.R_below (kr_ HO_6) hb); have n1_ := Aside0.mk (Kd.R_below (kr_ HO_10) hb); have n2_ := Aside0.mk (Kd.R_below (kr_ HO603) hb); have n3_ := Aside0.mk (Kd.R_below (kr_ HO606) hb); have n4_ := Aside0.mk (Kd.R_below (kr_ HO610) hb); have n5_ := Aside0.mk (below_step hb_ hb); clear HO_6; clear HO_10; clear HO603; clear HO606; clear HO610; clear HB; have HO_6 := n0_; have HO_10 := n1_; have HO603 := n2_; have HO606 := n3_; have HO610 := n4_; have HB := n5_; clear n0_ n1_ n2_ n3_ n4_ n5_; (try clear hb); (try clear hb2); (try clear hk); (try clear hi)))
               go_meet
               case rel => exact ⟨_, ((t608 != t571)), (by first | rfl | (simp; done) | (simp [*]; done)), H', ⟨by have := HJ15.out; have := HJ45.out; first | omega | exact Nat.le_refl _⟩, ⟨by (with_reducible repeat (first | apply Kd.R_alloc | apply Kd.R_drewN | apply Kd.R_drew)); exact Kd.R_mono HO_10.out (fun _ hk => trivial)⟩, ⟨hb_⟩⟩
              ·replace c85 := Bool.eq_false_iff.mpr c85
               subst c85
               have H1 : (laws_FnExactMissingRope.j2 kj45 t599 t598 true) = some r := by rw [if_neg (show ¬ (false = true) by decide)] at H; exact H
               clear H
               have H := H1
               clear H1
               have H' := Aside0.mk H
               clear H
               obtain ⟨Ao89, co89, eo89⟩ := Kd.R_slice HO610.out
               subst eo89
               obtain ⟨Ao90, co90, eo90⟩ := Kd.R_slice HO_6.out
               subst eo90
               go_wp2_with (first | ((with_reducible refine gate_callee (f := 25) rfl ?_); refine goesL_ (some 104) rfl rfl Try.func25 (by kernel_rfl) rfl #[.slice Ao89 t607.length co89, .slice Ao90 t570.length co90] rfl ln_ ?_; (with_reducible refine (laws_eqWantS.calls kj45 _ _ t607 _ _ t570 false _ ?side1 ?side2 ?side3 ?side4 A84.out).mono ?_); (case side1 => repeat (first | exact (Kd.R_reads' HO610.out).2.2 | (with_reducible refine Kd.C_alloc ?_ _) | (with_reducible refine Kd.C_drewN ?_ _) | (with_reducible refine Kd.C_drew ?_))); (case side2 => exact (Kd.R_reads' HO610.out).2.1); (case side3 => repeat (first | exact (Kd.R_reads' HO_6.out).2.2 | (with_reducible refine Kd.C_alloc ?_ _) | (with_reducible refine Kd.C_drewN ?_ _) | (with_reducible refine Kd.C_drew ?_))); (case side4 => exact (Kd.R_reads' HO_6.out).2.1); rintro e w91 ⟨rfl, hb⟩; refine ⟨_, rfl, ?_⟩; have n0_ := Aside0.mk (Kd.R_below (kr_ HO_6) hb); have n1_ := Aside0.mk (Kd.R_below (kr_ HO_10) hb); have n2_ := Aside0.mk (Kd.R_below (kr_ HO603) hb); have n3_ := Aside0.mk (Kd.R_below (kr_ HO606) hb); have n4_ := Aside0.mk (Kd.R_below (kr_ HO610) hb); have n5_ := Aside0.mk (below_step hb_ hb); clear HO_6; clear HO_10; clear HO603; clear HO606; clear HO610; clear HB; have HO_6 := n0_; have HO_10 := n1_; have HO603 := n2_; have HO606 := n3_; have HO610 := n4_; have HB := n5_; clear n0_ n1_ n2_ n3_ n4_ n5_; (try clear hb); (try clear hb2); (try clear hk); (try clear hi)))
               go_meet
               case rel => exact ⟨_, (true), (by first | rfl | (simp; done) | (simp [*]; done)), H', ⟨by have := HJ15.out; have := HJ45.out; first | omega | exact Nat.le_refl _⟩, ⟨by (with_reducible repeat (first | apply Kd.R_alloc | apply Kd.R_drewN | apply Kd.R_drew)); exact Kd.R_mono HO_10.out (fun _ hk => trivial)⟩, ⟨hb_⟩⟩
             case rest =>
              clear HC75
              try clear c1
              try clear c2
              try clear p2
              try clear c3
              try clear c4
              try clear c4b0
              try clear c5
              try clear c6
              try clear c7
              try clear c7b0
              try clear c8
              try clear c11
              try clear c14
              try clear c16
              try clear c18
              try clear c21
              try clear c23
              try clear c25
              try clear c30
              try clear c32
              try clear c37
              try clear c40
              try clear c42
              try clear c43
              try clear c44
              try clear c45
              try clear c55
              try clear c55b0
              try clear c57
              try clear c64
              try clear c67
              try clear c67b0
              try clear c71
              try clear c71b0
              try clear c71b1
              try clear c85
              try clear p2
              obtain ⟨kq, x110_74, rfl, HA, HJ74, HO_10, HB⟩ := hcut
              have hl10_74 := (Kd.R_reads' HO_10.out).1
              rw [hl10_74] at HO_10
              (try simp only [hl10_74])
              cases kq with
              | zero => exact absurd HA.out (by simp [laws_FnExactMissingRope.j2])
              | succ kj74 =>
               have H := HA.out
               clear HA
               simp only [laws_FnExactMissingRope.j2] at H
               by_cases c92 : x110_74 = true
               ·subst c92
                have H1 : (some false) = some r := by rw [if_pos rfl] at H; exact H
                clear H
                have H := H1
                clear H1
                obtain rfl := Option.some.inj H
                go_wp2
                go_ret
                exact ⟨ew_, hb_⟩
               ·replace c92 := Bool.eq_false_iff.mpr c92
                subst c92
                have H1 : ((laws_heldWantS.f kj74 t599 1).bind fun t612 => (if t612 < 0 then (some false) else (if t612 = t598 then (some true) else (some false)))) = some r := by rw [if_neg (show ¬ (false = true) by decide)] at H; exact H
                clear H
                have H := H1
                clear H1
                replace H := Option.bind_eq_some_iff.mp H
                obtain ⟨t612, A930, H⟩ := H
                replace H : (if t612 < 0 then (some false) else (if t612 = t598 then (some true) else (some false))) = some r := H
                have A93 := Aside0.mk A930
                clear A930
                by_cases c94 : t612 < 0
                ·rw [if_pos c94] at H
                 have c94b0 : decide (t612 < 0) = true := decide_eq_true c94
                 clear c94
                 obtain rfl := Option.some.inj H
                 go_wp2_with (first | ((with_reducible refine gate_callee (f := 45) rfl ?_); refine goesL_ (some 113) rfl rfl Try.func45 (by kernel_rfl) rfl #[.slice Ao76 t599.length co76, .int .i64 1] rfl ln_ ?_; (with_reducible refine (laws_heldWantS.calls kj74 _ _ t599 1 t612 _ ?side1 ?side2 A93.out).mono ?_); (case side1 => repeat (first | exact (Kd.R_reads' HO_10.out).2.2 | (with_reducible refine Kd.C_alloc ?_ _) | (with_reducible refine Kd.C_drewN ?_ _) | (with_reducible refine Kd.C_drew ?_))); (case side2 => exact (Kd.R_reads' HO_10.out).2.1); rintro e w95 ⟨rfl, hb⟩; refine ⟨_, rfl, ?_⟩; have n0_ := Aside0.mk (Kd.R_below (kr_ HO_10) hb); have n1_ := Aside0.mk (below_step hb_ hb); clear HO_10; clear HB; have HO_10 := n0_; have HB := n1_; clear n0_ n1_; (try clear hb); (try clear hb2); (try clear hk); (try clear hi)))
                 go_ret
                 exact ⟨ew_, hb_⟩
                ·rw [if_neg c94] at H
                 have c94b0 : decide (t612 < 0) = false := decide_eq_false c94
                 clear c94
                 by_cases c96 : t612 = t598
                 ·rw [if_pos c96] at H
                  have c96b0 : (t612 == t598) = true := beq_iff_eq.mpr c96
                  have c96b1 : (t612 != t598) = false := bne_eq_false_iff_eq.mpr c96
                  clear c96
                  obtain rfl := Option.some.inj H
                  go_wp2_with (first | ((with_reducible refine gate_callee (f := 45) rfl ?_); refine goesL_ (some 113) rfl rfl Try.func45 (by kernel_rfl) rfl #[.slice Ao76 t599.length co76, .int .i64 1] rfl ln_ ?_; (with_reducible refine (laws_heldWantS.calls kj74 _ _ t599 1 t612 _ ?side1 ?side2 A93.out).mono ?_); (case side1 => repeat (first | exact (Kd.R_reads' HO_10.out).2.2 | (with_reducible refine Kd.C_alloc ?_ _) | (with_reducible refine Kd.C_drewN ?_ _) | (with_reducible refine Kd.C_drew ?_))); (case side2 => exact (Kd.R_reads' HO_10.out).2.1); rintro e w97 ⟨rfl, hb⟩; refine ⟨_, rfl, ?_⟩; have n0_ := Aside0.mk (Kd.R_below (kr_ HO_10) hb); have n1_ := Aside0.mk (below_step hb_ hb); clear HO_10; clear HB; have HO_10 := n0_; have HB := n1_; clear n0_ n1_; (try clear hb); (try clear hb2); (try clear hk); (try clear hi)))
                  go_ret
                  exact ⟨ew_, hb_⟩
                 ·rw [if_neg c96] at H
                  have c96b0 : (t612 == t598) = false := beq_eq_false_iff_ne.mpr c96
                  have c96b1 : (t612 != t598) = true := bne_iff_ne.mpr c96
                  obtain rfl := Option.some.inj H
                  go_wp2_with (first | ((with_reducible refine gate_callee (f := 45) rfl ?_); refine goesL_ (some 113) rfl rfl Try.func45 (by kernel_rfl) rfl #[.slice Ao76 t599.length co76, .int .i64 1] rfl ln_ ?_; (with_reducible refine (laws_heldWantS.calls kj74 _ _ t599 1 t612 _ ?side1 ?side2 A93.out).mono ?_); (case side1 => repeat (first | exact (Kd.R_reads' HO_10.out).2.2 | (with_reducible refine Kd.C_alloc ?_ _) | (with_reducible refine Kd.C_drewN ?_ _) | (with_reducible refine Kd.C_drew ?_))); (case side2 => exact (Kd.R_reads' HO_10.out).2.1); rintro e w98 ⟨rfl, hb⟩; refine ⟨_, rfl, ?_⟩; have n0_ := Aside0.mk (Kd.R_below (kr_ HO_10) hb); have n1_ := Aside0.mk (below_step hb_ hb); clear HO_10; clear HB; have HO_10 := n0_; have HB := n1_; clear n0_ n1_; (try clear hb); (try clear hb2); (try clear hk); (try clear hi)))
                  go_ret
                  exact ⟨ew_, hb_⟩
            ·rw [if_neg c71] at H
             have c71b0 : (t600 == t598) = false := beq_eq_false_iff_ne.mpr c71
             have c71b1 : (t600 != t598) = true := bne_iff_ne.mpr c71
             obtain rfl := Option.some.inj H
             obtain ⟨Ao99, co99, eo99⟩ := Kd.R_slice HO_10.out
             subst eo99
             go_wp2_with (first | ((with_reducible refine gate_callee (f := 44) rfl ?_); refine goesL_ (some 85) rfl rfl Try.func44 (by kernel_rfl) rfl #[.slice Ao99 t580.length co99, .int .i64 1] rfl ln_ ?_; (with_reducible refine (laws_markWantS.calls kj45 (fun k_ => some k_ = (.slice Ao99 t580.length co99 : Value).ownBlock) (.slice Ao99 t580.length co99) t580 1 t598 t599 w _ ?side1 ?side2 A65.out).mono ?_); (case side1 => repeat (first | (with_reducible first | exact HB.out | apply below_alloc | apply pw_below_drewN | apply below_drew1) | exact HB.out)); (case side2 => exact Kd.R_tight rfl HO_10.out); rintro e w100 ⟨rfl, hy0, hb, hkp⟩; refine ⟨_, rfl, ?_⟩; have n0_ := Aside0.mk (Kd.R_mono (ok' := fun k_ => some k_ ≠ (.slice Ao99 t580.length co99 : Value).ownBlock) (Kd.R_keptB (HO_6.out) hkp (fun k_ hk_ hs_ => (hk_) hs_)) (fun k_ hk_ => hk_.1)); have n1_ := Aside0.mk (Kd.R_reok rfl hy0 (fun k_ e_ => HO_10.out.1 k_ e_)); have n2_ := Aside0.mk (hb); clear HO_6; clear HO_10; clear HB; have HO_6 := n0_; have HO_10 := n1_; have HB := n2_; clear n0_ n1_ n2_; (try clear hb); (try clear hkp); (try clear hy0)) | ((with_reducible refine gate_callee (f := 45) rfl ?_); refine goesL_ (some 88) rfl rfl Try.func45 (by kernel_rfl) rfl #[.slice Ao99 t599.length co99, .int .i64 1] rfl (by (try simp only [List.map_toArray, List.map_cons, List.map_nil]); first | done | (rw [show t599.length = t580.length from (Kd.R_reads' HO_10.out).1.symm] <;> rfl) | rfl | (simp only [List.length_drop, List.length_take]; rfl)) ?_; (with_reducible refine (laws_heldWantS.calls kj45 _ _ t599 1 t600 _ ?side1 ?side2 A66.out).mono ?_); (case side1 => repeat (first | exact (Kd.R_reads' HO_10.out).2.2 | (with_reducible refine Kd.C_alloc ?_ _) | (with_reducible refine Kd.C_drewN ?_ _) | (with_reducible refine Kd.C_drew ?_))); (case side2 => rw [show t599.length = t580.length from (Kd.R_reads' HO_10.out).1.symm]; exact (Kd.R_reads' HO_10.out).2.1); rintro e w101 ⟨rfl, hb⟩; refine ⟨_, rfl, ?_⟩; have n0_ := Aside0.mk (Kd.R_below (kr_ HO_6) hb); have n1_ := Aside0.mk (Kd.R_below (kr_ HO_10) hb); have n2_ := Aside0.mk (below_step hb_ hb); clear HO_6; clear HO_10; clear HB; have HO_6 := n0_; have HO_10 := n1_; have HB := n2_; clear n0_ n1_ n2_; (try clear hb); (try clear hb2); (try clear hk); (try clear hi)))
             go_ret
             exact ⟨ew_, hb_⟩
       ·replace c43 := Bool.eq_false_iff.mpr c43
        subst c43
        have H1 : (some false) = some r := by rw [if_neg (show ¬ (false = true) by decide)] at H; exact H
        clear H
        have H := H1
        clear H1
        obtain rfl := Option.some.inj H
        go_wp2_with (first | ((with_reducible refine gate_callee (f := 16) rfl ?_); refine goesL_ (some 56) rfl rfl Try.func16 (by kernel_rfl) rfl #[.slice A0 l0.length c0] rfl ln_ ?_; (with_reducible refine (laws_toCoilS.calls kj15 _ _ l0 t585 _ ?side1 ?side2 A38.out).mono ?_); (case side1 => exact kc_ (Kd.C_below HR0.out HB.out)); (case side2 => exact HC0.out); rintro e w102 ⟨v586, rfl, ho0, hb⟩; refine ⟨_, rfl, ?_⟩; have n0_ := Aside0.mk (Kd.R_below (kr_ HO_6) hb); have n1_ := Aside0.mk (Kd.R_elder' (kr_ HO_8) (Kd.R_base ho0) hb); have n2_ := Aside0.mk (Kd.R_below (kr_ HO_9) hb); have n3_ := Aside0.mk (Kd.R_below (kr_ HO_10) hb); have n4_ := Aside0.mk (Kd.R_lower (Kd.R_new' ho0 (Kd.R_lt (kr_ HO_8))) (below_size hb_)); have n5_ := Aside0.mk (below_step hb_ hb); clear HO_6; clear HO_8; clear HO_9; clear HO_10; clear HB; have HO_6 := n0_; have HO_8 := n1_; have HO_9 := n2_; have HO_10 := n3_; have HO587 := n4_; have HB := n5_; clear n0_ n1_ n2_ n3_ n4_ n5_; (try clear hb); (try clear hb2); (try clear hk); (try clear hi); (try clear ho0); obtain ⟨Ao103, co103, eo103⟩ := Kd.R_slice HO587.out; subst eo103) | ((with_reducible refine gate_callee (f := 18) rfl ?_); refine goesL_ (some 57) rfl rfl Try.func18 (by kernel_rfl) rfl #[.slice Ao26 t574.length co26, .slice Ao103 t585.length co103] rfl ln_ ?_; (with_reducible refine (laws_eqCoilS.calls kj15 _ _ t574 _ _ t585 true _ ?side1 ?side2 ?side3 ?side4 A39.out).mono ?_); (case side1 => repeat (first | exact (Kd.R_reads' HO_8.out).2.2 | (with_reducible refine Kd.C_alloc ?_ _) | (with_reducible refine Kd.C_drewN ?_ _) | (with_reducible refine Kd.C_drew ?_))); (case side2 => exact (Kd.R_reads' HO_8.out).2.1); (case side3 => repeat (first | exact (Kd.R_reads' HO587.out).2.2 | (with_reducible refine Kd.C_alloc ?_ _) | (with_reducible refine Kd.C_drewN ?_ _) | (with_reducible refine Kd.C_drew ?_))); (case side4 => exact (Kd.R_reads' HO587.out).2.1); rintro e w104 ⟨rfl, hb⟩; refine ⟨_, rfl, ?_⟩; have n0_ := Aside0.mk (Kd.R_below (kr_ HO_6) hb); have n1_ := Aside0.mk (Kd.R_below (kr_ HO_8) hb); have n2_ := Aside0.mk (Kd.R_below (kr_ HO_9) hb); have n3_ := Aside0.mk (Kd.R_below (kr_ HO_10) hb); have n4_ := Aside0.mk (Kd.R_below (kr_ HO587) hb); have n5_ := Aside0.mk (below_step hb_ hb); clear HO_6; clear HO_8; clear HO_9; clear HO_10; clear HO587; clear HB; have HO_6 := n0_; have HO_8 := n1_; have HO_9 := n2_; have HO_10 := n3_; have HO587 := n4_; have HB := n5_; clear n0_ n1_ n2_ n3_ n4_ n5_; (try clear hb); (try clear hb2); (try clear hk); (try clear hi)) | ((with_reducible refine gate_callee (f := 23) rfl ?_); refine goesL_ (some 61) rfl rfl Try.func23 (by kernel_rfl) rfl #[.slice A1 l1.length c1] rfl ln_ ?_; (with_reducible refine (laws_toWantS.calls kj15 _ _ l1 t589 _ ?side1 ?side2 A41.out).mono ?_); (case side1 => exact kc_ (Kd.C_below HR1.out HB.out)); (case side2 => exact HC1.out); rintro e w105 ⟨v590, rfl, ho0, hb⟩; refine ⟨_, rfl, ?_⟩; have n0_ := Aside0.mk (Kd.R_elder' (kr_ HO_6) (Kd.R_base ho0) hb); have n1_ := Aside0.mk (Kd.R_below (kr_ HO_8) hb); have n2_ := Aside0.mk (Kd.R_elder' (kr_ HO_9) (Kd.R_base ho0) hb); have n3_ := Aside0.mk (Kd.R_elder' (kr_ HO_10) (Kd.R_base ho0) hb); have n4_ := Aside0.mk (Kd.R_below (kr_ HO587) hb); have n5_ := Aside0.mk (Kd.R_lower (Kd.R_new' (Kd.R_new' (Kd.R_new' ho0 (Kd.R_lt (kr_ HO_6))) (Kd.R_lt (kr_ HO_9))) (Kd.R_lt (kr_ HO_10))) (below_size hb_)); have n6_ := Aside0.mk (below_step hb_ hb); clear HO_6; clear HO_8; clear HO_9; clear HO_10; clear HO587; clear HB; have HO_6 := n0_; have HO_8 := n1_; have HO_9 := n2_; have HO_10 := n3_; have HO587 := n4_; have HO591 := n5_; have HB := n6_; clear n0_ n1_ n2_ n3_ n4_ n5_ n6_; (try clear hb); (try clear hb2); (try clear hk); (try clear hi); (try clear ho0); obtain ⟨Ao106, co106, eo106⟩ := Kd.R_slice HO591.out; subst eo106) | ((with_reducible refine gate_callee (f := 25) rfl ?_); refine goesL_ (some 62) rfl rfl Try.func25 (by kernel_rfl) rfl #[.slice Ao27 t577.length co27, .slice Ao106 t589.length co106] rfl ln_ ?_; (with_reducible refine (laws_eqWantS.calls kj15 _ _ t577 _ _ t589 false _ ?side1 ?side2 ?side3 ?side4 A42.out).mono ?_); (case side1 => repeat (first | exact (Kd.R_reads' HO_9.out).2.2 | (with_reducible refine Kd.C_alloc ?_ _) | (with_reducible refine Kd.C_drewN ?_ _) | (with_reducible refine Kd.C_drew ?_))); (case side2 => exact (Kd.R_reads' HO_9.out).2.1); (case side3 => repeat (first | exact (Kd.R_reads' HO591.out).2.2 | (with_reducible refine Kd.C_alloc ?_ _) | (with_reducible refine Kd.C_drewN ?_ _) | (with_reducible refine Kd.C_drew ?_))); (case side4 => exact (Kd.R_reads' HO591.out).2.1); rintro e w107 ⟨rfl, hb⟩; refine ⟨_, rfl, ?_⟩; have n0_ := Aside0.mk (Kd.R_below (kr_ HO_6) hb); have n1_ := Aside0.mk (Kd.R_below (kr_ HO_8) hb); have n2_ := Aside0.mk (Kd.R_below (kr_ HO_9) hb); have n3_ := Aside0.mk (Kd.R_below (kr_ HO_10) hb); have n4_ := Aside0.mk (Kd.R_below (kr_ HO587) hb); have n5_ := Aside0.mk (Kd.R_below (kr_ HO591) hb); have n6_ := Aside0.mk (below_step hb_ hb); clear HO_6; clear HO_8; clear HO_9; clear HO_10; clear HO587; clear HO591; clear HB; have HO_6 := n0_; have HO_8 := n1_; have HO_9 := n2_; have HO_10 := n3_; have HO587 := n4_; have HO591 := n5_; have HB := n6_; clear n0_ n1_ n2_ n3_ n4_ n5_ n6_; (try clear hb); (try clear hb2); (try clear hk); (try clear hi)))
        go_ret
        exact ⟨ew_, hb_⟩
      ·replace c40 := Bool.eq_false_iff.mpr c40
       subst c40
       have H1 : (some false) = some r := by rw [if_neg (show ¬ (false = true) by decide)] at H; exact H
       clear H
       have H := H1
       clear H1
       obtain rfl := Option.some.inj H
       go_wp2_with (first | ((with_reducible refine gate_callee (f := 16) rfl ?_); refine goesL_ (some 56) rfl rfl Try.func16 (by kernel_rfl) rfl #[.slice A0 l0.length c0] rfl ln_ ?_; (with_reducible refine (laws_toCoilS.calls kj15 _ _ l0 t585 _ ?side1 ?side2 A38.out).mono ?_); (case side1 => exact kc_ (Kd.C_below HR0.out HB.out)); (case side2 => exact HC0.out); rintro e w108 ⟨v586, rfl, ho0, hb⟩; refine ⟨_, rfl, ?_⟩; have n0_ := Aside0.mk (Kd.R_below (kr_ HO_6) hb); have n1_ := Aside0.mk (Kd.R_elder' (kr_ HO_8) (Kd.R_base ho0) hb); have n2_ := Aside0.mk (Kd.R_below (kr_ HO_9) hb); have n3_ := Aside0.mk (Kd.R_below (kr_ HO_10) hb); have n4_ := Aside0.mk (Kd.R_lower (Kd.R_new' ho0 (Kd.R_lt (kr_ HO_8))) (below_size hb_)); have n5_ := Aside0.mk (below_step hb_ hb); clear HO_6; clear HO_8; clear HO_9; clear HO_10; clear HB; have HO_6 := n0_; have HO_8 := n1_; have HO_9 := n2_; have HO_10 := n3_; have HO587 := n4_; have HB := n5_; clear n0_ n1_ n2_ n3_ n4_ n5_; (try clear hb); (try clear hb2); (try clear hk); (try clear hi); (try clear ho0); obtain ⟨Ao109, co109, eo109⟩ := Kd.R_slice HO587.out; subst eo109) | ((with_reducible refine gate_callee (f := 18) rfl ?_); refine goesL_ (some 57) rfl rfl Try.func18 (by kernel_rfl) rfl #[.slice Ao26 t574.length co26, .slice Ao109 t585.length co109] rfl ln_ ?_; (with_reducible refine (laws_eqCoilS.calls kj15 _ _ t574 _ _ t585 false _ ?side1 ?side2 ?side3 ?side4 A39.out).mono ?_); (case side1 => repeat (first | exact (Kd.R_reads' HO_8.out).2.2 | (with_reducible refine Kd.C_alloc ?_ _) | (with_reducible refine Kd.C_drewN ?_ _) | (with_reducible refine Kd.C_drew ?_))); (case side2 => exact (Kd.R_reads' HO_8.out).2.1); (case side3 => repeat (first | exact (Kd.R_reads' HO587.out).2.2 | (with_reducible refine Kd.C_alloc ?_ _) | (with_reducible refine Kd.C_drewN ?_ _) | (with_reducible refine Kd.C_drew ?_))); (case side4 => exact (Kd.R_reads' HO587.out).2.1); rintro e w110 ⟨rfl, hb⟩; refine ⟨_, rfl, ?_⟩; have n0_ := Aside0.mk (Kd.R_below (kr_ HO_6) hb); have n1_ := Aside0.mk (Kd.R_below (kr_ HO_8) hb); have n2_ := Aside0.mk (Kd.R_below (kr_ HO_9) hb); have n3_ := Aside0.mk (Kd.R_below (kr_ HO_10) hb); have n4_ := Aside0.mk (Kd.R_below (kr_ HO587) hb); have n5_ := Aside0.mk (below_step hb_ hb); clear HO_6; clear HO_8; clear HO_9; clear HO_10; clear HO587; clear HB; have HO_6 := n0_; have HO_8 := n1_; have HO_9 := n2_; have HO_10 := n3_; have HO587 := n4_; have HB := n5_; clear n0_ n1_ n2_ n3_ n4_ n5_; (try clear hb); (try clear hb2); (try clear hk); (try clear hi)))
       go_ret
       exact ⟨ew_, hb_⟩

end Go.Proofs.Ytbglfbmnibhgeaa.P
