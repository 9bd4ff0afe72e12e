/- Texts of this claim, packed: Px28, H3StuckLines, Open. -/
import Derived.Deep.Slices
import Derived.Deep.Fields
import Derived.ChangeSame
import Derived.WideShapes
import Derived.Test.YtfkiamccipoioaaZFnExactStuckLines12
section
-- Written by gprint.py (own program, over the printer of the kit) out of the translation. Lean checks it.
namespace Go.Proofs.Ytfkiamccipoioaa.P
open Go.RowKit Go.Proofs.YtfkiamccipoioaaW.PrintWords Go.Proofs.YtfkiamccipoioaaW.PrintLast Go.Proofs.YtfkiamccipoioaaW.PrintMore Go.Proofs.YtfkiamccipoioaaW.Pk
open Bool renaming true → T_, false → F_
open List renaming setIfInBounds_toArray → sT_, set_cons_zero → s0_, set_cons_succ → sS_
attribute [local go_sem] max2_int min2_int max_two min_two max_three min_three max_four min_four   -- for this text's walks alone
set_option linter.unusedVariables false
set_option linter.unusedSimpArgs false

/-! ### spec_StuckLines: function 41 -/
mutual
def spec_StuckLines.l0 : Nat → ByteArray → List ByteArray → List Int → Int → List Int → List (List Int) → Option (List Int × Int)
 | 0, _, _, _, _, _, _ => none
 | k + 1, x1, x7, x10, x11, x644000, x644001 => if x11 < (x1.size : Int) then (spec_StuckLines.l1 k x1 x7 x10 x11 true 0 x644000 x644001) else (some (x10, 0))
def spec_StuckLines.l1 : Nat → ByteArray → List ByteArray → List Int → Int → Bool → Int → List Int → List (List Int) → Option (List Int × Int)
 | 0, _, _, _, _, _, _, _, _ => none
 | k + 1, x1, x7, x10, x11, x12, x13, x644000, x644001 => if x13 < (x7.length : Int) then (if x12 = true then (if 0 ≤ x13 then ((spec_l20Change.f k x644000 x644001 (rdOf ByteArray.empty x7 x13) x11).bind fun bt658 => (spec_StuckLines.l1 k x1 x7 x10 x11 (bt658.2 != 0) (wrap64 (x13 + 1)) x644000 x644001)) else (none)) else (spec_StuckLines.l0 k x1 x7 x10 (wrap64 (x11 + 1)) x644000 x644001)) else (if x12 = true then (if x10.length < 17592186044416 then (spec_StuckLines.l0 k x1 x7 (x10 ++ [x11]) (wrap64 (x11 + 1)) x644000 x644001) else (none)) else (spec_StuckLines.l0 k x1 x7 x10 (wrap64 (x11 + 1)) x644000 x644001))
end
def spec_StuckLines.f (k : Nat) (l0_0 : List Int) (l0_1 : List (List Int)) (a1 : ByteArray) : Option (List Int × Int) := (spec_l20Code.f k l0_0 l0_1 a1).bind fun t644 => (if t644 = 0 then ((spec_l20All.f k l0_0 l0_1 a1).bind fun bt645 => (spec_StuckLines.l0 k a1 bt645.1 (([] : List Int)) 0 l0_0 l0_1)) else (some (([] : List Int), t644)))
set_option maxHeartbeats 8000000 in
set_option maxRecDepth 100000 in
theorem spec_StuckLines.calls (k : Nat) (A0_0 : Option Addr) (c0_0 : Nat) (l0_0 : List Int) (A0_1 : Option Addr) (c0_1 : Nat) (l0_1 : List (List Int)) (a1 : ByteArray) (r1 : List Int) (r2 : Int) (w : World) (hr0_0 : Kd.C (Kd.int .i64) w A0_0 l0_0.length l0_0) (hc0_0 : l0_0.length ≤ c0_0) (hr0_1 : Kd.C (Kd.slice 2 (Kd.int .i64)) w A0_1 l0_1.length l0_1) (hc0_1 : l0_1.length ≤ c0_1) (h : spec_StuckLines.f k l0_0 l0_1 a1 = some (r1, r2)) :
  Calls Try.prog 41 #[.agg #[.slice A0_0 l0_0.length c0_0, .slice A0_1 l0_1.length c0_1], .string a1] w fun e w' => ∃ v0_ : Value, e = .returned (.tuple #[v0_, .int .i64 r2]) ∧ Kd.R (Kd.int .i64) 2 w' w.heap.size (fun _ => True) v0_ r1 ∧ Below w.heap.size w w' := by
 have hu28 := Try.underlying28
 have HR0_0 := Aside0.mk hr0_0
 have HC0_0 := Aside0.mk hc0_0
 clear hr0_0 hc0_0
 have HR0_1 := Aside0.mk hr0_1
 have HC0_1 := Aside0.mk hc0_1
 clear hr0_1 hc0_1
 have HB := Aside0.mk (Below.refl w.heap.size w)
 have H : ((spec_l20Code.f k l0_0 l0_1 a1).bind fun t644 => (if t644 = 0 then ((spec_l20All.f k l0_0 l0_1 a1).bind fun bt645 => (spec_StuckLines.l0 k a1 bt645.1 (([] : List Int)) 0 l0_0 l0_1)) else (some (([] : List Int), t644)))) = some (r1, r2) := h
 clear h
 replace H := Option.bind_eq_some_iff.mp H
 obtain ⟨t644, A30, H⟩ := H
 replace H : (if t644 = 0 then ((spec_l20All.f k l0_0 l0_1 a1).bind fun bt645 => (spec_StuckLines.l0 k a1 bt645.1 (([] : List Int)) 0 l0_0 l0_1)) else (some (([] : List Int), t644))) = some (r1, r2) := H
 have A3 := Aside0.mk A30
 clear A30
 by_cases c4 : t644 = 0
 ·rw [if_pos c4] at H
  have c4b0 : (t644 == 0) = true := beq_iff_eq.mpr c4
  have c4b1 : (t644 != 0) = false := bne_eq_false_iff_eq.mpr c4
  clear c4
  replace H := Option.bind_eq_some_iff.mp H
  obtain ⟨⟨t645, t648, t651⟩, A50, H⟩ := H
  replace H : (spec_StuckLines.l0 k a1 t645 (([] : List Int)) 0 l0_0 l0_1) = some (r1, r2) := H
  have A5 := Aside0.mk A50
  clear A50
  obtain ⟨y654, hy654⟩ : ∃ y_ : List Int, y_ = (([] : List Int)) := ⟨_, rfl⟩
  replace H : (spec_StuckLines.l0 k a1 t645 y654 0 l0_0 l0_1) = some (r1, r2) := by first | (rw [hy654]; with_reducible exact H) | (have H2_ := (Option.bind_some _ _).symm.trans H; rw [hy654]; with_reducible exact H2_) | (have H2_ := (Option.bind_some _ _).symm.trans H; with_reducible exact H2_) | with_reducible exact H | (rw [hy654]; exact H) | exact H
  have Ny654 := Aside0.mk hy654
  clear hy654
  have H' := Aside0.mk H
  clear H
  go_enter Try.func41, Try.ntmps41
  go_wp2_with (first | ((with_reducible refine gate_dst (N := 2) rfl ?_); refine box_event ?hg (N := 2) ?hd (cs := #[.slice A0_0 l0_0.length c0_0, .slice A0_1 l0_1.length c0_1]) (t := 28) ?hr ?_; (case hd => rfl); (case hg => rfl); (case hr => first | (go_simp; done) | (go_simp; rfl)); intro gb643 hg w6 hbox hb; have n0_ := Aside0.mk (below_step hb_ hb); have n1_ := Aside0.mk ((show IsS28 w _ gb643 l0_0 l0_1 from ⟨_, _, _, _, hbox, (by rw [hg]; exact (below_size hb_) : w.heap.size ≤ gb643), HR0_0.out, HR0_1.out⟩)); have n2_ := Aside0.mk ((by rw [hg]; exact (below_size hb_) : w.heap.size ≤ gb643)); have n3_ := Aside0.mk ((by rw [hg]; exact (below_size hb_) : w.heap.size ≤ gb643)); clear HB; have HB := n0_; have HI643 := n1_; have GW643 := n2_; have GE643 := n3_; clear n0_ n1_ n2_ n3_; clear hb hbox hg) | ((with_reducible refine gate_callee (f := 56) rfl ?_); refine goesL_ (some 17) rfl rfl Try.func56 (by kernel_rfl) rfl #[.pointer (some ⟨gb643, 0, none⟩), .string a1] rfl ln_ ?_; (with_reducible refine (spec_l20Code.calls k gb643 l0_0 l0_1 a1 t644 w _ ?side1 ?side2 A3.out).mono ?_); (case side1 => repeat (first | (with_reducible first | exact HI643.out | apply IsS28.alloc | apply IsS28.drewN | apply IsS28.drew) | exact HI643.out)); (case side2 => repeat (first | (with_reducible first | exact HB.out | apply below_alloc | apply pw_below_drewN | apply below_drew1 | refine below_set ?_ (IsS28.ge HI643.out)) | exact HB.out)); rintro e w7 ⟨rfl, hi, hb, hk⟩; refine ⟨_, rfl, ?_⟩; have n0_ := Aside0.mk (hb); have n1_ := Aside0.mk (hi); clear HB; clear HI643; have HB := n0_; have HI643 := n1_; clear n0_ n1_; (try clear hb); (try clear hb2); (try clear hk); (try clear hi)) | ((with_reducible refine gate_callee (f := 68) rfl ?_); refine goesL_ (some 23) rfl rfl Try.func68 (by kernel_rfl) rfl #[.pointer (some ⟨gb643, 0, none⟩), .string a1] rfl ln_ ?_; (with_reducible refine (spec_l20All.calls k gb643 l0_0 l0_1 a1 t645 t648 t651 w _ ?side1 ?side2 A5.out).mono ?_); (case side1 => repeat (first | (with_reducible first | exact HI643.out | apply IsS28.alloc | apply IsS28.drewN | apply IsS28.drew) | exact HI643.out)); (case side2 => repeat (first | (with_reducible first | exact HB.out | apply below_alloc | apply pw_below_drewN | apply below_drew1 | refine below_set ?_ (IsS28.ge HI643.out)) | exact HB.out)); rintro e w8 ⟨v646, v649, v652, rfl, ho0, ho1, ho2, hi, hb, hk⟩; refine ⟨_, rfl, ?_⟩; have n0_ := Aside0.mk (Kd.R_lower ho0 (below_size (by repeat (first | (with_reducible first | exact HB.out | apply below_alloc | apply pw_below_drewN | apply below_drew1 | refine below_set ?_ (IsS28.ge HI643.out)) | exact HB.out)))); have n1_ := Aside0.mk (Kd.R_lower ho1 (below_size (by repeat (first | (with_reducible first | exact HB.out | apply below_alloc | apply pw_below_drewN | apply below_drew1 | refine below_set ?_ (IsS28.ge HI643.out)) | exact HB.out)))); have n2_ := Aside0.mk (Kd.R_lower ho2 (below_size (by repeat (first | (with_reducible first | exact HB.out | apply below_alloc | apply pw_below_drewN | apply below_drew1 | refine below_set ?_ (IsS28.ge HI643.out)) | exact HB.out)))); have n3_ := Aside0.mk (hb); have n4_ := Aside0.mk (hi); clear HB; clear HI643; have HO647 := n0_; have HO650 := n1_; have HO653 := n2_; have HB := n3_; have HI643 := n4_; clear n0_ n1_ n2_ n3_ n4_; (try clear hb); (try clear hb2); (try clear hk); (try clear hi); (try clear ho0); (try clear ho1); (try clear ho2)) | ((with_reducible refine gate_dst (N := 27) rfl ?_); refine Kd.R_lit (Kd.int .i64) _ 2 ?hg (N := 27) ?hd (xs := ([] : List Int)) (inner := []) (ok := fun _ => True) (okp := fun _ => True) ?hr ?hp (fun _ hk => hk) trivial (Below.refl _ _) (Nat.le_refl _) (by simp) ?_; (case hd => rfl); (case hg => rfl); (case hr => first | (go_simp; done) | (go_simp; rfl)); (case hp => exact (Reps.none _ _)); intro v655 w9 ho10 hb hg_ hnew_; clear hg_ hnew_; (first | rw [← Ny654.out] at ho10 | (simp only [Int.reduceToNat] at ho10; rw [← Ny654.out] at ho10)); have n0_ := Aside0.mk (Kd.R_below (kr_ HO647) hb); have n1_ := Aside0.mk (Kd.R_below (kr_ HO650) hb); have n2_ := Aside0.mk (Kd.R_elder' (kr_ HO653) (Kd.R_base ho10) hb); have n3_ := Aside0.mk (Kd.R_lower (Kd.R_new' ho10 (Kd.R_lt (kr_ HO653))) (below_size (by repeat (first | (with_reducible first | exact HB.out | apply below_alloc | apply pw_below_drewN | apply below_drew1 | refine below_set ?_ (IsS28.ge HI643.out)) | exact HB.out)))); have n4_ := Aside0.mk (IsS28.below (by repeat (first | (with_reducible first | exact HI643.out | apply IsS28.alloc | apply IsS28.drewN | apply IsS28.drew) | exact HI643.out)) hb); have n5_ := Aside0.mk (below_step (by repeat (first | (with_reducible first | exact HB.out | apply below_alloc | apply pw_below_drewN | apply below_drew1 | refine below_set ?_ (IsS28.ge HI643.out)) | exact HB.out)) hb); clear HO647; clear HO650; clear HO653; clear HI643; clear HB; have HO647 := n0_; have HO650 := n1_; have HO653 := n2_; have HO656 := n3_; have HI643 := n4_; have HB := n5_; clear n0_ n1_ n2_ n3_ n4_ n5_; clear hb ho10))
  go_loopg [10, 11] k (fun kq v10 v11 w' => ∃ (x10_1 : List Int) (x11_1 : Int), v11 = .int .i64 x11_1 ∧ Aside0 (spec_StuckLines.l0 kq a1 t645 x10_1 x11_1 l0_0 l0_1 = some (r1, r2)) ∧ Aside0 (kq ≤ k) ∧ Aside0 (Kd.R Kd.string 9 w' w.heap.size (fun _ => True) v646 t645) ∧ Aside0 (Kd.R (Kd.int .i64) 2 w' w.heap.size (fun _ => True) v10 x10_1) ∧ Aside0 (IsS28 w w' gb643 l0_0 l0_1) ∧ Aside0 (Below w.heap.size w w'))
  case atStart => exact ⟨(y654), (0), (by first | rfl | (simp; done) | (simp [*]; done)), H', ⟨Nat.le_refl _⟩, ⟨by (with_reducible repeat (first | apply Kd.R_alloc | apply Kd.R_drewN | apply Kd.R_drew)); exact HO647.out⟩, ⟨by (with_reducible repeat (first | apply Kd.R_alloc | apply Kd.R_drewN | apply Kd.R_drew)); exact Kd.R_mono HO656.out (fun _ hk => trivial)⟩, ⟨by repeat (first | (with_reducible first | exact HI643.out | apply IsS28.alloc | apply IsS28.drewN | apply IsS28.drew) | exact HI643.out)⟩, ⟨by repeat (first | (with_reducible first | exact HB.out | apply below_alloc | apply pw_below_drewN | apply below_drew1 | refine below_set ?_ (IsS28.ge HI643.out)) | exact HB.out)⟩⟩
  case round =>
   clear H'
   try clear p2
   try clear c4
   try clear c4b0
   try clear c4b1
   try clear c5
   try clear c6
   obtain ⟨x10_1, x11_1, rfl, HA, HK1, HO_7, HO_10, HI643, HB⟩ := hrel
   cases gk with
   | zero => exact absurd HA.out (by simp [spec_StuckLines.l0])
   | succ k1 =>
    have H := HA.out
    clear HA
    simp only [spec_StuckLines.l0] at H
    by_cases c11 : x11_1 < (a1.size : Int)
    ·rw [if_pos c11] at H
     have c11b0 : decide (x11_1 < (a1.size : Int)) = true := decide_eq_true c11
     clear c11
     have H' := Aside0.mk H
     clear H
     go_wp2
     go_loopg [12, 13] k1 (fun kq v12 v13 w' => ∃ (x12_2 : Bool) (x13_2 : Int), v12 = .bool x12_2 ∧ v13 = .int .i64 x13_2 ∧ Aside0 (spec_StuckLines.l1 kq a1 t645 x10_1 x11_1 x12_2 x13_2 l0_0 l0_1 = some (r1, r2)) ∧ Aside0 (kq ≤ k1) ∧ Aside0 (Kd.R Kd.string 9 w' w.heap.size (fun _ => True) v646 t645) ∧ Aside0 (Kd.R (Kd.int .i64) 2 w' w.heap.size (fun _ => True) u10 x10_1) ∧ Aside0 (IsS28 w w' gb643 l0_0 l0_1) ∧ Aside0 (Below w.heap.size w w'))
     case atStart => exact ⟨(true), (0), (by first | rfl | (simp; done) | (simp [*]; done)), (by first | rfl | (simp; done) | (simp [*]; done)), H', ⟨Nat.le_refl _⟩, ⟨by (with_reducible repeat (first | apply Kd.R_alloc | apply Kd.R_drewN | apply Kd.R_drew)); exact HO_7.out⟩, ⟨by (with_reducible repeat (first | apply Kd.R_alloc | apply Kd.R_drewN | apply Kd.R_drew)); exact HO_10.out⟩, ⟨by repeat (first | (with_reducible first | exact HI643.out | apply IsS28.alloc | apply IsS28.drewN | apply IsS28.drew) | exact HI643.out)⟩, ⟨by repeat (first | (with_reducible first | exact HB.out | apply below_alloc | apply pw_below_drewN | apply below_drew1 | refine below_set ?_ (IsS28.ge HI643.out)) | exact HB.out)⟩⟩
     case round =>
      clear H'
      try clear c1
      try clear p2
      try clear c4
      try clear c4b0
      try clear c4b1
      try clear c5
      try clear c6
      try clear c11
      try clear c11b0
      try clear p2
      obtain ⟨x12_2, x13_2, rfl, rfl, HA, HK2, HO_7, HO_10, HI643, HB⟩ := hrel
      cases gk with
      | zero => exact absurd HA.out (by simp [spec_StuckLines.l1])
      | succ k2 =>
       have H := HA.out
       clear HA
       simp only [spec_StuckLines.l1] at H
       by_cases c12 : x13_2 < (t645.length : Int)
       ·rw [if_pos c12] at H
        have c12b0 : decide (x13_2 < (t645.length : Int)) = true := decide_eq_true c12
        clear c12
        by_cases c13 : x12_2 = true
        ·subst c13
         have H1 : (if 0 ≤ x13_2 then ((spec_l20Change.f k2 l0_0 l0_1 (rdOf ByteArray.empty t645 x13_2) x11_1).bind fun bt658 => (spec_StuckLines.l1 k2 a1 t645 x10_1 x11_1 (bt658.2 != 0) (wrap64 (x13_2 + 1)) l0_0 l0_1)) else (none)) = some (r1, r2) := by rw [if_pos rfl] at H; exact H
         clear H
         have H := H1
         clear H1
         by_cases c14 : 0 ≤ x13_2
         ·rw [if_pos c14] at H
          have c14b0 : decide (0 ≤ x13_2) = true := decide_eq_true c14
          clear c14
          replace H := Option.bind_eq_some_iff.mp H
          obtain ⟨⟨t658, t659⟩, A150, H⟩ := H
          replace H : (spec_StuckLines.l1 k2 a1 t645 x10_1 x11_1 (t659 != 0) (wrap64 (x13_2 + 1)) l0_0 l0_1) = some (r1, r2) := H
          have A15 := Aside0.mk A150
          clear A150
          have H' := Aside0.mk H
          clear H
          obtain ⟨Ao16, co16, eo16⟩ := Kd.R_slice HO_7.out
          subst eo16
          have p657 : 0 ≤ (x13_2 : Int) := od_
          have q657 : x13_2 < (t645.length : Int) := od_
          obtain ⟨ad657, e657, hx657_0⟩ := Kd.at_string (Kd.R_reads' HO_7.out).2.2 x13_2 p657 q657
          cases e657
          replace p657 := eq_true p657
          replace q657 := eq_true q657
          go_wp2_with (first | ((with_reducible refine gate_callee (f := 64) rfl ?_); refine goesL_ (some 49) rfl rfl Try.func64 (by kernel_rfl) rfl #[.pointer (some ⟨gb643, 0, none⟩), .string (rdOf ByteArray.empty t645 x13_2), .int .i64 x11_1] rfl ln_ ?_; (with_reducible refine (spec_l20Change.calls k2 gb643 l0_0 l0_1 (rdOf ByteArray.empty t645 x13_2) x11_1 t658 t659 w _ ?side1 ?side2 A15.out).mono ?_); (case side1 => repeat (first | (with_reducible first | exact HI643.out | apply IsS28.alloc | apply IsS28.drewN | apply IsS28.drew) | exact HI643.out)); (case side2 => repeat (first | (with_reducible first | exact HB.out | apply below_alloc | apply pw_below_drewN | apply below_drew1 | refine below_set ?_ (IsS28.ge HI643.out)) | exact HB.out)); rintro e w17 ⟨rfl, hi, hb, hk⟩; refine ⟨_, rfl, ?_⟩; have n0_ := Aside0.mk (Kd.R_mono (Kd.R_keep (IsS28.apart (show IsS28 w _ gb643 l0_0 l0_1 from by repeat (first | (with_reducible first | exact HI643.out | apply IsS28.alloc | apply IsS28.drewN | apply IsS28.drew) | exact HI643.out)) (kr_ HO_7) (by decide)) hk (fun _ h => h.2)) (fun _ h => h.1)); have n1_ := Aside0.mk (Kd.R_mono (Kd.R_keep (IsS28.apart (show IsS28 w _ gb643 l0_0 l0_1 from by repeat (first | (with_reducible first | exact HI643.out | apply IsS28.alloc | apply IsS28.drewN | apply IsS28.drew) | exact HI643.out)) (kr_ HO_10) (by decide)) hk (fun _ h => h.2)) (fun _ h => h.1)); have n2_ := Aside0.mk (hb); have n3_ := Aside0.mk (hi); clear HO_7; clear HO_10; clear HB; clear HI643; have HO_7 := n0_; have HO_10 := n1_; have HB := n2_; have HI643 := n3_; clear n0_ n1_ n2_ n3_; (try clear hb); (try clear hb2); (try clear hk); (try clear hi)))
          go_roundg k2
          case measure => have := HK1.out; have := HK2.out; omega
          case rel => exact ⟨((t659 != 0)), (wrap64 (x13_2 + 1)), (by first | rfl | (simp; done) | (simp [*]; done)), (by first | rfl | (simp; done) | (simp [*]; done)), H', ⟨by have := HK1.out; have := HK2.out; omega⟩, ⟨by (with_reducible repeat (first | apply Kd.R_alloc | apply Kd.R_drewN | apply Kd.R_drew)); exact HO_7.out⟩, ⟨by (with_reducible repeat (first | apply Kd.R_alloc | apply Kd.R_drewN | apply Kd.R_drew)); exact HO_10.out⟩, ⟨by repeat (first | (with_reducible first | exact HI643.out | apply IsS28.alloc | apply IsS28.drewN | apply IsS28.drew) | exact HI643.out)⟩, ⟨by repeat (first | (with_reducible first | exact HB.out | apply below_alloc | apply pw_below_drewN | apply below_drew1 | refine below_set ?_ (IsS28.ge HI643.out)) | exact HB.out)⟩⟩
         ·rw [if_neg c14] at H
          exact absurd H (by simp)
        ·replace c13 := Bool.eq_false_iff.mpr c13
         subst c13
         have H1 : (spec_StuckLines.l0 k2 a1 t645 x10_1 (wrap64 (x11_1 + 1)) l0_0 l0_1) = some (r1, r2) := by rw [if_neg (show ¬ (false = true) by decide)] at H; exact H
         clear H
         have H := H1
         clear H1
         have H' := Aside0.mk H
         clear H
         obtain ⟨Ao18, co18, eo18⟩ := Kd.R_slice HO_7.out
         subst eo18
         go_wp2
         go_roundg k2
         case measure => have := HK1.out; have := HK2.out; omega
         case rel => exact ⟨(x10_1), (wrap64 (x11_1 + 1)), (by first | rfl | (simp; done) | (simp [*]; done)), H', ⟨by have := HK1.out; have := HK2.out; omega⟩, ⟨by (with_reducible repeat (first | apply Kd.R_alloc | apply Kd.R_drewN | apply Kd.R_drew)); exact HO_7.out⟩, ⟨by (with_reducible repeat (first | apply Kd.R_alloc | apply Kd.R_drewN | apply Kd.R_drew)); exact HO_10.out⟩, ⟨by repeat (first | (with_reducible first | exact HI643.out | apply IsS28.alloc | apply IsS28.drewN | apply IsS28.drew) | exact HI643.out)⟩, ⟨by repeat (first | (with_reducible first | exact HB.out | apply below_alloc | apply pw_below_drewN | apply below_drew1 | refine below_set ?_ (IsS28.ge HI643.out)) | exact HB.out)⟩⟩
       ·rw [if_neg c12] at H
        have c12b0 : decide (x13_2 < (t645.length : Int)) = false := decide_eq_false c12
        clear c12
        by_cases c19 : x12_2 = true
        ·subst c19
         have H1 : (if x10_1.length < 17592186044416 then (spec_StuckLines.l0 k2 a1 t645 (x10_1 ++ [x11_1]) (wrap64 (x11_1 + 1)) l0_0 l0_1) else (none)) = some (r1, r2) := by rw [if_pos rfl] at H; exact H
         clear H
         have H := H1
         clear H1
         by_cases c20 : x10_1.length < 17592186044416
         ·rw [if_pos c20] at H
          have LMc20 := Aside0.mk c20
          clear c20
          obtain ⟨y660, hy660⟩ : ∃ y_ : List Int, y_ = (x10_1 ++ [x11_1]) := ⟨_, rfl⟩
          replace H : (spec_StuckLines.l0 k2 a1 t645 y660 (wrap64 (x11_1 + 1)) l0_0 l0_1) = some (r1, r2) := by first | (rw [hy660]; with_reducible exact H) | (have H2_ := (Option.bind_some _ _).symm.trans H; rw [hy660]; with_reducible exact H2_) | (have H2_ := (Option.bind_some _ _).symm.trans H; with_reducible exact H2_) | with_reducible exact H | (rw [hy660]; exact H) | exact H
          have Ny660 := Aside0.mk hy660
          clear hy660
          have H' := Aside0.mk H
          clear H
          obtain ⟨Ao21, co21, eo21⟩ := Kd.R_slice HO_7.out
          subst eo21
          go_wp2_with (first | ((with_reducible refine gate_builtin (b := .append) (xs := #[.tmp 55, .tmp 57]) rfl ?_); at_builtin; refine Kd.R_append (Kd.int .i64) (w0 := w) w.heap.size rfl (.tmp 55) (.tmp 57) 22 2 (.int .i64 0) 8 rfl Try.underlying22 info2 rfl (by decide) (by omega) u10 x10_1 x11_1 [.int .i64 x11_1] (fun _ => True) (fun _ => False) rfl rfl ?aP (fun _ hk => hk.elim) ?aF ?aO ?aB ?aS ?aL ?_; (case aP => exact rfl); (case aB => exact (by repeat (first | (with_reducible first | exact HB.out | apply below_alloc | apply pw_below_drewN | apply below_drew1 | refine below_set ?_ (IsS28.ge HI643.out)) | exact HB.out))); (case aF => exact (fun _ _ => trivial)); (case aO => exact (kr_ HO_10)); (case aS => exact (below_size (by repeat (first | (with_reducible first | exact HB.out | apply below_alloc | apply pw_below_drewN | apply below_drew1 | refine below_set ?_ (IsS28.ge HI643.out)) | exact HB.out)))); (case aL => have := LMc20.out; omega); intro v661 w22 ho hb hg hat; rw [← Ny660.out] at ho; have n0_ := Aside0.mk (Kd.R_over' (kr_ HO_7) (Kd.R_typed (kr_ HO_10)) (by decide) hg); have n1_ := Aside0.mk (IsS28.grown (by repeat (first | (with_reducible first | exact HI643.out | apply IsS28.alloc | apply IsS28.drewN | apply IsS28.drew) | exact HI643.out)) hg (IsS28.own_ne HI643.out HO_10.out (by decide))); have n2_ := Aside0.mk (hb); have n3_ := Aside0.mk (ho); clear HO_7; clear HI643; clear HB; clear HO_10; have HO_7 := n0_; have HI643 := n1_; have HB := n2_; have HO662 := n3_; clear n0_ n1_ n2_ n3_; clear ho hb hg hat))
          go_roundg k2
          case measure => have := HK1.out; have := HK2.out; omega
          case rel => exact ⟨(y660), (wrap64 (x11_1 + 1)), (by first | rfl | (simp; done) | (simp [*]; done)), H', ⟨by have := HK1.out; have := HK2.out; omega⟩, ⟨by (with_reducible repeat (first | apply Kd.R_alloc | apply Kd.R_drewN | apply Kd.R_drew)); exact HO_7.out⟩, ⟨by (with_reducible repeat (first | apply Kd.R_alloc | apply Kd.R_drewN | apply Kd.R_drew)); exact HO662.out⟩, ⟨by repeat (first | (with_reducible first | exact HI643.out | apply IsS28.alloc | apply IsS28.drewN | apply IsS28.drew) | exact HI643.out)⟩, ⟨by repeat (first | (with_reducible first | exact HB.out | apply below_alloc | apply pw_below_drewN | apply below_drew1 | refine below_set ?_ (IsS28.ge HI643.out)) | exact HB.out)⟩⟩
         ·rw [if_neg c20] at H
          exact absurd H (by simp)
        ·replace c19 := Bool.eq_false_iff.mpr c19
         subst c19
         have H1 : (spec_StuckLines.l0 k2 a1 t645 x10_1 (wrap64 (x11_1 + 1)) l0_0 l0_1) = some (r1, r2) := by rw [if_neg (show ¬ (false = true) by decide)] at H; exact H
         clear H
         have H := H1
         clear H1
         have H' := Aside0.mk H
         clear H
         obtain ⟨Ao23, co23, eo23⟩ := Kd.R_slice HO_7.out
         subst eo23
         go_wp2
         go_roundg k2
         case measure => have := HK1.out; have := HK2.out; omega
         case rel => exact ⟨(x10_1), (wrap64 (x11_1 + 1)), (by first | rfl | (simp; done) | (simp [*]; done)), H', ⟨by have := HK1.out; have := HK2.out; omega⟩, ⟨by (with_reducible repeat (first | apply Kd.R_alloc | apply Kd.R_drewN | apply Kd.R_drew)); exact HO_7.out⟩, ⟨by (with_reducible repeat (first | apply Kd.R_alloc | apply Kd.R_drewN | apply Kd.R_drew)); exact HO_10.out⟩, ⟨by repeat (first | (with_reducible first | exact HI643.out | apply IsS28.alloc | apply IsS28.drewN | apply IsS28.drew) | exact HI643.out)⟩, ⟨by repeat (first | (with_reducible first | exact HB.out | apply below_alloc | apply pw_below_drewN | apply below_drew1 | refine below_set ?_ (IsS28.ge HI643.out)) | exact HB.out)⟩⟩
    ·rw [if_neg c11] at H
     have c11b0 : decide (x11_1 < (a1.size : Int)) = false := decide_eq_false c11
     clear c11
     simp only [Option.some.injEq, Prod.mk.injEq] at H
     obtain ⟨rfl, rfl⟩ := H
     go_wp2
     go_ret2
     exact ⟨_, ew_, by (with_reducible repeat (first | apply Kd.R_alloc | apply Kd.R_drewN | apply Kd.R_drew)); exact HO_10.out, by repeat (first | (with_reducible first | exact HB.out | apply below_alloc | apply pw_below_drewN | apply below_drew1 | refine below_set ?_ (IsS28.ge HI643.out)) | exact HB.out)⟩
 ·rw [if_neg c4] at H
  have c4b0 : (t644 == 0) = false := beq_eq_false_iff_ne.mpr c4
  have c4b1 : (t644 != 0) = true := bne_iff_ne.mpr c4
  simp only [Option.some.injEq, Prod.mk.injEq] at H
  obtain ⟨rfl, rfl⟩ := H
  go_enter Try.func41, Try.ntmps41
  go_wp2_with (first | ((with_reducible refine gate_dst (N := 2) rfl ?_); refine box_event ?hg (N := 2) ?hd (cs := #[.slice A0_0 l0_0.length c0_0, .slice A0_1 l0_1.length c0_1]) (t := 28) ?hr ?_; (case hd => rfl); (case hg => rfl); (case hr => first | (go_simp; done) | (go_simp; rfl)); intro gb643 hg w24 hbox hb; have n0_ := Aside0.mk (below_step hb_ hb); have n1_ := Aside0.mk ((show IsS28 w _ gb643 l0_0 l0_1 from ⟨_, _, _, _, hbox, (by rw [hg]; exact (below_size hb_) : w.heap.size ≤ gb643), HR0_0.out, HR0_1.out⟩)); have n2_ := Aside0.mk ((by rw [hg]; exact (below_size hb_) : w.heap.size ≤ gb643)); have n3_ := Aside0.mk ((by rw [hg]; exact (below_size hb_) : w.heap.size ≤ gb643)); clear HB; have HB := n0_; have HI643 := n1_; have GW643 := n2_; have GE643 := n3_; clear n0_ n1_ n2_ n3_; clear hb hbox hg) | ((with_reducible refine gate_callee (f := 56) rfl ?_); refine goesL_ (some 17) rfl rfl Try.func56 (by kernel_rfl) rfl #[.pointer (some ⟨gb643, 0, none⟩), .string a1] rfl ln_ ?_; (with_reducible refine (spec_l20Code.calls k gb643 l0_0 l0_1 a1 t644 w _ ?side1 ?side2 A3.out).mono ?_); (case side1 => repeat (first | (with_reducible first | exact HI643.out | apply IsS28.alloc | apply IsS28.drewN | apply IsS28.drew) | exact HI643.out)); (case side2 => repeat (first | (with_reducible first | exact HB.out | apply below_alloc | apply pw_below_drewN | apply below_drew1 | refine below_set ?_ (IsS28.ge HI643.out)) | exact HB.out)); rintro e w25 ⟨rfl, hi, hb, hk⟩; refine ⟨_, rfl, ?_⟩; have n0_ := Aside0.mk (hb); have n1_ := Aside0.mk (hi); clear HB; clear HI643; have HB := n0_; have HI643 := n1_; clear n0_ n1_; (try clear hb); (try clear hb2); (try clear hk); (try clear hi)))
  go_ret2
  exact ⟨_, ew_, by first | exact Kd.R_nil _ _ _ _ _ | exact Kd.N_nil _ _ _ _ _ | exact Kd.V_nil _ _ _ _ _ | exact Kd.Q_nil _ _ _ _ _ | exact Kd.S_nil _ _ _ _ _, by repeat (first | (with_reducible first | exact HB.out | apply below_alloc | apply pw_below_drewN | apply below_drew1 | refine below_set ?_ (IsS28.ge HI643.out)) | exact HB.out)⟩

end Go.Proofs.Ytfkiamccipoioaa.P
end

section
namespace Go.Proofs.Ytfkiamccipoioaa.P
open Go.RowKit Go.Proofs.YtfkiamccipoioaaW.Hand Go.Proofs.YtfkiamccipoioaaW.PrintWords Go.Proofs.YtfkiamccipoioaaW.PrintLast Go.Proofs.YtfkiamccipoioaaW.PrintMore Go.Proofs.YtfkiamccipoioaaW.Pk
set_option linter.unusedVariables false
set_option linter.unusedSimpArgs false

def deck12.T12 : Bool × List (List Nat × List Nat) := (true, [([], []), ([], []), ([1], [1]), ([0, 2, 2], [0, 2]), ([3], [3])])
def deck12.B12 : List Nat := [0, 0, 2, 7, 15]
theorem deck12.tab12 : rtab .any (opsOf Try.f12 12) = deck12.T12 := by kernel_rfl
theorem deck12.bits12 : waitsOk deck12.T12.2 deck12.B12 = true := by kernel_rfl
def laws_FnExactStuckLines.f (k : Nat) (l0_0 : List Int) (l0_1 : List (List Int)) (a1 : ByteArray) : Option Bool := if (a1.size : Int) > 1048576 then some true else ((laws_szDeck.f k l0_0 l0_1 1048576).bind fun t => if t < 0 then some true else (laws_toDeck.f k l0_0 l0_1).bind fun x => (spec_StuckLines.f k x.1 x.2 a1).bind fun s => (impl_StuckLines.f k x.1 x.2 a1).bind fun g => (laws_eqInt64S.f k g.1 s.1).bind fun e1 => if e1 = true then (if g.2 = s.2 then ((laws_eqDeck.f k x.1 x.2 x.1 x.2).bind fun e2 => if e2 = true then ((laws_markDeck.f x.1 x.2 1).bind fun m1 => if m1 < 0 then none else (laws_markInt64S.f k g.1 1).bind fun m => (laws_heldInt64S.f k m.2 1).bind fun q => if q < 0 then none else if q = m.1 then some true else none) else none) else none) else none)
set_option maxRecDepth 100000 in
set_option maxHeartbeats 8000000 in
theorem laws_FnExactStuckLines.calls (k : Nat) (A0_0 : Option Addr) (c0_0 : Nat) (l0_0 : List Int) (A0_1 : Option Addr) (c0_1 : Nat) (l0_1 : List (List Int)) (a1 : ByteArray) (r : Bool) (w : World) (hr0_0 : Kd.C (Kd.int .i64) w A0_0 l0_0.length l0_0) (hc0_0 : l0_0.length ≤ c0_0) (hr0_1 : Kd.C (Kd.slice 2 (Kd.int .i64)) w A0_1 l0_1.length l0_1) (hc0_1 : l0_1.length ≤ c0_1) (h : laws_FnExactStuckLines.f k l0_0 l0_1 a1 = some r) :
    Calls Try.prog 12 #[.agg #[.slice A0_0 l0_0.length c0_0, .slice A0_1 l0_1.length c0_1], .string a1] w fun e w' => e = .returned (.bool r) ∧ Below w.heap.size w w' := by
  have hu25 := Try.underlying25
  have hu28 := Try.underlying28
  have HR0_0 := Aside0.mk hr0_0
  have HC0_0 := Aside0.mk hc0_0
  have HR0_1 := Aside0.mk hr0_1
  have HC0_1 := Aside0.mk hc0_1
  clear hr0_0 hc0_0 hr0_1 hc0_1
  unfold laws_FnExactStuckLines.f at h
  by_cases s0 : (a1.size : Int) > 1048576
  · rw [if_pos s0] at h
    obtain rfl := Option.some.inj h
    have s0b : decide (1048576 < (a1.size : Int)) = true := decide_eq_true s0
    have s0c : decide (1048576 < a1.size) = true := decide_eq_true (by omega)
    clear s0 h
    go_enter Try.func12, Try.ntmps12
    go_wp2_with (first | ((with_reducible refine gate_dst (N := 2) rfl ?_); refine box_event ?hg (N := 2) ?hd (cs := #[.slice A0_0 l0_0.length c0_0, .slice A0_1 l0_1.length c0_1]) (t := 25) ?hr ?_; (case hd => rfl); (case hg => rfl); (case hr => first | (go_simp; done) | (go_simp; rfl)); intro gb hg w1 hbox hb; have M1 : Aside0 (MI w w1 gb #[.slice A0_0 l0_0.length c0_0, .slice A0_1 l0_1.length c0_1]) := ⟨⟨hb, hbox, by rw [hg]; exact Nat.le_refl _⟩⟩; clear hb hbox hg; have hzgb_0 : w1.cell? ⟨gb, 0, none⟩ = some (.slice A0_0 l0_0.length c0_0) := (blk_cell M1.out.box 0).trans rfl; have hzgb_1 : w1.cell? ⟨gb, 1, none⟩ = some (.slice A0_1 l0_1.length c0_1) := (blk_cell M1.out.box 1).trans rfl))
    go_ret
    exact ⟨rfl, M1.out.below⟩
  rw [if_neg s0] at h
  have s0b : decide (1048576 < (a1.size : Int)) = false := decide_eq_false s0
  have s0c : decide (1048576 < a1.size) = false := decide_eq_false (by omega)
  clear s0
  replace h := Option.bind_eq_some_iff.mp h
  obtain ⟨t, at_, h⟩ := h
  have AT := Aside0.mk at_
  clear at_
  by_cases ct : t < 0
  · rw [if_pos ct] at h
    obtain rfl := Option.some.inj h
    have ctb : decide (t < 0) = true := decide_eq_true ct
    clear ct h
    go_enter Try.func12, Try.ntmps12
    go_wp2_with (first | ((with_reducible refine gate_dst (N := 2) rfl ?_); refine box_event ?hg (N := 2) ?hd (cs := #[.slice A0_0 l0_0.length c0_0, .slice A0_1 l0_1.length c0_1]) (t := 25) ?hr ?_; (case hd => rfl); (case hg => rfl); (case hr => first | (go_simp; done) | (go_simp; rfl)); intro gb hg w1 hbox hb; have M1 : Aside0 (MI w w1 gb #[.slice A0_0 l0_0.length c0_0, .slice A0_1 l0_1.length c0_1]) := ⟨⟨hb, hbox, by rw [hg]; exact Nat.le_refl _⟩⟩; clear hb hbox hg; have hzgb_0 : w1.cell? ⟨gb, 0, none⟩ = some (.slice A0_0 l0_0.length c0_0) := (blk_cell M1.out.box 0).trans rfl; have hzgb_1 : w1.cell? ⟨gb, 1, none⟩ = some (.slice A0_1 l0_1.length c0_1) := (blk_cell M1.out.box 1).trans rfl) | ((with_reducible refine gate_callee (f := 15) rfl ?_); refine goesL_ (some 21) rfl rfl Try.func15 (by kernel_rfl) rfl #[.agg #[.slice A0_0 l0_0.length c0_0, .slice A0_1 l0_1.length c0_1], .int .i64 1048576] rfl ln_ ?_; refine (laws_szDeck.calls k _ _ l0_0 _ _ l0_1 1048576 t _ (Kd.C_below HR0_0.out M1.out.below) HC0_0.out (Kd.C_below HR0_1.out M1.out.below) HC0_1.out AT.out).mono ?_; rintro e w2 ⟨rfl, hb⟩; refine ⟨_, rfl, ?_⟩; have M2 := Aside0.mk (M1.out.step hb); clear hb hzgb_0 hzgb_1; have hzgb_0 : w2.cell? ⟨gb, 0, none⟩ = some (.slice A0_0 l0_0.length c0_0) := (blk_cell M2.out.box 0).trans rfl; have hzgb_1 : w2.cell? ⟨gb, 1, none⟩ = some (.slice A0_1 l0_1.length c0_1) := (blk_cell M2.out.box 1).trans rfl))
    go_ret
    exact ⟨rfl, M2.out.below⟩
  rw [if_neg ct] at h
  have ctb : decide (t < 0) = false := decide_eq_false ct
  clear ct
  replace h := Option.bind_eq_some_iff.mp h
  obtain ⟨⟨x0, x1⟩, a_, h⟩ := h
  try dsimp only at h a_
  have AX := Aside0.mk a_
  clear a_
  replace h := Option.bind_eq_some_iff.mp h
  obtain ⟨⟨s0, s1⟩, a_, h⟩ := h
  try dsimp only at h a_
  have AS := Aside0.mk a_
  clear a_
  replace h := Option.bind_eq_some_iff.mp h
  obtain ⟨⟨g0, g1⟩, a_, h⟩ := h
  try dsimp only at h a_
  have AG := Aside0.mk a_
  clear a_
  replace h := Option.bind_eq_some_iff.mp h
  obtain ⟨e1, a_, h⟩ := h
  try dsimp only at h a_
  have AE1 := Aside0.mk a_
  clear a_
  by_cases c_ : e1 = true
  rotate_left
  · rw [if_neg c_] at h; exact absurd h (by simp)
  rw [if_pos c_] at h
  subst c_
  by_cases c_ : g1 = s1
  rotate_left
  · rw [if_neg c_] at h; exact absurd h (by simp)
  rw [if_pos c_] at h
  subst c_
  replace h := Option.bind_eq_some_iff.mp h
  obtain ⟨e2, a_, h⟩ := h
  try dsimp only at h a_
  have AE2 := Aside0.mk a_
  clear a_
  by_cases c_ : e2 = true
  rotate_left
  · rw [if_neg c_] at h; exact absurd h (by simp)
  rw [if_pos c_] at h
  subst c_
  replace h := Option.bind_eq_some_iff.mp h
  obtain ⟨m1, a_, h⟩ := h
  try dsimp only at h a_
  have AM1 := Aside0.mk a_
  clear a_
  by_cases c_ : m1 < 0
  · rw [if_pos c_] at h; exact absurd h (by simp)
  rw [if_neg c_] at h
  have cmb : decide (m1 < 0) = false := decide_eq_false c_
  clear c_
  replace h := Option.bind_eq_some_iff.mp h
  obtain ⟨⟨m, mr⟩, a_, h⟩ := h
  try dsimp only at h a_
  have AM := Aside0.mk a_
  clear a_
  replace h := Option.bind_eq_some_iff.mp h
  obtain ⟨q, a_, h⟩ := h
  try dsimp only at h a_
  have AQ := Aside0.mk a_
  clear a_
  by_cases c_ : q < 0
  · rw [if_pos c_] at h; exact absurd h (by simp)
  rw [if_neg c_] at h
  have cqb : decide (q < 0) = false := decide_eq_false c_
  clear c_
  by_cases c_ : q = m
  rotate_left
  · rw [if_neg c_] at h; exact absurd h (by simp)
  rw [if_pos c_] at h
  subst c_
  obtain rfl := Option.some.inj h
  clear h
  have hne1 : (g1 != g1) = false := bne_self_eq_false g1
  have hne2 : (q != q) = false := bne_self_eq_false q
  go_enter Try.func12, Try.ntmps12
  go_wp2_with (first
    | ((with_reducible refine gate_dst (N := 2) rfl ?_); refine box_event ?hg (N := 2) ?hd (cs := #[.slice A0_0 l0_0.length c0_0, .slice A0_1 l0_1.length c0_1]) (t := 25) ?hr ?_; (case hd => rfl); (case hg => rfl); (case hr => first | (go_simp; done) | (go_simp; rfl)); intro gb hg w1 hbox hb; have M1 : Aside0 (MI w w1 gb #[.slice A0_0 l0_0.length c0_0, .slice A0_1 l0_1.length c0_1]) := ⟨⟨hb, hbox, by rw [hg]; exact Nat.le_refl _⟩⟩; clear hb hbox hg; have hzgb_0 : w1.cell? ⟨gb, 0, none⟩ = some (.slice A0_0 l0_0.length c0_0) := (blk_cell M1.out.box 0).trans rfl; have hzgb_1 : w1.cell? ⟨gb, 1, none⟩ = some (.slice A0_1 l0_1.length c0_1) := (blk_cell M1.out.box 1).trans rfl)
    | ((with_reducible refine gate_callee (f := 15) rfl ?_); refine goesL_ (some 21) rfl rfl Try.func15 (by kernel_rfl) rfl #[.agg #[.slice A0_0 l0_0.length c0_0, .slice A0_1 l0_1.length c0_1], .int .i64 1048576] rfl ln_ ?_; refine (laws_szDeck.calls k _ _ l0_0 _ _ l0_1 1048576 t _ (Kd.C_below HR0_0.out M1.out.below) HC0_0.out (Kd.C_below HR0_1.out M1.out.below) HC0_1.out AT.out).mono ?_; rintro e w2 ⟨rfl, hb⟩; refine ⟨_, rfl, ?_⟩; have M2 := Aside0.mk (M1.out.step hb); clear hb hzgb_0 hzgb_1; have hzgb_0 : w2.cell? ⟨gb, 0, none⟩ = some (.slice A0_0 l0_0.length c0_0) := (blk_cell M2.out.box 0).trans rfl; have hzgb_1 : w2.cell? ⟨gb, 1, none⟩ = some (.slice A0_1 l0_1.length c0_1) := (blk_cell M2.out.box 1).trans rfl)
    | ((with_reducible refine gate_callee (f := 17) rfl ?_); refine goesL_ (some 26) rfl rfl Try.func17 (by kernel_rfl) rfl #[.agg #[.slice A0_0 l0_0.length c0_0, .slice A0_1 l0_1.length c0_1]] rfl ln_ ?_; refine (laws_toDeck.calls k _ _ l0_0 _ _ l0_1 x0 x1 _ (Kd.C_below HR0_0.out M2.out.below) HC0_0.out (Kd.C_below HR0_1.out M2.out.below) HC0_1.out AX.out).mono ?_; rintro e w3 ⟨v0, v1, rfl, hr0, hr1, hb⟩; refine ⟨_, rfl, ?_⟩; have M3 := Aside0.mk (M2.out.step hb); obtain ⟨Ax, cx, ex⟩ := Kd.R_slice hr0; subst ex; obtain ⟨Ay, cy, ey⟩ := Kd.S_slice hr1; subst ey; have X0 := Aside0.mk hr0; have X1 := Aside0.mk (Kd.S_R hr1); clear hb hr0 hr1 hzgb_0 hzgb_1)
    | ((with_reducible refine gate_callee (f := 41) rfl ?_); refine goesL_ (some 28) rfl rfl Try.func41 (by kernel_rfl) rfl #[.agg #[.slice Ax x0.length cx, .slice Ay x1.length cy], .string a1] rfl ln_ ?_; refine (spec_StuckLines.calls k _ _ x0 _ _ x1 a1 s0 g1 _ (Kd.R_reads' X0.out).2.2 (Kd.R_reads' X0.out).2.1 (Kd.R_reads' X1.out).2.2 (Kd.R_reads' X1.out).2.1 AS.out).mono ?_; rintro e w4 ⟨v, rfl, hr, hb⟩; refine ⟨_, rfl, ?_⟩; have M4 := Aside0.mk (M3.out.step hb); obtain ⟨As, cs_, es⟩ := Kd.R_slice hr; subst es; have S4 := Aside0.mk (Kd.R_lower (R_lt_of hr) M3.out.below.size); clear hb hr X0 X1; have hzgb_0 : w4.cell? ⟨gb, 0, none⟩ = some (.slice A0_0 l0_0.length c0_0) := (blk_cell M4.out.box 0).trans rfl; have hzgb_1 : w4.cell? ⟨gb, 1, none⟩ = some (.slice A0_1 l0_1.length c0_1) := (blk_cell M4.out.box 1).trans rfl)
    | ((with_reducible refine gate_callee (f := 17) rfl ?_); refine goesL_ (some 32) rfl rfl Try.func17 (by kernel_rfl) rfl #[.agg #[.slice A0_0 l0_0.length c0_0, .slice A0_1 l0_1.length c0_1]] rfl ln_ ?_; refine (laws_toDeck.calls k _ _ l0_0 _ _ l0_1 x0 x1 _ (Kd.C_below HR0_0.out M4.out.below) HC0_0.out (Kd.C_below HR0_1.out M4.out.below) HC0_1.out AX.out).mono ?_; rintro e w5 ⟨v0, v1, rfl, hr0, hr1, hb⟩; refine ⟨_, rfl, ?_⟩; have M5 := Aside0.mk (M4.out.step hb); have S5 := Aside0.mk (Kd.R_below S4.out hb); have Y0 := Aside0.mk (R_self hr0); have Y1 := Aside0.mk (Kd.R_bound (Kd.S_R hr1)); have N45 := Aside0.mk hb.size; clear hb hr0 hr1 hzgb_0 hzgb_1; obtain ⟨Ap, cp, ep⟩ := Kd.R_slice Y0.out; subst ep; obtain ⟨Aq, cq, eq_⟩ := Kd.R_slice Y1.out; subst eq_)
    | ((with_reducible refine gate_dst (N := 8) rfl ?_); refine box_event ?hg (N := 8) ?hd (cs := #[.slice none 0 0, .slice none 0 0]) (t := 28) ?hr ?_; (case hd => rfl); (case hg => rfl); (case hr => first | (go_simp; done) | (go_simp; rfl)); intro gc hg w6 hbox hb; have B6 := Aside0.mk (⟨hb, hbox, hg⟩ : Below w5.heap.size w5 w6 ∧ w6.heap[gc]? = some (.cells #[.slice none 0 0, .slice none 0 0] 28 (0, 0)) ∧ gc = w5.heap.size); clear hb hbox hg)
    | (refine hand_store (fun W_ => Below w5.heap.size w5 W_ ∧ W_.heap[gc]? = some (.cells #[.slice Ap x0.length cp, .slice Aq x1.length cq] 28 (0, 0))) (t := 28) (p := 8) (v := .tmp 32) (w1 := (w6.setCell ⟨gc, 0, none⟩ (.slice Ap x0.length cp)).setCell ⟨gc, 1, none⟩ (.slice Aq x1.length cq)) ?hg rfl ?hN ?hr ?hF ?_; (case hg => rfl); (case hN => rfl); (case hr => have hz0 : w6.cell? ⟨gc, 0, none⟩ = some (.slice none 0 0) := (blk_cell B6.out.2.1 0).trans rfl; have hz1 : w6.cell? ⟨gc, 1, none⟩ = some (.slice none 0 0) := (blk_cell B6.out.2.1 1).trans rfl; have hf0 := blk_frozen B6.out.2.1 0; have hf1 := blk_frozen B6.out.2.1 1; first | (go_simp; done) | (go_simp; rfl)); (case hF => exact ⟨(B6.out.1.setCell (p := ⟨gc, 0, none⟩) (Nat.le_of_eq B6.out.2.2.symm) _).setCell (p := ⟨gc, 1, none⟩) (Nat.le_of_eq B6.out.2.2.symm) _, blk_put (cs := #[.slice Ap x0.length cp, .slice none 0 0]) (blk_put (cs := #[.slice none 0 0, .slice none 0 0]) B6.out.2.1 0 _ rfl) 1 _ rfl⟩); intro w7 h7; have B7 := Aside0.mk h7.2; have M7 := Aside0.mk (M5.out.step h7.1); have S7 := Aside0.mk (Kd.R_below S5.out h7.1); have P0 := Aside0.mk (Kd.R_below Y0.out h7.1); have P1 := Aside0.mk (Kd.R_below Y1.out h7.1); have N57 := Aside0.mk h7.1.size; clear h7 B6 Y0 Y1; have hzgc_0 : w7.cell? ⟨gc, 0, none⟩ = some (.slice Ap x0.length cp) := (blk_cell B7.out 0).trans rfl; have hzgc_1 : w7.cell? ⟨gc, 1, none⟩ = some (.slice Aq x1.length cq) := (blk_cell B7.out 1).trans rfl)
    | ((with_reducible refine gate_callee (f := 42) rfl ?_); refine goesL_ (some 36) rfl rfl Try.func42 (by kernel_rfl) rfl #[.agg #[.slice Ap x0.length cp, .slice Aq x1.length cq], .string a1] rfl ln_ ?_; refine (impl_StuckLines.calls k _ _ x0 _ _ x1 a1 g0 g1 _ (Kd.R_reads' P0.out).2.2 (Kd.R_reads' P0.out).2.1 (Kd.R_reads' P1.out).2.2 (Kd.R_reads' P1.out).2.1 AG.out).mono ?_; rintro e w8 ⟨v, rfl, hr, hb⟩; refine ⟨_, rfl, ?_⟩; obtain ⟨Ag, cg, eg⟩ := Kd.R_slice hr; subst eg; have M8 := Aside0.mk (M7.out.step hb); have B8 := Aside0.mk (blk_below B7.out hb); have S8 := Aside0.mk (Kd.R_below S7.out hb); have P08 := Aside0.mk (Kd.R_below P0.out hb); have P18 := Aside0.mk (Kd.R_below P1.out hb); have G8 := Aside0.mk (Kd.R_lower (R_ge_of hr) M7.out.below.size); clear hb hr hzgc_0 hzgc_1 P0 P1 B7)
    | ((with_reducible refine gate_callee (f := 24) rfl ?_); refine goesL_ (some 41) rfl rfl Try.func24 (by kernel_rfl) rfl #[.slice Ag g0.length cg, .slice As s0.length cs_] rfl ln_ ?_; refine (laws_eqInt64S.calls k _ _ g0 _ _ s0 true _ (Kd.R_reads' G8.out).2.2 (Kd.R_reads' G8.out).2.1 (Kd.R_reads' S8.out).2.2 (Kd.R_reads' S8.out).2.1 AE1.out).mono ?_; rintro e w9 ⟨rfl, hd⟩; refine ⟨_, rfl, ?_⟩; have hb := hd.below; clear hd; have M9 := Aside0.mk (M8.out.step hb); have B9 := Aside0.mk (blk_below B8.out hb); have S9 := Aside0.mk (Kd.R_below S8.out hb); have P09 := Aside0.mk (Kd.R_below P08.out hb); have P19 := Aside0.mk (Kd.R_below P18.out hb); have G9 := Aside0.mk (Kd.R_below G8.out hb); clear hb G8 S8 P08 P18 B8; have hzgb_0 : w9.cell? ⟨gb, 0, none⟩ = some (.slice A0_0 l0_0.length c0_0) := (blk_cell M9.out.box 0).trans rfl; have hzgb_1 : w9.cell? ⟨gb, 1, none⟩ = some (.slice A0_1 l0_1.length c0_1) := (blk_cell M9.out.box 1).trans rfl; have hzgc_0 : w9.cell? ⟨gc, 0, none⟩ = some (.slice Ap x0.length cp) := (blk_cell B9.out 0).trans rfl; have hzgc_1 : w9.cell? ⟨gc, 1, none⟩ = some (.slice Aq x1.length cq) := (blk_cell B9.out 1).trans rfl))
  have hdr := below_drew (Below.refl w9.heap.size w9)
  have M9d := Aside0.mk (M9.out.step hdr)
  have B9d := Aside0.mk (blk_below B9.out hdr)
  have S9d := Aside0.mk (Kd.R_below S9.out hdr)
  have P09d := Aside0.mk (Kd.R_below P09.out hdr)
  have P19d := Aside0.mk (Kd.R_below P19.out hdr)
  have G9d := Aside0.mk (Kd.R_below G9.out hdr)
  clear hdr M9 B9 S9 P09 P19 G9 hzgb_0 hzgb_1 hzgc_0 hzgc_1
  have M9 := M9d
  have B9 := B9d
  have S9 := S9d
  have P09 := P09d
  have P19 := P19d
  have G9 := G9d
  clear M9d B9d S9d P09d P19d G9d
  refine start_ (n := 5) (S := fun w' => w'.cell? ⟨gc, 0, none⟩ = some (.slice Ap x0.length cp) ∧ w'.cell? ⟨gc, 1, none⟩ = some (.slice Aq x1.length cq) ∧ w'.cell? ⟨gb, 0, none⟩ = some (.slice A0_0 l0_0.length c0_0) ∧ w'.cell? ⟨gb, 1, none⟩ = some (.slice A0_1 l0_1.length c0_1)) (ds := []) #[false, false, false, false, false] (by kernel_rfl) rfl rfl ⟨(blk_cell B9.out 0).trans rfl, (blk_cell B9.out 1).trans rfl, (blk_cell M9.out.box 0).trans rfl, (blk_cell M9.out.box 1).trans rfl⟩ (fun hHeld => ?_); refine with_tabW deck12.tab12 deck12.bits12 (fun HT_ HW_ => ?_)
  generalize w9.drew = w9d at M9 B9 S9 P09 P19 G9 hHeld ⊢
  refine take_ (i := 0) (N := some 48) (v := ?_) (a' := ?_) #[true, false, false, false, false] rfl rfl (take_ofW HT_.out HW_.out (by kernel_rfl)) (fun _ _ _ h => h) (Or.inl ⟨by rfl, ?_⟩) hHeld ?_ ?_
  rotate_left
  · rintro w' ⟨s0, s1, s2, s3⟩
    go_simp
    with_reducible rfl
  rotate_left
  · simp only [Act.put, List.setIfInBounds_toArray, List.set_cons_zero, List.set_cons_succ, i64_w, i32_w]
    rfl
  refine take_ (i := 1) (N := some 49) (v := ?_) (a' := ?_) #[true, true, false, false, false] rfl rfl (take_ofW HT_.out HW_.out (by kernel_rfl)) (fun _ _ _ h => h) (Or.inl ⟨by rfl, ?_⟩) hHeld ?_ ?_
  rotate_left
  · rintro w' ⟨s0, s1, s2, s3⟩
    go_simp
    with_reducible rfl
  rotate_left
  · simp only [Act.put, List.setIfInBounds_toArray, List.set_cons_zero, List.set_cons_succ, i64_w, i32_w]
    rfl
  refine one_ (i := 2) (N := (some 50)) #[true, true, true, false, false] rfl rfl (one_of HT_.out (by kernel_rfl)) (by decide) (fun K hK => ?_)
  refine goes_ Try.func17 (by kernel_rfl) rfl #[.agg #[.slice A0_0 l0_0.length c0_0, .slice A0_1 l0_1.length c0_1]] (by rfl) rfl rfl ln_ ?_
  refine (laws_toDeck.calls k _ _ l0_0 _ _ l0_1 x0 x1 _ (Kd.C_below HR0_0.out M9.out.below) HC0_0.out (Kd.C_below HR0_1.out M9.out.below) HC0_1.out AX.out).mono ?_
  rintro e w10 ⟨v0, v1, rfl, hr0, hr1, hb⟩
  refine ⟨_, rfl, ?_⟩
  have M10 := Aside0.mk (M9.out.step hb)
  have B10 := Aside0.mk (blk_below B9.out hb)
  have S10 := Aside0.mk (Kd.R_below S9.out hb)
  have P010 := Aside0.mk (Kd.R_below P09.out hb)
  have P110 := Aside0.mk (Kd.R_below P19.out hb)
  have G10 := Aside0.mk (Kd.R_below G9.out hb)
  obtain ⟨Ax, cx, ex⟩ := Kd.R_slice hr0
  subst ex
  obtain ⟨Ay, cy, ey⟩ := Kd.S_slice hr1
  subst ey
  have X0 := Aside0.mk hr0
  have X1 := Aside0.mk (Kd.S_R hr1)
  clear hb hr0 hr1 S9 P09 P19 G9 B9
  refine hK.out _ _ ⟨(blk_cell B10.out 0).trans rfl, (blk_cell B10.out 1).trans rfl, (blk_cell M10.out.box 0).trans rfl, (blk_cell M10.out.box 1).trans rfl⟩ (fun hHeld => ?_)
  clear hK K
  refine norm_ (a' := ?_) ?_ ?_
  rotate_left
  · show Act.put _ (some 50) _ = _
    simp only [Act.put, List.setIfInBounds_toArray, List.set_cons_zero, List.set_cons_succ, i64_w, i32_w]
    rfl
  refine one_ (i := 3) (N := (some 51)) #[true, true, true, true, false] rfl rfl (one_of HT_.out (by kernel_rfl)) (by decide) (fun K hK => ?_)
  refine goes_ Try.func19 (by kernel_rfl) rfl #[.agg #[.slice Ap x0.length cp, .slice Aq x1.length cq], .agg #[.slice Ax x0.length cx, .slice Ay x1.length cy]] (by rfl) rfl rfl ln_ ?_
  refine (laws_eqDeck.calls k _ _ x0 _ _ x1 _ _ x0 _ _ x1 true _ (Kd.R_reads' P010.out).2.2 (Kd.R_reads' P010.out).2.1 (Kd.R_reads' P110.out).2.2 (Kd.R_reads' P110.out).2.1 (Kd.R_reads' X0.out).2.2 (Kd.R_reads' X0.out).2.1 (Kd.R_reads' X1.out).2.2 (Kd.R_reads' X1.out).2.1 AE2.out).mono ?_
  rintro e w11 ⟨rfl, hb⟩
  refine ⟨_, rfl, ?_⟩
  have M11 := Aside0.mk (M10.out.step hb)
  have B11 := Aside0.mk (blk_below B10.out hb)
  have S11 := Aside0.mk (Kd.R_below S10.out hb)
  have P011 := Aside0.mk (Kd.R_below P010.out hb)
  have P111 := Aside0.mk (Kd.R_below P110.out hb)
  have G11 := Aside0.mk (Kd.R_below G10.out hb)
  clear hb X0 X1 S10 P010 P110 G10 B10
  refine hK.out _ _ ⟨(blk_cell B11.out 0).trans rfl, (blk_cell B11.out 1).trans rfl, (blk_cell M11.out.box 0).trans rfl, (blk_cell M11.out.box 1).trans rfl⟩ (fun hHeld => ?_)
  clear hK K
  refine norm_ (a' := ?_) ?_ ?_
  rotate_left
  · show Act.put _ (some 51) _ = _
    simp only [Act.put, List.setIfInBounds_toArray, List.set_cons_zero, List.set_cons_succ, i64_w, i32_w]
    rfl
  refine pu (i := 4) (N := some 52) #[true, true, true, true, true] HT_ ?_
  refine done_ (done_of HT_.out (by kernel_rfl)) ?_
  have hzgc_0 : w11.cell? ⟨gc, 0, none⟩ = some (.slice Ap x0.length cp) := (blk_cell B11.out 0).trans rfl
  have hzgc_1 : w11.cell? ⟨gc, 1, none⟩ = some (.slice Aq x1.length cq) := (blk_cell B11.out 1).trans rfl
  go_wp2_with (first
    | ((with_reducible refine gate_callee (f := 25) rfl ?_); refine goesL_ (some 55) rfl rfl Try.func25 (by kernel_rfl) rfl #[.agg #[.slice Ap x0.length cp, .slice Aq x1.length cq], .int .i64 1] rfl ln_ ?_; refine (laws_markDeck.calls _ _ _ _ x0 x1 1 m1 w w11 M11.out.below (Kd.R_lower P011.out M4.out.below.size) (Kd.R_lower P111.out M4.out.below.size) (fun k h0 h1 => h1.1 h0.1) AM1.out).mono ?_; rintro e w12 ⟨rfl, hb, hk⟩; refine ⟨_, rfl, ?_⟩; have M12 := Aside0.mk (M11.out.kept hb hk (fun h => by have := M4.out.lt; rcases h with h | h <;> omega)); have S12 := Aside0.mk (Kd.R_step S11.out (fun k hk1 hlt => hk.2 k hlt (fun h => by rcases h with h | h <;> omega))); have G12 := Aside0.mk (Kd.R_step G11.out (fun k hk1 hlt => hk.2 k hlt (fun h => by have := N57.out; rcases h with h | h <;> omega))); clear hb hk hzgc_0 hzgc_1 S11 G11 P011 P111)
    | (go_at_call 24; refine (laws_eqInt64S.calls k _ _ g0 _ _ s0 true _ (Kd.R_reads' G12.out).2.2 (Kd.R_reads' G12.out).2.1 (Kd.R_reads' S12.out).2.2 (Kd.R_reads' S12.out).2.1 AE1.out).mono ?_; rintro e w13 ⟨rfl, hd⟩; have hb := hd.below; clear hd; have M13 := Aside0.mk (M12.out.step hb); have S13 := Aside0.mk (Kd.R_below S12.out hb); have G13 := Aside0.mk (Kd.R_below G12.out hb); clear hb S12 G12)
    | ((with_reducible refine gate_callee (f := 26) rfl ?_); refine goesL_ (some 71) rfl rfl Try.func26 (by kernel_rfl) rfl #[.slice Ag g0.length cg, .int .i64 1] rfl ln_ ?_; refine (laws_markInt64S.calls k _ _ g0 1 q mr w w13 M13.out.below G13.out AM.out).mono ?_; rintro e w14 ⟨rfl, hr, hb, hk⟩; refine ⟨_, rfl, ?_⟩; have hlt7 := M7.out.lt; have M14 := Aside0.mk (M13.out.kept hb hk (fun h => by omega)); have S14 := Aside0.mk (Kd.R_step S13.out (fun k hk1 hlt => hk.2 k hlt (fun h => by have := N45.out; have := N57.out; omega))); have HL := Aside0.mk (Kd.R_reads' hr).1; rw [(Kd.R_reads' hr).1] at hr; have G14 := Aside0.mk hr; clear hlt7 hb hk hr S13 G13)
    | ((with_reducible refine gate_callee (f := 27) rfl ?_); refine goesL_ (some 74) rfl rfl Try.func27 (by kernel_rfl) rfl #[.slice Ag g0.length cg, .int .i64 1] rfl ln_ ?_; have hcall := laws_heldInt64S.calls k Ag cg mr 1 q w14 (Kd.R_reads' G14.out).2.2 (by have := (Kd.R_reads' G14.out).2.1; omega) AQ.out; rw [← HL.out] at hcall; refine hcall.mono ?_; clear hcall; rintro e w15 ⟨rfl, hd⟩; refine ⟨_, rfl, ?_⟩; have hb := hd.below; clear hd; have M15 := Aside0.mk (M14.out.step hb); have S15 := Aside0.mk (Kd.R_below S14.out hb); have G15 := Aside0.mk (Kd.R_below G14.out hb); clear hb S14 G14; have hzgb_0 : w15.cell? ⟨gb, 0, none⟩ = some (.slice A0_0 l0_0.length c0_0) := (blk_cell M15.out.box 0).trans rfl; have hzgb_1 : w15.cell? ⟨gb, 1, none⟩ = some (.slice A0_1 l0_1.length c0_1) := (blk_cell M15.out.box 1).trans rfl)
    | ((with_reducible refine gate_callee (f := 17) rfl ?_); refine goesL_ (some 82) rfl rfl Try.func17 (by kernel_rfl) rfl #[.agg #[.slice A0_0 l0_0.length c0_0, .slice A0_1 l0_1.length c0_1]] rfl ln_ ?_; refine (laws_toDeck.calls k _ _ l0_0 _ _ l0_1 x0 x1 _ (Kd.C_below HR0_0.out M15.out.below) HC0_0.out (Kd.C_below HR0_1.out M15.out.below) HC0_1.out AX.out).mono ?_; rintro e w16 ⟨v0, v1, rfl, hr0, hr1, hb⟩; refine ⟨_, rfl, ?_⟩; have M16 := Aside0.mk (M15.out.step hb); have S16 := Aside0.mk (Kd.R_below S15.out hb); have G16 := Aside0.mk (Kd.R_below G15.out hb); obtain ⟨Ax, cx, ex⟩ := Kd.R_slice hr0; subst ex; obtain ⟨Ay, cy, ey⟩ := Kd.S_slice hr1; subst ey; have X0 := Aside0.mk hr0; have X1 := Aside0.mk (Kd.S_R hr1); clear hb hr0 hr1 hzgb_0 hzgb_1 S15 G15)
    | ((with_reducible refine gate_callee (f := 42) rfl ?_); refine goesL_ (some 84) rfl rfl Try.func42 (by kernel_rfl) rfl #[.agg #[.slice Ax x0.length cx, .slice Ay x1.length cy], .string a1] rfl ln_ ?_; refine (impl_StuckLines.calls k _ _ x0 _ _ x1 a1 g0 g1 _ (Kd.R_reads' X0.out).2.2 (Kd.R_reads' X0.out).2.1 (Kd.R_reads' X1.out).2.2 (Kd.R_reads' X1.out).2.1 AG.out).mono ?_; rintro e w17 ⟨v, rfl, hr, hb⟩; refine ⟨_, rfl, ?_⟩; obtain ⟨Ah, ch, eh⟩ := Kd.R_slice hr; subst eh; have M17 := Aside0.mk (M16.out.step hb); have S17 := Aside0.mk (Kd.R_below S16.out hb); have G17 := Aside0.mk (Kd.R_below G16.out hb); have H17 := Aside0.mk hr; clear hb hr X0 X1 S16 G16)
    | ((with_reducible refine gate_callee (f := 24) rfl ?_); refine goesL_ (some 89) rfl rfl Try.func24 (by kernel_rfl) rfl #[.slice Ah g0.length ch, .slice As s0.length cs_] rfl ln_ ?_; refine (laws_eqInt64S.calls k _ _ g0 _ _ s0 true _ (Kd.R_reads' H17.out).2.2 (Kd.R_reads' H17.out).2.1 (Kd.R_reads' S17.out).2.2 (Kd.R_reads' S17.out).2.1 AE1.out).mono ?_; rintro e w18 ⟨rfl, hd⟩; refine ⟨_, rfl, ?_⟩; have hb := hd.below; clear hd; have M18 := Aside0.mk (M17.out.step hb); have G18 := Aside0.mk (Kd.R_below G17.out hb); clear hb S17 G17)
    | ((with_reducible refine gate_callee (f := 27) rfl ?_); refine goesL_ (some 98) rfl rfl Try.func27 (by kernel_rfl) rfl #[.slice Ag g0.length cg, .int .i64 1] rfl ln_ ?_; have hcall := laws_heldInt64S.calls k Ag cg mr 1 q w18 (Kd.R_reads' G18.out).2.2 (by have := (Kd.R_reads' G18.out).2.1; omega) AQ.out; rw [← HL.out] at hcall; refine hcall.mono ?_; clear hcall; rintro e w19 ⟨rfl, hd⟩; refine ⟨_, rfl, ?_⟩; have hb := hd.below; clear hd; have M19 := Aside0.mk (M18.out.step hb); clear hb G18))
  go_ret
  exact ⟨rfl, M19.out.below⟩
end Go.Proofs.Ytfkiamccipoioaa.P
end

section
/- How an argument of a law reads: out of the form's reading (trod) of a value comes the list or structure that the printed contracts speak of. -/
namespace Go.Proofs.YtfkiamccipoioaaOp
open Go.RowKit Go.ChangeShapes Go.WideShapes Go.Deep Go.Proofs.YtfkiamccipoioaaW.PrintWords

/-- Every reading of cells at type t gives a value of this kind with the property Q. -/
structure Opens (P : Program) (t : TypeId) {α : Type} (d : Kd α) (Q : α → Prop) : Prop where
  mk ::
  out : ∀ {H : Type} (enc : TypeId × Value → H) (w : World) (base : Nat) (spare : Nat → Bool) (held : Bool) (fuel : Nat) (cs : List Value) (x : DataW H × List MemPlace), DataW.trod enc P w base spare held fuel t cs = some x → ∃ a, d.K w a cs ∧ Q a

theorem opens_int {P : Program} {t : TypeId} {k : IntKind} (ht : P.underlying t = some (.int k)) : Opens P t (Kd.int k) (fun n => (Lit.int k n).wf = true) :=
  ⟨fun enc w base spare held fuel cs x h => by
    obtain ⟨n, rfl, _, hw⟩ := DataW.trod_int ht h
    exact ⟨n, rfl, hw⟩⟩
theorem list_of_index {α : Type} (p : Nat → α → Prop) : ∀ n : Nat, (∀ i, i < n → ∃ x, p i x) → ∃ xs : List α, xs.length = n ∧ ∀ i x, xs[i]? = some x → p i x := by
  intro n
  induction n with
  | zero => intro _; exact ⟨[], rfl, fun i x h => by simp at h⟩
  | succ n ih =>
    intro h
    obtain ⟨xs, hl, hx⟩ := ih (fun i hi => h i (Nat.lt_succ_of_lt hi))
    obtain ⟨y, hy⟩ := h n (Nat.lt_succ_self n)
    refine ⟨xs ++ [y], by simp [hl], fun i x hi => ?_⟩
    rcases Nat.lt_or_ge i xs.length with h1 | h1
    · rw [List.getElem?_append_left h1] at hi
      exact hx i x hi
    · have h2 : i < (xs ++ [y]).length := (List.getElem?_eq_some_iff.1 hi).1
      have h3 : i = n := by simp at h2; omega
      subst h3
      rw [← hl, List.getElem?_append_right (Nat.le_refl _)] at hi
      simp at hi
      subst hi
      exact hy

theorem opens_slice {P : Program} {t e : TypeId} {α : Type} {d : Kd α} {Q : α → Prop} (ht : P.underlying t = some (.slice e)) (hd : Opens P e d Q) (hc : P.cellsOf e = d.sz) (e' : Nat) :
    Opens P t (Kd.slice e' d) (fun xs => xs.length ≤ maxLen ∧ ∀ x ∈ xs, Q x) :=
  ⟨fun enc w base spare held fuel cs x h => by
    rcases open_slice ht h with ⟨rfl, _⟩ | ⟨a, len, cap, m, n, D, Pl, rfl, hb, hl, hm, hmm, _, hx⟩
    · exact ⟨[], ⟨none, 0, rfl, Nat.le_refl _, rfl, by simp, fun h0 => absurd h0 (by simp)⟩, by simp [maxLen], fun y hy => by simp at hy⟩
    · have hlm : len ≤ m := by rw [hmm]; split <;> omega
      obtain ⟨xs, hxl, hxs⟩ := list_of_index (fun i (y : α) => Q y ∧ ∃ c, d.K w y c ∧ c.length = d.sz ∧ ∀ j u, c[j]? = some u → w.cell? (a.add (i * d.sz + j)) = some u) len (fun i hi => by
        obtain ⟨cs', h1, h2⟩ := hx i (by omega)
        obtain ⟨y, hK, hQ⟩ := hd.out enc w base spare held n cs' _ h2
        refine ⟨y, hQ, cs', hK, d.K_len hK, fun j u hj => ?_⟩
        rw [hc] at h1
        obtain ⟨_, hcl, hat⟩ := World.cells?_some h1
        have hjl : j < d.sz := by
          have := (List.getElem?_eq_some_iff.1 hj).1
          rw [hcl] at this
          exact this
        rw [← Go.Deep.add_add, hat j hjl]
        exact hj)
      subst hxl
      have hmax : xs.length ≤ maxLen := Nat.le_trans hl hm
      refine ⟨xs, ⟨some a, cap, rfl, hl, rfl, by unfold maxLen at hmax; omega, fun _ => ⟨a, rfl, fun j p hj => ?_⟩⟩, hmax, fun y hy => ?_⟩
      · obtain ⟨_, c, h1, h2, h3⟩ := hxs j p hj
        exact ⟨c, h2, h1, h3⟩
      · obtain ⟨i, hi⟩ := List.mem_iff_getElem?.1 hy
        exact (hxs i y hi).1⟩

theorem opens_iso {P : Program} {t : TypeId} {α β : Type} {d : Kd α} {Q : α → Prop} (h : Opens P t d Q) (f : β → α) (g : α → β) (hfg : ∀ x, f (g x) = x) : Opens P t (Kd.iso d f) (fun y => Q (f y)) :=
  ⟨fun enc w base spare held fuel cs x hx => by
    obtain ⟨a, hK, hQ⟩ := h.out enc w base spare held fuel cs x hx
    exact ⟨g a, by show d.K w (f (g a)) cs; rw [hfg]; exact hK, by rw [hfg]; exact hQ⟩⟩

/-- The cells from 'off' on are read field by field. -/
structure OpensFs (P : Program) (fs : List Field) (off : Nat) {α : Type} (d : Kd α) (Q : α → Prop) : Prop where
  mk ::
  out : ∀ {H : Type} (enc : TypeId × Value → H) (w : World) (base : Nat) (spare : Nat → Bool) (held : Bool) (n : Nat) (cs : List Value), cs.length = off + d.sz →
    (∀ f ∈ fs, ∃ y, DataW.trod enc P w base spare held n f.type ((cs.drop f.offset).take (P.cellsOf f.type)) = some y) → ∃ a, d.K w a (cs.drop off) ∧ Q a
theorem opens_last {P : Program} {f : Field} {off : Nat} {α : Type} {d : Kd α} {Q : α → Prop} (h : Opens P f.type d Q) (ho : f.offset = off) (hs : P.cellsOf f.type = d.sz) : OpensFs P [f] off d Q :=
  ⟨fun enc w base spare held n cs hl hf => by
    obtain ⟨y, hy⟩ := hf f (List.mem_singleton.2 rfl)
    rw [ho, hs, List.take_of_length_le (by rw [List.length_drop]; omega)] at hy
    exact h.out enc w base spare held n _ y hy⟩
theorem opens_cons {P : Program} {f : Field} {fs : List Field} {off : Nat} {α β : Type} {d : Kd α} {d2 : Kd β} {Q : α → Prop} {Q2 : β → Prop} (h : Opens P f.type d Q) (ho : f.offset = off) (hs : P.cellsOf f.type = d.sz) (h2 : OpensFs P fs (off + d.sz) d2 Q2) :
    OpensFs P (f :: fs) off (Kd.pair d d2) (fun x => Q x.1 ∧ Q2 x.2) :=
  ⟨fun enc w base spare held n cs hl hf => by
    have hl' : cs.length = off + (d.sz + d2.sz) := hl
    obtain ⟨y, hy⟩ := hf f List.mem_cons_self
    rw [ho, hs] at hy
    obtain ⟨a, hK, hQ⟩ := h.out enc w base spare held n _ y hy
    obtain ⟨b, hK2, hQ2⟩ := h2.out enc w base spare held n cs (by omega) (fun g hg => hf g (List.mem_cons_of_mem _ hg))
    refine ⟨(a, b), ⟨(cs.drop off).take d.sz, cs.drop (off + d.sz), ?_, hK, hK2⟩, hQ, hQ2⟩
    rw [← List.drop_drop, List.take_append_drop]⟩
theorem opens_struct {P : Program} {t : TypeId} {fs : List Field} {α : Type} {d : Kd α} {Q : α → Prop} (ht : P.underlying t = some (.struct fs.toArray)) (hs : P.cellsOf t = d.sz) (h : OpensFs P fs 0 d Q) : Opens P t d Q :=
  ⟨fun enc w base spare held fuel cs x hx => by
    obtain ⟨xs, n, _, _, hl, hlen, hf⟩ := DataW.trod_struct ht hx
    have := h.out enc w base spare held n cs (by rw [hl, hs]; omega) (fun f hmem => by
      obtain ⟨i, hi⟩ := List.mem_iff_getElem?.1 hmem
      have h1 : fs.toArray[i]? = some f := by simpa using hi
      have h2 := hf i f h1
      have h3 : i < fs.length := (List.getElem?_eq_some_iff.1 hi).1
      have h4 : i < xs.length := by rw [hlen]; simpa using h3
      exact ⟨_, h2.trans (List.getElem?_eq_getElem h4)⟩)
    simpa using this⟩

/-- A struct by value, as an argument. -/
theorem arg_struct {H : Type} {enc : TypeId × Value → H} {P : Program} {w : World} {base : Nat} {spare : Nat → Bool} {held : Bool} {t : TypeId} {α : Type} {d : Kd α} {Q : α → Prop} {cs : Array Value} {y : DataW H} {p : List MemPlace}
    (ho : Opens P t d Q) (h : DataW.Trod enc P w base spare held t (.agg cs) y p) : ∃ x : α, d.K w x cs.toList ∧ Q x := by
  obtain ⟨fuel, hf⟩ := h
  exact ho.out enc w base spare held fuel _ _ (by simpa [Value.cells] using hf)
end Go.Proofs.YtfkiamccipoioaaOp
end
