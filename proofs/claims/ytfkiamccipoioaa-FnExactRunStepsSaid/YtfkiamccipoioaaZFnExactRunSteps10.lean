/- Texts of this claim, packed: Px20. -/
import Derived.Test.YtfkiamccipoioaaZFnExactRunSteps9
section
-- Written by gprint.py (own program, over the printer of the kit) out of the translation. Lean checks it.
namespace Go.Proofs.Ytfkiamccipoioaa.P
open Go.RowKit Go.Proofs.YtfkiamccipoioaaW.PrintWords Go.Proofs.YtfkiamccipoioaaW.PrintLast Go.Proofs.YtfkiamccipoioaaW.PrintMore Go.Proofs.YtfkiamccipoioaaW.Pk
open Bool renaming true → T_, false → F_
open List renaming setIfInBounds_toArray → sT_, set_cons_zero → s0_, set_cons_succ → sS_
attribute [local go_sem] max2_int min2_int max_two min_two max_three min_three max_four min_four   -- for this text's walks alone
set_option linter.unusedVariables false
set_option linter.unusedSimpArgs false

/-! ### spec_RunSteps: function 32 -/
mutual
def spec_RunSteps.l0 : Nat → ByteArray → List Int → Int → List Int → List (List Int) → Option (ByteArray × Int)
 | 0, _, _, _, _, _ => none
 | k + 1, x1, x2, x9, x414000, x414001 => if x9 < (x2.length : Int) then (if 0 ≤ x9 then ((spec_l00In.f (rd x2 x9) 0 (wrap64 ((x1.size : Int) - 1))).bind fun t416 => (if t416 = true then (spec_RunSteps.l0 k x1 x2 (wrap64 (x9 + 1)) x414000 x414001) else (some ((⟨#[]⟩ : ByteArray), 2)))) else (none)) else (if (x2.length : Int) > 60 then (some ((⟨#[]⟩ : ByteArray), 2)) else (spec_RunSteps.l1 k x1 x2 0 x414000 x414001))
def spec_RunSteps.l1 : Nat → ByteArray → List Int → Int → List Int → List (List Int) → Option (ByteArray × Int)
 | 0, _, _, _, _, _ => none
 | k + 1, x1, x2, x10, x414000, x414001 => if x10 < (x2.length : Int) then (if 0 ≤ x10 then ((spec_l20Change.f k x414000 x414001 x1 (rd x2 x10)).bind fun bt418 => (if bt418.2 = 0 then (spec_RunSteps.l1 k bt418.1 x2 (wrap64 (x10 + 1)) x414000 x414001) else (some ((⟨#[]⟩ : ByteArray), bt418.2)))) else (none)) else (some (x1, 0))
end
def spec_RunSteps.f (k : Nat) (l0_0 : List Int) (l0_1 : List (List Int)) (a1 : ByteArray) (l2 : List Int) : Option (ByteArray × Int) := (spec_l20Code.f k l0_0 l0_1 a1).bind fun t414 => (if t414 = 0 then (spec_RunSteps.l0 k a1 l2 0 l0_0 l0_1) else (some ((⟨#[]⟩ : ByteArray), t414)))
set_option maxHeartbeats 8000000 in
set_option maxRecDepth 100000 in
theorem spec_RunSteps.calls (k : Nat) (A0_0 : Option Addr) (c0_0 : Nat) (l0_0 : List Int) (A0_1 : Option Addr) (c0_1 : Nat) (l0_1 : List (List Int)) (a1 : ByteArray) (A2 : Option Addr) (c2 : Nat) (l2 : List Int) (r1 : ByteArray) (r2 : Int) (w : World) (hr0_0 : Kd.C (Kd.int .i64) w A0_0 l0_0.length l0_0) (hc0_0 : l0_0.length ≤ c0_0) (hr0_1 : Kd.C (Kd.slice 2 (Kd.int .i64)) w A0_1 l0_1.length l0_1) (hc0_1 : l0_1.length ≤ c0_1) (hr2 : Kd.C (Kd.int .i64) w A2 l2.length l2) (hc2 : l2.length ≤ c2) (h : spec_RunSteps.f k l0_0 l0_1 a1 l2 = some (r1, r2)) :
  Calls Try.prog 32 #[.agg #[.slice A0_0 l0_0.length c0_0, .slice A0_1 l0_1.length c0_1], .string a1, .slice A2 l2.length c2] w fun e w' => e = .returned (.tuple #[.string r1, .int .i64 r2]) ∧ Below w.heap.size w w' := by
 have hu28 := Try.underlying28
 have HR0_0 := Aside0.mk hr0_0
 have HC0_0 := Aside0.mk hc0_0
 clear hr0_0 hc0_0
 have HR0_1 := Aside0.mk hr0_1
 have HC0_1 := Aside0.mk hc0_1
 clear hr0_1 hc0_1
 have HR2 := Aside0.mk hr2
 have HC2 := Aside0.mk hc2
 clear hr2 hc2
 have HB := Aside0.mk (Below.refl w.heap.size w)
 have H : ((spec_l20Code.f k l0_0 l0_1 a1).bind fun t414 => (if t414 = 0 then (spec_RunSteps.l0 k a1 l2 0 l0_0 l0_1) else (some ((⟨#[]⟩ : ByteArray), t414)))) = some (r1, r2) := h
 clear h
 replace H := Option.bind_eq_some_iff.mp H
 obtain ⟨t414, A40, H⟩ := H
 replace H : (if t414 = 0 then (spec_RunSteps.l0 k a1 l2 0 l0_0 l0_1) else (some ((⟨#[]⟩ : ByteArray), t414))) = some (r1, r2) := H
 have A4 := Aside0.mk A40
 clear A40
 by_cases c5 : t414 = 0
 ·rw [if_pos c5] at H
  have c5b0 : (t414 == 0) = true := beq_iff_eq.mpr c5
  have c5b1 : (t414 != 0) = false := bne_eq_false_iff_eq.mpr c5
  clear c5
  have H' := Aside0.mk H
  clear H
  go_enter Try.func32, Try.ntmps32
  go_wp2_with (first | ((with_reducible refine gate_dst (N := 3) rfl ?_); refine box_event ?hg (N := 3) ?hd (cs := #[.slice A0_0 l0_0.length c0_0, .slice A0_1 l0_1.length c0_1]) (t := 28) ?hr ?_; (case hd => rfl); (case hg => rfl); (case hr => first | (go_simp; done) | (go_simp; rfl)); intro gb413 hg w6 hbox hb; have n0_ := Aside0.mk (below_step hb_ hb); have n1_ := Aside0.mk ((show IsS28 w _ gb413 l0_0 l0_1 from ⟨_, _, _, _, hbox, (by rw [hg]; exact (below_size hb_) : w.heap.size ≤ gb413), HR0_0.out, HR0_1.out⟩)); have n2_ := Aside0.mk ((by rw [hg]; exact (below_size hb_) : w.heap.size ≤ gb413)); have n3_ := Aside0.mk ((by rw [hg]; exact (below_size hb_) : w.heap.size ≤ gb413)); clear HB; have HB := n0_; have HI413 := n1_; have GW413 := n2_; have GE413 := n3_; clear n0_ n1_ n2_ n3_; clear hb hbox hg) | ((with_reducible refine gate_callee (f := 56) rfl ?_); refine goesL_ (some 14) rfl rfl Try.func56 (by kernel_rfl) rfl #[.pointer (some ⟨gb413, 0, none⟩), .string a1] rfl ln_ ?_; (with_reducible refine (spec_l20Code.calls k gb413 l0_0 l0_1 a1 t414 w _ ?side1 ?side2 A4.out).mono ?_); (case side1 => repeat (first | (with_reducible first | exact HI413.out | apply IsS28.alloc | apply IsS28.drewN | apply IsS28.drew) | exact HI413.out)); (case side2 => repeat (first | (with_reducible first | exact HB.out | apply below_alloc | apply pw_below_drewN | apply below_drew1 | refine below_set ?_ (IsS28.ge HI413.out)) | exact HB.out)); rintro e w7 ⟨rfl, hi, hb, hk⟩; refine ⟨_, rfl, ?_⟩; have n0_ := Aside0.mk (hb); have n1_ := Aside0.mk (hi); clear HB; clear HI413; have HB := n0_; have HI413 := n1_; clear n0_ n1_; (try clear hb); (try clear hb2); (try clear hk); (try clear hi)))
  go_loopg [9] k (fun kq v9 w' => ∃ (x9_1 : Int), v9 = .int .i64 x9_1 ∧ Aside0 (spec_RunSteps.l0 kq a1 l2 x9_1 l0_0 l0_1 = some (r1, r2)) ∧ Aside0 (kq ≤ k) ∧ Aside0 (IsS28 w w' gb413 l0_0 l0_1) ∧ Aside0 (Below w.heap.size w w'))
  case atStart => exact ⟨(0), (by first | rfl | (simp; done) | (simp [*]; done)), H', ⟨Nat.le_refl _⟩, ⟨by repeat (first | (with_reducible first | exact HI413.out | apply IsS28.alloc | apply IsS28.drewN | apply IsS28.drew) | exact HI413.out)⟩, ⟨by repeat (first | (with_reducible first | exact HB.out | apply below_alloc | apply pw_below_drewN | apply below_drew1 | refine below_set ?_ (IsS28.ge HI413.out)) | exact HB.out)⟩⟩
  case round =>
   clear H'
   try clear c2
   try clear p2
   try clear c3
   try clear c5
   try clear c5b0
   try clear c5b1
   obtain ⟨x9_1, rfl, HA, HK1, HI413, HB⟩ := hrel
   cases gk with
   | zero => exact absurd HA.out (by simp [spec_RunSteps.l0])
   | succ k1 =>
    have H := HA.out
    clear HA
    simp only [spec_RunSteps.l0] at H
    by_cases c8 : x9_1 < (l2.length : Int)
    ·rw [if_pos c8] at H
     have c8b0 : decide (x9_1 < (l2.length : Int)) = true := decide_eq_true c8
     clear c8
     by_cases c9 : 0 ≤ x9_1
     ·rw [if_pos c9] at H
      have c9b0 : decide (0 ≤ x9_1) = true := decide_eq_true c9
      clear c9
      replace H := Option.bind_eq_some_iff.mp H
      obtain ⟨t416, A100, H⟩ := H
      replace H : (if t416 = true then (spec_RunSteps.l0 k1 a1 l2 (wrap64 (x9_1 + 1)) l0_0 l0_1) else (some ((⟨#[]⟩ : ByteArray), 2))) = some (r1, r2) := H
      have A10 := Aside0.mk A100
      clear A100
      by_cases c11 : t416 = true
      ·subst c11
       have H1 : (spec_RunSteps.l0 k1 a1 l2 (wrap64 (x9_1 + 1)) l0_0 l0_1) = some (r1, r2) := by rw [if_pos rfl] at H; exact H
       clear H
       have H := H1
       clear H1
       have H' := Aside0.mk H
       clear H
       have p415 : 0 ≤ (x9_1 : Int) := od_
       have q415 : x9_1 < (l2.length : Int) := od_
       obtain ⟨ad415, e415, hx415_0⟩ := Kd.at_int HR2.out x9_1 p415 q415
       cases e415
       replace hx415_0 := cq_ HB hx415_0
       replace p415 := eq_true p415
       replace q415 := eq_true q415
       go_wp2_with (first | ((with_reducible refine gate_callee (f := 63) rfl ?_); refine goesL_ (some 31) rfl rfl Try.func63 (by kernel_rfl) rfl #[.int .i64 (rd l2 x9_1), .int .i64 0, .int .i64 (wrap64 ((a1.size : Int) - 1))] rfl ln_ ?_; (with_reducible refine (spec_l00In.calls (rd l2 x9_1) 0 (wrap64 ((a1.size : Int) - 1)) true _ A10.out).mono ?_); rintro e w' ⟨rfl, ⟨nd, rfl⟩⟩; refine ⟨_, rfl, ?_⟩))
       go_roundg k1
       case measure => have := HK1.out; omega
       case rel => exact ⟨(wrap64 (x9_1 + 1)), (by first | rfl | (simp; done) | (simp [*]; done)), H', ⟨by have := HK1.out; omega⟩, ⟨by repeat (first | (with_reducible first | exact HI413.out | apply IsS28.alloc | apply IsS28.drewN | apply IsS28.drew) | exact HI413.out)⟩, ⟨by repeat (first | (with_reducible first | exact HB.out | apply below_alloc | apply pw_below_drewN | apply below_drew1 | refine below_set ?_ (IsS28.ge HI413.out)) | exact HB.out)⟩⟩
      ·replace c11 := Bool.eq_false_iff.mpr c11
       subst c11
       have H1 : (some ((⟨#[]⟩ : ByteArray), 2)) = some (r1, r2) := by rw [if_neg (show ¬ (false = true) by decide)] at H; exact H
       clear H
       have H := H1
       clear H1
       simp only [Option.some.injEq, Prod.mk.injEq] at H
       obtain ⟨rfl, rfl⟩ := H
       have p415 : 0 ≤ (x9_1 : Int) := od_
       have q415 : x9_1 < (l2.length : Int) := od_
       obtain ⟨ad415, e415, hx415_0⟩ := Kd.at_int HR2.out x9_1 p415 q415
       cases e415
       replace hx415_0 := cq_ HB hx415_0
       replace p415 := eq_true p415
       replace q415 := eq_true q415
       go_wp2_with (first | ((with_reducible refine gate_callee (f := 63) rfl ?_); refine goesL_ (some 31) rfl rfl Try.func63 (by kernel_rfl) rfl #[.int .i64 (rd l2 x9_1), .int .i64 0, .int .i64 (wrap64 ((a1.size : Int) - 1))] rfl ln_ ?_; (with_reducible refine (spec_l00In.calls (rd l2 x9_1) 0 (wrap64 ((a1.size : Int) - 1)) false _ A10.out).mono ?_); rintro e w' ⟨rfl, ⟨nd, rfl⟩⟩; refine ⟨_, rfl, ?_⟩))
       go_ret2
       exact ⟨ew_, by repeat (first | (with_reducible first | exact HB.out | apply below_alloc | apply pw_below_drewN | apply below_drew1 | refine below_set ?_ (IsS28.ge HI413.out)) | exact HB.out)⟩
     ·rw [if_neg c9] at H
      exact absurd H (by simp)
    ·rw [if_neg c8] at H
     have c8b0 : decide (x9_1 < (l2.length : Int)) = false := decide_eq_false c8
     clear c8
     by_cases c12 : (l2.length : Int) > 60
     ·rw [if_pos c12] at H
      have c12b0 : decide (60 < (l2.length : Int)) = true := decide_eq_true c12
      have c12b1 : decide (60 < l2.length) = true := decide_eq_true (by omega)
      clear c12
      simp only [Option.some.injEq, Prod.mk.injEq] at H
      obtain ⟨rfl, rfl⟩ := H
      go_wp2
      go_ret2
      exact ⟨ew_, by repeat (first | (with_reducible first | exact HB.out | apply below_alloc | apply pw_below_drewN | apply below_drew1 | refine below_set ?_ (IsS28.ge HI413.out)) | exact HB.out)⟩
     ·rw [if_neg c12] at H
      have c12b0 : decide (60 < (l2.length : Int)) = false := decide_eq_false c12
      have c12b1 : decide (60 < l2.length) = false := decide_eq_false (by omega)
      clear c12
      have H' := Aside0.mk H
      clear H
      go_wp2
      go_loopg [1, 10] k1 (fun kq v1 v10 w' => ∃ (x1_2 : ByteArray) (x10_2 : Int), v1 = .string x1_2 ∧ v10 = .int .i64 x10_2 ∧ Aside0 (spec_RunSteps.l1 kq x1_2 l2 x10_2 l0_0 l0_1 = some (r1, r2)) ∧ Aside0 (kq ≤ k1) ∧ Aside0 (IsS28 w w' gb413 l0_0 l0_1) ∧ Aside0 (Below w.heap.size w w'))
      case atStart => exact ⟨(a1), (0), (by first | rfl | (simp; done) | (simp [*]; done)), (by first | rfl | (simp; done) | (simp [*]; done)), H', ⟨Nat.le_refl _⟩, ⟨by repeat (first | (with_reducible first | exact HI413.out | apply IsS28.alloc | apply IsS28.drewN | apply IsS28.drew) | exact HI413.out)⟩, ⟨by repeat (first | (with_reducible first | exact HB.out | apply below_alloc | apply pw_below_drewN | apply below_drew1 | refine below_set ?_ (IsS28.ge HI413.out)) | exact HB.out)⟩⟩
      case round =>
       clear H'
       try clear c1
       try clear c2
       try clear p2
       try clear c3
       try clear p4
       try clear q4
       try clear hx4
       try clear c5
       try clear c5b0
       try clear c5b1
       try clear c6
       try clear p6
       try clear c8
       try clear c8b0
       try clear c9
       try clear c9b0
       try clear c11
       try clear c12
       try clear c12b0
       try clear c12b1
       try clear hx415_0
       try clear p2
       try clear p415
       try clear q415
       obtain ⟨x1_2, x10_2, rfl, rfl, HA, HK2, HI413, HB⟩ := hrel
       cases gk with
       | zero => exact absurd HA.out (by simp [spec_RunSteps.l1])
       | succ k2 =>
        have H := HA.out
        clear HA
        simp only [spec_RunSteps.l1] at H
        by_cases c13 : x10_2 < (l2.length : Int)
        ·rw [if_pos c13] at H
         have c13b0 : decide (x10_2 < (l2.length : Int)) = true := decide_eq_true c13
         clear c13
         by_cases c14 : 0 ≤ x10_2
         ·rw [if_pos c14] at H
          have c14b0 : decide (0 ≤ x10_2) = true := decide_eq_true c14
          clear c14
          replace H := Option.bind_eq_some_iff.mp H
          obtain ⟨⟨t418, t419⟩, A150, H⟩ := H
          replace H : (if t419 = 0 then (spec_RunSteps.l1 k2 t418 l2 (wrap64 (x10_2 + 1)) l0_0 l0_1) else (some ((⟨#[]⟩ : ByteArray), t419))) = some (r1, r2) := H
          have A15 := Aside0.mk A150
          clear A150
          by_cases c16 : t419 = 0
          ·rw [if_pos c16] at H
           have c16b0 : (t419 == 0) = true := beq_iff_eq.mpr c16
           have c16b1 : (t419 != 0) = false := bne_eq_false_iff_eq.mpr c16
           clear c16
           have H' := Aside0.mk H
           clear H
           have p417 : 0 ≤ (x10_2 : Int) := od_
           have q417 : x10_2 < (l2.length : Int) := od_
           obtain ⟨ad417, e417, hx417_0⟩ := Kd.at_int HR2.out x10_2 p417 q417
           cases e417
           replace hx417_0 := cq_ HB hx417_0
           replace p417 := eq_true p417
           replace q417 := eq_true q417
           go_wp2_with (first | ((with_reducible refine gate_callee (f := 64) rfl ?_); refine goesL_ (some 48) rfl rfl Try.func64 (by kernel_rfl) rfl #[.pointer (some ⟨gb413, 0, none⟩), .string x1_2, .int .i64 (rd l2 x10_2)] rfl ln_ ?_; (with_reducible refine (spec_l20Change.calls k2 gb413 l0_0 l0_1 x1_2 (rd l2 x10_2) t418 t419 w _ ?side1 ?side2 A15.out).mono ?_); (case side1 => repeat (first | (with_reducible first | exact HI413.out | apply IsS28.alloc | apply IsS28.drewN | apply IsS28.drew) | exact HI413.out)); (case side2 => repeat (first | (with_reducible first | exact HB.out | apply below_alloc | apply pw_below_drewN | apply below_drew1 | refine below_set ?_ (IsS28.ge HI413.out)) | exact HB.out)); rintro e w17 ⟨rfl, hi, hb, hk⟩; refine ⟨_, rfl, ?_⟩; have n0_ := Aside0.mk (hb); have n1_ := Aside0.mk (hi); clear HB; clear HI413; have HB := n0_; have HI413 := n1_; clear n0_ n1_; (try clear hb); (try clear hb2); (try clear hk); (try clear hi)))
           go_roundg k2
           case measure => have := HK1.out; have := HK2.out; omega
           case rel => exact ⟨(t418), (wrap64 (x10_2 + 1)), (by first | rfl | (simp; done) | (simp [*]; done)), (by first | rfl | (simp; done) | (simp [*]; done)), H', ⟨by have := HK1.out; have := HK2.out; omega⟩, ⟨by repeat (first | (with_reducible first | exact HI413.out | apply IsS28.alloc | apply IsS28.drewN | apply IsS28.drew) | exact HI413.out)⟩, ⟨by repeat (first | (with_reducible first | exact HB.out | apply below_alloc | apply pw_below_drewN | apply below_drew1 | refine below_set ?_ (IsS28.ge HI413.out)) | exact HB.out)⟩⟩
          ·rw [if_neg c16] at H
           have c16b0 : (t419 == 0) = false := beq_eq_false_iff_ne.mpr c16
           have c16b1 : (t419 != 0) = true := bne_iff_ne.mpr c16
           simp only [Option.some.injEq, Prod.mk.injEq] at H
           obtain ⟨rfl, rfl⟩ := H
           have p417 : 0 ≤ (x10_2 : Int) := od_
           have q417 : x10_2 < (l2.length : Int) := od_
           obtain ⟨ad417, e417, hx417_0⟩ := Kd.at_int HR2.out x10_2 p417 q417
           cases e417
           replace hx417_0 := cq_ HB hx417_0
           replace p417 := eq_true p417
           replace q417 := eq_true q417
           go_wp2_with (first | ((with_reducible refine gate_callee (f := 64) rfl ?_); refine goesL_ (some 48) rfl rfl Try.func64 (by kernel_rfl) rfl #[.pointer (some ⟨gb413, 0, none⟩), .string x1_2, .int .i64 (rd l2 x10_2)] rfl ln_ ?_; (with_reducible refine (spec_l20Change.calls k2 gb413 l0_0 l0_1 x1_2 (rd l2 x10_2) t418 t419 w _ ?side1 ?side2 A15.out).mono ?_); (case side1 => repeat (first | (with_reducible first | exact HI413.out | apply IsS28.alloc | apply IsS28.drewN | apply IsS28.drew) | exact HI413.out)); (case side2 => repeat (first | (with_reducible first | exact HB.out | apply below_alloc | apply pw_below_drewN | apply below_drew1 | refine below_set ?_ (IsS28.ge HI413.out)) | exact HB.out)); rintro e w18 ⟨rfl, hi, hb, hk⟩; refine ⟨_, rfl, ?_⟩; have n0_ := Aside0.mk (hb); have n1_ := Aside0.mk (hi); clear HB; clear HI413; have HB := n0_; have HI413 := n1_; clear n0_ n1_; (try clear hb); (try clear hb2); (try clear hk); (try clear hi)))
           go_ret2
           exact ⟨ew_, by repeat (first | (with_reducible first | exact HB.out | apply below_alloc | apply pw_below_drewN | apply below_drew1 | refine below_set ?_ (IsS28.ge HI413.out)) | exact HB.out)⟩
         ·rw [if_neg c14] at H
          exact absurd H (by simp)
        ·rw [if_neg c13] at H
         have c13b0 : decide (x10_2 < (l2.length : Int)) = false := decide_eq_false c13
         clear c13
         simp only [Option.some.injEq, Prod.mk.injEq] at H
         obtain ⟨rfl, rfl⟩ := H
         go_wp2
         go_ret2
         exact ⟨ew_, by repeat (first | (with_reducible first | exact HB.out | apply below_alloc | apply pw_below_drewN | apply below_drew1 | refine below_set ?_ (IsS28.ge HI413.out)) | exact HB.out)⟩
 ·rw [if_neg c5] at H
  have c5b0 : (t414 == 0) = false := beq_eq_false_iff_ne.mpr c5
  have c5b1 : (t414 != 0) = true := bne_iff_ne.mpr c5
  simp only [Option.some.injEq, Prod.mk.injEq] at H
  obtain ⟨rfl, rfl⟩ := H
  go_enter Try.func32, Try.ntmps32
  go_wp2_with (first | ((with_reducible refine gate_dst (N := 3) rfl ?_); refine box_event ?hg (N := 3) ?hd (cs := #[.slice A0_0 l0_0.length c0_0, .slice A0_1 l0_1.length c0_1]) (t := 28) ?hr ?_; (case hd => rfl); (case hg => rfl); (case hr => first | (go_simp; done) | (go_simp; rfl)); intro gb413 hg w19 hbox hb; have n0_ := Aside0.mk (below_step hb_ hb); have n1_ := Aside0.mk ((show IsS28 w _ gb413 l0_0 l0_1 from ⟨_, _, _, _, hbox, (by rw [hg]; exact (below_size hb_) : w.heap.size ≤ gb413), HR0_0.out, HR0_1.out⟩)); have n2_ := Aside0.mk ((by rw [hg]; exact (below_size hb_) : w.heap.size ≤ gb413)); have n3_ := Aside0.mk ((by rw [hg]; exact (below_size hb_) : w.heap.size ≤ gb413)); clear HB; have HB := n0_; have HI413 := n1_; have GW413 := n2_; have GE413 := n3_; clear n0_ n1_ n2_ n3_; clear hb hbox hg) | ((with_reducible refine gate_callee (f := 56) rfl ?_); refine goesL_ (some 14) rfl rfl Try.func56 (by kernel_rfl) rfl #[.pointer (some ⟨gb413, 0, none⟩), .string a1] rfl ln_ ?_; (with_reducible refine (spec_l20Code.calls k gb413 l0_0 l0_1 a1 t414 w _ ?side1 ?side2 A4.out).mono ?_); (case side1 => repeat (first | (with_reducible first | exact HI413.out | apply IsS28.alloc | apply IsS28.drewN | apply IsS28.drew) | exact HI413.out)); (case side2 => repeat (first | (with_reducible first | exact HB.out | apply below_alloc | apply pw_below_drewN | apply below_drew1 | refine below_set ?_ (IsS28.ge HI413.out)) | exact HB.out)); rintro e w20 ⟨rfl, hi, hb, hk⟩; refine ⟨_, rfl, ?_⟩; have n0_ := Aside0.mk (hb); have n1_ := Aside0.mk (hi); clear HB; clear HI413; have HB := n0_; have HI413 := n1_; clear n0_ n1_; (try clear hb); (try clear hb2); (try clear hk); (try clear hi)))
  go_ret2
  exact ⟨ew_, by repeat (first | (with_reducible first | exact HB.out | apply below_alloc | apply pw_below_drewN | apply below_drew1 | refine below_set ?_ (IsS28.ge HI413.out)) | exact HB.out)⟩

/-! ### laws_FnExactRunSteps: function 8 -/
def laws_FnExactRunSteps.j0 : Nat → List Int → List Int → Bool → List Int → List (List Int) → List Int → List (List Int) → Option (Bool)
 | 0, _, _, _, _, _, _, _ => none
 | k + 1, x2, x11, x52, x421000, x421001, x440000, x440001 => if x52 = true then (some false) else ((laws_toDeck.f k x421000 x421001).bind fun bt445 => ((laws_eqDeck.f k x440000 x440001 bt445.1 bt445.2).bind fun t451 => (if t451 = true then ((laws_toInt64S.f k x2).bind fun t452 => ((laws_eqInt64S.f k x11 t452).bind fun t455 => (if t455 = true then (some true) else (some false)))) else (some false))))
def laws_FnExactRunSteps.f (k : Nat) (l0_0 : List Int) (l0_1 : List (List Int)) (a1 : ByteArray) (l2 : List Int) : Option (Bool) := if (a1.size : Int) > 1048576 then (some true) else (if (l2.length : Int) > 1048576 then (some true) else ((laws_szDeck.f k l0_0 l0_1 1048576).bind fun t421 => (if t421 < 0 then (some true) else ((laws_toDeck.f k l0_0 l0_1).bind fun bt422 => ((laws_toInt64S.f k l2).bind fun t428 => ((spec_RunSteps.f k bt422.1 bt422.2 a1 t428).bind fun bt431 => ((laws_toDeck.f k l0_0 l0_1).bind fun bt433 => ((laws_toInt64S.f k l2).bind fun t440 => ((impl_RunSteps.f k bt433.1 bt433.2 a1 t440).bind fun bt443 => (if bt443.1.toList = bt431.1.toList then (laws_FnExactRunSteps.j0 k l2 t440 (bt443.2 != bt431.2) l0_0 l0_1 bt433.1 bt433.2) else (laws_FnExactRunSteps.j0 k l2 t440 true l0_0 l0_1 bt433.1 bt433.2)))))))))))
set_option maxHeartbeats 8000000 in
set_option maxRecDepth 100000 in
theorem laws_FnExactRunSteps.calls (k : Nat) (A0_0 : Option Addr) (c0_0 : Nat) (l0_0 : List Int) (A0_1 : Option Addr) (c0_1 : Nat) (l0_1 : List (List Int)) (a1 : ByteArray) (A2 : Option Addr) (c2 : Nat) (l2 : List Int) (r : Bool) (w : World) (hr0_0 : Kd.C (Kd.int .i64) w A0_0 l0_0.length l0_0) (hc0_0 : l0_0.length ≤ c0_0) (hr0_1 : Kd.C (Kd.slice 2 (Kd.int .i64)) w A0_1 l0_1.length l0_1) (hc0_1 : l0_1.length ≤ c0_1) (hr2 : Kd.C (Kd.int .i64) w A2 l2.length l2) (hc2 : l2.length ≤ c2) (h : laws_FnExactRunSteps.f k l0_0 l0_1 a1 l2 = some r) :
  Calls Try.prog 8 #[.agg #[.slice A0_0 l0_0.length c0_0, .slice A0_1 l0_1.length c0_1], .string a1, .slice A2 l2.length c2] w fun e w' => e = .returned (.bool r) ∧ Below w.heap.size w w' := by
 have hu25 := Try.underlying25
 have hu28 := Try.underlying28
 have HR0_0 := Aside0.mk hr0_0
 have HC0_0 := Aside0.mk hc0_0
 clear hr0_0 hc0_0
 have HR0_1 := Aside0.mk hr0_1
 have HC0_1 := Aside0.mk hc0_1
 clear hr0_1 hc0_1
 have HR2 := Aside0.mk hr2
 have HC2 := Aside0.mk hc2
 clear hr2 hc2
 have HB := Aside0.mk (Below.refl w.heap.size w)
 have H : (if (a1.size : Int) > 1048576 then (some true) else (if (l2.length : Int) > 1048576 then (some true) else ((laws_szDeck.f k l0_0 l0_1 1048576).bind fun t421 => (if t421 < 0 then (some true) else ((laws_toDeck.f k l0_0 l0_1).bind fun bt422 => ((laws_toInt64S.f k l2).bind fun t428 => ((spec_RunSteps.f k bt422.1 bt422.2 a1 t428).bind fun bt431 => ((laws_toDeck.f k l0_0 l0_1).bind fun bt433 => ((laws_toInt64S.f k l2).bind fun t440 => ((impl_RunSteps.f k bt433.1 bt433.2 a1 t440).bind fun bt443 => (if bt443.1.toList = bt431.1.toList then (laws_FnExactRunSteps.j0 k l2 t440 (bt443.2 != bt431.2) l0_0 l0_1 bt433.1 bt433.2) else (laws_FnExactRunSteps.j0 k l2 t440 true l0_0 l0_1 bt433.1 bt433.2)))))))))))) = some r := h
 clear h
 by_cases c4 : (a1.size : Int) > 1048576
 ·rw [if_pos c4] at H
  have c4b0 : decide (1048576 < (a1.size : Int)) = true := decide_eq_true c4
  have c4b1 : decide (1048576 < a1.size) = true := decide_eq_true (by omega)
  clear c4
  obtain rfl := Option.some.inj H
  go_enter Try.func8, Try.ntmps8
  go_wp2_with (first | ((with_reducible refine gate_dst (N := 3) rfl ?_); refine box_event ?hg (N := 3) ?hd (cs := #[.slice A0_0 l0_0.length c0_0, .slice A0_1 l0_1.length c0_1]) (t := 25) ?hr ?_; (case hd => rfl); (case hg => rfl); (case hr => first | (go_simp; done) | (go_simp; rfl)); intro gb420 hg w5 hbox hb; have n0_ := Aside0.mk (below_step hb_ hb); have n1_ := Aside0.mk (hbox); have n2_ := Aside0.mk ((by rw [hg]; exact (below_size hb_) : w.heap.size ≤ gb420)); have n3_ := Aside0.mk ((by rw [hg]; exact (below_size hb_) : w.heap.size ≤ gb420)); clear HB; have HB := n0_; have BK420 := n1_; have GW420 := n2_; have GE420 := n3_; clear n0_ n1_ n2_ n3_; clear hb hbox hg))
  go_ret
  exact ⟨ew_, (hg_ GE420)⟩
 ·rw [if_neg c4] at H
  have c4b0 : decide (1048576 < (a1.size : Int)) = false := decide_eq_false c4
  have c4b1 : decide (1048576 < a1.size) = false := decide_eq_false (by omega)
  clear c4
  by_cases c6 : (l2.length : Int) > 1048576
  ·rw [if_pos c6] at H
   have c6b0 : decide (1048576 < (l2.length : Int)) = true := decide_eq_true c6
   have c6b1 : decide (1048576 < l2.length) = true := decide_eq_true (by omega)
   clear c6
   obtain rfl := Option.some.inj H
   go_enter Try.func8, Try.ntmps8
   go_wp2_with (first | ((with_reducible refine gate_dst (N := 3) rfl ?_); refine box_event ?hg (N := 3) ?hd (cs := #[.slice A0_0 l0_0.length c0_0, .slice A0_1 l0_1.length c0_1]) (t := 25) ?hr ?_; (case hd => rfl); (case hg => rfl); (case hr => first | (go_simp; done) | (go_simp; rfl)); intro gb420 hg w7 hbox hb; have n0_ := Aside0.mk (below_step hb_ hb); have n1_ := Aside0.mk (hbox); have n2_ := Aside0.mk ((by rw [hg]; exact (below_size hb_) : w.heap.size ≤ gb420)); have n3_ := Aside0.mk ((by rw [hg]; exact (below_size hb_) : w.heap.size ≤ gb420)); clear HB; have HB := n0_; have BK420 := n1_; have GW420 := n2_; have GE420 := n3_; clear n0_ n1_ n2_ n3_; clear hb hbox hg))
   go_ret
   exact ⟨ew_, (hg_ GE420)⟩
  ·rw [if_neg c6] at H
   have c6b0 : decide (1048576 < (l2.length : Int)) = false := decide_eq_false c6
   have c6b1 : decide (1048576 < l2.length) = false := decide_eq_false (by omega)
   clear c6
   replace H := Option.bind_eq_some_iff.mp H
   obtain ⟨t421, A80, H⟩ := H
   replace H : (if t421 < 0 then (some true) else ((laws_toDeck.f k l0_0 l0_1).bind fun bt422 => ((laws_toInt64S.f k l2).bind fun t428 => ((spec_RunSteps.f k bt422.1 bt422.2 a1 t428).bind fun bt431 => ((laws_toDeck.f k l0_0 l0_1).bind fun bt433 => ((laws_toInt64S.f k l2).bind fun t440 => ((impl_RunSteps.f k bt433.1 bt433.2 a1 t440).bind fun bt443 => (if bt443.1.toList = bt431.1.toList then (laws_FnExactRunSteps.j0 k l2 t440 (bt443.2 != bt431.2) l0_0 l0_1 bt433.1 bt433.2) else (laws_FnExactRunSteps.j0 k l2 t440 true l0_0 l0_1 bt433.1 bt433.2))))))))) = some r := H
   have A8 := Aside0.mk A80
   clear A80
   by_cases c9 : t421 < 0
   ·rw [if_pos c9] at H
    have c9b0 : decide (t421 < 0) = true := decide_eq_true c9
    clear c9
    obtain rfl := Option.some.inj H
    go_enter Try.func8, Try.ntmps8
    go_wp2_with (first | ((with_reducible refine gate_dst (N := 3) rfl ?_); refine box_event ?hg (N := 3) ?hd (cs := #[.slice A0_0 l0_0.length c0_0, .slice A0_1 l0_1.length c0_1]) (t := 25) ?hr ?_; (case hd => rfl); (case hg => rfl); (case hr => first | (go_simp; done) | (go_simp; rfl)); intro gb420 hg w10 hbox hb; have n0_ := Aside0.mk (below_step hb_ hb); have n1_ := Aside0.mk (hbox); have n2_ := Aside0.mk ((by rw [hg]; exact (below_size hb_) : w.heap.size ≤ gb420)); have n3_ := Aside0.mk ((by rw [hg]; exact (below_size hb_) : w.heap.size ≤ gb420)); clear HB; have HB := n0_; have BK420 := n1_; have GW420 := n2_; have GE420 := n3_; clear n0_ n1_ n2_ n3_; clear hb hbox hg; have hcz11_0 : w10.cell? ⟨gb420, 0, none⟩ = some (.slice A0_0 l0_0.length c0_0) := (blk_cell BK420.out 0).trans rfl; have hcz11_1 : w10.cell? ⟨gb420, 1, none⟩ = some (.slice A0_1 l0_1.length c0_1) := (blk_cell BK420.out 1).trans rfl; have hfz11_0 := blk_frozen BK420.out 0; have hfz11_1 := blk_frozen BK420.out 1) | ((with_reducible refine gate_callee (f := 15) rfl ?_); refine goesL_ (some 22) rfl rfl Try.func15 (by kernel_rfl) rfl #[.agg #[.slice A0_0 l0_0.length c0_0, .slice A0_1 l0_1.length c0_1], .int .i64 1048576] rfl ln_ ?_; (with_reducible refine (laws_szDeck.calls k _ _ l0_0 _ _ l0_1 1048576 t421 _ ?side1 ?side2 ?side3 ?side4 A8.out).mono ?_); (case side1 => exact kc_ (Kd.C_below HR0_0.out HB.out)); (case side2 => exact HC0_0.out); (case side3 => exact kc_ (Kd.C_below HR0_1.out HB.out)); (case side4 => exact HC0_1.out); rintro e w12 ⟨rfl, hb⟩; refine ⟨_, rfl, ?_⟩; have n0_ := Aside0.mk (blk_below (g := gb420) (o := .cells #[.slice A0_0 l0_0.length c0_0, .slice A0_1 l0_1.length c0_1] 25 (0, 0)) (bk_ BK420) hb); have n1_ := Aside0.mk (below_step (hg_ GE420) hb); clear BK420; clear HB; have BK420 := n0_; have HB := n1_; clear n0_ n1_; (try clear hb); (try clear hb2); (try clear hk); (try clear hi)))
    go_ret
    exact ⟨ew_, (hg_ GE420)⟩
   ·rw [if_neg c9] at H
    have c9b0 : decide (t421 < 0) = false := decide_eq_false c9
    clear c9
    replace H := Option.bind_eq_some_iff.mp H
    obtain ⟨⟨t422, t425⟩, A130, H⟩ := H
    replace H : ((laws_toInt64S.f k l2).bind fun t428 => ((spec_RunSteps.f k t422 t425 a1 t428).bind fun bt431 => ((laws_toDeck.f k l0_0 l0_1).bind fun bt433 => ((laws_toInt64S.f k l2).bind fun t440 => ((impl_RunSteps.f k bt433.1 bt433.2 a1 t440).bind fun bt443 => (if bt443.1.toList = bt431.1.toList then (laws_FnExactRunSteps.j0 k l2 t440 (bt443.2 != bt431.2) l0_0 l0_1 bt433.1 bt433.2) else (laws_FnExactRunSteps.j0 k l2 t440 true l0_0 l0_1 bt433.1 bt433.2))))))) = some r := H
    have A13 := Aside0.mk A130
    clear A130
    replace H := Option.bind_eq_some_iff.mp H
    obtain ⟨t428, A140, H⟩ := H
    replace H : ((spec_RunSteps.f k t422 t425 a1 t428).bind fun bt431 => ((laws_toDeck.f k l0_0 l0_1).bind fun bt433 => ((laws_toInt64S.f k l2).bind fun t440 => ((impl_RunSteps.f k bt433.1 bt433.2 a1 t440).bind fun bt443 => (if bt443.1.toList = bt431.1.toList then (laws_FnExactRunSteps.j0 k l2 t440 (bt443.2 != bt431.2) l0_0 l0_1 bt433.1 bt433.2) else (laws_FnExactRunSteps.j0 k l2 t440 true l0_0 l0_1 bt433.1 bt433.2)))))) = some r := H
    have A14 := Aside0.mk A140
    clear A140
    replace H := Option.bind_eq_some_iff.mp H
    obtain ⟨⟨t431, t432⟩, A150, H⟩ := H
    replace H : ((laws_toDeck.f k l0_0 l0_1).bind fun bt433 => ((laws_toInt64S.f k l2).bind fun t440 => ((impl_RunSteps.f k bt433.1 bt433.2 a1 t440).bind fun bt443 => (if bt443.1.toList = t431.toList then (laws_FnExactRunSteps.j0 k l2 t440 (bt443.2 != t432) l0_0 l0_1 bt433.1 bt433.2) else (laws_FnExactRunSteps.j0 k l2 t440 true l0_0 l0_1 bt433.1 bt433.2))))) = some r := H
    have A15 := Aside0.mk A150
    clear A150
    replace H := Option.bind_eq_some_iff.mp H
    obtain ⟨⟨t433, t436⟩, A160, H⟩ := H
    replace H : ((laws_toInt64S.f k l2).bind fun t440 => ((impl_RunSteps.f k t433 t436 a1 t440).bind fun bt443 => (if bt443.1.toList = t431.toList then (laws_FnExactRunSteps.j0 k l2 t440 (bt443.2 != t432) l0_0 l0_1 t433 t436) else (laws_FnExactRunSteps.j0 k l2 t440 true l0_0 l0_1 t433 t436)))) = some r := H
    have A16 := Aside0.mk A160
    clear A160
    replace H := Option.bind_eq_some_iff.mp H
    obtain ⟨t440, A170, H⟩ := H
    replace H : ((impl_RunSteps.f k t433 t436 a1 t440).bind fun bt443 => (if bt443.1.toList = t431.toList then (laws_FnExactRunSteps.j0 k l2 t440 (bt443.2 != t432) l0_0 l0_1 t433 t436) else (laws_FnExactRunSteps.j0 k l2 t440 true l0_0 l0_1 t433 t436))) = some r := H
    have A17 := Aside0.mk A170
    clear A170
    replace H := Option.bind_eq_some_iff.mp H
    obtain ⟨⟨t443, t444⟩, A180, H⟩ := H
    replace H : (if t443.toList = t431.toList then (laws_FnExactRunSteps.j0 k l2 t440 (t444 != t432) l0_0 l0_1 t433 t436) else (laws_FnExactRunSteps.j0 k l2 t440 true l0_0 l0_1 t433 t436)) = some r := H
    have A18 := Aside0.mk A180
    clear A180
    have HC19 := Aside0.mk H
    clear H
    go_enter Try.func8, Try.ntmps8
    go_upto_region 13 with (first | ((with_reducible refine gate_dst (N := 3) rfl ?_); refine box_event ?hg (N := 3) ?hd (cs := #[.slice A0_0 l0_0.length c0_0, .slice A0_1 l0_1.length c0_1]) (t := 25) ?hr ?_; (case hd => rfl); (case hg => rfl); (case hr => first | (go_simp; done) | (go_simp; rfl)); intro gb420 hg w20 hbox hb; have n0_ := Aside0.mk (below_step hb_ hb); have n1_ := Aside0.mk (hbox); have n2_ := Aside0.mk ((by rw [hg]; exact (below_size hb_) : w.heap.size ≤ gb420)); have n3_ := Aside0.mk ((by rw [hg]; exact (below_size hb_) : w.heap.size ≤ gb420)); clear HB; have HB := n0_; have BK420 := n1_; have GW420 := n2_; have GE420 := n3_; clear n0_ n1_ n2_ n3_; clear hb hbox hg; have hcz21_0 : w20.cell? ⟨gb420, 0, none⟩ = some (.slice A0_0 l0_0.length c0_0) := (blk_cell BK420.out 0).trans rfl; have hcz21_1 : w20.cell? ⟨gb420, 1, none⟩ = some (.slice A0_1 l0_1.length c0_1) := (blk_cell BK420.out 1).trans rfl; have hfz21_0 := blk_frozen BK420.out 0; have hfz21_1 := blk_frozen BK420.out 1) | ((with_reducible refine gate_callee (f := 15) rfl ?_); refine goesL_ (some 22) rfl rfl Try.func15 (by kernel_rfl) rfl #[.agg #[.slice A0_0 l0_0.length c0_0, .slice A0_1 l0_1.length c0_1], .int .i64 1048576] rfl ln_ ?_; (with_reducible refine (laws_szDeck.calls k _ _ l0_0 _ _ l0_1 1048576 t421 _ ?side1 ?side2 ?side3 ?side4 A8.out).mono ?_); (case side1 => exact kc_ (Kd.C_below HR0_0.out HB.out)); (case side2 => exact HC0_0.out); (case side3 => exact kc_ (Kd.C_below HR0_1.out HB.out)); (case side4 => exact HC0_1.out); rintro e w22 ⟨rfl, hb⟩; refine ⟨_, rfl, ?_⟩; have n0_ := Aside0.mk (blk_below (g := gb420) (o := .cells #[.slice A0_0 l0_0.length c0_0, .slice A0_1 l0_1.length c0_1] 25 (0, 0)) (bk_ BK420) hb); have n1_ := Aside0.mk (below_step (hg_ GE420) hb); clear BK420; clear HB; have BK420 := n0_; have HB := n1_; clear n0_ n1_; (try clear hb); (try clear hb2); (try clear hk); (try clear hi); have hcz23_0 : w22.cell? ⟨gb420, 0, none⟩ = some (.slice A0_0 l0_0.length c0_0) := (blk_cell BK420.out 0).trans rfl; have hcz23_1 : w22.cell? ⟨gb420, 1, none⟩ = some (.slice A0_1 l0_1.length c0_1) := (blk_cell BK420.out 1).trans rfl; have hfz23_0 := blk_frozen BK420.out 0; have hfz23_1 := blk_frozen BK420.out 1) | ((with_reducible refine gate_callee (f := 17) rfl ?_); refine goesL_ (some 27) rfl rfl Try.func17 (by kernel_rfl) rfl #[.agg #[.slice A0_0 l0_0.length c0_0, .slice A0_1 l0_1.length c0_1]] rfl ln_ ?_; (with_reducible refine (laws_toDeck.calls k _ _ l0_0 _ _ l0_1 t422 t425 _ ?side1 ?side2 ?side3 ?side4 A13.out).mono ?_); (case side1 => exact kc_ (Kd.C_below HR0_0.out HB.out)); (case side2 => exact HC0_0.out); (case side3 => exact kc_ (Kd.C_below HR0_1.out HB.out)); (case side4 => exact HC0_1.out); rintro e w24 ⟨v423, v426, rfl, ho0, ho1, hb⟩; refine ⟨_, rfl, ?_⟩; have n0_ := Aside0.mk (Kd.R_lower ho0 (below_size (hg_ GE420))); have n1_ := Aside0.mk (Kd.S_lower ho1 (below_size (hg_ GE420))); have n2_ := Aside0.mk (blk_below (g := gb420) (o := .cells #[.slice A0_0 l0_0.length c0_0, .slice A0_1 l0_1.length c0_1] 25 (0, 0)) (bk_ BK420) hb); have n3_ := Aside0.mk (below_step (hg_ GE420) hb); clear BK420; clear HB; have HO424 := n0_; have HO427 := n1_; have BK420 := n2_; have HB := n3_; clear n0_ n1_ n2_ n3_; (try clear hb); (try clear hb2); (try clear hk); (try clear hi); (try clear ho0); (try clear ho1)) | ((with_reducible refine gate_callee (f := 33) rfl ?_); refine goesL_ (some 30) rfl rfl Try.func33 (by kernel_rfl) rfl #[.slice A2 l2.length c2] rfl ln_ ?_; (with_reducible refine (laws_toInt64S.calls k _ _ l2 t428 _ ?side1 ?side2 A14.out).mono ?_); (case side1 => exact kc_ (Kd.C_below HR2.out HB.out)); (case side2 => exact HC2.out); rintro e w25 ⟨v429, rfl, ho0, hb⟩; refine ⟨_, rfl, ?_⟩; have n0_ := Aside0.mk (Kd.R_elder' (kr_ HO424) (Kd.R_base ho0) hb); have n1_ := Aside0.mk (Kd.S_elder' (by (with_reducible repeat (first | apply Kd.S_alloc | apply Kd.S_drewN | apply Kd.S_drew)); exact HO427.out) (Kd.R_base ho0) hb); have n2_ := Aside0.mk (Kd.R_lower (Kd.R_new' ho0 (Kd.R_lt (kr_ HO424))) (below_size (hg_ GE420))); have n3_ := Aside0.mk (blk_below (g := gb420) (o := .cells #[.slice A0_0 l0_0.length c0_0, .slice A0_1 l0_1.length c0_1] 25 (0, 0)) (bk_ BK420) hb); have n4_ := Aside0.mk (below_step (hg_ GE420) hb); clear HO424; clear HO427; clear BK420; clear HB; have HO424 := n0_; have HO427 := n1_; have HO430 := n2_; have BK420 := n3_; have HB := n4_; clear n0_ n1_ n2_ n3_ n4_; (try clear hb); (try clear hb2); (try clear hk); (try clear hi); (try clear ho0); obtain ⟨Ao26, co26, eo26⟩ := Kd.R_slice HO424.out; subst eo26; obtain ⟨Ao27, co27, eo27⟩ := Kd.S_slice HO427.out; subst eo27; obtain ⟨Ao28, co28, eo28⟩ := Kd.R_slice HO430.out; subst eo28) | ((with_reducible refine gate_callee (f := 32) rfl ?_); refine goesL_ (some 31) rfl rfl Try.func32 (by kernel_rfl) rfl #[.agg #[.slice Ao26 t422.length co26, .slice Ao27 t425.length co27], .string a1, .slice Ao28 t428.length co28] rfl ln_ ?_; (with_reducible refine (spec_RunSteps.calls k _ _ t422 _ _ t425 a1 _ _ t428 t431 t432 _ ?side1 ?side2 ?side3 ?side4 ?side5 ?side6 A15.out).mono ?_); (case side1 => repeat (first | exact (Kd.R_reads' HO424.out).2.2 | (with_reducible refine Kd.C_alloc ?_ _) | (with_reducible refine Kd.C_drewN ?_ _) | (with_reducible refine Kd.C_drew ?_))); (case side2 => exact (Kd.R_reads' HO424.out).2.1); (case side3 => repeat (first | exact (Kd.S_reads' HO427.out).2.2 | (with_reducible refine Kd.C_alloc ?_ _) | (with_reducible refine Kd.C_drewN ?_ _) | (with_reducible refine Kd.C_drew ?_))); (case side4 => exact (Kd.S_reads' HO427.out).2.1); (case side5 => repeat (first | exact (Kd.R_reads' HO430.out).2.2 | (with_reducible refine Kd.C_alloc ?_ _) | (with_reducible refine Kd.C_drewN ?_ _) | (with_reducible refine Kd.C_drew ?_))); (case side6 => exact (Kd.R_reads' HO430.out).2.1); rintro e w29 ⟨rfl, hb⟩; refine ⟨_, rfl, ?_⟩; have n0_ := Aside0.mk (Kd.R_below (kr_ HO424) hb); have n1_ := Aside0.mk (Kd.S_below (by (with_reducible repeat (first | apply Kd.S_alloc | apply Kd.S_drewN | apply Kd.S_drew)); exact HO427.out) hb); have n2_ := Aside0.mk (Kd.R_below (kr_ HO430) hb); have n3_ := Aside0.mk (blk_below (g := gb420) (o := .cells #[.slice A0_0 l0_0.length c0_0, .slice A0_1 l0_1.length c0_1] 25 (0, 0)) (bk_ BK420) hb); have n4_ := Aside0.mk (below_step (hg_ GE420) hb); clear HO424; clear HO427; clear HO430; clear BK420; clear HB; have HO424 := n0_; have HO427 := n1_; have HO430 := n2_; have BK420 := n3_; have HB := n4_; clear n0_ n1_ n2_ n3_ n4_; (try clear hb); (try clear hb2); (try clear hk); (try clear hi); have hcz30_0 : w29.cell? ⟨gb420, 0, none⟩ = some (.slice A0_0 l0_0.length c0_0) := (blk_cell BK420.out 0).trans rfl; have hcz30_1 : w29.cell? ⟨gb420, 1, none⟩ = some (.slice A0_1 l0_1.length c0_1) := (blk_cell BK420.out 1).trans rfl; have hfz30_0 := blk_frozen BK420.out 0; have hfz30_1 := blk_frozen BK420.out 1) | ((with_reducible refine gate_callee (f := 17) rfl ?_); refine goesL_ (some 35) rfl rfl Try.func17 (by kernel_rfl) rfl #[.agg #[.slice A0_0 l0_0.length c0_0, .slice A0_1 l0_1.length c0_1]] rfl ln_ ?_; (with_reducible refine (laws_toDeck.calls k _ _ l0_0 _ _ l0_1 t433 t436 _ ?side1 ?side2 ?side3 ?side4 A16.out).mono ?_); (case side1 => exact kc_ (Kd.C_below HR0_0.out HB.out)); (case side2 => exact HC0_0.out); (case side3 => exact kc_ (Kd.C_below HR0_1.out HB.out)); (case side4 => exact HC0_1.out); rintro e w31 ⟨v434, v437, rfl, ho0, ho1, hb⟩; refine ⟨_, rfl, ?_⟩; have n0_ := Aside0.mk (Kd.R_elder' (kr_ HO424) (Kd.R_base ho0) hb); have n1_ := Aside0.mk (Kd.S_mono (Kd.S_told (Kd.S_told (Kd.S_old (by (with_reducible repeat (first | apply Kd.S_alloc | apply Kd.S_drewN | apply Kd.S_drew)); exact HO427.out) hb) (Kd.R_base ho0)) (Kd.S_base ho1)) (fun _ h_ => h_.1)); have n2_ := Aside0.mk (Kd.R_elder' (kr_ HO430) (Kd.R_base ho0) hb); have n3_ := Aside0.mk (Kd.R_lower (Kd.R_new' (Kd.R_new' ho0 (Kd.R_lt (kr_ HO424))) (Kd.R_lt (kr_ HO430))) (below_size (hg_ GE420))); have n4_ := Aside0.mk (Kd.S_lower (Kd.S_new' (Kd.S_new' (Kd.S_new' ho1 (Kd.R_lt (kr_ HO424))) (Kd.S_lt (by (with_reducible repeat (first | apply Kd.S_alloc | apply Kd.S_drewN | apply Kd.S_drew)); exact HO427.out))) (Kd.R_lt (kr_ HO430))) (below_size (hg_ GE420))); have n5_ := Aside0.mk (blk_below (g := gb420) (o := .cells #[.slice A0_0 l0_0.length c0_0, .slice A0_1 l0_1.length c0_1] 25 (0, 0)) (bk_ BK420) hb); have n6_ := Aside0.mk (below_step (hg_ GE420) hb); clear HO424; clear HO427; clear HO430; clear BK420; clear HB; have HO424 := n0_; have HO427 := n1_; have HO430 := n2_; have HO435 := n3_; have HO438 := n4_; have BK420 := n5_; have HB := n6_; clear n0_ n1_ n2_ n3_ n4_ n5_ n6_; (try clear hb); (try clear hb2); (try clear hk); (try clear hi); (try clear ho0); (try clear ho1)) | ((with_reducible refine gate_dst (N := 10) rfl ?_); refine box_event ?hg (N := 10) ?hd (cs := #[.slice none 0 0, .slice none 0 0]) (t := 28) ?hr ?_; (case hd => rfl); (case hg => rfl); (case hr => first | (go_simp; done) | (go_simp; rfl)); intro gb439 hg w32 hbox hb; have n0_ := Aside0.mk (Kd.R_below (kr_ HO424) hb); have n1_ := Aside0.mk (Kd.S_below (by (with_reducible repeat (first | apply Kd.S_alloc | apply Kd.S_drewN | apply Kd.S_drew)); exact HO427.out) hb); have n2_ := Aside0.mk (Kd.R_below (kr_ HO430) hb); have n3_ := Aside0.mk (Kd.R_below (kr_ HO435) hb); have n4_ := Aside0.mk (Kd.S_below (by (with_reducible repeat (first | apply Kd.S_alloc | apply Kd.S_drewN | apply Kd.S_drew)); exact HO438.out) hb); have n5_ := Aside0.mk (blk_below (g := gb420) (o := .cells #[.slice A0_0 l0_0.length c0_0, .slice A0_1 l0_1.length c0_1] 25 (0, 0)) (bk_ BK420) hb); have n6_ := Aside0.mk (below_step (hg_ GE420) hb); have n7_ := Aside0.mk (hbox); have n8_ := Aside0.mk ((by rw [hg]; exact (below_size (hg_ GE420)) : w.heap.size ≤ gb439)); have n9_ := Aside0.mk ((by rw [hg]; exact (below_size (hg_ GE420)) : w.heap.size ≤ gb439)); have n10_ := Aside0.mk ((by rw [hg]; exact Nat.ne_of_lt (blk_lt (g := gb420) (o := .cells #[.slice A0_0 l0_0.length c0_0, .slice A0_1 l0_1.length c0_1] 25 (0, 0)) (bk_ BK420)) : gb420 ≠ gb439)); have n11_ := Aside0.mk ((by rw [hg]; exact Nat.ne_of_gt (blk_lt (g := gb420) (o := .cells #[.slice A0_0 l0_0.length c0_0, .slice A0_1 l0_1.length c0_1] 25 (0, 0)) (bk_ BK420)) : gb439 ≠ gb420)); clear HO424; clear HO427; clear HO430; clear HO435; clear HO438; clear BK420; clear HB; have HO424 := n0_; have HO427 := n1_; have HO430 := n2_; have HO435 := n3_; have HO438 := n4_; have BK420 := n5_; have HB := n6_; have BK439 := n7_; have GW439 := n8_; have GE439 := n9_; have NB420_439 := n10_; have NB439_420 := n11_; clear n0_ n1_ n2_ n3_ n4_ n5_ n6_ n7_ n8_ n9_ n10_ n11_; clear hb hbox hg; obtain ⟨Ao33, co33, eo33⟩ := Kd.R_slice HO435.out; subst eo33; have hnb34 := NB439_420.out; have hnc34 := NB420_439.out; have hcz35_0 : w32.cell? ⟨gb439, 0, none⟩ = some (.slice none 0 0) := (blk_cell BK439.out 0).trans rfl; have hcz35_1 : w32.cell? ⟨gb439, 1, none⟩ = some (.slice none 0 0) := (blk_cell BK439.out 1).trans rfl; have hfz35_0 := blk_frozen BK439.out 0; have hfz35_1 := blk_frozen BK439.out 1; obtain ⟨Ao36, co36, eo36⟩ := Kd.S_slice HO438.out; subst eo36) | ((with_reducible refine gate_callee (f := 33) rfl ?_); refine goesL_ (some 37) rfl rfl Try.func33 (by kernel_rfl) rfl #[.slice A2 l2.length c2] rfl ln_ ?_; (with_reducible refine (laws_toInt64S.calls k _ _ l2 t440 _ ?side1 ?side2 A17.out).mono ?_); (case side1 => exact Kd.C_below HR2.out (hg2_ GE420 GE439)); (case side2 => exact HC2.out); rintro e w37 ⟨v441, rfl, ho0, hb⟩; refine ⟨_, rfl, ?_⟩; have n0_ := Aside0.mk (Kd.R_elder' (by (with_reducible repeat (first | apply Kd.R_alloc | apply Kd.R_drewN | apply Kd.R_drew)); exact (Kd.R_mono (Kd.R_far (p := ⟨gb439, 1, none⟩) (Kd.R_far (p := ⟨gb439, 0, none⟩) (Kd.R_types HO424.out BK439.out (by decide)) (fun _ hk => hk.2) (.slice Ao33 t433.length co33)) (fun _ hk => hk.2) (.slice Ao36 t436.length co36)) (fun _ h_ => h_.1))) (Kd.R_base ho0) hb); have n1_ := Aside0.mk (Kd.S_elder' (by (with_reducible repeat (first | apply Kd.S_alloc | apply Kd.S_drewN | apply Kd.S_drew)); exact (Kd.S_mono (Kd.S_far (p := ⟨gb439, 1, none⟩) (Kd.S_far (p := ⟨gb439, 0, none⟩) (Kd.S_types HO427.out BK439.out (by decide)) (fun _ hk => hk.2) (.slice Ao33 t433.length co33)) (fun _ hk => hk.2) (.slice Ao36 t436.length co36)) (fun _ h_ => h_.1))) (Kd.R_base ho0) hb); have n2_ := Aside0.mk (Kd.R_elder' (by (with_reducible repeat (first | apply Kd.R_alloc | apply Kd.R_drewN | apply Kd.R_drew)); exact (Kd.R_mono (Kd.R_far (p := ⟨gb439, 1, none⟩) (Kd.R_far (p := ⟨gb439, 0, none⟩) (Kd.R_types HO430.out BK439.out (by decide)) (fun _ hk => hk.2) (.slice Ao33 t433.length co33)) (fun _ hk => hk.2) (.slice Ao36 t436.length co36)) (fun _ h_ => h_.1))) (Kd.R_base ho0) hb); have n3_ := Aside0.mk (Kd.R_elder' (by (with_reducible repeat (first | apply Kd.R_alloc | apply Kd.R_drewN | apply Kd.R_drew)); exact (Kd.R_mono (Kd.R_far (p := ⟨gb439, 1, none⟩) (Kd.R_far (p := ⟨gb439, 0, none⟩) (Kd.R_types HO435.out BK439.out (by decide)) (fun _ hk => hk.2) (.slice Ao33 t433.length co33)) (fun _ hk => hk.2) (.slice Ao36 t436.length co36)) (fun _ h_ => h_.1))) (Kd.R_base ho0) hb); have n4_ := Aside0.mk (Kd.S_elder' (by (with_reducible repeat (first | apply Kd.S_alloc | apply Kd.S_drewN | apply Kd.S_drew)); exact (Kd.S_mono (Kd.S_far (p := ⟨gb439, 1, none⟩) (Kd.S_far (p := ⟨gb439, 0, none⟩) (Kd.S_types HO438.out BK439.out (by decide)) (fun _ hk => hk.2) (.slice Ao33 t433.length co33)) (fun _ hk => hk.2) (.slice Ao36 t436.length co36)) (fun _ h_ => h_.1))) (Kd.R_base ho0) hb); have n5_ := Aside0.mk (Kd.R_lower (Kd.R_new' (Kd.R_new' (Kd.R_new' ho0 (Kd.R_lt (by (with_reducible repeat (first | apply Kd.R_alloc | apply Kd.R_drewN | apply Kd.R_drew)); exact (Kd.R_mono (Kd.R_far (p := ⟨gb439, 1, none⟩) (Kd.R_far (p := ⟨gb439, 0, none⟩) (Kd.R_types HO424.out BK439.out (by decide)) (fun _ hk => hk.2) (.slice Ao33 t433.length co33)) (fun _ hk => hk.2) (.slice Ao36 t436.length co36)) (fun _ h_ => h_.1))))) (Kd.R_lt (by (with_reducible repeat (first | apply Kd.R_alloc | apply Kd.R_drewN | apply Kd.R_drew)); exact (Kd.R_mono (Kd.R_far (p := ⟨gb439, 1, none⟩) (Kd.R_far (p := ⟨gb439, 0, none⟩) (Kd.R_types HO430.out BK439.out (by decide)) (fun _ hk => hk.2) (.slice Ao33 t433.length co33)) (fun _ hk => hk.2) (.slice Ao36 t436.length co36)) (fun _ h_ => h_.1))))) (Kd.R_lt (by (with_reducible repeat (first | apply Kd.R_alloc | apply Kd.R_drewN | apply Kd.R_drew)); exact (Kd.R_mono (Kd.R_far (p := ⟨gb439, 1, none⟩) (Kd.R_far (p := ⟨gb439, 0, none⟩) (Kd.R_types HO435.out BK439.out (by decide)) (fun _ hk => hk.2) (.slice Ao33 t433.length co33)) (fun _ hk => hk.2) (.slice Ao36 t436.length co36)) (fun _ h_ => h_.1))))) (below_size (hg2_ GE420 GE439))); have n6_ := Aside0.mk (blk_below (g := gb420) (o := .cells #[.slice A0_0 l0_0.length c0_0, .slice A0_1 l0_1.length c0_1] 25 (0, 0)) (by (with_reducible repeat (first | refine blk_drewN ?_ _ | refine blk_drew ?_ | refine blk_alloc ?_ _)); refine blk_far ?_ NB420_439.out _; (with_reducible repeat (first | refine blk_drewN ?_ _ | refine blk_drew ?_ | refine blk_alloc ?_ _)); refine blk_far ?_ NB420_439.out _; (with_reducible repeat (first | refine blk_drewN ?_ _ | refine blk_drew ?_ | refine blk_alloc ?_ _)); exact BK420.out) hb); have n7_ := Aside0.mk (blk_below (g := gb439) (o := .cells #[.slice Ao33 t433.length co33, .slice Ao36 t436.length co36] 28 (0, 0)) (by (with_reducible repeat (first | refine blk_drewN ?_ _ | refine blk_drew ?_ | refine blk_alloc ?_ _)); refine blk_put (cs := #[.slice Ao33 t433.length co33, .slice none 0 0]) ?_ 1 _ rfl; (with_reducible repeat (first | refine blk_drewN ?_ _ | refine blk_drew ?_ | refine blk_alloc ?_ _)); refine blk_put (cs := #[.slice none 0 0, .slice none 0 0]) ?_ 0 _ rfl; (with_reducible repeat (first | refine blk_drewN ?_ _ | refine blk_drew ?_ | refine blk_alloc ?_ _)); exact BK439.out) hb); have n8_ := Aside0.mk (below_step (hg2_ GE420 GE439) hb); clear HO424; clear HO427; clear HO430; clear HO435; clear HO438; clear BK420; clear BK439; clear HB; have HO424 := n0_; have HO427 := n1_; have HO430 := n2_; have HO435 := n3_; have HO438 := n4_; have HO442 := n5_; have BK420 := n6_; have BK439 := n7_; have HB := n8_; clear n0_ n1_ n2_ n3_ n4_ n5_ n6_ n7_ n8_; (try clear hb); (try clear hb2); (try clear hk); (try clear hi); (try clear ho0); have hcz38_0 : w37.cell? ⟨gb439, 0, none⟩ = some (.slice Ao33 t433.length co33) := (blk_cell BK439.out 0).trans rfl; have hcz38_1 : w37.cell? ⟨gb439, 1, none⟩ = some (.slice Ao36 t436.length co36) := (blk_cell BK439.out 1).trans rfl; have hfz38_0 := blk_frozen BK439.out 0; have hfz38_1 := blk_frozen BK439.out 1; obtain ⟨Ao39, co39, eo39⟩ := Kd.R_slice HO442.out; subst eo39) | ((with_reducible refine gate_callee (f := 34) rfl ?_); refine goesL_ (some 42) rfl rfl Try.func34 (by kernel_rfl) rfl #[.agg #[.slice Ao33 t433.length co33, .slice Ao36 t436.length co36], .string a1, .slice Ao39 t440.length co39] rfl ln_ ?_; (with_reducible refine (impl_RunSteps.calls k _ _ t433 _ _ t436 a1 _ _ t440 t443 t444 _ ?side1 ?side2 ?side3 ?side4 ?side5 ?side6 A18.out).mono ?_); (case side1 => repeat (first | exact (Kd.R_reads' HO435.out).2.2 | (with_reducible refine Kd.C_alloc ?_ _) | (with_reducible refine Kd.C_drewN ?_ _) | (with_reducible refine Kd.C_drew ?_))); (case side2 => exact (Kd.R_reads' HO435.out).2.1); (case side3 => repeat (first | exact (Kd.S_reads' HO438.out).2.2 | (with_reducible refine Kd.C_alloc ?_ _) | (with_reducible refine Kd.C_drewN ?_ _) | (with_reducible refine Kd.C_drew ?_))); (case side4 => exact (Kd.S_reads' HO438.out).2.1); (case side5 => repeat (first | exact (Kd.R_reads' HO442.out).2.2 | (with_reducible refine Kd.C_alloc ?_ _) | (with_reducible refine Kd.C_drewN ?_ _) | (with_reducible refine Kd.C_drew ?_))); (case side6 => exact (Kd.R_reads' HO442.out).2.1); rintro e w40 ⟨rfl, hb⟩; refine ⟨_, rfl, ?_⟩; have n0_ := Aside0.mk (Kd.R_below (kr_ HO424) hb); have n1_ := Aside0.mk (Kd.S_below (by (with_reducible repeat (first | apply Kd.S_alloc | apply Kd.S_drewN | apply Kd.S_drew)); exact HO427.out) hb); have n2_ := Aside0.mk (Kd.R_below (kr_ HO430) hb); have n3_ := Aside0.mk (Kd.R_below (kr_ HO435) hb); have n4_ := Aside0.mk (Kd.S_below (by (with_reducible repeat (first | apply Kd.S_alloc | apply Kd.S_drewN | apply Kd.S_drew)); exact HO438.out) hb); have n5_ := Aside0.mk (Kd.R_below (kr_ HO442) hb); have n6_ := Aside0.mk (blk_below (g := gb420) (o := .cells #[.slice A0_0 l0_0.length c0_0, .slice A0_1 l0_1.length c0_1] 25 (0, 0)) (bk_ BK420) hb); have n7_ := Aside0.mk (blk_below (g := gb439) (o := .cells #[.slice Ao33 t433.length co33, .slice Ao36 t436.length co36] 28 (0, 0)) (bk_ BK439) hb); have n8_ := Aside0.mk (below_step (hg2_ GE420 GE439) hb); clear HO424; clear HO427; clear HO430; clear HO435; clear HO438; clear HO442; clear BK420; clear BK439; clear HB; have HO424 := n0_; have HO427 := n1_; have HO430 := n2_; have HO435 := n3_; have HO438 := n4_; have HO442 := n5_; have BK420 := n6_; have BK439 := n7_; have HB := n8_; clear n0_ n1_ n2_ n3_ n4_ n5_ n6_ n7_ n8_; (try clear hb); (try clear hb2); (try clear hk); (try clear hi)))
    (try simp only [Act.put, List.setIfInBounds_toArray, List.set_cons_zero, List.set_cons_succ])
    go_cut [52] (fun v52 wc => ∃ (kq : Nat) (x52_18 : Bool), v52 = .bool x52_18 ∧ Aside0 (laws_FnExactRunSteps.j0 kq l2 t440 x52_18 l0_0 l0_1 t433 t436 = some r) ∧ Aside0 (kq ≤ k) ∧ Aside0 (Kd.R (Kd.int .i64) 2 wc w.heap.size (fun k_ => some k_ ≠ ((.slice Ao33 t433.length co33) : Value).ownBlock) (.slice Ao39 t440.length co39) t440) ∧ Aside0 (Kd.R (Kd.int .i64) 2 wc w.heap.size (fun k_ => some k_ ≠ ((.slice Ao39 t440.length co39) : Value).ownBlock) (.slice Ao33 t433.length co33) t433) ∧ Aside0 (Kd.S (Kd.slice 2 (Kd.int .i64)) 22 wc w.heap.size (fun k_ => some k_ ≠ ((.slice Ao39 t440.length co39) : Value).ownBlock ∧ some k_ ≠ ((.slice Ao33 t433.length co33) : Value).ownBlock) (.slice Ao36 t436.length co36) t436) ∧ Aside0 (wc.heap[gb420]? = some (.cells #[(.slice A0_0 l0_0.length c0_0), (.slice A0_1 l0_1.length c0_1)] 25 (0, 0))) ∧ Aside0 (wc.heap[gb439]? = some (.cells #[(.slice Ao33 t433.length co33), (.slice Ao36 t436.length co36)] 28 (0, 0))) ∧ Aside0 (Below w.heap.size w wc))
    case first =>
     have H := HC19.out
     clear HC19
     by_cases c41 : t443.toList = t431.toList
     ·rw [if_pos c41] at H
      have c41b0 : (t443.toList == t431.toList) = true := beq_iff_eq.mpr c41
      have c41b1 : (t443.toList != t431.toList) = false := bne_eq_false_iff_eq.mpr c41
      clear c41
      (first | rw [c41b0] | (simp only [i64_w, i32_w]; rw [c41b0]) | skip)
      have H' := Aside0.mk H
      clear H
      go_wp2
      go_meet
      case rel => exact ⟨_, ((t444 != t432)), (by first | rfl | (simp; done) | (simp [*]; done)), H', ⟨by first | omega | exact Nat.le_refl _⟩, ⟨by (with_reducible repeat (first | apply Kd.R_alloc | apply Kd.R_drewN | apply Kd.R_drew)); exact Kd.R_mono HO442.out (fun _ hk => hk.2)⟩, ⟨by (with_reducible repeat (first | apply Kd.R_alloc | apply Kd.R_drewN | apply Kd.R_drew)); exact Kd.R_mono HO435.out (fun _ hk => hk.2)⟩, ⟨by (with_reducible repeat (first | apply Kd.S_alloc | apply Kd.S_drewN | apply Kd.S_drew)); exact Kd.S_mono HO438.out (fun _ hk => ⟨hk.2, hk.1.1.1.1⟩)⟩, ⟨by (with_reducible repeat (first | refine blk_drewN ?_ _ | refine blk_drew ?_ | refine blk_alloc ?_ _)); exact BK420.out⟩, ⟨by (with_reducible repeat (first | refine blk_drewN ?_ _ | refine blk_drew ?_ | refine blk_alloc ?_ _)); exact BK439.out⟩, ⟨(hg2_ GE420 GE439)⟩⟩
     ·rw [if_neg c41] at H
      have c41b0 : (t443.toList == t431.toList) = false := beq_eq_false_iff_ne.mpr c41
      have c41b1 : (t443.toList != t431.toList) = true := bne_iff_ne.mpr c41
      (first | rw [c41b0] | (simp only [i64_w, i32_w]; rw [c41b0]) | skip)
      have H' := Aside0.mk H
      clear H
      go_wp2
      go_meet
      case rel => exact ⟨_, (true), (by first | rfl | (simp; done) | (simp [*]; done)), H', ⟨by first | omega | exact Nat.le_refl _⟩, ⟨by (with_reducible repeat (first | apply Kd.R_alloc | apply Kd.R_drewN | apply Kd.R_drew)); exact Kd.R_mono HO442.out (fun _ hk => hk.2)⟩, ⟨by (with_reducible repeat (first | apply Kd.R_alloc | apply Kd.R_drewN | apply Kd.R_drew)); exact Kd.R_mono HO435.out (fun _ hk => hk.2)⟩, ⟨by (with_reducible repeat (first | apply Kd.S_alloc | apply Kd.S_drewN | apply Kd.S_drew)); exact Kd.S_mono HO438.out (fun _ hk => ⟨hk.2, hk.1.1.1.1⟩)⟩, ⟨by (with_reducible repeat (first | refine blk_drewN ?_ _ | refine blk_drew ?_ | refine blk_alloc ?_ _)); exact BK420.out⟩, ⟨by (with_reducible repeat (first | refine blk_drewN ?_ _ | refine blk_drew ?_ | refine blk_alloc ?_ _)); exact BK439.out⟩, ⟨(hg2_ GE420 GE439)⟩⟩
    case rest =>
     clear HC19
     try clear c1
     try clear c2
     try clear p2
     try clear c3
     try clear c4
     try clear c4b0
     try clear c4b1
     try clear c6
     try clear c6b0
     try clear c6b1
     try clear c8
     try clear c9
     try clear c9b0
     try clear c15
     try clear c17
     try clear c32
     try clear c33
     try clear c34
     try clear c41
     try clear c41b0
     try clear c41b1
     try clear hcz11_0
     try clear hcz11_1
     try clear hcz21_0
     try clear hcz21_1
     try clear hcz23_0
     try clear hcz23_1
     try clear hcz30_0
     try clear hcz30_1
     try clear hcz35_0
     try clear hcz35_1
     try clear hcz38_0
     try clear hcz38_1
     try clear hfz11_0
     try clear hfz11_1
     try clear hfz21_0
     try clear hfz21_1
     try clear hfz23_0
     try clear hfz23_1
     try clear hfz30_0
     try clear hfz30_1
     try clear hfz35_0
     try clear hfz35_1
     try clear hfz38_0
     try clear hfz38_1
     obtain ⟨kq, x52_18, rfl, HA, HJ18, HO_11, HO_440000, HO_440001, BK420, BK439, HB⟩ := hcut
     cases kq with
     | zero => exact absurd HA.out (by simp [laws_FnExactRunSteps.j0])
     | succ kj18 =>
      have H := HA.out
      clear HA
      simp only [laws_FnExactRunSteps.j0] at H
      by_cases c42 : x52_18 = true
      ·subst c42
       have H1 : (some false) = some r := by rw [if_pos rfl] at H; exact H
       clear H
       have H := H1
       clear H1
       obtain rfl := Option.some.inj H
       go_wp2
       go_ret
       exact ⟨ew_, (hg2_ GE420 GE439)⟩
      ·replace c42 := Bool.eq_false_iff.mpr c42
       subst c42
       have H1 : ((laws_toDeck.f kj18 l0_0 l0_1).bind fun bt445 => ((laws_eqDeck.f kj18 t433 t436 bt445.1 bt445.2).bind fun t451 => (if t451 = true then ((laws_toInt64S.f kj18 l2).bind fun t452 => ((laws_eqInt64S.f kj18 t440 t452).bind fun t455 => (if t455 = true then (some true) else (some false)))) else (some false)))) = some r := by rw [if_neg (show ¬ (false = true) by decide)] at H; exact H
       clear H
       have H := H1
       clear H1
       replace H := Option.bind_eq_some_iff.mp H
       obtain ⟨⟨t445, t448⟩, A430, H⟩ := H
       replace H : ((laws_eqDeck.f kj18 t433 t436 t445 t448).bind fun t451 => (if t451 = true then ((laws_toInt64S.f kj18 l2).bind fun t452 => ((laws_eqInt64S.f kj18 t440 t452).bind fun t455 => (if t455 = true then (some true) else (some false)))) else (some false))) = some r := H
       have A43 := Aside0.mk A430
       clear A430
       replace H := Option.bind_eq_some_iff.mp H
       obtain ⟨t451, A440, H⟩ := H
       replace H : (if t451 = true then ((laws_toInt64S.f kj18 l2).bind fun t452 => ((laws_eqInt64S.f kj18 t440 t452).bind fun t455 => (if t455 = true then (some true) else (some false)))) else (some false)) = some r := H
       have A44 := Aside0.mk A440
       clear A440
       by_cases c45 : t451 = true
       ·subst c45
        have H1 : ((laws_toInt64S.f kj18 l2).bind fun t452 => ((laws_eqInt64S.f kj18 t440 t452).bind fun t455 => (if t455 = true then (some true) else (some false)))) = some r := by rw [if_pos rfl] at H; exact H
        clear H
        have H := H1
        clear H1
        replace H := Option.bind_eq_some_iff.mp H
        obtain ⟨t452, A460, H⟩ := H
        replace H : ((laws_eqInt64S.f kj18 t440 t452).bind fun t455 => (if t455 = true then (some true) else (some false))) = some r := H
        have A46 := Aside0.mk A460
        clear A460
        replace H := Option.bind_eq_some_iff.mp H
        obtain ⟨t455, A470, H⟩ := H
        replace H : (if t455 = true then (some true) else (some false)) = some r := H
        have A47 := Aside0.mk A470
        clear A470
        by_cases c48 : t455 = true
        ·subst c48
         have H1 : (some true) = some r := by rw [if_pos rfl] at H; exact H
         clear H
         have H := H1
         clear H1
         obtain rfl := Option.some.inj H
         try go_wp2
         have n0_ := Aside0.mk (Kd.R_drew HO_11.out)
         have n1_ := Aside0.mk (Kd.R_drew HO_440000.out)
         have n2_ := Aside0.mk (Kd.S_drew HO_440001.out)
         have n3_ := Aside0.mk (blk_drew BK420.out)
         have n4_ := Aside0.mk (blk_drew BK439.out)
         have n5_ := Aside0.mk (below_drew1 HB.out)
         clear HO_11
         clear HO_440000
         clear HO_440001
         clear BK420
         clear BK439
         clear HB
         have HO_11 := n0_
         have HO_440000 := n1_
         have HO_440001 := n2_
         have BK420 := n3_
         have BK439 := n4_
         have HB := n5_
         clear n0_ n1_ n2_ n3_ n4_ n5_
         refine start_ (n := 5) (S := fun w' => w'.cell? ⟨gb439, 0, none⟩ = some (.slice Ao33 t433.length co33) ∧ w'.cell? ⟨gb439, 1, none⟩ = some (.slice Ao36 t436.length co36) ∧ w'.cell? ⟨gb420, 0, none⟩ = some (.slice A0_0 l0_0.length c0_0) ∧ w'.cell? ⟨gb420, 1, none⟩ = some (.slice A0_1 l0_1.length c0_1)) (ds := []) #[F_,F_,F_,F_,F_] (by kernel_rfl) rfl rfl ⟨(blk_cell BK439.out 0).trans rfl, (blk_cell BK439.out 1).trans rfl, (blk_cell BK420.out 0).trans rfl, (blk_cell BK420.out 1).trans rfl⟩ (fun hHeld => ?_)
         generalize wc.drew = w49 at HO_11 HO_440000 HO_440001 BK420 BK439 HB hHeld ⊢
         refine take_ (i := 0) (N := some 53) (v := ?_) (a' := ?_) #[T_,F_,F_,F_,F_] rfl rfl (by kernel_rfl) (fun _ _ _ h => h) (Or.inl ⟨by rfl, ?_⟩) hHeld ?_ ?_
         rotate_left
         ·rintro w' ⟨s0, s1, s2, s3⟩
          go_simp
          with_reducible rfl
         rotate_left
         ·simp only [Act.put, sT_, s0_, sS_, i64_w, i32_w]
          rfl
         refine take_ (i := 1) (N := some 54) (v := ?_) (a' := ?_) #[T_,T_,F_,F_,F_] rfl rfl (by kernel_rfl) (fun _ _ _ h => h) (Or.inl ⟨by rfl, ?_⟩) hHeld ?_ ?_
         rotate_left
         ·rintro w' ⟨s0, s1, s2, s3⟩
          go_simp
          with_reducible rfl
         rotate_left
         ·simp only [Act.put, sT_, s0_, sS_, i64_w, i32_w]
          rfl
         refine one_ (i := 2) (N := some 55) #[T_,T_,T_,F_,F_] rfl rfl (by kernel_rfl) (by decide) (fun K hK => ?_)
         refine goes_ Try.func17 (by kernel_rfl) rfl #[.agg #[.slice A0_0 l0_0.length c0_0, .slice A0_1 l0_1.length c0_1]] (by rfl) rfl rfl ln_ ?_
         with_reducible refine (laws_toDeck.calls kj18 _ _ l0_0 _ _ l0_1 t445 t448 _ ?side1 ?side2 ?side3 ?side4 A43.out).mono ?_
         (case side1 => exact kc_ (Kd.C_below HR0_0.out HB.out))
         (case side2 => exact HC0_0.out)
         (case side3 => exact kc_ (Kd.C_below HR0_1.out HB.out))
         (case side4 => exact HC0_1.out)
         rintro e w50 ⟨v446, v449, rfl, ho0, ho1, hb⟩
         refine ⟨_, rfl, ?_⟩
         have n0_ := Aside0.mk (Kd.R_elder' (kr_ HO_11) (Kd.R_base ho0) hb)
         have n1_ := Aside0.mk (Kd.R_elder' (kr_ HO_440000) (Kd.R_base ho0) hb)
         have n2_ := Aside0.mk (Kd.S_mono (Kd.S_told (Kd.S_told (Kd.S_old (by (with_reducible repeat (first | apply Kd.S_alloc | apply Kd.S_drewN | apply Kd.S_drew)); exact HO_440001.out) hb) (Kd.R_base ho0)) (Kd.S_base ho1)) (fun _ h_ => h_.1))
         have n3_ := Aside0.mk (Kd.R_lower (Kd.R_new' (Kd.R_new' ho0 (Kd.R_lt (kr_ HO_11))) (Kd.R_lt (kr_ HO_440000))) (below_size (hg2_ GE420 GE439)))
         have n4_ := Aside0.mk (Kd.S_lower (Kd.S_new' (Kd.S_new' (Kd.S_new' ho1 (Kd.R_lt (kr_ HO_11))) (Kd.R_lt (kr_ HO_440000))) (Kd.S_lt (by (with_reducible repeat (first | apply Kd.S_alloc | apply Kd.S_drewN | apply Kd.S_drew)); exact HO_440001.out))) (below_size (hg2_ GE420 GE439)))
         have n5_ := Aside0.mk (blk_below (g := gb420) (o := .cells #[.slice A0_0 l0_0.length c0_0, .slice A0_1 l0_1.length c0_1] 25 (0, 0)) (bk_ BK420) hb)
         have n6_ := Aside0.mk (blk_below (g := gb439) (o := .cells #[.slice Ao33 t433.length co33, .slice Ao36 t436.length co36] 28 (0, 0)) (bk_ BK439) hb)
         have n7_ := Aside0.mk (below_step (hg2_ GE420 GE439) hb)
         clear HO_11
         clear HO_440000
         clear HO_440001
         clear BK420
         clear BK439
         clear HB
         have HO_11 := n0_
         have HO_440000 := n1_
         have HO_440001 := n2_
         have HO447 := n3_
         have HO450 := n4_
         have BK420 := n5_
         have BK439 := n6_
         have HB := n7_
         clear n0_ n1_ n2_ n3_ n4_ n5_ n6_ n7_
         (try clear hb)
         (try clear hb2)
         (try clear hk)
         (try clear hi)
         (try clear ho0)
         (try clear ho1)
         obtain ⟨Ao51, co51, eo51⟩ := Kd.R_slice HO447.out
         (first | subst eo51 | (injection eo51 with f1_ f2_ f3_; have f4_ := f1_.symm; have f5_ := f3_.symm; clear f1_ f2_ f3_; subst f4_; subst f5_))
         obtain ⟨Ao52, co52, eo52⟩ := Kd.S_slice HO450.out
         (first | subst eo52 | (injection eo52 with f1_ f2_ f3_; have f4_ := f1_.symm; have f5_ := f3_.symm; clear f1_ f2_ f3_; subst f4_; subst f5_))
         refine hK.out _ _ ⟨(blk_cell BK439.out 0).trans rfl, (blk_cell BK439.out 1).trans rfl, (blk_cell BK420.out 0).trans rfl, (blk_cell BK420.out 1).trans rfl⟩ (fun hHeld => ?_)
         clear hK K
         refine norm_ (a' := ?_) ?_ ?_
         rotate_left
         ·show Act.put _ (some 55) _ = _
          simp only [Act.put, sT_, s0_, sS_, i64_w, i32_w]
          rfl
         refine one_ (i := 3) (N := some 56) #[T_,T_,T_,T_,F_] rfl rfl (by kernel_rfl) (by decide) (fun K hK => ?_)
         refine goes_ Try.func19 (by kernel_rfl) rfl #[.agg #[.slice Ao33 t433.length co33, .slice Ao36 t436.length co36], .agg #[.slice Ao51 t445.length co51, .slice Ao52 t448.length co52]] (by rfl) rfl rfl ln_ ?_
         with_reducible refine (laws_eqDeck.calls kj18 _ _ t433 _ _ t436 _ _ t445 _ _ t448 true _ ?side1 ?side2 ?side3 ?side4 ?side5 ?side6 ?side7 ?side8 A44.out).mono ?_
         (case side1 => repeat (first | exact (Kd.R_reads' HO_440000.out).2.2 | (with_reducible refine Kd.C_alloc ?_ _) | (with_reducible refine Kd.C_drewN ?_ _) | (with_reducible refine Kd.C_drew ?_)))
         (case side2 => exact (Kd.R_reads' HO_440000.out).2.1)
         (case side3 => repeat (first | exact (Kd.S_reads' HO_440001.out).2.2 | (with_reducible refine Kd.C_alloc ?_ _) | (with_reducible refine Kd.C_drewN ?_ _) | (with_reducible refine Kd.C_drew ?_)))
         (case side4 => exact (Kd.S_reads' HO_440001.out).2.1)
         (case side5 => repeat (first | exact (Kd.R_reads' HO447.out).2.2 | (with_reducible refine Kd.C_alloc ?_ _) | (with_reducible refine Kd.C_drewN ?_ _) | (with_reducible refine Kd.C_drew ?_)))
         (case side6 => exact (Kd.R_reads' HO447.out).2.1)
         (case side7 => repeat (first | exact (Kd.S_reads' HO450.out).2.2 | (with_reducible refine Kd.C_alloc ?_ _) | (with_reducible refine Kd.C_drewN ?_ _) | (with_reducible refine Kd.C_drew ?_)))
         (case side8 => exact (Kd.S_reads' HO450.out).2.1)
         rintro e w53 ⟨rfl, hb⟩
         refine ⟨_, rfl, ?_⟩
         have n0_ := Aside0.mk (Kd.R_below (kr_ HO_11) hb)
         have n1_ := Aside0.mk (Kd.R_below (kr_ HO_440000) hb)
         have n2_ := Aside0.mk (Kd.S_below (by (with_reducible repeat (first | apply Kd.S_alloc | apply Kd.S_drewN | apply Kd.S_drew)); exact HO_440001.out) hb)
         have n3_ := Aside0.mk (Kd.R_below (kr_ HO447) hb)
         have n4_ := Aside0.mk (Kd.S_below (by (with_reducible repeat (first | apply Kd.S_alloc | apply Kd.S_drewN | apply Kd.S_drew)); exact HO450.out) hb)
         have n5_ := Aside0.mk (blk_below (g := gb420) (o := .cells #[.slice A0_0 l0_0.length c0_0, .slice A0_1 l0_1.length c0_1] 25 (0, 0)) (bk_ BK420) hb)
         have n6_ := Aside0.mk (blk_below (g := gb439) (o := .cells #[.slice Ao33 t433.length co33, .slice Ao36 t436.length co36] 28 (0, 0)) (bk_ BK439) hb)
         have n7_ := Aside0.mk (below_step (hg2_ GE420 GE439) hb)
         clear HO_11
         clear HO_440000
         clear HO_440001
         clear HO447
         clear HO450
         clear BK420
         clear BK439
         clear HB
         have HO_11 := n0_
         have HO_440000 := n1_
         have HO_440001 := n2_
         have HO447 := n3_
         have HO450 := n4_
         have BK420 := n5_
         have BK439 := n6_
         have HB := n7_
         clear n0_ n1_ n2_ n3_ n4_ n5_ n6_ n7_
         (try clear hb)
         (try clear hb2)
         (try clear hk)
         (try clear hi)
         refine hK.out _ _ ⟨(blk_cell BK439.out 0).trans rfl, (blk_cell BK439.out 1).trans rfl, (blk_cell BK420.out 0).trans rfl, (blk_cell BK420.out 1).trans rfl⟩ (fun hHeld => ?_)
         clear hK K
         refine norm_ (a' := ?_) ?_ ?_
         rotate_left
         ·show Act.put _ (some 56) _ = _
          simp only [Act.put, sT_, s0_, sS_, i64_w, i32_w]
          rfl
         refine pure_ (i := 4) (N := some 57) (v := ?_) (a' := ?_) #[T_,T_,T_,T_,T_] rfl rfl (by kernel_rfl) (fun _ _ _ h => h) (Or.inl ⟨by rfl, ?_⟩) ?_ ?_
         rotate_left
         ·intro w'
          go_simp
          with_reducible rfl
         rotate_left
         ·simp only [Act.put, sT_, s0_, sS_, i64_w, i32_w]
          rfl
         refine done_ (by kernel_rfl) ?_
         try go_wp2_with (first | ((with_reducible refine gate_callee (f := 33) rfl ?_); refine goesL_ (some 60) rfl rfl Try.func33 (by kernel_rfl) rfl #[.slice A2 l2.length c2] rfl ln_ ?_; (with_reducible refine (laws_toInt64S.calls kj18 _ _ l2 t452 _ ?side1 ?side2 A46.out).mono ?_); (case side1 => exact kc_ (Kd.C_below HR2.out HB.out)); (case side2 => exact HC2.out); rintro e w54 ⟨v453, rfl, ho0, hb⟩; refine ⟨_, rfl, ?_⟩; have n0_ := Aside0.mk (Kd.R_elder' (kr_ HO_11) (Kd.R_base ho0) hb); have n1_ := Aside0.mk (Kd.R_elder' (kr_ HO_440000) (Kd.R_base ho0) hb); have n2_ := Aside0.mk (Kd.S_elder' (by (with_reducible repeat (first | apply Kd.S_alloc | apply Kd.S_drewN | apply Kd.S_drew)); exact HO_440001.out) (Kd.R_base ho0) hb); have n3_ := Aside0.mk (Kd.R_elder' (kr_ HO447) (Kd.R_base ho0) hb); have n4_ := Aside0.mk (Kd.S_elder' (by (with_reducible repeat (first | apply Kd.S_alloc | apply Kd.S_drewN | apply Kd.S_drew)); exact HO450.out) (Kd.R_base ho0) hb); have n5_ := Aside0.mk (Kd.R_lower (Kd.R_new' (Kd.R_new' (Kd.R_new' ho0 (Kd.R_lt (kr_ HO_11))) (Kd.R_lt (kr_ HO_440000))) (Kd.R_lt (kr_ HO447))) (below_size (hg2_ GE420 GE439))); have n6_ := Aside0.mk (blk_below (g := gb420) (o := .cells #[.slice A0_0 l0_0.length c0_0, .slice A0_1 l0_1.length c0_1] 25 (0, 0)) (bk_ BK420) hb); have n7_ := Aside0.mk (blk_below (g := gb439) (o := .cells #[.slice Ao33 t433.length co33, .slice Ao36 t436.length co36] 28 (0, 0)) (bk_ BK439) hb); have n8_ := Aside0.mk (below_step (hg2_ GE420 GE439) hb); clear HO_11; clear HO_440000; clear HO_440001; clear HO447; clear HO450; clear BK420; clear BK439; clear HB; have HO_11 := n0_; have HO_440000 := n1_; have HO_440001 := n2_; have HO447 := n3_; have HO450 := n4_; have HO454 := n5_; have BK420 := n6_; have BK439 := n7_; have HB := n8_; clear n0_ n1_ n2_ n3_ n4_ n5_ n6_ n7_ n8_; (try clear hb); (try clear hb2); (try clear hk); (try clear hi); (try clear ho0); obtain ⟨Ao55, co55, eo55⟩ := Kd.R_slice HO454.out; subst eo55) | ((with_reducible refine gate_callee (f := 24) rfl ?_); refine goesL_ (some 61) rfl rfl Try.func24 (by kernel_rfl) rfl #[.slice Ao39 t440.length co39, .slice Ao55 t452.length co55] rfl ln_ ?_; (with_reducible refine (laws_eqInt64S.calls kj18 _ _ t440 _ _ t452 true _ ?side1 ?side2 ?side3 ?side4 A47.out).mono ?_); (case side1 => repeat (first | exact (Kd.R_reads' HO_11.out).2.2 | (with_reducible refine Kd.C_alloc ?_ _) | (with_reducible refine Kd.C_drewN ?_ _) | (with_reducible refine Kd.C_drew ?_))); (case side2 => exact (Kd.R_reads' HO_11.out).2.1); (case side3 => repeat (first | exact (Kd.R_reads' HO454.out).2.2 | (with_reducible refine Kd.C_alloc ?_ _) | (with_reducible refine Kd.C_drewN ?_ _) | (with_reducible refine Kd.C_drew ?_))); (case side4 => exact (Kd.R_reads' HO454.out).2.1); rintro e w' ⟨rfl, ⟨nd, rfl⟩⟩; refine ⟨_, rfl, ?_⟩))
         go_ret
         exact ⟨ew_, (hg2_ GE420 GE439)⟩
        ·replace c48 := Bool.eq_false_iff.mpr c48
         subst c48
         have H1 : (some false) = some r := by rw [if_neg (show ¬ (false = true) by decide)] at H; exact H
         clear H
         have H := H1
         clear H1
         obtain rfl := Option.some.inj H
         try go_wp2
         have n0_ := Aside0.mk (Kd.R_drew HO_11.out)
         have n1_ := Aside0.mk (Kd.R_drew HO_440000.out)
         have n2_ := Aside0.mk (Kd.S_drew HO_440001.out)
         have n3_ := Aside0.mk (blk_drew BK420.out)
         have n4_ := Aside0.mk (blk_drew BK439.out)
         have n5_ := Aside0.mk (below_drew1 HB.out)
         clear HO_11
         clear HO_440000
         clear HO_440001
         clear BK420
         clear BK439
         clear HB
         have HO_11 := n0_
         have HO_440000 := n1_
         have HO_440001 := n2_
         have BK420 := n3_
         have BK439 := n4_
         have HB := n5_
         clear n0_ n1_ n2_ n3_ n4_ n5_
         refine start_ (n := 5) (S := fun w' => w'.cell? ⟨gb439, 0, none⟩ = some (.slice Ao33 t433.length co33) ∧ w'.cell? ⟨gb439, 1, none⟩ = some (.slice Ao36 t436.length co36) ∧ w'.cell? ⟨gb420, 0, none⟩ = some (.slice A0_0 l0_0.length c0_0) ∧ w'.cell? ⟨gb420, 1, none⟩ = some (.slice A0_1 l0_1.length c0_1)) (ds := []) #[F_,F_,F_,F_,F_] (by kernel_rfl) rfl rfl ⟨(blk_cell BK439.out 0).trans rfl, (blk_cell BK439.out 1).trans rfl, (blk_cell BK420.out 0).trans rfl, (blk_cell BK420.out 1).trans rfl⟩ (fun hHeld => ?_)
         generalize wc.drew = w56 at HO_11 HO_440000 HO_440001 BK420 BK439 HB hHeld ⊢
         refine take_ (i := 0) (N := some 53) (v := ?_) (a' := ?_) #[T_,F_,F_,F_,F_] rfl rfl (by kernel_rfl) (fun _ _ _ h => h) (Or.inl ⟨by rfl, ?_⟩) hHeld ?_ ?_
         rotate_left
         ·rintro w' ⟨s0, s1, s2, s3⟩
          go_simp
          with_reducible rfl
         rotate_left
         ·simp only [Act.put, sT_, s0_, sS_, i64_w, i32_w]
          rfl
         refine take_ (i := 1) (N := some 54) (v := ?_) (a' := ?_) #[T_,T_,F_,F_,F_] rfl rfl (by kernel_rfl) (fun _ _ _ h => h) (Or.inl ⟨by rfl, ?_⟩) hHeld ?_ ?_
         rotate_left
         ·rintro w' ⟨s0, s1, s2, s3⟩
          go_simp
          with_reducible rfl
         rotate_left
         ·simp only [Act.put, sT_, s0_, sS_, i64_w, i32_w]
          rfl
         refine one_ (i := 2) (N := some 55) #[T_,T_,T_,F_,F_] rfl rfl (by kernel_rfl) (by decide) (fun K hK => ?_)
         refine goes_ Try.func17 (by kernel_rfl) rfl #[.agg #[.slice A0_0 l0_0.length c0_0, .slice A0_1 l0_1.length c0_1]] (by rfl) rfl rfl ln_ ?_
         with_reducible refine (laws_toDeck.calls kj18 _ _ l0_0 _ _ l0_1 t445 t448 _ ?side1 ?side2 ?side3 ?side4 A43.out).mono ?_
         (case side1 => exact kc_ (Kd.C_below HR0_0.out HB.out))
         (case side2 => exact HC0_0.out)
         (case side3 => exact kc_ (Kd.C_below HR0_1.out HB.out))
         (case side4 => exact HC0_1.out)
         rintro e w57 ⟨v446, v449, rfl, ho0, ho1, hb⟩
         refine ⟨_, rfl, ?_⟩
         have n0_ := Aside0.mk (Kd.R_elder' (kr_ HO_11) (Kd.R_base ho0) hb)
         have n1_ := Aside0.mk (Kd.R_elder' (kr_ HO_440000) (Kd.R_base ho0) hb)
         have n2_ := Aside0.mk (Kd.S_mono (Kd.S_told (Kd.S_told (Kd.S_old (by (with_reducible repeat (first | apply Kd.S_alloc | apply Kd.S_drewN | apply Kd.S_drew)); exact HO_440001.out) hb) (Kd.R_base ho0)) (Kd.S_base ho1)) (fun _ h_ => h_.1))
         have n3_ := Aside0.mk (Kd.R_lower (Kd.R_new' (Kd.R_new' ho0 (Kd.R_lt (kr_ HO_11))) (Kd.R_lt (kr_ HO_440000))) (below_size (hg2_ GE420 GE439)))
         have n4_ := Aside0.mk (Kd.S_lower (Kd.S_new' (Kd.S_new' (Kd.S_new' ho1 (Kd.R_lt (kr_ HO_11))) (Kd.R_lt (kr_ HO_440000))) (Kd.S_lt (by (with_reducible repeat (first | apply Kd.S_alloc | apply Kd.S_drewN | apply Kd.S_drew)); exact HO_440001.out))) (below_size (hg2_ GE420 GE439)))
         have n5_ := Aside0.mk (blk_below (g := gb420) (o := .cells #[.slice A0_0 l0_0.length c0_0, .slice A0_1 l0_1.length c0_1] 25 (0, 0)) (bk_ BK420) hb)
         have n6_ := Aside0.mk (blk_below (g := gb439) (o := .cells #[.slice Ao33 t433.length co33, .slice Ao36 t436.length co36] 28 (0, 0)) (bk_ BK439) hb)
         have n7_ := Aside0.mk (below_step (hg2_ GE420 GE439) hb)
         clear HO_11
         clear HO_440000
         clear HO_440001
         clear BK420
         clear BK439
         clear HB
         have HO_11 := n0_
         have HO_440000 := n1_
         have HO_440001 := n2_
         have HO447 := n3_
         have HO450 := n4_
         have BK420 := n5_
         have BK439 := n6_
         have HB := n7_
         clear n0_ n1_ n2_ n3_ n4_ n5_ n6_ n7_
         (try clear hb)
         (try clear hb2)
         (try clear hk)
         (try clear hi)
         (try clear ho0)
         (try clear ho1)
         obtain ⟨Ao58, co58, eo58⟩ := Kd.R_slice HO447.out
         (first | subst eo58 | (injection eo58 with f1_ f2_ f3_; have f4_ := f1_.symm; have f5_ := f3_.symm; clear f1_ f2_ f3_; subst f4_; subst f5_))
         obtain ⟨Ao59, co59, eo59⟩ := Kd.S_slice HO450.out
         (first | subst eo59 | (injection eo59 with f1_ f2_ f3_; have f4_ := f1_.symm; have f5_ := f3_.symm; clear f1_ f2_ f3_; subst f4_; subst f5_))
         refine hK.out _ _ ⟨(blk_cell BK439.out 0).trans rfl, (blk_cell BK439.out 1).trans rfl, (blk_cell BK420.out 0).trans rfl, (blk_cell BK420.out 1).trans rfl⟩ (fun hHeld => ?_)
         clear hK K
         refine norm_ (a' := ?_) ?_ ?_
         rotate_left
         ·show Act.put _ (some 55) _ = _
          simp only [Act.put, sT_, s0_, sS_, i64_w, i32_w]
          rfl
         refine one_ (i := 3) (N := some 56) #[T_,T_,T_,T_,F_] rfl rfl (by kernel_rfl) (by decide) (fun K hK => ?_)
         refine goes_ Try.func19 (by kernel_rfl) rfl #[.agg #[.slice Ao33 t433.length co33, .slice Ao36 t436.length co36], .agg #[.slice Ao58 t445.length co58, .slice Ao59 t448.length co59]] (by rfl) rfl rfl ln_ ?_
         with_reducible refine (laws_eqDeck.calls kj18 _ _ t433 _ _ t436 _ _ t445 _ _ t448 true _ ?side1 ?side2 ?side3 ?side4 ?side5 ?side6 ?side7 ?side8 A44.out).mono ?_
         (case side1 => repeat (first | exact (Kd.R_reads' HO_440000.out).2.2 | (with_reducible refine Kd.C_alloc ?_ _) | (with_reducible refine Kd.C_drewN ?_ _) | (with_reducible refine Kd.C_drew ?_)))
         (case side2 => exact (Kd.R_reads' HO_440000.out).2.1)
         (case side3 => repeat (first | exact (Kd.S_reads' HO_440001.out).2.2 | (with_reducible refine Kd.C_alloc ?_ _) | (with_reducible refine Kd.C_drewN ?_ _) | (with_reducible refine Kd.C_drew ?_)))
         (case side4 => exact (Kd.S_reads' HO_440001.out).2.1)
         (case side5 => repeat (first | exact (Kd.R_reads' HO447.out).2.2 | (with_reducible refine Kd.C_alloc ?_ _) | (with_reducible refine Kd.C_drewN ?_ _) | (with_reducible refine Kd.C_drew ?_)))
         (case side6 => exact (Kd.R_reads' HO447.out).2.1)
         (case side7 => repeat (first | exact (Kd.S_reads' HO450.out).2.2 | (with_reducible refine Kd.C_alloc ?_ _) | (with_reducible refine Kd.C_drewN ?_ _) | (with_reducible refine Kd.C_drew ?_)))
         (case side8 => exact (Kd.S_reads' HO450.out).2.1)
         rintro e w60 ⟨rfl, hb⟩
         refine ⟨_, rfl, ?_⟩
         have n0_ := Aside0.mk (Kd.R_below (kr_ HO_11) hb)
         have n1_ := Aside0.mk (Kd.R_below (kr_ HO_440000) hb)
         have n2_ := Aside0.mk (Kd.S_below (by (with_reducible repeat (first | apply Kd.S_alloc | apply Kd.S_drewN | apply Kd.S_drew)); exact HO_440001.out) hb)
         have n3_ := Aside0.mk (Kd.R_below (kr_ HO447) hb)
         have n4_ := Aside0.mk (Kd.S_below (by (with_reducible repeat (first | apply Kd.S_alloc | apply Kd.S_drewN | apply Kd.S_drew)); exact HO450.out) hb)
         have n5_ := Aside0.mk (blk_below (g := gb420) (o := .cells #[.slice A0_0 l0_0.length c0_0, .slice A0_1 l0_1.length c0_1] 25 (0, 0)) (bk_ BK420) hb)
         have n6_ := Aside0.mk (blk_below (g := gb439) (o := .cells #[.slice Ao33 t433.length co33, .slice Ao36 t436.length co36] 28 (0, 0)) (bk_ BK439) hb)
         have n7_ := Aside0.mk (below_step (hg2_ GE420 GE439) hb)
         clear HO_11
         clear HO_440000
         clear HO_440001
         clear HO447
         clear HO450
         clear BK420
         clear BK439
         clear HB
         have HO_11 := n0_
         have HO_440000 := n1_
         have HO_440001 := n2_
         have HO447 := n3_
         have HO450 := n4_
         have BK420 := n5_
         have BK439 := n6_
         have HB := n7_
         clear n0_ n1_ n2_ n3_ n4_ n5_ n6_ n7_
         (try clear hb)
         (try clear hb2)
         (try clear hk)
         (try clear hi)
         refine hK.out _ _ ⟨(blk_cell BK439.out 0).trans rfl, (blk_cell BK439.out 1).trans rfl, (blk_cell BK420.out 0).trans rfl, (blk_cell BK420.out 1).trans rfl⟩ (fun hHeld => ?_)
         clear hK K
         refine norm_ (a' := ?_) ?_ ?_
         rotate_left
         ·show Act.put _ (some 56) _ = _
          simp only [Act.put, sT_, s0_, sS_, i64_w, i32_w]
          rfl
         refine pure_ (i := 4) (N := some 57) (v := ?_) (a' := ?_) #[T_,T_,T_,T_,T_] rfl rfl (by kernel_rfl) (fun _ _ _ h => h) (Or.inl ⟨by rfl, ?_⟩) ?_ ?_
         rotate_left
         ·intro w'
          go_simp
          with_reducible rfl
         rotate_left
         ·simp only [Act.put, sT_, s0_, sS_, i64_w, i32_w]
          rfl
         refine done_ (by kernel_rfl) ?_
         try go_wp2_with (first | ((with_reducible refine gate_callee (f := 33) rfl ?_); refine goesL_ (some 60) rfl rfl Try.func33 (by kernel_rfl) rfl #[.slice A2 l2.length c2] rfl ln_ ?_; (with_reducible refine (laws_toInt64S.calls kj18 _ _ l2 t452 _ ?side1 ?side2 A46.out).mono ?_); (case side1 => exact kc_ (Kd.C_below HR2.out HB.out)); (case side2 => exact HC2.out); rintro e w61 ⟨v453, rfl, ho0, hb⟩; refine ⟨_, rfl, ?_⟩; have n0_ := Aside0.mk (Kd.R_elder' (kr_ HO_11) (Kd.R_base ho0) hb); have n1_ := Aside0.mk (Kd.R_elder' (kr_ HO_440000) (Kd.R_base ho0) hb); have n2_ := Aside0.mk (Kd.S_elder' (by (with_reducible repeat (first | apply Kd.S_alloc | apply Kd.S_drewN | apply Kd.S_drew)); exact HO_440001.out) (Kd.R_base ho0) hb); have n3_ := Aside0.mk (Kd.R_elder' (kr_ HO447) (Kd.R_base ho0) hb); have n4_ := Aside0.mk (Kd.S_elder' (by (with_reducible repeat (first | apply Kd.S_alloc | apply Kd.S_drewN | apply Kd.S_drew)); exact HO450.out) (Kd.R_base ho0) hb); have n5_ := Aside0.mk (Kd.R_lower (Kd.R_new' (Kd.R_new' (Kd.R_new' ho0 (Kd.R_lt (kr_ HO_11))) (Kd.R_lt (kr_ HO_440000))) (Kd.R_lt (kr_ HO447))) (below_size (hg2_ GE420 GE439))); have n6_ := Aside0.mk (blk_below (g := gb420) (o := .cells #[.slice A0_0 l0_0.length c0_0, .slice A0_1 l0_1.length c0_1] 25 (0, 0)) (bk_ BK420) hb); have n7_ := Aside0.mk (blk_below (g := gb439) (o := .cells #[.slice Ao33 t433.length co33, .slice Ao36 t436.length co36] 28 (0, 0)) (bk_ BK439) hb); have n8_ := Aside0.mk (below_step (hg2_ GE420 GE439) hb); clear HO_11; clear HO_440000; clear HO_440001; clear HO447; clear HO450; clear BK420; clear BK439; clear HB; have HO_11 := n0_; have HO_440000 := n1_; have HO_440001 := n2_; have HO447 := n3_; have HO450 := n4_; have HO454 := n5_; have BK420 := n6_; have BK439 := n7_; have HB := n8_; clear n0_ n1_ n2_ n3_ n4_ n5_ n6_ n7_ n8_; (try clear hb); (try clear hb2); (try clear hk); (try clear hi); (try clear ho0); obtain ⟨Ao62, co62, eo62⟩ := Kd.R_slice HO454.out; subst eo62) | ((with_reducible refine gate_callee (f := 24) rfl ?_); refine goesL_ (some 61) rfl rfl Try.func24 (by kernel_rfl) rfl #[.slice Ao39 t440.length co39, .slice Ao62 t452.length co62] rfl ln_ ?_; (with_reducible refine (laws_eqInt64S.calls kj18 _ _ t440 _ _ t452 false _ ?side1 ?side2 ?side3 ?side4 A47.out).mono ?_); (case side1 => repeat (first | exact (Kd.R_reads' HO_11.out).2.2 | (with_reducible refine Kd.C_alloc ?_ _) | (with_reducible refine Kd.C_drewN ?_ _) | (with_reducible refine Kd.C_drew ?_))); (case side2 => exact (Kd.R_reads' HO_11.out).2.1); (case side3 => repeat (first | exact (Kd.R_reads' HO454.out).2.2 | (with_reducible refine Kd.C_alloc ?_ _) | (with_reducible refine Kd.C_drewN ?_ _) | (with_reducible refine Kd.C_drew ?_))); (case side4 => exact (Kd.R_reads' HO454.out).2.1); rintro e w' ⟨rfl, ⟨nd, rfl⟩⟩; refine ⟨_, rfl, ?_⟩))
         go_ret
         exact ⟨ew_, (hg2_ GE420 GE439)⟩
       ·replace c45 := Bool.eq_false_iff.mpr c45
        subst c45
        have H1 : (some false) = some r := by rw [if_neg (show ¬ (false = true) by decide)] at H; exact H
        clear H
        have H := H1
        clear H1
        obtain rfl := Option.some.inj H
        try go_wp2
        have n0_ := Aside0.mk (Kd.R_drew HO_11.out)
        have n1_ := Aside0.mk (Kd.R_drew HO_440000.out)
        have n2_ := Aside0.mk (Kd.S_drew HO_440001.out)
        have n3_ := Aside0.mk (blk_drew BK420.out)
        have n4_ := Aside0.mk (blk_drew BK439.out)
        have n5_ := Aside0.mk (below_drew1 HB.out)
        clear HO_11
        clear HO_440000
        clear HO_440001
        clear BK420
        clear BK439
        clear HB
        have HO_11 := n0_
        have HO_440000 := n1_
        have HO_440001 := n2_
        have BK420 := n3_
        have BK439 := n4_
        have HB := n5_
        clear n0_ n1_ n2_ n3_ n4_ n5_
        refine start_ (n := 5) (S := fun w' => w'.cell? ⟨gb439, 0, none⟩ = some (.slice Ao33 t433.length co33) ∧ w'.cell? ⟨gb439, 1, none⟩ = some (.slice Ao36 t436.length co36) ∧ w'.cell? ⟨gb420, 0, none⟩ = some (.slice A0_0 l0_0.length c0_0) ∧ w'.cell? ⟨gb420, 1, none⟩ = some (.slice A0_1 l0_1.length c0_1)) (ds := []) #[F_,F_,F_,F_,F_] (by kernel_rfl) rfl rfl ⟨(blk_cell BK439.out 0).trans rfl, (blk_cell BK439.out 1).trans rfl, (blk_cell BK420.out 0).trans rfl, (blk_cell BK420.out 1).trans rfl⟩ (fun hHeld => ?_)
        generalize wc.drew = w63 at HO_11 HO_440000 HO_440001 BK420 BK439 HB hHeld ⊢
        refine take_ (i := 0) (N := some 53) (v := ?_) (a' := ?_) #[T_,F_,F_,F_,F_] rfl rfl (by kernel_rfl) (fun _ _ _ h => h) (Or.inl ⟨by rfl, ?_⟩) hHeld ?_ ?_
        rotate_left
        ·rintro w' ⟨s0, s1, s2, s3⟩
         go_simp
         with_reducible rfl
        rotate_left
        ·simp only [Act.put, sT_, s0_, sS_, i64_w, i32_w]
         rfl
        refine take_ (i := 1) (N := some 54) (v := ?_) (a' := ?_) #[T_,T_,F_,F_,F_] rfl rfl (by kernel_rfl) (fun _ _ _ h => h) (Or.inl ⟨by rfl, ?_⟩) hHeld ?_ ?_
        rotate_left
        ·rintro w' ⟨s0, s1, s2, s3⟩
         go_simp
         with_reducible rfl
        rotate_left
        ·simp only [Act.put, sT_, s0_, sS_, i64_w, i32_w]
         rfl
        refine one_ (i := 2) (N := some 55) #[T_,T_,T_,F_,F_] rfl rfl (by kernel_rfl) (by decide) (fun K hK => ?_)
        refine goes_ Try.func17 (by kernel_rfl) rfl #[.agg #[.slice A0_0 l0_0.length c0_0, .slice A0_1 l0_1.length c0_1]] (by rfl) rfl rfl ln_ ?_
        with_reducible refine (laws_toDeck.calls kj18 _ _ l0_0 _ _ l0_1 t445 t448 _ ?side1 ?side2 ?side3 ?side4 A43.out).mono ?_
        (case side1 => exact kc_ (Kd.C_below HR0_0.out HB.out))
        (case side2 => exact HC0_0.out)
        (case side3 => exact kc_ (Kd.C_below HR0_1.out HB.out))
        (case side4 => exact HC0_1.out)
        rintro e w64 ⟨v446, v449, rfl, ho0, ho1, hb⟩
        refine ⟨_, rfl, ?_⟩
        have n0_ := Aside0.mk (Kd.R_elder' (kr_ HO_11) (Kd.R_base ho0) hb)
        have n1_ := Aside0.mk (Kd.R_elder' (kr_ HO_440000) (Kd.R_base ho0) hb)
        have n2_ := Aside0.mk (Kd.S_mono (Kd.S_told (Kd.S_told (Kd.S_old (by (with_reducible repeat (first | apply Kd.S_alloc | apply Kd.S_drewN | apply Kd.S_drew)); exact HO_440001.out) hb) (Kd.R_base ho0)) (Kd.S_base ho1)) (fun _ h_ => h_.1))
        have n3_ := Aside0.mk (Kd.R_lower (Kd.R_new' (Kd.R_new' ho0 (Kd.R_lt (kr_ HO_11))) (Kd.R_lt (kr_ HO_440000))) (below_size (hg2_ GE420 GE439)))
        have n4_ := Aside0.mk (Kd.S_lower (Kd.S_new' (Kd.S_new' (Kd.S_new' ho1 (Kd.R_lt (kr_ HO_11))) (Kd.R_lt (kr_ HO_440000))) (Kd.S_lt (by (with_reducible repeat (first | apply Kd.S_alloc | apply Kd.S_drewN | apply Kd.S_drew)); exact HO_440001.out))) (below_size (hg2_ GE420 GE439)))
        have n5_ := Aside0.mk (blk_below (g := gb420) (o := .cells #[.slice A0_0 l0_0.length c0_0, .slice A0_1 l0_1.length c0_1] 25 (0, 0)) (bk_ BK420) hb)
        have n6_ := Aside0.mk (blk_below (g := gb439) (o := .cells #[.slice Ao33 t433.length co33, .slice Ao36 t436.length co36] 28 (0, 0)) (bk_ BK439) hb)
        have n7_ := Aside0.mk (below_step (hg2_ GE420 GE439) hb)
        clear HO_11
        clear HO_440000
        clear HO_440001
        clear BK420
        clear BK439
        clear HB
        have HO_11 := n0_
        have HO_440000 := n1_
        have HO_440001 := n2_
        have HO447 := n3_
        have HO450 := n4_
        have BK420 := n5_
        have BK439 := n6_
        have HB := n7_
        clear n0_ n1_ n2_ n3_ n4_ n5_ n6_ n7_
        (try clear hb)
        (try clear hb2)
        (try clear hk)
        (try clear hi)
        (try clear ho0)
        (try clear ho1)
        obtain ⟨Ao65, co65, eo65⟩ := Kd.R_slice HO447.out
        (first | subst eo65 | (injection eo65 with f1_ f2_ f3_; have f4_ := f1_.symm; have f5_ := f3_.symm; clear f1_ f2_ f3_; subst f4_; subst f5_))
        obtain ⟨Ao66, co66, eo66⟩ := Kd.S_slice HO450.out
        (first | subst eo66 | (injection eo66 with f1_ f2_ f3_; have f4_ := f1_.symm; have f5_ := f3_.symm; clear f1_ f2_ f3_; subst f4_; subst f5_))
        refine hK.out _ _ ⟨(blk_cell BK439.out 0).trans rfl, (blk_cell BK439.out 1).trans rfl, (blk_cell BK420.out 0).trans rfl, (blk_cell BK420.out 1).trans rfl⟩ (fun hHeld => ?_)
        clear hK K
        refine norm_ (a' := ?_) ?_ ?_
        rotate_left
        ·show Act.put _ (some 55) _ = _
         simp only [Act.put, sT_, s0_, sS_, i64_w, i32_w]
         rfl
        refine one_ (i := 3) (N := some 56) #[T_,T_,T_,T_,F_] rfl rfl (by kernel_rfl) (by decide) (fun K hK => ?_)
        refine goes_ Try.func19 (by kernel_rfl) rfl #[.agg #[.slice Ao33 t433.length co33, .slice Ao36 t436.length co36], .agg #[.slice Ao65 t445.length co65, .slice Ao66 t448.length co66]] (by rfl) rfl rfl ln_ ?_
        with_reducible refine (laws_eqDeck.calls kj18 _ _ t433 _ _ t436 _ _ t445 _ _ t448 false _ ?side1 ?side2 ?side3 ?side4 ?side5 ?side6 ?side7 ?side8 A44.out).mono ?_
        (case side1 => repeat (first | exact (Kd.R_reads' HO_440000.out).2.2 | (with_reducible refine Kd.C_alloc ?_ _) | (with_reducible refine Kd.C_drewN ?_ _) | (with_reducible refine Kd.C_drew ?_)))
        (case side2 => exact (Kd.R_reads' HO_440000.out).2.1)
        (case side3 => repeat (first | exact (Kd.S_reads' HO_440001.out).2.2 | (with_reducible refine Kd.C_alloc ?_ _) | (with_reducible refine Kd.C_drewN ?_ _) | (with_reducible refine Kd.C_drew ?_)))
        (case side4 => exact (Kd.S_reads' HO_440001.out).2.1)
        (case side5 => repeat (first | exact (Kd.R_reads' HO447.out).2.2 | (with_reducible refine Kd.C_alloc ?_ _) | (with_reducible refine Kd.C_drewN ?_ _) | (with_reducible refine Kd.C_drew ?_)))
        (case side6 => exact (Kd.R_reads' HO447.out).2.1)
        (case side7 => repeat (first | exact (Kd.S_reads' HO450.out).2.2 | (with_reducible refine Kd.C_alloc ?_ _) | (with_reducible refine Kd.C_drewN ?_ _) | (with_reducible refine Kd.C_drew ?_)))
        (case side8 => exact (Kd.S_reads' HO450.out).2.1)
        rintro e w67 ⟨rfl, hb⟩
        refine ⟨_, rfl, ?_⟩
        have n0_ := Aside0.mk (Kd.R_below (kr_ HO_11) hb)
        have n1_ := Aside0.mk (Kd.R_below (kr_ HO_440000) hb)
        have n2_ := Aside0.mk (Kd.S_below (by (with_reducible repeat (first | apply Kd.S_alloc | apply Kd.S_drewN | apply Kd.S_drew)); exact HO_440001.out) hb)
        have n3_ := Aside0.mk (Kd.R_below (kr_ HO447) hb)
        have n4_ := Aside0.mk (Kd.S_below (by (with_reducible repeat (first | apply Kd.S_alloc | apply Kd.S_drewN | apply Kd.S_drew)); exact HO450.out) hb)
        have n5_ := Aside0.mk (blk_below (g := gb420) (o := .cells #[.slice A0_0 l0_0.length c0_0, .slice A0_1 l0_1.length c0_1] 25 (0, 0)) (bk_ BK420) hb)
        have n6_ := Aside0.mk (blk_below (g := gb439) (o := .cells #[.slice Ao33 t433.length co33, .slice Ao36 t436.length co36] 28 (0, 0)) (bk_ BK439) hb)
        have n7_ := Aside0.mk (below_step (hg2_ GE420 GE439) hb)
        clear HO_11
        clear HO_440000
        clear HO_440001
        clear HO447
        clear HO450
        clear BK420
        clear BK439
        clear HB
        have HO_11 := n0_
        have HO_440000 := n1_
        have HO_440001 := n2_
        have HO447 := n3_
        have HO450 := n4_
        have BK420 := n5_
        have BK439 := n6_
        have HB := n7_
        clear n0_ n1_ n2_ n3_ n4_ n5_ n6_ n7_
        (try clear hb)
        (try clear hb2)
        (try clear hk)
        (try clear hi)
        refine hK.out _ _ ⟨(blk_cell BK439.out 0).trans rfl, (blk_cell BK439.out 1).trans rfl, (blk_cell BK420.out 0).trans rfl, (blk_cell BK420.out 1).trans rfl⟩ (fun hHeld => ?_)
        clear hK K
        refine norm_ (a' := ?_) ?_ ?_
        rotate_left
        ·show Act.put _ (some 56) _ = _
         simp only [Act.put, sT_, s0_, sS_, i64_w, i32_w]
         rfl
        refine pure_ (i := 4) (N := some 57) (v := ?_) (a' := ?_) #[T_,T_,T_,T_,T_] rfl rfl (by kernel_rfl) (fun _ _ _ h => h) (Or.inl ⟨by rfl, ?_⟩) ?_ ?_
        rotate_left
        ·intro w'
         go_simp
         with_reducible rfl
        rotate_left
        ·simp only [Act.put, sT_, s0_, sS_, i64_w, i32_w]
         rfl
        refine done_ (by kernel_rfl) ?_
        try go_wp2
        go_ret
        exact ⟨ew_, (hg2_ GE420 GE439)⟩

end Go.Proofs.Ytfkiamccipoioaa.P
end
