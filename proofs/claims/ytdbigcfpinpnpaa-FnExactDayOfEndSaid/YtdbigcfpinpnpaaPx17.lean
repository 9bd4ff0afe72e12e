-- Written by gprint.py (own program, over the printer of the kit) out of the translation. Lean checks it.
import Derived.Test.YtdbigcfpinpnpaaPx0
import Derived.Test.YtdbigcfpinpnpaaPx2
import Derived.Test.YtdbigcfpinpnpaaPx4
import Derived.Test.YtdbigcfpinpnpaaPx10
import Derived.Test.YtdbigcfpinpnpaaPx14
import Derived.Test.YtdbigcfpinpnpaaPx15
import Derived.Test.YtdbigcfpinpnpaaWPk
namespace Go.Proofs.Ytdbigcfpinpnpaa.P
open Go.RowKit Go.Proofs.YtdbigcfpinpnpaaW.PrintWords Go.Proofs.YtdbigcfpinpnpaaW.PrintLast Go.Proofs.YtdbigcfpinpnpaaW.PrintMore Go.Proofs.YtdbigcfpinpnpaaW.Pk
open Bool renaming true → T_, false → F_
open List renaming setIfInBounds_toArray → sT_, set_cons_zero → s0_, set_cons_succ → sS_
attribute [local go_sem] max2_int min2_int max_two min_two max_three min_three max_four min_four   -- for this text's walks alone
set_option linter.unusedVariables false
set_option linter.unusedSimpArgs false

/-! ### spec_DayOfEnd: function 35 -/
def spec_DayOfEnd.f (k : Nat) (l0 : List (S73)) (l1 : List (S53)) (a2 : ByteArray) : Option (Int × Int) := (spec_l21Named.f k l0 l1 a2).bind fun bt450 => (if bt450.2 = 0 then (if 0 ≤ bt450.1 then (if bt450.1 < (l0.length : Int) then ((spec_l21End.f k ((rd_T73 l0 bt450.1).f0) ((rd_T73 l0 bt450.1).f1) ((rd_T73 l0 bt450.1).f2) ((rd_T73 l0 bt450.1).f3) l1).bind fun t453 => (if t453 < 0 then (some (0, 5)) else (some (t453, 0)))) else (none)) else (none)) else (some (0, bt450.2)))
theorem spec_DayOfEnd.mono : ∀ a0 a1 a2 k, LeO (spec_DayOfEnd.f k a0 a1 a2) (spec_DayOfEnd.f (k + 1) a0 a1 a2) := by
 intro a0 a1 a2 k
 unfold spec_DayOfEnd.f
 repeat' first
   | (with_reducible exact spec_l21End.mono _ _ _ _ _ _)
   | (with_reducible exact spec_l21Named.mono _ _ _ _)
   | (with_reducible exact LeO.refl _)
   | (with_reducible exact LeO.none _)
   | (with_reducible refine LeO.ite ?_ ?_)
   | (with_reducible refine LeO.bind ?_ (fun _ => ?_))
   | exact spec_l21End.mono _ _ _ _ _ _
   | exact spec_l21Named.mono _ _ _ _
   | exact LeO.none _
   | refine LeO.ite ?_ ?_
   | refine LeO.bind ?_ (fun _ => ?_)
set_option maxHeartbeats 8000000 in
set_option maxRecDepth 100000 in
theorem spec_DayOfEnd.calls (k : Nat) (A0 : Option Addr) (c0 : Nat) (l0 : List (S73)) (A1 : Option Addr) (c1 : Nat) (l1 : List (S53)) (a2 : ByteArray) (r1 : Int) (r2 : Int) (w : World) (hr0 : Kd.C k73 w A0 l0.length l0) (hc0 : l0.length ≤ c0) (hr1 : Kd.C k53 w A1 l1.length l1) (hc1 : l1.length ≤ c1) (h : spec_DayOfEnd.f k l0 l1 a2 = some (r1, r2)) :
  Calls Try.prog 35 #[.slice A0 l0.length c0, .slice A1 l1.length c1, .string a2] w fun e w' => e = .returned (.tuple #[.int .i64 r1, .int .i64 r2]) ∧ Below w.heap.size w w' := by
 have HR0 := Aside0.mk hr0
 have HC0 := Aside0.mk hc0
 clear hr0 hc0
 have HR1 := Aside0.mk hr1
 have HC1 := Aside0.mk hc1
 clear hr1 hc1
 have HB := Aside0.mk (Below.refl w.heap.size w)
 have H : ((spec_l21Named.f k l0 l1 a2).bind fun bt450 => (if bt450.2 = 0 then (if 0 ≤ bt450.1 then (if bt450.1 < (l0.length : Int) then ((spec_l21End.f k ((rd_T73 l0 bt450.1).f0) ((rd_T73 l0 bt450.1).f1) ((rd_T73 l0 bt450.1).f2) ((rd_T73 l0 bt450.1).f3) l1).bind fun t453 => (if t453 < 0 then (some (0, 5)) else (some (t453, 0)))) else (none)) else (none)) else (some (0, bt450.2)))) = some (r1, r2) := h
 clear h
 replace H := Option.bind_eq_some_iff.mp H
 obtain ⟨⟨t450, t451⟩, A40, H⟩ := H
 replace H : (if t451 = 0 then (if 0 ≤ t450 then (if t450 < (l0.length : Int) then ((spec_l21End.f k ((rd_T73 l0 t450).f0) ((rd_T73 l0 t450).f1) ((rd_T73 l0 t450).f2) ((rd_T73 l0 t450).f3) l1).bind fun t453 => (if t453 < 0 then (some (0, 5)) else (some (t453, 0)))) else (none)) else (none)) else (some (0, t451))) = some (r1, r2) := H
 have A4 := Aside0.mk A40
 clear A40
 by_cases c5 : t451 = 0
 ·rw [if_pos c5] at H
  have c5b0 : (t451 == 0) = true := beq_iff_eq.mpr c5
  have c5b1 : (t451 != 0) = false := bne_eq_false_iff_eq.mpr c5
  clear c5
  by_cases c6 : 0 ≤ t450
  ·rw [if_pos c6] at H
   have c6b0 : decide (0 ≤ t450) = true := decide_eq_true c6
   clear c6
   by_cases c7 : t450 < (l0.length : Int)
   ·rw [if_pos c7] at H
    have c7b0 : decide (t450 < (l0.length : Int)) = true := decide_eq_true c7
    clear c7
    replace H := Option.bind_eq_some_iff.mp H
    obtain ⟨t453, A80, H⟩ := H
    replace H : (if t453 < 0 then (some (0, 5)) else (some (t453, 0))) = some (r1, r2) := H
    have A8 := Aside0.mk A80
    clear A80
    by_cases c9 : t453 < 0
    ·rw [if_pos c9] at H
     have c9b0 : decide (t453 < 0) = true := decide_eq_true c9
     clear c9
     simp only [Option.some.injEq, Prod.mk.injEq] at H
     obtain ⟨rfl, rfl⟩ := H
     go_enter Try.func35, Try.ntmps35
     go_wp2_with (first | ((with_reducible refine gate_callee (f := 69) rfl ?_); refine goesL_ (some 15) rfl rfl Try.func69 (by kernel_rfl) rfl #[.slice A0 l0.length c0, .slice A1 l1.length c1, .string a2] rfl ln_ ?_; (with_reducible refine (spec_l21Named.calls k _ _ l0 _ _ l1 a2 t450 t451 _ ?side1 ?side2 ?side3 ?side4 A4.out).mono ?_); (case side1 => exact kc_ HR0.out); (case side2 => exact HC0.out); (case side3 => exact kc_ HR1.out); (case side4 => exact HC1.out); rintro e w10 ⟨rfl, hb⟩; refine ⟨_, rfl, ?_⟩; have n0_ := Aside0.mk (below_step hb_ hb); clear HB; have HB := n0_; clear n0_; (try clear hb); (try clear hb2); (try clear hk); (try clear hi); have p452 : 0 ≤ (t450 : Int) := od_; have q452 : t450 < (l0.length : Int) := od_; obtain ⟨ad452, e452, hx452_0, hx452_1, hx452_2, hx452_3⟩ := at_T73 HR0.out t450 p452 q452; cases e452; replace hx452_0 := cq_ HB hx452_0; replace hx452_1 := cq_ HB hx452_1; replace hx452_2 := cq_ HB hx452_2; replace hx452_3 := cq_ HB hx452_3; replace p452 := eq_true p452; replace q452 := eq_true q452) | ((with_reducible refine gate_callee (f := 73) rfl ?_); refine goesL_ (some 25) rfl rfl Try.func73 (by kernel_rfl) rfl #[.pointer (some (ad452.add ((t450).toNat * 4))), .slice A1 l1.length c1] rfl ln_ ?_; (with_reducible refine (spec_l21End.calls k _ ((rd_T73 l0 t450).f0) ((rd_T73 l0 t450).f1) ((rd_T73 l0 t450).f2) ((rd_T73 l0 t450).f3) _ _ l1 t453 _ ?side1 ?side2 ?side3 ?side4 ?side5 ?side6 A8.out).mono ?_); (case side1 => exact kc_ (Kd.C_below HR1.out HB.out)); (case side2 => exact HC1.out); (case side3 => first | exact hx452_0 | (simpa using hx452_0) | (go_simp; done)); (case side4 => first | exact hx452_1 | (simpa using hx452_1) | (go_simp; done)); (case side5 => first | exact hx452_2 | (simpa using hx452_2) | (go_simp; done)); (case side6 => first | exact hx452_3 | (simpa using hx452_3) | (go_simp; done)); rintro e w11 ⟨rfl, hb⟩; refine ⟨_, rfl, ?_⟩; have n0_ := Aside0.mk (below_step hb_ hb); clear HB; have HB := n0_; clear n0_; (try clear hb); (try clear hb2); (try clear hk); (try clear hi)))
     go_ret2
     exact ⟨ew_, hb_⟩
    ·rw [if_neg c9] at H
     have c9b0 : decide (t453 < 0) = false := decide_eq_false c9
     clear c9
     simp only [Option.some.injEq, Prod.mk.injEq] at H
     obtain ⟨rfl, rfl⟩ := H
     go_enter Try.func35, Try.ntmps35
     go_wp2_with (first | ((with_reducible refine gate_callee (f := 69) rfl ?_); refine goesL_ (some 15) rfl rfl Try.func69 (by kernel_rfl) rfl #[.slice A0 l0.length c0, .slice A1 l1.length c1, .string a2] rfl ln_ ?_; (with_reducible refine (spec_l21Named.calls k _ _ l0 _ _ l1 a2 t450 t451 _ ?side1 ?side2 ?side3 ?side4 A4.out).mono ?_); (case side1 => exact kc_ HR0.out); (case side2 => exact HC0.out); (case side3 => exact kc_ HR1.out); (case side4 => exact HC1.out); rintro e w12 ⟨rfl, hb⟩; refine ⟨_, rfl, ?_⟩; have n0_ := Aside0.mk (below_step hb_ hb); clear HB; have HB := n0_; clear n0_; (try clear hb); (try clear hb2); (try clear hk); (try clear hi); have p452 : 0 ≤ (t450 : Int) := od_; have q452 : t450 < (l0.length : Int) := od_; obtain ⟨ad452, e452, hx452_0, hx452_1, hx452_2, hx452_3⟩ := at_T73 HR0.out t450 p452 q452; cases e452; replace hx452_0 := cq_ HB hx452_0; replace hx452_1 := cq_ HB hx452_1; replace hx452_2 := cq_ HB hx452_2; replace hx452_3 := cq_ HB hx452_3; replace p452 := eq_true p452; replace q452 := eq_true q452) | ((with_reducible refine gate_callee (f := 73) rfl ?_); refine goesL_ (some 25) rfl rfl Try.func73 (by kernel_rfl) rfl #[.pointer (some (ad452.add ((t450).toNat * 4))), .slice A1 l1.length c1] rfl ln_ ?_; (with_reducible refine (spec_l21End.calls k _ ((rd_T73 l0 t450).f0) ((rd_T73 l0 t450).f1) ((rd_T73 l0 t450).f2) ((rd_T73 l0 t450).f3) _ _ l1 t453 _ ?side1 ?side2 ?side3 ?side4 ?side5 ?side6 A8.out).mono ?_); (case side1 => exact kc_ (Kd.C_below HR1.out HB.out)); (case side2 => exact HC1.out); (case side3 => first | exact hx452_0 | (simpa using hx452_0) | (go_simp; done)); (case side4 => first | exact hx452_1 | (simpa using hx452_1) | (go_simp; done)); (case side5 => first | exact hx452_2 | (simpa using hx452_2) | (go_simp; done)); (case side6 => first | exact hx452_3 | (simpa using hx452_3) | (go_simp; done)); rintro e w13 ⟨rfl, hb⟩; refine ⟨_, rfl, ?_⟩; have n0_ := Aside0.mk (below_step hb_ hb); clear HB; have HB := n0_; clear n0_; (try clear hb); (try clear hb2); (try clear hk); (try clear hi)))
     go_ret2
     exact ⟨ew_, hb_⟩
   ·rw [if_neg c7] at H
    exact absurd H (by simp)
  ·rw [if_neg c6] at H
   exact absurd H (by simp)
 ·rw [if_neg c5] at H
  have c5b0 : (t451 == 0) = false := beq_eq_false_iff_ne.mpr c5
  have c5b1 : (t451 != 0) = true := bne_iff_ne.mpr c5
  simp only [Option.some.injEq, Prod.mk.injEq] at H
  obtain ⟨rfl, rfl⟩ := H
  go_enter Try.func35, Try.ntmps35
  go_wp2_with (first | ((with_reducible refine gate_callee (f := 69) rfl ?_); refine goesL_ (some 15) rfl rfl Try.func69 (by kernel_rfl) rfl #[.slice A0 l0.length c0, .slice A1 l1.length c1, .string a2] rfl ln_ ?_; (with_reducible refine (spec_l21Named.calls k _ _ l0 _ _ l1 a2 t450 t451 _ ?side1 ?side2 ?side3 ?side4 A4.out).mono ?_); (case side1 => exact kc_ HR0.out); (case side2 => exact HC0.out); (case side3 => exact kc_ HR1.out); (case side4 => exact HC1.out); rintro e w14 ⟨rfl, hb⟩; refine ⟨_, rfl, ?_⟩; have n0_ := Aside0.mk (below_step hb_ hb); clear HB; have HB := n0_; clear n0_; (try clear hb); (try clear hb2); (try clear hk); (try clear hi)))
  go_ret2
  exact ⟨ew_, hb_⟩

/-! ### impl_DayOfEnd: function 36 -/
def impl_DayOfEnd.f (k : Nat) (l0 : List (S73)) (l1 : List (S53)) (a2 : ByteArray) : Option (Int × Int) := (impl_gearCode.f k l0 l1 0).bind fun t454 => (if t454 = 0 then ((impl_gearNamed.f l0 a2).bind fun t455 => (if t455 < 0 then (some (0, 3)) else (if 0 ≤ t455 then (if t455 < (l0.length : Int) then ((impl_dayOfEnd.f k ((rd_T73 l0 t455).f0) ((rd_T73 l0 t455).f1) ((rd_T73 l0 t455).f2) ((rd_T73 l0 t455).f3) l1).bind fun t457 => (if t457 < 0 then (some (0, 5)) else (some (t457, 0)))) else (none)) else (none)))) else (some (0, t454)))
theorem impl_DayOfEnd.mono : ∀ a0 a1 a2 k, LeO (impl_DayOfEnd.f k a0 a1 a2) (impl_DayOfEnd.f (k + 1) a0 a1 a2) := by
 intro a0 a1 a2 k
 unfold impl_DayOfEnd.f
 repeat' first
   | (with_reducible exact impl_dayOfEnd.mono _ _ _ _ _ _)
   | (with_reducible exact impl_gearCode.mono _ _ _ _)
   | (with_reducible exact LeO.refl _)
   | (with_reducible exact LeO.none _)
   | (with_reducible refine LeO.ite ?_ ?_)
   | (with_reducible refine LeO.bind ?_ (fun _ => ?_))
   | exact impl_dayOfEnd.mono _ _ _ _ _ _
   | exact impl_gearCode.mono _ _ _ _
   | exact LeO.none _
   | refine LeO.ite ?_ ?_
   | refine LeO.bind ?_ (fun _ => ?_)
set_option maxHeartbeats 8000000 in
set_option maxRecDepth 100000 in
theorem impl_DayOfEnd.calls (k : Nat) (A0 : Option Addr) (c0 : Nat) (l0 : List (S73)) (A1 : Option Addr) (c1 : Nat) (l1 : List (S53)) (a2 : ByteArray) (r1 : Int) (r2 : Int) (w : World) (hr0 : Kd.C k73 w A0 l0.length l0) (hc0 : l0.length ≤ c0) (hr1 : Kd.C k53 w A1 l1.length l1) (hc1 : l1.length ≤ c1) (h : impl_DayOfEnd.f k l0 l1 a2 = some (r1, r2)) :
  Calls Try.prog 36 #[.slice A0 l0.length c0, .slice A1 l1.length c1, .string a2] w fun e w' => e = .returned (.tuple #[.int .i64 r1, .int .i64 r2]) ∧ Below w.heap.size w w' := by
 have hu73 := Try.underlying73
 have HR0 := Aside0.mk hr0
 have HC0 := Aside0.mk hc0
 clear hr0 hc0
 have HR1 := Aside0.mk hr1
 have HC1 := Aside0.mk hc1
 clear hr1 hc1
 have HB := Aside0.mk (Below.refl w.heap.size w)
 have H : ((impl_gearCode.f k l0 l1 0).bind fun t454 => (if t454 = 0 then ((impl_gearNamed.f l0 a2).bind fun t455 => (if t455 < 0 then (some (0, 3)) else (if 0 ≤ t455 then (if t455 < (l0.length : Int) then ((impl_dayOfEnd.f k ((rd_T73 l0 t455).f0) ((rd_T73 l0 t455).f1) ((rd_T73 l0 t455).f2) ((rd_T73 l0 t455).f3) l1).bind fun t457 => (if t457 < 0 then (some (0, 5)) else (some (t457, 0)))) else (none)) else (none)))) else (some (0, t454)))) = some (r1, r2) := h
 clear h
 replace H := Option.bind_eq_some_iff.mp H
 obtain ⟨t454, A40, H⟩ := H
 replace H : (if t454 = 0 then ((impl_gearNamed.f l0 a2).bind fun t455 => (if t455 < 0 then (some (0, 3)) else (if 0 ≤ t455 then (if t455 < (l0.length : Int) then ((impl_dayOfEnd.f k ((rd_T73 l0 t455).f0) ((rd_T73 l0 t455).f1) ((rd_T73 l0 t455).f2) ((rd_T73 l0 t455).f3) l1).bind fun t457 => (if t457 < 0 then (some (0, 5)) else (some (t457, 0)))) else (none)) else (none)))) else (some (0, t454))) = some (r1, r2) := H
 have A4 := Aside0.mk A40
 clear A40
 by_cases c5 : t454 = 0
 ·rw [if_pos c5] at H
  have c5b0 : (t454 == 0) = true := beq_iff_eq.mpr c5
  have c5b1 : (t454 != 0) = false := bne_eq_false_iff_eq.mpr c5
  clear c5
  replace H := Option.bind_eq_some_iff.mp H
  obtain ⟨t455, A60, H⟩ := H
  replace H : (if t455 < 0 then (some (0, 3)) else (if 0 ≤ t455 then (if t455 < (l0.length : Int) then ((impl_dayOfEnd.f k ((rd_T73 l0 t455).f0) ((rd_T73 l0 t455).f1) ((rd_T73 l0 t455).f2) ((rd_T73 l0 t455).f3) l1).bind fun t457 => (if t457 < 0 then (some (0, 5)) else (some (t457, 0)))) else (none)) else (none))) = some (r1, r2) := H
  have A6 := Aside0.mk A60
  clear A60
  by_cases c7 : t455 < 0
  ·rw [if_pos c7] at H
   have c7b0 : decide (t455 < 0) = true := decide_eq_true c7
   clear c7
   simp only [Option.some.injEq, Prod.mk.injEq] at H
   obtain ⟨rfl, rfl⟩ := H
   go_enter Try.func36, Try.ntmps36
   go_wp2_with (first | ((with_reducible refine gate_callee (f := 71) rfl ?_); refine goesL_ (some 13) rfl rfl Try.func71 (by kernel_rfl) rfl #[.slice A0 l0.length c0, .slice A1 l1.length c1, .int .i64 0] rfl ln_ ?_; (with_reducible refine (impl_gearCode.calls k _ _ l0 _ _ l1 0 t454 _ ?side1 ?side2 ?side3 ?side4 A4.out).mono ?_); (case side1 => exact kc_ HR0.out); (case side2 => exact HC0.out); (case side3 => exact kc_ HR1.out); (case side4 => exact HC1.out); rintro e w8 ⟨rfl, hb⟩; refine ⟨_, rfl, ?_⟩; have n0_ := Aside0.mk (below_step hb_ hb); clear HB; have HB := n0_; clear n0_; (try clear hb); (try clear hb2); (try clear hk); (try clear hi)) | ((with_reducible refine gate_callee (f := 61) rfl ?_); refine goesL_ (some 19) rfl rfl Try.func61 (by kernel_rfl) rfl #[.slice A0 l0.length c0, .string a2] rfl ln_ ?_; (with_reducible refine (impl_gearNamed.calls _ _ l0 a2 t455 _ ?side1 ?side2 A6.out).mono ?_); (case side1 => exact kc_ (Kd.C_below HR0.out HB.out)); (case side2 => exact HC0.out); rintro e w9 ⟨rfl, hb⟩; refine ⟨_, rfl, ?_⟩; have n0_ := Aside0.mk (below_step hb_ hb); clear HB; have HB := n0_; clear n0_; (try clear hb); (try clear hb2); (try clear hk); (try clear hi)))
   go_ret2
   exact ⟨ew_, hb_⟩
  ·rw [if_neg c7] at H
   have c7b0 : decide (t455 < 0) = false := decide_eq_false c7
   clear c7
   by_cases c10 : 0 ≤ t455
   ·rw [if_pos c10] at H
    have c10b0 : decide (0 ≤ t455) = true := decide_eq_true c10
    clear c10
    by_cases c11 : t455 < (l0.length : Int)
    ·rw [if_pos c11] at H
     have c11b0 : decide (t455 < (l0.length : Int)) = true := decide_eq_true c11
     clear c11
     replace H := Option.bind_eq_some_iff.mp H
     obtain ⟨t457, A120, H⟩ := H
     replace H : (if t457 < 0 then (some (0, 5)) else (some (t457, 0))) = some (r1, r2) := H
     have A12 := Aside0.mk A120
     clear A120
     by_cases c13 : t457 < 0
     ·rw [if_pos c13] at H
      have c13b0 : decide (t457 < 0) = true := decide_eq_true c13
      clear c13
      simp only [Option.some.injEq, Prod.mk.injEq] at H
      obtain ⟨rfl, rfl⟩ := H
      go_enter Try.func36, Try.ntmps36
      go_wp2_with (first | ((with_reducible refine gate_callee (f := 71) rfl ?_); refine goesL_ (some 13) rfl rfl Try.func71 (by kernel_rfl) rfl #[.slice A0 l0.length c0, .slice A1 l1.length c1, .int .i64 0] rfl ln_ ?_; (with_reducible refine (impl_gearCode.calls k _ _ l0 _ _ l1 0 t454 _ ?side1 ?side2 ?side3 ?side4 A4.out).mono ?_); (case side1 => exact kc_ HR0.out); (case side2 => exact HC0.out); (case side3 => exact kc_ HR1.out); (case side4 => exact HC1.out); rintro e w14 ⟨rfl, hb⟩; refine ⟨_, rfl, ?_⟩; have n0_ := Aside0.mk (below_step hb_ hb); clear HB; have HB := n0_; clear n0_; (try clear hb); (try clear hb2); (try clear hk); (try clear hi)) | ((with_reducible refine gate_callee (f := 61) rfl ?_); refine goesL_ (some 19) rfl rfl Try.func61 (by kernel_rfl) rfl #[.slice A0 l0.length c0, .string a2] rfl ln_ ?_; (with_reducible refine (impl_gearNamed.calls _ _ l0 a2 t455 _ ?side1 ?side2 A6.out).mono ?_); (case side1 => exact kc_ (Kd.C_below HR0.out HB.out)); (case side2 => exact HC0.out); rintro e w15 ⟨rfl, hb⟩; refine ⟨_, rfl, ?_⟩; have n0_ := Aside0.mk (below_step hb_ hb); clear HB; have HB := n0_; clear n0_; (try clear hb); (try clear hb2); (try clear hk); (try clear hi); have p456 : 0 ≤ (t455 : Int) := od_; have q456 : t455 < (l0.length : Int) := od_; obtain ⟨ad456, e456, hx456_0, hx456_1, hx456_2, hx456_3⟩ := at_T73 HR0.out t455 p456 q456; cases e456; replace hx456_0 := cq_ HB hx456_0; replace hx456_1 := cq_ HB hx456_1; replace hx456_2 := cq_ HB hx456_2; replace hx456_3 := cq_ HB hx456_3; replace p456 := eq_true p456; replace q456 := eq_true q456) | ((with_reducible refine gate_callee (f := 74) rfl ?_); refine goesL_ (some 27) rfl rfl Try.func74 (by kernel_rfl) rfl #[.agg #[.string ((rd_T73 l0 t455).f0), .int .i64 ((rd_T73 l0 t455).f1), .int .i64 ((rd_T73 l0 t455).f2), .int .i64 ((rd_T73 l0 t455).f3)], .slice A1 l1.length c1] rfl ln_ ?_; (with_reducible refine (impl_dayOfEnd.calls k ((rd_T73 l0 t455).f0) ((rd_T73 l0 t455).f1) ((rd_T73 l0 t455).f2) ((rd_T73 l0 t455).f3) _ _ l1 t457 _ ?side1 ?side2 A12.out).mono ?_); (case side1 => exact kc_ (Kd.C_below HR1.out HB.out)); (case side2 => exact HC1.out); rintro e w16 ⟨rfl, hb⟩; refine ⟨_, rfl, ?_⟩; have n0_ := Aside0.mk (below_step hb_ hb); clear HB; have HB := n0_; clear n0_; (try clear hb); (try clear hb2); (try clear hk); (try clear hi)))
      go_ret2
      exact ⟨ew_, hb_⟩
     ·rw [if_neg c13] at H
      have c13b0 : decide (t457 < 0) = false := decide_eq_false c13
      clear c13
      simp only [Option.some.injEq, Prod.mk.injEq] at H
      obtain ⟨rfl, rfl⟩ := H
      go_enter Try.func36, Try.ntmps36
      go_wp2_with (first | ((with_reducible refine gate_callee (f := 71) rfl ?_); refine goesL_ (some 13) rfl rfl Try.func71 (by kernel_rfl) rfl #[.slice A0 l0.length c0, .slice A1 l1.length c1, .int .i64 0] rfl ln_ ?_; (with_reducible refine (impl_gearCode.calls k _ _ l0 _ _ l1 0 t454 _ ?side1 ?side2 ?side3 ?side4 A4.out).mono ?_); (case side1 => exact kc_ HR0.out); (case side2 => exact HC0.out); (case side3 => exact kc_ HR1.out); (case side4 => exact HC1.out); rintro e w17 ⟨rfl, hb⟩; refine ⟨_, rfl, ?_⟩; have n0_ := Aside0.mk (below_step hb_ hb); clear HB; have HB := n0_; clear n0_; (try clear hb); (try clear hb2); (try clear hk); (try clear hi)) | ((with_reducible refine gate_callee (f := 61) rfl ?_); refine goesL_ (some 19) rfl rfl Try.func61 (by kernel_rfl) rfl #[.slice A0 l0.length c0, .string a2] rfl ln_ ?_; (with_reducible refine (impl_gearNamed.calls _ _ l0 a2 t455 _ ?side1 ?side2 A6.out).mono ?_); (case side1 => exact kc_ (Kd.C_below HR0.out HB.out)); (case side2 => exact HC0.out); rintro e w18 ⟨rfl, hb⟩; refine ⟨_, rfl, ?_⟩; have n0_ := Aside0.mk (below_step hb_ hb); clear HB; have HB := n0_; clear n0_; (try clear hb); (try clear hb2); (try clear hk); (try clear hi); have p456 : 0 ≤ (t455 : Int) := od_; have q456 : t455 < (l0.length : Int) := od_; obtain ⟨ad456, e456, hx456_0, hx456_1, hx456_2, hx456_3⟩ := at_T73 HR0.out t455 p456 q456; cases e456; replace hx456_0 := cq_ HB hx456_0; replace hx456_1 := cq_ HB hx456_1; replace hx456_2 := cq_ HB hx456_2; replace hx456_3 := cq_ HB hx456_3; replace p456 := eq_true p456; replace q456 := eq_true q456) | ((with_reducible refine gate_callee (f := 74) rfl ?_); refine goesL_ (some 27) rfl rfl Try.func74 (by kernel_rfl) rfl #[.agg #[.string ((rd_T73 l0 t455).f0), .int .i64 ((rd_T73 l0 t455).f1), .int .i64 ((rd_T73 l0 t455).f2), .int .i64 ((rd_T73 l0 t455).f3)], .slice A1 l1.length c1] rfl ln_ ?_; (with_reducible refine (impl_dayOfEnd.calls k ((rd_T73 l0 t455).f0) ((rd_T73 l0 t455).f1) ((rd_T73 l0 t455).f2) ((rd_T73 l0 t455).f3) _ _ l1 t457 _ ?side1 ?side2 A12.out).mono ?_); (case side1 => exact kc_ (Kd.C_below HR1.out HB.out)); (case side2 => exact HC1.out); rintro e w19 ⟨rfl, hb⟩; refine ⟨_, rfl, ?_⟩; have n0_ := Aside0.mk (below_step hb_ hb); clear HB; have HB := n0_; clear n0_; (try clear hb); (try clear hb2); (try clear hk); (try clear hi)))
      go_ret2
      exact ⟨ew_, hb_⟩
    ·rw [if_neg c11] at H
     exact absurd H (by simp)
   ·rw [if_neg c10] at H
    exact absurd H (by simp)
 ·rw [if_neg c5] at H
  have c5b0 : (t454 == 0) = false := beq_eq_false_iff_ne.mpr c5
  have c5b1 : (t454 != 0) = true := bne_iff_ne.mpr c5
  simp only [Option.some.injEq, Prod.mk.injEq] at H
  obtain ⟨rfl, rfl⟩ := H
  go_enter Try.func36, Try.ntmps36
  go_wp2_with (first | ((with_reducible refine gate_callee (f := 71) rfl ?_); refine goesL_ (some 13) rfl rfl Try.func71 (by kernel_rfl) rfl #[.slice A0 l0.length c0, .slice A1 l1.length c1, .int .i64 0] rfl ln_ ?_; (with_reducible refine (impl_gearCode.calls k _ _ l0 _ _ l1 0 t454 _ ?side1 ?side2 ?side3 ?side4 A4.out).mono ?_); (case side1 => exact kc_ HR0.out); (case side2 => exact HC0.out); (case side3 => exact kc_ HR1.out); (case side4 => exact HC1.out); rintro e w20 ⟨rfl, hb⟩; refine ⟨_, rfl, ?_⟩; have n0_ := Aside0.mk (below_step hb_ hb); clear HB; have HB := n0_; clear n0_; (try clear hb); (try clear hb2); (try clear hk); (try clear hi)))
  go_ret2
  exact ⟨ew_, hb_⟩

/-! ### laws_FnExactDayOfEnd: function 9 -/
def laws_FnExactDayOfEnd.j0 : Nat → List (S72) → List (S49) → List (S73) → List (S53) → Bool → Option (Bool)
 | 0, _, _, _, _, _ => none
 | k + 1, x0, x1, x10, x11, x54 => if x54 = true then (some false) else ((laws_toGearS.f k x0).bind fun t476 => ((laws_eqGearS.f k x10 t476).bind fun t479 => (if t479 = true then ((laws_toCheckS.f k x1).bind fun t480 => ((laws_eqCheckS.f k x11 t480).bind fun t483 => (if t483 = true then (some true) else (some false)))) else (some false))))
def laws_FnExactDayOfEnd.f (k : Nat) (l0 : List (S72)) (l1 : List (S49)) (a2 : ByteArray) : Option (Bool) := if (a2.size : Int) > 1048576 then (some true) else ((laws_szGearS.f k l0 1048576).bind fun t458 => (if t458 < 0 then (some true) else ((laws_szCheckS.f k l1 t458).bind fun t459 => (if t459 < 0 then (some true) else ((laws_toGearS.f k l0).bind fun t460 => ((laws_toCheckS.f k l1).bind fun t463 => ((spec_DayOfEnd.f k t460 t463 a2).bind fun bt466 => ((laws_toGearS.f k l0).bind fun t468 => ((laws_toCheckS.f k l1).bind fun t471 => ((impl_DayOfEnd.f k t468 t471 a2).bind fun bt474 => (if bt474.1 = bt466.1 then (laws_FnExactDayOfEnd.j0 k l0 l1 t468 t471 (bt474.2 != bt466.2)) else (laws_FnExactDayOfEnd.j0 k l0 l1 t468 t471 true))))))))))))
theorem laws_FnExactDayOfEnd.mono_l : ∀ k, (∀ y0 y1 y2 y3 y4, LeO (laws_FnExactDayOfEnd.j0 k y0 y1 y2 y3 y4) (laws_FnExactDayOfEnd.j0 (k + 1) y0 y1 y2 y3 y4))
 | 0 => fun _ _ _ _ _ r h => by simp [laws_FnExactDayOfEnd.j0] at h
 | k + 1 => by
  have ih0 := laws_FnExactDayOfEnd.mono_l k
  ·intro y0 y1 y2 y3 y4
   unfold laws_FnExactDayOfEnd.j0
   repeat' first
   | (with_reducible exact ih0 _ _ _ _ _)
   | (with_reducible exact impl_DayOfEnd.mono _ _ _ _)
   | (with_reducible exact laws_eqCheckS.mono _ _ _)
   | (with_reducible exact laws_eqGearS.mono _ _ _)
   | (with_reducible exact laws_szCheckS.mono _ _ _)
   | (with_reducible exact laws_szGearS.mono _ _ _)
   | (with_reducible exact laws_toCheckS.mono _ _)
   | (with_reducible exact laws_toGearS.mono _ _)
   | (with_reducible exact spec_DayOfEnd.mono _ _ _ _)
   | (with_reducible exact LeO.refl _)
   | (with_reducible exact LeO.none _)
   | (with_reducible refine LeO.ite ?_ ?_)
   | (with_reducible refine LeO.bind ?_ (fun _ => ?_))
   | exact ih0 _ _ _ _ _
   | exact impl_DayOfEnd.mono _ _ _ _
   | exact laws_eqCheckS.mono _ _ _
   | exact laws_eqGearS.mono _ _ _
   | exact laws_szCheckS.mono _ _ _
   | exact laws_szGearS.mono _ _ _
   | exact laws_toCheckS.mono _ _
   | exact laws_toGearS.mono _ _
   | exact spec_DayOfEnd.mono _ _ _ _
   | exact LeO.none _
   | refine LeO.ite ?_ ?_
   | refine LeO.bind ?_ (fun _ => ?_)
theorem laws_FnExactDayOfEnd.mono : ∀ a0 a1 a2 k, LeO (laws_FnExactDayOfEnd.f k a0 a1 a2) (laws_FnExactDayOfEnd.f (k + 1) a0 a1 a2) := by
 intro a0 a1 a2 k
 have ih0 := laws_FnExactDayOfEnd.mono_l k
 unfold laws_FnExactDayOfEnd.f
 repeat' first
   | (with_reducible exact ih0 _ _ _ _ _)
   | (with_reducible exact impl_DayOfEnd.mono _ _ _ _)
   | (with_reducible exact laws_eqCheckS.mono _ _ _)
   | (with_reducible exact laws_eqGearS.mono _ _ _)
   | (with_reducible exact laws_szCheckS.mono _ _ _)
   | (with_reducible exact laws_szGearS.mono _ _ _)
   | (with_reducible exact laws_toCheckS.mono _ _)
   | (with_reducible exact laws_toGearS.mono _ _)
   | (with_reducible exact spec_DayOfEnd.mono _ _ _ _)
   | (with_reducible exact LeO.refl _)
   | (with_reducible exact LeO.none _)
   | (with_reducible refine LeO.ite ?_ ?_)
   | (with_reducible refine LeO.bind ?_ (fun _ => ?_))
   | exact ih0 _ _ _ _ _
   | exact impl_DayOfEnd.mono _ _ _ _
   | exact laws_eqCheckS.mono _ _ _
   | exact laws_eqGearS.mono _ _ _
   | exact laws_szCheckS.mono _ _ _
   | exact laws_szGearS.mono _ _ _
   | exact laws_toCheckS.mono _ _
   | exact laws_toGearS.mono _ _
   | exact spec_DayOfEnd.mono _ _ _ _
   | exact LeO.none _
   | refine LeO.ite ?_ ?_
   | refine LeO.bind ?_ (fun _ => ?_)
set_option maxHeartbeats 8000000 in
set_option maxRecDepth 100000 in
theorem laws_FnExactDayOfEnd.calls (k : Nat) (A0 : Option Addr) (c0 : Nat) (l0 : List (S72)) (A1 : Option Addr) (c1 : Nat) (l1 : List (S49)) (a2 : ByteArray) (r : Bool) (w : World) (hr0 : Kd.C k72 w A0 l0.length l0) (hc0 : l0.length ≤ c0) (hr1 : Kd.C k49 w A1 l1.length l1) (hc1 : l1.length ≤ c1) (h : laws_FnExactDayOfEnd.f k l0 l1 a2 = some r) :
  Calls Try.prog 9 #[.slice A0 l0.length c0, .slice A1 l1.length c1, .string a2] w fun e w' => e = .returned (.bool r) ∧ Below w.heap.size w w' := by
 have HR0 := Aside0.mk hr0
 have HC0 := Aside0.mk hc0
 clear hr0 hc0
 have HR1 := Aside0.mk hr1
 have HC1 := Aside0.mk hc1
 clear hr1 hc1
 have HB := Aside0.mk (Below.refl w.heap.size w)
 have H : (if (a2.size : Int) > 1048576 then (some true) else ((laws_szGearS.f k l0 1048576).bind fun t458 => (if t458 < 0 then (some true) else ((laws_szCheckS.f k l1 t458).bind fun t459 => (if t459 < 0 then (some true) else ((laws_toGearS.f k l0).bind fun t460 => ((laws_toCheckS.f k l1).bind fun t463 => ((spec_DayOfEnd.f k t460 t463 a2).bind fun bt466 => ((laws_toGearS.f k l0).bind fun t468 => ((laws_toCheckS.f k l1).bind fun t471 => ((impl_DayOfEnd.f k t468 t471 a2).bind fun bt474 => (if bt474.1 = bt466.1 then (laws_FnExactDayOfEnd.j0 k l0 l1 t468 t471 (bt474.2 != bt466.2)) else (laws_FnExactDayOfEnd.j0 k l0 l1 t468 t471 true))))))))))))) = some r := h
 clear h
 by_cases c4 : (a2.size : Int) > 1048576
 ·rw [if_pos c4] at H
  have c4b0 : decide (1048576 < (a2.size : Int)) = true := decide_eq_true c4
  have c4b1 : decide (1048576 < a2.size) = true := decide_eq_true (by omega)
  clear c4
  obtain rfl := Option.some.inj H
  go_enter Try.func9, Try.ntmps9
  go_wp2
  go_ret
  exact ⟨ew_, hb_⟩
 ·rw [if_neg c4] at H
  have c4b0 : decide (1048576 < (a2.size : Int)) = false := decide_eq_false c4
  have c4b1 : decide (1048576 < a2.size) = false := decide_eq_false (by omega)
  clear c4
  replace H := Option.bind_eq_some_iff.mp H
  obtain ⟨t458, A50, H⟩ := H
  replace H : (if t458 < 0 then (some true) else ((laws_szCheckS.f k l1 t458).bind fun t459 => (if t459 < 0 then (some true) else ((laws_toGearS.f k l0).bind fun t460 => ((laws_toCheckS.f k l1).bind fun t463 => ((spec_DayOfEnd.f k t460 t463 a2).bind fun bt466 => ((laws_toGearS.f k l0).bind fun t468 => ((laws_toCheckS.f k l1).bind fun t471 => ((impl_DayOfEnd.f k t468 t471 a2).bind fun bt474 => (if bt474.1 = bt466.1 then (laws_FnExactDayOfEnd.j0 k l0 l1 t468 t471 (bt474.2 != bt466.2)) else (laws_FnExactDayOfEnd.j0 k l0 l1 t468 t471 true))))))))))) = some r := H
  have A5 := Aside0.mk A50
  clear A50
  by_cases c6 : t458 < 0
  ·rw [if_pos c6] at H
   have c6b0 : decide (t458 < 0) = true := decide_eq_true c6
   clear c6
   obtain rfl := Option.some.inj H
   go_enter Try.func9, Try.ntmps9
   go_wp2_with (first | ((with_reducible refine gate_callee (f := 20) rfl ?_); refine goesL_ (some 19) rfl rfl Try.func20 (by kernel_rfl) rfl #[.slice A0 l0.length c0, .int .i64 1048576] rfl ln_ ?_; (with_reducible refine (laws_szGearS.calls k _ _ l0 1048576 t458 _ ?side1 ?side2 A5.out).mono ?_); (case side1 => exact kc_ HR0.out); (case side2 => exact HC0.out); rintro e w7 ⟨rfl, hb⟩; refine ⟨_, rfl, ?_⟩; have n0_ := Aside0.mk (below_step hb_ hb); clear HB; have HB := n0_; clear n0_; (try clear hb); (try clear hb2); (try clear hk); (try clear hi)))
   go_ret
   exact ⟨ew_, hb_⟩
  ·rw [if_neg c6] at H
   have c6b0 : decide (t458 < 0) = false := decide_eq_false c6
   clear c6
   replace H := Option.bind_eq_some_iff.mp H
   obtain ⟨t459, A80, H⟩ := H
   replace H : (if t459 < 0 then (some true) else ((laws_toGearS.f k l0).bind fun t460 => ((laws_toCheckS.f k l1).bind fun t463 => ((spec_DayOfEnd.f k t460 t463 a2).bind fun bt466 => ((laws_toGearS.f k l0).bind fun t468 => ((laws_toCheckS.f k l1).bind fun t471 => ((impl_DayOfEnd.f k t468 t471 a2).bind fun bt474 => (if bt474.1 = bt466.1 then (laws_FnExactDayOfEnd.j0 k l0 l1 t468 t471 (bt474.2 != bt466.2)) else (laws_FnExactDayOfEnd.j0 k l0 l1 t468 t471 true))))))))) = some r := H
   have A8 := Aside0.mk A80
   clear A80
   by_cases c9 : t459 < 0
   ·rw [if_pos c9] at H
    have c9b0 : decide (t459 < 0) = true := decide_eq_true c9
    clear c9
    obtain rfl := Option.some.inj H
    go_enter Try.func9, Try.ntmps9
    go_wp2_with (first | ((with_reducible refine gate_callee (f := 20) rfl ?_); refine goesL_ (some 19) rfl rfl Try.func20 (by kernel_rfl) rfl #[.slice A0 l0.length c0, .int .i64 1048576] rfl ln_ ?_; (with_reducible refine (laws_szGearS.calls k _ _ l0 1048576 t458 _ ?side1 ?side2 A5.out).mono ?_); (case side1 => exact kc_ HR0.out); (case side2 => exact HC0.out); rintro e w10 ⟨rfl, hb⟩; refine ⟨_, rfl, ?_⟩; have n0_ := Aside0.mk (below_step hb_ hb); clear HB; have HB := n0_; clear n0_; (try clear hb); (try clear hb2); (try clear hk); (try clear hi)) | ((with_reducible refine gate_callee (f := 15) rfl ?_); refine goesL_ (some 24) rfl rfl Try.func15 (by kernel_rfl) rfl #[.slice A1 l1.length c1, .int .i64 t458] rfl ln_ ?_; (with_reducible refine (laws_szCheckS.calls k _ _ l1 t458 t459 _ ?side1 ?side2 A8.out).mono ?_); (case side1 => exact kc_ (Kd.C_below HR1.out HB.out)); (case side2 => exact HC1.out); rintro e w11 ⟨rfl, hb⟩; refine ⟨_, rfl, ?_⟩; have n0_ := Aside0.mk (below_step hb_ hb); clear HB; have HB := n0_; clear n0_; (try clear hb); (try clear hb2); (try clear hk); (try clear hi)))
    go_ret
    exact ⟨ew_, hb_⟩
   ·rw [if_neg c9] at H
    have c9b0 : decide (t459 < 0) = false := decide_eq_false c9
    clear c9
    replace H := Option.bind_eq_some_iff.mp H
    obtain ⟨t460, A120, H⟩ := H
    replace H : ((laws_toCheckS.f k l1).bind fun t463 => ((spec_DayOfEnd.f k t460 t463 a2).bind fun bt466 => ((laws_toGearS.f k l0).bind fun t468 => ((laws_toCheckS.f k l1).bind fun t471 => ((impl_DayOfEnd.f k t468 t471 a2).bind fun bt474 => (if bt474.1 = bt466.1 then (laws_FnExactDayOfEnd.j0 k l0 l1 t468 t471 (bt474.2 != bt466.2)) else (laws_FnExactDayOfEnd.j0 k l0 l1 t468 t471 true))))))) = some r := H
    have A12 := Aside0.mk A120
    clear A120
    replace H := Option.bind_eq_some_iff.mp H
    obtain ⟨t463, A130, H⟩ := H
    replace H : ((spec_DayOfEnd.f k t460 t463 a2).bind fun bt466 => ((laws_toGearS.f k l0).bind fun t468 => ((laws_toCheckS.f k l1).bind fun t471 => ((impl_DayOfEnd.f k t468 t471 a2).bind fun bt474 => (if bt474.1 = bt466.1 then (laws_FnExactDayOfEnd.j0 k l0 l1 t468 t471 (bt474.2 != bt466.2)) else (laws_FnExactDayOfEnd.j0 k l0 l1 t468 t471 true)))))) = some r := H
    have A13 := Aside0.mk A130
    clear A130
    replace H := Option.bind_eq_some_iff.mp H
    obtain ⟨⟨t466, t467⟩, A140, H⟩ := H
    replace H : ((laws_toGearS.f k l0).bind fun t468 => ((laws_toCheckS.f k l1).bind fun t471 => ((impl_DayOfEnd.f k t468 t471 a2).bind fun bt474 => (if bt474.1 = t466 then (laws_FnExactDayOfEnd.j0 k l0 l1 t468 t471 (bt474.2 != t467)) else (laws_FnExactDayOfEnd.j0 k l0 l1 t468 t471 true))))) = some r := H
    have A14 := Aside0.mk A140
    clear A140
    replace H := Option.bind_eq_some_iff.mp H
    obtain ⟨t468, A150, H⟩ := H
    replace H : ((laws_toCheckS.f k l1).bind fun t471 => ((impl_DayOfEnd.f k t468 t471 a2).bind fun bt474 => (if bt474.1 = t466 then (laws_FnExactDayOfEnd.j0 k l0 l1 t468 t471 (bt474.2 != t467)) else (laws_FnExactDayOfEnd.j0 k l0 l1 t468 t471 true)))) = some r := H
    have A15 := Aside0.mk A150
    clear A150
    replace H := Option.bind_eq_some_iff.mp H
    obtain ⟨t471, A160, H⟩ := H
    replace H : ((impl_DayOfEnd.f k t468 t471 a2).bind fun bt474 => (if bt474.1 = t466 then (laws_FnExactDayOfEnd.j0 k l0 l1 t468 t471 (bt474.2 != t467)) else (laws_FnExactDayOfEnd.j0 k l0 l1 t468 t471 true))) = some r := H
    have A16 := Aside0.mk A160
    clear A160
    replace H := Option.bind_eq_some_iff.mp H
    obtain ⟨⟨t474, t475⟩, A170, H⟩ := H
    replace H : (if t474 = t466 then (laws_FnExactDayOfEnd.j0 k l0 l1 t468 t471 (t475 != t467)) else (laws_FnExactDayOfEnd.j0 k l0 l1 t468 t471 true)) = some r := H
    have A17 := Aside0.mk A170
    clear A170
    have HC18 := Aside0.mk H
    clear H
    go_enter Try.func9, Try.ntmps9
    go_upto_region 14 with (first | ((with_reducible refine gate_callee (f := 20) rfl ?_); refine goesL_ (some 19) rfl rfl Try.func20 (by kernel_rfl) rfl #[.slice A0 l0.length c0, .int .i64 1048576] rfl ln_ ?_; (with_reducible refine (laws_szGearS.calls k _ _ l0 1048576 t458 _ ?side1 ?side2 A5.out).mono ?_); (case side1 => exact kc_ HR0.out); (case side2 => exact HC0.out); rintro e w19 ⟨rfl, hb⟩; refine ⟨_, rfl, ?_⟩; have n0_ := Aside0.mk (below_step hb_ hb); clear HB; have HB := n0_; clear n0_; (try clear hb); (try clear hb2); (try clear hk); (try clear hi)) | ((with_reducible refine gate_callee (f := 15) rfl ?_); refine goesL_ (some 24) rfl rfl Try.func15 (by kernel_rfl) rfl #[.slice A1 l1.length c1, .int .i64 t458] rfl ln_ ?_; (with_reducible refine (laws_szCheckS.calls k _ _ l1 t458 t459 _ ?side1 ?side2 A8.out).mono ?_); (case side1 => exact kc_ (Kd.C_below HR1.out HB.out)); (case side2 => exact HC1.out); rintro e w20 ⟨rfl, hb⟩; refine ⟨_, rfl, ?_⟩; have n0_ := Aside0.mk (below_step hb_ hb); clear HB; have HB := n0_; clear n0_; (try clear hb); (try clear hb2); (try clear hk); (try clear hi)) | ((with_reducible refine gate_callee (f := 22) rfl ?_); refine goesL_ (some 29) rfl rfl Try.func22 (by kernel_rfl) rfl #[.slice A0 l0.length c0] rfl ln_ ?_; (with_reducible refine (laws_toGearS.calls k _ _ l0 t460 _ ?side1 ?side2 A12.out).mono ?_); (case side1 => exact kc_ (Kd.C_below HR0.out HB.out)); (case side2 => exact HC0.out); rintro e w21 ⟨v461, rfl, ho0, hb⟩; refine ⟨_, rfl, ?_⟩; have n0_ := Aside0.mk (Kd.R_lower ho0 (below_size hb_)); have n1_ := Aside0.mk (below_step hb_ hb); clear HB; have HO462 := n0_; have HB := n1_; clear n0_ n1_; (try clear hb); (try clear hb2); (try clear hk); (try clear hi); (try clear ho0)) | ((with_reducible refine gate_callee (f := 17) rfl ?_); refine goesL_ (some 31) rfl rfl Try.func17 (by kernel_rfl) rfl #[.slice A1 l1.length c1] rfl ln_ ?_; (with_reducible refine (laws_toCheckS.calls k _ _ l1 t463 _ ?side1 ?side2 A13.out).mono ?_); (case side1 => exact kc_ (Kd.C_below HR1.out HB.out)); (case side2 => exact HC1.out); rintro e w22 ⟨v464, rfl, ho0, hb⟩; refine ⟨_, rfl, ?_⟩; have n0_ := Aside0.mk (Kd.R_below (kr_ HO462) hb); have n1_ := Aside0.mk (Kd.R_lower ho0 (below_size hb_)); have n2_ := Aside0.mk (below_step hb_ hb); clear HO462; clear HB; have HO462 := n0_; have HO465 := n1_; have HB := n2_; clear n0_ n1_ n2_; (try clear hb); (try clear hb2); (try clear hk); (try clear hi); (try clear ho0); obtain ⟨Ao23, co23, eo23⟩ := Kd.R_slice HO462.out; subst eo23; obtain ⟨Ao24, co24, eo24⟩ := Kd.R_slice HO465.out; subst eo24) | ((with_reducible refine gate_callee (f := 35) rfl ?_); refine goesL_ (some 33) rfl rfl Try.func35 (by kernel_rfl) rfl #[.slice Ao23 t460.length co23, .slice Ao24 t463.length co24, .string a2] rfl ln_ ?_; (with_reducible refine (spec_DayOfEnd.calls k _ _ t460 _ _ t463 a2 t466 t467 _ ?side1 ?side2 ?side3 ?side4 A14.out).mono ?_); (case side1 => repeat (first | exact (Kd.R_reads' HO462.out).2.2 | (with_reducible refine Kd.C_alloc ?_ _) | (with_reducible refine Kd.C_drewN ?_ _) | (with_reducible refine Kd.C_drew ?_))); (case side2 => exact (Kd.R_reads' HO462.out).2.1); (case side3 => repeat (first | exact (Kd.R_reads' HO465.out).2.2 | (with_reducible refine Kd.C_alloc ?_ _) | (with_reducible refine Kd.C_drewN ?_ _) | (with_reducible refine Kd.C_drew ?_))); (case side4 => exact (Kd.R_reads' HO465.out).2.1); rintro e w25 ⟨rfl, hb⟩; refine ⟨_, rfl, ?_⟩; have n0_ := Aside0.mk (Kd.R_below (kr_ HO462) hb); have n1_ := Aside0.mk (Kd.R_below (kr_ HO465) hb); have n2_ := Aside0.mk (below_step hb_ hb); clear HO462; clear HO465; clear HB; have HO462 := n0_; have HO465 := n1_; have HB := n2_; clear n0_ n1_ n2_; (try clear hb); (try clear hb2); (try clear hk); (try clear hi)) | ((with_reducible refine gate_callee (f := 22) rfl ?_); refine goesL_ (some 37) rfl rfl Try.func22 (by kernel_rfl) rfl #[.slice A0 l0.length c0] rfl ln_ ?_; (with_reducible refine (laws_toGearS.calls k _ _ l0 t468 _ ?side1 ?side2 A15.out).mono ?_); (case side1 => exact kc_ (Kd.C_below HR0.out HB.out)); (case side2 => exact HC0.out); rintro e w26 ⟨v469, rfl, ho0, hb⟩; refine ⟨_, rfl, ?_⟩; have n0_ := Aside0.mk (Kd.R_elder' (kr_ HO462) (Kd.R_base ho0) hb); have n1_ := Aside0.mk (Kd.R_below (kr_ HO465) hb); have n2_ := Aside0.mk (Kd.R_lower (Kd.R_new' ho0 (Kd.R_lt (kr_ HO462))) (below_size hb_)); have n3_ := Aside0.mk (below_step hb_ hb); clear HO462; clear HO465; clear HB; have HO462 := n0_; have HO465 := n1_; have HO470 := n2_; have HB := n3_; clear n0_ n1_ n2_ n3_; (try clear hb); (try clear hb2); (try clear hk); (try clear hi); (try clear ho0)) | ((with_reducible refine gate_callee (f := 17) rfl ?_); refine goesL_ (some 39) rfl rfl Try.func17 (by kernel_rfl) rfl #[.slice A1 l1.length c1] rfl ln_ ?_; (with_reducible refine (laws_toCheckS.calls k _ _ l1 t471 _ ?side1 ?side2 A16.out).mono ?_); (case side1 => exact kc_ (Kd.C_below HR1.out HB.out)); (case side2 => exact HC1.out); rintro e w27 ⟨v472, rfl, ho0, hb⟩; refine ⟨_, rfl, ?_⟩; have n0_ := Aside0.mk (Kd.R_below (kr_ HO462) hb); have n1_ := Aside0.mk (Kd.R_elder' (kr_ HO465) (Kd.R_base ho0) hb); have n2_ := Aside0.mk (Kd.R_below (kr_ HO470) hb); have n3_ := Aside0.mk (Kd.R_lower (Kd.R_new' ho0 (Kd.R_lt (kr_ HO465))) (below_size hb_)); have n4_ := Aside0.mk (below_step hb_ hb); clear HO462; clear HO465; clear HO470; clear HB; have HO462 := n0_; have HO465 := n1_; have HO470 := n2_; have HO473 := n3_; have HB := n4_; clear n0_ n1_ n2_ n3_ n4_; (try clear hb); (try clear hb2); (try clear hk); (try clear hi); (try clear ho0); obtain ⟨Ao28, co28, eo28⟩ := Kd.R_slice HO470.out; subst eo28; obtain ⟨Ao29, co29, eo29⟩ := Kd.R_slice HO473.out; subst eo29) | ((with_reducible refine gate_callee (f := 36) rfl ?_); refine goesL_ (some 44) rfl rfl Try.func36 (by kernel_rfl) rfl #[.slice Ao28 t468.length co28, .slice Ao29 t471.length co29, .string a2] rfl ln_ ?_; (with_reducible refine (impl_DayOfEnd.calls k _ _ t468 _ _ t471 a2 t474 t475 _ ?side1 ?side2 ?side3 ?side4 A17.out).mono ?_); (case side1 => repeat (first | exact (Kd.R_reads' HO470.out).2.2 | (with_reducible refine Kd.C_alloc ?_ _) | (with_reducible refine Kd.C_drewN ?_ _) | (with_reducible refine Kd.C_drew ?_))); (case side2 => exact (Kd.R_reads' HO470.out).2.1); (case side3 => repeat (first | exact (Kd.R_reads' HO473.out).2.2 | (with_reducible refine Kd.C_alloc ?_ _) | (with_reducible refine Kd.C_drewN ?_ _) | (with_reducible refine Kd.C_drew ?_))); (case side4 => exact (Kd.R_reads' HO473.out).2.1); rintro e w30 ⟨rfl, hb⟩; refine ⟨_, rfl, ?_⟩; have n0_ := Aside0.mk (Kd.R_below (kr_ HO462) hb); have n1_ := Aside0.mk (Kd.R_below (kr_ HO465) hb); have n2_ := Aside0.mk (Kd.R_below (kr_ HO470) hb); have n3_ := Aside0.mk (Kd.R_below (kr_ HO473) hb); have n4_ := Aside0.mk (below_step hb_ hb); clear HO462; clear HO465; clear HO470; clear HO473; clear HB; have HO462 := n0_; have HO465 := n1_; have HO470 := n2_; have HO473 := n3_; have HB := n4_; clear n0_ n1_ n2_ n3_ n4_; (try clear hb); (try clear hb2); (try clear hk); (try clear hi)))
    (try simp only [Act.put, List.setIfInBounds_toArray, List.set_cons_zero, List.set_cons_succ])
    go_cut [54] (fun v54 wc => ∃ (kq : Nat) (x54_17 : Bool), v54 = .bool x54_17 ∧ Aside0 (laws_FnExactDayOfEnd.j0 kq l0 l1 t468 t471 x54_17 = some r) ∧ Aside0 (kq ≤ k) ∧ Aside0 (Kd.R k73 73 wc w.heap.size (fun _ => True) (.slice Ao28 t468.length co28) t468) ∧ Aside0 (Kd.R k53 53 wc w.heap.size (fun _ => True) (.slice Ao29 t471.length co29) t471) ∧ Aside0 (Below w.heap.size w wc))
    case first =>
     have H := HC18.out
     clear HC18
     by_cases c31 : t474 = t466
     ·rw [if_pos c31] at H
      have c31b0 : (t474 == t466) = true := beq_iff_eq.mpr c31
      have c31b1 : (t474 != t466) = false := bne_eq_false_iff_eq.mpr c31
      clear c31
      (first | rw [c31b0] | (simp only [i64_w, i32_w]; rw [c31b0]) | skip)
      have H' := Aside0.mk H
      clear H
      go_wp2
      go_meet
      case rel => exact ⟨_, ((t475 != t467)), (by first | rfl | (simp; done) | (simp [*]; done)), H', ⟨by first | omega | exact Nat.le_refl _⟩, ⟨by (with_reducible repeat (first | apply Kd.R_alloc | apply Kd.R_drewN | apply Kd.R_drew)); exact Kd.R_mono HO470.out (fun _ hk => trivial)⟩, ⟨by (with_reducible repeat (first | apply Kd.R_alloc | apply Kd.R_drewN | apply Kd.R_drew)); exact Kd.R_mono HO473.out (fun _ hk => trivial)⟩, ⟨hb_⟩⟩
     ·rw [if_neg c31] at H
      have c31b0 : (t474 == t466) = false := beq_eq_false_iff_ne.mpr c31
      have c31b1 : (t474 != t466) = true := bne_iff_ne.mpr c31
      (first | rw [c31b0] | (simp only [i64_w, i32_w]; rw [c31b0]) | skip)
      have H' := Aside0.mk H
      clear H
      go_wp2
      go_meet
      case rel => exact ⟨_, (true), (by first | rfl | (simp; done) | (simp [*]; done)), H', ⟨by first | omega | exact Nat.le_refl _⟩, ⟨by (with_reducible repeat (first | apply Kd.R_alloc | apply Kd.R_drewN | apply Kd.R_drew)); exact Kd.R_mono HO470.out (fun _ hk => trivial)⟩, ⟨by (with_reducible repeat (first | apply Kd.R_alloc | apply Kd.R_drewN | apply Kd.R_drew)); exact Kd.R_mono HO473.out (fun _ hk => trivial)⟩, ⟨hb_⟩⟩
    case rest =>
     clear HC18
     try clear c1
     try clear c2
     try clear p2
     try clear c3
     try clear c4
     try clear c4b0
     try clear c4b1
     try clear c6
     try clear c6b0
     try clear c9
     try clear c9b0
     try clear c15
     try clear c17
     try clear c20
     try clear c22
     try clear c31
     try clear c31b0
     try clear c31b1
     obtain ⟨kq, x54_17, rfl, HA, HJ17, HO_10, HO_11, HB⟩ := hcut
     cases kq with
     | zero => exact absurd HA.out (by simp [laws_FnExactDayOfEnd.j0])
     | succ kj17 =>
      have H := HA.out
      clear HA
      simp only [laws_FnExactDayOfEnd.j0] at H
      by_cases c32 : x54_17 = true
      ·subst c32
       have H1 : (some false) = some r := by rw [if_pos rfl] at H; exact H
       clear H
       have H := H1
       clear H1
       obtain rfl := Option.some.inj H
       go_wp2
       go_ret
       exact ⟨ew_, hb_⟩
      ·replace c32 := Bool.eq_false_iff.mpr c32
       subst c32
       have H1 : ((laws_toGearS.f kj17 l0).bind fun t476 => ((laws_eqGearS.f kj17 t468 t476).bind fun t479 => (if t479 = true then ((laws_toCheckS.f kj17 l1).bind fun t480 => ((laws_eqCheckS.f kj17 t471 t480).bind fun t483 => (if t483 = true then (some true) else (some false)))) else (some false)))) = some r := by rw [if_neg (show ¬ (false = true) by decide)] at H; exact H
       clear H
       have H := H1
       clear H1
       replace H := Option.bind_eq_some_iff.mp H
       obtain ⟨t476, A330, H⟩ := H
       replace H : ((laws_eqGearS.f kj17 t468 t476).bind fun t479 => (if t479 = true then ((laws_toCheckS.f kj17 l1).bind fun t480 => ((laws_eqCheckS.f kj17 t471 t480).bind fun t483 => (if t483 = true then (some true) else (some false)))) else (some false))) = some r := H
       have A33 := Aside0.mk A330
       clear A330
       replace H := Option.bind_eq_some_iff.mp H
       obtain ⟨t479, A340, H⟩ := H
       replace H : (if t479 = true then ((laws_toCheckS.f kj17 l1).bind fun t480 => ((laws_eqCheckS.f kj17 t471 t480).bind fun t483 => (if t483 = true then (some true) else (some false)))) else (some false)) = some r := H
       have A34 := Aside0.mk A340
       clear A340
       by_cases c35 : t479 = true
       ·subst c35
        have H1 : ((laws_toCheckS.f kj17 l1).bind fun t480 => ((laws_eqCheckS.f kj17 t471 t480).bind fun t483 => (if t483 = true then (some true) else (some false)))) = some r := by rw [if_pos rfl] at H; exact H
        clear H
        have H := H1
        clear H1
        replace H := Option.bind_eq_some_iff.mp H
        obtain ⟨t480, A360, H⟩ := H
        replace H : ((laws_eqCheckS.f kj17 t471 t480).bind fun t483 => (if t483 = true then (some true) else (some false))) = some r := H
        have A36 := Aside0.mk A360
        clear A360
        replace H := Option.bind_eq_some_iff.mp H
        obtain ⟨t483, A370, H⟩ := H
        replace H : (if t483 = true then (some true) else (some false)) = some r := H
        have A37 := Aside0.mk A370
        clear A370
        by_cases c38 : t483 = true
        ·subst c38
         have H1 : (some true) = some r := by rw [if_pos rfl] at H; exact H
         clear H
         have H := H1
         clear H1
         obtain rfl := Option.some.inj H
         go_wp2_with (first | ((with_reducible refine gate_callee (f := 22) rfl ?_); refine goesL_ (some 57) rfl rfl Try.func22 (by kernel_rfl) rfl #[.slice A0 l0.length c0] rfl ln_ ?_; (with_reducible refine (laws_toGearS.calls kj17 _ _ l0 t476 _ ?side1 ?side2 A33.out).mono ?_); (case side1 => exact kc_ (Kd.C_below HR0.out HB.out)); (case side2 => exact HC0.out); rintro e w39 ⟨v477, rfl, ho0, hb⟩; refine ⟨_, rfl, ?_⟩; have n0_ := Aside0.mk (Kd.R_elder' (kr_ HO_10) (Kd.R_base ho0) hb); have n1_ := Aside0.mk (Kd.R_below (kr_ HO_11) hb); have n2_ := Aside0.mk (Kd.R_lower (Kd.R_new' ho0 (Kd.R_lt (kr_ HO_10))) (below_size hb_)); have n3_ := Aside0.mk (below_step hb_ hb); clear HO_10; clear HO_11; clear HB; have HO_10 := n0_; have HO_11 := n1_; have HO478 := n2_; have HB := n3_; clear n0_ n1_ n2_ n3_; (try clear hb); (try clear hb2); (try clear hk); (try clear hi); (try clear ho0); obtain ⟨Ao40, co40, eo40⟩ := Kd.R_slice HO478.out; subst eo40) | ((with_reducible refine gate_callee (f := 24) rfl ?_); refine goesL_ (some 58) rfl rfl Try.func24 (by kernel_rfl) rfl #[.slice Ao28 t468.length co28, .slice Ao40 t476.length co40] rfl ln_ ?_; (with_reducible refine (laws_eqGearS.calls kj17 _ _ t468 _ _ t476 true _ ?side1 ?side2 ?side3 ?side4 A34.out).mono ?_); (case side1 => repeat (first | exact (Kd.R_reads' HO_10.out).2.2 | (with_reducible refine Kd.C_alloc ?_ _) | (with_reducible refine Kd.C_drewN ?_ _) | (with_reducible refine Kd.C_drew ?_))); (case side2 => exact (Kd.R_reads' HO_10.out).2.1); (case side3 => repeat (first | exact (Kd.R_reads' HO478.out).2.2 | (with_reducible refine Kd.C_alloc ?_ _) | (with_reducible refine Kd.C_drewN ?_ _) | (with_reducible refine Kd.C_drew ?_))); (case side4 => exact (Kd.R_reads' HO478.out).2.1); rintro e w41 ⟨rfl, hb⟩; refine ⟨_, rfl, ?_⟩; have n0_ := Aside0.mk (Kd.R_below (kr_ HO_10) hb); have n1_ := Aside0.mk (Kd.R_below (kr_ HO_11) hb); have n2_ := Aside0.mk (Kd.R_below (kr_ HO478) hb); have n3_ := Aside0.mk (below_step hb_ hb); clear HO_10; clear HO_11; clear HO478; clear HB; have HO_10 := n0_; have HO_11 := n1_; have HO478 := n2_; have HB := n3_; clear n0_ n1_ n2_ n3_; (try clear hb); (try clear hb2); (try clear hk); (try clear hi)) | ((with_reducible refine gate_callee (f := 17) rfl ?_); refine goesL_ (some 62) rfl rfl Try.func17 (by kernel_rfl) rfl #[.slice A1 l1.length c1] rfl ln_ ?_; (with_reducible refine (laws_toCheckS.calls kj17 _ _ l1 t480 _ ?side1 ?side2 A36.out).mono ?_); (case side1 => exact kc_ (Kd.C_below HR1.out HB.out)); (case side2 => exact HC1.out); rintro e w42 ⟨v481, rfl, ho0, hb⟩; refine ⟨_, rfl, ?_⟩; have n0_ := Aside0.mk (Kd.R_below (kr_ HO_10) hb); have n1_ := Aside0.mk (Kd.R_elder' (kr_ HO_11) (Kd.R_base ho0) hb); have n2_ := Aside0.mk (Kd.R_below (kr_ HO478) hb); have n3_ := Aside0.mk (Kd.R_lower (Kd.R_new' ho0 (Kd.R_lt (kr_ HO_11))) (below_size hb_)); have n4_ := Aside0.mk (below_step hb_ hb); clear HO_10; clear HO_11; clear HO478; clear HB; have HO_10 := n0_; have HO_11 := n1_; have HO478 := n2_; have HO482 := n3_; have HB := n4_; clear n0_ n1_ n2_ n3_ n4_; (try clear hb); (try clear hb2); (try clear hk); (try clear hi); (try clear ho0); obtain ⟨Ao43, co43, eo43⟩ := Kd.R_slice HO482.out; subst eo43) | ((with_reducible refine gate_callee (f := 19) rfl ?_); refine goesL_ (some 63) rfl rfl Try.func19 (by kernel_rfl) rfl #[.slice Ao29 t471.length co29, .slice Ao43 t480.length co43] rfl ln_ ?_; (with_reducible refine (laws_eqCheckS.calls kj17 _ _ t471 _ _ t480 true _ ?side1 ?side2 ?side3 ?side4 A37.out).mono ?_); (case side1 => repeat (first | exact (Kd.R_reads' HO_11.out).2.2 | (with_reducible refine Kd.C_alloc ?_ _) | (with_reducible refine Kd.C_drewN ?_ _) | (with_reducible refine Kd.C_drew ?_))); (case side2 => exact (Kd.R_reads' HO_11.out).2.1); (case side3 => repeat (first | exact (Kd.R_reads' HO482.out).2.2 | (with_reducible refine Kd.C_alloc ?_ _) | (with_reducible refine Kd.C_drewN ?_ _) | (with_reducible refine Kd.C_drew ?_))); (case side4 => exact (Kd.R_reads' HO482.out).2.1); rintro e w44 ⟨rfl, hb⟩; refine ⟨_, rfl, ?_⟩; have n0_ := Aside0.mk (Kd.R_below (kr_ HO_10) hb); have n1_ := Aside0.mk (Kd.R_below (kr_ HO_11) hb); have n2_ := Aside0.mk (Kd.R_below (kr_ HO478) hb); have n3_ := Aside0.mk (Kd.R_below (kr_ HO482) hb); have n4_ := Aside0.mk (below_step hb_ hb); clear HO_10; clear HO_11; clear HO478; clear HO482; clear HB; have HO_10 := n0_; have HO_11 := n1_; have HO478 := n2_; have HO482 := n3_; have HB := n4_; clear n0_ n1_ n2_ n3_ n4_; (try clear hb); (try clear hb2); (try clear hk); (try clear hi)))
         go_ret
         exact ⟨ew_, hb_⟩
        ·replace c38 := Bool.eq_false_iff.mpr c38
         subst c38
         have H1 : (some false) = some r := by rw [if_neg (show ¬ (false = true) by decide)] at H; exact H
         clear H
         have H := H1
         clear H1
         obtain rfl := Option.some.inj H
         go_wp2_with (first | ((with_reducible refine gate_callee (f := 22) rfl ?_); refine goesL_ (some 57) rfl rfl Try.func22 (by kernel_rfl) rfl #[.slice A0 l0.length c0] rfl ln_ ?_; (with_reducible refine (laws_toGearS.calls kj17 _ _ l0 t476 _ ?side1 ?side2 A33.out).mono ?_); (case side1 => exact kc_ (Kd.C_below HR0.out HB.out)); (case side2 => exact HC0.out); rintro e w45 ⟨v477, rfl, ho0, hb⟩; refine ⟨_, rfl, ?_⟩; have n0_ := Aside0.mk (Kd.R_elder' (kr_ HO_10) (Kd.R_base ho0) hb); have n1_ := Aside0.mk (Kd.R_below (kr_ HO_11) hb); have n2_ := Aside0.mk (Kd.R_lower (Kd.R_new' ho0 (Kd.R_lt (kr_ HO_10))) (below_size hb_)); have n3_ := Aside0.mk (below_step hb_ hb); clear HO_10; clear HO_11; clear HB; have HO_10 := n0_; have HO_11 := n1_; have HO478 := n2_; have HB := n3_; clear n0_ n1_ n2_ n3_; (try clear hb); (try clear hb2); (try clear hk); (try clear hi); (try clear ho0); obtain ⟨Ao46, co46, eo46⟩ := Kd.R_slice HO478.out; subst eo46) | ((with_reducible refine gate_callee (f := 24) rfl ?_); refine goesL_ (some 58) rfl rfl Try.func24 (by kernel_rfl) rfl #[.slice Ao28 t468.length co28, .slice Ao46 t476.length co46] rfl ln_ ?_; (with_reducible refine (laws_eqGearS.calls kj17 _ _ t468 _ _ t476 true _ ?side1 ?side2 ?side3 ?side4 A34.out).mono ?_); (case side1 => repeat (first | exact (Kd.R_reads' HO_10.out).2.2 | (with_reducible refine Kd.C_alloc ?_ _) | (with_reducible refine Kd.C_drewN ?_ _) | (with_reducible refine Kd.C_drew ?_))); (case side2 => exact (Kd.R_reads' HO_10.out).2.1); (case side3 => repeat (first | exact (Kd.R_reads' HO478.out).2.2 | (with_reducible refine Kd.C_alloc ?_ _) | (with_reducible refine Kd.C_drewN ?_ _) | (with_reducible refine Kd.C_drew ?_))); (case side4 => exact (Kd.R_reads' HO478.out).2.1); rintro e w47 ⟨rfl, hb⟩; refine ⟨_, rfl, ?_⟩; have n0_ := Aside0.mk (Kd.R_below (kr_ HO_10) hb); have n1_ := Aside0.mk (Kd.R_below (kr_ HO_11) hb); have n2_ := Aside0.mk (Kd.R_below (kr_ HO478) hb); have n3_ := Aside0.mk (below_step hb_ hb); clear HO_10; clear HO_11; clear HO478; clear HB; have HO_10 := n0_; have HO_11 := n1_; have HO478 := n2_; have HB := n3_; clear n0_ n1_ n2_ n3_; (try clear hb); (try clear hb2); (try clear hk); (try clear hi)) | ((with_reducible refine gate_callee (f := 17) rfl ?_); refine goesL_ (some 62) rfl rfl Try.func17 (by kernel_rfl) rfl #[.slice A1 l1.length c1] rfl ln_ ?_; (with_reducible refine (laws_toCheckS.calls kj17 _ _ l1 t480 _ ?side1 ?side2 A36.out).mono ?_); (case side1 => exact kc_ (Kd.C_below HR1.out HB.out)); (case side2 => exact HC1.out); rintro e w48 ⟨v481, rfl, ho0, hb⟩; refine ⟨_, rfl, ?_⟩; have n0_ := Aside0.mk (Kd.R_below (kr_ HO_10) hb); have n1_ := Aside0.mk (Kd.R_elder' (kr_ HO_11) (Kd.R_base ho0) hb); have n2_ := Aside0.mk (Kd.R_below (kr_ HO478) hb); have n3_ := Aside0.mk (Kd.R_lower (Kd.R_new' ho0 (Kd.R_lt (kr_ HO_11))) (below_size hb_)); have n4_ := Aside0.mk (below_step hb_ hb); clear HO_10; clear HO_11; clear HO478; clear HB; have HO_10 := n0_; have HO_11 := n1_; have HO478 := n2_; have HO482 := n3_; have HB := n4_; clear n0_ n1_ n2_ n3_ n4_; (try clear hb); (try clear hb2); (try clear hk); (try clear hi); (try clear ho0); obtain ⟨Ao49, co49, eo49⟩ := Kd.R_slice HO482.out; subst eo49) | ((with_reducible refine gate_callee (f := 19) rfl ?_); refine goesL_ (some 63) rfl rfl Try.func19 (by kernel_rfl) rfl #[.slice Ao29 t471.length co29, .slice Ao49 t480.length co49] rfl ln_ ?_; (with_reducible refine (laws_eqCheckS.calls kj17 _ _ t471 _ _ t480 false _ ?side1 ?side2 ?side3 ?side4 A37.out).mono ?_); (case side1 => repeat (first | exact (Kd.R_reads' HO_11.out).2.2 | (with_reducible refine Kd.C_alloc ?_ _) | (with_reducible refine Kd.C_drewN ?_ _) | (with_reducible refine Kd.C_drew ?_))); (case side2 => exact (Kd.R_reads' HO_11.out).2.1); (case side3 => repeat (first | exact (Kd.R_reads' HO482.out).2.2 | (with_reducible refine Kd.C_alloc ?_ _) | (with_reducible refine Kd.C_drewN ?_ _) | (with_reducible refine Kd.C_drew ?_))); (case side4 => exact (Kd.R_reads' HO482.out).2.1); rintro e w50 ⟨rfl, hb⟩; refine ⟨_, rfl, ?_⟩; have n0_ := Aside0.mk (Kd.R_below (kr_ HO_10) hb); have n1_ := Aside0.mk (Kd.R_below (kr_ HO_11) hb); have n2_ := Aside0.mk (Kd.R_below (kr_ HO478) hb); have n3_ := Aside0.mk (Kd.R_below (kr_ HO482) hb); have n4_ := Aside0.mk (below_step hb_ hb); clear HO_10; clear HO_11; clear HO478; clear HO482; clear HB; have HO_10 := n0_; have HO_11 := n1_; have HO478 := n2_; have HO482 := n3_; have HB := n4_; clear n0_ n1_ n2_ n3_ n4_; (try clear hb); (try clear hb2); (try clear hk); (try clear hi)))
         go_ret
         exact ⟨ew_, hb_⟩
       ·replace c35 := Bool.eq_false_iff.mpr c35
        subst c35
        have H1 : (some false) = some r := by rw [if_neg (show ¬ (false = true) by decide)] at H; exact H
        clear H
        have H := H1
        clear H1
        obtain rfl := Option.some.inj H
        go_wp2_with (first | ((with_reducible refine gate_callee (f := 22) rfl ?_); refine goesL_ (some 57) rfl rfl Try.func22 (by kernel_rfl) rfl #[.slice A0 l0.length c0] rfl ln_ ?_; (with_reducible refine (laws_toGearS.calls kj17 _ _ l0 t476 _ ?side1 ?side2 A33.out).mono ?_); (case side1 => exact kc_ (Kd.C_below HR0.out HB.out)); (case side2 => exact HC0.out); rintro e w51 ⟨v477, rfl, ho0, hb⟩; refine ⟨_, rfl, ?_⟩; have n0_ := Aside0.mk (Kd.R_elder' (kr_ HO_10) (Kd.R_base ho0) hb); have n1_ := Aside0.mk (Kd.R_below (kr_ HO_11) hb); have n2_ := Aside0.mk (Kd.R_lower (Kd.R_new' ho0 (Kd.R_lt (kr_ HO_10))) (below_size hb_)); have n3_ := Aside0.mk (below_step hb_ hb); clear HO_10; clear HO_11; clear HB; have HO_10 := n0_; have HO_11 := n1_; have HO478 := n2_; have HB := n3_; clear n0_ n1_ n2_ n3_; (try clear hb); (try clear hb2); (try clear hk); (try clear hi); (try clear ho0); obtain ⟨Ao52, co52, eo52⟩ := Kd.R_slice HO478.out; subst eo52) | ((with_reducible refine gate_callee (f := 24) rfl ?_); refine goesL_ (some 58) rfl rfl Try.func24 (by kernel_rfl) rfl #[.slice Ao28 t468.length co28, .slice Ao52 t476.length co52] rfl ln_ ?_; (with_reducible refine (laws_eqGearS.calls kj17 _ _ t468 _ _ t476 false _ ?side1 ?side2 ?side3 ?side4 A34.out).mono ?_); (case side1 => repeat (first | exact (Kd.R_reads' HO_10.out).2.2 | (with_reducible refine Kd.C_alloc ?_ _) | (with_reducible refine Kd.C_drewN ?_ _) | (with_reducible refine Kd.C_drew ?_))); (case side2 => exact (Kd.R_reads' HO_10.out).2.1); (case side3 => repeat (first | exact (Kd.R_reads' HO478.out).2.2 | (with_reducible refine Kd.C_alloc ?_ _) | (with_reducible refine Kd.C_drewN ?_ _) | (with_reducible refine Kd.C_drew ?_))); (case side4 => exact (Kd.R_reads' HO478.out).2.1); rintro e w53 ⟨rfl, hb⟩; refine ⟨_, rfl, ?_⟩; have n0_ := Aside0.mk (Kd.R_below (kr_ HO_10) hb); have n1_ := Aside0.mk (Kd.R_below (kr_ HO_11) hb); have n2_ := Aside0.mk (Kd.R_below (kr_ HO478) hb); have n3_ := Aside0.mk (below_step hb_ hb); clear HO_10; clear HO_11; clear HO478; clear HB; have HO_10 := n0_; have HO_11 := n1_; have HO478 := n2_; have HB := n3_; clear n0_ n1_ n2_ n3_; (try clear hb); (try clear hb2); (try clear hk); (try clear hi)))
        go_ret
        exact ⟨ew_, hb_⟩

end Go.Proofs.Ytdbigcfpinpnpaa.P
