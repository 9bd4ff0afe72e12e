-- Written by gprint.py (own program, over the printer of the kit) out of the translation. Lean checks it.
import Derived.Test.YtdbigcfpinpnpaaPx0
import Derived.Test.YtdbigcfpinpnpaaPx2
import Derived.Test.YtdbigcfpinpnpaaPx4
import Derived.Test.YtdbigcfpinpnpaaPx6
import Derived.Test.YtdbigcfpinpnpaaPx10
import Derived.Test.YtdbigcfpinpnpaaPx12
import Derived.Test.YtdbigcfpinpnpaaPx14
import Derived.Test.YtdbigcfpinpnpaaWPk
namespace Go.Proofs.Ytdbigcfpinpnpaa.P
open Go.RowKit Go.Proofs.YtdbigcfpinpnpaaW.PrintWords Go.Proofs.YtdbigcfpinpnpaaW.PrintLast Go.Proofs.YtdbigcfpinpnpaaW.PrintMore Go.Proofs.YtdbigcfpinpnpaaW.Pk
open Bool renaming true → T_, false → F_
attribute [local go_sem] max2_int min2_int max_two min_two max_three min_three max_four min_four   -- for this text's walks alone
set_option linter.unusedVariables false
set_option linter.unusedSimpArgs false

/-! ### spec_WearOn: function 31 -/
def spec_WearOn.f (k : Nat) (l0 : List (S73)) (l1 : List (S53)) (a2 : ByteArray) (a3 : Int) : Option (Int × Int) := (spec_l21Checks.f k l0 l1).bind fun t350 => (if t350 = true then ((spec_l21Day.f a3).bind fun t351 => (if t351 = true then ((spec_l21Named.f k l0 l1 a2).bind fun bt352 => (if bt352.2 = 0 then (if 0 ≤ bt352.1 then (if bt352.1 < (l0.length : Int) then ((spec_l21Wear.f k ((rd_T73 l0 bt352.1).f0) ((rd_T73 l0 bt352.1).f1) ((rd_T73 l0 bt352.1).f2) ((rd_T73 l0 bt352.1).f3) l1 a3).bind fun t355 => (some (t355, 0))) else (none)) else (none)) else (some (0, bt352.2)))) else (some (0, 2)))) else (some (0, 1)))
theorem spec_WearOn.mono : ∀ a0 a1 a2 a3 k, LeO (spec_WearOn.f k a0 a1 a2 a3) (spec_WearOn.f (k + 1) a0 a1 a2 a3) := by
 intro a0 a1 a2 a3 k
 unfold spec_WearOn.f
 repeat' first
   | (with_reducible exact spec_l21Checks.mono _ _ _)
   | (with_reducible exact spec_l21Named.mono _ _ _ _)
   | (with_reducible exact spec_l21Wear.mono _ _ _ _ _ _ _)
   | (with_reducible exact LeO.refl _)
   | (with_reducible exact LeO.none _)
   | (with_reducible refine LeO.ite ?_ ?_)
   | (with_reducible refine LeO.bind ?_ (fun _ => ?_))
   | exact spec_l21Checks.mono _ _ _
   | exact spec_l21Named.mono _ _ _ _
   | exact spec_l21Wear.mono _ _ _ _ _ _ _
   | exact LeO.none _
   | refine LeO.ite ?_ ?_
   | refine LeO.bind ?_ (fun _ => ?_)
set_option maxHeartbeats 8000000 in
set_option maxRecDepth 100000 in
theorem spec_WearOn.calls (k : Nat) (A0 : Option Addr) (c0 : Nat) (l0 : List (S73)) (A1 : Option Addr) (c1 : Nat) (l1 : List (S53)) (a2 : ByteArray) (a3 : Int) (r1 : Int) (r2 : Int) (w : World) (hr0 : Kd.C k73 w A0 l0.length l0) (hc0 : l0.length ≤ c0) (hr1 : Kd.C k53 w A1 l1.length l1) (hc1 : l1.length ≤ c1) (h : spec_WearOn.f k l0 l1 a2 a3 = some (r1, r2)) :
  Calls Try.prog 31 #[.slice A0 l0.length c0, .slice A1 l1.length c1, .string a2, .int .i64 a3] w fun e w' => e = .returned (.tuple #[.int .i64 r1, .int .i64 r2]) ∧ Below w.heap.size w w' := by
 have HR0 := Aside0.mk hr0
 have HC0 := Aside0.mk hc0
 clear hr0 hc0
 have HR1 := Aside0.mk hr1
 have HC1 := Aside0.mk hc1
 clear hr1 hc1
 have HB := Aside0.mk (Below.refl w.heap.size w)
 have H : ((spec_l21Checks.f k l0 l1).bind fun t350 => (if t350 = true then ((spec_l21Day.f a3).bind fun t351 => (if t351 = true then ((spec_l21Named.f k l0 l1 a2).bind fun bt352 => (if bt352.2 = 0 then (if 0 ≤ bt352.1 then (if bt352.1 < (l0.length : Int) then ((spec_l21Wear.f k ((rd_T73 l0 bt352.1).f0) ((rd_T73 l0 bt352.1).f1) ((rd_T73 l0 bt352.1).f2) ((rd_T73 l0 bt352.1).f3) l1 a3).bind fun t355 => (some (t355, 0))) else (none)) else (none)) else (some (0, bt352.2)))) else (some (0, 2)))) else (some (0, 1)))) = some (r1, r2) := h
 clear h
 replace H := Option.bind_eq_some_iff.mp H
 obtain ⟨t350, A50, H⟩ := H
 replace H : (if t350 = true then ((spec_l21Day.f a3).bind fun t351 => (if t351 = true then ((spec_l21Named.f k l0 l1 a2).bind fun bt352 => (if bt352.2 = 0 then (if 0 ≤ bt352.1 then (if bt352.1 < (l0.length : Int) then ((spec_l21Wear.f k ((rd_T73 l0 bt352.1).f0) ((rd_T73 l0 bt352.1).f1) ((rd_T73 l0 bt352.1).f2) ((rd_T73 l0 bt352.1).f3) l1 a3).bind fun t355 => (some (t355, 0))) else (none)) else (none)) else (some (0, bt352.2)))) else (some (0, 2)))) else (some (0, 1))) = some (r1, r2) := H
 have A5 := Aside0.mk A50
 clear A50
 by_cases c6 : t350 = true
 ·subst c6
  have H1 : ((spec_l21Day.f a3).bind fun t351 => (if t351 = true then ((spec_l21Named.f k l0 l1 a2).bind fun bt352 => (if bt352.2 = 0 then (if 0 ≤ bt352.1 then (if bt352.1 < (l0.length : Int) then ((spec_l21Wear.f k ((rd_T73 l0 bt352.1).f0) ((rd_T73 l0 bt352.1).f1) ((rd_T73 l0 bt352.1).f2) ((rd_T73 l0 bt352.1).f3) l1 a3).bind fun t355 => (some (t355, 0))) else (none)) else (none)) else (some (0, bt352.2)))) else (some (0, 2)))) = some (r1, r2) := by rw [if_pos rfl] at H; exact H
  clear H
  have H := H1
  clear H1
  replace H := Option.bind_eq_some_iff.mp H
  obtain ⟨t351, A70, H⟩ := H
  replace H : (if t351 = true then ((spec_l21Named.f k l0 l1 a2).bind fun bt352 => (if bt352.2 = 0 then (if 0 ≤ bt352.1 then (if bt352.1 < (l0.length : Int) then ((spec_l21Wear.f k ((rd_T73 l0 bt352.1).f0) ((rd_T73 l0 bt352.1).f1) ((rd_T73 l0 bt352.1).f2) ((rd_T73 l0 bt352.1).f3) l1 a3).bind fun t355 => (some (t355, 0))) else (none)) else (none)) else (some (0, bt352.2)))) else (some (0, 2))) = some (r1, r2) := H
  have A7 := Aside0.mk A70
  clear A70
  by_cases c8 : t351 = true
  ·subst c8
   have H1 : ((spec_l21Named.f k l0 l1 a2).bind fun bt352 => (if bt352.2 = 0 then (if 0 ≤ bt352.1 then (if bt352.1 < (l0.length : Int) then ((spec_l21Wear.f k ((rd_T73 l0 bt352.1).f0) ((rd_T73 l0 bt352.1).f1) ((rd_T73 l0 bt352.1).f2) ((rd_T73 l0 bt352.1).f3) l1 a3).bind fun t355 => (some (t355, 0))) else (none)) else (none)) else (some (0, bt352.2)))) = some (r1, r2) := by rw [if_pos rfl] at H; exact H
   clear H
   have H := H1
   clear H1
   replace H := Option.bind_eq_some_iff.mp H
   obtain ⟨⟨t352, t353⟩, A90, H⟩ := H
   replace H : (if t353 = 0 then (if 0 ≤ t352 then (if t352 < (l0.length : Int) then ((spec_l21Wear.f k ((rd_T73 l0 t352).f0) ((rd_T73 l0 t352).f1) ((rd_T73 l0 t352).f2) ((rd_T73 l0 t352).f3) l1 a3).bind fun t355 => (some (t355, 0))) else (none)) else (none)) else (some (0, t353))) = some (r1, r2) := H
   have A9 := Aside0.mk A90
   clear A90
   by_cases c10 : t353 = 0
   ·rw [if_pos c10] at H
    have c10b0 : (t353 == 0) = true := beq_iff_eq.mpr c10
    have c10b1 : (t353 != 0) = false := bne_eq_false_iff_eq.mpr c10
    clear c10
    by_cases c11 : 0 ≤ t352
    ·rw [if_pos c11] at H
     have c11b0 : decide (0 ≤ t352) = true := decide_eq_true c11
     clear c11
     by_cases c12 : t352 < (l0.length : Int)
     ·rw [if_pos c12] at H
      have c12b0 : decide (t352 < (l0.length : Int)) = true := decide_eq_true c12
      clear c12
      replace H := Option.bind_eq_some_iff.mp H
      obtain ⟨t355, A130, H⟩ := H
      replace H : (some (t355, 0)) = some (r1, r2) := H
      have A13 := Aside0.mk A130
      clear A130
      simp only [Option.some.injEq, Prod.mk.injEq] at H
      obtain ⟨rfl, rfl⟩ := H
      go_enter Try.func31, Try.ntmps31
      go_wp2_with (first | ((with_reducible refine gate_callee (f := 63) rfl ?_); refine goesL_ (some 14) rfl rfl Try.func63 (by kernel_rfl) rfl #[.slice A0 l0.length c0, .slice A1 l1.length c1] rfl ln_ ?_; (with_reducible refine (spec_l21Checks.calls k _ _ l0 _ _ l1 true _ ?side1 ?side2 ?side3 ?side4 A5.out).mono ?_); (case side1 => repeat (first | exact HR0.out | (with_reducible refine Kd.C_alloc ?_ _) | (with_reducible refine Kd.C_drewN ?_ _) | (with_reducible refine Kd.C_drew ?_))); (case side2 => exact HC0.out); (case side3 => repeat (first | exact HR1.out | (with_reducible refine Kd.C_alloc ?_ _) | (with_reducible refine Kd.C_drewN ?_ _) | (with_reducible refine Kd.C_drew ?_))); (case side4 => exact HC1.out); rintro e w14 ⟨rfl, hb⟩; refine ⟨_, rfl, ?_⟩; have n0_ := Aside0.mk (below_step hb_ hb); clear HB; have HB := n0_; clear n0_; (try clear hb); (try clear hb2); (try clear hk); (try clear hi)) | ((with_reducible refine gate_callee (f := 65) rfl ?_); refine goesL_ (some 17) rfl rfl Try.func65 (by kernel_rfl) rfl #[.int .i64 a3] rfl ln_ ?_; (with_reducible refine (spec_l21Day.calls a3 true _ A7.out).mono ?_); rintro e w' ⟨rfl, ⟨nd, rfl⟩⟩; refine ⟨_, rfl, ?_⟩) | ((with_reducible refine gate_callee (f := 69) rfl ?_); refine goesL_ (some 23) rfl rfl Try.func69 (by kernel_rfl) rfl #[.slice A0 l0.length c0, .slice A1 l1.length c1, .string a2] rfl ln_ ?_; (with_reducible refine (spec_l21Named.calls k _ _ l0 _ _ l1 a2 t352 t353 _ ?side1 ?side2 ?side3 ?side4 A9.out).mono ?_); (case side1 => repeat (first | exact (Kd.C_below HR0.out hb_) | (with_reducible refine Kd.C_alloc ?_ _) | (with_reducible refine Kd.C_drewN ?_ _) | (with_reducible refine Kd.C_drew ?_))); (case side2 => exact HC0.out); (case side3 => repeat (first | exact (Kd.C_below HR1.out hb_) | (with_reducible refine Kd.C_alloc ?_ _) | (with_reducible refine Kd.C_drewN ?_ _) | (with_reducible refine Kd.C_drew ?_))); (case side4 => exact HC1.out); rintro e w15 ⟨rfl, hb⟩; refine ⟨_, rfl, ?_⟩; have n0_ := Aside0.mk (below_step hb_ hb); clear HB; have HB := n0_; clear n0_; (try clear hb); (try clear hb2); (try clear hk); (try clear hi); have p354 : 0 ≤ (t352 : Int) := od_; have q354 : t352 < (l0.length : Int) := od_; obtain ⟨ad354, e354, hx354_0, hx354_1, hx354_2, hx354_3⟩ := at_T73 HR0.out t352 p354 q354; cases e354; replace hx354_0 := cq_ HB hx354_0; replace hx354_1 := cq_ HB hx354_1; replace hx354_2 := cq_ HB hx354_2; replace hx354_3 := cq_ HB hx354_3; replace p354 := eq_true p354; replace q354 := eq_true q354) | ((with_reducible refine gate_callee (f := 70) rfl ?_); refine goesL_ (some 34) rfl rfl Try.func70 (by kernel_rfl) rfl #[.pointer (some (ad354.add ((t352).toNat * 4))), .slice A1 l1.length c1, .int .i64 a3] rfl ln_ ?_; (with_reducible refine (spec_l21Wear.calls k _ ((rd_T73 l0 t352).f0) ((rd_T73 l0 t352).f1) ((rd_T73 l0 t352).f2) ((rd_T73 l0 t352).f3) _ _ l1 a3 t355 _ ?side1 ?side2 ?side3 ?side4 ?side5 ?side6 A13.out).mono ?_); (case side1 => repeat (first | exact (Kd.C_below HR1.out HB.out) | (with_reducible refine Kd.C_alloc ?_ _) | (with_reducible refine Kd.C_drewN ?_ _) | (with_reducible refine Kd.C_drew ?_))); (case side2 => exact HC1.out); (case side3 => first | exact hx354_0 | (simpa using hx354_0) | (go_simp; done)); (case side4 => first | exact hx354_1 | (simpa using hx354_1) | (go_simp; done)); (case side5 => first | exact hx354_2 | (simpa using hx354_2) | (go_simp; done)); (case side6 => first | exact hx354_3 | (simpa using hx354_3) | (go_simp; done)); rintro e w16 ⟨rfl, hb⟩; refine ⟨_, rfl, ?_⟩; have n0_ := Aside0.mk (below_step hb_ hb); clear HB; have HB := n0_; clear n0_; (try clear hb); (try clear hb2); (try clear hk); (try clear hi)))
      go_ret2
      exact ⟨ew_, hb_⟩
     ·rw [if_neg c12] at H
      exact absurd H (by simp)
    ·rw [if_neg c11] at H
     exact absurd H (by simp)
   ·rw [if_neg c10] at H
    have c10b0 : (t353 == 0) = false := beq_eq_false_iff_ne.mpr c10
    have c10b1 : (t353 != 0) = true := bne_iff_ne.mpr c10
    simp only [Option.some.injEq, Prod.mk.injEq] at H
    obtain ⟨rfl, rfl⟩ := H
    go_enter Try.func31, Try.ntmps31
    go_wp2_with (first | ((with_reducible refine gate_callee (f := 63) rfl ?_); refine goesL_ (some 14) rfl rfl Try.func63 (by kernel_rfl) rfl #[.slice A0 l0.length c0, .slice A1 l1.length c1] rfl ln_ ?_; (with_reducible refine (spec_l21Checks.calls k _ _ l0 _ _ l1 true _ ?side1 ?side2 ?side3 ?side4 A5.out).mono ?_); (case side1 => repeat (first | exact HR0.out | (with_reducible refine Kd.C_alloc ?_ _) | (with_reducible refine Kd.C_drewN ?_ _) | (with_reducible refine Kd.C_drew ?_))); (case side2 => exact HC0.out); (case side3 => repeat (first | exact HR1.out | (with_reducible refine Kd.C_alloc ?_ _) | (with_reducible refine Kd.C_drewN ?_ _) | (with_reducible refine Kd.C_drew ?_))); (case side4 => exact HC1.out); rintro e w17 ⟨rfl, hb⟩; refine ⟨_, rfl, ?_⟩; have n0_ := Aside0.mk (below_step hb_ hb); clear HB; have HB := n0_; clear n0_; (try clear hb); (try clear hb2); (try clear hk); (try clear hi)) | ((with_reducible refine gate_callee (f := 65) rfl ?_); refine goesL_ (some 17) rfl rfl Try.func65 (by kernel_rfl) rfl #[.int .i64 a3] rfl ln_ ?_; (with_reducible refine (spec_l21Day.calls a3 true _ A7.out).mono ?_); rintro e w' ⟨rfl, ⟨nd, rfl⟩⟩; refine ⟨_, rfl, ?_⟩) | ((with_reducible refine gate_callee (f := 69) rfl ?_); refine goesL_ (some 23) rfl rfl Try.func69 (by kernel_rfl) rfl #[.slice A0 l0.length c0, .slice A1 l1.length c1, .string a2] rfl ln_ ?_; (with_reducible refine (spec_l21Named.calls k _ _ l0 _ _ l1 a2 t352 t353 _ ?side1 ?side2 ?side3 ?side4 A9.out).mono ?_); (case side1 => repeat (first | exact (Kd.C_below HR0.out hb_) | (with_reducible refine Kd.C_alloc ?_ _) | (with_reducible refine Kd.C_drewN ?_ _) | (with_reducible refine Kd.C_drew ?_))); (case side2 => exact HC0.out); (case side3 => repeat (first | exact (Kd.C_below HR1.out hb_) | (with_reducible refine Kd.C_alloc ?_ _) | (with_reducible refine Kd.C_drewN ?_ _) | (with_reducible refine Kd.C_drew ?_))); (case side4 => exact HC1.out); rintro e w18 ⟨rfl, hb⟩; refine ⟨_, rfl, ?_⟩; have n0_ := Aside0.mk (below_step hb_ hb); clear HB; have HB := n0_; clear n0_; (try clear hb); (try clear hb2); (try clear hk); (try clear hi)))
    go_ret2
    exact ⟨ew_, hb_⟩
  ·replace c8 := Bool.eq_false_iff.mpr c8
   subst c8
   have H1 : (some (0, 2)) = some (r1, r2) := by rw [if_neg (show ¬ (false = true) by decide)] at H; exact H
   clear H
   have H := H1
   clear H1
   simp only [Option.some.injEq, Prod.mk.injEq] at H
   obtain ⟨rfl, rfl⟩ := H
   go_enter Try.func31, Try.ntmps31
   go_wp2_with (first | ((with_reducible refine gate_callee (f := 63) rfl ?_); refine goesL_ (some 14) rfl rfl Try.func63 (by kernel_rfl) rfl #[.slice A0 l0.length c0, .slice A1 l1.length c1] rfl ln_ ?_; (with_reducible refine (spec_l21Checks.calls k _ _ l0 _ _ l1 true _ ?side1 ?side2 ?side3 ?side4 A5.out).mono ?_); (case side1 => repeat (first | exact HR0.out | (with_reducible refine Kd.C_alloc ?_ _) | (with_reducible refine Kd.C_drewN ?_ _) | (with_reducible refine Kd.C_drew ?_))); (case side2 => exact HC0.out); (case side3 => repeat (first | exact HR1.out | (with_reducible refine Kd.C_alloc ?_ _) | (with_reducible refine Kd.C_drewN ?_ _) | (with_reducible refine Kd.C_drew ?_))); (case side4 => exact HC1.out); rintro e w19 ⟨rfl, hb⟩; refine ⟨_, rfl, ?_⟩; have n0_ := Aside0.mk (below_step hb_ hb); clear HB; have HB := n0_; clear n0_; (try clear hb); (try clear hb2); (try clear hk); (try clear hi)) | ((with_reducible refine gate_callee (f := 65) rfl ?_); refine goesL_ (some 17) rfl rfl Try.func65 (by kernel_rfl) rfl #[.int .i64 a3] rfl ln_ ?_; (with_reducible refine (spec_l21Day.calls a3 false _ A7.out).mono ?_); rintro e w' ⟨rfl, ⟨nd, rfl⟩⟩; refine ⟨_, rfl, ?_⟩))
   go_ret2
   exact ⟨ew_, hb_⟩
 ·replace c6 := Bool.eq_false_iff.mpr c6
  subst c6
  have H1 : (some (0, 1)) = some (r1, r2) := by rw [if_neg (show ¬ (false = true) by decide)] at H; exact H
  clear H
  have H := H1
  clear H1
  simp only [Option.some.injEq, Prod.mk.injEq] at H
  obtain ⟨rfl, rfl⟩ := H
  go_enter Try.func31, Try.ntmps31
  go_wp2_with (first | ((with_reducible refine gate_callee (f := 63) rfl ?_); refine goesL_ (some 14) rfl rfl Try.func63 (by kernel_rfl) rfl #[.slice A0 l0.length c0, .slice A1 l1.length c1] rfl ln_ ?_; (with_reducible refine (spec_l21Checks.calls k _ _ l0 _ _ l1 false _ ?side1 ?side2 ?side3 ?side4 A5.out).mono ?_); (case side1 => repeat (first | exact HR0.out | (with_reducible refine Kd.C_alloc ?_ _) | (with_reducible refine Kd.C_drewN ?_ _) | (with_reducible refine Kd.C_drew ?_))); (case side2 => exact HC0.out); (case side3 => repeat (first | exact HR1.out | (with_reducible refine Kd.C_alloc ?_ _) | (with_reducible refine Kd.C_drewN ?_ _) | (with_reducible refine Kd.C_drew ?_))); (case side4 => exact HC1.out); rintro e w20 ⟨rfl, hb⟩; refine ⟨_, rfl, ?_⟩; have n0_ := Aside0.mk (below_step hb_ hb); clear HB; have HB := n0_; clear n0_; (try clear hb); (try clear hb2); (try clear hk); (try clear hi)))
  go_ret2
  exact ⟨ew_, hb_⟩

/-! ### impl_WearOn: function 32 -/
def impl_WearOn.f (k : Nat) (l0 : List (S73)) (l1 : List (S53)) (a2 : ByteArray) (a3 : Int) : Option (Int × Int) := (impl_gearCode.f k l0 l1 a3).bind fun t373 => (if t373 = 0 then ((impl_gearNamed.f l0 a2).bind fun t374 => (if t374 < 0 then (some (0, 3)) else (if 0 ≤ t374 then (if t374 < (l0.length : Int) then ((impl_wearOn.f k ((rd_T73 l0 t374).f0) ((rd_T73 l0 t374).f1) ((rd_T73 l0 t374).f2) ((rd_T73 l0 t374).f3) l1 a3).bind fun t376 => (some (t376, 0))) else (none)) else (none)))) else (some (0, t373)))
theorem impl_WearOn.mono : ∀ a0 a1 a2 a3 k, LeO (impl_WearOn.f k a0 a1 a2 a3) (impl_WearOn.f (k + 1) a0 a1 a2 a3) := by
 intro a0 a1 a2 a3 k
 unfold impl_WearOn.f
 repeat' first
   | (with_reducible exact impl_gearCode.mono _ _ _ _)
   | (with_reducible exact impl_wearOn.mono _ _ _ _ _ _ _)
   | (with_reducible exact LeO.refl _)
   | (with_reducible exact LeO.none _)
   | (with_reducible refine LeO.ite ?_ ?_)
   | (with_reducible refine LeO.bind ?_ (fun _ => ?_))
   | exact impl_gearCode.mono _ _ _ _
   | exact impl_wearOn.mono _ _ _ _ _ _ _
   | exact LeO.none _
   | refine LeO.ite ?_ ?_
   | refine LeO.bind ?_ (fun _ => ?_)
set_option maxHeartbeats 8000000 in
set_option maxRecDepth 100000 in
theorem impl_WearOn.calls (k : Nat) (A0 : Option Addr) (c0 : Nat) (l0 : List (S73)) (A1 : Option Addr) (c1 : Nat) (l1 : List (S53)) (a2 : ByteArray) (a3 : Int) (r1 : Int) (r2 : Int) (w : World) (hr0 : Kd.C k73 w A0 l0.length l0) (hc0 : l0.length ≤ c0) (hr1 : Kd.C k53 w A1 l1.length l1) (hc1 : l1.length ≤ c1) (h : impl_WearOn.f k l0 l1 a2 a3 = some (r1, r2)) :
  Calls Try.prog 32 #[.slice A0 l0.length c0, .slice A1 l1.length c1, .string a2, .int .i64 a3] w fun e w' => e = .returned (.tuple #[.int .i64 r1, .int .i64 r2]) ∧ Below w.heap.size w w' := by
 have hu73 := Try.underlying73
 have HR0 := Aside0.mk hr0
 have HC0 := Aside0.mk hc0
 clear hr0 hc0
 have HR1 := Aside0.mk hr1
 have HC1 := Aside0.mk hc1
 clear hr1 hc1
 have HB := Aside0.mk (Below.refl w.heap.size w)
 have H : ((impl_gearCode.f k l0 l1 a3).bind fun t373 => (if t373 = 0 then ((impl_gearNamed.f l0 a2).bind fun t374 => (if t374 < 0 then (some (0, 3)) else (if 0 ≤ t374 then (if t374 < (l0.length : Int) then ((impl_wearOn.f k ((rd_T73 l0 t374).f0) ((rd_T73 l0 t374).f1) ((rd_T73 l0 t374).f2) ((rd_T73 l0 t374).f3) l1 a3).bind fun t376 => (some (t376, 0))) else (none)) else (none)))) else (some (0, t373)))) = some (r1, r2) := h
 clear h
 replace H := Option.bind_eq_some_iff.mp H
 obtain ⟨t373, A50, H⟩ := H
 replace H : (if t373 = 0 then ((impl_gearNamed.f l0 a2).bind fun t374 => (if t374 < 0 then (some (0, 3)) else (if 0 ≤ t374 then (if t374 < (l0.length : Int) then ((impl_wearOn.f k ((rd_T73 l0 t374).f0) ((rd_T73 l0 t374).f1) ((rd_T73 l0 t374).f2) ((rd_T73 l0 t374).f3) l1 a3).bind fun t376 => (some (t376, 0))) else (none)) else (none)))) else (some (0, t373))) = some (r1, r2) := H
 have A5 := Aside0.mk A50
 clear A50
 by_cases c6 : t373 = 0
 ·rw [if_pos c6] at H
  have c6b0 : (t373 == 0) = true := beq_iff_eq.mpr c6
  have c6b1 : (t373 != 0) = false := bne_eq_false_iff_eq.mpr c6
  clear c6
  replace H := Option.bind_eq_some_iff.mp H
  obtain ⟨t374, A70, H⟩ := H
  replace H : (if t374 < 0 then (some (0, 3)) else (if 0 ≤ t374 then (if t374 < (l0.length : Int) then ((impl_wearOn.f k ((rd_T73 l0 t374).f0) ((rd_T73 l0 t374).f1) ((rd_T73 l0 t374).f2) ((rd_T73 l0 t374).f3) l1 a3).bind fun t376 => (some (t376, 0))) else (none)) else (none))) = some (r1, r2) := H
  have A7 := Aside0.mk A70
  clear A70
  by_cases c8 : t374 < 0
  ·rw [if_pos c8] at H
   have c8b0 : decide (t374 < 0) = true := decide_eq_true c8
   clear c8
   simp only [Option.some.injEq, Prod.mk.injEq] at H
   obtain ⟨rfl, rfl⟩ := H
   go_enter Try.func32, Try.ntmps32
   go_wp2_with (first | ((with_reducible refine gate_callee (f := 71) rfl ?_); refine goesL_ (some 15) rfl rfl Try.func71 (by kernel_rfl) rfl #[.slice A0 l0.length c0, .slice A1 l1.length c1, .int .i64 a3] rfl ln_ ?_; (with_reducible refine (impl_gearCode.calls k _ _ l0 _ _ l1 a3 t373 _ ?side1 ?side2 ?side3 ?side4 A5.out).mono ?_); (case side1 => repeat (first | exact HR0.out | (with_reducible refine Kd.C_alloc ?_ _) | (with_reducible refine Kd.C_drewN ?_ _) | (with_reducible refine Kd.C_drew ?_))); (case side2 => exact HC0.out); (case side3 => repeat (first | exact HR1.out | (with_reducible refine Kd.C_alloc ?_ _) | (with_reducible refine Kd.C_drewN ?_ _) | (with_reducible refine Kd.C_drew ?_))); (case side4 => exact HC1.out); rintro e w9 ⟨rfl, hb⟩; refine ⟨_, rfl, ?_⟩; have n0_ := Aside0.mk (below_step hb_ hb); clear HB; have HB := n0_; clear n0_; (try clear hb); (try clear hb2); (try clear hk); (try clear hi)) | ((with_reducible refine gate_callee (f := 61) rfl ?_); refine goesL_ (some 21) rfl rfl Try.func61 (by kernel_rfl) rfl #[.slice A0 l0.length c0, .string a2] rfl ln_ ?_; (with_reducible refine (impl_gearNamed.calls _ _ l0 a2 t374 _ ?side1 ?side2 A7.out).mono ?_); (case side1 => repeat (first | exact (Kd.C_below HR0.out HB.out) | (with_reducible refine Kd.C_alloc ?_ _) | (with_reducible refine Kd.C_drewN ?_ _) | (with_reducible refine Kd.C_drew ?_))); (case side2 => exact HC0.out); rintro e w10 ⟨rfl, hb⟩; refine ⟨_, rfl, ?_⟩; have n0_ := Aside0.mk (below_step hb_ hb); clear HB; have HB := n0_; clear n0_; (try clear hb); (try clear hb2); (try clear hk); (try clear hi)))
   go_ret2
   exact ⟨ew_, hb_⟩
  ·rw [if_neg c8] at H
   have c8b0 : decide (t374 < 0) = false := decide_eq_false c8
   clear c8
   by_cases c11 : 0 ≤ t374
   ·rw [if_pos c11] at H
    have c11b0 : decide (0 ≤ t374) = true := decide_eq_true c11
    clear c11
    by_cases c12 : t374 < (l0.length : Int)
    ·rw [if_pos c12] at H
     have c12b0 : decide (t374 < (l0.length : Int)) = true := decide_eq_true c12
     clear c12
     replace H := Option.bind_eq_some_iff.mp H
     obtain ⟨t376, A130, H⟩ := H
     replace H : (some (t376, 0)) = some (r1, r2) := H
     have A13 := Aside0.mk A130
     clear A130
     simp only [Option.some.injEq, Prod.mk.injEq] at H
     obtain ⟨rfl, rfl⟩ := H
     go_enter Try.func32, Try.ntmps32
     go_wp2_with (first | ((with_reducible refine gate_callee (f := 71) rfl ?_); refine goesL_ (some 15) rfl rfl Try.func71 (by kernel_rfl) rfl #[.slice A0 l0.length c0, .slice A1 l1.length c1, .int .i64 a3] rfl ln_ ?_; (with_reducible refine (impl_gearCode.calls k _ _ l0 _ _ l1 a3 t373 _ ?side1 ?side2 ?side3 ?side4 A5.out).mono ?_); (case side1 => repeat (first | exact HR0.out | (with_reducible refine Kd.C_alloc ?_ _) | (with_reducible refine Kd.C_drewN ?_ _) | (with_reducible refine Kd.C_drew ?_))); (case side2 => exact HC0.out); (case side3 => repeat (first | exact HR1.out | (with_reducible refine Kd.C_alloc ?_ _) | (with_reducible refine Kd.C_drewN ?_ _) | (with_reducible refine Kd.C_drew ?_))); (case side4 => exact HC1.out); rintro e w14 ⟨rfl, hb⟩; refine ⟨_, rfl, ?_⟩; have n0_ := Aside0.mk (below_step hb_ hb); clear HB; have HB := n0_; clear n0_; (try clear hb); (try clear hb2); (try clear hk); (try clear hi)) | ((with_reducible refine gate_callee (f := 61) rfl ?_); refine goesL_ (some 21) rfl rfl Try.func61 (by kernel_rfl) rfl #[.slice A0 l0.length c0, .string a2] rfl ln_ ?_; (with_reducible refine (impl_gearNamed.calls _ _ l0 a2 t374 _ ?side1 ?side2 A7.out).mono ?_); (case side1 => repeat (first | exact (Kd.C_below HR0.out HB.out) | (with_reducible refine Kd.C_alloc ?_ _) | (with_reducible refine Kd.C_drewN ?_ _) | (with_reducible refine Kd.C_drew ?_))); (case side2 => exact HC0.out); rintro e w15 ⟨rfl, hb⟩; refine ⟨_, rfl, ?_⟩; have n0_ := Aside0.mk (below_step hb_ hb); clear HB; have HB := n0_; clear n0_; (try clear hb); (try clear hb2); (try clear hk); (try clear hi); have p375 : 0 ≤ (t374 : Int) := od_; have q375 : t374 < (l0.length : Int) := od_; obtain ⟨ad375, e375, hx375_0, hx375_1, hx375_2, hx375_3⟩ := at_T73 HR0.out t374 p375 q375; cases e375; replace hx375_0 := cq_ HB hx375_0; replace hx375_1 := cq_ HB hx375_1; replace hx375_2 := cq_ HB hx375_2; replace hx375_3 := cq_ HB hx375_3; replace p375 := eq_true p375; replace q375 := eq_true q375) | ((with_reducible refine gate_callee (f := 72) rfl ?_); refine goesL_ (some 30) rfl rfl Try.func72 (by kernel_rfl) rfl #[.agg #[.string ((rd_T73 l0 t374).f0), .int .i64 ((rd_T73 l0 t374).f1), .int .i64 ((rd_T73 l0 t374).f2), .int .i64 ((rd_T73 l0 t374).f3)], .slice A1 l1.length c1, .int .i64 a3] rfl ln_ ?_; (with_reducible refine (impl_wearOn.calls k ((rd_T73 l0 t374).f0) ((rd_T73 l0 t374).f1) ((rd_T73 l0 t374).f2) ((rd_T73 l0 t374).f3) _ _ l1 a3 t376 _ ?side1 ?side2 A13.out).mono ?_); (case side1 => repeat (first | exact (Kd.C_below HR1.out HB.out) | (with_reducible refine Kd.C_alloc ?_ _) | (with_reducible refine Kd.C_drewN ?_ _) | (with_reducible refine Kd.C_drew ?_))); (case side2 => exact HC1.out); rintro e w16 ⟨rfl, hb⟩; refine ⟨_, rfl, ?_⟩; have n0_ := Aside0.mk (below_step hb_ hb); clear HB; have HB := n0_; clear n0_; (try clear hb); (try clear hb2); (try clear hk); (try clear hi)))
     go_ret2
     exact ⟨ew_, hb_⟩
    ·rw [if_neg c12] at H
     exact absurd H (by simp)
   ·rw [if_neg c11] at H
    exact absurd H (by simp)
 ·rw [if_neg c6] at H
  have c6b0 : (t373 == 0) = false := beq_eq_false_iff_ne.mpr c6
  have c6b1 : (t373 != 0) = true := bne_iff_ne.mpr c6
  simp only [Option.some.injEq, Prod.mk.injEq] at H
  obtain ⟨rfl, rfl⟩ := H
  go_enter Try.func32, Try.ntmps32
  go_wp2_with (first | ((with_reducible refine gate_callee (f := 71) rfl ?_); refine goesL_ (some 15) rfl rfl Try.func71 (by kernel_rfl) rfl #[.slice A0 l0.length c0, .slice A1 l1.length c1, .int .i64 a3] rfl ln_ ?_; (with_reducible refine (impl_gearCode.calls k _ _ l0 _ _ l1 a3 t373 _ ?side1 ?side2 ?side3 ?side4 A5.out).mono ?_); (case side1 => repeat (first | exact HR0.out | (with_reducible refine Kd.C_alloc ?_ _) | (with_reducible refine Kd.C_drewN ?_ _) | (with_reducible refine Kd.C_drew ?_))); (case side2 => exact HC0.out); (case side3 => repeat (first | exact HR1.out | (with_reducible refine Kd.C_alloc ?_ _) | (with_reducible refine Kd.C_drewN ?_ _) | (with_reducible refine Kd.C_drew ?_))); (case side4 => exact HC1.out); rintro e w17 ⟨rfl, hb⟩; refine ⟨_, rfl, ?_⟩; have n0_ := Aside0.mk (below_step hb_ hb); clear HB; have HB := n0_; clear n0_; (try clear hb); (try clear hb2); (try clear hk); (try clear hi)))
  go_ret2
  exact ⟨ew_, hb_⟩

/-! ### laws_FnExactWearOn: function 7 -/
def laws_FnExactWearOn.j0 : Nat → List (S72) → List (S49) → List (S73) → List (S53) → Bool → Option (Bool)
 | 0, _, _, _, _, _ => none
 | k + 1, x0, x1, x12, x13, x58 => if x58 = true then (some false) else ((laws_toGearS.f k x0).bind fun t395 => ((laws_eqGearS.f k x12 t395).bind fun t398 => (if t398 = true then ((laws_toCheckS.f k x1).bind fun t399 => ((laws_eqCheckS.f k x13 t399).bind fun t402 => (if t402 = true then (some true) else (some false)))) else (some false))))
def laws_FnExactWearOn.f (k : Nat) (l0 : List (S72)) (l1 : List (S49)) (a2 : ByteArray) (a3 : Int) : Option (Bool) := if (a2.size : Int) > 1048576 then (some true) else ((laws_szGearS.f k l0 1048576).bind fun t377 => (if t377 < 0 then (some true) else ((laws_szCheckS.f k l1 t377).bind fun t378 => (if t378 < 0 then (some true) else ((laws_toGearS.f k l0).bind fun t379 => ((laws_toCheckS.f k l1).bind fun t382 => ((spec_WearOn.f k t379 t382 a2 a3).bind fun bt385 => ((laws_toGearS.f k l0).bind fun t387 => ((laws_toCheckS.f k l1).bind fun t390 => ((impl_WearOn.f k t387 t390 a2 a3).bind fun bt393 => (if bt393.1 = bt385.1 then (laws_FnExactWearOn.j0 k l0 l1 t387 t390 (bt393.2 != bt385.2)) else (laws_FnExactWearOn.j0 k l0 l1 t387 t390 true))))))))))))
theorem laws_FnExactWearOn.mono_l : ∀ k, (∀ y0 y1 y2 y3 y4, LeO (laws_FnExactWearOn.j0 k y0 y1 y2 y3 y4) (laws_FnExactWearOn.j0 (k + 1) y0 y1 y2 y3 y4))
 | 0 => fun _ _ _ _ _ r h => by simp [laws_FnExactWearOn.j0] at h
 | k + 1 => by
  have ih0 := laws_FnExactWearOn.mono_l k
  ·intro y0 y1 y2 y3 y4
   unfold laws_FnExactWearOn.j0
   repeat' first
   | (with_reducible exact ih0 _ _ _ _ _)
   | (with_reducible exact impl_WearOn.mono _ _ _ _ _)
   | (with_reducible exact laws_eqCheckS.mono _ _ _)
   | (with_reducible exact laws_eqGearS.mono _ _ _)
   | (with_reducible exact laws_szCheckS.mono _ _ _)
   | (with_reducible exact laws_szGearS.mono _ _ _)
   | (with_reducible exact laws_toCheckS.mono _ _)
   | (with_reducible exact laws_toGearS.mono _ _)
   | (with_reducible exact spec_WearOn.mono _ _ _ _ _)
   | (with_reducible exact LeO.refl _)
   | (with_reducible exact LeO.none _)
   | (with_reducible refine LeO.ite ?_ ?_)
   | (with_reducible refine LeO.bind ?_ (fun _ => ?_))
   | exact ih0 _ _ _ _ _
   | exact impl_WearOn.mono _ _ _ _ _
   | exact laws_eqCheckS.mono _ _ _
   | exact laws_eqGearS.mono _ _ _
   | exact laws_szCheckS.mono _ _ _
   | exact laws_szGearS.mono _ _ _
   | exact laws_toCheckS.mono _ _
   | exact laws_toGearS.mono _ _
   | exact spec_WearOn.mono _ _ _ _ _
   | exact LeO.none _
   | refine LeO.ite ?_ ?_
   | refine LeO.bind ?_ (fun _ => ?_)
theorem laws_FnExactWearOn.mono : ∀ a0 a1 a2 a3 k, LeO (laws_FnExactWearOn.f k a0 a1 a2 a3) (laws_FnExactWearOn.f (k + 1) a0 a1 a2 a3) := by
 intro a0 a1 a2 a3 k
 have ih0 := laws_FnExactWearOn.mono_l k
 unfold laws_FnExactWearOn.f
 repeat' first
   | (with_reducible exact ih0 _ _ _ _ _)
   | (with_reducible exact impl_WearOn.mono _ _ _ _ _)
   | (with_reducible exact laws_eqCheckS.mono _ _ _)
   | (with_reducible exact laws_eqGearS.mono _ _ _)
   | (with_reducible exact laws_szCheckS.mono _ _ _)
   | (with_reducible exact laws_szGearS.mono _ _ _)
   | (with_reducible exact laws_toCheckS.mono _ _)
   | (with_reducible exact laws_toGearS.mono _ _)
   | (with_reducible exact spec_WearOn.mono _ _ _ _ _)
   | (with_reducible exact LeO.refl _)
   | (with_reducible exact LeO.none _)
   | (with_reducible refine LeO.ite ?_ ?_)
   | (with_reducible refine LeO.bind ?_ (fun _ => ?_))
   | exact ih0 _ _ _ _ _
   | exact impl_WearOn.mono _ _ _ _ _
   | exact laws_eqCheckS.mono _ _ _
   | exact laws_eqGearS.mono _ _ _
   | exact laws_szCheckS.mono _ _ _
   | exact laws_szGearS.mono _ _ _
   | exact laws_toCheckS.mono _ _
   | exact laws_toGearS.mono _ _
   | exact spec_WearOn.mono _ _ _ _ _
   | exact LeO.none _
   | refine LeO.ite ?_ ?_
   | refine LeO.bind ?_ (fun _ => ?_)
set_option maxHeartbeats 8000000 in
set_option maxRecDepth 100000 in
theorem laws_FnExactWearOn.calls (k : Nat) (A0 : Option Addr) (c0 : Nat) (l0 : List (S72)) (A1 : Option Addr) (c1 : Nat) (l1 : List (S49)) (a2 : ByteArray) (a3 : Int) (r : Bool) (w : World) (hr0 : Kd.C k72 w A0 l0.length l0) (hc0 : l0.length ≤ c0) (hr1 : Kd.C k49 w A1 l1.length l1) (hc1 : l1.length ≤ c1) (h : laws_FnExactWearOn.f k l0 l1 a2 a3 = some r) :
  Calls Try.prog 7 #[.slice A0 l0.length c0, .slice A1 l1.length c1, .string a2, .int .i64 a3] w fun e w' => e = .returned (.bool r) ∧ Below w.heap.size w w' := by
 have HR0 := Aside0.mk hr0
 have HC0 := Aside0.mk hc0
 clear hr0 hc0
 have HR1 := Aside0.mk hr1
 have HC1 := Aside0.mk hc1
 clear hr1 hc1
 have HB := Aside0.mk (Below.refl w.heap.size w)
 have H : (if (a2.size : Int) > 1048576 then (some true) else ((laws_szGearS.f k l0 1048576).bind fun t377 => (if t377 < 0 then (some true) else ((laws_szCheckS.f k l1 t377).bind fun t378 => (if t378 < 0 then (some true) else ((laws_toGearS.f k l0).bind fun t379 => ((laws_toCheckS.f k l1).bind fun t382 => ((spec_WearOn.f k t379 t382 a2 a3).bind fun bt385 => ((laws_toGearS.f k l0).bind fun t387 => ((laws_toCheckS.f k l1).bind fun t390 => ((impl_WearOn.f k t387 t390 a2 a3).bind fun bt393 => (if bt393.1 = bt385.1 then (laws_FnExactWearOn.j0 k l0 l1 t387 t390 (bt393.2 != bt385.2)) else (laws_FnExactWearOn.j0 k l0 l1 t387 t390 true))))))))))))) = some r := h
 clear h
 by_cases c5 : (a2.size : Int) > 1048576
 ·rw [if_pos c5] at H
  have c5b0 : decide (1048576 < (a2.size : Int)) = true := decide_eq_true c5
  have c5b1 : decide (1048576 < a2.size) = true := decide_eq_true (by omega)
  clear c5
  obtain rfl := Option.some.inj H
  go_enter Try.func7, Try.ntmps7
  go_wp2
  go_ret
  exact ⟨ew_, hb_⟩
 ·rw [if_neg c5] at H
  have c5b0 : decide (1048576 < (a2.size : Int)) = false := decide_eq_false c5
  have c5b1 : decide (1048576 < a2.size) = false := decide_eq_false (by omega)
  clear c5
  replace H := Option.bind_eq_some_iff.mp H
  obtain ⟨t377, A60, H⟩ := H
  replace H : (if t377 < 0 then (some true) else ((laws_szCheckS.f k l1 t377).bind fun t378 => (if t378 < 0 then (some true) else ((laws_toGearS.f k l0).bind fun t379 => ((laws_toCheckS.f k l1).bind fun t382 => ((spec_WearOn.f k t379 t382 a2 a3).bind fun bt385 => ((laws_toGearS.f k l0).bind fun t387 => ((laws_toCheckS.f k l1).bind fun t390 => ((impl_WearOn.f k t387 t390 a2 a3).bind fun bt393 => (if bt393.1 = bt385.1 then (laws_FnExactWearOn.j0 k l0 l1 t387 t390 (bt393.2 != bt385.2)) else (laws_FnExactWearOn.j0 k l0 l1 t387 t390 true))))))))))) = some r := H
  have A6 := Aside0.mk A60
  clear A60
  by_cases c7 : t377 < 0
  ·rw [if_pos c7] at H
   have c7b0 : decide (t377 < 0) = true := decide_eq_true c7
   clear c7
   obtain rfl := Option.some.inj H
   go_enter Try.func7, Try.ntmps7
   go_wp2_with (first | ((with_reducible refine gate_callee (f := 20) rfl ?_); refine goesL_ (some 21) rfl rfl Try.func20 (by kernel_rfl) rfl #[.slice A0 l0.length c0, .int .i64 1048576] rfl ln_ ?_; (with_reducible refine (laws_szGearS.calls k _ _ l0 1048576 t377 _ ?side1 ?side2 A6.out).mono ?_); (case side1 => repeat (first | exact HR0.out | (with_reducible refine Kd.C_alloc ?_ _) | (with_reducible refine Kd.C_drewN ?_ _) | (with_reducible refine Kd.C_drew ?_))); (case side2 => exact HC0.out); rintro e w8 ⟨rfl, hb⟩; refine ⟨_, rfl, ?_⟩; have n0_ := Aside0.mk (below_step hb_ hb); clear HB; have HB := n0_; clear n0_; (try clear hb); (try clear hb2); (try clear hk); (try clear hi)))
   go_ret
   exact ⟨ew_, hb_⟩
  ·rw [if_neg c7] at H
   have c7b0 : decide (t377 < 0) = false := decide_eq_false c7
   clear c7
   replace H := Option.bind_eq_some_iff.mp H
   obtain ⟨t378, A90, H⟩ := H
   replace H : (if t378 < 0 then (some true) else ((laws_toGearS.f k l0).bind fun t379 => ((laws_toCheckS.f k l1).bind fun t382 => ((spec_WearOn.f k t379 t382 a2 a3).bind fun bt385 => ((laws_toGearS.f k l0).bind fun t387 => ((laws_toCheckS.f k l1).bind fun t390 => ((impl_WearOn.f k t387 t390 a2 a3).bind fun bt393 => (if bt393.1 = bt385.1 then (laws_FnExactWearOn.j0 k l0 l1 t387 t390 (bt393.2 != bt385.2)) else (laws_FnExactWearOn.j0 k l0 l1 t387 t390 true))))))))) = some r := H
   have A9 := Aside0.mk A90
   clear A90
   by_cases c10 : t378 < 0
   ·rw [if_pos c10] at H
    have c10b0 : decide (t378 < 0) = true := decide_eq_true c10
    clear c10
    obtain rfl := Option.some.inj H
    go_enter Try.func7, Try.ntmps7
    go_wp2_with (first | ((with_reducible refine gate_callee (f := 20) rfl ?_); refine goesL_ (some 21) rfl rfl Try.func20 (by kernel_rfl) rfl #[.slice A0 l0.length c0, .int .i64 1048576] rfl ln_ ?_; (with_reducible refine (laws_szGearS.calls k _ _ l0 1048576 t377 _ ?side1 ?side2 A6.out).mono ?_); (case side1 => repeat (first | exact HR0.out | (with_reducible refine Kd.C_alloc ?_ _) | (with_reducible refine Kd.C_drewN ?_ _) | (with_reducible refine Kd.C_drew ?_))); (case side2 => exact HC0.out); rintro e w11 ⟨rfl, hb⟩; refine ⟨_, rfl, ?_⟩; have n0_ := Aside0.mk (below_step hb_ hb); clear HB; have HB := n0_; clear n0_; (try clear hb); (try clear hb2); (try clear hk); (try clear hi)) | ((with_reducible refine gate_callee (f := 15) rfl ?_); refine goesL_ (some 26) rfl rfl Try.func15 (by kernel_rfl) rfl #[.slice A1 l1.length c1, .int .i64 t377] rfl ln_ ?_; (with_reducible refine (laws_szCheckS.calls k _ _ l1 t377 t378 _ ?side1 ?side2 A9.out).mono ?_); (case side1 => repeat (first | exact (Kd.C_below HR1.out HB.out) | (with_reducible refine Kd.C_alloc ?_ _) | (with_reducible refine Kd.C_drewN ?_ _) | (with_reducible refine Kd.C_drew ?_))); (case side2 => exact HC1.out); rintro e w12 ⟨rfl, hb⟩; refine ⟨_, rfl, ?_⟩; have n0_ := Aside0.mk (below_step hb_ hb); clear HB; have HB := n0_; clear n0_; (try clear hb); (try clear hb2); (try clear hk); (try clear hi)))
    go_ret
    exact ⟨ew_, hb_⟩
   ·rw [if_neg c10] at H
    have c10b0 : decide (t378 < 0) = false := decide_eq_false c10
    clear c10
    replace H := Option.bind_eq_some_iff.mp H
    obtain ⟨t379, A130, H⟩ := H
    replace H : ((laws_toCheckS.f k l1).bind fun t382 => ((spec_WearOn.f k t379 t382 a2 a3).bind fun bt385 => ((laws_toGearS.f k l0).bind fun t387 => ((laws_toCheckS.f k l1).bind fun t390 => ((impl_WearOn.f k t387 t390 a2 a3).bind fun bt393 => (if bt393.1 = bt385.1 then (laws_FnExactWearOn.j0 k l0 l1 t387 t390 (bt393.2 != bt385.2)) else (laws_FnExactWearOn.j0 k l0 l1 t387 t390 true))))))) = some r := H
    have A13 := Aside0.mk A130
    clear A130
    replace H := Option.bind_eq_some_iff.mp H
    obtain ⟨t382, A140, H⟩ := H
    replace H : ((spec_WearOn.f k t379 t382 a2 a3).bind fun bt385 => ((laws_toGearS.f k l0).bind fun t387 => ((laws_toCheckS.f k l1).bind fun t390 => ((impl_WearOn.f k t387 t390 a2 a3).bind fun bt393 => (if bt393.1 = bt385.1 then (laws_FnExactWearOn.j0 k l0 l1 t387 t390 (bt393.2 != bt385.2)) else (laws_FnExactWearOn.j0 k l0 l1 t387 t390 true)))))) = some r := H
    have A14 := Aside0.mk A140
    clear A140
    replace H := Option.bind_eq_some_iff.mp H
    obtain ⟨⟨t385, t386⟩, A150, H⟩ := H
    replace H : ((laws_toGearS.f k l0).bind fun t387 => ((laws_toCheckS.f k l1).bind fun t390 => ((impl_WearOn.f k t387 t390 a2 a3).bind fun bt393 => (if bt393.1 = t385 then (laws_FnExactWearOn.j0 k l0 l1 t387 t390 (bt393.2 != t386)) else (laws_FnExactWearOn.j0 k l0 l1 t387 t390 true))))) = some r := H
    have A15 := Aside0.mk A150
    clear A150
    replace H := Option.bind_eq_some_iff.mp H
    obtain ⟨t387, A160, H⟩ := H
    replace H : ((laws_toCheckS.f k l1).bind fun t390 => ((impl_WearOn.f k t387 t390 a2 a3).bind fun bt393 => (if bt393.1 = t385 then (laws_FnExactWearOn.j0 k l0 l1 t387 t390 (bt393.2 != t386)) else (laws_FnExactWearOn.j0 k l0 l1 t387 t390 true)))) = some r := H
    have A16 := Aside0.mk A160
    clear A160
    replace H := Option.bind_eq_some_iff.mp H
    obtain ⟨t390, A170, H⟩ := H
    replace H : ((impl_WearOn.f k t387 t390 a2 a3).bind fun bt393 => (if bt393.1 = t385 then (laws_FnExactWearOn.j0 k l0 l1 t387 t390 (bt393.2 != t386)) else (laws_FnExactWearOn.j0 k l0 l1 t387 t390 true))) = some r := H
    have A17 := Aside0.mk A170
    clear A170
    replace H := Option.bind_eq_some_iff.mp H
    obtain ⟨⟨t393, t394⟩, A180, H⟩ := H
    replace H : (if t393 = t385 then (laws_FnExactWearOn.j0 k l0 l1 t387 t390 (t394 != t386)) else (laws_FnExactWearOn.j0 k l0 l1 t387 t390 true)) = some r := H
    have A18 := Aside0.mk A180
    clear A180
    have HC19 := Aside0.mk H
    clear H
    go_enter Try.func7, Try.ntmps7
    go_upto_region 14 with (first | ((with_reducible refine gate_callee (f := 20) rfl ?_); refine goesL_ (some 21) rfl rfl Try.func20 (by kernel_rfl) rfl #[.slice A0 l0.length c0, .int .i64 1048576] rfl ln_ ?_; (with_reducible refine (laws_szGearS.calls k _ _ l0 1048576 t377 _ ?side1 ?side2 A6.out).mono ?_); (case side1 => repeat (first | exact HR0.out | (with_reducible refine Kd.C_alloc ?_ _) | (with_reducible refine Kd.C_drewN ?_ _) | (with_reducible refine Kd.C_drew ?_))); (case side2 => exact HC0.out); rintro e w20 ⟨rfl, hb⟩; refine ⟨_, rfl, ?_⟩; have n0_ := Aside0.mk (below_step hb_ hb); clear HB; have HB := n0_; clear n0_; (try clear hb); (try clear hb2); (try clear hk); (try clear hi)) | ((with_reducible refine gate_callee (f := 15) rfl ?_); refine goesL_ (some 26) rfl rfl Try.func15 (by kernel_rfl) rfl #[.slice A1 l1.length c1, .int .i64 t377] rfl ln_ ?_; (with_reducible refine (laws_szCheckS.calls k _ _ l1 t377 t378 _ ?side1 ?side2 A9.out).mono ?_); (case side1 => repeat (first | exact (Kd.C_below HR1.out HB.out) | (with_reducible refine Kd.C_alloc ?_ _) | (with_reducible refine Kd.C_drewN ?_ _) | (with_reducible refine Kd.C_drew ?_))); (case side2 => exact HC1.out); rintro e w21 ⟨rfl, hb⟩; refine ⟨_, rfl, ?_⟩; have n0_ := Aside0.mk (below_step hb_ hb); clear HB; have HB := n0_; clear n0_; (try clear hb); (try clear hb2); (try clear hk); (try clear hi)) | ((with_reducible refine gate_callee (f := 22) rfl ?_); refine goesL_ (some 31) rfl rfl Try.func22 (by kernel_rfl) rfl #[.slice A0 l0.length c0] rfl ln_ ?_; (with_reducible refine (laws_toGearS.calls k _ _ l0 t379 _ ?side1 ?side2 A13.out).mono ?_); (case side1 => repeat (first | exact (Kd.C_below HR0.out HB.out) | (with_reducible refine Kd.C_alloc ?_ _) | (with_reducible refine Kd.C_drewN ?_ _) | (with_reducible refine Kd.C_drew ?_))); (case side2 => exact HC0.out); rintro e w22 ⟨v380, rfl, ho0, hb⟩; refine ⟨_, rfl, ?_⟩; have n0_ := Aside0.mk (Kd.R_lower ho0 (below_size hb_)); have n1_ := Aside0.mk (below_step hb_ hb); clear HB; have HO381 := n0_; have HB := n1_; clear n0_ n1_; (try clear hb); (try clear hb2); (try clear hk); (try clear hi); (try clear ho0)) | ((with_reducible refine gate_callee (f := 17) rfl ?_); refine goesL_ (some 33) rfl rfl Try.func17 (by kernel_rfl) rfl #[.slice A1 l1.length c1] rfl ln_ ?_; (with_reducible refine (laws_toCheckS.calls k _ _ l1 t382 _ ?side1 ?side2 A14.out).mono ?_); (case side1 => repeat (first | exact (Kd.C_below HR1.out HB.out) | (with_reducible refine Kd.C_alloc ?_ _) | (with_reducible refine Kd.C_drewN ?_ _) | (with_reducible refine Kd.C_drew ?_))); (case side2 => exact HC1.out); rintro e w23 ⟨v383, rfl, ho0, hb⟩; refine ⟨_, rfl, ?_⟩; have n0_ := Aside0.mk (Kd.R_below (by (with_reducible repeat (first | apply Kd.R_alloc | apply Kd.R_drewN | apply Kd.R_drew)); exact HO381.out) hb); have n1_ := Aside0.mk (Kd.R_lower ho0 (below_size hb_)); have n2_ := Aside0.mk (below_step hb_ hb); clear HO381; clear HB; have HO381 := n0_; have HO384 := n1_; have HB := n2_; clear n0_ n1_ n2_; (try clear hb); (try clear hb2); (try clear hk); (try clear hi); (try clear ho0); obtain ⟨Ao24, co24, eo24⟩ := Kd.R_slice HO381.out; subst eo24; obtain ⟨Ao25, co25, eo25⟩ := Kd.R_slice HO384.out; subst eo25) | ((with_reducible refine gate_callee (f := 31) rfl ?_); refine goesL_ (some 36) rfl rfl Try.func31 (by kernel_rfl) rfl #[.slice Ao24 t379.length co24, .slice Ao25 t382.length co25, .string a2, .int .i64 a3] rfl ln_ ?_; (with_reducible refine (spec_WearOn.calls k _ _ t379 _ _ t382 a2 a3 t385 t386 _ ?side1 ?side2 ?side3 ?side4 A15.out).mono ?_); (case side1 => repeat (first | exact (Kd.R_reads' HO381.out).2.2 | (with_reducible refine Kd.C_alloc ?_ _) | (with_reducible refine Kd.C_drewN ?_ _) | (with_reducible refine Kd.C_drew ?_))); (case side2 => exact (Kd.R_reads' HO381.out).2.1); (case side3 => repeat (first | exact (Kd.R_reads' HO384.out).2.2 | (with_reducible refine Kd.C_alloc ?_ _) | (with_reducible refine Kd.C_drewN ?_ _) | (with_reducible refine Kd.C_drew ?_))); (case side4 => exact (Kd.R_reads' HO384.out).2.1); rintro e w26 ⟨rfl, hb⟩; refine ⟨_, rfl, ?_⟩; have n0_ := Aside0.mk (Kd.R_below (by (with_reducible repeat (first | apply Kd.R_alloc | apply Kd.R_drewN | apply Kd.R_drew)); exact HO381.out) hb); have n1_ := Aside0.mk (Kd.R_below (by (with_reducible repeat (first | apply Kd.R_alloc | apply Kd.R_drewN | apply Kd.R_drew)); exact HO384.out) hb); have n2_ := Aside0.mk (below_step hb_ hb); clear HO381; clear HO384; clear HB; have HO381 := n0_; have HO384 := n1_; have HB := n2_; clear n0_ n1_ n2_; (try clear hb); (try clear hb2); (try clear hk); (try clear hi)) | ((with_reducible refine gate_callee (f := 22) rfl ?_); refine goesL_ (some 40) rfl rfl Try.func22 (by kernel_rfl) rfl #[.slice A0 l0.length c0] rfl ln_ ?_; (with_reducible refine (laws_toGearS.calls k _ _ l0 t387 _ ?side1 ?side2 A16.out).mono ?_); (case side1 => repeat (first | exact (Kd.C_below HR0.out HB.out) | (with_reducible refine Kd.C_alloc ?_ _) | (with_reducible refine Kd.C_drewN ?_ _) | (with_reducible refine Kd.C_drew ?_))); (case side2 => exact HC0.out); rintro e w27 ⟨v388, rfl, ho0, hb⟩; refine ⟨_, rfl, ?_⟩; have n0_ := Aside0.mk (Kd.R_elder' (by (with_reducible repeat (first | apply Kd.R_alloc | apply Kd.R_drewN | apply Kd.R_drew)); exact HO381.out) (Kd.R_base ho0) hb); have n1_ := Aside0.mk (Kd.R_below (by (with_reducible repeat (first | apply Kd.R_alloc | apply Kd.R_drewN | apply Kd.R_drew)); exact HO384.out) hb); have n2_ := Aside0.mk (Kd.R_lower (Kd.R_new' ho0 (Kd.R_lt (by (with_reducible repeat (first | apply Kd.R_alloc | apply Kd.R_drewN | apply Kd.R_drew)); exact HO381.out))) (below_size hb_)); have n3_ := Aside0.mk (below_step hb_ hb); clear HO381; clear HO384; clear HB; have HO381 := n0_; have HO384 := n1_; have HO389 := n2_; have HB := n3_; clear n0_ n1_ n2_ n3_; (try clear hb); (try clear hb2); (try clear hk); (try clear hi); (try clear ho0)) | ((with_reducible refine gate_callee (f := 17) rfl ?_); refine goesL_ (some 42) rfl rfl Try.func17 (by kernel_rfl) rfl #[.slice A1 l1.length c1] rfl ln_ ?_; (with_reducible refine (laws_toCheckS.calls k _ _ l1 t390 _ ?side1 ?side2 A17.out).mono ?_); (case side1 => repeat (first | exact (Kd.C_below HR1.out HB.out) | (with_reducible refine Kd.C_alloc ?_ _) | (with_reducible refine Kd.C_drewN ?_ _) | (with_reducible refine Kd.C_drew ?_))); (case side2 => exact HC1.out); rintro e w28 ⟨v391, rfl, ho0, hb⟩; refine ⟨_, rfl, ?_⟩; have n0_ := Aside0.mk (Kd.R_below (by (with_reducible repeat (first | apply Kd.R_alloc | apply Kd.R_drewN | apply Kd.R_drew)); exact HO381.out) hb); have n1_ := Aside0.mk (Kd.R_elder' (by (with_reducible repeat (first | apply Kd.R_alloc | apply Kd.R_drewN | apply Kd.R_drew)); exact HO384.out) (Kd.R_base ho0) hb); have n2_ := Aside0.mk (Kd.R_below (by (with_reducible repeat (first | apply Kd.R_alloc | apply Kd.R_drewN | apply Kd.R_drew)); exact HO389.out) hb); have n3_ := Aside0.mk (Kd.R_lower (Kd.R_new' ho0 (Kd.R_lt (by (with_reducible repeat (first | apply Kd.R_alloc | apply Kd.R_drewN | apply Kd.R_drew)); exact HO384.out))) (below_size hb_)); have n4_ := Aside0.mk (below_step hb_ hb); clear HO381; clear HO384; clear HO389; clear HB; have HO381 := n0_; have HO384 := n1_; have HO389 := n2_; have HO392 := n3_; have HB := n4_; clear n0_ n1_ n2_ n3_ n4_; (try clear hb); (try clear hb2); (try clear hk); (try clear hi); (try clear ho0); obtain ⟨Ao29, co29, eo29⟩ := Kd.R_slice HO389.out; subst eo29; obtain ⟨Ao30, co30, eo30⟩ := Kd.R_slice HO392.out; subst eo30) | ((with_reducible refine gate_callee (f := 32) rfl ?_); refine goesL_ (some 48) rfl rfl Try.func32 (by kernel_rfl) rfl #[.slice Ao29 t387.length co29, .slice Ao30 t390.length co30, .string a2, .int .i64 a3] rfl ln_ ?_; (with_reducible refine (impl_WearOn.calls k _ _ t387 _ _ t390 a2 a3 t393 t394 _ ?side1 ?side2 ?side3 ?side4 A18.out).mono ?_); (case side1 => repeat (first | exact (Kd.R_reads' HO389.out).2.2 | (with_reducible refine Kd.C_alloc ?_ _) | (with_reducible refine Kd.C_drewN ?_ _) | (with_reducible refine Kd.C_drew ?_))); (case side2 => exact (Kd.R_reads' HO389.out).2.1); (case side3 => repeat (first | exact (Kd.R_reads' HO392.out).2.2 | (with_reducible refine Kd.C_alloc ?_ _) | (with_reducible refine Kd.C_drewN ?_ _) | (with_reducible refine Kd.C_drew ?_))); (case side4 => exact (Kd.R_reads' HO392.out).2.1); rintro e w31 ⟨rfl, hb⟩; refine ⟨_, rfl, ?_⟩; have n0_ := Aside0.mk (Kd.R_below (by (with_reducible repeat (first | apply Kd.R_alloc | apply Kd.R_drewN | apply Kd.R_drew)); exact HO381.out) hb); have n1_ := Aside0.mk (Kd.R_below (by (with_reducible repeat (first | apply Kd.R_alloc | apply Kd.R_drewN | apply Kd.R_drew)); exact HO384.out) hb); have n2_ := Aside0.mk (Kd.R_below (by (with_reducible repeat (first | apply Kd.R_alloc | apply Kd.R_drewN | apply Kd.R_drew)); exact HO389.out) hb); have n3_ := Aside0.mk (Kd.R_below (by (with_reducible repeat (first | apply Kd.R_alloc | apply Kd.R_drewN | apply Kd.R_drew)); exact HO392.out) hb); have n4_ := Aside0.mk (below_step hb_ hb); clear HO381; clear HO384; clear HO389; clear HO392; clear HB; have HO381 := n0_; have HO384 := n1_; have HO389 := n2_; have HO392 := n3_; have HB := n4_; clear n0_ n1_ n2_ n3_ n4_; (try clear hb); (try clear hb2); (try clear hk); (try clear hi)))
    (try simp only [Act.put, List.setIfInBounds_toArray, List.set_cons_zero, List.set_cons_succ])
    go_cut [58] (fun v58 wc => ∃ (kq : Nat) (x58_18 : Bool), v58 = .bool x58_18 ∧ Aside0 (laws_FnExactWearOn.j0 kq l0 l1 t387 t390 x58_18 = some r) ∧ Aside0 (kq ≤ k) ∧ Aside0 (Kd.R k73 73 wc w.heap.size (fun _ => True) (.slice Ao29 t387.length co29) t387) ∧ Aside0 (Kd.R k53 53 wc w.heap.size (fun _ => True) (.slice Ao30 t390.length co30) t390) ∧ Aside0 (Below w.heap.size w wc))
    case first =>
     have H := HC19.out
     clear HC19
     by_cases c32 : t393 = t385
     ·rw [if_pos c32] at H
      have c32b0 : (t393 == t385) = true := beq_iff_eq.mpr c32
      have c32b1 : (t393 != t385) = false := bne_eq_false_iff_eq.mpr c32
      clear c32
      (first | rw [c32b0] | (simp only [i64_w, i32_w]; rw [c32b0]) | skip)
      have H' := Aside0.mk H
      clear H
      go_wp2
      go_meet
      case rel => exact ⟨_, ((t394 != t386)), (by first | rfl | (simp; done) | (simp [*]; done)), H', ⟨by first | omega | exact Nat.le_refl _⟩, ⟨by (with_reducible repeat (first | apply Kd.R_alloc | apply Kd.R_drewN | apply Kd.R_drew)); exact Kd.R_mono HO389.out (fun _ hk => trivial)⟩, ⟨by (with_reducible repeat (first | apply Kd.R_alloc | apply Kd.R_drewN | apply Kd.R_drew)); exact Kd.R_mono HO392.out (fun _ hk => trivial)⟩, ⟨hb_⟩⟩
     ·rw [if_neg c32] at H
      have c32b0 : (t393 == t385) = false := beq_eq_false_iff_ne.mpr c32
      have c32b1 : (t393 != t385) = true := bne_iff_ne.mpr c32
      (first | rw [c32b0] | (simp only [i64_w, i32_w]; rw [c32b0]) | skip)
      have H' := Aside0.mk H
      clear H
      go_wp2
      go_meet
      case rel => exact ⟨_, (true), (by first | rfl | (simp; done) | (simp [*]; done)), H', ⟨by first | omega | exact Nat.le_refl _⟩, ⟨by (with_reducible repeat (first | apply Kd.R_alloc | apply Kd.R_drewN | apply Kd.R_drew)); exact Kd.R_mono HO389.out (fun _ hk => trivial)⟩, ⟨by (with_reducible repeat (first | apply Kd.R_alloc | apply Kd.R_drewN | apply Kd.R_drew)); exact Kd.R_mono HO392.out (fun _ hk => trivial)⟩, ⟨hb_⟩⟩
    case rest =>
     clear HC19
     try clear c1
     try clear c2
     try clear p2
     try clear c3
     try clear c5
     try clear c5b0
     try clear c5b1
     try clear c7
     try clear c7b0
     try clear c10
     try clear c10b0
     try clear c15
     try clear c17
     try clear c20
     try clear c22
     try clear c31
     try clear c32
     try clear c32b0
     try clear c32b1
     obtain ⟨kq, x58_18, rfl, HA, HJ18, HO_12, HO_13, HB⟩ := hcut
     cases kq with
     | zero => exact absurd HA.out (by simp [laws_FnExactWearOn.j0])
     | succ kj18 =>
      have H := HA.out
      clear HA
      simp only [laws_FnExactWearOn.j0] at H
      by_cases c33 : x58_18 = true
      ·subst c33
       have H1 : (some false) = some r := by rw [if_pos rfl] at H; exact H
       clear H
       have H := H1
       clear H1
       obtain rfl := Option.some.inj H
       go_wp2
       go_ret
       exact ⟨ew_, hb_⟩
      ·replace c33 := Bool.eq_false_iff.mpr c33
       subst c33
       have H1 : ((laws_toGearS.f kj18 l0).bind fun t395 => ((laws_eqGearS.f kj18 t387 t395).bind fun t398 => (if t398 = true then ((laws_toCheckS.f kj18 l1).bind fun t399 => ((laws_eqCheckS.f kj18 t390 t399).bind fun t402 => (if t402 = true then (some true) else (some false)))) else (some false)))) = some r := by rw [if_neg (show ¬ (false = true) by decide)] at H; exact H
       clear H
       have H := H1
       clear H1
       replace H := Option.bind_eq_some_iff.mp H
       obtain ⟨t395, A340, H⟩ := H
       replace H : ((laws_eqGearS.f kj18 t387 t395).bind fun t398 => (if t398 = true then ((laws_toCheckS.f kj18 l1).bind fun t399 => ((laws_eqCheckS.f kj18 t390 t399).bind fun t402 => (if t402 = true then (some true) else (some false)))) else (some false))) = some r := H
       have A34 := Aside0.mk A340
       clear A340
       replace H := Option.bind_eq_some_iff.mp H
       obtain ⟨t398, A350, H⟩ := H
       replace H : (if t398 = true then ((laws_toCheckS.f kj18 l1).bind fun t399 => ((laws_eqCheckS.f kj18 t390 t399).bind fun t402 => (if t402 = true then (some true) else (some false)))) else (some false)) = some r := H
       have A35 := Aside0.mk A350
       clear A350
       by_cases c36 : t398 = true
       ·subst c36
        have H1 : ((laws_toCheckS.f kj18 l1).bind fun t399 => ((laws_eqCheckS.f kj18 t390 t399).bind fun t402 => (if t402 = true then (some true) else (some false)))) = some r := by rw [if_pos rfl] at H; exact H
        clear H
        have H := H1
        clear H1
        replace H := Option.bind_eq_some_iff.mp H
        obtain ⟨t399, A370, H⟩ := H
        replace H : ((laws_eqCheckS.f kj18 t390 t399).bind fun t402 => (if t402 = true then (some true) else (some false))) = some r := H
        have A37 := Aside0.mk A370
        clear A370
        replace H := Option.bind_eq_some_iff.mp H
        obtain ⟨t402, A380, H⟩ := H
        replace H : (if t402 = true then (some true) else (some false)) = some r := H
        have A38 := Aside0.mk A380
        clear A380
        by_cases c39 : t402 = true
        ·subst c39
         have H1 : (some true) = some r := by rw [if_pos rfl] at H; exact H
         clear H
         have H := H1
         clear H1
         obtain rfl := Option.some.inj H
         go_wp2_with (first | ((with_reducible refine gate_callee (f := 22) rfl ?_); refine goesL_ (some 61) rfl rfl Try.func22 (by kernel_rfl) rfl #[.slice A0 l0.length c0] rfl ln_ ?_; (with_reducible refine (laws_toGearS.calls kj18 _ _ l0 t395 _ ?side1 ?side2 A34.out).mono ?_); (case side1 => repeat (first | exact (Kd.C_below HR0.out HB.out) | (with_reducible refine Kd.C_alloc ?_ _) | (with_reducible refine Kd.C_drewN ?_ _) | (with_reducible refine Kd.C_drew ?_))); (case side2 => exact HC0.out); rintro e w40 ⟨v396, rfl, ho0, hb⟩; refine ⟨_, rfl, ?_⟩; have n0_ := Aside0.mk (Kd.R_elder' (by (with_reducible repeat (first | apply Kd.R_alloc | apply Kd.R_drewN | apply Kd.R_drew)); exact HO_12.out) (Kd.R_base ho0) hb); have n1_ := Aside0.mk (Kd.R_below (by (with_reducible repeat (first | apply Kd.R_alloc | apply Kd.R_drewN | apply Kd.R_drew)); exact HO_13.out) hb); have n2_ := Aside0.mk (Kd.R_lower (Kd.R_new' ho0 (Kd.R_lt (by (with_reducible repeat (first | apply Kd.R_alloc | apply Kd.R_drewN | apply Kd.R_drew)); exact HO_12.out))) (below_size hb_)); have n3_ := Aside0.mk (below_step hb_ hb); clear HO_12; clear HO_13; clear HB; have HO_12 := n0_; have HO_13 := n1_; have HO397 := n2_; have HB := n3_; clear n0_ n1_ n2_ n3_; (try clear hb); (try clear hb2); (try clear hk); (try clear hi); (try clear ho0); obtain ⟨Ao41, co41, eo41⟩ := Kd.R_slice HO397.out; subst eo41) | ((with_reducible refine gate_callee (f := 24) rfl ?_); refine goesL_ (some 62) rfl rfl Try.func24 (by kernel_rfl) rfl #[.slice Ao29 t387.length co29, .slice Ao41 t395.length co41] rfl ln_ ?_; (with_reducible refine (laws_eqGearS.calls kj18 _ _ t387 _ _ t395 true _ ?side1 ?side2 ?side3 ?side4 A35.out).mono ?_); (case side1 => repeat (first | exact (Kd.R_reads' HO_12.out).2.2 | (with_reducible refine Kd.C_alloc ?_ _) | (with_reducible refine Kd.C_drewN ?_ _) | (with_reducible refine Kd.C_drew ?_))); (case side2 => exact (Kd.R_reads' HO_12.out).2.1); (case side3 => repeat (first | exact (Kd.R_reads' HO397.out).2.2 | (with_reducible refine Kd.C_alloc ?_ _) | (with_reducible refine Kd.C_drewN ?_ _) | (with_reducible refine Kd.C_drew ?_))); (case side4 => exact (Kd.R_reads' HO397.out).2.1); rintro e w42 ⟨rfl, hb⟩; refine ⟨_, rfl, ?_⟩; have n0_ := Aside0.mk (Kd.R_below (by (with_reducible repeat (first | apply Kd.R_alloc | apply Kd.R_drewN | apply Kd.R_drew)); exact HO_12.out) hb); have n1_ := Aside0.mk (Kd.R_below (by (with_reducible repeat (first | apply Kd.R_alloc | apply Kd.R_drewN | apply Kd.R_drew)); exact HO_13.out) hb); have n2_ := Aside0.mk (Kd.R_below (by (with_reducible repeat (first | apply Kd.R_alloc | apply Kd.R_drewN | apply Kd.R_drew)); exact HO397.out) hb); have n3_ := Aside0.mk (below_step hb_ hb); clear HO_12; clear HO_13; clear HO397; clear HB; have HO_12 := n0_; have HO_13 := n1_; have HO397 := n2_; have HB := n3_; clear n0_ n1_ n2_ n3_; (try clear hb); (try clear hb2); (try clear hk); (try clear hi)) | ((with_reducible refine gate_callee (f := 17) rfl ?_); refine goesL_ (some 66) rfl rfl Try.func17 (by kernel_rfl) rfl #[.slice A1 l1.length c1] rfl ln_ ?_; (with_reducible refine (laws_toCheckS.calls kj18 _ _ l1 t399 _ ?side1 ?side2 A37.out).mono ?_); (case side1 => repeat (first | exact (Kd.C_below HR1.out HB.out) | (with_reducible refine Kd.C_alloc ?_ _) | (with_reducible refine Kd.C_drewN ?_ _) | (with_reducible refine Kd.C_drew ?_))); (case side2 => exact HC1.out); rintro e w43 ⟨v400, rfl, ho0, hb⟩; refine ⟨_, rfl, ?_⟩; have n0_ := Aside0.mk (Kd.R_below (by (with_reducible repeat (first | apply Kd.R_alloc | apply Kd.R_drewN | apply Kd.R_drew)); exact HO_12.out) hb); have n1_ := Aside0.mk (Kd.R_elder' (by (with_reducible repeat (first | apply Kd.R_alloc | apply Kd.R_drewN | apply Kd.R_drew)); exact HO_13.out) (Kd.R_base ho0) hb); have n2_ := Aside0.mk (Kd.R_below (by (with_reducible repeat (first | apply Kd.R_alloc | apply Kd.R_drewN | apply Kd.R_drew)); exact HO397.out) hb); have n3_ := Aside0.mk (Kd.R_lower (Kd.R_new' ho0 (Kd.R_lt (by (with_reducible repeat (first | apply Kd.R_alloc | apply Kd.R_drewN | apply Kd.R_drew)); exact HO_13.out))) (below_size hb_)); have n4_ := Aside0.mk (below_step hb_ hb); clear HO_12; clear HO_13; clear HO397; clear HB; have HO_12 := n0_; have HO_13 := n1_; have HO397 := n2_; have HO401 := n3_; have HB := n4_; clear n0_ n1_ n2_ n3_ n4_; (try clear hb); (try clear hb2); (try clear hk); (try clear hi); (try clear ho0); obtain ⟨Ao44, co44, eo44⟩ := Kd.R_slice HO401.out; subst eo44) | ((with_reducible refine gate_callee (f := 19) rfl ?_); refine goesL_ (some 67) rfl rfl Try.func19 (by kernel_rfl) rfl #[.slice Ao30 t390.length co30, .slice Ao44 t399.length co44] rfl ln_ ?_; (with_reducible refine (laws_eqCheckS.calls kj18 _ _ t390 _ _ t399 true _ ?side1 ?side2 ?side3 ?side4 A38.out).mono ?_); (case side1 => repeat (first | exact (Kd.R_reads' HO_13.out).2.2 | (with_reducible refine Kd.C_alloc ?_ _) | (with_reducible refine Kd.C_drewN ?_ _) | (with_reducible refine Kd.C_drew ?_))); (case side2 => exact (Kd.R_reads' HO_13.out).2.1); (case side3 => repeat (first | exact (Kd.R_reads' HO401.out).2.2 | (with_reducible refine Kd.C_alloc ?_ _) | (with_reducible refine Kd.C_drewN ?_ _) | (with_reducible refine Kd.C_drew ?_))); (case side4 => exact (Kd.R_reads' HO401.out).2.1); rintro e w45 ⟨rfl, hb⟩; refine ⟨_, rfl, ?_⟩; have n0_ := Aside0.mk (Kd.R_below (by (with_reducible repeat (first | apply Kd.R_alloc | apply Kd.R_drewN | apply Kd.R_drew)); exact HO_12.out) hb); have n1_ := Aside0.mk (Kd.R_below (by (with_reducible repeat (first | apply Kd.R_alloc | apply Kd.R_drewN | apply Kd.R_drew)); exact HO_13.out) hb); have n2_ := Aside0.mk (Kd.R_below (by (with_reducible repeat (first | apply Kd.R_alloc | apply Kd.R_drewN | apply Kd.R_drew)); exact HO397.out) hb); have n3_ := Aside0.mk (Kd.R_below (by (with_reducible repeat (first | apply Kd.R_alloc | apply Kd.R_drewN | apply Kd.R_drew)); exact HO401.out) hb); have n4_ := Aside0.mk (below_step hb_ hb); clear HO_12; clear HO_13; clear HO397; clear HO401; clear HB; have HO_12 := n0_; have HO_13 := n1_; have HO397 := n2_; have HO401 := n3_; have HB := n4_; clear n0_ n1_ n2_ n3_ n4_; (try clear hb); (try clear hb2); (try clear hk); (try clear hi)))
         go_ret
         exact ⟨ew_, hb_⟩
        ·replace c39 := Bool.eq_false_iff.mpr c39
         subst c39
         have H1 : (some false) = some r := by rw [if_neg (show ¬ (false = true) by decide)] at H; exact H
         clear H
         have H := H1
         clear H1
         obtain rfl := Option.some.inj H
         go_wp2_with (first | ((with_reducible refine gate_callee (f := 22) rfl ?_); refine goesL_ (some 61) rfl rfl Try.func22 (by kernel_rfl) rfl #[.slice A0 l0.length c0] rfl ln_ ?_; (with_reducible refine (laws_toGearS.calls kj18 _ _ l0 t395 _ ?side1 ?side2 A34.out).mono ?_); (case side1 => repeat (first | exact (Kd.C_below HR0.out HB.out) | (with_reducible refine Kd.C_alloc ?_ _) | (with_reducible refine Kd.C_drewN ?_ _) | (with_reducible refine Kd.C_drew ?_))); (case side2 => exact HC0.out); rintro e w46 ⟨v396, rfl, ho0, hb⟩; refine ⟨_, rfl, ?_⟩; have n0_ := Aside0.mk (Kd.R_elder' (by (with_reducible repeat (first | apply Kd.R_alloc | apply Kd.R_drewN | apply Kd.R_drew)); exact HO_12.out) (Kd.R_base ho0) hb); have n1_ := Aside0.mk (Kd.R_below (by (with_reducible repeat (first | apply Kd.R_alloc | apply Kd.R_drewN | apply Kd.R_drew)); exact HO_13.out) hb); have n2_ := Aside0.mk (Kd.R_lower (Kd.R_new' ho0 (Kd.R_lt (by (with_reducible repeat (first | apply Kd.R_alloc | apply Kd.R_drewN | apply Kd.R_drew)); exact HO_12.out))) (below_size hb_)); have n3_ := Aside0.mk (below_step hb_ hb); clear HO_12; clear HO_13; clear HB; have HO_12 := n0_; have HO_13 := n1_; have HO397 := n2_; have HB := n3_; clear n0_ n1_ n2_ n3_; (try clear hb); (try clear hb2); (try clear hk); (try clear hi); (try clear ho0); obtain ⟨Ao47, co47, eo47⟩ := Kd.R_slice HO397.out; subst eo47) | ((with_reducible refine gate_callee (f := 24) rfl ?_); refine goesL_ (some 62) rfl rfl Try.func24 (by kernel_rfl) rfl #[.slice Ao29 t387.length co29, .slice Ao47 t395.length co47] rfl ln_ ?_; (with_reducible refine (laws_eqGearS.calls kj18 _ _ t387 _ _ t395 true _ ?side1 ?side2 ?side3 ?side4 A35.out).mono ?_); (case side1 => repeat (first | exact (Kd.R_reads' HO_12.out).2.2 | (with_reducible refine Kd.C_alloc ?_ _) | (with_reducible refine Kd.C_drewN ?_ _) | (with_reducible refine Kd.C_drew ?_))); (case side2 => exact (Kd.R_reads' HO_12.out).2.1); (case side3 => repeat (first | exact (Kd.R_reads' HO397.out).2.2 | (with_reducible refine Kd.C_alloc ?_ _) | (with_reducible refine Kd.C_drewN ?_ _) | (with_reducible refine Kd.C_drew ?_))); (case side4 => exact (Kd.R_reads' HO397.out).2.1); rintro e w48 ⟨rfl, hb⟩; refine ⟨_, rfl, ?_⟩; have n0_ := Aside0.mk (Kd.R_below (by (with_reducible repeat (first | apply Kd.R_alloc | apply Kd.R_drewN | apply Kd.R_drew)); exact HO_12.out) hb); have n1_ := Aside0.mk (Kd.R_below (by (with_reducible repeat (first | apply Kd.R_alloc | apply Kd.R_drewN | apply Kd.R_drew)); exact HO_13.out) hb); have n2_ := Aside0.mk (Kd.R_below (by (with_reducible repeat (first | apply Kd.R_alloc | apply Kd.R_drewN | apply Kd.R_drew)); exact HO397.out) hb); have n3_ := Aside0.mk (below_step hb_ hb); clear HO_12; clear HO_13; clear HO397; clear HB; have HO_12 := n0_; have HO_13 := n1_; have HO397 := n2_; have HB := n3_; clear n0_ n1_ n2_ n3_; (try clear hb); (try clear hb2); (try clear hk); (try clear hi)) | ((with_reducible refine gate_callee (f := 17) rfl ?_); refine goesL_ (some 66) rfl rfl Try.func17 (by kernel_rfl) rfl #[.slice A1 l1.length c1] rfl ln_ ?_; (with_reducible refine (laws_toCheckS.calls kj18 _ _ l1 t399 _ ?side1 ?side2 A37.out).mono ?_); (case side1 => repeat (first | exact (Kd.C_below HR1.out HB.out) | (with_reducible refine Kd.C_alloc ?_ _) | (with_reducible refine Kd.C_drewN ?_ _) | (with_reducible refine Kd.C_drew ?_))); (case side2 => exact HC1.out); rintro e w49 ⟨v400, rfl, ho0, hb⟩; refine ⟨_, rfl, ?_⟩; have n0_ := Aside0.mk (Kd.R_below (by (with_reducible repeat (first | apply Kd.R_alloc | apply Kd.R_drewN | apply Kd.R_drew)); exact HO_12.out) hb); have n1_ := Aside0.mk (Kd.R_elder' (by (with_reducible repeat (first | apply Kd.R_alloc | apply Kd.R_drewN | apply Kd.R_drew)); exact HO_13.out) (Kd.R_base ho0) hb); have n2_ := Aside0.mk (Kd.R_below (by (with_reducible repeat (first | apply Kd.R_alloc | apply Kd.R_drewN | apply Kd.R_drew)); exact HO397.out) hb); have n3_ := Aside0.mk (Kd.R_lower (Kd.R_new' ho0 (Kd.R_lt (by (with_reducible repeat (first | apply Kd.R_alloc | apply Kd.R_drewN | apply Kd.R_drew)); exact HO_13.out))) (below_size hb_)); have n4_ := Aside0.mk (below_step hb_ hb); clear HO_12; clear HO_13; clear HO397; clear HB; have HO_12 := n0_; have HO_13 := n1_; have HO397 := n2_; have HO401 := n3_; have HB := n4_; clear n0_ n1_ n2_ n3_ n4_; (try clear hb); (try clear hb2); (try clear hk); (try clear hi); (try clear ho0); obtain ⟨Ao50, co50, eo50⟩ := Kd.R_slice HO401.out; subst eo50) | ((with_reducible refine gate_callee (f := 19) rfl ?_); refine goesL_ (some 67) rfl rfl Try.func19 (by kernel_rfl) rfl #[.slice Ao30 t390.length co30, .slice Ao50 t399.length co50] rfl ln_ ?_; (with_reducible refine (laws_eqCheckS.calls kj18 _ _ t390 _ _ t399 false _ ?side1 ?side2 ?side3 ?side4 A38.out).mono ?_); (case side1 => repeat (first | exact (Kd.R_reads' HO_13.out).2.2 | (with_reducible refine Kd.C_alloc ?_ _) | (with_reducible refine Kd.C_drewN ?_ _) | (with_reducible refine Kd.C_drew ?_))); (case side2 => exact (Kd.R_reads' HO_13.out).2.1); (case side3 => repeat (first | exact (Kd.R_reads' HO401.out).2.2 | (with_reducible refine Kd.C_alloc ?_ _) | (with_reducible refine Kd.C_drewN ?_ _) | (with_reducible refine Kd.C_drew ?_))); (case side4 => exact (Kd.R_reads' HO401.out).2.1); rintro e w51 ⟨rfl, hb⟩; refine ⟨_, rfl, ?_⟩; have n0_ := Aside0.mk (Kd.R_below (by (with_reducible repeat (first | apply Kd.R_alloc | apply Kd.R_drewN | apply Kd.R_drew)); exact HO_12.out) hb); have n1_ := Aside0.mk (Kd.R_below (by (with_reducible repeat (first | apply Kd.R_alloc | apply Kd.R_drewN | apply Kd.R_drew)); exact HO_13.out) hb); have n2_ := Aside0.mk (Kd.R_below (by (with_reducible repeat (first | apply Kd.R_alloc | apply Kd.R_drewN | apply Kd.R_drew)); exact HO397.out) hb); have n3_ := Aside0.mk (Kd.R_below (by (with_reducible repeat (first | apply Kd.R_alloc | apply Kd.R_drewN | apply Kd.R_drew)); exact HO401.out) hb); have n4_ := Aside0.mk (below_step hb_ hb); clear HO_12; clear HO_13; clear HO397; clear HO401; clear HB; have HO_12 := n0_; have HO_13 := n1_; have HO397 := n2_; have HO401 := n3_; have HB := n4_; clear n0_ n1_ n2_ n3_ n4_; (try clear hb); (try clear hb2); (try clear hk); (try clear hi)))
         go_ret
         exact ⟨ew_, hb_⟩
       ·replace c36 := Bool.eq_false_iff.mpr c36
        subst c36
        have H1 : (some false) = some r := by rw [if_neg (show ¬ (false = true) by decide)] at H; exact H
        clear H
        have H := H1
        clear H1
        obtain rfl := Option.some.inj H
        go_wp2_with (first | ((with_reducible refine gate_callee (f := 22) rfl ?_); refine goesL_ (some 61) rfl rfl Try.func22 (by kernel_rfl) rfl #[.slice A0 l0.length c0] rfl ln_ ?_; (with_reducible refine (laws_toGearS.calls kj18 _ _ l0 t395 _ ?side1 ?side2 A34.out).mono ?_); (case side1 => repeat (first | exact (Kd.C_below HR0.out HB.out) | (with_reducible refine Kd.C_alloc ?_ _) | (with_reducible refine Kd.C_drewN ?_ _) | (with_reducible refine Kd.C_drew ?_))); (case side2 => exact HC0.out); rintro e w52 ⟨v396, rfl, ho0, hb⟩; refine ⟨_, rfl, ?_⟩; have n0_ := Aside0.mk (Kd.R_elder' (by (with_reducible repeat (first | apply Kd.R_alloc | apply Kd.R_drewN | apply Kd.R_drew)); exact HO_12.out) (Kd.R_base ho0) hb); have n1_ := Aside0.mk (Kd.R_below (by (with_reducible repeat (first | apply Kd.R_alloc | apply Kd.R_drewN | apply Kd.R_drew)); exact HO_13.out) hb); have n2_ := Aside0.mk (Kd.R_lower (Kd.R_new' ho0 (Kd.R_lt (by (with_reducible repeat (first | apply Kd.R_alloc | apply Kd.R_drewN | apply Kd.R_drew)); exact HO_12.out))) (below_size hb_)); have n3_ := Aside0.mk (below_step hb_ hb); clear HO_12; clear HO_13; clear HB; have HO_12 := n0_; have HO_13 := n1_; have HO397 := n2_; have HB := n3_; clear n0_ n1_ n2_ n3_; (try clear hb); (try clear hb2); (try clear hk); (try clear hi); (try clear ho0); obtain ⟨Ao53, co53, eo53⟩ := Kd.R_slice HO397.out; subst eo53) | ((with_reducible refine gate_callee (f := 24) rfl ?_); refine goesL_ (some 62) rfl rfl Try.func24 (by kernel_rfl) rfl #[.slice Ao29 t387.length co29, .slice Ao53 t395.length co53] rfl ln_ ?_; (with_reducible refine (laws_eqGearS.calls kj18 _ _ t387 _ _ t395 false _ ?side1 ?side2 ?side3 ?side4 A35.out).mono ?_); (case side1 => repeat (first | exact (Kd.R_reads' HO_12.out).2.2 | (with_reducible refine Kd.C_alloc ?_ _) | (with_reducible refine Kd.C_drewN ?_ _) | (with_reducible refine Kd.C_drew ?_))); (case side2 => exact (Kd.R_reads' HO_12.out).2.1); (case side3 => repeat (first | exact (Kd.R_reads' HO397.out).2.2 | (with_reducible refine Kd.C_alloc ?_ _) | (with_reducible refine Kd.C_drewN ?_ _) | (with_reducible refine Kd.C_drew ?_))); (case side4 => exact (Kd.R_reads' HO397.out).2.1); rintro e w54 ⟨rfl, hb⟩; refine ⟨_, rfl, ?_⟩; have n0_ := Aside0.mk (Kd.R_below (by (with_reducible repeat (first | apply Kd.R_alloc | apply Kd.R_drewN | apply Kd.R_drew)); exact HO_12.out) hb); have n1_ := Aside0.mk (Kd.R_below (by (with_reducible repeat (first | apply Kd.R_alloc | apply Kd.R_drewN | apply Kd.R_drew)); exact HO_13.out) hb); have n2_ := Aside0.mk (Kd.R_below (by (with_reducible repeat (first | apply Kd.R_alloc | apply Kd.R_drewN | apply Kd.R_drew)); exact HO397.out) hb); have n3_ := Aside0.mk (below_step hb_ hb); clear HO_12; clear HO_13; clear HO397; clear HB; have HO_12 := n0_; have HO_13 := n1_; have HO397 := n2_; have HB := n3_; clear n0_ n1_ n2_ n3_; (try clear hb); (try clear hb2); (try clear hk); (try clear hi)))
        go_ret
        exact ⟨ew_, hb_⟩

end Go.Proofs.Ytdbigcfpinpnpaa.P
