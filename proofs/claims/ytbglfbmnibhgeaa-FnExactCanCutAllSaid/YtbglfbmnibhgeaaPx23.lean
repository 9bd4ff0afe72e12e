-- Written by gprint.py (own program, over the printer of the kit) out of the translation. Lean checks it.
import Derived.Test.YtbglfbmnibhgeaaPx0
import Derived.Test.YtbglfbmnibhgeaaPx2
import Derived.Test.YtbglfbmnibhgeaaPx8
import Derived.Test.YtbglfbmnibhgeaaPx22
import Derived.Test.YtbglfbmnibhgeaaWPk
namespace Go.Proofs.Ytbglfbmnibhgeaa.P
open Go.RowKit Go.Proofs.YtbglfbmnibhgeaaW.PrintWords Go.Proofs.YtbglfbmnibhgeaaW.PrintLast Go.Proofs.YtbglfbmnibhgeaaW.PrintMore Go.Proofs.YtbglfbmnibhgeaaW.Pk
open Bool renaming true → T_, false → F_
open List renaming setIfInBounds_toArray → sT_, set_cons_zero → s0_, set_cons_succ → sS_
attribute [local go_sem] max2_int min2_int max_two min_two max_three min_three max_four min_four   -- for this text's walks alone
set_option linter.unusedVariables false
set_option linter.unusedSimpArgs false

/-! ### spec_CanCutAll: function 46 -/
def spec_CanCutAll.f (k : Nat) (l0 : List (S45)) (l1 : List (S55)) : Option (Bool × Int) := (spec_l23Exactly.f k l0 l1).bind fun t619 => (if t619 = 0 then ((spec_l23Way.f l0 l1).bind fun bt620 => (some (bt620.2, 0))) else (some (false, t619)))
theorem spec_CanCutAll.mono : ∀ a0 a1 k, LeO (spec_CanCutAll.f k a0 a1) (spec_CanCutAll.f (k + 1) a0 a1) := by
 intro a0 a1 k
 unfold spec_CanCutAll.f
 repeat' first
   | (with_reducible exact spec_l23Exactly.mono _ _ _)
   | (with_reducible exact LeO.refl _)
   | (with_reducible exact LeO.none _)
   | (with_reducible refine LeO.ite ?_ ?_)
   | (with_reducible refine LeO.bind ?_ (fun _ => ?_))
   | exact spec_l23Exactly.mono _ _ _
   | exact LeO.none _
   | refine LeO.ite ?_ ?_
   | refine LeO.bind ?_ (fun _ => ?_)
set_option maxHeartbeats 8000000 in
set_option maxRecDepth 100000 in
theorem spec_CanCutAll.calls (k : Nat) (A0 : Option Addr) (c0 : Nat) (l0 : List (S45)) (A1 : Option Addr) (c1 : Nat) (l1 : List (S55)) (r1 : Bool) (r2 : Int) (w : World) (hr0 : Kd.C k45 w A0 l0.length l0) (hc0 : l0.length ≤ c0) (hr1 : Kd.C k55 w A1 l1.length l1) (hc1 : l1.length ≤ c1) (h : spec_CanCutAll.f k l0 l1 = some (r1, r2)) :
  Calls Try.prog 46 #[.slice A0 l0.length c0, .slice A1 l1.length c1] w fun e w' => e = .returned (.tuple #[.bool r1, .int .i64 r2]) ∧ Below w.heap.size w w' := by
 have HR0 := Aside0.mk hr0
 have HC0 := Aside0.mk hc0
 clear hr0 hc0
 have HR1 := Aside0.mk hr1
 have HC1 := Aside0.mk hc1
 clear hr1 hc1
 have HB := Aside0.mk (Below.refl w.heap.size w)
 have H : ((spec_l23Exactly.f k l0 l1).bind fun t619 => (if t619 = 0 then ((spec_l23Way.f l0 l1).bind fun bt620 => (some (bt620.2, 0))) else (some (false, t619)))) = some (r1, r2) := h
 clear h
 replace H := Option.bind_eq_some_iff.mp H
 obtain ⟨t619, A30, H⟩ := H
 replace H : (if t619 = 0 then ((spec_l23Way.f l0 l1).bind fun bt620 => (some (bt620.2, 0))) else (some (false, t619))) = some (r1, r2) := H
 have A3 := Aside0.mk A30
 clear A30
 by_cases c4 : t619 = 0
 ·rw [if_pos c4] at H
  have c4b0 : (t619 == 0) = true := beq_iff_eq.mpr c4
  have c4b1 : (t619 != 0) = false := bne_eq_false_iff_eq.mpr c4
  clear c4
  replace H := Option.bind_eq_some_iff.mp H
  obtain ⟨⟨t620, t621⟩, A50, H⟩ := H
  replace H : (some (t621, 0)) = some (r1, r2) := H
  have A5 := Aside0.mk A50
  clear A50
  simp only [Option.some.injEq, Prod.mk.injEq] at H
  obtain ⟨rfl, rfl⟩ := H
  go_enter Try.func46, Try.ntmps46
  go_wp2_with (first | ((with_reducible refine gate_callee (f := 75) rfl ?_); refine goesL_ (some 11) rfl rfl Try.func75 (by kernel_rfl) rfl #[.slice A0 l0.length c0, .slice A1 l1.length c1] rfl ln_ ?_; (with_reducible refine (spec_l23Exactly.calls k _ _ l0 _ _ l1 t619 _ ?side1 ?side2 ?side3 ?side4 A3.out).mono ?_); (case side1 => exact kc_ HR0.out); (case side2 => exact HC0.out); (case side3 => exact kc_ HR1.out); (case side4 => exact HC1.out); rintro e w6 ⟨rfl, hb⟩; refine ⟨_, rfl, ?_⟩; have n0_ := Aside0.mk (below_step hb_ hb); clear HB; have HB := n0_; clear n0_; (try clear hb); (try clear hb2); (try clear hk); (try clear hi)) | ((with_reducible refine gate_callee (f := 76) rfl ?_); refine goesL_ (some 18) rfl rfl Try.func76 (by kernel_rfl) rfl #[.slice A0 l0.length c0, .slice A1 l1.length c1] rfl ln_ ?_; (with_reducible refine (spec_l23Way.calls _ _ l0 _ _ l1 t620 t621 _ ?side1 ?side2 ?side3 ?side4 A5.out).mono ?_); (case side1 => exact kc_ (Kd.C_below HR0.out HB.out)); (case side2 => exact HC0.out); (case side3 => exact kc_ (Kd.C_below HR1.out HB.out)); (case side4 => exact HC1.out); rintro e w7 ⟨v622, rfl, ho0, hb⟩; refine ⟨_, rfl, ?_⟩; have n0_ := Aside0.mk (Kd.R_lower ho0 (below_size hb_)); have n1_ := Aside0.mk (below_step hb_ hb); clear HB; have HO623 := n0_; have HB := n1_; clear n0_ n1_; (try clear hb); (try clear hb2); (try clear hk); (try clear hi); (try clear ho0)))
  go_ret2
  exact ⟨ew_, hb_⟩
 ·rw [if_neg c4] at H
  have c4b0 : (t619 == 0) = false := beq_eq_false_iff_ne.mpr c4
  have c4b1 : (t619 != 0) = true := bne_iff_ne.mpr c4
  simp only [Option.some.injEq, Prod.mk.injEq] at H
  obtain ⟨rfl, rfl⟩ := H
  go_enter Try.func46, Try.ntmps46
  go_wp2_with (first | ((with_reducible refine gate_callee (f := 75) rfl ?_); refine goesL_ (some 11) rfl rfl Try.func75 (by kernel_rfl) rfl #[.slice A0 l0.length c0, .slice A1 l1.length c1] rfl ln_ ?_; (with_reducible refine (spec_l23Exactly.calls k _ _ l0 _ _ l1 t619 _ ?side1 ?side2 ?side3 ?side4 A3.out).mono ?_); (case side1 => exact kc_ HR0.out); (case side2 => exact HC0.out); (case side3 => exact kc_ HR1.out); (case side4 => exact HC1.out); rintro e w8 ⟨rfl, hb⟩; refine ⟨_, rfl, ?_⟩; have n0_ := Aside0.mk (below_step hb_ hb); clear HB; have HB := n0_; clear n0_; (try clear hb); (try clear hb2); (try clear hk); (try clear hi)))
  go_ret2
  exact ⟨ew_, hb_⟩

/-! ### impl_CanCutAll: function 47 -/
def impl_CanCutAll.f (k : Nat) (l0 : List (S45)) (l1 : List (S55)) : Option (Bool × Int) := (impl_CutExactly.f k l0 l1).bind fun bt624 => (if bt624.2 = 0 then (some (true, 0)) else (if bt624.2 = 3 then (some (false, 0)) else (some (false, bt624.2))))
theorem impl_CanCutAll.mono : ∀ a0 a1 k, LeO (impl_CanCutAll.f k a0 a1) (impl_CanCutAll.f (k + 1) a0 a1) := by
 intro a0 a1 k
 unfold impl_CanCutAll.f
 repeat' first
   | (with_reducible exact impl_CutExactly.mono _ _ _)
   | (with_reducible exact LeO.refl _)
   | (with_reducible exact LeO.none _)
   | (with_reducible refine LeO.ite ?_ ?_)
   | (with_reducible refine LeO.bind ?_ (fun _ => ?_))
   | exact impl_CutExactly.mono _ _ _
   | exact LeO.none _
   | refine LeO.ite ?_ ?_
   | refine LeO.bind ?_ (fun _ => ?_)
set_option maxHeartbeats 8000000 in
set_option maxRecDepth 100000 in
theorem impl_CanCutAll.calls (k : Nat) (A0 : Option Addr) (c0 : Nat) (l0 : List (S45)) (A1 : Option Addr) (c1 : Nat) (l1 : List (S55)) (r1 : Bool) (r2 : Int) (w : World) (hr0 : Kd.C k45 w A0 l0.length l0) (hc0 : l0.length ≤ c0) (hr1 : Kd.C k55 w A1 l1.length l1) (hc1 : l1.length ≤ c1) (h : impl_CanCutAll.f k l0 l1 = some (r1, r2)) :
  Calls Try.prog 47 #[.slice A0 l0.length c0, .slice A1 l1.length c1] w fun e w' => e = .returned (.tuple #[.bool r1, .int .i64 r2]) ∧ Below w.heap.size w w' := by
 have HR0 := Aside0.mk hr0
 have HC0 := Aside0.mk hc0
 clear hr0 hc0
 have HR1 := Aside0.mk hr1
 have HC1 := Aside0.mk hc1
 clear hr1 hc1
 have HB := Aside0.mk (Below.refl w.heap.size w)
 have H : ((impl_CutExactly.f k l0 l1).bind fun bt624 => (if bt624.2 = 0 then (some (true, 0)) else (if bt624.2 = 3 then (some (false, 0)) else (some (false, bt624.2))))) = some (r1, r2) := h
 clear h
 replace H := Option.bind_eq_some_iff.mp H
 obtain ⟨⟨t624, t625⟩, A30, H⟩ := H
 replace H : (if t625 = 0 then (some (true, 0)) else (if t625 = 3 then (some (false, 0)) else (some (false, t625)))) = some (r1, r2) := H
 have A3 := Aside0.mk A30
 clear A30
 by_cases c4 : t625 = 0
 ·rw [if_pos c4] at H
  have c4b0 : (t625 == 0) = true := beq_iff_eq.mpr c4
  have c4b1 : (t625 != 0) = false := bne_eq_false_iff_eq.mpr c4
  clear c4
  simp only [Option.some.injEq, Prod.mk.injEq] at H
  obtain ⟨rfl, rfl⟩ := H
  go_enter Try.func47, Try.ntmps47
  go_wp2_with (first | ((with_reducible refine gate_callee (f := 49) rfl ?_); refine goesL_ (some 11) rfl rfl Try.func49 (by kernel_rfl) rfl #[.slice A0 l0.length c0, .slice A1 l1.length c1] rfl ln_ ?_; (with_reducible refine (impl_CutExactly.calls k _ _ l0 _ _ l1 t624 t625 _ ?side1 ?side2 ?side3 ?side4 A3.out).mono ?_); (case side1 => exact kc_ HR0.out); (case side2 => exact HC0.out); (case side3 => exact kc_ HR1.out); (case side4 => exact HC1.out); rintro e w5 ⟨v626, rfl, ho0, hb⟩; refine ⟨_, rfl, ?_⟩; have n0_ := Aside0.mk (Kd.R_lower ho0 (below_size hb_)); have n1_ := Aside0.mk (below_step hb_ hb); clear HB; have HO627 := n0_; have HB := n1_; clear n0_ n1_; (try clear hb); (try clear hb2); (try clear hk); (try clear hi); (try clear ho0)))
  go_ret2
  exact ⟨ew_, hb_⟩
 ·rw [if_neg c4] at H
  have c4b0 : (t625 == 0) = false := beq_eq_false_iff_ne.mpr c4
  have c4b1 : (t625 != 0) = true := bne_iff_ne.mpr c4
  by_cases c6 : t625 = 3
  ·rw [if_pos c6] at H
   have c6b0 : (t625 == 3) = true := beq_iff_eq.mpr c6
   have c6b1 : (t625 != 3) = false := bne_eq_false_iff_eq.mpr c6
   clear c6
   simp only [Option.some.injEq, Prod.mk.injEq] at H
   obtain ⟨rfl, rfl⟩ := H
   go_enter Try.func47, Try.ntmps47
   go_wp2_with (first | ((with_reducible refine gate_callee (f := 49) rfl ?_); refine goesL_ (some 11) rfl rfl Try.func49 (by kernel_rfl) rfl #[.slice A0 l0.length c0, .slice A1 l1.length c1] rfl ln_ ?_; (with_reducible refine (impl_CutExactly.calls k _ _ l0 _ _ l1 t624 t625 _ ?side1 ?side2 ?side3 ?side4 A3.out).mono ?_); (case side1 => exact kc_ HR0.out); (case side2 => exact HC0.out); (case side3 => exact kc_ HR1.out); (case side4 => exact HC1.out); rintro e w7 ⟨v626, rfl, ho0, hb⟩; refine ⟨_, rfl, ?_⟩; have n0_ := Aside0.mk (Kd.R_lower ho0 (below_size hb_)); have n1_ := Aside0.mk (below_step hb_ hb); clear HB; have HO627 := n0_; have HB := n1_; clear n0_ n1_; (try clear hb); (try clear hb2); (try clear hk); (try clear hi); (try clear ho0)))
   go_ret2
   exact ⟨ew_, hb_⟩
  ·rw [if_neg c6] at H
   have c6b0 : (t625 == 3) = false := beq_eq_false_iff_ne.mpr c6
   have c6b1 : (t625 != 3) = true := bne_iff_ne.mpr c6
   simp only [Option.some.injEq, Prod.mk.injEq] at H
   obtain ⟨rfl, rfl⟩ := H
   go_enter Try.func47, Try.ntmps47
   go_wp2_with (first | ((with_reducible refine gate_callee (f := 49) rfl ?_); refine goesL_ (some 11) rfl rfl Try.func49 (by kernel_rfl) rfl #[.slice A0 l0.length c0, .slice A1 l1.length c1] rfl ln_ ?_; (with_reducible refine (impl_CutExactly.calls k _ _ l0 _ _ l1 t624 t625 _ ?side1 ?side2 ?side3 ?side4 A3.out).mono ?_); (case side1 => exact kc_ HR0.out); (case side2 => exact HC0.out); (case side3 => exact kc_ HR1.out); (case side4 => exact HC1.out); rintro e w8 ⟨v626, rfl, ho0, hb⟩; refine ⟨_, rfl, ?_⟩; have n0_ := Aside0.mk (Kd.R_lower ho0 (below_size hb_)); have n1_ := Aside0.mk (below_step hb_ hb); clear HB; have HO627 := n0_; have HB := n1_; clear n0_ n1_; (try clear hb); (try clear hb2); (try clear hk); (try clear hi); (try clear ho0)))
   go_ret2
   exact ⟨ew_, hb_⟩

/-! ### laws_FnExactCanCutAll: function 12 -/
def laws_FnExactCanCutAll.j0 : Nat → List (S41) → List (S52) → List (S45) → List (S55) → Bool → Option (Bool)
 | 0, _, _, _, _, _ => none
 | k + 1, x0, x1, x8, x9, x47 => if x47 = true then (some false) else ((laws_toCoilS.f k x0).bind fun t646 => ((laws_eqCoilS.f k x8 t646).bind fun t649 => (if t649 = true then ((laws_toWantS.f k x1).bind fun t650 => ((laws_eqWantS.f k x9 t650).bind fun t653 => (if t653 = true then (some true) else (some false)))) else (some false))))
def laws_FnExactCanCutAll.f (k : Nat) (l0 : List (S41)) (l1 : List (S52)) : Option (Bool) := (laws_szCoilS.f k l0 1048576).bind fun t628 => (if t628 < 0 then (some true) else ((laws_szWantS.f k l1 t628).bind fun t629 => (if t629 < 0 then (some true) else ((laws_toCoilS.f k l0).bind fun t630 => ((laws_toWantS.f k l1).bind fun t633 => ((spec_CanCutAll.f k t630 t633).bind fun bt636 => ((laws_toCoilS.f k l0).bind fun t638 => ((laws_toWantS.f k l1).bind fun t641 => ((impl_CanCutAll.f k t638 t641).bind fun bt644 => (if (bt644.1 != bt636.1) = true then (laws_FnExactCanCutAll.j0 k l0 l1 t638 t641 true) else (laws_FnExactCanCutAll.j0 k l0 l1 t638 t641 (bt644.2 != bt636.2))))))))))))
theorem laws_FnExactCanCutAll.mono_l : ∀ k, (∀ y0 y1 y2 y3 y4, LeO (laws_FnExactCanCutAll.j0 k y0 y1 y2 y3 y4) (laws_FnExactCanCutAll.j0 (k + 1) y0 y1 y2 y3 y4))
 | 0 => fun _ _ _ _ _ r h => by simp [laws_FnExactCanCutAll.j0] at h
 | k + 1 => by
  have ih0 := laws_FnExactCanCutAll.mono_l k
  ·intro y0 y1 y2 y3 y4
   unfold laws_FnExactCanCutAll.j0
   repeat' first
   | (with_reducible exact ih0 _ _ _ _ _)
   | (with_reducible exact impl_CanCutAll.mono _ _ _)
   | (with_reducible exact laws_eqCoilS.mono _ _ _)
   | (with_reducible exact laws_eqWantS.mono _ _ _)
   | (with_reducible exact laws_szCoilS.mono _ _ _)
   | (with_reducible exact laws_szWantS.mono _ _ _)
   | (with_reducible exact laws_toCoilS.mono _ _)
   | (with_reducible exact laws_toWantS.mono _ _)
   | (with_reducible exact spec_CanCutAll.mono _ _ _)
   | (with_reducible exact LeO.refl _)
   | (with_reducible exact LeO.none _)
   | (with_reducible refine LeO.ite ?_ ?_)
   | (with_reducible refine LeO.bind ?_ (fun _ => ?_))
   | exact ih0 _ _ _ _ _
   | exact impl_CanCutAll.mono _ _ _
   | exact laws_eqCoilS.mono _ _ _
   | exact laws_eqWantS.mono _ _ _
   | exact laws_szCoilS.mono _ _ _
   | exact laws_szWantS.mono _ _ _
   | exact laws_toCoilS.mono _ _
   | exact laws_toWantS.mono _ _
   | exact spec_CanCutAll.mono _ _ _
   | exact LeO.none _
   | refine LeO.ite ?_ ?_
   | refine LeO.bind ?_ (fun _ => ?_)
theorem laws_FnExactCanCutAll.mono : ∀ a0 a1 k, LeO (laws_FnExactCanCutAll.f k a0 a1) (laws_FnExactCanCutAll.f (k + 1) a0 a1) := by
 intro a0 a1 k
 have ih0 := laws_FnExactCanCutAll.mono_l k
 unfold laws_FnExactCanCutAll.f
 repeat' first
   | (with_reducible exact ih0 _ _ _ _ _)
   | (with_reducible exact impl_CanCutAll.mono _ _ _)
   | (with_reducible exact laws_eqCoilS.mono _ _ _)
   | (with_reducible exact laws_eqWantS.mono _ _ _)
   | (with_reducible exact laws_szCoilS.mono _ _ _)
   | (with_reducible exact laws_szWantS.mono _ _ _)
   | (with_reducible exact laws_toCoilS.mono _ _)
   | (with_reducible exact laws_toWantS.mono _ _)
   | (with_reducible exact spec_CanCutAll.mono _ _ _)
   | (with_reducible exact LeO.refl _)
   | (with_reducible exact LeO.none _)
   | (with_reducible refine LeO.ite ?_ ?_)
   | (with_reducible refine LeO.bind ?_ (fun _ => ?_))
   | exact ih0 _ _ _ _ _
   | exact impl_CanCutAll.mono _ _ _
   | exact laws_eqCoilS.mono _ _ _
   | exact laws_eqWantS.mono _ _ _
   | exact laws_szCoilS.mono _ _ _
   | exact laws_szWantS.mono _ _ _
   | exact laws_toCoilS.mono _ _
   | exact laws_toWantS.mono _ _
   | exact spec_CanCutAll.mono _ _ _
   | exact LeO.none _
   | refine LeO.ite ?_ ?_
   | refine LeO.bind ?_ (fun _ => ?_)
set_option maxHeartbeats 8000000 in
set_option maxRecDepth 100000 in
theorem laws_FnExactCanCutAll.calls (k : Nat) (A0 : Option Addr) (c0 : Nat) (l0 : List (S41)) (A1 : Option Addr) (c1 : Nat) (l1 : List (S52)) (r : Bool) (w : World) (hr0 : Kd.C k41 w A0 l0.length l0) (hc0 : l0.length ≤ c0) (hr1 : Kd.C k52 w A1 l1.length l1) (hc1 : l1.length ≤ c1) (h : laws_FnExactCanCutAll.f k l0 l1 = some r) :
  Calls Try.prog 12 #[.slice A0 l0.length c0, .slice A1 l1.length c1] w fun e w' => e = .returned (.bool r) ∧ Below w.heap.size w w' := by
 have HR0 := Aside0.mk hr0
 have HC0 := Aside0.mk hc0
 clear hr0 hc0
 have HR1 := Aside0.mk hr1
 have HC1 := Aside0.mk hc1
 clear hr1 hc1
 have HB := Aside0.mk (Below.refl w.heap.size w)
 have H : ((laws_szCoilS.f k l0 1048576).bind fun t628 => (if t628 < 0 then (some true) else ((laws_szWantS.f k l1 t628).bind fun t629 => (if t629 < 0 then (some true) else ((laws_toCoilS.f k l0).bind fun t630 => ((laws_toWantS.f k l1).bind fun t633 => ((spec_CanCutAll.f k t630 t633).bind fun bt636 => ((laws_toCoilS.f k l0).bind fun t638 => ((laws_toWantS.f k l1).bind fun t641 => ((impl_CanCutAll.f k t638 t641).bind fun bt644 => (if (bt644.1 != bt636.1) = true then (laws_FnExactCanCutAll.j0 k l0 l1 t638 t641 true) else (laws_FnExactCanCutAll.j0 k l0 l1 t638 t641 (bt644.2 != bt636.2))))))))))))) = some r := h
 clear h
 replace H := Option.bind_eq_some_iff.mp H
 obtain ⟨t628, A30, H⟩ := H
 replace H : (if t628 < 0 then (some true) else ((laws_szWantS.f k l1 t628).bind fun t629 => (if t629 < 0 then (some true) else ((laws_toCoilS.f k l0).bind fun t630 => ((laws_toWantS.f k l1).bind fun t633 => ((spec_CanCutAll.f k t630 t633).bind fun bt636 => ((laws_toCoilS.f k l0).bind fun t638 => ((laws_toWantS.f k l1).bind fun t641 => ((impl_CanCutAll.f k t638 t641).bind fun bt644 => (if (bt644.1 != bt636.1) = true then (laws_FnExactCanCutAll.j0 k l0 l1 t638 t641 true) else (laws_FnExactCanCutAll.j0 k l0 l1 t638 t641 (bt644.2 != bt636.2)))))))))))) = some r := H
 have A3 := Aside0.mk A30
 clear A30
 by_cases c4 : t628 < 0
 ·rw [if_pos c4] at H
  have c4b0 : decide (t628 < 0) = true := decide_eq_true c4
  clear c4
  obtain rfl := Option.some.inj H
  go_enter Try.func12, Try.ntmps12
  go_wp2_with (first | ((with_reducible refine gate_callee (f := 14) rfl ?_); refine goesL_ (some 14) rfl rfl Try.func14 (by kernel_rfl) rfl #[.slice A0 l0.length c0, .int .i64 1048576] rfl ln_ ?_; (with_reducible refine (laws_szCoilS.calls k _ _ l0 1048576 t628 _ ?side1 ?side2 A3.out).mono ?_); (case side1 => exact kc_ HR0.out); (case side2 => exact HC0.out); rintro e w5 ⟨rfl, hb⟩; refine ⟨_, rfl, ?_⟩; have n0_ := Aside0.mk (below_step hb_ hb); clear HB; have HB := n0_; clear n0_; (try clear hb); (try clear hb2); (try clear hk); (try clear hi)))
  go_ret
  exact ⟨ew_, hb_⟩
 ·rw [if_neg c4] at H
  have c4b0 : decide (t628 < 0) = false := decide_eq_false c4
  clear c4
  replace H := Option.bind_eq_some_iff.mp H
  obtain ⟨t629, A60, H⟩ := H
  replace H : (if t629 < 0 then (some true) else ((laws_toCoilS.f k l0).bind fun t630 => ((laws_toWantS.f k l1).bind fun t633 => ((spec_CanCutAll.f k t630 t633).bind fun bt636 => ((laws_toCoilS.f k l0).bind fun t638 => ((laws_toWantS.f k l1).bind fun t641 => ((impl_CanCutAll.f k t638 t641).bind fun bt644 => (if (bt644.1 != bt636.1) = true then (laws_FnExactCanCutAll.j0 k l0 l1 t638 t641 true) else (laws_FnExactCanCutAll.j0 k l0 l1 t638 t641 (bt644.2 != bt636.2)))))))))) = some r := H
  have A6 := Aside0.mk A60
  clear A60
  by_cases c7 : t629 < 0
  ·rw [if_pos c7] at H
   have c7b0 : decide (t629 < 0) = true := decide_eq_true c7
   clear c7
   obtain rfl := Option.some.inj H
   go_enter Try.func12, Try.ntmps12
   go_wp2_with (first | ((with_reducible refine gate_callee (f := 14) rfl ?_); refine goesL_ (some 14) rfl rfl Try.func14 (by kernel_rfl) rfl #[.slice A0 l0.length c0, .int .i64 1048576] rfl ln_ ?_; (with_reducible refine (laws_szCoilS.calls k _ _ l0 1048576 t628 _ ?side1 ?side2 A3.out).mono ?_); (case side1 => exact kc_ HR0.out); (case side2 => exact HC0.out); rintro e w8 ⟨rfl, hb⟩; refine ⟨_, rfl, ?_⟩; have n0_ := Aside0.mk (below_step hb_ hb); clear HB; have HB := n0_; clear n0_; (try clear hb); (try clear hb2); (try clear hk); (try clear hi)) | ((with_reducible refine gate_callee (f := 21) rfl ?_); refine goesL_ (some 19) rfl rfl Try.func21 (by kernel_rfl) rfl #[.slice A1 l1.length c1, .int .i64 t628] rfl ln_ ?_; (with_reducible refine (laws_szWantS.calls k _ _ l1 t628 t629 _ ?side1 ?side2 A6.out).mono ?_); (case side1 => exact kc_ (Kd.C_below HR1.out HB.out)); (case side2 => exact HC1.out); rintro e w9 ⟨rfl, hb⟩; refine ⟨_, rfl, ?_⟩; have n0_ := Aside0.mk (below_step hb_ hb); clear HB; have HB := n0_; clear n0_; (try clear hb); (try clear hb2); (try clear hk); (try clear hi)))
   go_ret
   exact ⟨ew_, hb_⟩
  ·rw [if_neg c7] at H
   have c7b0 : decide (t629 < 0) = false := decide_eq_false c7
   clear c7
   replace H := Option.bind_eq_some_iff.mp H
   obtain ⟨t630, A100, H⟩ := H
   replace H : ((laws_toWantS.f k l1).bind fun t633 => ((spec_CanCutAll.f k t630 t633).bind fun bt636 => ((laws_toCoilS.f k l0).bind fun t638 => ((laws_toWantS.f k l1).bind fun t641 => ((impl_CanCutAll.f k t638 t641).bind fun bt644 => (if (bt644.1 != bt636.1) = true then (laws_FnExactCanCutAll.j0 k l0 l1 t638 t641 true) else (laws_FnExactCanCutAll.j0 k l0 l1 t638 t641 (bt644.2 != bt636.2)))))))) = some r := H
   have A10 := Aside0.mk A100
   clear A100
   replace H := Option.bind_eq_some_iff.mp H
   obtain ⟨t633, A110, H⟩ := H
   replace H : ((spec_CanCutAll.f k t630 t633).bind fun bt636 => ((laws_toCoilS.f k l0).bind fun t638 => ((laws_toWantS.f k l1).bind fun t641 => ((impl_CanCutAll.f k t638 t641).bind fun bt644 => (if (bt644.1 != bt636.1) = true then (laws_FnExactCanCutAll.j0 k l0 l1 t638 t641 true) else (laws_FnExactCanCutAll.j0 k l0 l1 t638 t641 (bt644.2 != bt636.2))))))) = some r := H
   have A11 := Aside0.mk A110
   clear A110
   replace H := Option.bind_eq_some_iff.mp H
   obtain ⟨⟨t636, t637⟩, A120, H⟩ := H
   replace H : ((laws_toCoilS.f k l0).bind fun t638 => ((laws_toWantS.f k l1).bind fun t641 => ((impl_CanCutAll.f k t638 t641).bind fun bt644 => (if (bt644.1 != t636) = true then (laws_FnExactCanCutAll.j0 k l0 l1 t638 t641 true) else (laws_FnExactCanCutAll.j0 k l0 l1 t638 t641 (bt644.2 != t637)))))) = some r := H
   have A12 := Aside0.mk A120
   clear A120
   replace H := Option.bind_eq_some_iff.mp H
   obtain ⟨t638, A130, H⟩ := H
   replace H : ((laws_toWantS.f k l1).bind fun t641 => ((impl_CanCutAll.f k t638 t641).bind fun bt644 => (if (bt644.1 != t636) = true then (laws_FnExactCanCutAll.j0 k l0 l1 t638 t641 true) else (laws_FnExactCanCutAll.j0 k l0 l1 t638 t641 (bt644.2 != t637))))) = some r := H
   have A13 := Aside0.mk A130
   clear A130
   replace H := Option.bind_eq_some_iff.mp H
   obtain ⟨t641, A140, H⟩ := H
   replace H : ((impl_CanCutAll.f k t638 t641).bind fun bt644 => (if (bt644.1 != t636) = true then (laws_FnExactCanCutAll.j0 k l0 l1 t638 t641 true) else (laws_FnExactCanCutAll.j0 k l0 l1 t638 t641 (bt644.2 != t637)))) = some r := H
   have A14 := Aside0.mk A140
   clear A140
   replace H := Option.bind_eq_some_iff.mp H
   obtain ⟨⟨t644, t645⟩, A150, H⟩ := H
   replace H : (if (t644 != t636) = true then (laws_FnExactCanCutAll.j0 k l0 l1 t638 t641 true) else (laws_FnExactCanCutAll.j0 k l0 l1 t638 t641 (t645 != t637))) = some r := H
   have A15 := Aside0.mk A150
   clear A150
   have HC16 := Aside0.mk H
   clear H
   go_enter Try.func12, Try.ntmps12
   go_upto_region 12 with (first | ((with_reducible refine gate_callee (f := 14) rfl ?_); refine goesL_ (some 14) rfl rfl Try.func14 (by kernel_rfl) rfl #[.slice A0 l0.length c0, .int .i64 1048576] rfl ln_ ?_; (with_reducible refine (laws_szCoilS.calls k _ _ l0 1048576 t628 _ ?side1 ?side2 A3.out).mono ?_); (case side1 => exact kc_ HR0.out); (case side2 => exact HC0.out); rintro e w17 ⟨rfl, hb⟩; refine ⟨_, rfl, ?_⟩; have n0_ := Aside0.mk (below_step hb_ hb); clear HB; have HB := n0_; clear n0_; (try clear hb); (try clear hb2); (try clear hk); (try clear hi)) | ((with_reducible refine gate_callee (f := 21) rfl ?_); refine goesL_ (some 19) rfl rfl Try.func21 (by kernel_rfl) rfl #[.slice A1 l1.length c1, .int .i64 t628] rfl ln_ ?_; (with_reducible refine (laws_szWantS.calls k _ _ l1 t628 t629 _ ?side1 ?side2 A6.out).mono ?_); (case side1 => exact kc_ (Kd.C_below HR1.out HB.out)); (case side2 => exact HC1.out); rintro e w18 ⟨rfl, hb⟩; refine ⟨_, rfl, ?_⟩; have n0_ := Aside0.mk (below_step hb_ hb); clear HB; have HB := n0_; clear n0_; (try clear hb); (try clear hb2); (try clear hk); (try clear hi)) | ((with_reducible refine gate_callee (f := 16) rfl ?_); refine goesL_ (some 24) rfl rfl Try.func16 (by kernel_rfl) rfl #[.slice A0 l0.length c0] rfl ln_ ?_; (with_reducible refine (laws_toCoilS.calls k _ _ l0 t630 _ ?side1 ?side2 A10.out).mono ?_); (case side1 => exact kc_ (Kd.C_below HR0.out HB.out)); (case side2 => exact HC0.out); rintro e w19 ⟨v631, rfl, ho0, hb⟩; refine ⟨_, rfl, ?_⟩; have n0_ := Aside0.mk (Kd.R_lower ho0 (below_size hb_)); have n1_ := Aside0.mk (below_step hb_ hb); clear HB; have HO632 := n0_; have HB := n1_; clear n0_ n1_; (try clear hb); (try clear hb2); (try clear hk); (try clear hi); (try clear ho0)) | ((with_reducible refine gate_callee (f := 23) rfl ?_); refine goesL_ (some 26) rfl rfl Try.func23 (by kernel_rfl) rfl #[.slice A1 l1.length c1] rfl ln_ ?_; (with_reducible refine (laws_toWantS.calls k _ _ l1 t633 _ ?side1 ?side2 A11.out).mono ?_); (case side1 => exact kc_ (Kd.C_below HR1.out HB.out)); (case side2 => exact HC1.out); rintro e w20 ⟨v634, rfl, ho0, hb⟩; refine ⟨_, rfl, ?_⟩; have n0_ := Aside0.mk (Kd.R_below (kr_ HO632) hb); have n1_ := Aside0.mk (Kd.R_lower ho0 (below_size hb_)); have n2_ := Aside0.mk (below_step hb_ hb); clear HO632; clear HB; have HO632 := n0_; have HO635 := n1_; have HB := n2_; clear n0_ n1_ n2_; (try clear hb); (try clear hb2); (try clear hk); (try clear hi); (try clear ho0); obtain ⟨Ao21, co21, eo21⟩ := Kd.R_slice HO632.out; subst eo21; obtain ⟨Ao22, co22, eo22⟩ := Kd.R_slice HO635.out; subst eo22) | ((with_reducible refine gate_callee (f := 46) rfl ?_); refine goesL_ (some 27) rfl rfl Try.func46 (by kernel_rfl) rfl #[.slice Ao21 t630.length co21, .slice Ao22 t633.length co22] rfl ln_ ?_; (with_reducible refine (spec_CanCutAll.calls k _ _ t630 _ _ t633 t636 t637 _ ?side1 ?side2 ?side3 ?side4 A12.out).mono ?_); (case side1 => repeat (first | exact (Kd.R_reads' HO632.out).2.2 | (with_reducible refine Kd.C_alloc ?_ _) | (with_reducible refine Kd.C_drewN ?_ _) | (with_reducible refine Kd.C_drew ?_))); (case side2 => exact (Kd.R_reads' HO632.out).2.1); (case side3 => repeat (first | exact (Kd.R_reads' HO635.out).2.2 | (with_reducible refine Kd.C_alloc ?_ _) | (with_reducible refine Kd.C_drewN ?_ _) | (with_reducible refine Kd.C_drew ?_))); (case side4 => exact (Kd.R_reads' HO635.out).2.1); rintro e w23 ⟨rfl, hb⟩; refine ⟨_, rfl, ?_⟩; have n0_ := Aside0.mk (Kd.R_below (kr_ HO632) hb); have n1_ := Aside0.mk (Kd.R_below (kr_ HO635) hb); have n2_ := Aside0.mk (below_step hb_ hb); clear HO632; clear HO635; clear HB; have HO632 := n0_; have HO635 := n1_; have HB := n2_; clear n0_ n1_ n2_; (try clear hb); (try clear hb2); (try clear hk); (try clear hi)) | ((with_reducible refine gate_callee (f := 16) rfl ?_); refine goesL_ (some 31) rfl rfl Try.func16 (by kernel_rfl) rfl #[.slice A0 l0.length c0] rfl ln_ ?_; (with_reducible refine (laws_toCoilS.calls k _ _ l0 t638 _ ?side1 ?side2 A13.out).mono ?_); (case side1 => exact kc_ (Kd.C_below HR0.out HB.out)); (case side2 => exact HC0.out); rintro e w24 ⟨v639, rfl, ho0, hb⟩; refine ⟨_, rfl, ?_⟩; have n0_ := Aside0.mk (Kd.R_elder' (kr_ HO632) (Kd.R_base ho0) hb); have n1_ := Aside0.mk (Kd.R_below (kr_ HO635) hb); have n2_ := Aside0.mk (Kd.R_lower (Kd.R_new' ho0 (Kd.R_lt (kr_ HO632))) (below_size hb_)); have n3_ := Aside0.mk (below_step hb_ hb); clear HO632; clear HO635; clear HB; have HO632 := n0_; have HO635 := n1_; have HO640 := n2_; have HB := n3_; clear n0_ n1_ n2_ n3_; (try clear hb); (try clear hb2); (try clear hk); (try clear hi); (try clear ho0)) | ((with_reducible refine gate_callee (f := 23) rfl ?_); refine goesL_ (some 33) rfl rfl Try.func23 (by kernel_rfl) rfl #[.slice A1 l1.length c1] rfl ln_ ?_; (with_reducible refine (laws_toWantS.calls k _ _ l1 t641 _ ?side1 ?side2 A14.out).mono ?_); (case side1 => exact kc_ (Kd.C_below HR1.out HB.out)); (case side2 => exact HC1.out); rintro e w25 ⟨v642, rfl, ho0, hb⟩; refine ⟨_, rfl, ?_⟩; have n0_ := Aside0.mk (Kd.R_below (kr_ HO632) hb); have n1_ := Aside0.mk (Kd.R_elder' (kr_ HO635) (Kd.R_base ho0) hb); have n2_ := Aside0.mk (Kd.R_below (kr_ HO640) hb); have n3_ := Aside0.mk (Kd.R_lower (Kd.R_new' ho0 (Kd.R_lt (kr_ HO635))) (below_size hb_)); have n4_ := Aside0.mk (below_step hb_ hb); clear HO632; clear HO635; clear HO640; clear HB; have HO632 := n0_; have HO635 := n1_; have HO640 := n2_; have HO643 := n3_; have HB := n4_; clear n0_ n1_ n2_ n3_ n4_; (try clear hb); (try clear hb2); (try clear hk); (try clear hi); (try clear ho0); obtain ⟨Ao26, co26, eo26⟩ := Kd.R_slice HO640.out; subst eo26; obtain ⟨Ao27, co27, eo27⟩ := Kd.R_slice HO643.out; subst eo27) | ((with_reducible refine gate_callee (f := 47) rfl ?_); refine goesL_ (some 37) rfl rfl Try.func47 (by kernel_rfl) rfl #[.slice Ao26 t638.length co26, .slice Ao27 t641.length co27] rfl ln_ ?_; (with_reducible refine (impl_CanCutAll.calls k _ _ t638 _ _ t641 t644 t645 _ ?side1 ?side2 ?side3 ?side4 A15.out).mono ?_); (case side1 => repeat (first | exact (Kd.R_reads' HO640.out).2.2 | (with_reducible refine Kd.C_alloc ?_ _) | (with_reducible refine Kd.C_drewN ?_ _) | (with_reducible refine Kd.C_drew ?_))); (case side2 => exact (Kd.R_reads' HO640.out).2.1); (case side3 => repeat (first | exact (Kd.R_reads' HO643.out).2.2 | (with_reducible refine Kd.C_alloc ?_ _) | (with_reducible refine Kd.C_drewN ?_ _) | (with_reducible refine Kd.C_drew ?_))); (case side4 => exact (Kd.R_reads' HO643.out).2.1); rintro e w28 ⟨rfl, hb⟩; refine ⟨_, rfl, ?_⟩; have n0_ := Aside0.mk (Kd.R_below (kr_ HO632) hb); have n1_ := Aside0.mk (Kd.R_below (kr_ HO635) hb); have n2_ := Aside0.mk (Kd.R_below (kr_ HO640) hb); have n3_ := Aside0.mk (Kd.R_below (kr_ HO643) hb); have n4_ := Aside0.mk (below_step hb_ hb); clear HO632; clear HO635; clear HO640; clear HO643; clear HB; have HO632 := n0_; have HO635 := n1_; have HO640 := n2_; have HO643 := n3_; have HB := n4_; clear n0_ n1_ n2_ n3_ n4_; (try clear hb); (try clear hb2); (try clear hk); (try clear hi)))
   (try simp only [Act.put, List.setIfInBounds_toArray, List.set_cons_zero, List.set_cons_succ])
   go_cut [47] (fun v47 wc => ∃ (kq : Nat) (x47_15 : Bool), v47 = .bool x47_15 ∧ Aside0 (laws_FnExactCanCutAll.j0 kq l0 l1 t638 t641 x47_15 = some r) ∧ Aside0 (kq ≤ k) ∧ Aside0 (Kd.R k45 45 wc w.heap.size (fun _ => True) (.slice Ao26 t638.length co26) t638) ∧ Aside0 (Kd.R k55 55 wc w.heap.size (fun _ => True) (.slice Ao27 t641.length co27) t641) ∧ Aside0 (Below w.heap.size w wc))
   case first =>
    have H := HC16.out
    clear HC16
    by_cases c29 : (t644 != t636) = true
    ·rw [if_pos c29] at H
     have c29b0 : (t644 != t636) = true := c29
     (try (have c29b1 : decide (t644 = t636) = false := by simpa using c29))
     (try (have c29b2 : (t644 == t636) = false := by simpa using c29))
     (try (have c29b3 : ¬ (t644 = t636) := by simpa using c29))
     clear c29
     (first | rw [c29b0] | (simp only [i64_w, i32_w]; rw [c29b0]) | skip)
     have H' := Aside0.mk H
     clear H
     go_wp2
     go_meet
     case rel => exact ⟨_, (true), (by first | rfl | (simp; done) | (simp [*]; done)), H', ⟨by first | omega | exact Nat.le_refl _⟩, ⟨by (with_reducible repeat (first | apply Kd.R_alloc | apply Kd.R_drewN | apply Kd.R_drew)); exact Kd.R_mono HO640.out (fun _ hk => trivial)⟩, ⟨by (with_reducible repeat (first | apply Kd.R_alloc | apply Kd.R_drewN | apply Kd.R_drew)); exact Kd.R_mono HO643.out (fun _ hk => trivial)⟩, ⟨hb_⟩⟩
    ·rw [if_neg c29] at H
     have c29b0 : (t644 != t636) = false := by simpa using c29
     (try (have c29b1 : decide (t644 = t636) = true := by simpa using c29))
     (try (have c29b2 : (t644 == t636) = true := by simpa using c29))
     clear c29
     (first | rw [c29b0] | (simp only [i64_w, i32_w]; rw [c29b0]) | skip)
     have H' := Aside0.mk H
     clear H
     go_wp2
     go_meet
     case rel => exact ⟨_, ((t645 != t637)), (by first | rfl | (simp; done) | (simp [*]; done)), H', ⟨by first | omega | exact Nat.le_refl _⟩, ⟨by (with_reducible repeat (first | apply Kd.R_alloc | apply Kd.R_drewN | apply Kd.R_drew)); exact Kd.R_mono HO640.out (fun _ hk => trivial)⟩, ⟨by (with_reducible repeat (first | apply Kd.R_alloc | apply Kd.R_drewN | apply Kd.R_drew)); exact Kd.R_mono HO643.out (fun _ hk => trivial)⟩, ⟨hb_⟩⟩
   case rest =>
    clear HC16
    try clear c1
    try clear c2
    try clear p2
    try clear c4
    try clear c4b0
    try clear c7
    try clear c7b0
    try clear c12
    try clear c14
    try clear c16
    try clear c21
    try clear c23
    try clear c29
    try clear c29b0
    try clear c29b1
    try clear c29b2
    obtain ⟨kq, x47_15, rfl, HA, HJ15, HO_8, HO_9, HB⟩ := hcut
    cases kq with
    | zero => exact absurd HA.out (by simp [laws_FnExactCanCutAll.j0])
    | succ kj15 =>
     have H := HA.out
     clear HA
     simp only [laws_FnExactCanCutAll.j0] at H
     by_cases c30 : x47_15 = true
     ·subst c30
      have H1 : (some false) = some r := by rw [if_pos rfl] at H; exact H
      clear H
      have H := H1
      clear H1
      obtain rfl := Option.some.inj H
      go_wp2
      go_ret
      exact ⟨ew_, hb_⟩
     ·replace c30 := Bool.eq_false_iff.mpr c30
      subst c30
      have H1 : ((laws_toCoilS.f kj15 l0).bind fun t646 => ((laws_eqCoilS.f kj15 t638 t646).bind fun t649 => (if t649 = true then ((laws_toWantS.f kj15 l1).bind fun t650 => ((laws_eqWantS.f kj15 t641 t650).bind fun t653 => (if t653 = true then (some true) else (some false)))) else (some false)))) = some r := by rw [if_neg (show ¬ (false = true) by decide)] at H; exact H
      clear H
      have H := H1
      clear H1
      replace H := Option.bind_eq_some_iff.mp H
      obtain ⟨t646, A310, H⟩ := H
      replace H : ((laws_eqCoilS.f kj15 t638 t646).bind fun t649 => (if t649 = true then ((laws_toWantS.f kj15 l1).bind fun t650 => ((laws_eqWantS.f kj15 t641 t650).bind fun t653 => (if t653 = true then (some true) else (some false)))) else (some false))) = some r := H
      have A31 := Aside0.mk A310
      clear A310
      replace H := Option.bind_eq_some_iff.mp H
      obtain ⟨t649, A320, H⟩ := H
      replace H : (if t649 = true then ((laws_toWantS.f kj15 l1).bind fun t650 => ((laws_eqWantS.f kj15 t641 t650).bind fun t653 => (if t653 = true then (some true) else (some false)))) else (some false)) = some r := H
      have A32 := Aside0.mk A320
      clear A320
      by_cases c33 : t649 = true
      ·subst c33
       have H1 : ((laws_toWantS.f kj15 l1).bind fun t650 => ((laws_eqWantS.f kj15 t641 t650).bind fun t653 => (if t653 = true then (some true) else (some false)))) = some r := by rw [if_pos rfl] at H; exact H
       clear H
       have H := H1
       clear H1
       replace H := Option.bind_eq_some_iff.mp H
       obtain ⟨t650, A340, H⟩ := H
       replace H : ((laws_eqWantS.f kj15 t641 t650).bind fun t653 => (if t653 = true then (some true) else (some false))) = some r := H
       have A34 := Aside0.mk A340
       clear A340
       replace H := Option.bind_eq_some_iff.mp H
       obtain ⟨t653, A350, H⟩ := H
       replace H : (if t653 = true then (some true) else (some false)) = some r := H
       have A35 := Aside0.mk A350
       clear A350
       by_cases c36 : t653 = true
       ·subst c36
        have H1 : (some true) = some r := by rw [if_pos rfl] at H; exact H
        clear H
        have H := H1
        clear H1
        obtain rfl := Option.some.inj H
        go_wp2_with (first | ((with_reducible refine gate_callee (f := 16) rfl ?_); refine goesL_ (some 50) rfl rfl Try.func16 (by kernel_rfl) rfl #[.slice A0 l0.length c0] rfl ln_ ?_; (with_reducible refine (laws_toCoilS.calls kj15 _ _ l0 t646 _ ?side1 ?side2 A31.out).mono ?_); (case side1 => exact kc_ (Kd.C_below HR0.out HB.out)); (case side2 => exact HC0.out); rintro e w37 ⟨v647, rfl, ho0, hb⟩; refine ⟨_, rfl, ?_⟩; have n0_ := Aside0.mk (Kd.R_elder' (kr_ HO_8) (Kd.R_base ho0) hb); have n1_ := Aside0.mk (Kd.R_below (kr_ HO_9) hb); have n2_ := Aside0.mk (Kd.R_lower (Kd.R_new' ho0 (Kd.R_lt (kr_ HO_8))) (below_size hb_)); have n3_ := Aside0.mk (below_step hb_ hb); clear HO_8; clear HO_9; clear HB; have HO_8 := n0_; have HO_9 := n1_; have HO648 := n2_; have HB := n3_; clear n0_ n1_ n2_ n3_; (try clear hb); (try clear hb2); (try clear hk); (try clear hi); (try clear ho0); obtain ⟨Ao38, co38, eo38⟩ := Kd.R_slice HO648.out; subst eo38) | ((with_reducible refine gate_callee (f := 18) rfl ?_); refine goesL_ (some 51) rfl rfl Try.func18 (by kernel_rfl) rfl #[.slice Ao26 t638.length co26, .slice Ao38 t646.length co38] rfl ln_ ?_; (with_reducible refine (laws_eqCoilS.calls kj15 _ _ t638 _ _ t646 true _ ?side1 ?side2 ?side3 ?side4 A32.out).mono ?_); (case side1 => repeat (first | exact (Kd.R_reads' HO_8.out).2.2 | (with_reducible refine Kd.C_alloc ?_ _) | (with_reducible refine Kd.C_drewN ?_ _) | (with_reducible refine Kd.C_drew ?_))); (case side2 => exact (Kd.R_reads' HO_8.out).2.1); (case side3 => repeat (first | exact (Kd.R_reads' HO648.out).2.2 | (with_reducible refine Kd.C_alloc ?_ _) | (with_reducible refine Kd.C_drewN ?_ _) | (with_reducible refine Kd.C_drew ?_))); (case side4 => exact (Kd.R_reads' HO648.out).2.1); rintro e w39 ⟨rfl, hb⟩; refine ⟨_, rfl, ?_⟩; have n0_ := Aside0.mk (Kd.R_below (kr_ HO_8) hb); have n1_ := Aside0.mk (Kd.R_below (kr_ HO_9) hb); have n2_ := Aside0.mk (Kd.R_below (kr_ HO648) hb); have n3_ := Aside0.mk (below_step hb_ hb); clear HO_8; clear HO_9; clear HO648; clear HB; have HO_8 := n0_; have HO_9 := n1_; have HO648 := n2_; have HB := n3_; clear n0_ n1_ n2_ n3_; (try clear hb); (try clear hb2); (try clear hk); (try clear hi)) | ((with_reducible refine gate_callee (f := 23) rfl ?_); refine goesL_ (some 55) rfl rfl Try.func23 (by kernel_rfl) rfl #[.slice A1 l1.length c1] rfl ln_ ?_; (with_reducible refine (laws_toWantS.calls kj15 _ _ l1 t650 _ ?side1 ?side2 A34.out).mono ?_); (case side1 => exact kc_ (Kd.C_below HR1.out HB.out)); (case side2 => exact HC1.out); rintro e w40 ⟨v651, rfl, ho0, hb⟩; refine ⟨_, rfl, ?_⟩; have n0_ := Aside0.mk (Kd.R_below (kr_ HO_8) hb); have n1_ := Aside0.mk (Kd.R_elder' (kr_ HO_9) (Kd.R_base ho0) hb); have n2_ := Aside0.mk (Kd.R_below (kr_ HO648) hb); have n3_ := Aside0.mk (Kd.R_lower (Kd.R_new' ho0 (Kd.R_lt (kr_ HO_9))) (below_size hb_)); have n4_ := Aside0.mk (below_step hb_ hb); clear HO_8; clear HO_9; clear HO648; clear HB; have HO_8 := n0_; have HO_9 := n1_; have HO648 := n2_; have HO652 := n3_; have HB := n4_; clear n0_ n1_ n2_ n3_ n4_; (try clear hb); (try clear hb2); (try clear hk); (try clear hi); (try clear ho0); obtain ⟨Ao41, co41, eo41⟩ := Kd.R_slice HO652.out; subst eo41) | ((with_reducible refine gate_callee (f := 25) rfl ?_); refine goesL_ (some 56) rfl rfl Try.func25 (by kernel_rfl) rfl #[.slice Ao27 t641.length co27, .slice Ao41 t650.length co41] rfl ln_ ?_; (with_reducible refine (laws_eqWantS.calls kj15 _ _ t641 _ _ t650 true _ ?side1 ?side2 ?side3 ?side4 A35.out).mono ?_); (case side1 => repeat (first | exact (Kd.R_reads' HO_9.out).2.2 | (with_reducible refine Kd.C_alloc ?_ _) | (with_reducible refine Kd.C_drewN ?_ _) | (with_reducible refine Kd.C_drew ?_))); (case side2 => exact (Kd.R_reads' HO_9.out).2.1); (case side3 => repeat (first | exact (Kd.R_reads' HO652.out).2.2 | (with_reducible refine Kd.C_alloc ?_ _) | (with_reducible refine Kd.C_drewN ?_ _) | (with_reducible refine Kd.C_drew ?_))); (case side4 => exact (Kd.R_reads' HO652.out).2.1); rintro e w42 ⟨rfl, hb⟩; refine ⟨_, rfl, ?_⟩; have n0_ := Aside0.mk (Kd.R_below (kr_ HO_8) hb); have n1_ := Aside0.mk (Kd.R_below (kr_ HO_9) hb); have n2_ := Aside0.mk (Kd.R_below (kr_ HO648) hb); have n3_ := Aside0.mk (Kd.R_below (kr_ HO652) hb); have n4_ := Aside0.mk (below_step hb_ hb); clear HO_8; clear HO_9; clear HO648; clear HO652; clear HB; have HO_8 := n0_; have HO_9 := n1_; have HO648 := n2_; have HO652 := n3_; have HB := n4_; clear n0_ n1_ n2_ n3_ n4_; (try clear hb); (try clear hb2); (try clear hk); (try clear hi)))
        go_ret
        exact ⟨ew_, hb_⟩
       ·replace c36 := Bool.eq_false_iff.mpr c36
        subst c36
        have H1 : (some false) = some r := by rw [if_neg (show ¬ (false = true) by decide)] at H; exact H
        clear H
        have H := H1
        clear H1
        obtain rfl := Option.some.inj H
        go_wp2_with (first | ((with_reducible refine gate_callee (f := 16) rfl ?_); refine goesL_ (some 50) rfl rfl Try.func16 (by kernel_rfl) rfl #[.slice A0 l0.length c0] rfl ln_ ?_; (with_reducible refine (laws_toCoilS.calls kj15 _ _ l0 t646 _ ?side1 ?side2 A31.out).mono ?_); (case side1 => exact kc_ (Kd.C_below HR0.out HB.out)); (case side2 => exact HC0.out); rintro e w43 ⟨v647, rfl, ho0, hb⟩; refine ⟨_, rfl, ?_⟩; have n0_ := Aside0.mk (Kd.R_elder' (kr_ HO_8) (Kd.R_base ho0) hb); have n1_ := Aside0.mk (Kd.R_below (kr_ HO_9) hb); have n2_ := Aside0.mk (Kd.R_lower (Kd.R_new' ho0 (Kd.R_lt (kr_ HO_8))) (below_size hb_)); have n3_ := Aside0.mk (below_step hb_ hb); clear HO_8; clear HO_9; clear HB; have HO_8 := n0_; have HO_9 := n1_; have HO648 := n2_; have HB := n3_; clear n0_ n1_ n2_ n3_; (try clear hb); (try clear hb2); (try clear hk); (try clear hi); (try clear ho0); obtain ⟨Ao44, co44, eo44⟩ := Kd.R_slice HO648.out; subst eo44) | ((with_reducible refine gate_callee (f := 18) rfl ?_); refine goesL_ (some 51) rfl rfl Try.func18 (by kernel_rfl) rfl #[.slice Ao26 t638.length co26, .slice Ao44 t646.length co44] rfl ln_ ?_; (with_reducible refine (laws_eqCoilS.calls kj15 _ _ t638 _ _ t646 true _ ?side1 ?side2 ?side3 ?side4 A32.out).mono ?_); (case side1 => repeat (first | exact (Kd.R_reads' HO_8.out).2.2 | (with_reducible refine Kd.C_alloc ?_ _) | (with_reducible refine Kd.C_drewN ?_ _) | (with_reducible refine Kd.C_drew ?_))); (case side2 => exact (Kd.R_reads' HO_8.out).2.1); (case side3 => repeat (first | exact (Kd.R_reads' HO648.out).2.2 | (with_reducible refine Kd.C_alloc ?_ _) | (with_reducible refine Kd.C_drewN ?_ _) | (with_reducible refine Kd.C_drew ?_))); (case side4 => exact (Kd.R_reads' HO648.out).2.1); rintro e w45 ⟨rfl, hb⟩; refine ⟨_, rfl, ?_⟩; have n0_ := Aside0.mk (Kd.R_below (kr_ HO_8) hb); have n1_ := Aside0.mk (Kd.R_below (kr_ HO_9) hb); have n2_ := Aside0.mk (Kd.R_below (kr_ HO648) hb); have n3_ := Aside0.mk (below_step hb_ hb); clear HO_8; clear HO_9; clear HO648; clear HB; have HO_8 := n0_; have HO_9 := n1_; have HO648 := n2_; have HB := n3_; clear n0_ n1_ n2_ n3_; (try clear hb); (try clear hb2); (try clear hk); (try clear hi)) | ((with_reducible refine gate_callee (f := 23) rfl ?_); refine goesL_ (some 55) rfl rfl Try.func23 (by kernel_rfl) rfl #[.slice A1 l1.length c1] rfl ln_ ?_; (with_reducible refine (laws_toWantS.calls kj15 _ _ l1 t650 _ ?side1 ?side2 A34.out).mono ?_); (case side1 => exact kc_ (Kd.C_below HR1.out HB.out)); (case side2 => exact HC1.out); rintro e w46 ⟨v651, rfl, ho0, hb⟩; refine ⟨_, rfl, ?_⟩; have n0_ := Aside0.mk (Kd.R_below (kr_ HO_8) hb); have n1_ := Aside0.mk (Kd.R_elder' (kr_ HO_9) (Kd.R_base ho0) hb); have n2_ := Aside0.mk (Kd.R_below (kr_ HO648) hb); have n3_ := Aside0.mk (Kd.R_lower (Kd.R_new' ho0 (Kd.R_lt (kr_ HO_9))) (below_size hb_)); have n4_ := Aside0.mk (below_step hb_ hb); clear HO_8; clear HO_9; clear HO648; clear HB; have HO_8 := n0_; have HO_9 := n1_; have HO648 := n2_; have HO652 := n3_; have HB := n4_; clear n0_ n1_ n2_ n3_ n4_; (try clear hb); (try clear hb2); (try clear hk); (try clear hi); (try clear ho0); obtain ⟨Ao47, co47, eo47⟩ := Kd.R_slice HO652.out; subst eo47) | ((with_reducible refine gate_callee (f := 25) rfl ?_); refine goesL_ (some 56) rfl rfl Try.func25 (by kernel_rfl) rfl #[.slice Ao27 t641.length co27, .slice Ao47 t650.length co47] rfl ln_ ?_; (with_reducible refine (laws_eqWantS.calls kj15 _ _ t641 _ _ t650 false _ ?side1 ?side2 ?side3 ?side4 A35.out).mono ?_); (case side1 => repeat (first | exact (Kd.R_reads' HO_9.out).2.2 | (with_reducible refine Kd.C_alloc ?_ _) | (with_reducible refine Kd.C_drewN ?_ _) | (with_reducible refine Kd.C_drew ?_))); (case side2 => exact (Kd.R_reads' HO_9.out).2.1); (case side3 => repeat (first | exact (Kd.R_reads' HO652.out).2.2 | (with_reducible refine Kd.C_alloc ?_ _) | (with_reducible refine Kd.C_drewN ?_ _) | (with_reducible refine Kd.C_drew ?_))); (case side4 => exact (Kd.R_reads' HO652.out).2.1); rintro e w48 ⟨rfl, hb⟩; refine ⟨_, rfl, ?_⟩; have n0_ := Aside0.mk (Kd.R_below (kr_ HO_8) hb); have n1_ := Aside0.mk (Kd.R_below (kr_ HO_9) hb); have n2_ := Aside0.mk (Kd.R_below (kr_ HO648) hb); have n3_ := Aside0.mk (Kd.R_below (kr_ HO652) hb); have n4_ := Aside0.mk (below_step hb_ hb); clear HO_8; clear HO_9; clear HO648; clear HO652; clear HB; have HO_8 := n0_; have HO_9 := n1_; have HO648 := n2_; have HO652 := n3_; have HB := n4_; clear n0_ n1_ n2_ n3_ n4_; (try clear hb); (try clear hb2); (try clear hk); (try clear hi)))
        go_ret
        exact ⟨ew_, hb_⟩
      ·replace c33 := Bool.eq_false_iff.mpr c33
       subst c33
       have H1 : (some false) = some r := by rw [if_neg (show ¬ (false = true) by decide)] at H; exact H
       clear H
       have H := H1
       clear H1
       obtain rfl := Option.some.inj H
       go_wp2_with (first | ((with_reducible refine gate_callee (f := 16) rfl ?_); refine goesL_ (some 50) rfl rfl Try.func16 (by kernel_rfl) rfl #[.slice A0 l0.length c0] rfl ln_ ?_; (with_reducible refine (laws_toCoilS.calls kj15 _ _ l0 t646 _ ?side1 ?side2 A31.out).mono ?_); (case side1 => exact kc_ (Kd.C_below HR0.out HB.out)); (case side2 => exact HC0.out); rintro e w49 ⟨v647, rfl, ho0, hb⟩; refine ⟨_, rfl, ?_⟩; have n0_ := Aside0.mk (Kd.R_elder' (kr_ HO_8) (Kd.R_base ho0) hb); have n1_ := Aside0.mk (Kd.R_below (kr_ HO_9) hb); have n2_ := Aside0.mk (Kd.R_lower (Kd.R_new' ho0 (Kd.R_lt (kr_ HO_8))) (below_size hb_)); have n3_ := Aside0.mk (below_step hb_ hb); clear HO_8; clear HO_9; clear HB; have HO_8 := n0_; have HO_9 := n1_; have HO648 := n2_; have HB := n3_; clear n0_ n1_ n2_ n3_; (try clear hb); (try clear hb2); (try clear hk); (try clear hi); (try clear ho0); obtain ⟨Ao50, co50, eo50⟩ := Kd.R_slice HO648.out; subst eo50) | ((with_reducible refine gate_callee (f := 18) rfl ?_); refine goesL_ (some 51) rfl rfl Try.func18 (by kernel_rfl) rfl #[.slice Ao26 t638.length co26, .slice Ao50 t646.length co50] rfl ln_ ?_; (with_reducible refine (laws_eqCoilS.calls kj15 _ _ t638 _ _ t646 false _ ?side1 ?side2 ?side3 ?side4 A32.out).mono ?_); (case side1 => repeat (first | exact (Kd.R_reads' HO_8.out).2.2 | (with_reducible refine Kd.C_alloc ?_ _) | (with_reducible refine Kd.C_drewN ?_ _) | (with_reducible refine Kd.C_drew ?_))); (case side2 => exact (Kd.R_reads' HO_8.out).2.1); (case side3 => repeat (first | exact (Kd.R_reads' HO648.out).2.2 | (with_reducible refine Kd.C_alloc ?_ _) | (with_reducible refine Kd.C_drewN ?_ _) | (with_reducible refine Kd.C_drew ?_))); (case side4 => exact (Kd.R_reads' HO648.out).2.1); rintro e w51 ⟨rfl, hb⟩; refine ⟨_, rfl, ?_⟩; have n0_ := Aside0.mk (Kd.R_below (kr_ HO_8) hb); have n1_ := Aside0.mk (Kd.R_below (kr_ HO_9) hb); have n2_ := Aside0.mk (Kd.R_below (kr_ HO648) hb); have n3_ := Aside0.mk (below_step hb_ hb); clear HO_8; clear HO_9; clear HO648; clear HB; have HO_8 := n0_; have HO_9 := n1_; have HO648 := n2_; have HB := n3_; clear n0_ n1_ n2_ n3_; (try clear hb); (try clear hb2); (try clear hk); (try clear hi)))
       go_ret
       exact ⟨ew_, hb_⟩

end Go.Proofs.Ytbglfbmnibhgeaa.P
