-- Written by gprint.py (own program, over the printer of the kit) out of the translation. Lean checks it.
import Derived.Test.YtkegmjebkikniaaPx0
import Derived.Test.YtkegmjebkikniaaPx3
import Derived.Test.YtkegmjebkikniaaPx9
import Derived.Test.YtkegmjebkikniaaPx11
import Derived.Test.YtkegmjebkikniaaPx15
import Derived.Test.YtkegmjebkikniaaPx16
import Derived.Test.YtkegmjebkikniaaPx22
import Derived.Test.YtkegmjebkikniaaWPk
namespace Go.Proofs.Ytkegmjebkikniaa.P
open Go.RowKit Go.Proofs.YtkegmjebkikniaaW.PrintWords Go.Proofs.YtkegmjebkikniaaW.PrintLast Go.Proofs.YtkegmjebkikniaaW.PrintMore Go.Proofs.YtkegmjebkikniaaW.Pk
open Bool renaming true → T_, false → F_
open List renaming setIfInBounds_toArray → sT_, set_cons_zero → s0_, set_cons_succ → sS_
attribute [local go_sem] max2_int min2_int max_two min_two max_three min_three max_four min_four   -- for this text's walks alone
set_option linter.unusedVariables false
set_option linter.unusedSimpArgs false

/-! ### spec_LateRenewals: function 40 -/
def spec_LateRenewals.f (k : Nat) (l0 : List (S55)) (l1 : List Int) : Option (List Int × Int) := (spec_l22Code.f k l0 l1).bind fun t435 => (if t435 = 0 then ((spec_l22Late.f k l0 l1).bind fun t436 => (some (t436, 0))) else (some (([] : List Int), t435)))
theorem spec_LateRenewals.mono : ∀ a0 a1 k, LeO (spec_LateRenewals.f k a0 a1) (spec_LateRenewals.f (k + 1) a0 a1) := by
 intro a0 a1 k
 unfold spec_LateRenewals.f
 repeat' first
   | (with_reducible exact spec_l22Code.mono _ _ _)
   | (with_reducible exact spec_l22Late.mono _ _ _)
   | (with_reducible exact LeO.refl _)
   | (with_reducible exact LeO.none _)
   | (with_reducible refine LeO.ite ?_ ?_)
   | (with_reducible refine LeO.bind ?_ (fun _ => ?_))
   | exact spec_l22Code.mono _ _ _
   | exact spec_l22Late.mono _ _ _
   | exact LeO.none _
   | refine LeO.ite ?_ ?_
   | refine LeO.bind ?_ (fun _ => ?_)
set_option maxHeartbeats 8000000 in
set_option maxRecDepth 100000 in
theorem spec_LateRenewals.calls (k : Nat) (A0 : Option Addr) (c0 : Nat) (l0 : List (S55)) (A1 : Option Addr) (c1 : Nat) (l1 : List Int) (r1 : List Int) (r2 : Int) (w : World) (hr0 : Kd.C k55 w A0 l0.length l0) (hc0 : l0.length ≤ c0) (hr1 : Kd.C (Kd.int .i64) w A1 l1.length l1) (hc1 : l1.length ≤ c1) (h : spec_LateRenewals.f k l0 l1 = some (r1, r2)) :
  Calls Try.prog 40 #[.slice A0 l0.length c0, .slice A1 l1.length c1] w fun e w' => ∃ v0_ : Value, e = .returned (.tuple #[v0_, .int .i64 r2]) ∧ Kd.R (Kd.int .i64) 2 w' w.heap.size (fun _ => True) v0_ r1 ∧ Below w.heap.size w w' := by
 have HR0 := Aside0.mk hr0
 have HC0 := Aside0.mk hc0
 clear hr0 hc0
 have HR1 := Aside0.mk hr1
 have HC1 := Aside0.mk hc1
 clear hr1 hc1
 have HB := Aside0.mk (Below.refl w.heap.size w)
 have H : ((spec_l22Code.f k l0 l1).bind fun t435 => (if t435 = 0 then ((spec_l22Late.f k l0 l1).bind fun t436 => (some (t436, 0))) else (some (([] : List Int), t435)))) = some (r1, r2) := h
 clear h
 replace H := Option.bind_eq_some_iff.mp H
 obtain ⟨t435, A30, H⟩ := H
 replace H : (if t435 = 0 then ((spec_l22Late.f k l0 l1).bind fun t436 => (some (t436, 0))) else (some (([] : List Int), t435))) = some (r1, r2) := H
 have A3 := Aside0.mk A30
 clear A30
 by_cases c4 : t435 = 0
 ·rw [if_pos c4] at H
  have c4b0 : (t435 == 0) = true := beq_iff_eq.mpr c4
  have c4b1 : (t435 != 0) = false := bne_eq_false_iff_eq.mpr c4
  clear c4
  replace H := Option.bind_eq_some_iff.mp H
  obtain ⟨t436, A50, H⟩ := H
  replace H : (some (t436, 0)) = some (r1, r2) := H
  have A5 := Aside0.mk A50
  clear A50
  simp only [Option.some.injEq, Prod.mk.injEq] at H
  obtain ⟨rfl, rfl⟩ := H
  go_enter Try.func40, Try.ntmps40
  go_wp2_with (first | ((with_reducible refine gate_callee (f := 67) rfl ?_); refine goesL_ (some 9) rfl rfl Try.func67 (by kernel_rfl) rfl #[.slice A0 l0.length c0, .slice A1 l1.length c1] rfl ln_ ?_; (with_reducible refine (spec_l22Code.calls k _ _ l0 _ _ l1 t435 _ ?side1 ?side2 ?side3 ?side4 A3.out).mono ?_); (case side1 => exact kc_ HR0.out); (case side2 => exact HC0.out); (case side3 => exact kc_ HR1.out); (case side4 => exact HC1.out); rintro e w6 ⟨rfl, hb⟩; refine ⟨_, rfl, ?_⟩; have n0_ := Aside0.mk (below_step hb_ hb); clear HB; have HB := n0_; clear n0_; (try clear hb); (try clear hb2); (try clear hk); (try clear hi)) | ((with_reducible refine gate_callee (f := 78) rfl ?_); refine goesL_ (some 15) rfl rfl Try.func78 (by kernel_rfl) rfl #[.slice A0 l0.length c0, .slice A1 l1.length c1] rfl ln_ ?_; (with_reducible refine (spec_l22Late.calls k _ _ l0 _ _ l1 t436 _ ?side1 ?side2 ?side3 ?side4 A5.out).mono ?_); (case side1 => exact kc_ (Kd.C_below HR0.out HB.out)); (case side2 => exact HC0.out); (case side3 => exact kc_ (Kd.C_below HR1.out HB.out)); (case side4 => exact HC1.out); rintro e w7 ⟨v437, rfl, ho0, hb⟩; refine ⟨_, rfl, ?_⟩; have n0_ := Aside0.mk (Kd.R_lower ho0 (below_size hb_)); have n1_ := Aside0.mk (below_step hb_ hb); clear HB; have HO438 := n0_; have HB := n1_; clear n0_ n1_; (try clear hb); (try clear hb2); (try clear hk); (try clear hi); (try clear ho0)))
  go_ret2
  exact ⟨_, ew_, by (with_reducible repeat (first | apply Kd.R_alloc | apply Kd.R_drewN | apply Kd.R_drew)); exact HO438.out, hb_⟩
 ·rw [if_neg c4] at H
  have c4b0 : (t435 == 0) = false := beq_eq_false_iff_ne.mpr c4
  have c4b1 : (t435 != 0) = true := bne_iff_ne.mpr c4
  simp only [Option.some.injEq, Prod.mk.injEq] at H
  obtain ⟨rfl, rfl⟩ := H
  go_enter Try.func40, Try.ntmps40
  go_wp2_with (first | ((with_reducible refine gate_callee (f := 67) rfl ?_); refine goesL_ (some 9) rfl rfl Try.func67 (by kernel_rfl) rfl #[.slice A0 l0.length c0, .slice A1 l1.length c1] rfl ln_ ?_; (with_reducible refine (spec_l22Code.calls k _ _ l0 _ _ l1 t435 _ ?side1 ?side2 ?side3 ?side4 A3.out).mono ?_); (case side1 => exact kc_ HR0.out); (case side2 => exact HC0.out); (case side3 => exact kc_ HR1.out); (case side4 => exact HC1.out); rintro e w8 ⟨rfl, hb⟩; refine ⟨_, rfl, ?_⟩; have n0_ := Aside0.mk (below_step hb_ hb); clear HB; have HB := n0_; clear n0_; (try clear hb); (try clear hb2); (try clear hk); (try clear hi)))
  go_ret2
  exact ⟨_, ew_, by first | exact Kd.R_nil _ _ _ _ _ | exact Kd.N_nil _ _ _ _ _ | exact Kd.V_nil _ _ _ _ _ | exact Kd.Q_nil _ _ _ _ _ | exact Kd.S_nil _ _ _ _ _, hb_⟩

/-! ### laws_FnExactLateRenewals: function 10 -/
mutual
def laws_FnExactLateRenewals.j0 : Nat → List (S66) → List Int → List Int → Int → List (S55) → List Int → List Int → Int → Bool → Option (Bool)
 | 0, _, _, _, _, _, _, _, _, _ => none
 | k + 1, x0, x1, x6, x7, x8, x9, x10, x11, x51 => if x51 = true then (some false) else ((laws_toRenewalS.f k x0).bind fun t473 => ((laws_eqRenewalS.f k x8 t473).bind fun t476 => (if t476 = true then ((laws_toInt64S.f k x1).bind fun t477 => ((laws_eqInt64S.f k x9 t477).bind fun t480 => (if t480 = true then ((laws_markRenewalS.f k x8 1).bind fun bt481 => ((laws_markInt64S.f k x9 bt481.1).bind fun bt483 => (if bt483.1 < 0 then (laws_FnExactLateRenewals.j1 k x0 x1 x6 x7 x10 true) else ((laws_eqInt64S.f k x10 x6).bind fun t485 => (if t485 = true then (laws_FnExactLateRenewals.j1 k x0 x1 x6 x7 x10 (x11 != x7)) else (laws_FnExactLateRenewals.j1 k x0 x1 x6 x7 x10 true)))))) else (some false)))) else (some false))))
def laws_FnExactLateRenewals.j1 : Nat → List (S66) → List Int → List Int → Int → List Int → Bool → Option (Bool)
 | 0, _, _, _, _, _, _ => none
 | k + 1, x0, x1, x6, x7, x10, x80 => if x80 = true then (some false) else ((laws_markInt64S.f k x10 1).bind fun bt486 => ((laws_heldInt64S.f k bt486.2 1).bind fun t488 => (if t488 < 0 then (some false) else (if t488 = bt486.1 then ((laws_toRenewalS.f k x0).bind fun t489 => ((laws_toInt64S.f k x1).bind fun t492 => ((impl_LateRenewals.f k t489 t492).bind fun bt495 => ((laws_eqInt64S.f k bt495.1 x6).bind fun t499 => (if t499 = true then (laws_FnExactLateRenewals.j2 k bt486.2 bt486.1 (bt495.2 != x7)) else (laws_FnExactLateRenewals.j2 k bt486.2 bt486.1 true)))))) else (some false)))))
def laws_FnExactLateRenewals.j2 : Nat → List Int → Int → Bool → Option (Bool)
 | 0, _, _, _ => none
 | k + 1, x10, x13, x108 => if x108 = true then (some false) else ((laws_heldInt64S.f k x10 1).bind fun t500 => (if t500 < 0 then (some false) else (if t500 = x13 then (some true) else (some false))))
end
def laws_FnExactLateRenewals.f (k : Nat) (l0 : List (S66)) (l1 : List Int) : Option (Bool) := if (l1.length : Int) > 1048576 then (some true) else ((laws_szRenewalS.f k l0 1048576).bind fun t451 => (if t451 < 0 then (some true) else ((laws_toRenewalS.f k l0).bind fun t452 => ((laws_toInt64S.f k l1).bind fun t455 => ((spec_LateRenewals.f k t452 t455).bind fun bt458 => ((laws_toRenewalS.f k l0).bind fun t462 => ((laws_toInt64S.f k l1).bind fun t465 => ((impl_LateRenewals.f k t462 t465).bind fun bt468 => ((laws_eqInt64S.f k bt468.1 bt458.1).bind fun t472 => (if t472 = true then (laws_FnExactLateRenewals.j0 k l0 l1 bt458.1 bt458.2 t462 t465 bt468.1 bt468.2 (bt468.2 != bt458.2)) else (laws_FnExactLateRenewals.j0 k l0 l1 bt458.1 bt458.2 t462 t465 bt468.1 bt468.2 true)))))))))))
theorem laws_FnExactLateRenewals.mono_l : ∀ k, (∀ y0 y1 y2 y3 y4 y5 y6 y7 y8, LeO (laws_FnExactLateRenewals.j0 k y0 y1 y2 y3 y4 y5 y6 y7 y8) (laws_FnExactLateRenewals.j0 (k + 1) y0 y1 y2 y3 y4 y5 y6 y7 y8)) ∧ (∀ y0 y1 y2 y3 y4 y5, LeO (laws_FnExactLateRenewals.j1 k y0 y1 y2 y3 y4 y5) (laws_FnExactLateRenewals.j1 (k + 1) y0 y1 y2 y3 y4 y5)) ∧ (∀ y0 y1 y2, LeO (laws_FnExactLateRenewals.j2 k y0 y1 y2) (laws_FnExactLateRenewals.j2 (k + 1) y0 y1 y2))
 | 0 => ⟨fun _ _ _ _ _ _ _ _ _ r h => by simp [laws_FnExactLateRenewals.j0] at h, fun _ _ _ _ _ _ r h => by simp [laws_FnExactLateRenewals.j1] at h, fun _ _ _ r h => by simp [laws_FnExactLateRenewals.j2] at h⟩
 | k + 1 => by
  obtain ⟨ih0, ih1, ih2⟩ := laws_FnExactLateRenewals.mono_l k
  refine ⟨?_, ?_, ?_⟩
  ·intro y0 y1 y2 y3 y4 y5 y6 y7 y8
   unfold laws_FnExactLateRenewals.j0
   repeat' first
   | (with_reducible exact ih0 _ _ _ _ _ _ _ _ _)
   | (with_reducible exact ih1 _ _ _ _ _ _)
   | (with_reducible exact ih2 _ _ _)
   | (with_reducible exact impl_LateRenewals.mono _ _ _)
   | (with_reducible exact laws_eqInt64S.mono _ _ _)
   | (with_reducible exact laws_eqRenewalS.mono _ _ _)
   | (with_reducible exact laws_heldInt64S.mono _ _ _)
   | (with_reducible exact laws_markInt64S.mono _ _ _)
   | (with_reducible exact laws_markRenewalS.mono _ _ _)
   | (with_reducible exact laws_szRenewalS.mono _ _ _)
   | (with_reducible exact laws_toInt64S.mono _ _)
   | (with_reducible exact laws_toRenewalS.mono _ _)
   | (with_reducible exact spec_LateRenewals.mono _ _ _)
   | (with_reducible exact LeO.refl _)
   | (with_reducible exact LeO.none _)
   | (with_reducible refine LeO.ite ?_ ?_)
   | (with_reducible refine LeO.bind ?_ (fun _ => ?_))
   | exact ih0 _ _ _ _ _ _ _ _ _
   | exact ih1 _ _ _ _ _ _
   | exact ih2 _ _ _
   | exact impl_LateRenewals.mono _ _ _
   | exact laws_eqInt64S.mono _ _ _
   | exact laws_eqRenewalS.mono _ _ _
   | exact laws_heldInt64S.mono _ _ _
   | exact laws_markInt64S.mono _ _ _
   | exact laws_markRenewalS.mono _ _ _
   | exact laws_szRenewalS.mono _ _ _
   | exact laws_toInt64S.mono _ _
   | exact laws_toRenewalS.mono _ _
   | exact spec_LateRenewals.mono _ _ _
   | exact LeO.none _
   | refine LeO.ite ?_ ?_
   | refine LeO.bind ?_ (fun _ => ?_)
  ·intro y0 y1 y2 y3 y4 y5
   unfold laws_FnExactLateRenewals.j1
   repeat' first
   | (with_reducible exact ih0 _ _ _ _ _ _ _ _ _)
   | (with_reducible exact ih1 _ _ _ _ _ _)
   | (with_reducible exact ih2 _ _ _)
   | (with_reducible exact impl_LateRenewals.mono _ _ _)
   | (with_reducible exact laws_eqInt64S.mono _ _ _)
   | (with_reducible exact laws_eqRenewalS.mono _ _ _)
   | (with_reducible exact laws_heldInt64S.mono _ _ _)
   | (with_reducible exact laws_markInt64S.mono _ _ _)
   | (with_reducible exact laws_markRenewalS.mono _ _ _)
   | (with_reducible exact laws_szRenewalS.mono _ _ _)
   | (with_reducible exact laws_toInt64S.mono _ _)
   | (with_reducible exact laws_toRenewalS.mono _ _)
   | (with_reducible exact spec_LateRenewals.mono _ _ _)
   | (with_reducible exact LeO.refl _)
   | (with_reducible exact LeO.none _)
   | (with_reducible refine LeO.ite ?_ ?_)
   | (with_reducible refine LeO.bind ?_ (fun _ => ?_))
   | exact ih0 _ _ _ _ _ _ _ _ _
   | exact ih1 _ _ _ _ _ _
   | exact ih2 _ _ _
   | exact impl_LateRenewals.mono _ _ _
   | exact laws_eqInt64S.mono _ _ _
   | exact laws_eqRenewalS.mono _ _ _
   | exact laws_heldInt64S.mono _ _ _
   | exact laws_markInt64S.mono _ _ _
   | exact laws_markRenewalS.mono _ _ _
   | exact laws_szRenewalS.mono _ _ _
   | exact laws_toInt64S.mono _ _
   | exact laws_toRenewalS.mono _ _
   | exact spec_LateRenewals.mono _ _ _
   | exact LeO.none _
   | refine LeO.ite ?_ ?_
   | refine LeO.bind ?_ (fun _ => ?_)
  ·intro y0 y1 y2
   unfold laws_FnExactLateRenewals.j2
   repeat' first
   | (with_reducible exact ih0 _ _ _ _ _ _ _ _ _)
   | (with_reducible exact ih1 _ _ _ _ _ _)
   | (with_reducible exact ih2 _ _ _)
   | (with_reducible exact impl_LateRenewals.mono _ _ _)
   | (with_reducible exact laws_eqInt64S.mono _ _ _)
   | (with_reducible exact laws_eqRenewalS.mono _ _ _)
   | (with_reducible exact laws_heldInt64S.mono _ _ _)
   | (with_reducible exact laws_markInt64S.mono _ _ _)
   | (with_reducible exact laws_markRenewalS.mono _ _ _)
   | (with_reducible exact laws_szRenewalS.mono _ _ _)
   | (with_reducible exact laws_toInt64S.mono _ _)
   | (with_reducible exact laws_toRenewalS.mono _ _)
   | (with_reducible exact spec_LateRenewals.mono _ _ _)
   | (with_reducible exact LeO.refl _)
   | (with_reducible exact LeO.none _)
   | (with_reducible refine LeO.ite ?_ ?_)
   | (with_reducible refine LeO.bind ?_ (fun _ => ?_))
   | exact ih0 _ _ _ _ _ _ _ _ _
   | exact ih1 _ _ _ _ _ _
   | exact ih2 _ _ _
   | exact impl_LateRenewals.mono _ _ _
   | exact laws_eqInt64S.mono _ _ _
   | exact laws_eqRenewalS.mono _ _ _
   | exact laws_heldInt64S.mono _ _ _
   | exact laws_markInt64S.mono _ _ _
   | exact laws_markRenewalS.mono _ _ _
   | exact laws_szRenewalS.mono _ _ _
   | exact laws_toInt64S.mono _ _
   | exact laws_toRenewalS.mono _ _
   | exact spec_LateRenewals.mono _ _ _
   | exact LeO.none _
   | refine LeO.ite ?_ ?_
   | refine LeO.bind ?_ (fun _ => ?_)
theorem laws_FnExactLateRenewals.mono : ∀ a0 a1 k, LeO (laws_FnExactLateRenewals.f k a0 a1) (laws_FnExactLateRenewals.f (k + 1) a0 a1) := by
 intro a0 a1 k
 obtain ⟨ih0, ih1, ih2⟩ := laws_FnExactLateRenewals.mono_l k
 unfold laws_FnExactLateRenewals.f
 repeat' first
   | (with_reducible exact ih0 _ _ _ _ _ _ _ _ _)
   | (with_reducible exact ih1 _ _ _ _ _ _)
   | (with_reducible exact ih2 _ _ _)
   | (with_reducible exact impl_LateRenewals.mono _ _ _)
   | (with_reducible exact laws_eqInt64S.mono _ _ _)
   | (with_reducible exact laws_eqRenewalS.mono _ _ _)
   | (with_reducible exact laws_heldInt64S.mono _ _ _)
   | (with_reducible exact laws_markInt64S.mono _ _ _)
   | (with_reducible exact laws_markRenewalS.mono _ _ _)
   | (with_reducible exact laws_szRenewalS.mono _ _ _)
   | (with_reducible exact laws_toInt64S.mono _ _)
   | (with_reducible exact laws_toRenewalS.mono _ _)
   | (with_reducible exact spec_LateRenewals.mono _ _ _)
   | (with_reducible exact LeO.refl _)
   | (with_reducible exact LeO.none _)
   | (with_reducible refine LeO.ite ?_ ?_)
   | (with_reducible refine LeO.bind ?_ (fun _ => ?_))
   | exact ih0 _ _ _ _ _ _ _ _ _
   | exact ih1 _ _ _ _ _ _
   | exact ih2 _ _ _
   | exact impl_LateRenewals.mono _ _ _
   | exact laws_eqInt64S.mono _ _ _
   | exact laws_eqRenewalS.mono _ _ _
   | exact laws_heldInt64S.mono _ _ _
   | exact laws_markInt64S.mono _ _ _
   | exact laws_markRenewalS.mono _ _ _
   | exact laws_szRenewalS.mono _ _ _
   | exact laws_toInt64S.mono _ _
   | exact laws_toRenewalS.mono _ _
   | exact spec_LateRenewals.mono _ _ _
   | exact LeO.none _
   | refine LeO.ite ?_ ?_
   | refine LeO.bind ?_ (fun _ => ?_)
set_option maxHeartbeats 8000000 in
set_option maxRecDepth 100000 in
theorem laws_FnExactLateRenewals.calls (k : Nat) (A0 : Option Addr) (c0 : Nat) (l0 : List (S66)) (A1 : Option Addr) (c1 : Nat) (l1 : List Int) (r : Bool) (w : World) (hr0 : Kd.C k66 w A0 l0.length l0) (hc0 : l0.length ≤ c0) (hr1 : Kd.C (Kd.int .i64) w A1 l1.length l1) (hc1 : l1.length ≤ c1) (h : laws_FnExactLateRenewals.f k l0 l1 = some r) :
  Calls Try.prog 10 #[.slice A0 l0.length c0, .slice A1 l1.length c1] w fun e w' => e = .returned (.bool r) ∧ Below w.heap.size w w' := by
 have HR0 := Aside0.mk hr0
 have HC0 := Aside0.mk hc0
 clear hr0 hc0
 have HR1 := Aside0.mk hr1
 have HC1 := Aside0.mk hc1
 clear hr1 hc1
 have HB := Aside0.mk (Below.refl w.heap.size w)
 have H : (if (l1.length : Int) > 1048576 then (some true) else ((laws_szRenewalS.f k l0 1048576).bind fun t451 => (if t451 < 0 then (some true) else ((laws_toRenewalS.f k l0).bind fun t452 => ((laws_toInt64S.f k l1).bind fun t455 => ((spec_LateRenewals.f k t452 t455).bind fun bt458 => ((laws_toRenewalS.f k l0).bind fun t462 => ((laws_toInt64S.f k l1).bind fun t465 => ((impl_LateRenewals.f k t462 t465).bind fun bt468 => ((laws_eqInt64S.f k bt468.1 bt458.1).bind fun t472 => (if t472 = true then (laws_FnExactLateRenewals.j0 k l0 l1 bt458.1 bt458.2 t462 t465 bt468.1 bt468.2 (bt468.2 != bt458.2)) else (laws_FnExactLateRenewals.j0 k l0 l1 bt458.1 bt458.2 t462 t465 bt468.1 bt468.2 true)))))))))))) = some r := h
 clear h
 by_cases c3 : (l1.length : Int) > 1048576
 ·rw [if_pos c3] at H
  have c3b0 : decide (1048576 < (l1.length : Int)) = true := decide_eq_true c3
  have c3b1 : decide (1048576 < l1.length) = true := decide_eq_true (by omega)
  clear c3
  obtain rfl := Option.some.inj H
  go_enter Try.func10, Try.ntmps10
  go_wp2
  go_ret
  exact ⟨ew_, hb_⟩
 ·rw [if_neg c3] at H
  have c3b0 : decide (1048576 < (l1.length : Int)) = false := decide_eq_false c3
  have c3b1 : decide (1048576 < l1.length) = false := decide_eq_false (by omega)
  clear c3
  replace H := Option.bind_eq_some_iff.mp H
  obtain ⟨t451, A40, H⟩ := H
  replace H : (if t451 < 0 then (some true) else ((laws_toRenewalS.f k l0).bind fun t452 => ((laws_toInt64S.f k l1).bind fun t455 => ((spec_LateRenewals.f k t452 t455).bind fun bt458 => ((laws_toRenewalS.f k l0).bind fun t462 => ((laws_toInt64S.f k l1).bind fun t465 => ((impl_LateRenewals.f k t462 t465).bind fun bt468 => ((laws_eqInt64S.f k bt468.1 bt458.1).bind fun t472 => (if t472 = true then (laws_FnExactLateRenewals.j0 k l0 l1 bt458.1 bt458.2 t462 t465 bt468.1 bt468.2 (bt468.2 != bt458.2)) else (laws_FnExactLateRenewals.j0 k l0 l1 bt458.1 bt458.2 t462 t465 bt468.1 bt468.2 true)))))))))) = some r := H
  have A4 := Aside0.mk A40
  clear A40
  by_cases c5 : t451 < 0
  ·rw [if_pos c5] at H
   have c5b0 : decide (t451 < 0) = true := decide_eq_true c5
   clear c5
   obtain rfl := Option.some.inj H
   go_enter Try.func10, Try.ntmps10
   go_wp2_with (first | ((with_reducible refine gate_callee (f := 20) rfl ?_); refine goesL_ (some 22) rfl rfl Try.func20 (by kernel_rfl) rfl #[.slice A0 l0.length c0, .int .i64 1048576] rfl ln_ ?_; (with_reducible refine (laws_szRenewalS.calls k _ _ l0 1048576 t451 _ ?side1 ?side2 A4.out).mono ?_); (case side1 => exact kc_ HR0.out); (case side2 => exact HC0.out); rintro e w6 ⟨rfl, hb⟩; refine ⟨_, rfl, ?_⟩; have n0_ := Aside0.mk (below_step hb_ hb); clear HB; have HB := n0_; clear n0_; (try clear hb); (try clear hb2); (try clear hk); (try clear hi)))
   go_ret
   exact ⟨ew_, hb_⟩
  ·rw [if_neg c5] at H
   have c5b0 : decide (t451 < 0) = false := decide_eq_false c5
   clear c5
   replace H := Option.bind_eq_some_iff.mp H
   obtain ⟨t452, A70, H⟩ := H
   replace H : ((laws_toInt64S.f k l1).bind fun t455 => ((spec_LateRenewals.f k t452 t455).bind fun bt458 => ((laws_toRenewalS.f k l0).bind fun t462 => ((laws_toInt64S.f k l1).bind fun t465 => ((impl_LateRenewals.f k t462 t465).bind fun bt468 => ((laws_eqInt64S.f k bt468.1 bt458.1).bind fun t472 => (if t472 = true then (laws_FnExactLateRenewals.j0 k l0 l1 bt458.1 bt458.2 t462 t465 bt468.1 bt468.2 (bt468.2 != bt458.2)) else (laws_FnExactLateRenewals.j0 k l0 l1 bt458.1 bt458.2 t462 t465 bt468.1 bt468.2 true)))))))) = some r := H
   have A7 := Aside0.mk A70
   clear A70
   replace H := Option.bind_eq_some_iff.mp H
   obtain ⟨t455, A80, H⟩ := H
   replace H : ((spec_LateRenewals.f k t452 t455).bind fun bt458 => ((laws_toRenewalS.f k l0).bind fun t462 => ((laws_toInt64S.f k l1).bind fun t465 => ((impl_LateRenewals.f k t462 t465).bind fun bt468 => ((laws_eqInt64S.f k bt468.1 bt458.1).bind fun t472 => (if t472 = true then (laws_FnExactLateRenewals.j0 k l0 l1 bt458.1 bt458.2 t462 t465 bt468.1 bt468.2 (bt468.2 != bt458.2)) else (laws_FnExactLateRenewals.j0 k l0 l1 bt458.1 bt458.2 t462 t465 bt468.1 bt468.2 true))))))) = some r := H
   have A8 := Aside0.mk A80
   clear A80
   replace H := Option.bind_eq_some_iff.mp H
   obtain ⟨⟨t458, t459⟩, A90, H⟩ := H
   replace H : ((laws_toRenewalS.f k l0).bind fun t462 => ((laws_toInt64S.f k l1).bind fun t465 => ((impl_LateRenewals.f k t462 t465).bind fun bt468 => ((laws_eqInt64S.f k bt468.1 t458).bind fun t472 => (if t472 = true then (laws_FnExactLateRenewals.j0 k l0 l1 t458 t459 t462 t465 bt468.1 bt468.2 (bt468.2 != t459)) else (laws_FnExactLateRenewals.j0 k l0 l1 t458 t459 t462 t465 bt468.1 bt468.2 true)))))) = some r := H
   have A9 := Aside0.mk A90
   clear A90
   replace H := Option.bind_eq_some_iff.mp H
   obtain ⟨t462, A100, H⟩ := H
   replace H : ((laws_toInt64S.f k l1).bind fun t465 => ((impl_LateRenewals.f k t462 t465).bind fun bt468 => ((laws_eqInt64S.f k bt468.1 t458).bind fun t472 => (if t472 = true then (laws_FnExactLateRenewals.j0 k l0 l1 t458 t459 t462 t465 bt468.1 bt468.2 (bt468.2 != t459)) else (laws_FnExactLateRenewals.j0 k l0 l1 t458 t459 t462 t465 bt468.1 bt468.2 true))))) = some r := H
   have A10 := Aside0.mk A100
   clear A100
   replace H := Option.bind_eq_some_iff.mp H
   obtain ⟨t465, A110, H⟩ := H
   replace H : ((impl_LateRenewals.f k t462 t465).bind fun bt468 => ((laws_eqInt64S.f k bt468.1 t458).bind fun t472 => (if t472 = true then (laws_FnExactLateRenewals.j0 k l0 l1 t458 t459 t462 t465 bt468.1 bt468.2 (bt468.2 != t459)) else (laws_FnExactLateRenewals.j0 k l0 l1 t458 t459 t462 t465 bt468.1 bt468.2 true)))) = some r := H
   have A11 := Aside0.mk A110
   clear A110
   replace H := Option.bind_eq_some_iff.mp H
   obtain ⟨⟨t468, t469⟩, A120, H⟩ := H
   replace H : ((laws_eqInt64S.f k t468 t458).bind fun t472 => (if t472 = true then (laws_FnExactLateRenewals.j0 k l0 l1 t458 t459 t462 t465 t468 t469 (t469 != t459)) else (laws_FnExactLateRenewals.j0 k l0 l1 t458 t459 t462 t465 t468 t469 true))) = some r := H
   have A12 := Aside0.mk A120
   clear A120
   have HC13 := Aside0.mk H
   clear H
   go_enter Try.func10, Try.ntmps10
   go_upto_region 11 with (first | ((with_reducible refine gate_callee (f := 20) rfl ?_); refine goesL_ (some 22) rfl rfl Try.func20 (by kernel_rfl) rfl #[.slice A0 l0.length c0, .int .i64 1048576] rfl ln_ ?_; (with_reducible refine (laws_szRenewalS.calls k _ _ l0 1048576 t451 _ ?side1 ?side2 A4.out).mono ?_); (case side1 => exact kc_ HR0.out); (case side2 => exact HC0.out); rintro e w14 ⟨rfl, hb⟩; refine ⟨_, rfl, ?_⟩; have n0_ := Aside0.mk (below_step hb_ hb); clear HB; have HB := n0_; clear n0_; (try clear hb); (try clear hb2); (try clear hk); (try clear hi)) | ((with_reducible refine gate_callee (f := 22) rfl ?_); refine goesL_ (some 27) rfl rfl Try.func22 (by kernel_rfl) rfl #[.slice A0 l0.length c0] rfl ln_ ?_; (with_reducible refine (laws_toRenewalS.calls k _ _ l0 t452 _ ?side1 ?side2 A7.out).mono ?_); (case side1 => exact kc_ (Kd.C_below HR0.out HB.out)); (case side2 => exact HC0.out); rintro e w15 ⟨v453, rfl, ho0, hb⟩; refine ⟨_, rfl, ?_⟩; have n0_ := Aside0.mk (Kd.R_lower ho0 (below_size hb_)); have n1_ := Aside0.mk (below_step hb_ hb); clear HB; have HO454 := n0_; have HB := n1_; clear n0_ n1_; (try clear hb); (try clear hb2); (try clear hk); (try clear hi); (try clear ho0)) | ((with_reducible refine gate_callee (f := 28) rfl ?_); refine goesL_ (some 29) rfl rfl Try.func28 (by kernel_rfl) rfl #[.slice A1 l1.length c1] rfl ln_ ?_; (with_reducible refine (laws_toInt64S.calls k _ _ l1 t455 _ ?side1 ?side2 A8.out).mono ?_); (case side1 => exact kc_ (Kd.C_below HR1.out HB.out)); (case side2 => exact HC1.out); rintro e w16 ⟨v456, rfl, ho0, hb⟩; refine ⟨_, rfl, ?_⟩; have n0_ := Aside0.mk (Kd.R_below (kr_ HO454) hb); have n1_ := Aside0.mk (Kd.R_lower ho0 (below_size hb_)); have n2_ := Aside0.mk (below_step hb_ hb); clear HO454; clear HB; have HO454 := n0_; have HO457 := n1_; have HB := n2_; clear n0_ n1_ n2_; (try clear hb); (try clear hb2); (try clear hk); (try clear hi); (try clear ho0); obtain ⟨Ao17, co17, eo17⟩ := Kd.R_slice HO454.out; subst eo17; obtain ⟨Ao18, co18, eo18⟩ := Kd.R_slice HO457.out; subst eo18) | ((with_reducible refine gate_callee (f := 40) rfl ?_); refine goesL_ (some 30) rfl rfl Try.func40 (by kernel_rfl) rfl #[.slice Ao17 t452.length co17, .slice Ao18 t455.length co18] rfl ln_ ?_; (with_reducible refine (spec_LateRenewals.calls k _ _ t452 _ _ t455 t458 t459 _ ?side1 ?side2 ?side3 ?side4 A9.out).mono ?_); (case side1 => repeat (first | exact (Kd.R_reads' HO454.out).2.2 | (with_reducible refine Kd.C_alloc ?_ _) | (with_reducible refine Kd.C_drewN ?_ _) | (with_reducible refine Kd.C_drew ?_))); (case side2 => exact (Kd.R_reads' HO454.out).2.1); (case side3 => repeat (first | exact (Kd.R_reads' HO457.out).2.2 | (with_reducible refine Kd.C_alloc ?_ _) | (with_reducible refine Kd.C_drewN ?_ _) | (with_reducible refine Kd.C_drew ?_))); (case side4 => exact (Kd.R_reads' HO457.out).2.1); rintro e w19 ⟨v460, rfl, ho0, hb⟩; refine ⟨_, rfl, ?_⟩; have n0_ := Aside0.mk (Kd.R_below (kr_ HO454) hb); have n1_ := Aside0.mk (Kd.R_elder' (kr_ HO457) (Kd.R_base ho0) hb); have n2_ := Aside0.mk (Kd.R_lower (Kd.R_new' ho0 (Kd.R_lt (kr_ HO457))) (below_size hb_)); have n3_ := Aside0.mk (below_step hb_ hb); clear HO454; clear HO457; clear HB; have HO454 := n0_; have HO457 := n1_; have HO461 := n2_; have HB := n3_; clear n0_ n1_ n2_ n3_; (try clear hb); (try clear hb2); (try clear hk); (try clear hi); (try clear ho0)) | ((with_reducible refine gate_callee (f := 22) rfl ?_); refine goesL_ (some 34) rfl rfl Try.func22 (by kernel_rfl) rfl #[.slice A0 l0.length c0] rfl ln_ ?_; (with_reducible refine (laws_toRenewalS.calls k _ _ l0 t462 _ ?side1 ?side2 A10.out).mono ?_); (case side1 => exact kc_ (Kd.C_below HR0.out HB.out)); (case side2 => exact HC0.out); rintro e w20 ⟨v463, rfl, ho0, hb⟩; refine ⟨_, rfl, ?_⟩; have n0_ := Aside0.mk (Kd.R_elder' (kr_ HO454) (Kd.R_base ho0) hb); have n1_ := Aside0.mk (Kd.R_below (kr_ HO457) hb); have n2_ := Aside0.mk (Kd.R_below (kr_ HO461) hb); have n3_ := Aside0.mk (Kd.R_lower (Kd.R_new' ho0 (Kd.R_lt (kr_ HO454))) (below_size hb_)); have n4_ := Aside0.mk (below_step hb_ hb); clear HO454; clear HO457; clear HO461; clear HB; have HO454 := n0_; have HO457 := n1_; have HO461 := n2_; have HO464 := n3_; have HB := n4_; clear n0_ n1_ n2_ n3_ n4_; (try clear hb); (try clear hb2); (try clear hk); (try clear hi); (try clear ho0)) | ((with_reducible refine gate_callee (f := 28) rfl ?_); refine goesL_ (some 36) rfl rfl Try.func28 (by kernel_rfl) rfl #[.slice A1 l1.length c1] rfl ln_ ?_; (with_reducible refine (laws_toInt64S.calls k _ _ l1 t465 _ ?side1 ?side2 A11.out).mono ?_); (case side1 => exact kc_ (Kd.C_below HR1.out HB.out)); (case side2 => exact HC1.out); rintro e w21 ⟨v466, rfl, ho0, hb⟩; refine ⟨_, rfl, ?_⟩; have n0_ := Aside0.mk (Kd.R_below (kr_ HO454) hb); have n1_ := Aside0.mk (Kd.R_elder' (kr_ HO457) (Kd.R_base ho0) hb); have n2_ := Aside0.mk (Kd.R_elder' (kr_ HO461) (Kd.R_base ho0) hb); have n3_ := Aside0.mk (Kd.R_below (kr_ HO464) hb); have n4_ := Aside0.mk (Kd.R_lower (Kd.R_new' (Kd.R_new' ho0 (Kd.R_lt (kr_ HO457))) (Kd.R_lt (kr_ HO461))) (below_size hb_)); have n5_ := Aside0.mk (below_step hb_ hb); clear HO454; clear HO457; clear HO461; clear HO464; clear HB; have HO454 := n0_; have HO457 := n1_; have HO461 := n2_; have HO464 := n3_; have HO467 := n4_; have HB := n5_; clear n0_ n1_ n2_ n3_ n4_ n5_; (try clear hb); (try clear hb2); (try clear hk); (try clear hi); (try clear ho0); obtain ⟨Ao22, co22, eo22⟩ := Kd.R_slice HO464.out; subst eo22; obtain ⟨Ao23, co23, eo23⟩ := Kd.R_slice HO467.out; subst eo23) | ((with_reducible refine gate_callee (f := 41) rfl ?_); refine goesL_ (some 40) rfl rfl Try.func41 (by kernel_rfl) rfl #[.slice Ao22 t462.length co22, .slice Ao23 t465.length co23] rfl ln_ ?_; (with_reducible refine (impl_LateRenewals.calls k _ _ t462 _ _ t465 t468 t469 _ ?side1 ?side2 ?side3 ?side4 A12.out).mono ?_); (case side1 => repeat (first | exact (Kd.R_reads' HO464.out).2.2 | (with_reducible refine Kd.C_alloc ?_ _) | (with_reducible refine Kd.C_drewN ?_ _) | (with_reducible refine Kd.C_drew ?_))); (case side2 => exact (Kd.R_reads' HO464.out).2.1); (case side3 => repeat (first | exact (Kd.R_reads' HO467.out).2.2 | (with_reducible refine Kd.C_alloc ?_ _) | (with_reducible refine Kd.C_drewN ?_ _) | (with_reducible refine Kd.C_drew ?_))); (case side4 => exact (Kd.R_reads' HO467.out).2.1); rintro e w24 ⟨v470, rfl, ho0, hb⟩; refine ⟨_, rfl, ?_⟩; have n0_ := Aside0.mk (Kd.R_below (kr_ HO454) hb); have n1_ := Aside0.mk (Kd.R_elder' (kr_ HO457) (Kd.R_base ho0) hb); have n2_ := Aside0.mk (Kd.R_elder' (kr_ HO461) (Kd.R_base ho0) hb); have n3_ := Aside0.mk (Kd.R_below (kr_ HO464) hb); have n4_ := Aside0.mk (Kd.R_elder' (kr_ HO467) (Kd.R_base ho0) hb); have n5_ := Aside0.mk (Kd.R_lower (Kd.R_new' (Kd.R_new' (Kd.R_new' ho0 (Kd.R_lt (kr_ HO457))) (Kd.R_lt (kr_ HO461))) (Kd.R_lt (kr_ HO467))) (below_size hb_)); have n6_ := Aside0.mk (below_step hb_ hb); clear HO454; clear HO457; clear HO461; clear HO464; clear HO467; clear HB; have HO454 := n0_; have HO457 := n1_; have HO461 := n2_; have HO464 := n3_; have HO467 := n4_; have HO471 := n5_; have HB := n6_; clear n0_ n1_ n2_ n3_ n4_ n5_ n6_; (try clear hb); (try clear hb2); (try clear hk); (try clear hi); (try clear ho0)))
   (try simp only [Act.put, List.setIfInBounds_toArray, List.set_cons_zero, List.set_cons_succ])
   go_cut [51] (fun v51 wc => ∃ (kq : Nat) (x51_12 : Bool), v51 = .bool x51_12 ∧ Aside0 (laws_FnExactLateRenewals.j0 kq l0 l1 t458 t459 t462 t465 t468 t469 x51_12 = some r) ∧ Aside0 (kq ≤ k) ∧ Aside0 (Kd.R (Kd.int .i64) 2 wc w.heap.size (fun k_ => some k_ ≠ ((.slice Ao23 t465.length co23) : Value).ownBlock ∧ some k_ ≠ (v470 : Value).ownBlock) v460 t458) ∧ Aside0 (Kd.R k55 55 wc w.heap.size (fun _ => True) (.slice Ao22 t462.length co22) t462) ∧ Aside0 (Kd.R (Kd.int .i64) 2 wc w.heap.size (fun k_ => some k_ ≠ (v460 : Value).ownBlock ∧ some k_ ≠ (v470 : Value).ownBlock) (.slice Ao23 t465.length co23) t465) ∧ Aside0 (Kd.R (Kd.int .i64) 2 wc w.heap.size (fun k_ => some k_ ≠ (v460 : Value).ownBlock ∧ some k_ ≠ ((.slice Ao23 t465.length co23) : Value).ownBlock) v470 t468) ∧ Aside0 (Below w.heap.size w wc))
   case first =>
    have H := HC13.out
    clear HC13
    replace H := Option.bind_eq_some_iff.mp H
    obtain ⟨t472, A250, H⟩ := H
    replace H : (if t472 = true then (laws_FnExactLateRenewals.j0 k l0 l1 t458 t459 t462 t465 t468 t469 (t469 != t459)) else (laws_FnExactLateRenewals.j0 k l0 l1 t458 t459 t462 t465 t468 t469 true)) = some r := H
    have A25 := Aside0.mk A250
    clear A250
    by_cases c26 : t472 = true
    ·subst c26
     have H1 : (laws_FnExactLateRenewals.j0 k l0 l1 t458 t459 t462 t465 t468 t469 (t469 != t459)) = some r := by rw [if_pos rfl] at H; exact H
     clear H
     have H := H1
     clear H1
     have H' := Aside0.mk H
     clear H
     obtain ⟨Ao27, co27, eo27⟩ := Kd.R_slice HO471.out
     subst eo27
     obtain ⟨Ao28, co28, eo28⟩ := Kd.R_slice HO461.out
     subst eo28
     go_wp2_with (first | ((with_reducible refine gate_callee (f := 30) rfl ?_); refine goesL_ (some 45) rfl rfl Try.func30 (by kernel_rfl) rfl #[.slice Ao27 t468.length co27, .slice Ao28 t458.length co28] rfl ln_ ?_; (with_reducible refine (laws_eqInt64S.calls k _ _ t468 _ _ t458 true _ ?side1 ?side2 ?side3 ?side4 A25.out).mono ?_); (case side1 => repeat (first | exact (Kd.R_reads' HO471.out).2.2 | (with_reducible refine Kd.C_alloc ?_ _) | (with_reducible refine Kd.C_drewN ?_ _) | (with_reducible refine Kd.C_drew ?_))); (case side2 => exact (Kd.R_reads' HO471.out).2.1); (case side3 => repeat (first | exact (Kd.R_reads' HO461.out).2.2 | (with_reducible refine Kd.C_alloc ?_ _) | (with_reducible refine Kd.C_drewN ?_ _) | (with_reducible refine Kd.C_drew ?_))); (case side4 => exact (Kd.R_reads' HO461.out).2.1); rintro e w' ⟨rfl, ⟨nd, rfl⟩⟩; refine ⟨_, rfl, ?_⟩))
     go_meet
     case rel => exact ⟨_, ((t469 != t459)), (by first | rfl | (simp; done) | (simp [*]; done)), H', ⟨by first | omega | exact Nat.le_refl _⟩, ⟨by (with_reducible repeat (first | apply Kd.R_alloc | apply Kd.R_drewN | apply Kd.R_drew)); exact Kd.R_mono HO461.out (fun _ hk => ⟨hk.1.2, hk.2⟩)⟩, ⟨by (with_reducible repeat (first | apply Kd.R_alloc | apply Kd.R_drewN | apply Kd.R_drew)); exact Kd.R_mono HO464.out (fun _ hk => trivial)⟩, ⟨by (with_reducible repeat (first | apply Kd.R_alloc | apply Kd.R_drewN | apply Kd.R_drew)); exact Kd.R_mono HO467.out (fun _ hk => ⟨hk.1.2, hk.2⟩)⟩, ⟨by (with_reducible repeat (first | apply Kd.R_alloc | apply Kd.R_drewN | apply Kd.R_drew)); exact Kd.R_mono HO471.out (fun _ hk => ⟨hk.1.2, hk.2⟩)⟩, ⟨hb_⟩⟩
    ·replace c26 := Bool.eq_false_iff.mpr c26
     subst c26
     have H1 : (laws_FnExactLateRenewals.j0 k l0 l1 t458 t459 t462 t465 t468 t469 true) = some r := by rw [if_neg (show ¬ (false = true) by decide)] at H; exact H
     clear H
     have H := H1
     clear H1
     have H' := Aside0.mk H
     clear H
     obtain ⟨Ao29, co29, eo29⟩ := Kd.R_slice HO471.out
     subst eo29
     obtain ⟨Ao30, co30, eo30⟩ := Kd.R_slice HO461.out
     subst eo30
     go_wp2_with (first | ((with_reducible refine gate_callee (f := 30) rfl ?_); refine goesL_ (some 45) rfl rfl Try.func30 (by kernel_rfl) rfl #[.slice Ao29 t468.length co29, .slice Ao30 t458.length co30] rfl ln_ ?_; (with_reducible refine (laws_eqInt64S.calls k _ _ t468 _ _ t458 false _ ?side1 ?side2 ?side3 ?side4 A25.out).mono ?_); (case side1 => repeat (first | exact (Kd.R_reads' HO471.out).2.2 | (with_reducible refine Kd.C_alloc ?_ _) | (with_reducible refine Kd.C_drewN ?_ _) | (with_reducible refine Kd.C_drew ?_))); (case side2 => exact (Kd.R_reads' HO471.out).2.1); (case side3 => repeat (first | exact (Kd.R_reads' HO461.out).2.2 | (with_reducible refine Kd.C_alloc ?_ _) | (with_reducible refine Kd.C_drewN ?_ _) | (with_reducible refine Kd.C_drew ?_))); (case side4 => exact (Kd.R_reads' HO461.out).2.1); rintro e w' ⟨rfl, ⟨nd, rfl⟩⟩; refine ⟨_, rfl, ?_⟩))
     go_meet
     case rel => exact ⟨_, (true), (by first | rfl | (simp; done) | (simp [*]; done)), H', ⟨by first | omega | exact Nat.le_refl _⟩, ⟨by (with_reducible repeat (first | apply Kd.R_alloc | apply Kd.R_drewN | apply Kd.R_drew)); exact Kd.R_mono HO461.out (fun _ hk => ⟨hk.1.2, hk.2⟩)⟩, ⟨by (with_reducible repeat (first | apply Kd.R_alloc | apply Kd.R_drewN | apply Kd.R_drew)); exact Kd.R_mono HO464.out (fun _ hk => trivial)⟩, ⟨by (with_reducible repeat (first | apply Kd.R_alloc | apply Kd.R_drewN | apply Kd.R_drew)); exact Kd.R_mono HO467.out (fun _ hk => ⟨hk.1.2, hk.2⟩)⟩, ⟨by (with_reducible repeat (first | apply Kd.R_alloc | apply Kd.R_drewN | apply Kd.R_drew)); exact Kd.R_mono HO471.out (fun _ hk => ⟨hk.1.2, hk.2⟩)⟩, ⟨hb_⟩⟩
   case rest =>
    clear HC13
    try clear c1
    try clear c2
    try clear p2
    try clear c3
    try clear c3b0
    try clear c3b1
    try clear c4
    try clear c5
    try clear c5b0
    try clear c10
    try clear c20
    try clear c22
    try clear c26
    try clear c28
    try clear c30
    obtain ⟨kq, x51_12, rfl, HA, HJ12, HO_6, HO_8, HO_9, HO_10, HB⟩ := hcut
    cases kq with
    | zero => exact absurd HA.out (by simp [laws_FnExactLateRenewals.j0])
    | succ kj12 =>
     have H := HA.out
     clear HA
     simp only [laws_FnExactLateRenewals.j0] at H
     by_cases c31 : x51_12 = true
     ·subst c31
      have H1 : (some false) = some r := by rw [if_pos rfl] at H; exact H
      clear H
      have H := H1
      clear H1
      obtain rfl := Option.some.inj H
      go_wp2
      go_ret
      exact ⟨ew_, hb_⟩
     ·replace c31 := Bool.eq_false_iff.mpr c31
      subst c31
      have H1 : ((laws_toRenewalS.f kj12 l0).bind fun t473 => ((laws_eqRenewalS.f kj12 t462 t473).bind fun t476 => (if t476 = true then ((laws_toInt64S.f kj12 l1).bind fun t477 => ((laws_eqInt64S.f kj12 t465 t477).bind fun t480 => (if t480 = true then ((laws_markRenewalS.f kj12 t462 1).bind fun bt481 => ((laws_markInt64S.f kj12 t465 bt481.1).bind fun bt483 => (if bt483.1 < 0 then (laws_FnExactLateRenewals.j1 kj12 l0 l1 t458 t459 t468 true) else ((laws_eqInt64S.f kj12 t468 t458).bind fun t485 => (if t485 = true then (laws_FnExactLateRenewals.j1 kj12 l0 l1 t458 t459 t468 (t469 != t459)) else (laws_FnExactLateRenewals.j1 kj12 l0 l1 t458 t459 t468 true)))))) else (some false)))) else (some false)))) = some r := by rw [if_neg (show ¬ (false = true) by decide)] at H; exact H
      clear H
      have H := H1
      clear H1
      replace H := Option.bind_eq_some_iff.mp H
      obtain ⟨t473, A320, H⟩ := H
      replace H : ((laws_eqRenewalS.f kj12 t462 t473).bind fun t476 => (if t476 = true then ((laws_toInt64S.f kj12 l1).bind fun t477 => ((laws_eqInt64S.f kj12 t465 t477).bind fun t480 => (if t480 = true then ((laws_markRenewalS.f kj12 t462 1).bind fun bt481 => ((laws_markInt64S.f kj12 t465 bt481.1).bind fun bt483 => (if bt483.1 < 0 then (laws_FnExactLateRenewals.j1 kj12 l0 l1 t458 t459 t468 true) else ((laws_eqInt64S.f kj12 t468 t458).bind fun t485 => (if t485 = true then (laws_FnExactLateRenewals.j1 kj12 l0 l1 t458 t459 t468 (t469 != t459)) else (laws_FnExactLateRenewals.j1 kj12 l0 l1 t458 t459 t468 true)))))) else (some false)))) else (some false))) = some r := H
      have A32 := Aside0.mk A320
      clear A320
      replace H := Option.bind_eq_some_iff.mp H
      obtain ⟨t476, A330, H⟩ := H
      replace H : (if t476 = true then ((laws_toInt64S.f kj12 l1).bind fun t477 => ((laws_eqInt64S.f kj12 t465 t477).bind fun t480 => (if t480 = true then ((laws_markRenewalS.f kj12 t462 1).bind fun bt481 => ((laws_markInt64S.f kj12 t465 bt481.1).bind fun bt483 => (if bt483.1 < 0 then (laws_FnExactLateRenewals.j1 kj12 l0 l1 t458 t459 t468 true) else ((laws_eqInt64S.f kj12 t468 t458).bind fun t485 => (if t485 = true then (laws_FnExactLateRenewals.j1 kj12 l0 l1 t458 t459 t468 (t469 != t459)) else (laws_FnExactLateRenewals.j1 kj12 l0 l1 t458 t459 t468 true)))))) else (some false)))) else (some false)) = some r := H
      have A33 := Aside0.mk A330
      clear A330
      by_cases c34 : t476 = true
      ·subst c34
       have H1 : ((laws_toInt64S.f kj12 l1).bind fun t477 => ((laws_eqInt64S.f kj12 t465 t477).bind fun t480 => (if t480 = true then ((laws_markRenewalS.f kj12 t462 1).bind fun bt481 => ((laws_markInt64S.f kj12 t465 bt481.1).bind fun bt483 => (if bt483.1 < 0 then (laws_FnExactLateRenewals.j1 kj12 l0 l1 t458 t459 t468 true) else ((laws_eqInt64S.f kj12 t468 t458).bind fun t485 => (if t485 = true then (laws_FnExactLateRenewals.j1 kj12 l0 l1 t458 t459 t468 (t469 != t459)) else (laws_FnExactLateRenewals.j1 kj12 l0 l1 t458 t459 t468 true)))))) else (some false)))) = some r := by rw [if_pos rfl] at H; exact H
       clear H
       have H := H1
       clear H1
       replace H := Option.bind_eq_some_iff.mp H
       obtain ⟨t477, A350, H⟩ := H
       replace H : ((laws_eqInt64S.f kj12 t465 t477).bind fun t480 => (if t480 = true then ((laws_markRenewalS.f kj12 t462 1).bind fun bt481 => ((laws_markInt64S.f kj12 t465 bt481.1).bind fun bt483 => (if bt483.1 < 0 then (laws_FnExactLateRenewals.j1 kj12 l0 l1 t458 t459 t468 true) else ((laws_eqInt64S.f kj12 t468 t458).bind fun t485 => (if t485 = true then (laws_FnExactLateRenewals.j1 kj12 l0 l1 t458 t459 t468 (t469 != t459)) else (laws_FnExactLateRenewals.j1 kj12 l0 l1 t458 t459 t468 true)))))) else (some false))) = some r := H
       have A35 := Aside0.mk A350
       clear A350
       replace H := Option.bind_eq_some_iff.mp H
       obtain ⟨t480, A360, H⟩ := H
       replace H : (if t480 = true then ((laws_markRenewalS.f kj12 t462 1).bind fun bt481 => ((laws_markInt64S.f kj12 t465 bt481.1).bind fun bt483 => (if bt483.1 < 0 then (laws_FnExactLateRenewals.j1 kj12 l0 l1 t458 t459 t468 true) else ((laws_eqInt64S.f kj12 t468 t458).bind fun t485 => (if t485 = true then (laws_FnExactLateRenewals.j1 kj12 l0 l1 t458 t459 t468 (t469 != t459)) else (laws_FnExactLateRenewals.j1 kj12 l0 l1 t458 t459 t468 true)))))) else (some false)) = some r := H
       have A36 := Aside0.mk A360
       clear A360
       by_cases c37 : t480 = true
       ·subst c37
        have H1 : ((laws_markRenewalS.f kj12 t462 1).bind fun bt481 => ((laws_markInt64S.f kj12 t465 bt481.1).bind fun bt483 => (if bt483.1 < 0 then (laws_FnExactLateRenewals.j1 kj12 l0 l1 t458 t459 t468 true) else ((laws_eqInt64S.f kj12 t468 t458).bind fun t485 => (if t485 = true then (laws_FnExactLateRenewals.j1 kj12 l0 l1 t458 t459 t468 (t469 != t459)) else (laws_FnExactLateRenewals.j1 kj12 l0 l1 t458 t459 t468 true)))))) = some r := by rw [if_pos rfl] at H; exact H
        clear H
        have H := H1
        clear H1
        replace H := Option.bind_eq_some_iff.mp H
        obtain ⟨⟨t481, t482⟩, A380, H⟩ := H
        replace H : ((laws_markInt64S.f kj12 t465 t481).bind fun bt483 => (if bt483.1 < 0 then (laws_FnExactLateRenewals.j1 kj12 l0 l1 t458 t459 t468 true) else ((laws_eqInt64S.f kj12 t468 t458).bind fun t485 => (if t485 = true then (laws_FnExactLateRenewals.j1 kj12 l0 l1 t458 t459 t468 (t469 != t459)) else (laws_FnExactLateRenewals.j1 kj12 l0 l1 t458 t459 t468 true))))) = some r := H
        have A38 := Aside0.mk A380
        clear A380
        replace H := Option.bind_eq_some_iff.mp H
        obtain ⟨⟨t483, t484⟩, A390, H⟩ := H
        replace H : (if t483 < 0 then (laws_FnExactLateRenewals.j1 kj12 l0 l1 t458 t459 t468 true) else ((laws_eqInt64S.f kj12 t468 t458).bind fun t485 => (if t485 = true then (laws_FnExactLateRenewals.j1 kj12 l0 l1 t458 t459 t468 (t469 != t459)) else (laws_FnExactLateRenewals.j1 kj12 l0 l1 t458 t459 t468 true)))) = some r := H
        have A39 := Aside0.mk A390
        clear A390
        have HC40 := Aside0.mk H
        clear H
        go_upto_region 20 with (first | ((with_reducible refine gate_callee (f := 22) rfl ?_); refine goesL_ (some 54) rfl rfl Try.func22 (by kernel_rfl) rfl #[.slice A0 l0.length c0] rfl ln_ ?_; (with_reducible refine (laws_toRenewalS.calls kj12 _ _ l0 t473 _ ?side1 ?side2 A32.out).mono ?_); (case side1 => exact kc_ (Kd.C_below HR0.out HB.out)); (case side2 => exact HC0.out); rintro e w41 ⟨v474, rfl, ho0, hb⟩; refine ⟨_, rfl, ?_⟩; have n0_ := Aside0.mk (Kd.R_below (kr_ HO_6) hb); have n1_ := Aside0.mk (Kd.R_elder' (kr_ HO_8) (Kd.R_base ho0) hb); have n2_ := Aside0.mk (Kd.R_below (kr_ HO_9) hb); have n3_ := Aside0.mk (Kd.R_below (kr_ HO_10) hb); have n4_ := Aside0.mk (Kd.R_lower (Kd.R_new' ho0 (Kd.R_lt (kr_ HO_8))) (below_size hb_)); have n5_ := Aside0.mk (below_step hb_ hb); clear HO_6; clear HO_8; clear HO_9; clear HO_10; clear HB; have HO_6 := n0_; have HO_8 := n1_; have HO_9 := n2_; have HO_10 := n3_; have HO475 := n4_; have HB := n5_; clear n0_ n1_ n2_ n3_ n4_ n5_; (try clear hb); (try clear hb2); (try clear hk); (try clear hi); (try clear ho0); obtain ⟨Ao42, co42, eo42⟩ := Kd.R_slice HO475.out; subst eo42) | ((with_reducible refine gate_callee (f := 24) rfl ?_); refine goesL_ (some 55) rfl rfl Try.func24 (by kernel_rfl) rfl #[.slice Ao22 t462.length co22, .slice Ao42 t473.length co42] rfl ln_ ?_; (with_reducible refine (laws_eqRenewalS.calls kj12 _ _ t462 _ _ t473 true _ ?side1 ?side2 ?side3 ?side4 A33.out).mono ?_); (case side1 => repeat (first | exact (Kd.R_reads' HO_8.out).2.2 | (with_reducible refine Kd.C_alloc ?_ _) | (with_reducible refine Kd.C_drewN ?_ _) | (with_reducible refine Kd.C_drew ?_))); (case side2 => exact (Kd.R_reads' HO_8.out).2.1); (case side3 => repeat (first | exact (Kd.R_reads' HO475.out).2.2 | (with_reducible refine Kd.C_alloc ?_ _) | (with_reducible refine Kd.C_drewN ?_ _) | (with_reducible refine Kd.C_drew ?_))); (case side4 => exact (Kd.R_reads' HO475.out).2.1); rintro e w43 ⟨rfl, hb⟩; refine ⟨_, rfl, ?_⟩; have n0_ := Aside0.mk (Kd.R_below (kr_ HO_6) hb); have n1_ := Aside0.mk (Kd.R_below (kr_ HO_8) hb); have n2_ := Aside0.mk (Kd.R_below (kr_ HO_9) hb); have n3_ := Aside0.mk (Kd.R_below (kr_ HO_10) hb); have n4_ := Aside0.mk (Kd.R_below (kr_ HO475) hb); have n5_ := Aside0.mk (below_step hb_ hb); clear HO_6; clear HO_8; clear HO_9; clear HO_10; clear HO475; clear HB; have HO_6 := n0_; have HO_8 := n1_; have HO_9 := n2_; have HO_10 := n3_; have HO475 := n4_; have HB := n5_; clear n0_ n1_ n2_ n3_ n4_ n5_; (try clear hb); (try clear hb2); (try clear hk); (try clear hi)) | ((with_reducible refine gate_callee (f := 28) rfl ?_); refine goesL_ (some 59) rfl rfl Try.func28 (by kernel_rfl) rfl #[.slice A1 l1.length c1] rfl ln_ ?_; (with_reducible refine (laws_toInt64S.calls kj12 _ _ l1 t477 _ ?side1 ?side2 A35.out).mono ?_); (case side1 => exact kc_ (Kd.C_below HR1.out HB.out)); (case side2 => exact HC1.out); rintro e w44 ⟨v478, rfl, ho0, hb⟩; refine ⟨_, rfl, ?_⟩; have n0_ := Aside0.mk (Kd.R_elder' (kr_ HO_6) (Kd.R_base ho0) hb); have n1_ := Aside0.mk (Kd.R_below (kr_ HO_8) hb); have n2_ := Aside0.mk (Kd.R_elder' (kr_ HO_9) (Kd.R_base ho0) hb); have n3_ := Aside0.mk (Kd.R_elder' (kr_ HO_10) (Kd.R_base ho0) hb); have n4_ := Aside0.mk (Kd.R_below (kr_ HO475) hb); have n5_ := Aside0.mk (Kd.R_lower (Kd.R_new' (Kd.R_new' (Kd.R_new' ho0 (Kd.R_lt (kr_ HO_6))) (Kd.R_lt (kr_ HO_9))) (Kd.R_lt (kr_ HO_10))) (below_size hb_)); have n6_ := Aside0.mk (below_step hb_ hb); clear HO_6; clear HO_8; clear HO_9; clear HO_10; clear HO475; clear HB; have HO_6 := n0_; have HO_8 := n1_; have HO_9 := n2_; have HO_10 := n3_; have HO475 := n4_; have HO479 := n5_; have HB := n6_; clear n0_ n1_ n2_ n3_ n4_ n5_ n6_; (try clear hb); (try clear hb2); (try clear hk); (try clear hi); (try clear ho0); obtain ⟨Ao45, co45, eo45⟩ := Kd.R_slice HO479.out; subst eo45) | ((with_reducible refine gate_callee (f := 30) rfl ?_); refine goesL_ (some 60) rfl rfl Try.func30 (by kernel_rfl) rfl #[.slice Ao23 t465.length co23, .slice Ao45 t477.length co45] rfl ln_ ?_; (with_reducible refine (laws_eqInt64S.calls kj12 _ _ t465 _ _ t477 true _ ?side1 ?side2 ?side3 ?side4 A36.out).mono ?_); (case side1 => repeat (first | exact (Kd.R_reads' HO_9.out).2.2 | (with_reducible refine Kd.C_alloc ?_ _) | (with_reducible refine Kd.C_drewN ?_ _) | (with_reducible refine Kd.C_drew ?_))); (case side2 => exact (Kd.R_reads' HO_9.out).2.1); (case side3 => repeat (first | exact (Kd.R_reads' HO479.out).2.2 | (with_reducible refine Kd.C_alloc ?_ _) | (with_reducible refine Kd.C_drewN ?_ _) | (with_reducible refine Kd.C_drew ?_))); (case side4 => exact (Kd.R_reads' HO479.out).2.1); rintro e w' ⟨rfl, ⟨nd, rfl⟩⟩; refine ⟨_, rfl, ?_⟩) | ((with_reducible refine gate_callee (f := 33) rfl ?_); refine goesL_ (some 64) rfl rfl Try.func33 (by kernel_rfl) rfl #[.slice Ao22 t462.length co22, .int .i64 1] rfl ln_ ?_; (with_reducible refine (laws_markRenewalS.calls kj12 (fun k_ => some k_ = (.slice Ao22 t462.length co22 : Value).ownBlock) (.slice Ao22 t462.length co22) t462 1 t481 t482 w _ ?side1 ?side2 A38.out).mono ?_); (case side1 => repeat (first | (with_reducible first | exact HB.out | apply below_alloc | apply pw_below_drewN | apply below_drew1) | exact HB.out)); (case side2 => exact Kd.R_tight rfl HO_8.out); rintro e w46 ⟨rfl, hy0, hb, hkp⟩; refine ⟨_, rfl, ?_⟩; have n0_ := Aside0.mk (Kd.R_mono (ok' := fun k_ => some k_ ≠ (.slice Ao23 t465.length co23 : Value).ownBlock ∧ some k_ ≠ (v470 : Value).ownBlock ∧ some k_ ≠ (.slice Ao45 t477.length co45 : Value).ownBlock) (Kd.R_keptB ((Kd.R_apart' HO_6.out (Kd.R_typed HO_8.out) (by decide))) hkp (fun k_ hk_ hs_ => (hk_.2) hs_)) (fun k_ hk_ => ⟨hk_.1.1.1.1, hk_.1.1.1.2, hk_.1.1.2⟩)); have n1_ := Aside0.mk (Kd.R_reok rfl hy0 (fun k_ e_ => HO_8.out.1 k_ e_)); have n2_ := Aside0.mk (Kd.R_mono (ok' := fun k_ => some k_ ≠ (v460 : Value).ownBlock ∧ some k_ ≠ (v470 : Value).ownBlock ∧ some k_ ≠ (.slice Ao45 t477.length co45 : Value).ownBlock) (Kd.R_keptB ((Kd.R_apart' HO_9.out (Kd.R_typed HO_8.out) (by decide))) hkp (fun k_ hk_ hs_ => (hk_.2) hs_)) (fun k_ hk_ => ⟨hk_.1.1.1.1, hk_.1.1.1.2, hk_.1.1.2⟩)); have n3_ := Aside0.mk (Kd.R_mono (ok' := fun k_ => some k_ ≠ (v460 : Value).ownBlock ∧ some k_ ≠ (.slice Ao23 t465.length co23 : Value).ownBlock ∧ some k_ ≠ (.slice Ao45 t477.length co45 : Value).ownBlock) (Kd.R_keptB ((Kd.R_apart' HO_10.out (Kd.R_typed HO_8.out) (by decide))) hkp (fun k_ hk_ hs_ => (hk_.2) hs_)) (fun k_ hk_ => ⟨hk_.1.1.1.1, hk_.1.1.1.2, hk_.1.1.2⟩)); have n4_ := Aside0.mk (Kd.R_mono (ok' := fun k_ => some k_ ≠ (.slice Ao22 t462.length co22 : Value).ownBlock) (Kd.R_keptB (HO475.out) hkp (fun k_ hk_ hs_ => (hk_.2) hs_)) (fun k_ hk_ => hk_.1.2)); have n5_ := Aside0.mk (Kd.R_mono (ok' := fun k_ => some k_ ≠ (v460 : Value).ownBlock ∧ some k_ ≠ (.slice Ao23 t465.length co23 : Value).ownBlock ∧ some k_ ≠ (v470 : Value).ownBlock) (Kd.R_keptB ((Kd.R_apart' HO479.out (Kd.R_typed HO_8.out) (by decide))) hkp (fun k_ hk_ hs_ => (hk_.2) hs_)) (fun k_ hk_ => ⟨hk_.1.1.1.1.2, hk_.1.1.1.2, hk_.1.1.2⟩)); have n6_ := Aside0.mk (hb); clear HO_6; clear HO_8; clear HO_9; clear HO_10; clear HO475; clear HO479; clear HB; have HO_6 := n0_; have HO_8 := n1_; have HO_9 := n2_; have HO_10 := n3_; have HO475 := n4_; have HO479 := n5_; have HB := n6_; clear n0_ n1_ n2_ n3_ n4_ n5_ n6_; (try clear hb); (try clear hkp); (try clear hy0)) | ((with_reducible refine gate_callee (f := 34) rfl ?_); refine goesL_ (some 67) rfl rfl Try.func34 (by kernel_rfl) rfl #[.slice Ao23 t465.length co23, .int .i64 t481] rfl ln_ ?_; (with_reducible refine (laws_markInt64S.calls kj12 (fun k_ => some k_ = (.slice Ao23 t465.length co23 : Value).ownBlock) (.slice Ao23 t465.length co23) t465 t481 t483 t484 w _ ?side1 ?side2 A39.out).mono ?_); (case side1 => repeat (first | (with_reducible first | exact HB.out | apply below_alloc | apply pw_below_drewN | apply below_drew1) | exact HB.out)); (case side2 => exact Kd.R_tight rfl HO_9.out); rintro e w47 ⟨rfl, hy0, hb, hkp⟩; refine ⟨_, rfl, ?_⟩; have n0_ := Aside0.mk (Kd.R_mono (ok' := fun k_ => some k_ ≠ (.slice Ao23 t465.length co23 : Value).ownBlock ∧ some k_ ≠ (v470 : Value).ownBlock ∧ some k_ ≠ (.slice Ao45 t477.length co45 : Value).ownBlock) (Kd.R_keptB (HO_6.out) hkp (fun k_ hk_ hs_ => (hk_.1) hs_)) (fun k_ hk_ => ⟨hk_.1.1, hk_.1.2.1, hk_.1.2.2⟩)); have n1_ := Aside0.mk (Kd.R_mono (ok' := fun k_ => some k_ ≠ (.slice Ao42 t473.length co42 : Value).ownBlock) (Kd.R_keptB ((Kd.R_apart' HO_8.out (Kd.R_typed HO_9.out) (by decide))) hkp (fun k_ hk_ hs_ => (hk_.2) hs_)) (fun k_ hk_ => hk_.1.1.2)); have n2_ := Aside0.mk (Kd.R_reok rfl hy0 (fun k_ e_ => HO_9.out.1 k_ e_)); have n3_ := Aside0.mk (Kd.R_mono (ok' := fun k_ => some k_ ≠ (v460 : Value).ownBlock ∧ some k_ ≠ (.slice Ao23 t465.length co23 : Value).ownBlock ∧ some k_ ≠ (.slice Ao45 t477.length co45 : Value).ownBlock) (Kd.R_keptB (HO_10.out) hkp (fun k_ hk_ hs_ => (hk_.2.1) hs_)) (fun k_ hk_ => ⟨hk_.1.1, hk_.1.2.1, hk_.1.2.2⟩)); have n4_ := Aside0.mk (Kd.R_mono (ok' := fun k_ => some k_ ≠ (.slice Ao22 t462.length co22 : Value).ownBlock) (Kd.R_keptB ((Kd.R_apart' HO475.out (Kd.R_typed HO_9.out) (by decide))) hkp (fun k_ hk_ hs_ => (hk_.2) hs_)) (fun k_ hk_ => hk_.1.1)); have n5_ := Aside0.mk (Kd.R_mono (ok' := fun k_ => some k_ ≠ (v460 : Value).ownBlock ∧ some k_ ≠ (.slice Ao23 t465.length co23 : Value).ownBlock ∧ some k_ ≠ (v470 : Value).ownBlock) (Kd.R_keptB (HO479.out) hkp (fun k_ hk_ hs_ => (hk_.2.1) hs_)) (fun k_ hk_ => ⟨hk_.1.1, hk_.1.2.1, hk_.1.2.2⟩)); have n6_ := Aside0.mk (hb); clear HO_6; clear HO_8; clear HO_9; clear HO_10; clear HO475; clear HO479; clear HB; have HO_6 := n0_; have HO_8 := n1_; have HO_9 := n2_; have HO_10 := n3_; have HO475 := n4_; have HO479 := n5_; have HB := n6_; clear n0_ n1_ n2_ n3_ n4_ n5_ n6_; (try clear hb); (try clear hkp); (try clear hy0)))
        (try simp only [Act.put, List.setIfInBounds_toArray, List.set_cons_zero, List.set_cons_succ])
        go_cut [80] (fun v80 wc => ∃ (kq : Nat) (x80_39 : Bool), v80 = .bool x80_39 ∧ Aside0 (laws_FnExactLateRenewals.j1 kq l0 l1 t458 t459 t468 x80_39 = some r) ∧ Aside0 (kq ≤ kj12) ∧ Aside0 (Kd.R (Kd.int .i64) 2 wc w.heap.size (fun k_ => some k_ ≠ (v470 : Value).ownBlock) v460 t458) ∧ Aside0 (Kd.R (Kd.int .i64) 2 wc w.heap.size (fun k_ => some k_ ≠ (v460 : Value).ownBlock) v470 t468) ∧ Aside0 (Below w.heap.size w wc))
        case first =>
         have H := HC40.out
         clear HC40
         by_cases c48 : t483 < 0
         ·rw [if_pos c48] at H
          have c48b0 : decide (t483 < 0) = true := decide_eq_true c48
          clear c48
          (first | rw [c48b0] | (simp only [i64_w, i32_w]; rw [c48b0]) | skip)
          have H' := Aside0.mk H
          clear H
          go_wp2
          go_meet
          case rel => exact ⟨_, (true), (by first | rfl | (simp; done) | (simp [*]; done)), H', ⟨by have := HJ12.out; first | omega | exact Nat.le_refl _⟩, ⟨by (with_reducible repeat (first | apply Kd.R_alloc | apply Kd.R_drewN | apply Kd.R_drew)); exact Kd.R_mono HO_6.out (fun _ hk => hk.2.1)⟩, ⟨by (with_reducible repeat (first | apply Kd.R_alloc | apply Kd.R_drewN | apply Kd.R_drew)); exact Kd.R_mono HO_10.out (fun _ hk => hk.1)⟩, ⟨hb_⟩⟩
         ·rw [if_neg c48] at H
          have c48b0 : decide (t483 < 0) = false := decide_eq_false c48
          clear c48
          (first | rw [c48b0] | (simp only [i64_w, i32_w]; rw [c48b0]) | skip)
          replace H := Option.bind_eq_some_iff.mp H
          obtain ⟨t485, A490, H⟩ := H
          replace H : (if t485 = true then (laws_FnExactLateRenewals.j1 kj12 l0 l1 t458 t459 t468 (t469 != t459)) else (laws_FnExactLateRenewals.j1 kj12 l0 l1 t458 t459 t468 true)) = some r := H
          have A49 := Aside0.mk A490
          clear A490
          by_cases c50 : t485 = true
          ·subst c50
           have H1 : (laws_FnExactLateRenewals.j1 kj12 l0 l1 t458 t459 t468 (t469 != t459)) = some r := by rw [if_pos rfl] at H; exact H
           clear H
           have H := H1
           clear H1
           have H' := Aside0.mk H
           clear H
           obtain ⟨Ao51, co51, eo51⟩ := Kd.R_slice HO_10.out
           subst eo51
           obtain ⟨Ao52, co52, eo52⟩ := Kd.R_slice HO_6.out
           subst eo52
           go_wp2_with (first | (go_at_call 30; (with_reducible refine (laws_eqInt64S.calls kj12 _ _ t468 _ _ t458 true _ ?side1 ?side2 ?side3 ?side4 A49.out).mono ?_); (case side1 => repeat (first | exact (Kd.R_reads' HO_10.out).2.2 | (with_reducible refine Kd.C_alloc ?_ _) | (with_reducible refine Kd.C_drewN ?_ _) | (with_reducible refine Kd.C_drew ?_))); (case side2 => exact (Kd.R_reads' HO_10.out).2.1); (case side3 => repeat (first | exact (Kd.R_reads' HO_6.out).2.2 | (with_reducible refine Kd.C_alloc ?_ _) | (with_reducible refine Kd.C_drewN ?_ _) | (with_reducible refine Kd.C_drew ?_))); (case side4 => exact (Kd.R_reads' HO_6.out).2.1); rintro e w' ⟨rfl, ⟨nd, rfl⟩⟩))
           go_meet
           case rel => exact ⟨_, ((t469 != t459)), (by first | rfl | (simp; done) | (simp [*]; done)), H', ⟨by have := HJ12.out; first | omega | exact Nat.le_refl _⟩, ⟨by (with_reducible repeat (first | apply Kd.R_alloc | apply Kd.R_drewN | apply Kd.R_drew)); exact Kd.R_mono HO_6.out (fun _ hk => hk.2.1)⟩, ⟨by (with_reducible repeat (first | apply Kd.R_alloc | apply Kd.R_drewN | apply Kd.R_drew)); exact Kd.R_mono HO_10.out (fun _ hk => hk.1)⟩, ⟨hb_⟩⟩
          ·replace c50 := Bool.eq_false_iff.mpr c50
           subst c50
           have H1 : (laws_FnExactLateRenewals.j1 kj12 l0 l1 t458 t459 t468 true) = some r := by rw [if_neg (show ¬ (false = true) by decide)] at H; exact H
           clear H
           have H := H1
           clear H1
           have H' := Aside0.mk H
           clear H
           obtain ⟨Ao53, co53, eo53⟩ := Kd.R_slice HO_10.out
           subst eo53
           obtain ⟨Ao54, co54, eo54⟩ := Kd.R_slice HO_6.out
           subst eo54
           go_wp2_with (first | (go_at_call 30; (with_reducible refine (laws_eqInt64S.calls kj12 _ _ t468 _ _ t458 false _ ?side1 ?side2 ?side3 ?side4 A49.out).mono ?_); (case side1 => repeat (first | exact (Kd.R_reads' HO_10.out).2.2 | (with_reducible refine Kd.C_alloc ?_ _) | (with_reducible refine Kd.C_drewN ?_ _) | (with_reducible refine Kd.C_drew ?_))); (case side2 => exact (Kd.R_reads' HO_10.out).2.1); (case side3 => repeat (first | exact (Kd.R_reads' HO_6.out).2.2 | (with_reducible refine Kd.C_alloc ?_ _) | (with_reducible refine Kd.C_drewN ?_ _) | (with_reducible refine Kd.C_drew ?_))); (case side4 => exact (Kd.R_reads' HO_6.out).2.1); rintro e w' ⟨rfl, ⟨nd, rfl⟩⟩))
           go_meet
           case rel => exact ⟨_, (true), (by first | rfl | (simp; done) | (simp [*]; done)), H', ⟨by have := HJ12.out; first | omega | exact Nat.le_refl _⟩, ⟨by (with_reducible repeat (first | apply Kd.R_alloc | apply Kd.R_drewN | apply Kd.R_drew)); exact Kd.R_mono HO_6.out (fun _ hk => hk.2.1)⟩, ⟨by (with_reducible repeat (first | apply Kd.R_alloc | apply Kd.R_drewN | apply Kd.R_drew)); exact Kd.R_mono HO_10.out (fun _ hk => hk.1)⟩, ⟨hb_⟩⟩
        case rest =>
         clear HC40
         try clear c1
         try clear c2
         try clear p2
         try clear c3
         try clear c3b0
         try clear c3b1
         try clear c4
         try clear c5
         try clear c5b0
         try clear c10
         try clear c20
         try clear c22
         try clear c24
         try clear c26
         try clear c28
         try clear c30
         try clear c31
         try clear c33
         try clear c34
         try clear c37
         try clear c40
         try clear c41
         try clear c48
         try clear c48b0
         try clear c50
         try clear p2
         obtain ⟨kq, x80_39, rfl, HA, HJ39, HO_6, HO_10, HB⟩ := hcut
         cases kq with
         | zero => exact absurd HA.out (by simp [laws_FnExactLateRenewals.j1])
         | succ kj39 =>
          have H := HA.out
          clear HA
          simp only [laws_FnExactLateRenewals.j1] at H
          by_cases c55 : x80_39 = true
          ·subst c55
           have H1 : (some false) = some r := by rw [if_pos rfl] at H; exact H
           clear H
           have H := H1
           clear H1
           obtain rfl := Option.some.inj H
           go_wp2
           go_ret
           exact ⟨ew_, hb_⟩
          ·replace c55 := Bool.eq_false_iff.mpr c55
           subst c55
           have H1 : ((laws_markInt64S.f kj39 t468 1).bind fun bt486 => ((laws_heldInt64S.f kj39 bt486.2 1).bind fun t488 => (if t488 < 0 then (some false) else (if t488 = bt486.1 then ((laws_toRenewalS.f kj39 l0).bind fun t489 => ((laws_toInt64S.f kj39 l1).bind fun t492 => ((impl_LateRenewals.f kj39 t489 t492).bind fun bt495 => ((laws_eqInt64S.f kj39 bt495.1 t458).bind fun t499 => (if t499 = true then (laws_FnExactLateRenewals.j2 kj39 bt486.2 bt486.1 (bt495.2 != t459)) else (laws_FnExactLateRenewals.j2 kj39 bt486.2 bt486.1 true)))))) else (some false))))) = some r := by rw [if_neg (show ¬ (false = true) by decide)] at H; exact H
           clear H
           have H := H1
           clear H1
           replace H := Option.bind_eq_some_iff.mp H
           obtain ⟨⟨t486, t487⟩, A560, H⟩ := H
           replace H : ((laws_heldInt64S.f kj39 t487 1).bind fun t488 => (if t488 < 0 then (some false) else (if t488 = t486 then ((laws_toRenewalS.f kj39 l0).bind fun t489 => ((laws_toInt64S.f kj39 l1).bind fun t492 => ((impl_LateRenewals.f kj39 t489 t492).bind fun bt495 => ((laws_eqInt64S.f kj39 bt495.1 t458).bind fun t499 => (if t499 = true then (laws_FnExactLateRenewals.j2 kj39 t487 t486 (bt495.2 != t459)) else (laws_FnExactLateRenewals.j2 kj39 t487 t486 true)))))) else (some false)))) = some r := H
           have A56 := Aside0.mk A560
           clear A560
           replace H := Option.bind_eq_some_iff.mp H
           obtain ⟨t488, A570, H⟩ := H
           replace H : (if t488 < 0 then (some false) else (if t488 = t486 then ((laws_toRenewalS.f kj39 l0).bind fun t489 => ((laws_toInt64S.f kj39 l1).bind fun t492 => ((impl_LateRenewals.f kj39 t489 t492).bind fun bt495 => ((laws_eqInt64S.f kj39 bt495.1 t458).bind fun t499 => (if t499 = true then (laws_FnExactLateRenewals.j2 kj39 t487 t486 (bt495.2 != t459)) else (laws_FnExactLateRenewals.j2 kj39 t487 t486 true)))))) else (some false))) = some r := H
           have A57 := Aside0.mk A570
           clear A570
           by_cases c58 : t488 < 0
           ·rw [if_pos c58] at H
            have c58b0 : decide (t488 < 0) = true := decide_eq_true c58
            clear c58
            obtain rfl := Option.some.inj H
            obtain ⟨Ao59, co59, eo59⟩ := Kd.R_slice HO_10.out
            subst eo59
            go_wp2_with (first | ((with_reducible refine gate_callee (f := 34) rfl ?_); refine goesL_ (some 83) rfl rfl Try.func34 (by kernel_rfl) rfl #[.slice Ao59 t468.length co59, .int .i64 1] rfl ln_ ?_; (with_reducible refine (laws_markInt64S.calls kj39 (fun k_ => some k_ = (.slice Ao59 t468.length co59 : Value).ownBlock) (.slice Ao59 t468.length co59) t468 1 t486 t487 w _ ?side1 ?side2 A56.out).mono ?_); (case side1 => repeat (first | (with_reducible first | exact HB.out | apply below_alloc | apply pw_below_drewN | apply below_drew1) | exact HB.out)); (case side2 => exact Kd.R_tight rfl HO_10.out); rintro e w60 ⟨rfl, hy0, hb, hkp⟩; refine ⟨_, rfl, ?_⟩; have n0_ := Aside0.mk (Kd.R_mono (ok' := fun k_ => some k_ ≠ (.slice Ao59 t468.length co59 : Value).ownBlock) (Kd.R_keptB (HO_6.out) hkp (fun k_ hk_ hs_ => (hk_) hs_)) (fun k_ hk_ => hk_.1)); have n1_ := Aside0.mk (Kd.R_reok rfl hy0 (fun k_ e_ => HO_10.out.1 k_ e_)); have n2_ := Aside0.mk (hb); clear HO_6; clear HO_10; clear HB; have HO_6 := n0_; have HO_10 := n1_; have HB := n2_; clear n0_ n1_ n2_; (try clear hb); (try clear hkp); (try clear hy0)) | ((with_reducible refine gate_callee (f := 35) rfl ?_); refine goesL_ (some 86) rfl rfl Try.func35 (by kernel_rfl) rfl #[.slice Ao59 t487.length co59, .int .i64 1] rfl (by (try simp only [List.map_toArray, List.map_cons, List.map_nil]); first | done | (rw [show t487.length = t468.length from (Kd.R_reads' HO_10.out).1.symm] <;> rfl) | rfl | (simp only [List.length_drop, List.length_take]; rfl)) ?_; (with_reducible refine (laws_heldInt64S.calls kj39 _ _ t487 1 t488 _ ?side1 ?side2 A57.out).mono ?_); (case side1 => repeat (first | exact (Kd.R_reads' HO_10.out).2.2 | (with_reducible refine Kd.C_alloc ?_ _) | (with_reducible refine Kd.C_drewN ?_ _) | (with_reducible refine Kd.C_drew ?_))); (case side2 => rw [show t487.length = t468.length from (Kd.R_reads' HO_10.out).1.symm]; exact (Kd.R_reads' HO_10.out).2.1); rintro e w' ⟨rfl, ⟨nd, rfl⟩⟩; refine ⟨_, rfl, ?_⟩))
            go_ret
            exact ⟨ew_, hb_⟩
           ·rw [if_neg c58] at H
            have c58b0 : decide (t488 < 0) = false := decide_eq_false c58
            clear c58
            by_cases c61 : t488 = t486
            ·rw [if_pos c61] at H
             have c61b0 : (t488 == t486) = true := beq_iff_eq.mpr c61
             have c61b1 : (t488 != t486) = false := bne_eq_false_iff_eq.mpr c61
             clear c61
             replace H := Option.bind_eq_some_iff.mp H
             obtain ⟨t489, A620, H⟩ := H
             replace H : ((laws_toInt64S.f kj39 l1).bind fun t492 => ((impl_LateRenewals.f kj39 t489 t492).bind fun bt495 => ((laws_eqInt64S.f kj39 bt495.1 t458).bind fun t499 => (if t499 = true then (laws_FnExactLateRenewals.j2 kj39 t487 t486 (bt495.2 != t459)) else (laws_FnExactLateRenewals.j2 kj39 t487 t486 true))))) = some r := H
             have A62 := Aside0.mk A620
             clear A620
             replace H := Option.bind_eq_some_iff.mp H
             obtain ⟨t492, A630, H⟩ := H
             replace H : ((impl_LateRenewals.f kj39 t489 t492).bind fun bt495 => ((laws_eqInt64S.f kj39 bt495.1 t458).bind fun t499 => (if t499 = true then (laws_FnExactLateRenewals.j2 kj39 t487 t486 (bt495.2 != t459)) else (laws_FnExactLateRenewals.j2 kj39 t487 t486 true)))) = some r := H
             have A63 := Aside0.mk A630
             clear A630
             replace H := Option.bind_eq_some_iff.mp H
             obtain ⟨⟨t495, t496⟩, A640, H⟩ := H
             replace H : ((laws_eqInt64S.f kj39 t495 t458).bind fun t499 => (if t499 = true then (laws_FnExactLateRenewals.j2 kj39 t487 t486 (t496 != t459)) else (laws_FnExactLateRenewals.j2 kj39 t487 t486 true))) = some r := H
             have A64 := Aside0.mk A640
             clear A640
             have HC65 := Aside0.mk H
             clear H
             obtain ⟨Ao66, co66, eo66⟩ := Kd.R_slice HO_10.out
             subst eo66
             go_upto_region 31 with (first | ((with_reducible refine gate_callee (f := 34) rfl ?_); refine goesL_ (some 83) rfl rfl Try.func34 (by kernel_rfl) rfl #[.slice Ao66 t468.length co66, .int .i64 1] rfl ln_ ?_; (with_reducible refine (laws_markInt64S.calls kj39 (fun k_ => some k_ = (.slice Ao66 t468.length co66 : Value).ownBlock) (.slice Ao66 t468.length co66) t468 1 t486 t487 w _ ?side1 ?side2 A56.out).mono ?_); (case side1 => repeat (first | (with_reducible first | exact HB.out | apply below_alloc | apply pw_below_drewN | apply below_drew1) | exact HB.out)); (case side2 => exact Kd.R_tight rfl HO_10.out); rintro e w67 ⟨rfl, hy0, hb, hkp⟩; refine ⟨_, rfl, ?_⟩; have n0_ := Aside0.mk (Kd.R_mono (ok' := fun k_ => some k_ ≠ (.slice Ao66 t468.length co66 : Value).ownBlock) (Kd.R_keptB (HO_6.out) hkp (fun k_ hk_ hs_ => (hk_) hs_)) (fun k_ hk_ => hk_.1)); have n1_ := Aside0.mk (Kd.R_reok rfl hy0 (fun k_ e_ => HO_10.out.1 k_ e_)); have n2_ := Aside0.mk (hb); clear HO_6; clear HO_10; clear HB; have HO_6 := n0_; have HO_10 := n1_; have HB := n2_; clear n0_ n1_ n2_; (try clear hb); (try clear hkp); (try clear hy0)) | ((with_reducible refine gate_callee (f := 35) rfl ?_); refine goesL_ (some 86) rfl rfl Try.func35 (by kernel_rfl) rfl #[.slice Ao66 t487.length co66, .int .i64 1] rfl (by (try simp only [List.map_toArray, List.map_cons, List.map_nil]); first | done | (rw [show t487.length = t468.length from (Kd.R_reads' HO_10.out).1.symm] <;> rfl) | rfl | (simp only [List.length_drop, List.length_take]; rfl)) ?_; (with_reducible refine (laws_heldInt64S.calls kj39 _ _ t487 1 t488 _ ?side1 ?side2 A57.out).mono ?_); (case side1 => repeat (first | exact (Kd.R_reads' HO_10.out).2.2 | (with_reducible refine Kd.C_alloc ?_ _) | (with_reducible refine Kd.C_drewN ?_ _) | (with_reducible refine Kd.C_drew ?_))); (case side2 => rw [show t487.length = t468.length from (Kd.R_reads' HO_10.out).1.symm]; exact (Kd.R_reads' HO_10.out).2.1); rintro e w' ⟨rfl, ⟨nd, rfl⟩⟩; refine ⟨_, rfl, ?_⟩) | ((with_reducible refine gate_callee (f := 22) rfl ?_); refine goesL_ (some 94) rfl rfl Try.func22 (by kernel_rfl) rfl #[.slice A0 l0.length c0] rfl ln_ ?_; (with_reducible refine (laws_toRenewalS.calls kj39 _ _ l0 t489 _ ?side1 ?side2 A62.out).mono ?_); (case side1 => exact kc_ (Kd.C_below HR0.out hb_)); (case side2 => exact HC0.out); rintro e w68 ⟨v490, rfl, ho0, hb⟩; refine ⟨_, rfl, ?_⟩; have n0_ := Aside0.mk (Kd.R_below (kr_ HO_6) hb); have n1_ := Aside0.mk (Kd.R_below (kr_ HO_10) hb); have n2_ := Aside0.mk (Kd.R_lower ho0 (below_size hb_)); have n3_ := Aside0.mk (below_step hb_ hb); clear HO_6; clear HO_10; clear HB; have HO_6 := n0_; have HO_10 := n1_; have HO491 := n2_; have HB := n3_; clear n0_ n1_ n2_ n3_; (try clear hb); (try clear hb2); (try clear hk); (try clear hi); (try clear ho0)) | ((with_reducible refine gate_callee (f := 28) rfl ?_); refine goesL_ (some 96) rfl rfl Try.func28 (by kernel_rfl) rfl #[.slice A1 l1.length c1] rfl ln_ ?_; (with_reducible refine (laws_toInt64S.calls kj39 _ _ l1 t492 _ ?side1 ?side2 A63.out).mono ?_); (case side1 => exact kc_ (Kd.C_below HR1.out HB.out)); (case side2 => exact HC1.out); rintro e w69 ⟨v493, rfl, ho0, hb⟩; refine ⟨_, rfl, ?_⟩; have n0_ := Aside0.mk (Kd.R_elder' (kr_ HO_6) (Kd.R_base ho0) hb); have n1_ := Aside0.mk (Kd.R_elder' (kr_ HO_10) (Kd.R_base ho0) hb); have n2_ := Aside0.mk (Kd.R_below (kr_ HO491) hb); have n3_ := Aside0.mk (Kd.R_lower (Kd.R_new' (Kd.R_new' ho0 (Kd.R_lt (kr_ HO_6))) (Kd.R_lt (kr_ HO_10))) (below_size hb_)); have n4_ := Aside0.mk (below_step hb_ hb); clear HO_6; clear HO_10; clear HO491; clear HB; have HO_6 := n0_; have HO_10 := n1_; have HO491 := n2_; have HO494 := n3_; have HB := n4_; clear n0_ n1_ n2_ n3_ n4_; (try clear hb); (try clear hb2); (try clear hk); (try clear hi); (try clear ho0); obtain ⟨Ao70, co70, eo70⟩ := Kd.R_slice HO491.out; subst eo70; obtain ⟨Ao71, co71, eo71⟩ := Kd.R_slice HO494.out; subst eo71) | ((with_reducible refine gate_callee (f := 41) rfl ?_); refine goesL_ (some 97) rfl rfl Try.func41 (by kernel_rfl) rfl #[.slice Ao70 t489.length co70, .slice Ao71 t492.length co71] rfl ln_ ?_; (with_reducible refine (impl_LateRenewals.calls kj39 _ _ t489 _ _ t492 t495 t496 _ ?side1 ?side2 ?side3 ?side4 A64.out).mono ?_); (case side1 => repeat (first | exact (Kd.R_reads' HO491.out).2.2 | (with_reducible refine Kd.C_alloc ?_ _) | (with_reducible refine Kd.C_drewN ?_ _) | (with_reducible refine Kd.C_drew ?_))); (case side2 => exact (Kd.R_reads' HO491.out).2.1); (case side3 => repeat (first | exact (Kd.R_reads' HO494.out).2.2 | (with_reducible refine Kd.C_alloc ?_ _) | (with_reducible refine Kd.C_drewN ?_ _) | (with_reducible refine Kd.C_drew ?_))); (case side4 => exact (Kd.R_reads' HO494.out).2.1); rintro e w72 ⟨v497, rfl, ho0, hb⟩; refine ⟨_, rfl, ?_⟩; have n0_ := Aside0.mk (Kd.R_elder' (kr_ HO_6) (Kd.R_base ho0) hb); have n1_ := Aside0.mk (Kd.R_elder' (kr_ HO_10) (Kd.R_base ho0) hb); have n2_ := Aside0.mk (Kd.R_below (kr_ HO491) hb); have n3_ := Aside0.mk (Kd.R_elder' (kr_ HO494) (Kd.R_base ho0) hb); have n4_ := Aside0.mk (Kd.R_lower (Kd.R_new' (Kd.R_new' (Kd.R_new' ho0 (Kd.R_lt (kr_ HO_6))) (Kd.R_lt (kr_ HO_10))) (Kd.R_lt (kr_ HO494))) (below_size hb_)); have n5_ := Aside0.mk (below_step hb_ hb); clear HO_6; clear HO_10; clear HO491; clear HO494; clear HB; have HO_6 := n0_; have HO_10 := n1_; have HO491 := n2_; have HO494 := n3_; have HO498 := n4_; have HB := n5_; clear n0_ n1_ n2_ n3_ n4_ n5_; (try clear hb); (try clear hb2); (try clear hk); (try clear hi); (try clear ho0)))
             (try simp only [Act.put, List.setIfInBounds_toArray, List.set_cons_zero, List.set_cons_succ])
             go_cut [108] (fun v108 wc => ∃ (kq : Nat) (x108_64 : Bool), v108 = .bool x108_64 ∧ Aside0 (laws_FnExactLateRenewals.j2 kq t487 t486 x108_64 = some r) ∧ Aside0 (kq ≤ kj39) ∧ Aside0 (Kd.R (Kd.int .i64) 2 wc w.heap.size (fun _ => True) (.slice Ao66 t468.length co66) t487) ∧ Aside0 (Below w.heap.size w wc))
             case first =>
              have H := HC65.out
              clear HC65
              replace H := Option.bind_eq_some_iff.mp H
              obtain ⟨t499, A730, H⟩ := H
              replace H : (if t499 = true then (laws_FnExactLateRenewals.j2 kj39 t487 t486 (t496 != t459)) else (laws_FnExactLateRenewals.j2 kj39 t487 t486 true)) = some r := H
              have A73 := Aside0.mk A730
              clear A730
              by_cases c74 : t499 = true
              ·subst c74
               have H1 : (laws_FnExactLateRenewals.j2 kj39 t487 t486 (t496 != t459)) = some r := by rw [if_pos rfl] at H; exact H
               clear H
               have H := H1
               clear H1
               have H' := Aside0.mk H
               clear H
               obtain ⟨Ao75, co75, eo75⟩ := Kd.R_slice HO498.out
               subst eo75
               obtain ⟨Ao76, co76, eo76⟩ := Kd.R_slice HO_6.out
               subst eo76
               go_wp2_with (first | ((with_reducible refine gate_callee (f := 30) rfl ?_); refine goesL_ (some 102) rfl rfl Try.func30 (by kernel_rfl) rfl #[.slice Ao75 t495.length co75, .slice Ao76 t458.length co76] rfl ln_ ?_; (with_reducible refine (laws_eqInt64S.calls kj39 _ _ t495 _ _ t458 true _ ?side1 ?side2 ?side3 ?side4 A73.out).mono ?_); (case side1 => repeat (first | exact (Kd.R_reads' HO498.out).2.2 | (with_reducible refine Kd.C_alloc ?_ _) | (with_reducible refine Kd.C_drewN ?_ _) | (with_reducible refine Kd.C_drew ?_))); (case side2 => exact (Kd.R_reads' HO498.out).2.1); (case side3 => repeat (first | exact (Kd.R_reads' HO_6.out).2.2 | (with_reducible refine Kd.C_alloc ?_ _) | (with_reducible refine Kd.C_drewN ?_ _) | (with_reducible refine Kd.C_drew ?_))); (case side4 => exact (Kd.R_reads' HO_6.out).2.1); rintro e w' ⟨rfl, ⟨nd, rfl⟩⟩; refine ⟨_, rfl, ?_⟩))
               go_meet
               case rel => exact ⟨_, ((t496 != t459)), (by first | rfl | (simp; done) | (simp [*]; done)), H', ⟨by have := HJ12.out; have := HJ39.out; first | omega | exact Nat.le_refl _⟩, ⟨by (with_reducible repeat (first | apply Kd.R_alloc | apply Kd.R_drewN | apply Kd.R_drew)); exact Kd.R_mono HO_10.out (fun _ hk => trivial)⟩, ⟨hb_⟩⟩
              ·replace c74 := Bool.eq_false_iff.mpr c74
               subst c74
               have H1 : (laws_FnExactLateRenewals.j2 kj39 t487 t486 true) = some r := by rw [if_neg (show ¬ (false = true) by decide)] at H; exact H
               clear H
               have H := H1
               clear H1
               have H' := Aside0.mk H
               clear H
               obtain ⟨Ao77, co77, eo77⟩ := Kd.R_slice HO498.out
               subst eo77
               obtain ⟨Ao78, co78, eo78⟩ := Kd.R_slice HO_6.out
               subst eo78
               go_wp2_with (first | ((with_reducible refine gate_callee (f := 30) rfl ?_); refine goesL_ (some 102) rfl rfl Try.func30 (by kernel_rfl) rfl #[.slice Ao77 t495.length co77, .slice Ao78 t458.length co78] rfl ln_ ?_; (with_reducible refine (laws_eqInt64S.calls kj39 _ _ t495 _ _ t458 false _ ?side1 ?side2 ?side3 ?side4 A73.out).mono ?_); (case side1 => repeat (first | exact (Kd.R_reads' HO498.out).2.2 | (with_reducible refine Kd.C_alloc ?_ _) | (with_reducible refine Kd.C_drewN ?_ _) | (with_reducible refine Kd.C_drew ?_))); (case side2 => exact (Kd.R_reads' HO498.out).2.1); (case side3 => repeat (first | exact (Kd.R_reads' HO_6.out).2.2 | (with_reducible refine Kd.C_alloc ?_ _) | (with_reducible refine Kd.C_drewN ?_ _) | (with_reducible refine Kd.C_drew ?_))); (case side4 => exact (Kd.R_reads' HO_6.out).2.1); rintro e w' ⟨rfl, ⟨nd, rfl⟩⟩; refine ⟨_, rfl, ?_⟩))
               go_meet
               case rel => exact ⟨_, (true), (by first | rfl | (simp; done) | (simp [*]; done)), H', ⟨by have := HJ12.out; have := HJ39.out; first | omega | exact Nat.le_refl _⟩, ⟨by (with_reducible repeat (first | apply Kd.R_alloc | apply Kd.R_drewN | apply Kd.R_drew)); exact Kd.R_mono HO_10.out (fun _ hk => trivial)⟩, ⟨hb_⟩⟩
             case rest =>
              clear HC65
              try clear c1
              try clear c2
              try clear p2
              try clear c3
              try clear c3b0
              try clear c3b1
              try clear c4
              try clear c5
              try clear c5b0
              try clear c6
              try clear c7
              try clear c10
              try clear c20
              try clear c22
              try clear c24
              try clear c26
              try clear c28
              try clear c30
              try clear c31
              try clear c33
              try clear c34
              try clear c35
              try clear c37
              try clear c40
              try clear c41
              try clear c48
              try clear c48b0
              try clear c50
              try clear c55
              try clear c58
              try clear c58b0
              try clear c61
              try clear c61b0
              try clear c61b1
              try clear c74
              try clear p2
              obtain ⟨kq, x108_64, rfl, HA, HJ64, HO_10, HB⟩ := hcut
              have hl10_64 := (Kd.R_reads' HO_10.out).1
              rw [hl10_64] at HO_10
              (try simp only [hl10_64])
              cases kq with
              | zero => exact absurd HA.out (by simp [laws_FnExactLateRenewals.j2])
              | succ kj64 =>
               have H := HA.out
               clear HA
               simp only [laws_FnExactLateRenewals.j2] at H
               by_cases c79 : x108_64 = true
               ·subst c79
                have H1 : (some false) = some r := by rw [if_pos rfl] at H; exact H
                clear H
                have H := H1
                clear H1
                obtain rfl := Option.some.inj H
                go_wp2
                go_ret
                exact ⟨ew_, hb_⟩
               ·replace c79 := Bool.eq_false_iff.mpr c79
                subst c79
                have H1 : ((laws_heldInt64S.f kj64 t487 1).bind fun t500 => (if t500 < 0 then (some false) else (if t500 = t486 then (some true) else (some false)))) = some r := by rw [if_neg (show ¬ (false = true) by decide)] at H; exact H
                clear H
                have H := H1
                clear H1
                replace H := Option.bind_eq_some_iff.mp H
                obtain ⟨t500, A800, H⟩ := H
                replace H : (if t500 < 0 then (some false) else (if t500 = t486 then (some true) else (some false))) = some r := H
                have A80 := Aside0.mk A800
                clear A800
                by_cases c81 : t500 < 0
                ·rw [if_pos c81] at H
                 have c81b0 : decide (t500 < 0) = true := decide_eq_true c81
                 clear c81
                 obtain rfl := Option.some.inj H
                 go_wp2_with (first | ((with_reducible refine gate_callee (f := 35) rfl ?_); refine goesL_ (some 111) rfl rfl Try.func35 (by kernel_rfl) rfl #[.slice Ao66 t487.length co66, .int .i64 1] rfl ln_ ?_; (with_reducible refine (laws_heldInt64S.calls kj64 _ _ t487 1 t500 _ ?side1 ?side2 A80.out).mono ?_); (case side1 => repeat (first | exact (Kd.R_reads' HO_10.out).2.2 | (with_reducible refine Kd.C_alloc ?_ _) | (with_reducible refine Kd.C_drewN ?_ _) | (with_reducible refine Kd.C_drew ?_))); (case side2 => exact (Kd.R_reads' HO_10.out).2.1); rintro e w' ⟨rfl, ⟨nd, rfl⟩⟩; refine ⟨_, rfl, ?_⟩))
                 go_ret
                 exact ⟨ew_, hb_⟩
                ·rw [if_neg c81] at H
                 have c81b0 : decide (t500 < 0) = false := decide_eq_false c81
                 clear c81
                 by_cases c82 : t500 = t486
                 ·rw [if_pos c82] at H
                  have c82b0 : (t500 == t486) = true := beq_iff_eq.mpr c82
                  have c82b1 : (t500 != t486) = false := bne_eq_false_iff_eq.mpr c82
                  clear c82
                  obtain rfl := Option.some.inj H
                  go_wp2_with (first | ((with_reducible refine gate_callee (f := 35) rfl ?_); refine goesL_ (some 111) rfl rfl Try.func35 (by kernel_rfl) rfl #[.slice Ao66 t487.length co66, .int .i64 1] rfl ln_ ?_; (with_reducible refine (laws_heldInt64S.calls kj64 _ _ t487 1 t500 _ ?side1 ?side2 A80.out).mono ?_); (case side1 => repeat (first | exact (Kd.R_reads' HO_10.out).2.2 | (with_reducible refine Kd.C_alloc ?_ _) | (with_reducible refine Kd.C_drewN ?_ _) | (with_reducible refine Kd.C_drew ?_))); (case side2 => exact (Kd.R_reads' HO_10.out).2.1); rintro e w' ⟨rfl, ⟨nd, rfl⟩⟩; refine ⟨_, rfl, ?_⟩))
                  go_ret
                  exact ⟨ew_, hb_⟩
                 ·rw [if_neg c82] at H
                  have c82b0 : (t500 == t486) = false := beq_eq_false_iff_ne.mpr c82
                  have c82b1 : (t500 != t486) = true := bne_iff_ne.mpr c82
                  obtain rfl := Option.some.inj H
                  go_wp2_with (first | ((with_reducible refine gate_callee (f := 35) rfl ?_); refine goesL_ (some 111) rfl rfl Try.func35 (by kernel_rfl) rfl #[.slice Ao66 t487.length co66, .int .i64 1] rfl ln_ ?_; (with_reducible refine (laws_heldInt64S.calls kj64 _ _ t487 1 t500 _ ?side1 ?side2 A80.out).mono ?_); (case side1 => repeat (first | exact (Kd.R_reads' HO_10.out).2.2 | (with_reducible refine Kd.C_alloc ?_ _) | (with_reducible refine Kd.C_drewN ?_ _) | (with_reducible refine Kd.C_drew ?_))); (case side2 => exact (Kd.R_reads' HO_10.out).2.1); rintro e w' ⟨rfl, ⟨nd, rfl⟩⟩; refine ⟨_, rfl, ?_⟩))
                  go_ret
                  exact ⟨ew_, hb_⟩
            ·rw [if_neg c61] at H
             have c61b0 : (t488 == t486) = false := beq_eq_false_iff_ne.mpr c61
             have c61b1 : (t488 != t486) = true := bne_iff_ne.mpr c61
             obtain rfl := Option.some.inj H
             obtain ⟨Ao83, co83, eo83⟩ := Kd.R_slice HO_10.out
             subst eo83
             go_wp2_with (first | ((with_reducible refine gate_callee (f := 34) rfl ?_); refine goesL_ (some 83) rfl rfl Try.func34 (by kernel_rfl) rfl #[.slice Ao83 t468.length co83, .int .i64 1] rfl ln_ ?_; (with_reducible refine (laws_markInt64S.calls kj39 (fun k_ => some k_ = (.slice Ao83 t468.length co83 : Value).ownBlock) (.slice Ao83 t468.length co83) t468 1 t486 t487 w _ ?side1 ?side2 A56.out).mono ?_); (case side1 => repeat (first | (with_reducible first | exact HB.out | apply below_alloc | apply pw_below_drewN | apply below_drew1) | exact HB.out)); (case side2 => exact Kd.R_tight rfl HO_10.out); rintro e w84 ⟨rfl, hy0, hb, hkp⟩; refine ⟨_, rfl, ?_⟩; have n0_ := Aside0.mk (Kd.R_mono (ok' := fun k_ => some k_ ≠ (.slice Ao83 t468.length co83 : Value).ownBlock) (Kd.R_keptB (HO_6.out) hkp (fun k_ hk_ hs_ => (hk_) hs_)) (fun k_ hk_ => hk_.1)); have n1_ := Aside0.mk (Kd.R_reok rfl hy0 (fun k_ e_ => HO_10.out.1 k_ e_)); have n2_ := Aside0.mk (hb); clear HO_6; clear HO_10; clear HB; have HO_6 := n0_; have HO_10 := n1_; have HB := n2_; clear n0_ n1_ n2_; (try clear hb); (try clear hkp); (try clear hy0)) | ((with_reducible refine gate_callee (f := 35) rfl ?_); refine goesL_ (some 86) rfl rfl Try.func35 (by kernel_rfl) rfl #[.slice Ao83 t487.length co83, .int .i64 1] rfl (by (try simp only [List.map_toArray, List.map_cons, List.map_nil]); first | done | (rw [show t487.length = t468.length from (Kd.R_reads' HO_10.out).1.symm] <;> rfl) | rfl | (simp only [List.length_drop, List.length_take]; rfl)) ?_; (with_reducible refine (laws_heldInt64S.calls kj39 _ _ t487 1 t488 _ ?side1 ?side2 A57.out).mono ?_); (case side1 => repeat (first | exact (Kd.R_reads' HO_10.out).2.2 | (with_reducible refine Kd.C_alloc ?_ _) | (with_reducible refine Kd.C_drewN ?_ _) | (with_reducible refine Kd.C_drew ?_))); (case side2 => rw [show t487.length = t468.length from (Kd.R_reads' HO_10.out).1.symm]; exact (Kd.R_reads' HO_10.out).2.1); rintro e w' ⟨rfl, ⟨nd, rfl⟩⟩; refine ⟨_, rfl, ?_⟩))
             go_ret
             exact ⟨ew_, hb_⟩
       ·replace c37 := Bool.eq_false_iff.mpr c37
        subst c37
        have H1 : (some false) = some r := by rw [if_neg (show ¬ (false = true) by decide)] at H; exact H
        clear H
        have H := H1
        clear H1
        obtain rfl := Option.some.inj H
        go_wp2_with (first | ((with_reducible refine gate_callee (f := 22) rfl ?_); refine goesL_ (some 54) rfl rfl Try.func22 (by kernel_rfl) rfl #[.slice A0 l0.length c0] rfl ln_ ?_; (with_reducible refine (laws_toRenewalS.calls kj12 _ _ l0 t473 _ ?side1 ?side2 A32.out).mono ?_); (case side1 => exact kc_ (Kd.C_below HR0.out HB.out)); (case side2 => exact HC0.out); rintro e w85 ⟨v474, rfl, ho0, hb⟩; refine ⟨_, rfl, ?_⟩; have n0_ := Aside0.mk (Kd.R_below (kr_ HO_6) hb); have n1_ := Aside0.mk (Kd.R_elder' (kr_ HO_8) (Kd.R_base ho0) hb); have n2_ := Aside0.mk (Kd.R_below (kr_ HO_9) hb); have n3_ := Aside0.mk (Kd.R_below (kr_ HO_10) hb); have n4_ := Aside0.mk (Kd.R_lower (Kd.R_new' ho0 (Kd.R_lt (kr_ HO_8))) (below_size hb_)); have n5_ := Aside0.mk (below_step hb_ hb); clear HO_6; clear HO_8; clear HO_9; clear HO_10; clear HB; have HO_6 := n0_; have HO_8 := n1_; have HO_9 := n2_; have HO_10 := n3_; have HO475 := n4_; have HB := n5_; clear n0_ n1_ n2_ n3_ n4_ n5_; (try clear hb); (try clear hb2); (try clear hk); (try clear hi); (try clear ho0); obtain ⟨Ao86, co86, eo86⟩ := Kd.R_slice HO475.out; subst eo86) | ((with_reducible refine gate_callee (f := 24) rfl ?_); refine goesL_ (some 55) rfl rfl Try.func24 (by kernel_rfl) rfl #[.slice Ao22 t462.length co22, .slice Ao86 t473.length co86] rfl ln_ ?_; (with_reducible refine (laws_eqRenewalS.calls kj12 _ _ t462 _ _ t473 true _ ?side1 ?side2 ?side3 ?side4 A33.out).mono ?_); (case side1 => repeat (first | exact (Kd.R_reads' HO_8.out).2.2 | (with_reducible refine Kd.C_alloc ?_ _) | (with_reducible refine Kd.C_drewN ?_ _) | (with_reducible refine Kd.C_drew ?_))); (case side2 => exact (Kd.R_reads' HO_8.out).2.1); (case side3 => repeat (first | exact (Kd.R_reads' HO475.out).2.2 | (with_reducible refine Kd.C_alloc ?_ _) | (with_reducible refine Kd.C_drewN ?_ _) | (with_reducible refine Kd.C_drew ?_))); (case side4 => exact (Kd.R_reads' HO475.out).2.1); rintro e w87 ⟨rfl, hb⟩; refine ⟨_, rfl, ?_⟩; have n0_ := Aside0.mk (Kd.R_below (kr_ HO_6) hb); have n1_ := Aside0.mk (Kd.R_below (kr_ HO_8) hb); have n2_ := Aside0.mk (Kd.R_below (kr_ HO_9) hb); have n3_ := Aside0.mk (Kd.R_below (kr_ HO_10) hb); have n4_ := Aside0.mk (Kd.R_below (kr_ HO475) hb); have n5_ := Aside0.mk (below_step hb_ hb); clear HO_6; clear HO_8; clear HO_9; clear HO_10; clear HO475; clear HB; have HO_6 := n0_; have HO_8 := n1_; have HO_9 := n2_; have HO_10 := n3_; have HO475 := n4_; have HB := n5_; clear n0_ n1_ n2_ n3_ n4_ n5_; (try clear hb); (try clear hb2); (try clear hk); (try clear hi)) | ((with_reducible refine gate_callee (f := 28) rfl ?_); refine goesL_ (some 59) rfl rfl Try.func28 (by kernel_rfl) rfl #[.slice A1 l1.length c1] rfl ln_ ?_; (with_reducible refine (laws_toInt64S.calls kj12 _ _ l1 t477 _ ?side1 ?side2 A35.out).mono ?_); (case side1 => exact kc_ (Kd.C_below HR1.out HB.out)); (case side2 => exact HC1.out); rintro e w88 ⟨v478, rfl, ho0, hb⟩; refine ⟨_, rfl, ?_⟩; have n0_ := Aside0.mk (Kd.R_elder' (kr_ HO_6) (Kd.R_base ho0) hb); have n1_ := Aside0.mk (Kd.R_below (kr_ HO_8) hb); have n2_ := Aside0.mk (Kd.R_elder' (kr_ HO_9) (Kd.R_base ho0) hb); have n3_ := Aside0.mk (Kd.R_elder' (kr_ HO_10) (Kd.R_base ho0) hb); have n4_ := Aside0.mk (Kd.R_below (kr_ HO475) hb); have n5_ := Aside0.mk (Kd.R_lower (Kd.R_new' (Kd.R_new' (Kd.R_new' ho0 (Kd.R_lt (kr_ HO_6))) (Kd.R_lt (kr_ HO_9))) (Kd.R_lt (kr_ HO_10))) (below_size hb_)); have n6_ := Aside0.mk (below_step hb_ hb); clear HO_6; clear HO_8; clear HO_9; clear HO_10; clear HO475; clear HB; have HO_6 := n0_; have HO_8 := n1_; have HO_9 := n2_; have HO_10 := n3_; have HO475 := n4_; have HO479 := n5_; have HB := n6_; clear n0_ n1_ n2_ n3_ n4_ n5_ n6_; (try clear hb); (try clear hb2); (try clear hk); (try clear hi); (try clear ho0); obtain ⟨Ao89, co89, eo89⟩ := Kd.R_slice HO479.out; subst eo89) | ((with_reducible refine gate_callee (f := 30) rfl ?_); refine goesL_ (some 60) rfl rfl Try.func30 (by kernel_rfl) rfl #[.slice Ao23 t465.length co23, .slice Ao89 t477.length co89] rfl ln_ ?_; (with_reducible refine (laws_eqInt64S.calls kj12 _ _ t465 _ _ t477 false _ ?side1 ?side2 ?side3 ?side4 A36.out).mono ?_); (case side1 => repeat (first | exact (Kd.R_reads' HO_9.out).2.2 | (with_reducible refine Kd.C_alloc ?_ _) | (with_reducible refine Kd.C_drewN ?_ _) | (with_reducible refine Kd.C_drew ?_))); (case side2 => exact (Kd.R_reads' HO_9.out).2.1); (case side3 => repeat (first | exact (Kd.R_reads' HO479.out).2.2 | (with_reducible refine Kd.C_alloc ?_ _) | (with_reducible refine Kd.C_drewN ?_ _) | (with_reducible refine Kd.C_drew ?_))); (case side4 => exact (Kd.R_reads' HO479.out).2.1); rintro e w' ⟨rfl, ⟨nd, rfl⟩⟩; refine ⟨_, rfl, ?_⟩))
        go_ret
        exact ⟨ew_, hb_⟩
      ·replace c34 := Bool.eq_false_iff.mpr c34
       subst c34
       have H1 : (some false) = some r := by rw [if_neg (show ¬ (false = true) by decide)] at H; exact H
       clear H
       have H := H1
       clear H1
       obtain rfl := Option.some.inj H
       go_wp2_with (first | ((with_reducible refine gate_callee (f := 22) rfl ?_); refine goesL_ (some 54) rfl rfl Try.func22 (by kernel_rfl) rfl #[.slice A0 l0.length c0] rfl ln_ ?_; (with_reducible refine (laws_toRenewalS.calls kj12 _ _ l0 t473 _ ?side1 ?side2 A32.out).mono ?_); (case side1 => exact kc_ (Kd.C_below HR0.out HB.out)); (case side2 => exact HC0.out); rintro e w90 ⟨v474, rfl, ho0, hb⟩; refine ⟨_, rfl, ?_⟩; have n0_ := Aside0.mk (Kd.R_below (kr_ HO_6) hb); have n1_ := Aside0.mk (Kd.R_elder' (kr_ HO_8) (Kd.R_base ho0) hb); have n2_ := Aside0.mk (Kd.R_below (kr_ HO_9) hb); have n3_ := Aside0.mk (Kd.R_below (kr_ HO_10) hb); have n4_ := Aside0.mk (Kd.R_lower (Kd.R_new' ho0 (Kd.R_lt (kr_ HO_8))) (below_size hb_)); have n5_ := Aside0.mk (below_step hb_ hb); clear HO_6; clear HO_8; clear HO_9; clear HO_10; clear HB; have HO_6 := n0_; have HO_8 := n1_; have HO_9 := n2_; have HO_10 := n3_; have HO475 := n4_; have HB := n5_; clear n0_ n1_ n2_ n3_ n4_ n5_; (try clear hb); (try clear hb2); (try clear hk); (try clear hi); (try clear ho0); obtain ⟨Ao91, co91, eo91⟩ := Kd.R_slice HO475.out; subst eo91) | ((with_reducible refine gate_callee (f := 24) rfl ?_); refine goesL_ (some 55) rfl rfl Try.func24 (by kernel_rfl) rfl #[.slice Ao22 t462.length co22, .slice Ao91 t473.length co91] rfl ln_ ?_; (with_reducible refine (laws_eqRenewalS.calls kj12 _ _ t462 _ _ t473 false _ ?side1 ?side2 ?side3 ?side4 A33.out).mono ?_); (case side1 => repeat (first | exact (Kd.R_reads' HO_8.out).2.2 | (with_reducible refine Kd.C_alloc ?_ _) | (with_reducible refine Kd.C_drewN ?_ _) | (with_reducible refine Kd.C_drew ?_))); (case side2 => exact (Kd.R_reads' HO_8.out).2.1); (case side3 => repeat (first | exact (Kd.R_reads' HO475.out).2.2 | (with_reducible refine Kd.C_alloc ?_ _) | (with_reducible refine Kd.C_drewN ?_ _) | (with_reducible refine Kd.C_drew ?_))); (case side4 => exact (Kd.R_reads' HO475.out).2.1); rintro e w92 ⟨rfl, hb⟩; refine ⟨_, rfl, ?_⟩; have n0_ := Aside0.mk (Kd.R_below (kr_ HO_6) hb); have n1_ := Aside0.mk (Kd.R_below (kr_ HO_8) hb); have n2_ := Aside0.mk (Kd.R_below (kr_ HO_9) hb); have n3_ := Aside0.mk (Kd.R_below (kr_ HO_10) hb); have n4_ := Aside0.mk (Kd.R_below (kr_ HO475) hb); have n5_ := Aside0.mk (below_step hb_ hb); clear HO_6; clear HO_8; clear HO_9; clear HO_10; clear HO475; clear HB; have HO_6 := n0_; have HO_8 := n1_; have HO_9 := n2_; have HO_10 := n3_; have HO475 := n4_; have HB := n5_; clear n0_ n1_ n2_ n3_ n4_ n5_; (try clear hb); (try clear hb2); (try clear hk); (try clear hi)))
       go_ret
       exact ⟨ew_, hb_⟩

end Go.Proofs.Ytkegmjebkikniaa.P
