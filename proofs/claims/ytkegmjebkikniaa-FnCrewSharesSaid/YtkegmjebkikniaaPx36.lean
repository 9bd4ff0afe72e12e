-- Written by gprint.py (own program, over the printer of the kit) out of the translation. Lean checks it.
import Derived.Test.YtkegmjebkikniaaPx0
import Derived.Test.YtkegmjebkikniaaPx22
import Derived.Test.YtkegmjebkikniaaPx35
import Derived.Test.YtkegmjebkikniaaWPk
namespace Go.Proofs.Ytkegmjebkikniaa.P
open Go.RowKit Go.Proofs.YtkegmjebkikniaaW.PrintWords Go.Proofs.YtkegmjebkikniaaW.PrintLast Go.Proofs.YtkegmjebkikniaaW.PrintMore Go.Proofs.YtkegmjebkikniaaW.Pk
open Bool renaming true → T_, false → F_
open List renaming setIfInBounds_toArray → sT_, set_cons_zero → s0_, set_cons_succ → sS_
attribute [local go_sem] max2_int min2_int max_two min_two max_three min_three max_four min_four   -- for this text's walks alone
set_option linter.unusedVariables false
set_option linter.unusedSimpArgs false

/-! ### laws_FnCrewShares: function 13 -/
mutual
def laws_FnCrewShares.l0 : Nat → List (S55) → Int → Int → Int → Option (Bool)
 | 0, _, _, _, _ => none
 | k + 1, x3, x4, x5, x6 => if x6 < (x3.length : Int) then (if 0 ≤ x6 then (laws_FnCrewShares.l0 k x3 (wrap64 (x4 + ((rd_T55 x3 x6).f1))) (mx x5 ((rd_T55 x3 x6).f1)) (wrap64 (x6 + 1))) else (none)) else (laws_FnCrewShares.l1 k x3 x4 x5 x4 1)
def laws_FnCrewShares.l1 : Nat → List (S55) → Int → Int → Int → Int → Option (Bool)
 | 0, _, _, _, _, _ => none
 | k + 1, x3, x4, x5, x7, x8 => if x8 ≤ 4 then ((impl_ShareRenewals.f k x3 x8).bind fun bt673 => (if bt673.2.2 = 0 then (if (bt673.1.length : Int) = (x3.length : Int) then (if bt673.2.1 > x7 then (laws_FnCrewShares.j2 k x3 x4 x5 x8 bt673.1 bt673.2.1 true) else (if bt673.2.1 < x5 then (laws_FnCrewShares.j2 k x3 x4 x5 x8 bt673.1 bt673.2.1 true) else (if (wrap64 (bt673.2.1 * x8)) < x4 then (laws_FnCrewShares.j2 k x3 x4 x5 x8 bt673.1 bt673.2.1 true) else (if x8 = 1 then (laws_FnCrewShares.j2 k x3 x4 x5 x8 bt673.1 bt673.2.1 (bt673.2.1 != x4)) else (laws_FnCrewShares.j2 k x3 x4 x5 x8 bt673.1 bt673.2.1 false))))) else (laws_FnCrewShares.j2 k x3 x4 x5 x8 bt673.1 bt673.2.1 true)) else (laws_FnCrewShares.j2 k x3 x4 x5 x8 bt673.1 bt673.2.1 true))) else (some true)
def laws_FnCrewShares.j2 : Nat → List (S55) → Int → Int → Int → List Int → Int → Bool → Option (Bool)
 | 0, _, _, _, _, _, _, _ => none
 | k + 1, x3, x4, x5, x8, x9, x10, x86 => if x86 = true then (some false) else (if 0 ≤ x8 then (if (x8 : Int).toNat ≤ 35184372088832 then (laws_FnCrewShares.l2 k x3 x4 x5 x8 x9 x10 (List.replicate (x8 : Int).toNat 0) 0) else (none)) else (none))
def laws_FnCrewShares.l2 : Nat → List (S55) → Int → Int → Int → List Int → Int → List Int → Int → Option (Bool)
 | 0, _, _, _, _, _, _, _, _ => none
 | k + 1, x3, x4, x5, x8, x9, x10, x12, x13 => if x13 < (x9.length : Int) then (if 0 ≤ x13 then (if (rd x9 x13) < 0 then (some false) else (if (rd x9 x13) ≥ x8 then (some false) else (if 0 ≤ (rd x9 x13) then (if (rd x9 x13) < (x12.length : Int) then (if x13 < (x3.length : Int) then (laws_FnCrewShares.l2 k x3 x4 x5 x8 x9 x10 (x12.set ((rd x9 x13) : Int).toNat (wrap64 ((rd x12 (rd x9 x13)) + ((rd_T55 x3 x13).f1)))) (wrap64 (x13 + 1))) else (none)) else (none)) else (none)))) else (none)) else (laws_FnCrewShares.l3 k x3 x4 x5 x8 x10 x12 0 0)
def laws_FnCrewShares.l3 : Nat → List (S55) → Int → Int → Int → Int → List Int → Int → Int → Option (Bool)
 | 0, _, _, _, _, _, _, _, _ => none
 | k + 1, x3, x4, x5, x8, x10, x12, x14, x15 => if x15 < (x12.length : Int) then (if 0 ≤ x15 then (laws_FnCrewShares.l3 k x3 x4 x5 x8 x10 x12 (mx x14 (rd x12 x15)) (wrap64 (x15 + 1))) else (none)) else (if x14 = x10 then (laws_FnCrewShares.l1 k x3 x4 x5 x10 (wrap64 (x8 + 1))) else (some false))
end
def laws_FnCrewShares.f (k : Nat) (l0 : List Int) : Option (Bool) := (laws_a2Long.f l0 ([] : List Int)).bind fun t667 => (if t667 = true then (some true) else ((spec_A2Renewals.f k l0).bind fun t668 => (laws_FnCrewShares.l0 k t668 0 0 0)))
theorem laws_FnCrewShares.mono_l : ∀ k, (∀ y0 y1 y2 y3, LeO (laws_FnCrewShares.l0 k y0 y1 y2 y3) (laws_FnCrewShares.l0 (k + 1) y0 y1 y2 y3)) ∧ (∀ y0 y1 y2 y3 y4, LeO (laws_FnCrewShares.l1 k y0 y1 y2 y3 y4) (laws_FnCrewShares.l1 (k + 1) y0 y1 y2 y3 y4)) ∧ (∀ y0 y1 y2 y3 y4 y5 y6, LeO (laws_FnCrewShares.j2 k y0 y1 y2 y3 y4 y5 y6) (laws_FnCrewShares.j2 (k + 1) y0 y1 y2 y3 y4 y5 y6)) ∧ (∀ y0 y1 y2 y3 y4 y5 y6 y7, LeO (laws_FnCrewShares.l2 k y0 y1 y2 y3 y4 y5 y6 y7) (laws_FnCrewShares.l2 (k + 1) y0 y1 y2 y3 y4 y5 y6 y7)) ∧ (∀ y0 y1 y2 y3 y4 y5 y6 y7, LeO (laws_FnCrewShares.l3 k y0 y1 y2 y3 y4 y5 y6 y7) (laws_FnCrewShares.l3 (k + 1) y0 y1 y2 y3 y4 y5 y6 y7))
 | 0 => ⟨fun _ _ _ _ r h => by simp [laws_FnCrewShares.l0] at h, fun _ _ _ _ _ r h => by simp [laws_FnCrewShares.l1] at h, fun _ _ _ _ _ _ _ r h => by simp [laws_FnCrewShares.j2] at h, fun _ _ _ _ _ _ _ _ r h => by simp [laws_FnCrewShares.l2] at h, fun _ _ _ _ _ _ _ _ r h => by simp [laws_FnCrewShares.l3] at h⟩
 | k + 1 => by
  obtain ⟨ih0, ih1, ih2, ih3, ih4⟩ := laws_FnCrewShares.mono_l k
  refine ⟨?_, ?_, ?_, ?_, ?_⟩
  ·intro y0 y1 y2 y3
   unfold laws_FnCrewShares.l0
   repeat' first
   | (with_reducible exact ih0 _ _ _ _)
   | (with_reducible exact ih1 _ _ _ _ _)
   | (with_reducible exact ih2 _ _ _ _ _ _ _)
   | (with_reducible exact ih3 _ _ _ _ _ _ _ _)
   | (with_reducible exact ih4 _ _ _ _ _ _ _ _)
   | (with_reducible exact impl_ShareRenewals.mono _ _ _)
   | (with_reducible exact spec_A2Renewals.mono _ _)
   | (with_reducible exact LeO.refl _)
   | (with_reducible exact LeO.none _)
   | (with_reducible refine LeO.ite ?_ ?_)
   | (with_reducible refine LeO.bind ?_ (fun _ => ?_))
   | exact ih0 _ _ _ _
   | exact ih1 _ _ _ _ _
   | exact ih2 _ _ _ _ _ _ _
   | exact ih3 _ _ _ _ _ _ _ _
   | exact ih4 _ _ _ _ _ _ _ _
   | exact impl_ShareRenewals.mono _ _ _
   | exact spec_A2Renewals.mono _ _
   | exact LeO.none _
   | refine LeO.ite ?_ ?_
   | refine LeO.bind ?_ (fun _ => ?_)
  ·intro y0 y1 y2 y3 y4
   unfold laws_FnCrewShares.l1
   repeat' first
   | (with_reducible exact ih0 _ _ _ _)
   | (with_reducible exact ih1 _ _ _ _ _)
   | (with_reducible exact ih2 _ _ _ _ _ _ _)
   | (with_reducible exact ih3 _ _ _ _ _ _ _ _)
   | (with_reducible exact ih4 _ _ _ _ _ _ _ _)
   | (with_reducible exact impl_ShareRenewals.mono _ _ _)
   | (with_reducible exact spec_A2Renewals.mono _ _)
   | (with_reducible exact LeO.refl _)
   | (with_reducible exact LeO.none _)
   | (with_reducible refine LeO.ite ?_ ?_)
   | (with_reducible refine LeO.bind ?_ (fun _ => ?_))
   | exact ih0 _ _ _ _
   | exact ih1 _ _ _ _ _
   | exact ih2 _ _ _ _ _ _ _
   | exact ih3 _ _ _ _ _ _ _ _
   | exact ih4 _ _ _ _ _ _ _ _
   | exact impl_ShareRenewals.mono _ _ _
   | exact spec_A2Renewals.mono _ _
   | exact LeO.none _
   | refine LeO.ite ?_ ?_
   | refine LeO.bind ?_ (fun _ => ?_)
  ·intro y0 y1 y2 y3 y4 y5 y6
   unfold laws_FnCrewShares.j2
   repeat' first
   | (with_reducible exact ih0 _ _ _ _)
   | (with_reducible exact ih1 _ _ _ _ _)
   | (with_reducible exact ih2 _ _ _ _ _ _ _)
   | (with_reducible exact ih3 _ _ _ _ _ _ _ _)
   | (with_reducible exact ih4 _ _ _ _ _ _ _ _)
   | (with_reducible exact impl_ShareRenewals.mono _ _ _)
   | (with_reducible exact spec_A2Renewals.mono _ _)
   | (with_reducible exact LeO.refl _)
   | (with_reducible exact LeO.none _)
   | (with_reducible refine LeO.ite ?_ ?_)
   | (with_reducible refine LeO.bind ?_ (fun _ => ?_))
   | exact ih0 _ _ _ _
   | exact ih1 _ _ _ _ _
   | exact ih2 _ _ _ _ _ _ _
   | exact ih3 _ _ _ _ _ _ _ _
   | exact ih4 _ _ _ _ _ _ _ _
   | exact impl_ShareRenewals.mono _ _ _
   | exact spec_A2Renewals.mono _ _
   | exact LeO.none _
   | refine LeO.ite ?_ ?_
   | refine LeO.bind ?_ (fun _ => ?_)
  ·intro y0 y1 y2 y3 y4 y5 y6 y7
   unfold laws_FnCrewShares.l2
   repeat' first
   | (with_reducible exact ih0 _ _ _ _)
   | (with_reducible exact ih1 _ _ _ _ _)
   | (with_reducible exact ih2 _ _ _ _ _ _ _)
   | (with_reducible exact ih3 _ _ _ _ _ _ _ _)
   | (with_reducible exact ih4 _ _ _ _ _ _ _ _)
   | (with_reducible exact impl_ShareRenewals.mono _ _ _)
   | (with_reducible exact spec_A2Renewals.mono _ _)
   | (with_reducible exact LeO.refl _)
   | (with_reducible exact LeO.none _)
   | (with_reducible refine LeO.ite ?_ ?_)
   | (with_reducible refine LeO.bind ?_ (fun _ => ?_))
   | exact ih0 _ _ _ _
   | exact ih1 _ _ _ _ _
   | exact ih2 _ _ _ _ _ _ _
   | exact ih3 _ _ _ _ _ _ _ _
   | exact ih4 _ _ _ _ _ _ _ _
   | exact impl_ShareRenewals.mono _ _ _
   | exact spec_A2Renewals.mono _ _
   | exact LeO.none _
   | refine LeO.ite ?_ ?_
   | refine LeO.bind ?_ (fun _ => ?_)
  ·intro y0 y1 y2 y3 y4 y5 y6 y7
   unfold laws_FnCrewShares.l3
   repeat' first
   | (with_reducible exact ih0 _ _ _ _)
   | (with_reducible exact ih1 _ _ _ _ _)
   | (with_reducible exact ih2 _ _ _ _ _ _ _)
   | (with_reducible exact ih3 _ _ _ _ _ _ _ _)
   | (with_reducible exact ih4 _ _ _ _ _ _ _ _)
   | (with_reducible exact impl_ShareRenewals.mono _ _ _)
   | (with_reducible exact spec_A2Renewals.mono _ _)
   | (with_reducible exact LeO.refl _)
   | (with_reducible exact LeO.none _)
   | (with_reducible refine LeO.ite ?_ ?_)
   | (with_reducible refine LeO.bind ?_ (fun _ => ?_))
   | exact ih0 _ _ _ _
   | exact ih1 _ _ _ _ _
   | exact ih2 _ _ _ _ _ _ _
   | exact ih3 _ _ _ _ _ _ _ _
   | exact ih4 _ _ _ _ _ _ _ _
   | exact impl_ShareRenewals.mono _ _ _
   | exact spec_A2Renewals.mono _ _
   | exact LeO.none _
   | refine LeO.ite ?_ ?_
   | refine LeO.bind ?_ (fun _ => ?_)
theorem laws_FnCrewShares.mono : ∀ a0 k, LeO (laws_FnCrewShares.f k a0) (laws_FnCrewShares.f (k + 1) a0) := by
 intro a0 k
 obtain ⟨ih0, ih1, ih2, ih3, ih4⟩ := laws_FnCrewShares.mono_l k
 unfold laws_FnCrewShares.f
 repeat' first
   | (with_reducible exact ih0 _ _ _ _)
   | (with_reducible exact ih1 _ _ _ _ _)
   | (with_reducible exact ih2 _ _ _ _ _ _ _)
   | (with_reducible exact ih3 _ _ _ _ _ _ _ _)
   | (with_reducible exact ih4 _ _ _ _ _ _ _ _)
   | (with_reducible exact impl_ShareRenewals.mono _ _ _)
   | (with_reducible exact spec_A2Renewals.mono _ _)
   | (with_reducible exact LeO.refl _)
   | (with_reducible exact LeO.none _)
   | (with_reducible refine LeO.ite ?_ ?_)
   | (with_reducible refine LeO.bind ?_ (fun _ => ?_))
   | exact ih0 _ _ _ _
   | exact ih1 _ _ _ _ _
   | exact ih2 _ _ _ _ _ _ _
   | exact ih3 _ _ _ _ _ _ _ _
   | exact ih4 _ _ _ _ _ _ _ _
   | exact impl_ShareRenewals.mono _ _ _
   | exact spec_A2Renewals.mono _ _
   | exact LeO.none _
   | refine LeO.ite ?_ ?_
   | refine LeO.bind ?_ (fun _ => ?_)
def laws_FnCrewShares.T24 : Bool × List (List Nat × List Nat) := (true, [([], []), ([], []), ([], []), ([1, 2], [1, 2]), ([3], [3]), ([0, 4], [0, 4]), ([5], [5]), ([], []), ([], []), ([7, 8], [7, 8]), ([9], [9]), ([10], [10]), ([6, 11], [6, 11]), ([0, 4, 0, 1, 2, 3, 4, 5, 6, 7, 8, 9, 10, 11, 12], [0, 4]), ([13, 12, 0, 1, 2, 3, 4, 5, 6, 7, 8, 9, 10, 11, 12], [12, 13])])
def laws_FnCrewShares.B24 : List Nat := [0, 0, 0, 6, 14, 31, 63, 0, 0, 384, 896, 1920, 4095, 8191, 16383]
theorem laws_FnCrewShares.tab24 : rtab .any (opsOf Try.f13 24) = laws_FnCrewShares.T24 := by kernel_rfl
theorem laws_FnCrewShares.bits24 : waitsOk laws_FnCrewShares.T24.2 laws_FnCrewShares.B24 = true := by kernel_rfl
set_option maxHeartbeats 8000000 in
set_option maxRecDepth 100000 in
theorem laws_FnCrewShares.calls (k : Nat) (A0 : Option Addr) (c0 : Nat) (l0 : List Int) (r : Bool) (w : World) (hr0 : Kd.C (Kd.int .u8) w A0 l0.length l0) (hc0 : l0.length ≤ c0) (h : laws_FnCrewShares.f k l0 = some r) :
  Calls Try.prog 13 #[.slice A0 l0.length c0] w fun e w' => e = .returned (.bool r) ∧ Below w.heap.size w w' := by
 have HR0 := Aside0.mk hr0
 have HC0 := Aside0.mk hc0
 clear hr0 hc0
 have HB := Aside0.mk (Below.refl w.heap.size w)
 have H : ((laws_a2Long.f l0 ([] : List Int)).bind fun t667 => (if t667 = true then (some true) else ((spec_A2Renewals.f k l0).bind fun t668 => (laws_FnCrewShares.l0 k t668 0 0 0)))) = some r := h
 clear h
 replace H := Option.bind_eq_some_iff.mp H
 obtain ⟨t667, A20, H⟩ := H
 replace H : (if t667 = true then (some true) else ((spec_A2Renewals.f k l0).bind fun t668 => (laws_FnCrewShares.l0 k t668 0 0 0))) = some r := H
 have A2 := Aside0.mk A20
 clear A20
 by_cases c3 : t667 = true
 ·subst c3
  have H1 : (some true) = some r := by rw [if_pos rfl] at H; exact H
  clear H
  have H := H1
  clear H1
  obtain rfl := Option.some.inj H
  go_enter Try.func13, Try.ntmps13
  go_wp2_with (first | ((with_reducible refine gate_callee (f := 46) rfl ?_); refine goesL_ (some 17) rfl rfl Try.func46 (by kernel_rfl) rfl #[.slice A0 l0.length c0, .slice none 0 0] rfl ln_ ?_; (refine (laws_a2Long.calls _ _ l0 _ _ ([] : List Int) true _ ?side1 ?side2 ?side3 ?side4 A2.out).mono ?_); (case side1 => exact kc_ HR0.out); (case side2 => exact HC0.out); (case side3 => exact Kd.C_nil _ _); (case side4 => exact Nat.le_refl _); rintro e w' ⟨rfl, ⟨nd, rfl⟩⟩; refine ⟨_, rfl, ?_⟩))
  go_ret
  exact ⟨ew_, hb_⟩
 ·replace c3 := Bool.eq_false_iff.mpr c3
  subst c3
  have H1 : ((spec_A2Renewals.f k l0).bind fun t668 => (laws_FnCrewShares.l0 k t668 0 0 0)) = some r := by rw [if_neg (show ¬ (false = true) by decide)] at H; exact H
  clear H
  have H := H1
  clear H1
  replace H := Option.bind_eq_some_iff.mp H
  obtain ⟨t668, A40, H⟩ := H
  replace H : (laws_FnCrewShares.l0 k t668 0 0 0) = some r := H
  have A4 := Aside0.mk A40
  clear A40
  have H' := Aside0.mk H
  clear H
  go_enter Try.func13, Try.ntmps13
  go_wp2_with (first | ((with_reducible refine gate_callee (f := 46) rfl ?_); refine goesL_ (some 17) rfl rfl Try.func46 (by kernel_rfl) rfl #[.slice A0 l0.length c0, .slice none 0 0] rfl ln_ ?_; (refine (laws_a2Long.calls _ _ l0 _ _ ([] : List Int) false _ ?side1 ?side2 ?side3 ?side4 A2.out).mono ?_); (case side1 => exact kc_ HR0.out); (case side2 => exact HC0.out); (case side3 => exact Kd.C_nil _ _); (case side4 => exact Nat.le_refl _); rintro e w' ⟨rfl, ⟨nd, rfl⟩⟩; refine ⟨_, rfl, ?_⟩) | ((with_reducible refine gate_callee (f := 47) rfl ?_); refine goesL_ (some 19) rfl rfl Try.func47 (by kernel_rfl) rfl #[.slice A0 l0.length c0] rfl ln_ ?_; (with_reducible refine (spec_A2Renewals.calls k _ _ l0 t668 _ ?side1 ?side2 A4.out).mono ?_); (case side1 => exact kc_ HR0.out); (case side2 => exact HC0.out); rintro e w5 ⟨v669, rfl, ho0, hb⟩; refine ⟨_, rfl, ?_⟩; have n0_ := Aside0.mk (Kd.R_lower ho0 (below_size hb_)); have n1_ := Aside0.mk (below_step hb_ hb); clear HB; have HO670 := n0_; have HB := n1_; clear n0_ n1_; (try clear hb); (try clear hb2); (try clear hk); (try clear hi); (try clear ho0)))
  go_loopg [4, 5, 6] k (fun kq v4 v5 v6 w' => ∃ (x4_1 : Int) (x5_1 : Int) (x6_1 : Int), v4 = .int .i64 x4_1 ∧ v5 = .int .i64 x5_1 ∧ v6 = .int .i64 x6_1 ∧ Aside0 (laws_FnCrewShares.l0 kq t668 x4_1 x5_1 x6_1 = some r) ∧ Aside0 (kq ≤ k) ∧ Aside0 (Kd.R k55 55 w' w.heap.size (fun _ => True) v669 t668) ∧ Aside0 (Below w.heap.size w w'))
  case atStart => exact ⟨(0), (0), (0), (by first | rfl | (simp; done) | (simp [*]; done)), (by first | rfl | (simp; done) | (simp [*]; done)), (by first | rfl | (simp; done) | (simp [*]; done)), H', ⟨Nat.le_refl _⟩, ⟨by (with_reducible repeat (first | apply Kd.R_alloc | apply Kd.R_drewN | apply Kd.R_drew)); exact HO670.out⟩, ⟨hb_⟩⟩
  case round =>
   clear H'
   try clear c1
   try clear p2
   try clear c3
   try clear c4
   obtain ⟨x4_1, x5_1, x6_1, rfl, rfl, rfl, HA, HK1, HO_3, HB⟩ := hrel
   cases gk with
   | zero => exact absurd HA.out (by simp [laws_FnCrewShares.l0])
   | succ k1 =>
    have H := HA.out
    clear HA
    simp only [laws_FnCrewShares.l0] at H
    by_cases c6 : x6_1 < (t668.length : Int)
    ·rw [if_pos c6] at H
     have c6b0 : decide (x6_1 < (t668.length : Int)) = true := decide_eq_true c6
     clear c6
     by_cases c7 : 0 ≤ x6_1
     ·rw [if_pos c7] at H
      have c7b0 : decide (0 ≤ x6_1) = true := decide_eq_true c7
      clear c7
      obtain ⟨ji8, hji8⟩ : ∃ j_ : Int, (mx x5_1 ((rd_T55 t668 x6_1).f1)) = j_ := ⟨_, rfl⟩
      replace H : (laws_FnCrewShares.l0 k1 t668 (wrap64 (x4_1 + ((rd_T55 t668 x6_1).f1))) ji8 (wrap64 (x6_1 + 1))) = some r := by first | (rw [hji8] at H; exact H) | (simp only [hji8] at H ⊢; exact H)
      have hji8_ : (if x5_1 < ((rd_T55 t668 x6_1).f1) then ((rd_T55 t668 x6_1).f1) else x5_1) = ji8 := hji8
      have H' := Aside0.mk H
      clear H
      obtain ⟨Ao9, co9, eo9⟩ := Kd.R_slice HO_3.out
      subst eo9
      have p671 : 0 ≤ (x6_1 : Int) := od_
      have q671 : x6_1 < (t668.length : Int) := od_
      obtain ⟨ad671, e671, hx671_0, hx671_1, hx671_2, hx671_3⟩ := at_T55 (Kd.R_reads' HO_3.out).2.2 x6_1 p671 q671
      cases e671
      replace p671 := eq_true p671
      replace q671 := eq_true q671
      have p672 : 0 ≤ (x6_1 : Int) := od_
      have q672 : x6_1 < (t668.length : Int) := od_
      obtain ⟨ad672, e672, hx672_0, hx672_1, hx672_2, hx672_3⟩ := at_T55 (Kd.R_reads' HO_3.out).2.2 x6_1 p672 q672
      obtain rfl : ad671 = ad672 := (by injection e672)
      replace p672 := eq_true p672
      replace q672 := eq_true q672
      go_wp2
      go_roundg k1
      case measure => have := HK1.out; omega
      case rel => exact ⟨(wrap64 (x4_1 + ((rd_T55 t668 x6_1).f1))), (ji8), (wrap64 (x6_1 + 1)), (by first | rfl | (simp; done) | (simp [*]; done)), (by first | rfl | (simp; done) | (simp only [← hji8] <;> (first | rfl | simp)) | (simp [*]; done)), (by first | rfl | (simp; done) | (simp [*]; done)), H', ⟨by have := HK1.out; omega⟩, ⟨by (with_reducible repeat (first | apply Kd.R_alloc | apply Kd.R_drewN | apply Kd.R_drew)); exact HO_3.out⟩, ⟨hb_⟩⟩
     ·rw [if_neg c7] at H
      exact absurd H (by simp)
    ·rw [if_neg c6] at H
     have c6b0 : decide (x6_1 < (t668.length : Int)) = false := decide_eq_false c6
     clear c6
     have H' := Aside0.mk H
     clear H
     obtain ⟨Ao10, co10, eo10⟩ := Kd.R_slice HO_3.out
     subst eo10
     go_wp2
     go_loopg [7, 8] k1 (fun kq v7 v8 w' => ∃ (x7_2 : Int) (x8_2 : Int), v7 = .int .i64 x7_2 ∧ v8 = .int .i64 x8_2 ∧ Aside0 (laws_FnCrewShares.l1 kq t668 x4_1 x5_1 x7_2 x8_2 = some r) ∧ Aside0 (kq ≤ k1) ∧ Aside0 (Kd.R k55 55 w' w.heap.size (fun _ => True) (.slice Ao10 t668.length co10) t668) ∧ Aside0 (Below w.heap.size w w'))
     case atStart => exact ⟨(x4_1), (1), (by first | rfl | (simp; done) | (simp [*]; done)), (by first | rfl | (simp; done) | (simp [*]; done)), H', ⟨Nat.le_refl _⟩, ⟨by (with_reducible repeat (first | apply Kd.R_alloc | apply Kd.R_drewN | apply Kd.R_drew)); exact HO_3.out⟩, ⟨hb_⟩⟩
     case round =>
      clear H'
      try clear c1
      try clear p2
      try clear c3
      try clear c4
      try clear c6
      try clear c6b0
      try clear p6
      try clear q6
      try clear hx6
      try clear c7
      try clear c7b0
      try clear hx671_0
      try clear hx671_1
      try clear hx671_2
      try clear hx671_3
      try clear hx672_0
      try clear hx672_1
      try clear hx672_2
      try clear hx672_3
      try clear p2
      try clear p671
      try clear p672
      try clear q671
      try clear q672
      obtain ⟨x7_2, x8_2, rfl, rfl, HA, HK2, HO_3, HB⟩ := hrel
      cases gk with
      | zero => exact absurd HA.out (by simp [laws_FnCrewShares.l1])
      | succ k2 =>
       have H := HA.out
       clear HA
       simp only [laws_FnCrewShares.l1] at H
       by_cases c11 : x8_2 ≤ 4
       ·rw [if_pos c11] at H
        have c11b0 : decide (x8_2 ≤ 4) = true := decide_eq_true c11
        clear c11
        replace H := Option.bind_eq_some_iff.mp H
        obtain ⟨⟨t673, t674, t675⟩, A120, H⟩ := H
        replace H : (if t675 = 0 then (if (t673.length : Int) = (t668.length : Int) then (if t674 > x7_2 then (laws_FnCrewShares.j2 k2 t668 x4_1 x5_1 x8_2 t673 t674 true) else (if t674 < x5_1 then (laws_FnCrewShares.j2 k2 t668 x4_1 x5_1 x8_2 t673 t674 true) else (if (wrap64 (t674 * x8_2)) < x4_1 then (laws_FnCrewShares.j2 k2 t668 x4_1 x5_1 x8_2 t673 t674 true) else (if x8_2 = 1 then (laws_FnCrewShares.j2 k2 t668 x4_1 x5_1 x8_2 t673 t674 (t674 != x4_1)) else (laws_FnCrewShares.j2 k2 t668 x4_1 x5_1 x8_2 t673 t674 false))))) else (laws_FnCrewShares.j2 k2 t668 x4_1 x5_1 x8_2 t673 t674 true)) else (laws_FnCrewShares.j2 k2 t668 x4_1 x5_1 x8_2 t673 t674 true)) = some r := H
        have A12 := Aside0.mk A120
        clear A120
        have HC13 := Aside0.mk H
        clear H
        go_upto_region 16 with (first | ((with_reducible refine gate_callee (f := 32) rfl ?_); refine goesL_ (some 48) rfl rfl Try.func32 (by kernel_rfl) rfl #[.slice Ao10 t668.length co10, .int .i64 x8_2] rfl ln_ ?_; (with_reducible refine (impl_ShareRenewals.calls k2 _ _ t668 x8_2 t673 t674 t675 _ ?side1 ?side2 A12.out).mono ?_); (case side1 => repeat (first | exact (Kd.R_reads' HO_3.out).2.2 | (with_reducible refine Kd.C_alloc ?_ _) | (with_reducible refine Kd.C_drewN ?_ _) | (with_reducible refine Kd.C_drew ?_))); (case side2 => exact (Kd.R_reads' HO_3.out).2.1); rintro e w14 ⟨v676, rfl, ho0, hb⟩; refine ⟨_, rfl, ?_⟩; have n0_ := Aside0.mk (Kd.R_below (kr_ HO_3) hb); have n1_ := Aside0.mk (Kd.R_lower ho0 (below_size hb_)); have n2_ := Aside0.mk (below_step hb_ hb); clear HO_3; clear HB; have HO_3 := n0_; have HO677 := n1_; have HB := n2_; clear n0_ n1_ n2_; (try clear hb); (try clear hb2); (try clear hk); (try clear hi); (try clear ho0)))
        (try simp only [Act.put, List.setIfInBounds_toArray, List.set_cons_zero, List.set_cons_succ])
        go_cut [86] (fun v86 wc => ∃ (kq : Nat) (x86_12 : Bool), v86 = .bool x86_12 ∧ Aside0 (laws_FnCrewShares.j2 kq t668 x4_1 x5_1 x8_2 t673 t674 x86_12 = some r) ∧ Aside0 (kq ≤ k2) ∧ Aside0 (Kd.R k55 55 wc w.heap.size (fun _ => True) (.slice Ao10 t668.length co10) t668) ∧ Aside0 (Kd.R (Kd.int .i64) 2 wc w.heap.size (fun _ => True) v676 t673) ∧ Aside0 (Below w.heap.size w wc))
        case first =>
         have H := HC13.out
         clear HC13
         by_cases c15 : t675 = 0
         ·rw [if_pos c15] at H
          have c15b0 : (t675 == 0) = true := beq_iff_eq.mpr c15
          have c15b1 : (t675 != 0) = false := bne_eq_false_iff_eq.mpr c15
          clear c15
          (first | rw [c15b0] | (simp only [i64_w, i32_w]; rw [c15b0]) | skip)
          by_cases c16 : (t673.length : Int) = (t668.length : Int)
          ·rw [if_pos c16] at H
           have c16b0 : ((t673.length : Int) == (t668.length : Int)) = true := beq_iff_eq.mpr c16
           have c16b1 : ((t673.length : Int) != (t668.length : Int)) = false := bne_eq_false_iff_eq.mpr c16
           have c16b2 : (t673.length == t668.length) = true := by first | simpa using c16 | (simp at c16 ⊢; omega)
           clear c16
           by_cases c17 : t674 > x7_2
           ·rw [if_pos c17] at H
            have c17b0 : decide (x7_2 < t674) = true := decide_eq_true c17
            clear c17
            have H' := Aside0.mk H
            clear H
            obtain ⟨Ao18, co18, eo18⟩ := Kd.R_slice HO677.out
            subst eo18
            go_wp2
            go_meet
            case rel => exact ⟨_, (true), (by first | rfl | (simp; done) | (simp [*]; done)), H', ⟨by have := HK1.out; have := HK2.out; first | omega | exact Nat.le_refl _⟩, ⟨by (with_reducible repeat (first | apply Kd.R_alloc | apply Kd.R_drewN | apply Kd.R_drew)); exact HO_3.out⟩, ⟨by (with_reducible repeat (first | apply Kd.R_alloc | apply Kd.R_drewN | apply Kd.R_drew)); exact HO677.out⟩, ⟨hb_⟩⟩
           ·rw [if_neg c17] at H
            have c17b0 : decide (x7_2 < t674) = false := decide_eq_false c17
            clear c17
            by_cases c19 : t674 < x5_1
            ·rw [if_pos c19] at H
             have c19b0 : decide (t674 < x5_1) = true := decide_eq_true c19
             clear c19
             have H' := Aside0.mk H
             clear H
             obtain ⟨Ao20, co20, eo20⟩ := Kd.R_slice HO677.out
             subst eo20
             go_wp2
             go_meet
             case rel => exact ⟨_, (true), (by first | rfl | (simp; done) | (simp [*]; done)), H', ⟨by have := HK1.out; have := HK2.out; first | omega | exact Nat.le_refl _⟩, ⟨by (with_reducible repeat (first | apply Kd.R_alloc | apply Kd.R_drewN | apply Kd.R_drew)); exact HO_3.out⟩, ⟨by (with_reducible repeat (first | apply Kd.R_alloc | apply Kd.R_drewN | apply Kd.R_drew)); exact HO677.out⟩, ⟨hb_⟩⟩
            ·rw [if_neg c19] at H
             have c19b0 : decide (t674 < x5_1) = false := decide_eq_false c19
             clear c19
             by_cases c21 : (wrap64 (t674 * x8_2)) < x4_1
             ·rw [if_pos c21] at H
              have c21b0 : decide ((wrap64 (t674 * x8_2)) < x4_1) = true := decide_eq_true c21
              clear c21
              have H' := Aside0.mk H
              clear H
              obtain ⟨Ao22, co22, eo22⟩ := Kd.R_slice HO677.out
              subst eo22
              go_wp2
              go_meet
              case rel => exact ⟨_, (true), (by first | rfl | (simp; done) | (simp [*]; done)), H', ⟨by have := HK1.out; have := HK2.out; first | omega | exact Nat.le_refl _⟩, ⟨by (with_reducible repeat (first | apply Kd.R_alloc | apply Kd.R_drewN | apply Kd.R_drew)); exact HO_3.out⟩, ⟨by (with_reducible repeat (first | apply Kd.R_alloc | apply Kd.R_drewN | apply Kd.R_drew)); exact HO677.out⟩, ⟨hb_⟩⟩
             ·rw [if_neg c21] at H
              have c21b0 : decide ((wrap64 (t674 * x8_2)) < x4_1) = false := decide_eq_false c21
              clear c21
              by_cases c23 : x8_2 = 1
              ·rw [if_pos c23] at H
               have c23b0 : (x8_2 == 1) = true := beq_iff_eq.mpr c23
               have c23b1 : (x8_2 != 1) = false := bne_eq_false_iff_eq.mpr c23
               clear c23
               have H' := Aside0.mk H
               clear H
               obtain ⟨Ao24, co24, eo24⟩ := Kd.R_slice HO677.out
               subst eo24
               go_wp2
               go_meet
               case rel => exact ⟨_, ((t674 != x4_1)), (by first | rfl | (simp; done) | (simp [*]; done)), H', ⟨by have := HK1.out; have := HK2.out; first | omega | exact Nat.le_refl _⟩, ⟨by (with_reducible repeat (first | apply Kd.R_alloc | apply Kd.R_drewN | apply Kd.R_drew)); exact HO_3.out⟩, ⟨by (with_reducible repeat (first | apply Kd.R_alloc | apply Kd.R_drewN | apply Kd.R_drew)); exact HO677.out⟩, ⟨hb_⟩⟩
              ·rw [if_neg c23] at H
               have c23b0 : (x8_2 == 1) = false := beq_eq_false_iff_ne.mpr c23
               have c23b1 : (x8_2 != 1) = true := bne_iff_ne.mpr c23
               have H' := Aside0.mk H
               clear H
               obtain ⟨Ao25, co25, eo25⟩ := Kd.R_slice HO677.out
               subst eo25
               go_wp2
               go_meet
               case rel => exact ⟨_, (false), (by first | rfl | (simp; done) | (simp [*]; done)), H', ⟨by have := HK1.out; have := HK2.out; first | omega | exact Nat.le_refl _⟩, ⟨by (with_reducible repeat (first | apply Kd.R_alloc | apply Kd.R_drewN | apply Kd.R_drew)); exact HO_3.out⟩, ⟨by (with_reducible repeat (first | apply Kd.R_alloc | apply Kd.R_drewN | apply Kd.R_drew)); exact HO677.out⟩, ⟨hb_⟩⟩
          ·rw [if_neg c16] at H
           have c16b0 : ((t673.length : Int) == (t668.length : Int)) = false := beq_eq_false_iff_ne.mpr c16
           have c16b1 : ((t673.length : Int) != (t668.length : Int)) = true := bne_iff_ne.mpr c16
           have c16b2 : (t673.length == t668.length) = false := by first | simpa using c16 | (simp at c16 ⊢; omega)
           have H' := Aside0.mk H
           clear H
           obtain ⟨Ao26, co26, eo26⟩ := Kd.R_slice HO677.out
           subst eo26
           go_wp2
           go_meet
           case rel => exact ⟨_, (true), (by first | rfl | (simp; done) | (simp [*]; done)), H', ⟨by have := HK1.out; have := HK2.out; first | omega | exact Nat.le_refl _⟩, ⟨by (with_reducible repeat (first | apply Kd.R_alloc | apply Kd.R_drewN | apply Kd.R_drew)); exact HO_3.out⟩, ⟨by (with_reducible repeat (first | apply Kd.R_alloc | apply Kd.R_drewN | apply Kd.R_drew)); exact HO677.out⟩, ⟨hb_⟩⟩
         ·rw [if_neg c15] at H
          have c15b0 : (t675 == 0) = false := beq_eq_false_iff_ne.mpr c15
          have c15b1 : (t675 != 0) = true := bne_iff_ne.mpr c15
          (first | rw [c15b0] | (simp only [i64_w, i32_w]; rw [c15b0]) | skip)
          have H' := Aside0.mk H
          clear H
          go_wp2
          go_meet
          case rel => exact ⟨_, (true), (by first | rfl | (simp; done) | (simp [*]; done)), H', ⟨by have := HK1.out; have := HK2.out; first | omega | exact Nat.le_refl _⟩, ⟨by (with_reducible repeat (first | apply Kd.R_alloc | apply Kd.R_drewN | apply Kd.R_drew)); exact HO_3.out⟩, ⟨by (with_reducible repeat (first | apply Kd.R_alloc | apply Kd.R_drewN | apply Kd.R_drew)); exact HO677.out⟩, ⟨hb_⟩⟩
        case rest =>
         clear HC13
         try clear c1
         try clear c2
         try clear p2
         try clear c3
         try clear c4
         try clear c6
         try clear c6b0
         try clear p6
         try clear q6
         try clear hx6
         try clear c7
         try clear c7b0
         try clear c11
         try clear c11b0
         try clear c13
         try clear c15
         try clear c15b0
         try clear c15b1
         try clear c16
         try clear c16b0
         try clear c16b1
         try clear c16b2
         try clear c17
         try clear c17b0
         try clear c19
         try clear c19b0
         try clear c21
         try clear c21b0
         try clear c23
         try clear c23b0
         try clear c23b1
         try clear hx671_0
         try clear hx671_1
         try clear hx671_2
         try clear hx671_3
         try clear hx672_0
         try clear hx672_1
         try clear hx672_2
         try clear hx672_3
         try clear p2
         try clear p6
         try clear p671
         try clear p672
         try clear q6
         try clear q671
         try clear q672
         obtain ⟨kq, x86_12, rfl, HA, HJ12, HO_3, HO_9, HB⟩ := hcut
         cases kq with
         | zero => exact absurd HA.out (by simp [laws_FnCrewShares.j2])
         | succ kj12 =>
          have H := HA.out
          clear HA
          simp only [laws_FnCrewShares.j2] at H
          by_cases c27 : x86_12 = true
          ·subst c27
           have H1 : (some false) = some r := by rw [if_pos rfl] at H; exact H
           clear H
           have H := H1
           clear H1
           obtain rfl := Option.some.inj H
           go_wp2
           go_ret
           exact ⟨ew_, hb_⟩
          ·replace c27 := Bool.eq_false_iff.mpr c27
           subst c27
           have H1 : (if 0 ≤ x8_2 then (if (x8_2 : Int).toNat ≤ 35184372088832 then (laws_FnCrewShares.l2 kj12 t668 x4_1 x5_1 x8_2 t673 t674 (List.replicate (x8_2 : Int).toNat 0) 0) else (none)) else (none)) = some r := by rw [if_neg (show ¬ (false = true) by decide)] at H; exact H
           clear H
           have H := H1
           clear H1
           by_cases c28 : 0 ≤ x8_2
           ·rw [if_pos c28] at H
            have c28b0 := eq_true c28
            have c28b1 : decide (0 ≤ x8_2) = true := decide_eq_true c28
            clear c28
            by_cases c29 : (x8_2 : Int).toNat ≤ 35184372088832
            ·rw [if_pos c29] at H
             have c29b0 := eq_true c29
             have c29b1 : decide ((x8_2 : Int).toNat ≤ 35184372088832) = true := decide_eq_true c29
             clear c29
             obtain ⟨y678, hy678⟩ : ∃ y_ : List Int, y_ = (List.replicate (x8_2 : Int).toNat 0) := ⟨_, rfl⟩
             replace H : (laws_FnCrewShares.l2 kj12 t668 x4_1 x5_1 x8_2 t673 t674 y678 0) = some r := by first | (rw [hy678]; with_reducible exact H) | (have H2_ := (Option.bind_some _ _).symm.trans H; rw [hy678]; with_reducible exact H2_) | (have H2_ := (Option.bind_some _ _).symm.trans H; with_reducible exact H2_) | with_reducible exact H | (rw [hy678]; exact H) | exact H
             have Ny678 := Aside0.mk hy678
             clear hy678
             have H' := Aside0.mk H
             clear H
             go_wp2_with (first | ((with_reducible refine gate_dst (N := 88) rfl ?_); (try (refine gate_guard (by rfl) ?_; dsimp only)); refine Kd.R_make (Kd.int .i64) _ 2 rfl (N := 88) rfl 37 _ _ rfl x8_2 rfl rfl Try.underlying37 (.int .i64 0) 8 info2 rfl (by decide) (by omega) 0 (ok := fun _ => True) (okp := fun _ => True) rfl (fun _ hk => hk) trivial (od_) (Nat.le_trans (Nat.mul_le_mul_right _ (od_ : x8_2.toNat ≤ 35184372088832)) (by omega)) (Below.refl _ _) (Nat.le_refl _) ?_; intro v679 w30 ho31 hb hg_ hnew_; clear hg_ hnew_; (first | rw [← Ny678.out] at ho31 | (simp only [Int.reduceToNat] at ho31; rw [← Ny678.out] at ho31)); have n0_ := Aside0.mk (Kd.R_below (kr_ HO_3) hb); have n1_ := Aside0.mk (Kd.R_elder' (kr_ HO_9) (Kd.R_base ho31) hb); have n2_ := Aside0.mk (Kd.R_lower (Kd.R_new' ho31 (Kd.R_lt (kr_ HO_9))) (below_size hb_)); have n3_ := Aside0.mk (below_step hb_ hb); clear HO_3; clear HO_9; clear HB; have HO_3 := n0_; have HO_9 := n1_; have HO680 := n2_; have HB := n3_; clear n0_ n1_ n2_ n3_; clear hb ho31))
             go_loopg [13] kj12 (fun kq v13 w' => ∃ (x12_4 : List Int) (x13_4 : Int), v13 = .int .i64 x13_4 ∧ Aside0 (laws_FnCrewShares.l2 kq t668 x4_1 x5_1 x8_2 t673 t674 x12_4 x13_4 = some r) ∧ Aside0 (kq ≤ kj12) ∧ Aside0 (Kd.R k55 55 w' w.heap.size (fun _ => True) (.slice Ao10 t668.length co10) t668) ∧ Aside0 (Kd.R (Kd.int .i64) 2 w' w.heap.size (fun k_ => some k_ ≠ (v679 : Value).ownBlock) v676 t673) ∧ Aside0 (Kd.R (Kd.int .i64) 2 w' w.heap.size (fun k_ => some k_ ≠ (v676 : Value).ownBlock) v679 x12_4) ∧ Aside0 (Below w.heap.size w w'))
             case atStart => exact ⟨(y678), (0), (by first | rfl | (simp; done) | (simp [*]; done)), H', ⟨Nat.le_refl _⟩, ⟨by (with_reducible repeat (first | apply Kd.R_alloc | apply Kd.R_drewN | apply Kd.R_drew)); exact HO_3.out⟩, ⟨by (with_reducible repeat (first | apply Kd.R_alloc | apply Kd.R_drewN | apply Kd.R_drew)); exact Kd.R_mono HO_9.out (fun _ hk => hk.2)⟩, ⟨by (with_reducible repeat (first | apply Kd.R_alloc | apply Kd.R_drewN | apply Kd.R_drew)); exact Kd.R_mono HO680.out (fun _ hk => hk.2)⟩, ⟨hb_⟩⟩
             case round =>
              clear H'
              try clear c1
              try clear c2
              try clear p2
              try clear c3
              try clear c4
              try clear c6
              try clear c6b0
              try clear p6
              try clear q6
              try clear hx6
              try clear c7
              try clear c7b0
              try clear c11
              try clear c11b0
              try clear c13
              try clear c15
              try clear c15b0
              try clear c15b1
              try clear c16
              try clear c16b0
              try clear c16b1
              try clear c16b2
              try clear c17
              try clear c17b0
              try clear c19
              try clear c19b0
              try clear c21
              try clear c21b0
              try clear c23
              try clear c23b0
              try clear c23b1
              try clear c27
              try clear c28
              try clear c28b0
              try clear c28b1
              try clear c29
              try clear c29b0
              try clear c29b1
              try clear hx671_0
              try clear hx671_1
              try clear hx671_2
              try clear hx671_3
              try clear hx672_0
              try clear hx672_1
              try clear hx672_2
              try clear hx672_3
              try clear p2
              try clear p6
              try clear p671
              try clear p672
              try clear q6
              try clear q671
              try clear q672
              obtain ⟨x12_4, x13_4, rfl, HA, HK4, HO_3, HO_9, HO_12, HB⟩ := hrel
              cases gk with
              | zero => exact absurd HA.out (by simp [laws_FnCrewShares.l2])
              | succ k4 =>
               have H := HA.out
               clear HA
               simp only [laws_FnCrewShares.l2] at H
               by_cases c32 : x13_4 < (t673.length : Int)
               ·rw [if_pos c32] at H
                have c32b0 : decide (x13_4 < (t673.length : Int)) = true := decide_eq_true c32
                clear c32
                by_cases c33 : 0 ≤ x13_4
                ·rw [if_pos c33] at H
                 have c33b0 : decide (0 ≤ x13_4) = true := decide_eq_true c33
                 clear c33
                 by_cases c34 : (rd t673 x13_4) < 0
                 ·rw [if_pos c34] at H
                  have c34b0 : decide ((rd t673 x13_4) < 0) = true := decide_eq_true c34
                  clear c34
                  obtain rfl := Option.some.inj H
                  obtain ⟨Ao35, co35, eo35⟩ := Kd.R_slice HO_9.out
                  subst eo35
                  have p681 : 0 ≤ (x13_4 : Int) := od_
                  have q681 : x13_4 < (t673.length : Int) := od_
                  obtain ⟨ad681, e681, hx681_0⟩ := Kd.at_int (Kd.R_reads' HO_9.out).2.2 x13_4 p681 q681
                  cases e681
                  replace p681 := eq_true p681
                  replace q681 := eq_true q681
                  go_wp2
                  go_ret
                  exact ⟨ew_, hb_⟩
                 ·rw [if_neg c34] at H
                  have c34b0 : decide ((rd t673 x13_4) < 0) = false := decide_eq_false c34
                  clear c34
                  by_cases c36 : (rd t673 x13_4) ≥ x8_2
                  ·rw [if_pos c36] at H
                   have c36b0 : decide (x8_2 ≤ (rd t673 x13_4)) = true := decide_eq_true c36
                   clear c36
                   obtain rfl := Option.some.inj H
                   obtain ⟨Ao37, co37, eo37⟩ := Kd.R_slice HO_9.out
                   subst eo37
                   have p681 : 0 ≤ (x13_4 : Int) := od_
                   have q681 : x13_4 < (t673.length : Int) := od_
                   obtain ⟨ad681, e681, hx681_0⟩ := Kd.at_int (Kd.R_reads' HO_9.out).2.2 x13_4 p681 q681
                   cases e681
                   replace p681 := eq_true p681
                   replace q681 := eq_true q681
                   have p682 : 0 ≤ (x13_4 : Int) := od_
                   have q682 : x13_4 < (t673.length : Int) := od_
                   obtain ⟨ad682, e682, hx682_0⟩ := Kd.at_int (Kd.R_reads' HO_9.out).2.2 x13_4 p682 q682
                   obtain rfl : ad681 = ad682 := (by injection e682)
                   replace p682 := eq_true p682
                   replace q682 := eq_true q682
                   go_wp2
                   go_ret
                   exact ⟨ew_, hb_⟩
                  ·rw [if_neg c36] at H
                   have c36b0 : decide (x8_2 ≤ (rd t673 x13_4)) = false := decide_eq_false c36
                   clear c36
                   by_cases c38 : 0 ≤ (rd t673 x13_4)
                   ·rw [if_pos c38] at H
                    have c38b0 : decide (0 ≤ (rd t673 x13_4)) = true := decide_eq_true c38
                    clear c38
                    by_cases c39 : (rd t673 x13_4) < (x12_4.length : Int)
                    ·rw [if_pos c39] at H
                     have c39b0 : decide ((rd t673 x13_4) < (x12_4.length : Int)) = true := decide_eq_true c39
                     clear c39
                     by_cases c40 : x13_4 < (t668.length : Int)
                     ·rw [if_pos c40] at H
                      have c40b0 : decide (x13_4 < (t668.length : Int)) = true := decide_eq_true c40
                      clear c40
                      obtain ⟨y686, hy686⟩ : ∃ y_ : List Int, y_ = (x12_4.set ((rd t673 x13_4) : Int).toNat (wrap64 ((rd x12_4 (rd t673 x13_4)) + ((rd_T55 t668 x13_4).f1)))) := ⟨_, rfl⟩
                      replace H : (laws_FnCrewShares.l2 k4 t668 x4_1 x5_1 x8_2 t673 t674 y686 (wrap64 (x13_4 + 1))) = some r := by first | (rw [hy686]; with_reducible exact H) | (have H2_ := (Option.bind_some _ _).symm.trans H; rw [hy686]; with_reducible exact H2_) | (have H2_ := (Option.bind_some _ _).symm.trans H; with_reducible exact H2_) | with_reducible exact H | (rw [hy686]; exact H) | exact H
                      have Ny686 := Aside0.mk hy686
                      clear hy686
                      have H' := Aside0.mk H
                      clear H
                      obtain ⟨Ao42, co42, eo42⟩ := Kd.R_slice HO_9.out
                      subst eo42
                      have p681 : 0 ≤ (x13_4 : Int) := od_
                      have q681 : x13_4 < (t673.length : Int) := od_
                      obtain ⟨ad681, e681, hx681_0⟩ := Kd.at_int (Kd.R_reads' HO_9.out).2.2 x13_4 p681 q681
                      cases e681
                      replace p681 := eq_true p681
                      replace q681 := eq_true q681
                      have p682 : 0 ≤ (x13_4 : Int) := od_
                      have q682 : x13_4 < (t673.length : Int) := od_
                      obtain ⟨ad682, e682, hx682_0⟩ := Kd.at_int (Kd.R_reads' HO_9.out).2.2 x13_4 p682 q682
                      obtain rfl : ad681 = ad682 := (by injection e682)
                      replace p682 := eq_true p682
                      replace q682 := eq_true q682
                      try go_wp2
                      have n0_ := Aside0.mk (Kd.R_drew HO_3.out)
                      have n1_ := Aside0.mk (Kd.R_drew HO_9.out)
                      have n2_ := Aside0.mk (Kd.R_drew HO_12.out)
                      have n3_ := Aside0.mk (below_drew1 HB.out)
                      clear HO_3
                      clear HO_9
                      clear HO_12
                      clear HB
                      have HO_3 := n0_
                      have HO_9 := n1_
                      have HO_12 := n2_
                      have HB := n3_
                      clear n0_ n1_ n2_ n3_
                      have p683 : 0 ≤ (x13_4 : Int) := od_
                      have q683 : x13_4 < (t673.length : Int) := od_
                      obtain ⟨ad683, e683, hx683_0⟩ := Kd.at_int (Kd.R_reads' HO_9.out).2.2 x13_4 p683 q683
                      obtain rfl : ad681 = ad683 := (by injection e683)
                      replace p683 := eq_true p683
                      replace q683 := eq_true q683
                      obtain ⟨Ao44, co44, eo44⟩ := Kd.R_slice HO_12.out
                      (first | subst eo44 | (injection eo44 with f1_ f2_ f3_; have f4_ := f1_.symm; have f5_ := f3_.symm; clear f1_ f2_ f3_; subst f4_; subst f5_))
                      have p684 : 0 ≤ ((rd t673 x13_4) : Int) := od_
                      have q684 : (rd t673 x13_4) < (x12_4.length : Int) := od_
                      obtain ⟨ad684, e684, hx684_0⟩ := Kd.at_int (Kd.R_reads' HO_12.out).2.2 (rd t673 x13_4) p684 q684
                      cases e684
                      replace p684 := eq_true p684
                      replace q684 := eq_true q684
                      have p685 : 0 ≤ (x13_4 : Int) := od_
                      have q685 : x13_4 < (t668.length : Int) := od_
                      obtain ⟨ad685, e685, hx685_0, hx685_1, hx685_2, hx685_3⟩ := at_T55 (Kd.R_reads' HO_3.out).2.2 x13_4 p685 q685
                      cases e685
                      replace p685 := eq_true p685
                      replace q685 := eq_true q685
                      have p41 : 0 ≤ ((rd t673 x13_4) : Int) := od_
                      have q41 : ((rd t673 x13_4) : Int) < ((x12_4.length : Int) : Int) := od_
                      obtain ⟨go41, co41, eo41, gb41, gl41, cl41, HG41⟩ := Kd.R_form HO_12.out (by omega)
                      (first | cases eo41 | (injection eo41 with ea_ en_ ec_; (first | subst ea_ | (injection ea_ with ea_; subst ea_)); subst ec_; clear en_))
                      have GB41 := Aside0.mk gb41
                      have GG41 := Aside0.mk HG41
                      clear gb41 gl41 HG41
                      (first | simp only [add_plain] at hx684_0 | skip)
                      obtain ⟨hx41_0, hf41_0⟩ := Kd.R_celln 0 HO_12.out ((rd t673 x13_4) : Int) p41 q41
                      replace p41 := eq_true p41
                      replace q41 := eq_true q41
                      have HP45 := Kd.R_putn HO_12.out ((rd t673 x13_4) : Int) (wrap64 ((rd x12_4 (rd t673 x13_4)) + ((rd_T55 t668 x13_4).f1)))
                      rw [← Ny686.out] at HP45
                      have HQ45 := Aside0.mk HP45
                      clear HP45
                      refine start_ (n := 15) (S := fun w' => w'.cell? (ad681.add (x13_4).toNat) = some (.int .i64 (rd t673 x13_4)) ∧ w'.cell? ⟨go41, ((rd t673 x13_4)).toNat, none⟩ = some (.int .i64 (rd x12_4 (rd t673 x13_4))) ∧ w'.cell? (ad685.add ((x13_4).toNat * 4)) = some (.string ((rd_T55 t668 x13_4).f0)) ∧ w'.cell? ⟨(ad685.add ((x13_4).toNat * 4)).block, (ad685.add ((x13_4).toNat * 4)).off + 1, none⟩ = some (.int .i64 ((rd_T55 t668 x13_4).f1)) ∧ w'.cell? ⟨(ad685.add ((x13_4).toNat * 4)).block, (ad685.add ((x13_4).toNat * 4)).off + 2, none⟩ = some (.int .i64 ((rd_T55 t668 x13_4).f2)) ∧ w'.cell? ⟨(ad685.add ((x13_4).toNat * 4)).block, (ad685.add ((x13_4).toNat * 4)).off + 3, none⟩ = some (.int .i64 ((rd_T55 t668 x13_4).f3))) (ds := [14]) #[F_,F_,F_,F_,F_,F_,F_,F_,F_,F_,F_,F_,F_,F_,F_] (by kernel_rfl) rfl rfl ⟨hx683_0, hx684_0, hx685_0, hx685_1, hx685_2, hx685_3⟩ (fun hHeld => ?_); refine with_tabW laws_FnCrewShares.tab24 laws_FnCrewShares.bits24 (fun HT_ HW_ => ?_)
                      generalize wr.drew = w43 at HO_3 HO_9 HO_12 HB GG41 HQ45 hf41_0 hx41_0 hx683_0 hx684_0 hx685_0 hx685_1 hx685_2 hx685_3 hHeld ⊢
                      refine pu (i := 0) (N := some 108) #[T_,F_,F_,F_,F_,F_,F_,F_,F_,F_,F_,F_,F_,F_,F_] HT_ ?_
                      refine pu (i := 1) (N := some 109) #[T_,T_,F_,F_,F_,F_,F_,F_,F_,F_,F_,F_,F_,F_,F_] HT_ ?_
                      refine pu (i := 2) (N := some 110) #[T_,T_,T_,F_,F_,F_,F_,F_,F_,F_,F_,F_,F_,F_,F_] HT_ ?_
                      refine pu (i := 3) (N := some 111) #[T_,T_,T_,T_,F_,F_,F_,F_,F_,F_,F_,F_,F_,F_,F_] HT_ ?_
                      refine pu (i := 7) (N := some 115) #[T_,T_,T_,T_,F_,F_,F_,T_,F_,F_,F_,F_,F_,F_,F_] HT_ ?_
                      refine pu (i := 8) (N := some 116) #[T_,T_,T_,T_,F_,F_,F_,T_,T_,F_,F_,F_,F_,F_,F_] HT_ ?_
                      refine pu (i := 9) (N := some 117) #[T_,T_,T_,T_,F_,F_,F_,T_,T_,T_,F_,F_,F_,F_,F_] HT_ ?_
                      refine pu (i := 10) (N := some 118) #[T_,T_,T_,T_,F_,F_,F_,T_,T_,T_,T_,F_,F_,F_,F_] HT_ ?_
                      refine take_ (i := 4) (N := some 112) (v := ?_) (a' := ?_) #[T_,T_,T_,T_,T_,F_,F_,T_,T_,T_,T_,F_,F_,F_,F_] rfl rfl (take_ofW HT_.out HW_.out (by kernel_rfl)) (fun _ _ _ h => h) (Or.inl ⟨by rfl, ?_⟩) hHeld ?_ ?_
                      rotate_left
                      ·rintro w' ⟨s0, s1, s2, s3, s4, s5⟩
                       go_simp
                       with_reducible rfl
                      rotate_left
                      ·simp only [Act.put, sT_, s0_, sS_, i64_w, i32_w]
                       rfl
                      refine pu (i := 5) (N := some 113) #[T_,T_,T_,T_,T_,T_,F_,T_,T_,T_,T_,F_,F_,F_,F_] HT_ ?_
                      refine take_ (i := 6) (N := some 114) (v := ?_) (a' := ?_) #[T_,T_,T_,T_,T_,T_,T_,T_,T_,T_,T_,F_,F_,F_,F_] rfl rfl (take_ofW HT_.out HW_.out (by kernel_rfl)) (fun _ _ _ h => h) (Or.inl ⟨by rfl, ?_⟩) hHeld ?_ ?_
                      rotate_left
                      ·rintro w' ⟨s0, s1, s2, s3, s4, s5⟩
                       go_simp
                       with_reducible rfl
                      rotate_left
                      ·simp only [Act.put, sT_, s0_, sS_, i64_w, i32_w]
                       rfl
                      refine take_ (i := 11) (N := some 119) (v := ?_) (a' := ?_) #[T_,T_,T_,T_,T_,T_,T_,T_,T_,T_,T_,T_,F_,F_,F_] rfl rfl (take_ofW HT_.out HW_.out (by kernel_rfl)) (fun _ _ _ h => h) (Or.inl ⟨by rfl, ?_⟩) hHeld ?_ ?_
                      rotate_left
                      ·rintro w' ⟨s0, s1, s2, s3, s4, s5⟩
                       go_simp
                       with_reducible rfl
                      rotate_left
                      ·simp only [Act.put, sT_, s0_, sS_, i64_w, i32_w]
                       rfl
                      refine pu (i := 12) (N := some 120) #[T_,T_,T_,T_,T_,T_,T_,T_,T_,T_,T_,T_,T_,F_,F_] HT_ ?_
                      refine pu (i := 13) (N := some 121) #[T_,T_,T_,T_,T_,T_,T_,T_,T_,T_,T_,T_,T_,T_,F_] HT_ ?_
                      refine last_ (i := 14) (N := none) #[T_,T_,T_,T_,T_,T_,T_,T_,T_,T_,T_,T_,T_,T_,T_] rfl rfl (one_of HT_.out (by kernel_rfl)) (by decide) (fun K hK => ?_)
                      refine skip_ (w1 := ?_) (by rfl) rfl ?_ ?_
                      rotate_left
                      ·go_simp
                       rfl
                      refine hK.out _ _ ?_
                      clear hK K
                      refine done_ (done_of HT_.out (by kernel_rfl)) ?_
                      try go_wp2
                      go_roundg k4
                      case measure => have := HK1.out; have := HK2.out; have := HJ12.out; have := HK4.out; omega
                      case rel => exact ⟨(y686), (wrap64 (x13_4 + 1)), (by first | rfl | (simp; done) | (simp [*]; done)), H', ⟨by have := HK1.out; have := HK2.out; have := HJ12.out; have := HK4.out; omega⟩, ⟨by (with_reducible repeat (first | apply Kd.R_alloc | apply Kd.R_drewN | apply Kd.R_drew)); exact Kd.R_mono (Kd.R_far (p := ⟨go41, ((rd t673 x13_4) : Int).toNat, none⟩) (Kd.R_types HO_3.out GG41.out (by decide)) (fun _ hk => hk.2) (.int .i64 (wrap64 ((rd x12_4 (rd t673 x13_4)) + ((rd_T55 t668 x13_4).f1))))) (fun _ hk => trivial)⟩, ⟨by (with_reducible repeat (first | apply Kd.R_alloc | apply Kd.R_drewN | apply Kd.R_drew)); exact Kd.R_mono (Kd.R_far (p := ⟨go41, ((rd t673 x13_4) : Int).toNat, none⟩) (Kd.R_mono HO_9.out (fun k_ hk => (⟨hk, fun e_ => hk (by rw [e_]; rfl)⟩ : _ ∧ k_ ≠ go41))) (fun _ hk => hk.2) (.int .i64 (wrap64 ((rd x12_4 (rd t673 x13_4)) + ((rd_T55 t668 x13_4).f1))))) (fun _ hk => hk.1)⟩, ⟨by (with_reducible repeat (first | apply Kd.R_alloc | apply Kd.R_drewN | apply Kd.R_drew)); exact HQ45.out⟩, ⟨(hg_ GB41)⟩⟩
                     ·rw [if_neg c40] at H
                      exact absurd H (by simp)
                    ·rw [if_neg c39] at H
                     exact absurd H (by simp)
                   ·rw [if_neg c38] at H
                    exact absurd H (by simp)
                ·rw [if_neg c33] at H
                 exact absurd H (by simp)
               ·rw [if_neg c32] at H
                have c32b0 : decide (x13_4 < (t673.length : Int)) = false := decide_eq_false c32
                clear c32
                have H' := Aside0.mk H
                clear H
                obtain ⟨Ao46, co46, eo46⟩ := Kd.R_slice HO_9.out
                subst eo46
                go_wp2
                go_loopg [14, 15] k4 (fun kq v14 v15 w' => ∃ (x14_5 : Int) (x15_5 : Int), v14 = .int .i64 x14_5 ∧ v15 = .int .i64 x15_5 ∧ Aside0 (laws_FnCrewShares.l3 kq t668 x4_1 x5_1 x8_2 t674 x12_4 x14_5 x15_5 = some r) ∧ Aside0 (kq ≤ k4) ∧ Aside0 (Kd.R k55 55 w' w.heap.size (fun _ => True) (.slice Ao10 t668.length co10) t668) ∧ Aside0 (Kd.R (Kd.int .i64) 2 w' w.heap.size (fun _ => True) v679 x12_4) ∧ Aside0 (Below w.heap.size w w'))
                case atStart => exact ⟨(0), (0), (by first | rfl | (simp; done) | (simp [*]; done)), (by first | rfl | (simp; done) | (simp [*]; done)), H', ⟨Nat.le_refl _⟩, ⟨by (with_reducible repeat (first | apply Kd.R_alloc | apply Kd.R_drewN | apply Kd.R_drew)); exact HO_3.out⟩, ⟨by (with_reducible repeat (first | apply Kd.R_alloc | apply Kd.R_drewN | apply Kd.R_drew)); exact Kd.R_mono HO_12.out (fun _ hk => trivial)⟩, ⟨hb_⟩⟩
                case round =>
                 clear H'
                 try clear c1
                 try clear c2
                 try clear p2
                 try clear c3
                 try clear c4
                 try clear p4
                 try clear q4
                 try clear hx4
                 try clear hf4
                 try clear c6
                 try clear c6b0
                 try clear p6
                 try clear q6
                 try clear hx6
                 try clear c7
                 try clear c7b0
                 try clear c11
                 try clear c11b0
                 try clear c13
                 try clear c15
                 try clear c15b0
                 try clear c15b1
                 try clear c16
                 try clear c16b0
                 try clear c16b1
                 try clear c16b2
                 try clear c17
                 try clear c17b0
                 try clear c19
                 try clear c19b0
                 try clear c21
                 try clear c21b0
                 try clear c23
                 try clear c23b0
                 try clear c23b1
                 try clear c27
                 try clear c28
                 try clear c28b0
                 try clear c28b1
                 try clear c29
                 try clear c29b0
                 try clear c29b1
                 try clear c32
                 try clear c32b0
                 try clear c33
                 try clear c33b0
                 try clear c34
                 try clear c34b0
                 try clear c36
                 try clear c36b0
                 try clear c38
                 try clear c38b0
                 try clear c39
                 try clear c39b0
                 try clear c40
                 try clear c40b0
                 try clear p41
                 try clear q41
                 try clear hx41
                 try clear hf41
                 try clear hx41_0
                 try clear hx671_0
                 try clear hx671_1
                 try clear hx671_2
                 try clear hx671_3
                 try clear hx672_0
                 try clear hx672_1
                 try clear hx672_2
                 try clear hx672_3
                 try clear hx681_0
                 try clear hx682_0
                 try clear hx683_0
                 try clear hx684_0
                 try clear hx685_0
                 try clear hx685_1
                 try clear hx685_2
                 try clear hx685_3
                 try clear p2
                 try clear p41
                 try clear p6
                 try clear p671
                 try clear p672
                 try clear p681
                 try clear p682
                 try clear p683
                 try clear p684
                 try clear p685
                 try clear q41
                 try clear q6
                 try clear q671
                 try clear q672
                 try clear q681
                 try clear q682
                 try clear q683
                 try clear q684
                 try clear q685
                 obtain ⟨x14_5, x15_5, rfl, rfl, HA, HK5, HO_3, HO_12, HB⟩ := hrel
                 cases gk with
                 | zero => exact absurd HA.out (by simp [laws_FnCrewShares.l3])
                 | succ k5 =>
                  have H := HA.out
                  clear HA
                  simp only [laws_FnCrewShares.l3] at H
                  by_cases c47 : x15_5 < (x12_4.length : Int)
                  ·rw [if_pos c47] at H
                   have c47b0 : decide (x15_5 < (x12_4.length : Int)) = true := decide_eq_true c47
                   clear c47
                   by_cases c48 : 0 ≤ x15_5
                   ·rw [if_pos c48] at H
                    have c48b0 : decide (0 ≤ x15_5) = true := decide_eq_true c48
                    clear c48
                    obtain ⟨ji49, hji49⟩ : ∃ j_ : Int, (mx x14_5 (rd x12_4 x15_5)) = j_ := ⟨_, rfl⟩
                    replace H : (laws_FnCrewShares.l3 k5 t668 x4_1 x5_1 x8_2 t674 x12_4 ji49 (wrap64 (x15_5 + 1))) = some r := by first | (rw [hji49] at H; exact H) | (simp only [hji49] at H ⊢; exact H)
                    have hji49_ : (if x14_5 < (rd x12_4 x15_5) then (rd x12_4 x15_5) else x14_5) = ji49 := hji49
                    have H' := Aside0.mk H
                    clear H
                    obtain ⟨Ao50, co50, eo50⟩ := Kd.R_slice HO_12.out
                    subst eo50
                    have p687 : 0 ≤ (x15_5 : Int) := od_
                    have q687 : x15_5 < (x12_4.length : Int) := od_
                    obtain ⟨ad687, e687, hx687_0⟩ := Kd.at_int (Kd.R_reads' HO_12.out).2.2 x15_5 p687 q687
                    cases e687
                    replace p687 := eq_true p687
                    replace q687 := eq_true q687
                    go_wp2
                    go_roundg k5
                    case measure => have := HK1.out; have := HK2.out; have := HJ12.out; have := HK4.out; have := HK5.out; omega
                    case rel => exact ⟨(ji49), (wrap64 (x15_5 + 1)), (by first | rfl | (simp; done) | (simp only [← hji49] <;> (first | rfl | simp)) | (simp [*]; done)), (by first | rfl | (simp; done) | (simp [*]; done)), H', ⟨by have := HK1.out; have := HK2.out; have := HJ12.out; have := HK4.out; have := HK5.out; omega⟩, ⟨by (with_reducible repeat (first | apply Kd.R_alloc | apply Kd.R_drewN | apply Kd.R_drew)); exact HO_3.out⟩, ⟨by (with_reducible repeat (first | apply Kd.R_alloc | apply Kd.R_drewN | apply Kd.R_drew)); exact HO_12.out⟩, ⟨hb_⟩⟩
                   ·rw [if_neg c48] at H
                    exact absurd H (by simp)
                  ·rw [if_neg c47] at H
                   have c47b0 : decide (x15_5 < (x12_4.length : Int)) = false := decide_eq_false c47
                   clear c47
                   by_cases c51 : x14_5 = t674
                   ·rw [if_pos c51] at H
                    have c51b0 : (x14_5 == t674) = true := beq_iff_eq.mpr c51
                    have c51b1 : (x14_5 != t674) = false := bne_eq_false_iff_eq.mpr c51
                    clear c51
                    have H' := Aside0.mk H
                    clear H
                    obtain ⟨Ao52, co52, eo52⟩ := Kd.R_slice HO_12.out
                    subst eo52
                    go_wp2
                    go_roundg k5
                    case measure => have := HK1.out; have := HK2.out; have := HJ12.out; have := HK4.out; have := HK5.out; omega
                    case rel => exact ⟨(t674), (wrap64 (x8_2 + 1)), (by first | rfl | (simp; done) | (simp [*]; done)), (by first | rfl | (simp; done) | (simp [*]; done)), H', ⟨by have := HK1.out; have := HK2.out; have := HJ12.out; have := HK4.out; have := HK5.out; omega⟩, ⟨by (with_reducible repeat (first | apply Kd.R_alloc | apply Kd.R_drewN | apply Kd.R_drew)); exact HO_3.out⟩, ⟨hb_⟩⟩
                   ·rw [if_neg c51] at H
                    have c51b0 : (x14_5 == t674) = false := beq_eq_false_iff_ne.mpr c51
                    have c51b1 : (x14_5 != t674) = true := bne_iff_ne.mpr c51
                    obtain rfl := Option.some.inj H
                    obtain ⟨Ao53, co53, eo53⟩ := Kd.R_slice HO_12.out
                    subst eo53
                    go_wp2
                    go_ret
                    exact ⟨ew_, hb_⟩
            ·rw [if_neg c29] at H
             exact absurd H (by simp)
           ·rw [if_neg c28] at H
            exact absurd H (by simp)
       ·rw [if_neg c11] at H
        have c11b0 : decide (x8_2 ≤ 4) = false := decide_eq_false c11
        clear c11
        obtain rfl := Option.some.inj H
        go_wp2
        go_ret
        exact ⟨ew_, hb_⟩

/-- THE ONE PURE STATEMENT of laws_FnCrewShares: yours. -/
def laws_FnCrewShares.Pure : Prop := ∀ (l0 : List Int), l0.length ≤ maxLen → l0.length * 1 ≤ 140737488351232 → (∀ x ∈ l0, (Lit.int .u8 x).wf = true) → ∃ k, laws_FnCrewShares.f k l0 = some true
theorem laws_FnCrewShares.walk (P : laws_FnCrewShares.Pure) (a0 : Option Addr) (len0 cap0 : Nat) (z0 : List Int) (w : World) (w0 : (a0 = none ∧ len0 = 0 ∧ cap0 = 0 ∧ z0 = []) ∨ ∃ x, a0 = some x ∧ len0 ≤ cap0 ∧ cap0 ≤ maxLen ∧ z0.length = cap0 ∧ (∀ i, i < z0.length → w.cell? (x.add i) = some (.int .u8 (z0.getD i 0))) ∧ ∀ n ∈ z0, (Lit.int .u8 n).wf = true) (y0 : len0 * 1 ≤ 140737488351232) :
  Calls Try.prog 13 #[.slice a0 len0 cap0] w fun e w' => e = .returned (.bool true) ∧ Below w.heap.size w w' := by
 obtain ⟨l0, rfl, hr0, hm0, hw0, hc0⟩ := ReadsInt.ofRowC w0
 obtain ⟨k, h⟩ := P l0 hm0 y0 hw0
 refine (laws_FnCrewShares.calls k _ _ l0 true w (Kd.C_of_reads (d := (0 : Int)) (h1 := fun _ => rfl) hr0) hc0 h).mono ?_
 rintro e w' ⟨rfl, hd⟩
 exact ⟨rfl, hd⟩

end Go.Proofs.Ytkegmjebkikniaa.P
