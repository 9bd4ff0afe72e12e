/- Texts of this claim, packed: Px2. -/
import Derived.Test.YtfenjlkopofopaaZFnWear3
section
-- Written by gprint.py (own program, over the printer of the kit) out of the translation. Lean checks it.
namespace Go.Proofs.Ytfenjlkopofopaa.P
open Go.RowKit Go.Proofs.YtfenjlkopofopaaW.PrintWords Go.Proofs.YtfenjlkopofopaaW.PrintLast Go.Proofs.YtfenjlkopofopaaW.PrintMore Go.Proofs.YtfenjlkopofopaaW.Pk
open Bool renaming true → T_, false → F_
open List renaming setIfInBounds_toArray → sT_, set_cons_zero → s0_, set_cons_succ → sS_
attribute [local go_sem] max2_int min2_int max_two min_two max_three min_three max_four min_four   -- for this text's walks alone
set_option linter.unusedVariables false
set_option linter.unusedSimpArgs false

/-! ### spec_l21Checks: function 79 -/
mutual
def spec_l21Checks.j0 : Nat → List (S72) → List (S75) → Bool → Option (Bool)
 | 0, _, _, _ => none
 | k + 1, x0, x1, x14 => if x14 = true then (some false) else (spec_l21Checks.l0 k x0 x1 0)
def spec_l21Checks.l0 : Nat → List (S72) → List (S75) → Int → Option (Bool)
 | 0, _, _, _ => none
 | k + 1, x0, x1, x5 => if x5 < (x1.length : Int) then (if 0 ≤ x5 then ((spec_l21Check.f k x0 ((rd_T75 x1 x5).f0) ((rd_T75 x1 x5).f1) ((rd_T75 x1 x5).f2)).bind fun t229 => (if t229 = true then (if x5 > 0 then (if 0 ≤ (wrap64 (x5 - 1)) then (if (wrap64 (x5 - 1)) < (x1.length : Int) then (spec_l21Checks.j2 k x0 x1 x5 (decide (((rd_T75 x1 (wrap64 (x5 - 1))).f1) > ((rd_T75 x1 x5).f1)))) else (none)) else (none)) else (spec_l21Checks.j2 k x0 x1 x5 false)) else (spec_l21Checks.j2 k x0 x1 x5 true))) else (none)) else (some true)
def spec_l21Checks.j2 : Nat → List (S72) → List (S75) → Int → Bool → Option (Bool)
 | 0, _, _, _, _ => none
 | k + 1, x0, x1, x5, x44 => if x44 = true then (some false) else (spec_l21Checks.l1 k x0 x1 x5 0)
def spec_l21Checks.l1 : Nat → List (S72) → List (S75) → Int → Int → Option (Bool)
 | 0, _, _, _, _ => none
 | k + 1, x0, x1, x5, x6 => if x6 < x5 then (if 0 ≤ x6 then (if x6 < (x1.length : Int) then (if 0 ≤ x5 then (if x5 < (x1.length : Int) then (if ((rd_T75 x1 x6).f0).toList = ((rd_T75 x1 x5).f0).toList then (if ((rd_T75 x1 x6).f1) = ((rd_T75 x1 x5).f1) then (some false) else (if ((rd_T75 x1 x6).f2) > ((rd_T75 x1 x5).f2) then (some false) else (spec_l21Checks.l1 k x0 x1 x5 (wrap64 (x6 + 1))))) else (spec_l21Checks.l1 k x0 x1 x5 (wrap64 (x6 + 1)))) else (none)) else (none)) else (none)) else (none)) else (spec_l21Checks.l0 k x0 x1 (wrap64 (x5 + 1)))
end
def spec_l21Checks.f (k : Nat) (l0 : List (S72)) (l1 : List (S75)) : Option (Bool) := (spec_l21Ok.f k l0).bind fun t227 => (if t227 = true then (spec_l21Checks.j0 k l0 l1 (decide ((l1.length : Int) > 60))) else (spec_l21Checks.j0 k l0 l1 true))
def spec_l21Checks.T6 : Bool × List (List Nat × List Nat) := (true, [([], []), ([], []), ([], []), ([1, 2], [1, 2]), ([0, 3], [0, 3]), ([4], [4]), ([5, 4], [5]), ([6], [6]), ([7, 6], [6, 7]), ([8, 6, 6], [6, 8]), ([9], [9]), ([9], [9]), ([11, 9], [9, 11]), ([10, 12, 9], [9, 10, 12]), ([13, 9], [9, 13]), ([14, 9], [9, 14]), ([9], [9]), ([9], [9]), ([16, 17, 9], [9, 16, 17]), ([18, 9], [9, 18]), ([19, 9], [9, 19]), ([15, 20, 9], [9, 15, 20]), ([9, 21, 6], [6, 9, 21]), ([6, 22], [6, 22])])
def spec_l21Checks.B6 : List Nat := [0, 0, 0, 6, 15, 31, 63, 127, 255, 511, 1023, 1023, 3071, 8191, 16383, 32767, 1023, 1023, 197631, 459775, 984063, 2097151, 4194303, 8388607]
theorem spec_l21Checks.tab6 : rtab .any (opsOf Try.f79 6) = spec_l21Checks.T6 := by kernel_rfl
theorem spec_l21Checks.bits6 : waitsOk spec_l21Checks.T6.2 spec_l21Checks.B6 = true := by kernel_rfl
def spec_l21Checks.T11 : Bool × List (List Nat × List Nat) := (true, [([], []), ([], []), ([0, 1], [0, 1]), ([2], [2]), ([3], [3]), ([], []), ([], []), ([5, 6], [5, 6]), ([7], [7]), ([8], [8]), ([4, 9], [4, 9]), ([10], [10]), ([11], [11]), ([11], [11]), ([12, 13, 11], [11, 12, 13]), ([14, 11], [11, 14]), ([15, 11], [11, 15]), ([11], [11]), ([11], [11]), ([17, 18, 11], [11, 17, 18]), ([19, 11], [11, 19]), ([20, 11], [11, 20]), ([16, 21, 11], [11, 16, 21]), ([22, 11, 11], [11, 22]), ([23], [23]), ([23], [23]), ([24, 25, 23], [23, 24, 25]), ([26, 23], [23, 26]), ([27, 23], [23, 27]), ([23], [23]), ([23], [23]), ([29, 30, 23], [23, 29, 30]), ([31, 23], [23, 31]), ([32, 23], [23, 32]), ([28, 33, 23], [23, 28, 33]), ([23, 34, 11], [11, 23, 34]), ([11, 35], [11, 35])])
def spec_l21Checks.B11 : List Nat := [0, 0, 3, 7, 15, 0, 0, 96, 224, 480, 1023, 2047, 4095, 4095, 16383, 32767, 65535, 4095, 4095, 397311, 921599, 1970175, 4194303, 8388607, 16777215, 16777215, 67108863, 134217727, 268435455, 16777215, 16777215, 1627389951, 3774873599, 8069840895, 17179869183, 34359738367, 68719476735]
theorem spec_l21Checks.tab11 : rtab .any (opsOf Try.f79 11) = spec_l21Checks.T11 := by kernel_rfl
theorem spec_l21Checks.bits11 : waitsOk spec_l21Checks.T11.2 spec_l21Checks.B11 = true := by kernel_rfl
set_option maxHeartbeats 8000000 in
set_option maxRecDepth 100000 in
theorem spec_l21Checks.calls (k : Nat) (A0 : Option Addr) (c0 : Nat) (l0 : List (S72)) (A1 : Option Addr) (c1 : Nat) (l1 : List (S75)) (r : Bool) (w : World) (hr0 : Kd.C k72 w A0 l0.length l0) (hc0 : l0.length ≤ c0) (hr1 : Kd.C k75 w A1 l1.length l1) (hc1 : l1.length ≤ c1) (h : spec_l21Checks.f k l0 l1 = some r) :
  Calls Try.prog 79 #[.slice A0 l0.length c0, .slice A1 l1.length c1] w fun e w' => e = .returned (.bool r) ∧ Below w.heap.size w w' := by
 have HR0 := ak_ hr0
 have HC0 := ak_ hc0
 clear hr0 hc0
 have HR1 := ak_ hr1
 have HC1 := ak_ hc1
 clear hr1 hc1
 have HB := ak_ (Below.refl w.heap.size w)
 have H : ((spec_l21Ok.f k l0).bind fun t227 => (if t227 = true then (spec_l21Checks.j0 k l0 l1 (decide ((l1.length : Int) > 60))) else (spec_l21Checks.j0 k l0 l1 true))) = some r := h
 clear h
 have HC3 := ak_ H
 clear H
 go_enter Try.func79, Try.ntmps79
 go_upto_region 1 with (fail)
 go_cut [14] (fun v14 wc => ∃ (kq : Nat) (x14_2 : Bool), v14 = .bool x14_2 ∧ Aside0 (spec_l21Checks.j0 kq l0 l1 x14_2 = some r) ∧ Aside0 (kq ≤ k) ∧ Aside0 (Below w.heap.size w wc))
 case first =>
  have H := HC3.out
  clear HC3
  replace H := ob_ H
  obtain ⟨t227, A40, H⟩ := H
  replace H : (if t227 = true then (spec_l21Checks.j0 k l0 l1 (decide ((l1.length : Int) > 60))) else (spec_l21Checks.j0 k l0 l1 true)) = some r := H
  have A4 := ak_ A40
  clear A40
  by_cases c5 : t227 = true
  ·subst c5
   have H1 : (spec_l21Checks.j0 k l0 l1 (decide ((l1.length : Int) > 60))) = some r := by rw [if_pos rfl] at H; exact H
   clear H
   have H := H1
   clear H1
   have H' := ak_ H
   clear H
   go_wp2_with (first | ((with_reducible refine gate_callee (f := 88) rfl ?_); refine goesL_ (some 8) rfl rfl Try.func88 (by kernel_rfl) rfl #[.slice A0 l0.length c0] rfl ln_ ?_; (with_reducible refine (spec_l21Ok.calls k _ _ l0 true _ ?side1 ?side2 A4.out).mono ?_); (case side1 => exact kc_ (Kd.C_below HR0.out HB.out)); (case side2 => exact HC0.out); rintro e w6 ⟨rfl, hb⟩; refine ⟨_, rfl, ?_⟩; have n0_ := ak_ (below_step hb_ hb); clear HB; have HB := n0_; clear n0_; clear hb))
   go_meet
   case rel => exact ⟨_, (decide ((l1.length : Int) > 60)), fr_, H', ⟨by first | omega | exact Nat.le_refl _⟩, ⟨hb_⟩⟩
  ·replace c5 := Bool.eq_false_iff.mpr c5
   subst c5
   have H1 : (spec_l21Checks.j0 k l0 l1 true) = some r := by rw [if_neg (show ¬ (false = true) by decide)] at H; exact H
   clear H
   have H := H1
   clear H1
   have H' := ak_ H
   clear H
   go_wp2_with (first | ((with_reducible refine gate_callee (f := 88) rfl ?_); refine goesL_ (some 8) rfl rfl Try.func88 (by kernel_rfl) rfl #[.slice A0 l0.length c0] rfl ln_ ?_; (with_reducible refine (spec_l21Ok.calls k _ _ l0 false _ ?side1 ?side2 A4.out).mono ?_); (case side1 => exact kc_ (Kd.C_below HR0.out HB.out)); (case side2 => exact HC0.out); rintro e w7 ⟨rfl, hb⟩; refine ⟨_, rfl, ?_⟩; have n0_ := ak_ (below_step hb_ hb); clear HB; have HB := n0_; clear n0_; clear hb))
   go_meet
   case rel => exact ⟨_, (true), fr_, H', ⟨by first | omega | exact Nat.le_refl _⟩, ⟨hb_⟩⟩
 case rest =>
  clear HC3
  try clear c1
  try clear p2
  try clear c5
  try clear c7
  obtain ⟨kq, x14_2, rfl, HA, HJ2, HB⟩ := hcut
  cases kq with
  | zero => exact absurd HA.out (by simp [spec_l21Checks.j0])
  | succ kj2 =>
   have H := HA.out
   clear HA
   simp only [spec_l21Checks.j0] at H
   by_cases c8 : x14_2 = true
   ·subst c8
    have H1 : (some false) = some r := by rw [if_pos rfl] at H; exact H
    clear H
    have H := H1
    clear H1
    obtain rfl := Option.some.inj H
    go_wp2
    go_ret
    exact ⟨ew_, hb_⟩
   ·replace c8 := Bool.eq_false_iff.mpr c8
    subst c8
    have H1 : (spec_l21Checks.l0 kj2 l0 l1 0) = some r := by rw [if_neg (show ¬ (false = true) by decide)] at H; exact H
    clear H
    have H := H1
    clear H1
    have H' := ak_ H
    clear H
    go_wp2
    go_loopg [5] kj2 (fun kq v5 w' => ∃ (x5_2 : Int), v5 = .int .i64 x5_2 ∧ Aside0 (spec_l21Checks.l0 kq l0 l1 x5_2 = some r) ∧ Aside0 (kq ≤ kj2) ∧ Aside0 (Below w.heap.size w w'))
    case atStart => exact ⟨(0), fr_, H', ⟨Nat.le_refl _⟩, ⟨hb_⟩⟩
    case round =>
     clear H'
     try clear c1
     try clear p2
     try clear c5
     try clear c7
     try clear c8
     try clear p2
     obtain ⟨x5_2, rfl, HA, HK2, HB⟩ := hrel
     cases gk with
     | zero => exact absurd HA.out (by simp [spec_l21Checks.l0])
     | succ k2 =>
      have H := HA.out
      clear HA
      simp only [spec_l21Checks.l0] at H
      by_cases c9 : x5_2 < (l1.length : Int)
      ·rw [if_pos c9] at H
       have c9b0 : decide (x5_2 < (l1.length : Int)) = true := dt_ c9
       clear c9
       have HC10 := ak_ H
       clear H
       go_upto_region 6 with (fail)
       go_cut [44] (fun v44 wc => ∃ (kq : Nat) (x44_9 : Bool), v44 = .bool x44_9 ∧ Aside0 (spec_l21Checks.j2 kq l0 l1 x5_2 x44_9 = some r) ∧ Aside0 (kq ≤ k2) ∧ Aside0 (Below w.heap.size w wc))
       case first =>
        have H := HC10.out
        clear HC10
        by_cases c11 : 0 ≤ x5_2
        ·rw [if_pos c11] at H
         have c11b0 : decide (0 ≤ x5_2) = true := dt_ c11
         clear c11
         (first | rw [c11b0] | (simp only [i64_w, i32_w]; rw [c11b0]) | skip)
         replace H := ob_ H
         obtain ⟨t229, A120, H⟩ := H
         replace H : (if t229 = true then (if x5_2 > 0 then (if 0 ≤ (wrap64 (x5_2 - 1)) then (if (wrap64 (x5_2 - 1)) < (l1.length : Int) then (spec_l21Checks.j2 k2 l0 l1 x5_2 (decide (((rd_T75 l1 (wrap64 (x5_2 - 1))).f1) > ((rd_T75 l1 x5_2).f1)))) else (none)) else (none)) else (spec_l21Checks.j2 k2 l0 l1 x5_2 false)) else (spec_l21Checks.j2 k2 l0 l1 x5_2 true)) = some r := H
         have A12 := ak_ A120
         clear A120
         by_cases c13 : t229 = true
         ·subst c13
          have H1 : (if x5_2 > 0 then (if 0 ≤ (wrap64 (x5_2 - 1)) then (if (wrap64 (x5_2 - 1)) < (l1.length : Int) then (spec_l21Checks.j2 k2 l0 l1 x5_2 (decide (((rd_T75 l1 (wrap64 (x5_2 - 1))).f1) > ((rd_T75 l1 x5_2).f1)))) else (none)) else (none)) else (spec_l21Checks.j2 k2 l0 l1 x5_2 false)) = some r := by rw [if_pos rfl] at H; exact H
          clear H
          have H := H1
          clear H1
          by_cases c14 : x5_2 > 0
          ·rw [if_pos c14] at H
           have c14b0 : decide (0 < x5_2) = true := dt_ c14
           clear c14
           obtain ⟨ji15, hji15⟩ : ∃ j_ : Int, (wrap64 (x5_2 - 1)) = j_ := ⟨_, rfl⟩
           replace H : (if 0 ≤ (ji15) then (if (ji15) < (l1.length : Int) then (spec_l21Checks.j2 k2 l0 l1 x5_2 (decide (((rd_T75 l1 (ji15)).f1) > ((rd_T75 l1 x5_2).f1)))) else (none)) else (none)) = some r := by first | (rw [hji15] at H; exact H) | (simp only [hji15] at H ⊢; exact H)
           (try rw [hji15] at A12)
           have hji15w : (IntKind.i64.wrap (x5_2 - 1)) = ji15 := (i64_w _).trans hji15
           by_cases c16 : 0 ≤ (ji15)
           ·rw [if_pos c16] at H
            have c16b0 : decide (0 ≤ (ji15)) = true := dt_ c16
            clear c16
            by_cases c17 : (ji15) < (l1.length : Int)
            ·rw [if_pos c17] at H
             have c17b0 : decide ((ji15) < (l1.length : Int)) = true := dt_ c17
             clear c17
             have H' := ak_ H
             clear H
             try go_wp2
             have n0_ := ak_ (below_drew1 HB.out)
             clear HB
             have HB := n0_
             clear n0_
             have p228 : 0 ≤ (x5_2 : Int) := od_
             have q228 : x5_2 < (l1.length : Int) := od_
             obtain ⟨ad228, e228, hx228_0, hx228_1, hx228_2⟩ := at_T75 HR1.out x5_2 p228 q228
             have hw228_2 := hx228_2
             have hw228_1 := hx228_1
             have hw228_0 := hx228_0
             cases e228
             replace hx228_0 := cq_ HB hx228_0
             replace hx228_1 := cq_ HB hx228_1
             replace hx228_2 := cq_ HB hx228_2
             replace p228 := eq_true p228
             replace q228 := eq_true q228
             have p230 : 0 ≤ ((ji15) : Int) := od_
             have q230 : (ji15) < (l1.length : Int) := od_
             obtain ⟨ad230, e230, hx230_0, hx230_1, hx230_2⟩ := at_T75 HR1.out (ji15) p230 q230
             have hw230_2 := hx230_2
             have hw230_1 := hx230_1
             have hw230_0 := hx230_0
             obtain rfl : ad228 = ad230 := (by injection e230)
             replace hx230_0 := cq_ HB hx230_0
             replace hx230_1 := cq_ HB hx230_1
             replace hx230_2 := cq_ HB hx230_2
             replace p230 := eq_true p230
             replace q230 := eq_true q230
             have p231 : 0 ≤ (x5_2 : Int) := od_
             have q231 : x5_2 < (l1.length : Int) := od_
             obtain ⟨ad231, e231, hx231_0, hx231_1, hx231_2⟩ := at_T75 HR1.out x5_2 p231 q231
             have hw231_2 := hx231_2
             have hw231_1 := hx231_1
             have hw231_0 := hx231_0
             obtain rfl : ad228 = ad231 := (by injection e231)
             replace hx231_0 := cq_ HB hx231_0
             replace hx231_1 := cq_ HB hx231_1
             replace hx231_2 := cq_ HB hx231_2
             replace p231 := eq_true p231
             replace q231 := eq_true q231
             refine start_ (n := 24) (S := fun w' => w'.cell? (ad228.add ((x5_2).toNat * 3)) = some (.string ((rd_T75 l1 x5_2).f0)) ∧ w'.cell? ⟨(ad228.add ((x5_2).toNat * 3)).block, (ad228.add ((x5_2).toNat * 3)).off + 1, none⟩ = some (.int .i64 ((rd_T75 l1 x5_2).f1)) ∧ w'.cell? ⟨(ad228.add ((x5_2).toNat * 3)).block, (ad228.add ((x5_2).toNat * 3)).off + 2, none⟩ = some (.int .i64 ((rd_T75 l1 x5_2).f2)) ∧ w'.cell? (ad228.add (((ji15)).toNat * 3)) = some (.string ((rd_T75 l1 (ji15)).f0)) ∧ w'.cell? ⟨(ad228.add (((ji15)).toNat * 3)).block, (ad228.add (((ji15)).toNat * 3)).off + 1, none⟩ = some (.int .i64 ((rd_T75 l1 (ji15)).f1)) ∧ w'.cell? ⟨(ad228.add (((ji15)).toNat * 3)).block, (ad228.add (((ji15)).toNat * 3)).off + 2, none⟩ = some (.int .i64 ((rd_T75 l1 (ji15)).f2)) ∧ w'.cell? (ad228.add ((x5_2).toNat * 3)) = some (.string ((rd_T75 l1 x5_2).f0)) ∧ w'.cell? ⟨(ad228.add ((x5_2).toNat * 3)).block, (ad228.add ((x5_2).toNat * 3)).off + 1, none⟩ = some (.int .i64 ((rd_T75 l1 x5_2).f1)) ∧ w'.cell? ⟨(ad228.add ((x5_2).toNat * 3)).block, (ad228.add ((x5_2).toNat * 3)).off + 2, none⟩ = some (.int .i64 ((rd_T75 l1 x5_2).f2))) (ds := []) #[F_,F_,F_,F_,F_,F_,F_,F_,F_,F_,F_,F_,F_,F_,F_,F_,F_,F_,F_,F_,F_,F_,F_,F_] (by kernel_rfl) rfl rfl ⟨((HB.out.cell (lt_ w _ hw228_0)).trans hw228_0), ((HB.out.cell (lt_ w _ hw228_1)).trans hw228_1), ((HB.out.cell (lt_ w _ hw228_2)).trans hw228_2), ((HB.out.cell (lt_ w _ hw230_0)).trans hw230_0), ((HB.out.cell (lt_ w _ hw230_1)).trans hw230_1), ((HB.out.cell (lt_ w _ hw230_2)).trans hw230_2), ((HB.out.cell (lt_ w _ hw231_0)).trans hw231_0), ((HB.out.cell (lt_ w _ hw231_1)).trans hw231_1), ((HB.out.cell (lt_ w _ hw231_2)).trans hw231_2)⟩ (fun hHeld => ?_); refine with_tabW spec_l21Checks.tab6 spec_l21Checks.bits6 (fun HT_ HW_ => ?_)
             generalize wr.drew = w18 at HB hx228_0 hx228_1 hx228_2 hx230_0 hx230_1 hx230_2 hx231_0 hx231_1 hx231_2 hHeld ⊢
             refine pu (i := 0) (N := some 21) #[T_,F_,F_,F_,F_,F_,F_,F_,F_,F_,F_,F_,F_,F_,F_,F_,F_,F_,F_,F_,F_,F_,F_,F_] HT_ ?_
             refine pu (i := 1) (N := some 22) #[T_,T_,F_,F_,F_,F_,F_,F_,F_,F_,F_,F_,F_,F_,F_,F_,F_,F_,F_,F_,F_,F_,F_,F_] HT_ ?_
             refine pu (i := 2) (N := some 23) #[T_,T_,T_,F_,F_,F_,F_,F_,F_,F_,F_,F_,F_,F_,F_,F_,F_,F_,F_,F_,F_,F_,F_,F_] HT_ ?_
             refine pu (i := 3) (N := some 24) #[T_,T_,T_,T_,F_,F_,F_,F_,F_,F_,F_,F_,F_,F_,F_,F_,F_,F_,F_,F_,F_,F_,F_,F_] HT_ ?_
             refine one_ (i := 4) (N := some 25) #[T_,T_,T_,T_,T_,F_,F_,F_,F_,F_,F_,F_,F_,F_,F_,F_,F_,F_,F_,F_,F_,F_,F_,F_] rfl rfl (one_of HT_.out (by kernel_rfl)) (by decide) (fun K hK => ?_)
             refine goes_ Try.func111 (by kernel_rfl) rfl #[.slice A0 l0.length c0, .pointer (some (ad228.add ((x5_2).toNat * 3)))] (by rfl) rfl rfl ln_ ?_
             with_reducible refine (spec_l21Check.calls k2 _ _ l0 _ ((rd_T75 l1 x5_2).f0) ((rd_T75 l1 x5_2).f1) ((rd_T75 l1 x5_2).f2) true _ ?side1 ?side2 ?side3 ?side4 ?side5 A12.out).mono ?_
             (case side1 => exact kc_ (Kd.C_below HR0.out HB.out))
             (case side2 => exact HC0.out)
             (case side3 => first | exact hx228_0 | (simpa using hx228_0) | (go_simp; done))
             (case side4 => first | exact hx228_1 | (simpa using hx228_1) | (go_simp; done))
             (case side5 => first | exact hx228_2 | (simpa using hx228_2) | (go_simp; done))
             rintro e w19 ⟨rfl, hb⟩
             refine ⟨_, rfl, ?_⟩
             have n0_ := ak_ (below_step hb_ hb)
             clear HB
             have HB := n0_
             clear n0_
             (try clear hb)
             (try clear hb2)
             (try clear hk)
             (try clear hi)
             refine hK.out _ _ ⟨((HB.out.cell (lt_ w _ hw228_0)).trans hw228_0), ((HB.out.cell (lt_ w _ hw228_1)).trans hw228_1), ((HB.out.cell (lt_ w _ hw228_2)).trans hw228_2), ((HB.out.cell (lt_ w _ hw230_0)).trans hw230_0), ((HB.out.cell (lt_ w _ hw230_1)).trans hw230_1), ((HB.out.cell (lt_ w _ hw230_2)).trans hw230_2), ((HB.out.cell (lt_ w _ hw231_0)).trans hw231_0), ((HB.out.cell (lt_ w _ hw231_1)).trans hw231_1), ((HB.out.cell (lt_ w _ hw231_2)).trans hw231_2)⟩ (fun hHeld => ?_)
             clear hK K
             refine norm_ (a' := ?_) ?_ ?_
             rotate_left
             ·show Act.put _ (some 25) _ = _
              simp only [Act.put, sT_, s0_, sS_, i64_w, i32_w]
              rfl
             refine pu (i := 5) (N := some 26) #[T_,T_,T_,T_,T_,T_,F_,F_,F_,F_,F_,F_,F_,F_,F_,F_,F_,F_,F_,F_,F_,F_,F_,F_] HT_ ?_
             refine pu (i := 6) (N := some 27) #[T_,T_,T_,T_,T_,T_,T_,F_,F_,F_,F_,F_,F_,F_,F_,F_,F_,F_,F_,F_,F_,F_,F_,F_] HT_ ?_
             refine pu (i := 7) (N := some 28) #[T_,T_,T_,T_,T_,T_,T_,T_,F_,F_,F_,F_,F_,F_,F_,F_,F_,F_,F_,F_,F_,F_,F_,F_] HT_ ?_
             refine pu (i := 8) (N := some 29) #[T_,T_,T_,T_,T_,T_,T_,T_,T_,F_,F_,F_,F_,F_,F_,F_,F_,F_,F_,F_,F_,F_,F_,F_] HT_ ?_
             refine pu (i := 9) (N := some 30) #[T_,T_,T_,T_,T_,T_,T_,T_,T_,T_,F_,F_,F_,F_,F_,F_,F_,F_,F_,F_,F_,F_,F_,F_] HT_ ?_
             refine pu (i := 10) (N := some 31) #[T_,T_,T_,T_,T_,T_,T_,T_,T_,T_,T_,F_,F_,F_,F_,F_,F_,F_,F_,F_,F_,F_,F_,F_] HT_ ?_
             refine pu (i := 11) (N := some 32) #[T_,T_,T_,T_,T_,T_,T_,T_,T_,T_,T_,T_,F_,F_,F_,F_,F_,F_,F_,F_,F_,F_,F_,F_] HT_ ?_
             refine pu (i := 12) (N := some 33) #[T_,T_,T_,T_,T_,T_,T_,T_,T_,T_,T_,T_,T_,F_,F_,F_,F_,F_,F_,F_,F_,F_,F_,F_] HT_ ?_
             refine pu (i := 13) (N := some 34) #[T_,T_,T_,T_,T_,T_,T_,T_,T_,T_,T_,T_,T_,T_,F_,F_,F_,F_,F_,F_,F_,F_,F_,F_] HT_ ?_
             refine pu (i := 14) (N := some 35) #[T_,T_,T_,T_,T_,T_,T_,T_,T_,T_,T_,T_,T_,T_,T_,F_,F_,F_,F_,F_,F_,F_,F_,F_] HT_ ?_
             refine pu (i := 16) (N := some 37) #[T_,T_,T_,T_,T_,T_,T_,T_,T_,T_,T_,T_,T_,T_,T_,F_,T_,F_,F_,F_,F_,F_,F_,F_] HT_ ?_
             refine pu (i := 17) (N := some 38) #[T_,T_,T_,T_,T_,T_,T_,T_,T_,T_,T_,T_,T_,T_,T_,F_,T_,T_,F_,F_,F_,F_,F_,F_] HT_ ?_
             refine pu (i := 18) (N := some 39) #[T_,T_,T_,T_,T_,T_,T_,T_,T_,T_,T_,T_,T_,T_,T_,F_,T_,T_,T_,F_,F_,F_,F_,F_] HT_ ?_
             refine pu (i := 19) (N := some 40) #[T_,T_,T_,T_,T_,T_,T_,T_,T_,T_,T_,T_,T_,T_,T_,F_,T_,T_,T_,T_,F_,F_,F_,F_] HT_ ?_
             refine take_ (i := 15) (N := some 36) (v := ?_) (a' := ?_) #[T_,T_,T_,T_,T_,T_,T_,T_,T_,T_,T_,T_,T_,T_,T_,T_,T_,T_,T_,T_,F_,F_,F_,F_] rfl rfl (take_ofW HT_.out HW_.out (by kernel_rfl)) (fun _ _ _ h => h) (Or.inl ⟨by rfl, ?_⟩) hHeld ?_ ?_
             rotate_left
             ·rintro w' ⟨s0, s1, s2, s3, s4, s5, s6, s7, s8⟩
              go_simp
              with_reducible rfl
             rotate_left
             ·simp only [Act.put, sT_, s0_, sS_, i64_w, i32_w]
              rfl
             refine take_ (i := 20) (N := some 41) (v := ?_) (a' := ?_) #[T_,T_,T_,T_,T_,T_,T_,T_,T_,T_,T_,T_,T_,T_,T_,T_,T_,T_,T_,T_,T_,F_,F_,F_] rfl rfl (take_ofW HT_.out HW_.out (by kernel_rfl)) (fun _ _ _ h => h) (Or.inl ⟨by rfl, ?_⟩) hHeld ?_ ?_
             rotate_left
             ·rintro w' ⟨s0, s1, s2, s3, s4, s5, s6, s7, s8⟩
              go_simp
              with_reducible rfl
             rotate_left
             ·simp only [Act.put, sT_, s0_, sS_, i64_w, i32_w]
              rfl
             refine pu (i := 21) (N := some 42) #[T_,T_,T_,T_,T_,T_,T_,T_,T_,T_,T_,T_,T_,T_,T_,T_,T_,T_,T_,T_,T_,T_,F_,F_] HT_ ?_
             refine pu (i := 22) (N := some 43) #[T_,T_,T_,T_,T_,T_,T_,T_,T_,T_,T_,T_,T_,T_,T_,T_,T_,T_,T_,T_,T_,T_,T_,F_] HT_ ?_
             refine pu (i := 23) (N := some 44) #[T_,T_,T_,T_,T_,T_,T_,T_,T_,T_,T_,T_,T_,T_,T_,T_,T_,T_,T_,T_,T_,T_,T_,T_] HT_ ?_
             refine done_ (done_of HT_.out (by kernel_rfl)) ?_
             try go_wp2
             go_meet
             case rel => exact ⟨_, (decide (((rd_T75 l1 (ji15)).f1) > ((rd_T75 l1 x5_2).f1))), (by first | rfl | (simp; done) | (simp only [← hji15] <;> (first | rfl | simp)) | (simp [*]; done)), H', ⟨by have := HJ2.out; have := HK2.out; first | omega | exact Nat.le_refl _⟩, ⟨hb_⟩⟩
            ·rw [if_neg c17] at H
             exact absurd H (by simp)
           ·rw [if_neg c16] at H
            exact absurd H (by simp)
          ·rw [if_neg c14] at H
           have c14b0 : decide (0 < x5_2) = false := decide_eq_false c14
           clear c14
           have H' := ak_ H
           clear H
           try go_wp2
           have n0_ := ak_ (below_drew1 HB.out)
           clear HB
           have HB := n0_
           clear n0_
           have p228 : 0 ≤ (x5_2 : Int) := od_
           have q228 : x5_2 < (l1.length : Int) := od_
           obtain ⟨ad228, e228, hx228_0, hx228_1, hx228_2⟩ := at_T75 HR1.out x5_2 p228 q228
           have hw228_2 := hx228_2
           have hw228_1 := hx228_1
           have hw228_0 := hx228_0
           cases e228
           replace hx228_0 := cq_ HB hx228_0
           replace hx228_1 := cq_ HB hx228_1
           replace hx228_2 := cq_ HB hx228_2
           replace p228 := eq_true p228
           replace q228 := eq_true q228
           refine start_ (n := 24) (S := fun w' => w'.cell? (ad228.add ((x5_2).toNat * 3)) = some (.string ((rd_T75 l1 x5_2).f0)) ∧ w'.cell? ⟨(ad228.add ((x5_2).toNat * 3)).block, (ad228.add ((x5_2).toNat * 3)).off + 1, none⟩ = some (.int .i64 ((rd_T75 l1 x5_2).f1)) ∧ w'.cell? ⟨(ad228.add ((x5_2).toNat * 3)).block, (ad228.add ((x5_2).toNat * 3)).off + 2, none⟩ = some (.int .i64 ((rd_T75 l1 x5_2).f2))) (ds := []) #[F_,F_,F_,F_,F_,F_,F_,F_,F_,F_,F_,F_,F_,F_,F_,F_,F_,F_,F_,F_,F_,F_,F_,F_] (by kernel_rfl) rfl rfl ⟨((HB.out.cell (lt_ w _ hw228_0)).trans hw228_0), ((HB.out.cell (lt_ w _ hw228_1)).trans hw228_1), ((HB.out.cell (lt_ w _ hw228_2)).trans hw228_2)⟩ (fun hHeld => ?_); refine with_tabW spec_l21Checks.tab6 spec_l21Checks.bits6 (fun HT_ HW_ => ?_)
           generalize wr.drew = w20 at HB hx228_0 hx228_1 hx228_2 hHeld ⊢
           refine pu (i := 0) (N := some 21) #[T_,F_,F_,F_,F_,F_,F_,F_,F_,F_,F_,F_,F_,F_,F_,F_,F_,F_,F_,F_,F_,F_,F_,F_] HT_ ?_
           refine pu (i := 1) (N := some 22) #[T_,T_,F_,F_,F_,F_,F_,F_,F_,F_,F_,F_,F_,F_,F_,F_,F_,F_,F_,F_,F_,F_,F_,F_] HT_ ?_
           refine pu (i := 2) (N := some 23) #[T_,T_,T_,F_,F_,F_,F_,F_,F_,F_,F_,F_,F_,F_,F_,F_,F_,F_,F_,F_,F_,F_,F_,F_] HT_ ?_
           refine pu (i := 3) (N := some 24) #[T_,T_,T_,T_,F_,F_,F_,F_,F_,F_,F_,F_,F_,F_,F_,F_,F_,F_,F_,F_,F_,F_,F_,F_] HT_ ?_
           refine one_ (i := 4) (N := some 25) #[T_,T_,T_,T_,T_,F_,F_,F_,F_,F_,F_,F_,F_,F_,F_,F_,F_,F_,F_,F_,F_,F_,F_,F_] rfl rfl (one_of HT_.out (by kernel_rfl)) (by decide) (fun K hK => ?_)
           refine goes_ Try.func111 (by kernel_rfl) rfl #[.slice A0 l0.length c0, .pointer (some (ad228.add ((x5_2).toNat * 3)))] (by rfl) rfl rfl ln_ ?_
           with_reducible refine (spec_l21Check.calls k2 _ _ l0 _ ((rd_T75 l1 x5_2).f0) ((rd_T75 l1 x5_2).f1) ((rd_T75 l1 x5_2).f2) true _ ?side1 ?side2 ?side3 ?side4 ?side5 A12.out).mono ?_
           (case side1 => exact kc_ (Kd.C_below HR0.out HB.out))
           (case side2 => exact HC0.out)
           (case side3 => first | exact hx228_0 | (simpa using hx228_0) | (go_simp; done))
           (case side4 => first | exact hx228_1 | (simpa using hx228_1) | (go_simp; done))
           (case side5 => first | exact hx228_2 | (simpa using hx228_2) | (go_simp; done))
           rintro e w21 ⟨rfl, hb⟩
           refine ⟨_, rfl, ?_⟩
           have n0_ := ak_ (below_step hb_ hb)
           clear HB
           have HB := n0_
           clear n0_
           (try clear hb)
           (try clear hb2)
           (try clear hk)
           (try clear hi)
           refine hK.out _ _ ⟨((HB.out.cell (lt_ w _ hw228_0)).trans hw228_0), ((HB.out.cell (lt_ w _ hw228_1)).trans hw228_1), ((HB.out.cell (lt_ w _ hw228_2)).trans hw228_2)⟩ (fun hHeld => ?_)
           clear hK K
           refine norm_ (a' := ?_) ?_ ?_
           rotate_left
           ·show Act.put _ (some 25) _ = _
            simp only [Act.put, sT_, s0_, sS_, i64_w, i32_w]
            rfl
           refine pu (i := 5) (N := some 26) #[T_,T_,T_,T_,T_,T_,F_,F_,F_,F_,F_,F_,F_,F_,F_,F_,F_,F_,F_,F_,F_,F_,F_,F_] HT_ ?_
           refine pu (i := 6) (N := some 27) #[T_,T_,T_,T_,T_,T_,T_,F_,F_,F_,F_,F_,F_,F_,F_,F_,F_,F_,F_,F_,F_,F_,F_,F_] HT_ ?_
           refine pu (i := 7) (N := some 28) #[T_,T_,T_,T_,T_,T_,T_,T_,F_,F_,F_,F_,F_,F_,F_,F_,F_,F_,F_,F_,F_,F_,F_,F_] HT_ ?_
           refine pu (i := 8) (N := some 29) #[T_,T_,T_,T_,T_,T_,T_,T_,T_,F_,F_,F_,F_,F_,F_,F_,F_,F_,F_,F_,F_,F_,F_,F_] HT_ ?_
           refine pu (i := 9) (N := some 30) #[T_,T_,T_,T_,T_,T_,T_,T_,T_,T_,F_,F_,F_,F_,F_,F_,F_,F_,F_,F_,F_,F_,F_,F_] HT_ ?_
           refine pn (i := 10) (N := some 31) #[T_,T_,T_,T_,T_,T_,T_,T_,T_,T_,T_,F_,F_,F_,F_,F_,F_,F_,F_,F_,F_,F_,F_,F_] HT_ ?_
           refine pn (i := 11) (N := some 32) #[T_,T_,T_,T_,T_,T_,T_,T_,T_,T_,T_,T_,F_,F_,F_,F_,F_,F_,F_,F_,F_,F_,F_,F_] HT_ ?_
           refine pn (i := 12) (N := some 33) #[T_,T_,T_,T_,T_,T_,T_,T_,T_,T_,T_,T_,T_,F_,F_,F_,F_,F_,F_,F_,F_,F_,F_,F_] HT_ ?_
           refine pn (i := 13) (N := some 34) #[T_,T_,T_,T_,T_,T_,T_,T_,T_,T_,T_,T_,T_,T_,F_,F_,F_,F_,F_,F_,F_,F_,F_,F_] HT_ ?_
           refine pn (i := 14) (N := some 35) #[T_,T_,T_,T_,T_,T_,T_,T_,T_,T_,T_,T_,T_,T_,T_,F_,F_,F_,F_,F_,F_,F_,F_,F_] HT_ ?_
           refine pn (i := 15) (N := some 36) #[T_,T_,T_,T_,T_,T_,T_,T_,T_,T_,T_,T_,T_,T_,T_,T_,F_,F_,F_,F_,F_,F_,F_,F_] HT_ ?_
           refine pn (i := 16) (N := some 37) #[T_,T_,T_,T_,T_,T_,T_,T_,T_,T_,T_,T_,T_,T_,T_,T_,T_,F_,F_,F_,F_,F_,F_,F_] HT_ ?_
           refine pn (i := 17) (N := some 38) #[T_,T_,T_,T_,T_,T_,T_,T_,T_,T_,T_,T_,T_,T_,T_,T_,T_,T_,F_,F_,F_,F_,F_,F_] HT_ ?_
           refine pn (i := 18) (N := some 39) #[T_,T_,T_,T_,T_,T_,T_,T_,T_,T_,T_,T_,T_,T_,T_,T_,T_,T_,T_,F_,F_,F_,F_,F_] HT_ ?_
           refine pn (i := 19) (N := some 40) #[T_,T_,T_,T_,T_,T_,T_,T_,T_,T_,T_,T_,T_,T_,T_,T_,T_,T_,T_,T_,F_,F_,F_,F_] HT_ ?_
           refine pn (i := 20) (N := some 41) #[T_,T_,T_,T_,T_,T_,T_,T_,T_,T_,T_,T_,T_,T_,T_,T_,T_,T_,T_,T_,T_,F_,F_,F_] HT_ ?_
           refine pn (i := 21) (N := some 42) #[T_,T_,T_,T_,T_,T_,T_,T_,T_,T_,T_,T_,T_,T_,T_,T_,T_,T_,T_,T_,T_,T_,F_,F_] HT_ ?_
           refine pu (i := 22) (N := some 43) #[T_,T_,T_,T_,T_,T_,T_,T_,T_,T_,T_,T_,T_,T_,T_,T_,T_,T_,T_,T_,T_,T_,T_,F_] HT_ ?_
           refine pu (i := 23) (N := some 44) #[T_,T_,T_,T_,T_,T_,T_,T_,T_,T_,T_,T_,T_,T_,T_,T_,T_,T_,T_,T_,T_,T_,T_,T_] HT_ ?_
           refine done_ (done_of HT_.out (by kernel_rfl)) ?_
           try go_wp2
           go_meet
           case rel => exact ⟨_, (false), fr_, H', ⟨by have := HJ2.out; have := HK2.out; first | omega | exact Nat.le_refl _⟩, ⟨hb_⟩⟩
         ·replace c13 := Bool.eq_false_iff.mpr c13
          subst c13
          have H1 : (spec_l21Checks.j2 k2 l0 l1 x5_2 true) = some r := by rw [if_neg (show ¬ (false = true) by decide)] at H; exact H
          clear H
          have H := H1
          clear H1
          have H' := ak_ H
          clear H
          try go_wp2
          have n0_ := ak_ (below_drew1 HB.out)
          clear HB
          have HB := n0_
          clear n0_
          have p228 : 0 ≤ (x5_2 : Int) := od_
          have q228 : x5_2 < (l1.length : Int) := od_
          obtain ⟨ad228, e228, hx228_0, hx228_1, hx228_2⟩ := at_T75 HR1.out x5_2 p228 q228
          have hw228_2 := hx228_2
          have hw228_1 := hx228_1
          have hw228_0 := hx228_0
          cases e228
          replace hx228_0 := cq_ HB hx228_0
          replace hx228_1 := cq_ HB hx228_1
          replace hx228_2 := cq_ HB hx228_2
          replace p228 := eq_true p228
          replace q228 := eq_true q228
          refine start_ (n := 24) (S := fun w' => w'.cell? (ad228.add ((x5_2).toNat * 3)) = some (.string ((rd_T75 l1 x5_2).f0)) ∧ w'.cell? ⟨(ad228.add ((x5_2).toNat * 3)).block, (ad228.add ((x5_2).toNat * 3)).off + 1, none⟩ = some (.int .i64 ((rd_T75 l1 x5_2).f1)) ∧ w'.cell? ⟨(ad228.add ((x5_2).toNat * 3)).block, (ad228.add ((x5_2).toNat * 3)).off + 2, none⟩ = some (.int .i64 ((rd_T75 l1 x5_2).f2))) (ds := []) #[F_,F_,F_,F_,F_,F_,F_,F_,F_,F_,F_,F_,F_,F_,F_,F_,F_,F_,F_,F_,F_,F_,F_,F_] (by kernel_rfl) rfl rfl ⟨((HB.out.cell (lt_ w _ hw228_0)).trans hw228_0), ((HB.out.cell (lt_ w _ hw228_1)).trans hw228_1), ((HB.out.cell (lt_ w _ hw228_2)).trans hw228_2)⟩ (fun hHeld => ?_); refine with_tabW spec_l21Checks.tab6 spec_l21Checks.bits6 (fun HT_ HW_ => ?_)
          generalize wr.drew = w22 at HB hx228_0 hx228_1 hx228_2 hHeld ⊢
          refine pu (i := 0) (N := some 21) #[T_,F_,F_,F_,F_,F_,F_,F_,F_,F_,F_,F_,F_,F_,F_,F_,F_,F_,F_,F_,F_,F_,F_,F_] HT_ ?_
          refine pu (i := 1) (N := some 22) #[T_,T_,F_,F_,F_,F_,F_,F_,F_,F_,F_,F_,F_,F_,F_,F_,F_,F_,F_,F_,F_,F_,F_,F_] HT_ ?_
          refine pu (i := 2) (N := some 23) #[T_,T_,T_,F_,F_,F_,F_,F_,F_,F_,F_,F_,F_,F_,F_,F_,F_,F_,F_,F_,F_,F_,F_,F_] HT_ ?_
          refine pu (i := 3) (N := some 24) #[T_,T_,T_,T_,F_,F_,F_,F_,F_,F_,F_,F_,F_,F_,F_,F_,F_,F_,F_,F_,F_,F_,F_,F_] HT_ ?_
          refine one_ (i := 4) (N := some 25) #[T_,T_,T_,T_,T_,F_,F_,F_,F_,F_,F_,F_,F_,F_,F_,F_,F_,F_,F_,F_,F_,F_,F_,F_] rfl rfl (one_of HT_.out (by kernel_rfl)) (by decide) (fun K hK => ?_)
          refine goes_ Try.func111 (by kernel_rfl) rfl #[.slice A0 l0.length c0, .pointer (some (ad228.add ((x5_2).toNat * 3)))] (by rfl) rfl rfl ln_ ?_
          with_reducible refine (spec_l21Check.calls k2 _ _ l0 _ ((rd_T75 l1 x5_2).f0) ((rd_T75 l1 x5_2).f1) ((rd_T75 l1 x5_2).f2) false _ ?side1 ?side2 ?side3 ?side4 ?side5 A12.out).mono ?_
          (case side1 => exact kc_ (Kd.C_below HR0.out HB.out))
          (case side2 => exact HC0.out)
          (case side3 => first | exact hx228_0 | (simpa using hx228_0) | (go_simp; done))
          (case side4 => first | exact hx228_1 | (simpa using hx228_1) | (go_simp; done))
          (case side5 => first | exact hx228_2 | (simpa using hx228_2) | (go_simp; done))
          rintro e w23 ⟨rfl, hb⟩
          refine ⟨_, rfl, ?_⟩
          have n0_ := ak_ (below_step hb_ hb)
          clear HB
          have HB := n0_
          clear n0_
          (try clear hb)
          (try clear hb2)
          (try clear hk)
          (try clear hi)
          refine hK.out _ _ ⟨((HB.out.cell (lt_ w _ hw228_0)).trans hw228_0), ((HB.out.cell (lt_ w _ hw228_1)).trans hw228_1), ((HB.out.cell (lt_ w _ hw228_2)).trans hw228_2)⟩ (fun hHeld => ?_)
          clear hK K
          refine norm_ (a' := ?_) ?_ ?_
          rotate_left
          ·show Act.put _ (some 25) _ = _
           simp only [Act.put, sT_, s0_, sS_, i64_w, i32_w]
           rfl
          refine pu (i := 5) (N := some 26) #[T_,T_,T_,T_,T_,T_,F_,F_,F_,F_,F_,F_,F_,F_,F_,F_,F_,F_,F_,F_,F_,F_,F_,F_] HT_ ?_
          refine pu (i := 6) (N := some 27) #[T_,T_,T_,T_,T_,T_,T_,F_,F_,F_,F_,F_,F_,F_,F_,F_,F_,F_,F_,F_,F_,F_,F_,F_] HT_ ?_
          refine pn (i := 7) (N := some 28) #[T_,T_,T_,T_,T_,T_,T_,T_,F_,F_,F_,F_,F_,F_,F_,F_,F_,F_,F_,F_,F_,F_,F_,F_] HT_ ?_
          refine pn (i := 8) (N := some 29) #[T_,T_,T_,T_,T_,T_,T_,T_,T_,F_,F_,F_,F_,F_,F_,F_,F_,F_,F_,F_,F_,F_,F_,F_] HT_ ?_
          refine pn (i := 9) (N := some 30) #[T_,T_,T_,T_,T_,T_,T_,T_,T_,T_,F_,F_,F_,F_,F_,F_,F_,F_,F_,F_,F_,F_,F_,F_] HT_ ?_
          refine pn (i := 10) (N := some 31) #[T_,T_,T_,T_,T_,T_,T_,T_,T_,T_,T_,F_,F_,F_,F_,F_,F_,F_,F_,F_,F_,F_,F_,F_] HT_ ?_
          refine pn (i := 11) (N := some 32) #[T_,T_,T_,T_,T_,T_,T_,T_,T_,T_,T_,T_,F_,F_,F_,F_,F_,F_,F_,F_,F_,F_,F_,F_] HT_ ?_
          refine pn (i := 12) (N := some 33) #[T_,T_,T_,T_,T_,T_,T_,T_,T_,T_,T_,T_,T_,F_,F_,F_,F_,F_,F_,F_,F_,F_,F_,F_] HT_ ?_
          refine pn (i := 13) (N := some 34) #[T_,T_,T_,T_,T_,T_,T_,T_,T_,T_,T_,T_,T_,T_,F_,F_,F_,F_,F_,F_,F_,F_,F_,F_] HT_ ?_
          refine pn (i := 14) (N := some 35) #[T_,T_,T_,T_,T_,T_,T_,T_,T_,T_,T_,T_,T_,T_,T_,F_,F_,F_,F_,F_,F_,F_,F_,F_] HT_ ?_
          refine pn (i := 15) (N := some 36) #[T_,T_,T_,T_,T_,T_,T_,T_,T_,T_,T_,T_,T_,T_,T_,T_,F_,F_,F_,F_,F_,F_,F_,F_] HT_ ?_
          refine pn (i := 16) (N := some 37) #[T_,T_,T_,T_,T_,T_,T_,T_,T_,T_,T_,T_,T_,T_,T_,T_,T_,F_,F_,F_,F_,F_,F_,F_] HT_ ?_
          refine pn (i := 17) (N := some 38) #[T_,T_,T_,T_,T_,T_,T_,T_,T_,T_,T_,T_,T_,T_,T_,T_,T_,T_,F_,F_,F_,F_,F_,F_] HT_ ?_
          refine pn (i := 18) (N := some 39) #[T_,T_,T_,T_,T_,T_,T_,T_,T_,T_,T_,T_,T_,T_,T_,T_,T_,T_,T_,F_,F_,F_,F_,F_] HT_ ?_
          refine pn (i := 19) (N := some 40) #[T_,T_,T_,T_,T_,T_,T_,T_,T_,T_,T_,T_,T_,T_,T_,T_,T_,T_,T_,T_,F_,F_,F_,F_] HT_ ?_
          refine pn (i := 20) (N := some 41) #[T_,T_,T_,T_,T_,T_,T_,T_,T_,T_,T_,T_,T_,T_,T_,T_,T_,T_,T_,T_,T_,F_,F_,F_] HT_ ?_
          refine pn (i := 21) (N := some 42) #[T_,T_,T_,T_,T_,T_,T_,T_,T_,T_,T_,T_,T_,T_,T_,T_,T_,T_,T_,T_,T_,T_,F_,F_] HT_ ?_
          refine pn (i := 22) (N := some 43) #[T_,T_,T_,T_,T_,T_,T_,T_,T_,T_,T_,T_,T_,T_,T_,T_,T_,T_,T_,T_,T_,T_,T_,F_] HT_ ?_
          refine pu (i := 23) (N := some 44) #[T_,T_,T_,T_,T_,T_,T_,T_,T_,T_,T_,T_,T_,T_,T_,T_,T_,T_,T_,T_,T_,T_,T_,T_] HT_ ?_
          refine done_ (done_of HT_.out (by kernel_rfl)) ?_
          try go_wp2
          go_meet
          case rel => exact ⟨_, (true), fr_, H', ⟨by have := HJ2.out; have := HK2.out; first | omega | exact Nat.le_refl _⟩, ⟨hb_⟩⟩
        ·rw [if_neg c11] at H
         exact absurd H (by simp)
       case rest =>
        clear HC10
        try clear c1
        try clear p2
        try clear q2
        try clear hx2
        try clear c11
        try clear c13
        try clear c14
        try clear c14b0
        try clear c16
        try clear c17
        try clear p22
        try clear q22
        try clear hx22
        try clear p23
        try clear q23
        try clear hx23
        try clear hx228_0
        try clear hx228_1
        try clear hx228_2
        try clear hx230_0
        try clear hx230_1
        try clear hx230_2
        try clear hx231_0
        try clear hx231_1
        try clear hx231_2
        try clear p228
        try clear p231
        try clear q228
        try clear q231
        obtain ⟨kq, x44_9, rfl, HA, HJ9, HB⟩ := hcut
        cases kq with
        | zero => exact absurd HA.out (by simp [spec_l21Checks.j2])
        | succ kj9 =>
         have H := HA.out
         clear HA
         simp only [spec_l21Checks.j2] at H
         by_cases c24 : x44_9 = true
         ·subst c24
          have H1 : (some false) = some r := by rw [if_pos rfl] at H; exact H
          clear H
          have H := H1
          clear H1
          obtain rfl := Option.some.inj H
          go_wp2
          go_ret
          exact ⟨ew_, hb_⟩
         ·replace c24 := Bool.eq_false_iff.mpr c24
          subst c24
          have H1 : (spec_l21Checks.l1 kj9 l0 l1 x5_2 0) = some r := by rw [if_neg (show ¬ (false = true) by decide)] at H; exact H
          clear H
          have H := H1
          clear H1
          have H' := ak_ H
          clear H
          go_wp2
          go_loopg [6] kj9 (fun kq v6 w' => ∃ (x6_4 : Int), v6 = .int .i64 x6_4 ∧ Aside0 (spec_l21Checks.l1 kq l0 l1 x5_2 x6_4 = some r) ∧ Aside0 (kq ≤ kj9) ∧ Aside0 (Below w.heap.size w w'))
          case atStart => exact ⟨(0), fr_, H', ⟨Nat.le_refl _⟩, ⟨hb_⟩⟩
          case round =>
           clear H'
           try clear c1
           try clear c2
           try clear p2
           try clear q2
           try clear hx2
           try clear c11
           try clear c13
           try clear c14
           try clear c14b0
           try clear c16
           try clear c17
           try clear p22
           try clear q22
           try clear hx22
           try clear p23
           try clear q23
           try clear hx23
           try clear c24
           try clear hx228_0
           try clear hx228_1
           try clear hx228_2
           try clear hx230_0
           try clear hx230_1
           try clear hx230_2
           try clear hx231_0
           try clear hx231_1
           try clear hx231_2
           try clear p2
           try clear p22
           try clear p228
           try clear p23
           try clear p231
           try clear q2
           try clear q22
           try clear q228
           try clear q23
           try clear q231
           obtain ⟨x6_4, rfl, HA, HK4, HB⟩ := hrel
           cases gk with
           | zero => exact absurd HA.out (by simp [spec_l21Checks.l1])
           | succ k4 =>
            have H := HA.out
            clear HA
            simp only [spec_l21Checks.l1] at H
            by_cases c25 : x6_4 < x5_2
            ·rw [if_pos c25] at H
             have c25b0 : decide (x6_4 < x5_2) = true := dt_ c25
             clear c25
             by_cases c26 : 0 ≤ x6_4
             ·rw [if_pos c26] at H
              have c26b0 : decide (0 ≤ x6_4) = true := dt_ c26
              clear c26
              by_cases c27 : x6_4 < (l1.length : Int)
              ·rw [if_pos c27] at H
               have c27b0 : decide (x6_4 < (l1.length : Int)) = true := dt_ c27
               clear c27
               by_cases c28 : 0 ≤ x5_2
               ·rw [if_pos c28] at H
                have c28b0 : decide (0 ≤ x5_2) = true := dt_ c28
                clear c28
                by_cases c29 : x5_2 < (l1.length : Int)
                ·rw [if_pos c29] at H
                 have c29b0 : decide (x5_2 < (l1.length : Int)) = true := dt_ c29
                 clear c29
                 by_cases c30 : ((rd_T75 l1 x6_4).f0).toList = ((rd_T75 l1 x5_2).f0).toList
                 ·rw [if_pos c30] at H
                  have c30b0 : (((rd_T75 l1 x6_4).f0).toList == ((rd_T75 l1 x5_2).f0).toList) = true := beq_iff_eq.mpr c30
                  have c30b1 : (((rd_T75 l1 x6_4).f0).toList != ((rd_T75 l1 x5_2).f0).toList) = false := bne_eq_false_iff_eq.mpr c30
                  clear c30
                  by_cases c31 : ((rd_T75 l1 x6_4).f1) = ((rd_T75 l1 x5_2).f1)
                  ·rw [if_pos c31] at H
                   have c31b0 : (((rd_T75 l1 x6_4).f1) == ((rd_T75 l1 x5_2).f1)) = true := beq_iff_eq.mpr c31
                   have c31b1 : (((rd_T75 l1 x6_4).f1) != ((rd_T75 l1 x5_2).f1)) = false := bne_eq_false_iff_eq.mpr c31
                   clear c31
                   obtain rfl := Option.some.inj H
                   try go_wp2
                   have n0_ := ak_ (below_drew1 HB.out)
                   clear HB
                   have HB := n0_
                   clear n0_
                   have p232 : 0 ≤ (x6_4 : Int) := od_
                   have q232 : x6_4 < (l1.length : Int) := od_
                   obtain ⟨ad232, e232, hx232_0, hx232_1, hx232_2⟩ := at_T75 HR1.out x6_4 p232 q232
                   have hw232_2 := hx232_2
                   have hw232_1 := hx232_1
                   have hw232_0 := hx232_0
                   cases e232
                   replace hx232_0 := cq_ HB hx232_0
                   replace hx232_1 := cq_ HB hx232_1
                   replace hx232_2 := cq_ HB hx232_2
                   replace p232 := eq_true p232
                   replace q232 := eq_true q232
                   have p233 : 0 ≤ (x5_2 : Int) := od_
                   have q233 : x5_2 < (l1.length : Int) := od_
                   obtain ⟨ad233, e233, hx233_0, hx233_1, hx233_2⟩ := at_T75 HR1.out x5_2 p233 q233
                   have hw233_2 := hx233_2
                   have hw233_1 := hx233_1
                   have hw233_0 := hx233_0
                   obtain rfl : ad232 = ad233 := (by injection e233)
                   replace hx233_0 := cq_ HB hx233_0
                   replace hx233_1 := cq_ HB hx233_1
                   replace hx233_2 := cq_ HB hx233_2
                   replace p233 := eq_true p233
                   replace q233 := eq_true q233
                   have p234 : 0 ≤ (x6_4 : Int) := od_
                   have q234 : x6_4 < (l1.length : Int) := od_
                   obtain ⟨ad234, e234, hx234_0, hx234_1, hx234_2⟩ := at_T75 HR1.out x6_4 p234 q234
                   have hw234_2 := hx234_2
                   have hw234_1 := hx234_1
                   have hw234_0 := hx234_0
                   obtain rfl : ad232 = ad234 := (by injection e234)
                   replace hx234_0 := cq_ HB hx234_0
                   replace hx234_1 := cq_ HB hx234_1
                   replace hx234_2 := cq_ HB hx234_2
                   replace p234 := eq_true p234
                   replace q234 := eq_true q234
                   have p235 : 0 ≤ (x5_2 : Int) := od_
                   have q235 : x5_2 < (l1.length : Int) := od_
                   obtain ⟨ad235, e235, hx235_0, hx235_1, hx235_2⟩ := at_T75 HR1.out x5_2 p235 q235
                   have hw235_2 := hx235_2
                   have hw235_1 := hx235_1
                   have hw235_0 := hx235_0
                   obtain rfl : ad232 = ad235 := (by injection e235)
                   replace hx235_0 := cq_ HB hx235_0
                   replace hx235_1 := cq_ HB hx235_1
                   replace hx235_2 := cq_ HB hx235_2
                   replace p235 := eq_true p235
                   replace q235 := eq_true q235
                   refine start_ (n := 37) (S := fun w' => w'.cell? (ad232.add ((x6_4).toNat * 3)) = some (.string ((rd_T75 l1 x6_4).f0)) ∧ w'.cell? ⟨(ad232.add ((x6_4).toNat * 3)).block, (ad232.add ((x6_4).toNat * 3)).off + 1, none⟩ = some (.int .i64 ((rd_T75 l1 x6_4).f1)) ∧ w'.cell? ⟨(ad232.add ((x6_4).toNat * 3)).block, (ad232.add ((x6_4).toNat * 3)).off + 2, none⟩ = some (.int .i64 ((rd_T75 l1 x6_4).f2)) ∧ w'.cell? (ad232.add ((x5_2).toNat * 3)) = some (.string ((rd_T75 l1 x5_2).f0)) ∧ w'.cell? ⟨(ad232.add ((x5_2).toNat * 3)).block, (ad232.add ((x5_2).toNat * 3)).off + 1, none⟩ = some (.int .i64 ((rd_T75 l1 x5_2).f1)) ∧ w'.cell? ⟨(ad232.add ((x5_2).toNat * 3)).block, (ad232.add ((x5_2).toNat * 3)).off + 2, none⟩ = some (.int .i64 ((rd_T75 l1 x5_2).f2)) ∧ w'.cell? (ad232.add ((x6_4).toNat * 3)) = some (.string ((rd_T75 l1 x6_4).f0)) ∧ w'.cell? ⟨(ad232.add ((x6_4).toNat * 3)).block, (ad232.add ((x6_4).toNat * 3)).off + 1, none⟩ = some (.int .i64 ((rd_T75 l1 x6_4).f1)) ∧ w'.cell? ⟨(ad232.add ((x6_4).toNat * 3)).block, (ad232.add ((x6_4).toNat * 3)).off + 2, none⟩ = some (.int .i64 ((rd_T75 l1 x6_4).f2)) ∧ w'.cell? (ad232.add ((x5_2).toNat * 3)) = some (.string ((rd_T75 l1 x5_2).f0)) ∧ w'.cell? ⟨(ad232.add ((x5_2).toNat * 3)).block, (ad232.add ((x5_2).toNat * 3)).off + 1, none⟩ = some (.int .i64 ((rd_T75 l1 x5_2).f1)) ∧ w'.cell? ⟨(ad232.add ((x5_2).toNat * 3)).block, (ad232.add ((x5_2).toNat * 3)).off + 2, none⟩ = some (.int .i64 ((rd_T75 l1 x5_2).f2))) (ds := []) #[F_,F_,F_,F_,F_,F_,F_,F_,F_,F_,F_,F_,F_,F_,F_,F_,F_,F_,F_,F_,F_,F_,F_,F_,F_,F_,F_,F_,F_,F_,F_,F_,F_,F_,F_,F_,F_] (by kernel_rfl) rfl rfl ⟨((HB.out.cell (lt_ w _ hw232_0)).trans hw232_0), ((HB.out.cell (lt_ w _ hw232_1)).trans hw232_1), ((HB.out.cell (lt_ w _ hw232_2)).trans hw232_2), ((HB.out.cell (lt_ w _ hw233_0)).trans hw233_0), ((HB.out.cell (lt_ w _ hw233_1)).trans hw233_1), ((HB.out.cell (lt_ w _ hw233_2)).trans hw233_2), ((HB.out.cell (lt_ w _ hw234_0)).trans hw234_0), ((HB.out.cell (lt_ w _ hw234_1)).trans hw234_1), ((HB.out.cell (lt_ w _ hw234_2)).trans hw234_2), ((HB.out.cell (lt_ w _ hw235_0)).trans hw235_0), ((HB.out.cell (lt_ w _ hw235_1)).trans hw235_1), ((HB.out.cell (lt_ w _ hw235_2)).trans hw235_2)⟩ (fun hHeld => ?_); refine with_tabW spec_l21Checks.tab11 spec_l21Checks.bits11 (fun HT_ HW_ => ?_)
                   generalize wr.drew = w32 at HB hx232_0 hx232_1 hx232_2 hx233_0 hx233_1 hx233_2 hx234_0 hx234_1 hx234_2 hx235_0 hx235_1 hx235_2 hHeld ⊢
                   refine pu (i := 0) (N := some 50) #[T_,F_,F_,F_,F_,F_,F_,F_,F_,F_,F_,F_,F_,F_,F_,F_,F_,F_,F_,F_,F_,F_,F_,F_,F_,F_,F_,F_,F_,F_,F_,F_,F_,F_,F_,F_,F_] HT_ ?_
                   refine pu (i := 1) (N := some 51) #[T_,T_,F_,F_,F_,F_,F_,F_,F_,F_,F_,F_,F_,F_,F_,F_,F_,F_,F_,F_,F_,F_,F_,F_,F_,F_,F_,F_,F_,F_,F_,F_,F_,F_,F_,F_,F_] HT_ ?_
                   refine pu (i := 2) (N := some 52) #[T_,T_,T_,F_,F_,F_,F_,F_,F_,F_,F_,F_,F_,F_,F_,F_,F_,F_,F_,F_,F_,F_,F_,F_,F_,F_,F_,F_,F_,F_,F_,F_,F_,F_,F_,F_,F_] HT_ ?_
                   refine pu (i := 3) (N := some 53) #[T_,T_,T_,T_,F_,F_,F_,F_,F_,F_,F_,F_,F_,F_,F_,F_,F_,F_,F_,F_,F_,F_,F_,F_,F_,F_,F_,F_,F_,F_,F_,F_,F_,F_,F_,F_,F_] HT_ ?_
                   refine pu (i := 5) (N := some 55) #[T_,T_,T_,T_,F_,T_,F_,F_,F_,F_,F_,F_,F_,F_,F_,F_,F_,F_,F_,F_,F_,F_,F_,F_,F_,F_,F_,F_,F_,F_,F_,F_,F_,F_,F_,F_,F_] HT_ ?_
                   refine pu (i := 6) (N := some 56) #[T_,T_,T_,T_,F_,T_,T_,F_,F_,F_,F_,F_,F_,F_,F_,F_,F_,F_,F_,F_,F_,F_,F_,F_,F_,F_,F_,F_,F_,F_,F_,F_,F_,F_,F_,F_,F_] HT_ ?_
                   refine pu (i := 7) (N := some 57) #[T_,T_,T_,T_,F_,T_,T_,T_,F_,F_,F_,F_,F_,F_,F_,F_,F_,F_,F_,F_,F_,F_,F_,F_,F_,F_,F_,F_,F_,F_,F_,F_,F_,F_,F_,F_,F_] HT_ ?_
                   refine pu (i := 8) (N := some 58) #[T_,T_,T_,T_,F_,T_,T_,T_,T_,F_,F_,F_,F_,F_,F_,F_,F_,F_,F_,F_,F_,F_,F_,F_,F_,F_,F_,F_,F_,F_,F_,F_,F_,F_,F_,F_,F_] HT_ ?_
                   refine take_ (i := 4) (N := some 54) (v := ?_) (a' := ?_) #[T_,T_,T_,T_,T_,T_,T_,T_,T_,F_,F_,F_,F_,F_,F_,F_,F_,F_,F_,F_,F_,F_,F_,F_,F_,F_,F_,F_,F_,F_,F_,F_,F_,F_,F_,F_,F_] rfl rfl (take_ofW HT_.out HW_.out (by kernel_rfl)) (fun _ _ _ h => h) (Or.inl ⟨by rfl, ?_⟩) hHeld ?_ ?_
                   rotate_left
                   ·rintro w' ⟨s0, s1, s2, s3, s4, s5, s6, s7, s8, s9, s10, s11⟩
                    go_simp
                    with_reducible rfl
                   rotate_left
                   ·simp only [Act.put, sT_, s0_, sS_, i64_w, i32_w]
                    rfl
                   refine take_ (i := 9) (N := some 59) (v := ?_) (a' := ?_) #[T_,T_,T_,T_,T_,T_,T_,T_,T_,T_,F_,F_,F_,F_,F_,F_,F_,F_,F_,F_,F_,F_,F_,F_,F_,F_,F_,F_,F_,F_,F_,F_,F_,F_,F_,F_,F_] rfl rfl (take_ofW HT_.out HW_.out (by kernel_rfl)) (fun _ _ _ h => h) (Or.inl ⟨by rfl, ?_⟩) hHeld ?_ ?_
                   rotate_left
                   ·rintro w' ⟨s0, s1, s2, s3, s4, s5, s6, s7, s8, s9, s10, s11⟩
                    go_simp
                    with_reducible rfl
                   rotate_left
                   ·simp only [Act.put, sT_, s0_, sS_, i64_w, i32_w]
                    rfl
                   refine pu (i := 10) (N := some 60) #[T_,T_,T_,T_,T_,T_,T_,T_,T_,T_,T_,F_,F_,F_,F_,F_,F_,F_,F_,F_,F_,F_,F_,F_,F_,F_,F_,F_,F_,F_,F_,F_,F_,F_,F_,F_,F_] HT_ ?_
                   refine pu (i := 11) (N := some 61) #[T_,T_,T_,T_,T_,T_,T_,T_,T_,T_,T_,T_,F_,F_,F_,F_,F_,F_,F_,F_,F_,F_,F_,F_,F_,F_,F_,F_,F_,F_,F_,F_,F_,F_,F_,F_,F_] HT_ ?_
                   refine pu (i := 12) (N := some 62) #[T_,T_,T_,T_,T_,T_,T_,T_,T_,T_,T_,T_,T_,F_,F_,F_,F_,F_,F_,F_,F_,F_,F_,F_,F_,F_,F_,F_,F_,F_,F_,F_,F_,F_,F_,F_,F_] HT_ ?_
                   refine pu (i := 13) (N := some 63) #[T_,T_,T_,T_,T_,T_,T_,T_,T_,T_,T_,T_,T_,T_,F_,F_,F_,F_,F_,F_,F_,F_,F_,F_,F_,F_,F_,F_,F_,F_,F_,F_,F_,F_,F_,F_,F_] HT_ ?_
                   refine pu (i := 14) (N := some 64) #[T_,T_,T_,T_,T_,T_,T_,T_,T_,T_,T_,T_,T_,T_,T_,F_,F_,F_,F_,F_,F_,F_,F_,F_,F_,F_,F_,F_,F_,F_,F_,F_,F_,F_,F_,F_,F_] HT_ ?_
                   refine pu (i := 15) (N := some 65) #[T_,T_,T_,T_,T_,T_,T_,T_,T_,T_,T_,T_,T_,T_,T_,T_,F_,F_,F_,F_,F_,F_,F_,F_,F_,F_,F_,F_,F_,F_,F_,F_,F_,F_,F_,F_,F_] HT_ ?_
                   refine pu (i := 17) (N := some 67) #[T_,T_,T_,T_,T_,T_,T_,T_,T_,T_,T_,T_,T_,T_,T_,T_,F_,T_,F_,F_,F_,F_,F_,F_,F_,F_,F_,F_,F_,F_,F_,F_,F_,F_,F_,F_,F_] HT_ ?_
                   refine pu (i := 18) (N := some 68) #[T_,T_,T_,T_,T_,T_,T_,T_,T_,T_,T_,T_,T_,T_,T_,T_,F_,T_,T_,F_,F_,F_,F_,F_,F_,F_,F_,F_,F_,F_,F_,F_,F_,F_,F_,F_,F_] HT_ ?_
                   refine pu (i := 19) (N := some 69) #[T_,T_,T_,T_,T_,T_,T_,T_,T_,T_,T_,T_,T_,T_,T_,T_,F_,T_,T_,T_,F_,F_,F_,F_,F_,F_,F_,F_,F_,F_,F_,F_,F_,F_,F_,F_,F_] HT_ ?_
                   refine pu (i := 20) (N := some 70) #[T_,T_,T_,T_,T_,T_,T_,T_,T_,T_,T_,T_,T_,T_,T_,T_,F_,T_,T_,T_,T_,F_,F_,F_,F_,F_,F_,F_,F_,F_,F_,F_,F_,F_,F_,F_,F_] HT_ ?_
                   refine take_ (i := 16) (N := some 66) (v := ?_) (a' := ?_) #[T_,T_,T_,T_,T_,T_,T_,T_,T_,T_,T_,T_,T_,T_,T_,T_,T_,T_,T_,T_,T_,F_,F_,F_,F_,F_,F_,F_,F_,F_,F_,F_,F_,F_,F_,F_,F_] rfl rfl (take_ofW HT_.out HW_.out (by kernel_rfl)) (fun _ _ _ h => h) (Or.inl ⟨by rfl, ?_⟩) hHeld ?_ ?_
                   rotate_left
                   ·rintro w' ⟨s0, s1, s2, s3, s4, s5, s6, s7, s8, s9, s10, s11⟩
                    go_simp
                    with_reducible rfl
                   rotate_left
                   ·simp only [Act.put, sT_, s0_, sS_, i64_w, i32_w]
                    rfl
                   refine take_ (i := 21) (N := some 71) (v := ?_) (a' := ?_) #[T_,T_,T_,T_,T_,T_,T_,T_,T_,T_,T_,T_,T_,T_,T_,T_,T_,T_,T_,T_,T_,T_,F_,F_,F_,F_,F_,F_,F_,F_,F_,F_,F_,F_,F_,F_,F_] rfl rfl (take_ofW HT_.out HW_.out (by kernel_rfl)) (fun _ _ _ h => h) (Or.inl ⟨by rfl, ?_⟩) hHeld ?_ ?_
                   rotate_left
                   ·rintro w' ⟨s0, s1, s2, s3, s4, s5, s6, s7, s8, s9, s10, s11⟩
                    go_simp
                    with_reducible rfl
                   rotate_left
                   ·simp only [Act.put, sT_, s0_, sS_, i64_w, i32_w]
                    rfl
                   refine pu (i := 22) (N := some 72) #[T_,T_,T_,T_,T_,T_,T_,T_,T_,T_,T_,T_,T_,T_,T_,T_,T_,T_,T_,T_,T_,T_,T_,F_,F_,F_,F_,F_,F_,F_,F_,F_,F_,F_,F_,F_,F_] HT_ ?_
                   refine pu (i := 23) (N := some 73) #[T_,T_,T_,T_,T_,T_,T_,T_,T_,T_,T_,T_,T_,T_,T_,T_,T_,T_,T_,T_,T_,T_,T_,T_,F_,F_,F_,F_,F_,F_,F_,F_,F_,F_,F_,F_,F_] HT_ ?_
                   refine pn (i := 24) (N := some 74) #[T_,T_,T_,T_,T_,T_,T_,T_,T_,T_,T_,T_,T_,T_,T_,T_,T_,T_,T_,T_,T_,T_,T_,T_,T_,F_,F_,F_,F_,F_,F_,F_,F_,F_,F_,F_,F_] HT_ ?_
                   refine pn (i := 25) (N := some 75) #[T_,T_,T_,T_,T_,T_,T_,T_,T_,T_,T_,T_,T_,T_,T_,T_,T_,T_,T_,T_,T_,T_,T_,T_,T_,T_,F_,F_,F_,F_,F_,F_,F_,F_,F_,F_,F_] HT_ ?_
                   refine pn (i := 26) (N := some 76) #[T_,T_,T_,T_,T_,T_,T_,T_,T_,T_,T_,T_,T_,T_,T_,T_,T_,T_,T_,T_,T_,T_,T_,T_,T_,T_,T_,F_,F_,F_,F_,F_,F_,F_,F_,F_,F_] HT_ ?_
                   refine pn (i := 27) (N := some 77) #[T_,T_,T_,T_,T_,T_,T_,T_,T_,T_,T_,T_,T_,T_,T_,T_,T_,T_,T_,T_,T_,T_,T_,T_,T_,T_,T_,T_,F_,F_,F_,F_,F_,F_,F_,F_,F_] HT_ ?_
                   refine pn (i := 28) (N := some 78) #[T_,T_,T_,T_,T_,T_,T_,T_,T_,T_,T_,T_,T_,T_,T_,T_,T_,T_,T_,T_,T_,T_,T_,T_,T_,T_,T_,T_,T_,F_,F_,F_,F_,F_,F_,F_,F_] HT_ ?_
                   refine pn (i := 29) (N := some 79) #[T_,T_,T_,T_,T_,T_,T_,T_,T_,T_,T_,T_,T_,T_,T_,T_,T_,T_,T_,T_,T_,T_,T_,T_,T_,T_,T_,T_,T_,T_,F_,F_,F_,F_,F_,F_,F_] HT_ ?_
                   refine pn (i := 30) (N := some 80) #[T_,T_,T_,T_,T_,T_,T_,T_,T_,T_,T_,T_,T_,T_,T_,T_,T_,T_,T_,T_,T_,T_,T_,T_,T_,T_,T_,T_,T_,T_,T_,F_,F_,F_,F_,F_,F_] HT_ ?_
                   refine pn (i := 31) (N := some 81) #[T_,T_,T_,T_,T_,T_,T_,T_,T_,T_,T_,T_,T_,T_,T_,T_,T_,T_,T_,T_,T_,T_,T_,T_,T_,T_,T_,T_,T_,T_,T_,T_,F_,F_,F_,F_,F_] HT_ ?_
                   refine pn (i := 32) (N := some 82) #[T_,T_,T_,T_,T_,T_,T_,T_,T_,T_,T_,T_,T_,T_,T_,T_,T_,T_,T_,T_,T_,T_,T_,T_,T_,T_,T_,T_,T_,T_,T_,T_,T_,F_,F_,F_,F_] HT_ ?_
                   refine pn (i := 33) (N := some 83) #[T_,T_,T_,T_,T_,T_,T_,T_,T_,T_,T_,T_,T_,T_,T_,T_,T_,T_,T_,T_,T_,T_,T_,T_,T_,T_,T_,T_,T_,T_,T_,T_,T_,T_,F_,F_,F_] HT_ ?_
                   refine pn (i := 34) (N := some 84) #[T_,T_,T_,T_,T_,T_,T_,T_,T_,T_,T_,T_,T_,T_,T_,T_,T_,T_,T_,T_,T_,T_,T_,T_,T_,T_,T_,T_,T_,T_,T_,T_,T_,T_,T_,F_,F_] HT_ ?_
                   refine pu (i := 35) (N := some 85) #[T_,T_,T_,T_,T_,T_,T_,T_,T_,T_,T_,T_,T_,T_,T_,T_,T_,T_,T_,T_,T_,T_,T_,T_,T_,T_,T_,T_,T_,T_,T_,T_,T_,T_,T_,T_,F_] HT_ ?_
                   refine pu (i := 36) (N := some 86) #[T_,T_,T_,T_,T_,T_,T_,T_,T_,T_,T_,T_,T_,T_,T_,T_,T_,T_,T_,T_,T_,T_,T_,T_,T_,T_,T_,T_,T_,T_,T_,T_,T_,T_,T_,T_,T_] HT_ ?_
                   refine done_ (done_of HT_.out (by kernel_rfl)) ?_
                   try go_wp2
                   go_ret
                   exact ⟨ew_, hb_⟩
                  ·rw [if_neg c31] at H
                   have c31b0 : (((rd_T75 l1 x6_4).f1) == ((rd_T75 l1 x5_2).f1)) = false := beq_eq_false_iff_ne.mpr c31
                   have c31b1 : (((rd_T75 l1 x6_4).f1) != ((rd_T75 l1 x5_2).f1)) = true := bne_iff_ne.mpr c31
                   by_cases c33 : ((rd_T75 l1 x6_4).f2) > ((rd_T75 l1 x5_2).f2)
                   ·rw [if_pos c33] at H
                    have c33b0 : decide (((rd_T75 l1 x5_2).f2) < ((rd_T75 l1 x6_4).f2)) = true := dt_ c33
                    clear c33
                    obtain rfl := Option.some.inj H
                    try go_wp2
                    have n0_ := ak_ (below_drew1 HB.out)
                    clear HB
                    have HB := n0_
                    clear n0_
                    have p232 : 0 ≤ (x6_4 : Int) := od_
                    have q232 : x6_4 < (l1.length : Int) := od_
                    obtain ⟨ad232, e232, hx232_0, hx232_1, hx232_2⟩ := at_T75 HR1.out x6_4 p232 q232
                    have hw232_2 := hx232_2
                    have hw232_1 := hx232_1
                    have hw232_0 := hx232_0
                    cases e232
                    replace hx232_0 := cq_ HB hx232_0
                    replace hx232_1 := cq_ HB hx232_1
                    replace hx232_2 := cq_ HB hx232_2
                    replace p232 := eq_true p232
                    replace q232 := eq_true q232
                    have p233 : 0 ≤ (x5_2 : Int) := od_
                    have q233 : x5_2 < (l1.length : Int) := od_
                    obtain ⟨ad233, e233, hx233_0, hx233_1, hx233_2⟩ := at_T75 HR1.out x5_2 p233 q233
                    have hw233_2 := hx233_2
                    have hw233_1 := hx233_1
                    have hw233_0 := hx233_0
                    obtain rfl : ad232 = ad233 := (by injection e233)
                    replace hx233_0 := cq_ HB hx233_0
                    replace hx233_1 := cq_ HB hx233_1
                    replace hx233_2 := cq_ HB hx233_2
                    replace p233 := eq_true p233
                    replace q233 := eq_true q233
                    have p234 : 0 ≤ (x6_4 : Int) := od_
                    have q234 : x6_4 < (l1.length : Int) := od_
                    obtain ⟨ad234, e234, hx234_0, hx234_1, hx234_2⟩ := at_T75 HR1.out x6_4 p234 q234
                    have hw234_2 := hx234_2
                    have hw234_1 := hx234_1
                    have hw234_0 := hx234_0
                    obtain rfl : ad232 = ad234 := (by injection e234)
                    replace hx234_0 := cq_ HB hx234_0
                    replace hx234_1 := cq_ HB hx234_1
                    replace hx234_2 := cq_ HB hx234_2
                    replace p234 := eq_true p234
                    replace q234 := eq_true q234
                    have p235 : 0 ≤ (x5_2 : Int) := od_
                    have q235 : x5_2 < (l1.length : Int) := od_
                    obtain ⟨ad235, e235, hx235_0, hx235_1, hx235_2⟩ := at_T75 HR1.out x5_2 p235 q235
                    have hw235_2 := hx235_2
                    have hw235_1 := hx235_1
                    have hw235_0 := hx235_0
                    obtain rfl : ad232 = ad235 := (by injection e235)
                    replace hx235_0 := cq_ HB hx235_0
                    replace hx235_1 := cq_ HB hx235_1
                    replace hx235_2 := cq_ HB hx235_2
                    replace p235 := eq_true p235
                    replace q235 := eq_true q235
                    have p236 : 0 ≤ (x6_4 : Int) := od_
                    have q236 : x6_4 < (l1.length : Int) := od_
                    obtain ⟨ad236, e236, hx236_0, hx236_1, hx236_2⟩ := at_T75 HR1.out x6_4 p236 q236
                    have hw236_2 := hx236_2
                    have hw236_1 := hx236_1
                    have hw236_0 := hx236_0
                    obtain rfl : ad232 = ad236 := (by injection e236)
                    replace hx236_0 := cq_ HB hx236_0
                    replace hx236_1 := cq_ HB hx236_1
                    replace hx236_2 := cq_ HB hx236_2
                    replace p236 := eq_true p236
                    replace q236 := eq_true q236
                    have p237 : 0 ≤ (x5_2 : Int) := od_
                    have q237 : x5_2 < (l1.length : Int) := od_
                    obtain ⟨ad237, e237, hx237_0, hx237_1, hx237_2⟩ := at_T75 HR1.out x5_2 p237 q237
                    have hw237_2 := hx237_2
                    have hw237_1 := hx237_1
                    have hw237_0 := hx237_0
                    obtain rfl : ad232 = ad237 := (by injection e237)
                    replace hx237_0 := cq_ HB hx237_0
                    replace hx237_1 := cq_ HB hx237_1
                    replace hx237_2 := cq_ HB hx237_2
                    replace p237 := eq_true p237
                    replace q237 := eq_true q237
                    refine start_ (n := 37) (S := fun w' => w'.cell? (ad232.add ((x6_4).toNat * 3)) = some (.string ((rd_T75 l1 x6_4).f0)) ∧ w'.cell? ⟨(ad232.add ((x6_4).toNat * 3)).block, (ad232.add ((x6_4).toNat * 3)).off + 1, none⟩ = some (.int .i64 ((rd_T75 l1 x6_4).f1)) ∧ w'.cell? ⟨(ad232.add ((x6_4).toNat * 3)).block, (ad232.add ((x6_4).toNat * 3)).off + 2, none⟩ = some (.int .i64 ((rd_T75 l1 x6_4).f2)) ∧ w'.cell? (ad232.add ((x5_2).toNat * 3)) = some (.string ((rd_T75 l1 x5_2).f0)) ∧ w'.cell? ⟨(ad232.add ((x5_2).toNat * 3)).block, (ad232.add ((x5_2).toNat * 3)).off + 1, none⟩ = some (.int .i64 ((rd_T75 l1 x5_2).f1)) ∧ w'.cell? ⟨(ad232.add ((x5_2).toNat * 3)).block, (ad232.add ((x5_2).toNat * 3)).off + 2, none⟩ = some (.int .i64 ((rd_T75 l1 x5_2).f2)) ∧ w'.cell? (ad232.add ((x6_4).toNat * 3)) = some (.string ((rd_T75 l1 x6_4).f0)) ∧ w'.cell? ⟨(ad232.add ((x6_4).toNat * 3)).block, (ad232.add ((x6_4).toNat * 3)).off + 1, none⟩ = some (.int .i64 ((rd_T75 l1 x6_4).f1)) ∧ w'.cell? ⟨(ad232.add ((x6_4).toNat * 3)).block, (ad232.add ((x6_4).toNat * 3)).off + 2, none⟩ = some (.int .i64 ((rd_T75 l1 x6_4).f2)) ∧ w'.cell? (ad232.add ((x5_2).toNat * 3)) = some (.string ((rd_T75 l1 x5_2).f0)) ∧ w'.cell? ⟨(ad232.add ((x5_2).toNat * 3)).block, (ad232.add ((x5_2).toNat * 3)).off + 1, none⟩ = some (.int .i64 ((rd_T75 l1 x5_2).f1)) ∧ w'.cell? ⟨(ad232.add ((x5_2).toNat * 3)).block, (ad232.add ((x5_2).toNat * 3)).off + 2, none⟩ = some (.int .i64 ((rd_T75 l1 x5_2).f2)) ∧ w'.cell? (ad232.add ((x6_4).toNat * 3)) = some (.string ((rd_T75 l1 x6_4).f0)) ∧ w'.cell? ⟨(ad232.add ((x6_4).toNat * 3)).block, (ad232.add ((x6_4).toNat * 3)).off + 1, none⟩ = some (.int .i64 ((rd_T75 l1 x6_4).f1)) ∧ w'.cell? ⟨(ad232.add ((x6_4).toNat * 3)).block, (ad232.add ((x6_4).toNat * 3)).off + 2, none⟩ = some (.int .i64 ((rd_T75 l1 x6_4).f2)) ∧ w'.cell? (ad232.add ((x5_2).toNat * 3)) = some (.string ((rd_T75 l1 x5_2).f0)) ∧ w'.cell? ⟨(ad232.add ((x5_2).toNat * 3)).block, (ad232.add ((x5_2).toNat * 3)).off + 1, none⟩ = some (.int .i64 ((rd_T75 l1 x5_2).f1)) ∧ w'.cell? ⟨(ad232.add ((x5_2).toNat * 3)).block, (ad232.add ((x5_2).toNat * 3)).off + 2, none⟩ = some (.int .i64 ((rd_T75 l1 x5_2).f2))) (ds := []) #[F_,F_,F_,F_,F_,F_,F_,F_,F_,F_,F_,F_,F_,F_,F_,F_,F_,F_,F_,F_,F_,F_,F_,F_,F_,F_,F_,F_,F_,F_,F_,F_,F_,F_,F_,F_,F_] (by kernel_rfl) rfl rfl ⟨((HB.out.cell (lt_ w _ hw232_0)).trans hw232_0), ((HB.out.cell (lt_ w _ hw232_1)).trans hw232_1), ((HB.out.cell (lt_ w _ hw232_2)).trans hw232_2), ((HB.out.cell (lt_ w _ hw233_0)).trans hw233_0), ((HB.out.cell (lt_ w _ hw233_1)).trans hw233_1), ((HB.out.cell (lt_ w _ hw233_2)).trans hw233_2), ((HB.out.cell (lt_ w _ hw234_0)).trans hw234_0), ((HB.out.cell (lt_ w _ hw234_1)).trans hw234_1), ((HB.out.cell (lt_ w _ hw234_2)).trans hw234_2), ((HB.out.cell (lt_ w _ hw235_0)).trans hw235_0), ((HB.out.cell (lt_ w _ hw235_1)).trans hw235_1), ((HB.out.cell (lt_ w _ hw235_2)).trans hw235_2), ((HB.out.cell (lt_ w _ hw236_0)).trans hw236_0), ((HB.out.cell (lt_ w _ hw236_1)).trans hw236_1), ((HB.out.cell (lt_ w _ hw236_2)).trans hw236_2), ((HB.out.cell (lt_ w _ hw237_0)).trans hw237_0), ((HB.out.cell (lt_ w _ hw237_1)).trans hw237_1), ((HB.out.cell (lt_ w _ hw237_2)).trans hw237_2)⟩ (fun hHeld => ?_); refine with_tabW spec_l21Checks.tab11 spec_l21Checks.bits11 (fun HT_ HW_ => ?_)
                    generalize wr.drew = w34 at HB hx232_0 hx232_1 hx232_2 hx233_0 hx233_1 hx233_2 hx234_0 hx234_1 hx234_2 hx235_0 hx235_1 hx235_2 hx236_0 hx236_1 hx236_2 hx237_0 hx237_1 hx237_2 hHeld ⊢
                    refine pu (i := 0) (N := some 50) #[T_,F_,F_,F_,F_,F_,F_,F_,F_,F_,F_,F_,F_,F_,F_,F_,F_,F_,F_,F_,F_,F_,F_,F_,F_,F_,F_,F_,F_,F_,F_,F_,F_,F_,F_,F_,F_] HT_ ?_
                    refine pu (i := 1) (N := some 51) #[T_,T_,F_,F_,F_,F_,F_,F_,F_,F_,F_,F_,F_,F_,F_,F_,F_,F_,F_,F_,F_,F_,F_,F_,F_,F_,F_,F_,F_,F_,F_,F_,F_,F_,F_,F_,F_] HT_ ?_
                    refine pu (i := 2) (N := some 52) #[T_,T_,T_,F_,F_,F_,F_,F_,F_,F_,F_,F_,F_,F_,F_,F_,F_,F_,F_,F_,F_,F_,F_,F_,F_,F_,F_,F_,F_,F_,F_,F_,F_,F_,F_,F_,F_] HT_ ?_
                    refine pu (i := 3) (N := some 53) #[T_,T_,T_,T_,F_,F_,F_,F_,F_,F_,F_,F_,F_,F_,F_,F_,F_,F_,F_,F_,F_,F_,F_,F_,F_,F_,F_,F_,F_,F_,F_,F_,F_,F_,F_,F_,F_] HT_ ?_
                    refine pu (i := 5) (N := some 55) #[T_,T_,T_,T_,F_,T_,F_,F_,F_,F_,F_,F_,F_,F_,F_,F_,F_,F_,F_,F_,F_,F_,F_,F_,F_,F_,F_,F_,F_,F_,F_,F_,F_,F_,F_,F_,F_] HT_ ?_
                    refine pu (i := 6) (N := some 56) #[T_,T_,T_,T_,F_,T_,T_,F_,F_,F_,F_,F_,F_,F_,F_,F_,F_,F_,F_,F_,F_,F_,F_,F_,F_,F_,F_,F_,F_,F_,F_,F_,F_,F_,F_,F_,F_] HT_ ?_
                    refine pu (i := 7) (N := some 57) #[T_,T_,T_,T_,F_,T_,T_,T_,F_,F_,F_,F_,F_,F_,F_,F_,F_,F_,F_,F_,F_,F_,F_,F_,F_,F_,F_,F_,F_,F_,F_,F_,F_,F_,F_,F_,F_] HT_ ?_
                    refine pu (i := 8) (N := some 58) #[T_,T_,T_,T_,F_,T_,T_,T_,T_,F_,F_,F_,F_,F_,F_,F_,F_,F_,F_,F_,F_,F_,F_,F_,F_,F_,F_,F_,F_,F_,F_,F_,F_,F_,F_,F_,F_] HT_ ?_
                    refine take_ (i := 4) (N := some 54) (v := ?_) (a' := ?_) #[T_,T_,T_,T_,T_,T_,T_,T_,T_,F_,F_,F_,F_,F_,F_,F_,F_,F_,F_,F_,F_,F_,F_,F_,F_,F_,F_,F_,F_,F_,F_,F_,F_,F_,F_,F_,F_] rfl rfl (take_ofW HT_.out HW_.out (by kernel_rfl)) (fun _ _ _ h => h) (Or.inl ⟨by rfl, ?_⟩) hHeld ?_ ?_
                    rotate_left
                    ·rintro w' ⟨s0, s1, s2, s3, s4, s5, s6, s7, s8, s9, s10, s11, s12, s13, s14, s15, s16, s17⟩
                     go_simp
                     with_reducible rfl
                    rotate_left
                    ·simp only [Act.put, sT_, s0_, sS_, i64_w, i32_w]
                     rfl
                    refine take_ (i := 9) (N := some 59) (v := ?_) (a' := ?_) #[T_,T_,T_,T_,T_,T_,T_,T_,T_,T_,F_,F_,F_,F_,F_,F_,F_,F_,F_,F_,F_,F_,F_,F_,F_,F_,F_,F_,F_,F_,F_,F_,F_,F_,F_,F_,F_] rfl rfl (take_ofW HT_.out HW_.out (by kernel_rfl)) (fun _ _ _ h => h) (Or.inl ⟨by rfl, ?_⟩) hHeld ?_ ?_
                    rotate_left
                    ·rintro w' ⟨s0, s1, s2, s3, s4, s5, s6, s7, s8, s9, s10, s11, s12, s13, s14, s15, s16, s17⟩
                     go_simp
                     with_reducible rfl
                    rotate_left
                    ·simp only [Act.put, sT_, s0_, sS_, i64_w, i32_w]
                     rfl
                    refine pu (i := 10) (N := some 60) #[T_,T_,T_,T_,T_,T_,T_,T_,T_,T_,T_,F_,F_,F_,F_,F_,F_,F_,F_,F_,F_,F_,F_,F_,F_,F_,F_,F_,F_,F_,F_,F_,F_,F_,F_,F_,F_] HT_ ?_
                    refine pu (i := 11) (N := some 61) #[T_,T_,T_,T_,T_,T_,T_,T_,T_,T_,T_,T_,F_,F_,F_,F_,F_,F_,F_,F_,F_,F_,F_,F_,F_,F_,F_,F_,F_,F_,F_,F_,F_,F_,F_,F_,F_] HT_ ?_
                    refine pu (i := 12) (N := some 62) #[T_,T_,T_,T_,T_,T_,T_,T_,T_,T_,T_,T_,T_,F_,F_,F_,F_,F_,F_,F_,F_,F_,F_,F_,F_,F_,F_,F_,F_,F_,F_,F_,F_,F_,F_,F_,F_] HT_ ?_
                    refine pu (i := 13) (N := some 63) #[T_,T_,T_,T_,T_,T_,T_,T_,T_,T_,T_,T_,T_,T_,F_,F_,F_,F_,F_,F_,F_,F_,F_,F_,F_,F_,F_,F_,F_,F_,F_,F_,F_,F_,F_,F_,F_] HT_ ?_
                    refine pu (i := 14) (N := some 64) #[T_,T_,T_,T_,T_,T_,T_,T_,T_,T_,T_,T_,T_,T_,T_,F_,F_,F_,F_,F_,F_,F_,F_,F_,F_,F_,F_,F_,F_,F_,F_,F_,F_,F_,F_,F_,F_] HT_ ?_
                    refine pu (i := 15) (N := some 65) #[T_,T_,T_,T_,T_,T_,T_,T_,T_,T_,T_,T_,T_,T_,T_,T_,F_,F_,F_,F_,F_,F_,F_,F_,F_,F_,F_,F_,F_,F_,F_,F_,F_,F_,F_,F_,F_] HT_ ?_
                    refine pu (i := 17) (N := some 67) #[T_,T_,T_,T_,T_,T_,T_,T_,T_,T_,T_,T_,T_,T_,T_,T_,F_,T_,F_,F_,F_,F_,F_,F_,F_,F_,F_,F_,F_,F_,F_,F_,F_,F_,F_,F_,F_] HT_ ?_
                    refine pu (i := 18) (N := some 68) #[T_,T_,T_,T_,T_,T_,T_,T_,T_,T_,T_,T_,T_,T_,T_,T_,F_,T_,T_,F_,F_,F_,F_,F_,F_,F_,F_,F_,F_,F_,F_,F_,F_,F_,F_,F_,F_] HT_ ?_
                    refine pu (i := 19) (N := some 69) #[T_,T_,T_,T_,T_,T_,T_,T_,T_,T_,T_,T_,T_,T_,T_,T_,F_,T_,T_,T_,F_,F_,F_,F_,F_,F_,F_,F_,F_,F_,F_,F_,F_,F_,F_,F_,F_] HT_ ?_
                    refine pu (i := 20) (N := some 70) #[T_,T_,T_,T_,T_,T_,T_,T_,T_,T_,T_,T_,T_,T_,T_,T_,F_,T_,T_,T_,T_,F_,F_,F_,F_,F_,F_,F_,F_,F_,F_,F_,F_,F_,F_,F_,F_] HT_ ?_
                    refine take_ (i := 16) (N := some 66) (v := ?_) (a' := ?_) #[T_,T_,T_,T_,T_,T_,T_,T_,T_,T_,T_,T_,T_,T_,T_,T_,T_,T_,T_,T_,T_,F_,F_,F_,F_,F_,F_,F_,F_,F_,F_,F_,F_,F_,F_,F_,F_] rfl rfl (take_ofW HT_.out HW_.out (by kernel_rfl)) (fun _ _ _ h => h) (Or.inl ⟨by rfl, ?_⟩) hHeld ?_ ?_
                    rotate_left
                    ·rintro w' ⟨s0, s1, s2, s3, s4, s5, s6, s7, s8, s9, s10, s11, s12, s13, s14, s15, s16, s17⟩
                     go_simp
                     with_reducible rfl
                    rotate_left
                    ·simp only [Act.put, sT_, s0_, sS_, i64_w, i32_w]
                     rfl
                    refine take_ (i := 21) (N := some 71) (v := ?_) (a' := ?_) #[T_,T_,T_,T_,T_,T_,T_,T_,T_,T_,T_,T_,T_,T_,T_,T_,T_,T_,T_,T_,T_,T_,F_,F_,F_,F_,F_,F_,F_,F_,F_,F_,F_,F_,F_,F_,F_] rfl rfl (take_ofW HT_.out HW_.out (by kernel_rfl)) (fun _ _ _ h => h) (Or.inl ⟨by rfl, ?_⟩) hHeld ?_ ?_
                    rotate_left
                    ·rintro w' ⟨s0, s1, s2, s3, s4, s5, s6, s7, s8, s9, s10, s11, s12, s13, s14, s15, s16, s17⟩
                     go_simp
                     with_reducible rfl
                    rotate_left
                    ·simp only [Act.put, sT_, s0_, sS_, i64_w, i32_w]
                     rfl
                    refine pu (i := 22) (N := some 72) #[T_,T_,T_,T_,T_,T_,T_,T_,T_,T_,T_,T_,T_,T_,T_,T_,T_,T_,T_,T_,T_,T_,T_,F_,F_,F_,F_,F_,F_,F_,F_,F_,F_,F_,F_,F_,F_] HT_ ?_
                    refine pu (i := 23) (N := some 73) #[T_,T_,T_,T_,T_,T_,T_,T_,T_,T_,T_,T_,T_,T_,T_,T_,T_,T_,T_,T_,T_,T_,T_,T_,F_,F_,F_,F_,F_,F_,F_,F_,F_,F_,F_,F_,F_] HT_ ?_
                    refine pu (i := 24) (N := some 74) #[T_,T_,T_,T_,T_,T_,T_,T_,T_,T_,T_,T_,T_,T_,T_,T_,T_,T_,T_,T_,T_,T_,T_,T_,T_,F_,F_,F_,F_,F_,F_,F_,F_,F_,F_,F_,F_] HT_ ?_
                    refine pu (i := 25) (N := some 75) #[T_,T_,T_,T_,T_,T_,T_,T_,T_,T_,T_,T_,T_,T_,T_,T_,T_,T_,T_,T_,T_,T_,T_,T_,T_,T_,F_,F_,F_,F_,F_,F_,F_,F_,F_,F_,F_] HT_ ?_
                    refine pu (i := 26) (N := some 76) #[T_,T_,T_,T_,T_,T_,T_,T_,T_,T_,T_,T_,T_,T_,T_,T_,T_,T_,T_,T_,T_,T_,T_,T_,T_,T_,T_,F_,F_,F_,F_,F_,F_,F_,F_,F_,F_] HT_ ?_
                    refine pu (i := 27) (N := some 77) #[T_,T_,T_,T_,T_,T_,T_,T_,T_,T_,T_,T_,T_,T_,T_,T_,T_,T_,T_,T_,T_,T_,T_,T_,T_,T_,T_,T_,F_,F_,F_,F_,F_,F_,F_,F_,F_] HT_ ?_
                    refine pu (i := 29) (N := some 79) #[T_,T_,T_,T_,T_,T_,T_,T_,T_,T_,T_,T_,T_,T_,T_,T_,T_,T_,T_,T_,T_,T_,T_,T_,T_,T_,T_,T_,F_,T_,F_,F_,F_,F_,F_,F_,F_] HT_ ?_
                    refine pu (i := 30) (N := some 80) #[T_,T_,T_,T_,T_,T_,T_,T_,T_,T_,T_,T_,T_,T_,T_,T_,T_,T_,T_,T_,T_,T_,T_,T_,T_,T_,T_,T_,F_,T_,T_,F_,F_,F_,F_,F_,F_] HT_ ?_
                    refine pu (i := 31) (N := some 81) #[T_,T_,T_,T_,T_,T_,T_,T_,T_,T_,T_,T_,T_,T_,T_,T_,T_,T_,T_,T_,T_,T_,T_,T_,T_,T_,T_,T_,F_,T_,T_,T_,F_,F_,F_,F_,F_] HT_ ?_
                    refine pu (i := 32) (N := some 82) #[T_,T_,T_,T_,T_,T_,T_,T_,T_,T_,T_,T_,T_,T_,T_,T_,T_,T_,T_,T_,T_,T_,T_,T_,T_,T_,T_,T_,F_,T_,T_,T_,T_,F_,F_,F_,F_] HT_ ?_
                    refine take_ (i := 28) (N := some 78) (v := ?_) (a' := ?_) #[T_,T_,T_,T_,T_,T_,T_,T_,T_,T_,T_,T_,T_,T_,T_,T_,T_,T_,T_,T_,T_,T_,T_,T_,T_,T_,T_,T_,T_,T_,T_,T_,T_,F_,F_,F_,F_] rfl rfl (take_ofW HT_.out HW_.out (by kernel_rfl)) (fun _ _ _ h => h) (Or.inl ⟨by rfl, ?_⟩) hHeld ?_ ?_
                    rotate_left
                    ·rintro w' ⟨s0, s1, s2, s3, s4, s5, s6, s7, s8, s9, s10, s11, s12, s13, s14, s15, s16, s17⟩
                     go_simp
                     with_reducible rfl
                    rotate_left
                    ·simp only [Act.put, sT_, s0_, sS_, i64_w, i32_w]
                     rfl
                    refine take_ (i := 33) (N := some 83) (v := ?_) (a' := ?_) #[T_,T_,T_,T_,T_,T_,T_,T_,T_,T_,T_,T_,T_,T_,T_,T_,T_,T_,T_,T_,T_,T_,T_,T_,T_,T_,T_,T_,T_,T_,T_,T_,T_,T_,F_,F_,F_] rfl rfl (take_ofW HT_.out HW_.out (by kernel_rfl)) (fun _ _ _ h => h) (Or.inl ⟨by rfl, ?_⟩) hHeld ?_ ?_
                    rotate_left
                    ·rintro w' ⟨s0, s1, s2, s3, s4, s5, s6, s7, s8, s9, s10, s11, s12, s13, s14, s15, s16, s17⟩
                     go_simp
                     with_reducible rfl
                    rotate_left
                    ·simp only [Act.put, sT_, s0_, sS_, i64_w, i32_w]
                     rfl
                    refine pu (i := 34) (N := some 84) #[T_,T_,T_,T_,T_,T_,T_,T_,T_,T_,T_,T_,T_,T_,T_,T_,T_,T_,T_,T_,T_,T_,T_,T_,T_,T_,T_,T_,T_,T_,T_,T_,T_,T_,T_,F_,F_] HT_ ?_
                    refine pu (i := 35) (N := some 85) #[T_,T_,T_,T_,T_,T_,T_,T_,T_,T_,T_,T_,T_,T_,T_,T_,T_,T_,T_,T_,T_,T_,T_,T_,T_,T_,T_,T_,T_,T_,T_,T_,T_,T_,T_,T_,F_] HT_ ?_
                    refine pu (i := 36) (N := some 86) #[T_,T_,T_,T_,T_,T_,T_,T_,T_,T_,T_,T_,T_,T_,T_,T_,T_,T_,T_,T_,T_,T_,T_,T_,T_,T_,T_,T_,T_,T_,T_,T_,T_,T_,T_,T_,T_] HT_ ?_
                    refine done_ (done_of HT_.out (by kernel_rfl)) ?_
                    try go_wp2
                    go_ret
                    exact ⟨ew_, hb_⟩
                   ·rw [if_neg c33] at H
                    have c33b0 : decide (((rd_T75 l1 x5_2).f2) < ((rd_T75 l1 x6_4).f2)) = false := decide_eq_false c33
                    clear c33
                    have H' := ak_ H
                    clear H
                    try go_wp2
                    have n0_ := ak_ (below_drew1 HB.out)
                    clear HB
                    have HB := n0_
                    clear n0_
                    have p232 : 0 ≤ (x6_4 : Int) := od_
                    have q232 : x6_4 < (l1.length : Int) := od_
                    obtain ⟨ad232, e232, hx232_0, hx232_1, hx232_2⟩ := at_T75 HR1.out x6_4 p232 q232
                    have hw232_2 := hx232_2
                    have hw232_1 := hx232_1
                    have hw232_0 := hx232_0
                    cases e232
                    replace hx232_0 := cq_ HB hx232_0
                    replace hx232_1 := cq_ HB hx232_1
                    replace hx232_2 := cq_ HB hx232_2
                    replace p232 := eq_true p232
                    replace q232 := eq_true q232
                    have p233 : 0 ≤ (x5_2 : Int) := od_
                    have q233 : x5_2 < (l1.length : Int) := od_
                    obtain ⟨ad233, e233, hx233_0, hx233_1, hx233_2⟩ := at_T75 HR1.out x5_2 p233 q233
                    have hw233_2 := hx233_2
                    have hw233_1 := hx233_1
                    have hw233_0 := hx233_0
                    obtain rfl : ad232 = ad233 := (by injection e233)
                    replace hx233_0 := cq_ HB hx233_0
                    replace hx233_1 := cq_ HB hx233_1
                    replace hx233_2 := cq_ HB hx233_2
                    replace p233 := eq_true p233
                    replace q233 := eq_true q233
                    have p234 : 0 ≤ (x6_4 : Int) := od_
                    have q234 : x6_4 < (l1.length : Int) := od_
                    obtain ⟨ad234, e234, hx234_0, hx234_1, hx234_2⟩ := at_T75 HR1.out x6_4 p234 q234
                    have hw234_2 := hx234_2
                    have hw234_1 := hx234_1
                    have hw234_0 := hx234_0
                    obtain rfl : ad232 = ad234 := (by injection e234)
                    replace hx234_0 := cq_ HB hx234_0
                    replace hx234_1 := cq_ HB hx234_1
                    replace hx234_2 := cq_ HB hx234_2
                    replace p234 := eq_true p234
                    replace q234 := eq_true q234
                    have p235 : 0 ≤ (x5_2 : Int) := od_
                    have q235 : x5_2 < (l1.length : Int) := od_
                    obtain ⟨ad235, e235, hx235_0, hx235_1, hx235_2⟩ := at_T75 HR1.out x5_2 p235 q235
                    have hw235_2 := hx235_2
                    have hw235_1 := hx235_1
                    have hw235_0 := hx235_0
                    obtain rfl : ad232 = ad235 := (by injection e235)
                    replace hx235_0 := cq_ HB hx235_0
                    replace hx235_1 := cq_ HB hx235_1
                    replace hx235_2 := cq_ HB hx235_2
                    replace p235 := eq_true p235
                    replace q235 := eq_true q235
                    have p236 : 0 ≤ (x6_4 : Int) := od_
                    have q236 : x6_4 < (l1.length : Int) := od_
                    obtain ⟨ad236, e236, hx236_0, hx236_1, hx236_2⟩ := at_T75 HR1.out x6_4 p236 q236
                    have hw236_2 := hx236_2
                    have hw236_1 := hx236_1
                    have hw236_0 := hx236_0
                    obtain rfl : ad232 = ad236 := (by injection e236)
                    replace hx236_0 := cq_ HB hx236_0
                    replace hx236_1 := cq_ HB hx236_1
                    replace hx236_2 := cq_ HB hx236_2
                    replace p236 := eq_true p236
                    replace q236 := eq_true q236
                    have p237 : 0 ≤ (x5_2 : Int) := od_
                    have q237 : x5_2 < (l1.length : Int) := od_
                    obtain ⟨ad237, e237, hx237_0, hx237_1, hx237_2⟩ := at_T75 HR1.out x5_2 p237 q237
                    have hw237_2 := hx237_2
                    have hw237_1 := hx237_1
                    have hw237_0 := hx237_0
                    obtain rfl : ad232 = ad237 := (by injection e237)
                    replace hx237_0 := cq_ HB hx237_0
                    replace hx237_1 := cq_ HB hx237_1
                    replace hx237_2 := cq_ HB hx237_2
                    replace p237 := eq_true p237
                    replace q237 := eq_true q237
                    refine start_ (n := 37) (S := fun w' => w'.cell? (ad232.add ((x6_4).toNat * 3)) = some (.string ((rd_T75 l1 x6_4).f0)) ∧ w'.cell? ⟨(ad232.add ((x6_4).toNat * 3)).block, (ad232.add ((x6_4).toNat * 3)).off + 1, none⟩ = some (.int .i64 ((rd_T75 l1 x6_4).f1)) ∧ w'.cell? ⟨(ad232.add ((x6_4).toNat * 3)).block, (ad232.add ((x6_4).toNat * 3)).off + 2, none⟩ = some (.int .i64 ((rd_T75 l1 x6_4).f2)) ∧ w'.cell? (ad232.add ((x5_2).toNat * 3)) = some (.string ((rd_T75 l1 x5_2).f0)) ∧ w'.cell? ⟨(ad232.add ((x5_2).toNat * 3)).block, (ad232.add ((x5_2).toNat * 3)).off + 1, none⟩ = some (.int .i64 ((rd_T75 l1 x5_2).f1)) ∧ w'.cell? ⟨(ad232.add ((x5_2).toNat * 3)).block, (ad232.add ((x5_2).toNat * 3)).off + 2, none⟩ = some (.int .i64 ((rd_T75 l1 x5_2).f2)) ∧ w'.cell? (ad232.add ((x6_4).toNat * 3)) = some (.string ((rd_T75 l1 x6_4).f0)) ∧ w'.cell? ⟨(ad232.add ((x6_4).toNat * 3)).block, (ad232.add ((x6_4).toNat * 3)).off + 1, none⟩ = some (.int .i64 ((rd_T75 l1 x6_4).f1)) ∧ w'.cell? ⟨(ad232.add ((x6_4).toNat * 3)).block, (ad232.add ((x6_4).toNat * 3)).off + 2, none⟩ = some (.int .i64 ((rd_T75 l1 x6_4).f2)) ∧ w'.cell? (ad232.add ((x5_2).toNat * 3)) = some (.string ((rd_T75 l1 x5_2).f0)) ∧ w'.cell? ⟨(ad232.add ((x5_2).toNat * 3)).block, (ad232.add ((x5_2).toNat * 3)).off + 1, none⟩ = some (.int .i64 ((rd_T75 l1 x5_2).f1)) ∧ w'.cell? ⟨(ad232.add ((x5_2).toNat * 3)).block, (ad232.add ((x5_2).toNat * 3)).off + 2, none⟩ = some (.int .i64 ((rd_T75 l1 x5_2).f2)) ∧ w'.cell? (ad232.add ((x6_4).toNat * 3)) = some (.string ((rd_T75 l1 x6_4).f0)) ∧ w'.cell? ⟨(ad232.add ((x6_4).toNat * 3)).block, (ad232.add ((x6_4).toNat * 3)).off + 1, none⟩ = some (.int .i64 ((rd_T75 l1 x6_4).f1)) ∧ w'.cell? ⟨(ad232.add ((x6_4).toNat * 3)).block, (ad232.add ((x6_4).toNat * 3)).off + 2, none⟩ = some (.int .i64 ((rd_T75 l1 x6_4).f2)) ∧ w'.cell? (ad232.add ((x5_2).toNat * 3)) = some (.string ((rd_T75 l1 x5_2).f0)) ∧ w'.cell? ⟨(ad232.add ((x5_2).toNat * 3)).block, (ad232.add ((x5_2).toNat * 3)).off + 1, none⟩ = some (.int .i64 ((rd_T75 l1 x5_2).f1)) ∧ w'.cell? ⟨(ad232.add ((x5_2).toNat * 3)).block, (ad232.add ((x5_2).toNat * 3)).off + 2, none⟩ = some (.int .i64 ((rd_T75 l1 x5_2).f2))) (ds := []) #[F_,F_,F_,F_,F_,F_,F_,F_,F_,F_,F_,F_,F_,F_,F_,F_,F_,F_,F_,F_,F_,F_,F_,F_,F_,F_,F_,F_,F_,F_,F_,F_,F_,F_,F_,F_,F_] (by kernel_rfl) rfl rfl ⟨((HB.out.cell (lt_ w _ hw232_0)).trans hw232_0), ((HB.out.cell (lt_ w _ hw232_1)).trans hw232_1), ((HB.out.cell (lt_ w _ hw232_2)).trans hw232_2), ((HB.out.cell (lt_ w _ hw233_0)).trans hw233_0), ((HB.out.cell (lt_ w _ hw233_1)).trans hw233_1), ((HB.out.cell (lt_ w _ hw233_2)).trans hw233_2), ((HB.out.cell (lt_ w _ hw234_0)).trans hw234_0), ((HB.out.cell (lt_ w _ hw234_1)).trans hw234_1), ((HB.out.cell (lt_ w _ hw234_2)).trans hw234_2), ((HB.out.cell (lt_ w _ hw235_0)).trans hw235_0), ((HB.out.cell (lt_ w _ hw235_1)).trans hw235_1), ((HB.out.cell (lt_ w _ hw235_2)).trans hw235_2), ((HB.out.cell (lt_ w _ hw236_0)).trans hw236_0), ((HB.out.cell (lt_ w _ hw236_1)).trans hw236_1), ((HB.out.cell (lt_ w _ hw236_2)).trans hw236_2), ((HB.out.cell (lt_ w _ hw237_0)).trans hw237_0), ((HB.out.cell (lt_ w _ hw237_1)).trans hw237_1), ((HB.out.cell (lt_ w _ hw237_2)).trans hw237_2)⟩ (fun hHeld => ?_); refine with_tabW spec_l21Checks.tab11 spec_l21Checks.bits11 (fun HT_ HW_ => ?_)
                    generalize wr.drew = w35 at HB hx232_0 hx232_1 hx232_2 hx233_0 hx233_1 hx233_2 hx234_0 hx234_1 hx234_2 hx235_0 hx235_1 hx235_2 hx236_0 hx236_1 hx236_2 hx237_0 hx237_1 hx237_2 hHeld ⊢
                    refine pu (i := 0) (N := some 50) #[T_,F_,F_,F_,F_,F_,F_,F_,F_,F_,F_,F_,F_,F_,F_,F_,F_,F_,F_,F_,F_,F_,F_,F_,F_,F_,F_,F_,F_,F_,F_,F_,F_,F_,F_,F_,F_] HT_ ?_
                    refine pu (i := 1) (N := some 51) #[T_,T_,F_,F_,F_,F_,F_,F_,F_,F_,F_,F_,F_,F_,F_,F_,F_,F_,F_,F_,F_,F_,F_,F_,F_,F_,F_,F_,F_,F_,F_,F_,F_,F_,F_,F_,F_] HT_ ?_
                    refine pu (i := 2) (N := some 52) #[T_,T_,T_,F_,F_,F_,F_,F_,F_,F_,F_,F_,F_,F_,F_,F_,F_,F_,F_,F_,F_,F_,F_,F_,F_,F_,F_,F_,F_,F_,F_,F_,F_,F_,F_,F_,F_] HT_ ?_
                    refine pu (i := 3) (N := some 53) #[T_,T_,T_,T_,F_,F_,F_,F_,F_,F_,F_,F_,F_,F_,F_,F_,F_,F_,F_,F_,F_,F_,F_,F_,F_,F_,F_,F_,F_,F_,F_,F_,F_,F_,F_,F_,F_] HT_ ?_
                    refine pu (i := 5) (N := some 55) #[T_,T_,T_,T_,F_,T_,F_,F_,F_,F_,F_,F_,F_,F_,F_,F_,F_,F_,F_,F_,F_,F_,F_,F_,F_,F_,F_,F_,F_,F_,F_,F_,F_,F_,F_,F_,F_] HT_ ?_
                    refine pu (i := 6) (N := some 56) #[T_,T_,T_,T_,F_,T_,T_,F_,F_,F_,F_,F_,F_,F_,F_,F_,F_,F_,F_,F_,F_,F_,F_,F_,F_,F_,F_,F_,F_,F_,F_,F_,F_,F_,F_,F_,F_] HT_ ?_
                    refine pu (i := 7) (N := some 57) #[T_,T_,T_,T_,F_,T_,T_,T_,F_,F_,F_,F_,F_,F_,F_,F_,F_,F_,F_,F_,F_,F_,F_,F_,F_,F_,F_,F_,F_,F_,F_,F_,F_,F_,F_,F_,F_] HT_ ?_
                    refine pu (i := 8) (N := some 58) #[T_,T_,T_,T_,F_,T_,T_,T_,T_,F_,F_,F_,F_,F_,F_,F_,F_,F_,F_,F_,F_,F_,F_,F_,F_,F_,F_,F_,F_,F_,F_,F_,F_,F_,F_,F_,F_] HT_ ?_
                    refine take_ (i := 4) (N := some 54) (v := ?_) (a' := ?_) #[T_,T_,T_,T_,T_,T_,T_,T_,T_,F_,F_,F_,F_,F_,F_,F_,F_,F_,F_,F_,F_,F_,F_,F_,F_,F_,F_,F_,F_,F_,F_,F_,F_,F_,F_,F_,F_] rfl rfl (take_ofW HT_.out HW_.out (by kernel_rfl)) (fun _ _ _ h => h) (Or.inl ⟨by rfl, ?_⟩) hHeld ?_ ?_
                    rotate_left
                    ·rintro w' ⟨s0, s1, s2, s3, s4, s5, s6, s7, s8, s9, s10, s11, s12, s13, s14, s15, s16, s17⟩
                     go_simp
                     with_reducible rfl
                    rotate_left
                    ·simp only [Act.put, sT_, s0_, sS_, i64_w, i32_w]
                     rfl
                    refine take_ (i := 9) (N := some 59) (v := ?_) (a' := ?_) #[T_,T_,T_,T_,T_,T_,T_,T_,T_,T_,F_,F_,F_,F_,F_,F_,F_,F_,F_,F_,F_,F_,F_,F_,F_,F_,F_,F_,F_,F_,F_,F_,F_,F_,F_,F_,F_] rfl rfl (take_ofW HT_.out HW_.out (by kernel_rfl)) (fun _ _ _ h => h) (Or.inl ⟨by rfl, ?_⟩) hHeld ?_ ?_
                    rotate_left
                    ·rintro w' ⟨s0, s1, s2, s3, s4, s5, s6, s7, s8, s9, s10, s11, s12, s13, s14, s15, s16, s17⟩
                     go_simp
                     with_reducible rfl
                    rotate_left
                    ·simp only [Act.put, sT_, s0_, sS_, i64_w, i32_w]
                     rfl
                    refine pu (i := 10) (N := some 60) #[T_,T_,T_,T_,T_,T_,T_,T_,T_,T_,T_,F_,F_,F_,F_,F_,F_,F_,F_,F_,F_,F_,F_,F_,F_,F_,F_,F_,F_,F_,F_,F_,F_,F_,F_,F_,F_] HT_ ?_
                    refine pu (i := 11) (N := some 61) #[T_,T_,T_,T_,T_,T_,T_,T_,T_,T_,T_,T_,F_,F_,F_,F_,F_,F_,F_,F_,F_,F_,F_,F_,F_,F_,F_,F_,F_,F_,F_,F_,F_,F_,F_,F_,F_] HT_ ?_
                    refine pu (i := 12) (N := some 62) #[T_,T_,T_,T_,T_,T_,T_,T_,T_,T_,T_,T_,T_,F_,F_,F_,F_,F_,F_,F_,F_,F_,F_,F_,F_,F_,F_,F_,F_,F_,F_,F_,F_,F_,F_,F_,F_] HT_ ?_
                    refine pu (i := 13) (N := some 63) #[T_,T_,T_,T_,T_,T_,T_,T_,T_,T_,T_,T_,T_,T_,F_,F_,F_,F_,F_,F_,F_,F_,F_,F_,F_,F_,F_,F_,F_,F_,F_,F_,F_,F_,F_,F_,F_] HT_ ?_
                    refine pu (i := 14) (N := some 64) #[T_,T_,T_,T_,T_,T_,T_,T_,T_,T_,T_,T_,T_,T_,T_,F_,F_,F_,F_,F_,F_,F_,F_,F_,F_,F_,F_,F_,F_,F_,F_,F_,F_,F_,F_,F_,F_] HT_ ?_
                    refine pu (i := 15) (N := some 65) #[T_,T_,T_,T_,T_,T_,T_,T_,T_,T_,T_,T_,T_,T_,T_,T_,F_,F_,F_,F_,F_,F_,F_,F_,F_,F_,F_,F_,F_,F_,F_,F_,F_,F_,F_,F_,F_] HT_ ?_
                    refine pu (i := 17) (N := some 67) #[T_,T_,T_,T_,T_,T_,T_,T_,T_,T_,T_,T_,T_,T_,T_,T_,F_,T_,F_,F_,F_,F_,F_,F_,F_,F_,F_,F_,F_,F_,F_,F_,F_,F_,F_,F_,F_] HT_ ?_
                    refine pu (i := 18) (N := some 68) #[T_,T_,T_,T_,T_,T_,T_,T_,T_,T_,T_,T_,T_,T_,T_,T_,F_,T_,T_,F_,F_,F_,F_,F_,F_,F_,F_,F_,F_,F_,F_,F_,F_,F_,F_,F_,F_] HT_ ?_
                    refine pu (i := 19) (N := some 69) #[T_,T_,T_,T_,T_,T_,T_,T_,T_,T_,T_,T_,T_,T_,T_,T_,F_,T_,T_,T_,F_,F_,F_,F_,F_,F_,F_,F_,F_,F_,F_,F_,F_,F_,F_,F_,F_] HT_ ?_
                    refine pu (i := 20) (N := some 70) #[T_,T_,T_,T_,T_,T_,T_,T_,T_,T_,T_,T_,T_,T_,T_,T_,F_,T_,T_,T_,T_,F_,F_,F_,F_,F_,F_,F_,F_,F_,F_,F_,F_,F_,F_,F_,F_] HT_ ?_
                    refine take_ (i := 16) (N := some 66) (v := ?_) (a' := ?_) #[T_,T_,T_,T_,T_,T_,T_,T_,T_,T_,T_,T_,T_,T_,T_,T_,T_,T_,T_,T_,T_,F_,F_,F_,F_,F_,F_,F_,F_,F_,F_,F_,F_,F_,F_,F_,F_] rfl rfl (take_ofW HT_.out HW_.out (by kernel_rfl)) (fun _ _ _ h => h) (Or.inl ⟨by rfl, ?_⟩) hHeld ?_ ?_
                    rotate_left
                    ·rintro w' ⟨s0, s1, s2, s3, s4, s5, s6, s7, s8, s9, s10, s11, s12, s13, s14, s15, s16, s17⟩
                     go_simp
                     with_reducible rfl
                    rotate_left
                    ·simp only [Act.put, sT_, s0_, sS_, i64_w, i32_w]
                     rfl
                    refine take_ (i := 21) (N := some 71) (v := ?_) (a' := ?_) #[T_,T_,T_,T_,T_,T_,T_,T_,T_,T_,T_,T_,T_,T_,T_,T_,T_,T_,T_,T_,T_,T_,F_,F_,F_,F_,F_,F_,F_,F_,F_,F_,F_,F_,F_,F_,F_] rfl rfl (take_ofW HT_.out HW_.out (by kernel_rfl)) (fun _ _ _ h => h) (Or.inl ⟨by rfl, ?_⟩) hHeld ?_ ?_
                    rotate_left
                    ·rintro w' ⟨s0, s1, s2, s3, s4, s5, s6, s7, s8, s9, s10, s11, s12, s13, s14, s15, s16, s17⟩
                     go_simp
                     with_reducible rfl
                    rotate_left
                    ·simp only [Act.put, sT_, s0_, sS_, i64_w, i32_w]
                     rfl
                    refine pu (i := 22) (N := some 72) #[T_,T_,T_,T_,T_,T_,T_,T_,T_,T_,T_,T_,T_,T_,T_,T_,T_,T_,T_,T_,T_,T_,T_,F_,F_,F_,F_,F_,F_,F_,F_,F_,F_,F_,F_,F_,F_] HT_ ?_
                    refine pu (i := 23) (N := some 73) #[T_,T_,T_,T_,T_,T_,T_,T_,T_,T_,T_,T_,T_,T_,T_,T_,T_,T_,T_,T_,T_,T_,T_,T_,F_,F_,F_,F_,F_,F_,F_,F_,F_,F_,F_,F_,F_] HT_ ?_
                    refine pu (i := 24) (N := some 74) #[T_,T_,T_,T_,T_,T_,T_,T_,T_,T_,T_,T_,T_,T_,T_,T_,T_,T_,T_,T_,T_,T_,T_,T_,T_,F_,F_,F_,F_,F_,F_,F_,F_,F_,F_,F_,F_] HT_ ?_
                    refine pu (i := 25) (N := some 75) #[T_,T_,T_,T_,T_,T_,T_,T_,T_,T_,T_,T_,T_,T_,T_,T_,T_,T_,T_,T_,T_,T_,T_,T_,T_,T_,F_,F_,F_,F_,F_,F_,F_,F_,F_,F_,F_] HT_ ?_
                    refine pu (i := 26) (N := some 76) #[T_,T_,T_,T_,T_,T_,T_,T_,T_,T_,T_,T_,T_,T_,T_,T_,T_,T_,T_,T_,T_,T_,T_,T_,T_,T_,T_,F_,F_,F_,F_,F_,F_,F_,F_,F_,F_] HT_ ?_
                    refine pu (i := 27) (N := some 77) #[T_,T_,T_,T_,T_,T_,T_,T_,T_,T_,T_,T_,T_,T_,T_,T_,T_,T_,T_,T_,T_,T_,T_,T_,T_,T_,T_,T_,F_,F_,F_,F_,F_,F_,F_,F_,F_] HT_ ?_
                    refine pu (i := 29) (N := some 79) #[T_,T_,T_,T_,T_,T_,T_,T_,T_,T_,T_,T_,T_,T_,T_,T_,T_,T_,T_,T_,T_,T_,T_,T_,T_,T_,T_,T_,F_,T_,F_,F_,F_,F_,F_,F_,F_] HT_ ?_
                    refine pu (i := 30) (N := some 80) #[T_,T_,T_,T_,T_,T_,T_,T_,T_,T_,T_,T_,T_,T_,T_,T_,T_,T_,T_,T_,T_,T_,T_,T_,T_,T_,T_,T_,F_,T_,T_,F_,F_,F_,F_,F_,F_] HT_ ?_
                    refine pu (i := 31) (N := some 81) #[T_,T_,T_,T_,T_,T_,T_,T_,T_,T_,T_,T_,T_,T_,T_,T_,T_,T_,T_,T_,T_,T_,T_,T_,T_,T_,T_,T_,F_,T_,T_,T_,F_,F_,F_,F_,F_] HT_ ?_
                    refine pu (i := 32) (N := some 82) #[T_,T_,T_,T_,T_,T_,T_,T_,T_,T_,T_,T_,T_,T_,T_,T_,T_,T_,T_,T_,T_,T_,T_,T_,T_,T_,T_,T_,F_,T_,T_,T_,T_,F_,F_,F_,F_] HT_ ?_
                    refine take_ (i := 28) (N := some 78) (v := ?_) (a' := ?_) #[T_,T_,T_,T_,T_,T_,T_,T_,T_,T_,T_,T_,T_,T_,T_,T_,T_,T_,T_,T_,T_,T_,T_,T_,T_,T_,T_,T_,T_,T_,T_,T_,T_,F_,F_,F_,F_] rfl rfl (take_ofW HT_.out HW_.out (by kernel_rfl)) (fun _ _ _ h => h) (Or.inl ⟨by rfl, ?_⟩) hHeld ?_ ?_
                    rotate_left
                    ·rintro w' ⟨s0, s1, s2, s3, s4, s5, s6, s7, s8, s9, s10, s11, s12, s13, s14, s15, s16, s17⟩
                     go_simp
                     with_reducible rfl
                    rotate_left
                    ·simp only [Act.put, sT_, s0_, sS_, i64_w, i32_w]
                     rfl
                    refine take_ (i := 33) (N := some 83) (v := ?_) (a' := ?_) #[T_,T_,T_,T_,T_,T_,T_,T_,T_,T_,T_,T_,T_,T_,T_,T_,T_,T_,T_,T_,T_,T_,T_,T_,T_,T_,T_,T_,T_,T_,T_,T_,T_,T_,F_,F_,F_] rfl rfl (take_ofW HT_.out HW_.out (by kernel_rfl)) (fun _ _ _ h => h) (Or.inl ⟨by rfl, ?_⟩) hHeld ?_ ?_
                    rotate_left
                    ·rintro w' ⟨s0, s1, s2, s3, s4, s5, s6, s7, s8, s9, s10, s11, s12, s13, s14, s15, s16, s17⟩
                     go_simp
                     with_reducible rfl
                    rotate_left
                    ·simp only [Act.put, sT_, s0_, sS_, i64_w, i32_w]
                     rfl
                    refine pu (i := 34) (N := some 84) #[T_,T_,T_,T_,T_,T_,T_,T_,T_,T_,T_,T_,T_,T_,T_,T_,T_,T_,T_,T_,T_,T_,T_,T_,T_,T_,T_,T_,T_,T_,T_,T_,T_,T_,T_,F_,F_] HT_ ?_
                    refine pu (i := 35) (N := some 85) #[T_,T_,T_,T_,T_,T_,T_,T_,T_,T_,T_,T_,T_,T_,T_,T_,T_,T_,T_,T_,T_,T_,T_,T_,T_,T_,T_,T_,T_,T_,T_,T_,T_,T_,T_,T_,F_] HT_ ?_
                    refine pu (i := 36) (N := some 86) #[T_,T_,T_,T_,T_,T_,T_,T_,T_,T_,T_,T_,T_,T_,T_,T_,T_,T_,T_,T_,T_,T_,T_,T_,T_,T_,T_,T_,T_,T_,T_,T_,T_,T_,T_,T_,T_] HT_ ?_
                    refine done_ (done_of HT_.out (by kernel_rfl)) ?_
                    try go_wp2
                    go_roundg k4
                    case measure => have := HJ2.out; have := HK2.out; have := HJ9.out; have := HK4.out; omega
                    case rel => exact ⟨(wrap64 (x6_4 + 1)), fr_, H', ⟨by have := HJ2.out; have := HK2.out; have := HJ9.out; have := HK4.out; omega⟩, ⟨hb_⟩⟩
                 ·rw [if_neg c30] at H
                  have c30b0 : (((rd_T75 l1 x6_4).f0).toList == ((rd_T75 l1 x5_2).f0).toList) = false := beq_eq_false_iff_ne.mpr c30
                  have c30b1 : (((rd_T75 l1 x6_4).f0).toList != ((rd_T75 l1 x5_2).f0).toList) = true := bne_iff_ne.mpr c30
                  have H' := ak_ H
                  clear H
                  try go_wp2
                  have n0_ := ak_ (below_drew1 HB.out)
                  clear HB
                  have HB := n0_
                  clear n0_
                  have p232 : 0 ≤ (x6_4 : Int) := od_
                  have q232 : x6_4 < (l1.length : Int) := od_
                  obtain ⟨ad232, e232, hx232_0, hx232_1, hx232_2⟩ := at_T75 HR1.out x6_4 p232 q232
                  have hw232_2 := hx232_2
                  have hw232_1 := hx232_1
                  have hw232_0 := hx232_0
                  cases e232
                  replace hx232_0 := cq_ HB hx232_0
                  replace hx232_1 := cq_ HB hx232_1
                  replace hx232_2 := cq_ HB hx232_2
                  replace p232 := eq_true p232
                  replace q232 := eq_true q232
                  have p233 : 0 ≤ (x5_2 : Int) := od_
                  have q233 : x5_2 < (l1.length : Int) := od_
                  obtain ⟨ad233, e233, hx233_0, hx233_1, hx233_2⟩ := at_T75 HR1.out x5_2 p233 q233
                  have hw233_2 := hx233_2
                  have hw233_1 := hx233_1
                  have hw233_0 := hx233_0
                  obtain rfl : ad232 = ad233 := (by injection e233)
                  replace hx233_0 := cq_ HB hx233_0
                  replace hx233_1 := cq_ HB hx233_1
                  replace hx233_2 := cq_ HB hx233_2
                  replace p233 := eq_true p233
                  replace q233 := eq_true q233
                  refine start_ (n := 37) (S := fun w' => w'.cell? (ad232.add ((x6_4).toNat * 3)) = some (.string ((rd_T75 l1 x6_4).f0)) ∧ w'.cell? ⟨(ad232.add ((x6_4).toNat * 3)).block, (ad232.add ((x6_4).toNat * 3)).off + 1, none⟩ = some (.int .i64 ((rd_T75 l1 x6_4).f1)) ∧ w'.cell? ⟨(ad232.add ((x6_4).toNat * 3)).block, (ad232.add ((x6_4).toNat * 3)).off + 2, none⟩ = some (.int .i64 ((rd_T75 l1 x6_4).f2)) ∧ w'.cell? (ad232.add ((x5_2).toNat * 3)) = some (.string ((rd_T75 l1 x5_2).f0)) ∧ w'.cell? ⟨(ad232.add ((x5_2).toNat * 3)).block, (ad232.add ((x5_2).toNat * 3)).off + 1, none⟩ = some (.int .i64 ((rd_T75 l1 x5_2).f1)) ∧ w'.cell? ⟨(ad232.add ((x5_2).toNat * 3)).block, (ad232.add ((x5_2).toNat * 3)).off + 2, none⟩ = some (.int .i64 ((rd_T75 l1 x5_2).f2))) (ds := []) #[F_,F_,F_,F_,F_,F_,F_,F_,F_,F_,F_,F_,F_,F_,F_,F_,F_,F_,F_,F_,F_,F_,F_,F_,F_,F_,F_,F_,F_,F_,F_,F_,F_,F_,F_,F_,F_] (by kernel_rfl) rfl rfl ⟨((HB.out.cell (lt_ w _ hw232_0)).trans hw232_0), ((HB.out.cell (lt_ w _ hw232_1)).trans hw232_1), ((HB.out.cell (lt_ w _ hw232_2)).trans hw232_2), ((HB.out.cell (lt_ w _ hw233_0)).trans hw233_0), ((HB.out.cell (lt_ w _ hw233_1)).trans hw233_1), ((HB.out.cell (lt_ w _ hw233_2)).trans hw233_2)⟩ (fun hHeld => ?_); refine with_tabW spec_l21Checks.tab11 spec_l21Checks.bits11 (fun HT_ HW_ => ?_)
                  generalize wr.drew = w36 at HB hx232_0 hx232_1 hx232_2 hx233_0 hx233_1 hx233_2 hHeld ⊢
                  refine pu (i := 0) (N := some 50) #[T_,F_,F_,F_,F_,F_,F_,F_,F_,F_,F_,F_,F_,F_,F_,F_,F_,F_,F_,F_,F_,F_,F_,F_,F_,F_,F_,F_,F_,F_,F_,F_,F_,F_,F_,F_,F_] HT_ ?_
                  refine pu (i := 1) (N := some 51) #[T_,T_,F_,F_,F_,F_,F_,F_,F_,F_,F_,F_,F_,F_,F_,F_,F_,F_,F_,F_,F_,F_,F_,F_,F_,F_,F_,F_,F_,F_,F_,F_,F_,F_,F_,F_,F_] HT_ ?_
                  refine pu (i := 2) (N := some 52) #[T_,T_,T_,F_,F_,F_,F_,F_,F_,F_,F_,F_,F_,F_,F_,F_,F_,F_,F_,F_,F_,F_,F_,F_,F_,F_,F_,F_,F_,F_,F_,F_,F_,F_,F_,F_,F_] HT_ ?_
                  refine pu (i := 3) (N := some 53) #[T_,T_,T_,T_,F_,F_,F_,F_,F_,F_,F_,F_,F_,F_,F_,F_,F_,F_,F_,F_,F_,F_,F_,F_,F_,F_,F_,F_,F_,F_,F_,F_,F_,F_,F_,F_,F_] HT_ ?_
                  refine pu (i := 5) (N := some 55) #[T_,T_,T_,T_,F_,T_,F_,F_,F_,F_,F_,F_,F_,F_,F_,F_,F_,F_,F_,F_,F_,F_,F_,F_,F_,F_,F_,F_,F_,F_,F_,F_,F_,F_,F_,F_,F_] HT_ ?_
                  refine pu (i := 6) (N := some 56) #[T_,T_,T_,T_,F_,T_,T_,F_,F_,F_,F_,F_,F_,F_,F_,F_,F_,F_,F_,F_,F_,F_,F_,F_,F_,F_,F_,F_,F_,F_,F_,F_,F_,F_,F_,F_,F_] HT_ ?_
                  refine pu (i := 7) (N := some 57) #[T_,T_,T_,T_,F_,T_,T_,T_,F_,F_,F_,F_,F_,F_,F_,F_,F_,F_,F_,F_,F_,F_,F_,F_,F_,F_,F_,F_,F_,F_,F_,F_,F_,F_,F_,F_,F_] HT_ ?_
                  refine pu (i := 8) (N := some 58) #[T_,T_,T_,T_,F_,T_,T_,T_,T_,F_,F_,F_,F_,F_,F_,F_,F_,F_,F_,F_,F_,F_,F_,F_,F_,F_,F_,F_,F_,F_,F_,F_,F_,F_,F_,F_,F_] HT_ ?_
                  refine take_ (i := 4) (N := some 54) (v := ?_) (a' := ?_) #[T_,T_,T_,T_,T_,T_,T_,T_,T_,F_,F_,F_,F_,F_,F_,F_,F_,F_,F_,F_,F_,F_,F_,F_,F_,F_,F_,F_,F_,F_,F_,F_,F_,F_,F_,F_,F_] rfl rfl (take_ofW HT_.out HW_.out (by kernel_rfl)) (fun _ _ _ h => h) (Or.inl ⟨by rfl, ?_⟩) hHeld ?_ ?_
                  rotate_left
                  ·rintro w' ⟨s0, s1, s2, s3, s4, s5⟩
                   go_simp
                   with_reducible rfl
                  rotate_left
                  ·simp only [Act.put, sT_, s0_, sS_, i64_w, i32_w]
                   rfl
                  refine take_ (i := 9) (N := some 59) (v := ?_) (a' := ?_) #[T_,T_,T_,T_,T_,T_,T_,T_,T_,T_,F_,F_,F_,F_,F_,F_,F_,F_,F_,F_,F_,F_,F_,F_,F_,F_,F_,F_,F_,F_,F_,F_,F_,F_,F_,F_,F_] rfl rfl (take_ofW HT_.out HW_.out (by kernel_rfl)) (fun _ _ _ h => h) (Or.inl ⟨by rfl, ?_⟩) hHeld ?_ ?_
                  rotate_left
                  ·rintro w' ⟨s0, s1, s2, s3, s4, s5⟩
                   go_simp
                   with_reducible rfl
                  rotate_left
                  ·simp only [Act.put, sT_, s0_, sS_, i64_w, i32_w]
                   rfl
                  refine pu (i := 10) (N := some 60) #[T_,T_,T_,T_,T_,T_,T_,T_,T_,T_,T_,F_,F_,F_,F_,F_,F_,F_,F_,F_,F_,F_,F_,F_,F_,F_,F_,F_,F_,F_,F_,F_,F_,F_,F_,F_,F_] HT_ ?_
                  refine pu (i := 11) (N := some 61) #[T_,T_,T_,T_,T_,T_,T_,T_,T_,T_,T_,T_,F_,F_,F_,F_,F_,F_,F_,F_,F_,F_,F_,F_,F_,F_,F_,F_,F_,F_,F_,F_,F_,F_,F_,F_,F_] HT_ ?_
                  refine pn (i := 12) (N := some 62) #[T_,T_,T_,T_,T_,T_,T_,T_,T_,T_,T_,T_,T_,F_,F_,F_,F_,F_,F_,F_,F_,F_,F_,F_,F_,F_,F_,F_,F_,F_,F_,F_,F_,F_,F_,F_,F_] HT_ ?_
                  refine pn (i := 13) (N := some 63) #[T_,T_,T_,T_,T_,T_,T_,T_,T_,T_,T_,T_,T_,T_,F_,F_,F_,F_,F_,F_,F_,F_,F_,F_,F_,F_,F_,F_,F_,F_,F_,F_,F_,F_,F_,F_,F_] HT_ ?_
                  refine pn (i := 14) (N := some 64) #[T_,T_,T_,T_,T_,T_,T_,T_,T_,T_,T_,T_,T_,T_,T_,F_,F_,F_,F_,F_,F_,F_,F_,F_,F_,F_,F_,F_,F_,F_,F_,F_,F_,F_,F_,F_,F_] HT_ ?_
                  refine pn (i := 15) (N := some 65) #[T_,T_,T_,T_,T_,T_,T_,T_,T_,T_,T_,T_,T_,T_,T_,T_,F_,F_,F_,F_,F_,F_,F_,F_,F_,F_,F_,F_,F_,F_,F_,F_,F_,F_,F_,F_,F_] HT_ ?_
                  refine pn (i := 16) (N := some 66) #[T_,T_,T_,T_,T_,T_,T_,T_,T_,T_,T_,T_,T_,T_,T_,T_,T_,F_,F_,F_,F_,F_,F_,F_,F_,F_,F_,F_,F_,F_,F_,F_,F_,F_,F_,F_,F_] HT_ ?_
                  refine pn (i := 17) (N := some 67) #[T_,T_,T_,T_,T_,T_,T_,T_,T_,T_,T_,T_,T_,T_,T_,T_,T_,T_,F_,F_,F_,F_,F_,F_,F_,F_,F_,F_,F_,F_,F_,F_,F_,F_,F_,F_,F_] HT_ ?_
                  refine pn (i := 18) (N := some 68) #[T_,T_,T_,T_,T_,T_,T_,T_,T_,T_,T_,T_,T_,T_,T_,T_,T_,T_,T_,F_,F_,F_,F_,F_,F_,F_,F_,F_,F_,F_,F_,F_,F_,F_,F_,F_,F_] HT_ ?_
                  refine pn (i := 19) (N := some 69) #[T_,T_,T_,T_,T_,T_,T_,T_,T_,T_,T_,T_,T_,T_,T_,T_,T_,T_,T_,T_,F_,F_,F_,F_,F_,F_,F_,F_,F_,F_,F_,F_,F_,F_,F_,F_,F_] HT_ ?_
                  refine pn (i := 20) (N := some 70) #[T_,T_,T_,T_,T_,T_,T_,T_,T_,T_,T_,T_,T_,T_,T_,T_,T_,T_,T_,T_,T_,F_,F_,F_,F_,F_,F_,F_,F_,F_,F_,F_,F_,F_,F_,F_,F_] HT_ ?_
                  refine pn (i := 21) (N := some 71) #[T_,T_,T_,T_,T_,T_,T_,T_,T_,T_,T_,T_,T_,T_,T_,T_,T_,T_,T_,T_,T_,T_,F_,F_,F_,F_,F_,F_,F_,F_,F_,F_,F_,F_,F_,F_,F_] HT_ ?_
                  refine pn (i := 22) (N := some 72) #[T_,T_,T_,T_,T_,T_,T_,T_,T_,T_,T_,T_,T_,T_,T_,T_,T_,T_,T_,T_,T_,T_,T_,F_,F_,F_,F_,F_,F_,F_,F_,F_,F_,F_,F_,F_,F_] HT_ ?_
                  refine pn (i := 23) (N := some 73) #[T_,T_,T_,T_,T_,T_,T_,T_,T_,T_,T_,T_,T_,T_,T_,T_,T_,T_,T_,T_,T_,T_,T_,T_,F_,F_,F_,F_,F_,F_,F_,F_,F_,F_,F_,F_,F_] HT_ ?_
                  refine pn (i := 24) (N := some 74) #[T_,T_,T_,T_,T_,T_,T_,T_,T_,T_,T_,T_,T_,T_,T_,T_,T_,T_,T_,T_,T_,T_,T_,T_,T_,F_,F_,F_,F_,F_,F_,F_,F_,F_,F_,F_,F_] HT_ ?_
                  refine pn (i := 25) (N := some 75) #[T_,T_,T_,T_,T_,T_,T_,T_,T_,T_,T_,T_,T_,T_,T_,T_,T_,T_,T_,T_,T_,T_,T_,T_,T_,T_,F_,F_,F_,F_,F_,F_,F_,F_,F_,F_,F_] HT_ ?_
                  refine pn (i := 26) (N := some 76) #[T_,T_,T_,T_,T_,T_,T_,T_,T_,T_,T_,T_,T_,T_,T_,T_,T_,T_,T_,T_,T_,T_,T_,T_,T_,T_,T_,F_,F_,F_,F_,F_,F_,F_,F_,F_,F_] HT_ ?_
                  refine pn (i := 27) (N := some 77) #[T_,T_,T_,T_,T_,T_,T_,T_,T_,T_,T_,T_,T_,T_,T_,T_,T_,T_,T_,T_,T_,T_,T_,T_,T_,T_,T_,T_,F_,F_,F_,F_,F_,F_,F_,F_,F_] HT_ ?_
                  refine pn (i := 28) (N := some 78) #[T_,T_,T_,T_,T_,T_,T_,T_,T_,T_,T_,T_,T_,T_,T_,T_,T_,T_,T_,T_,T_,T_,T_,T_,T_,T_,T_,T_,T_,F_,F_,F_,F_,F_,F_,F_,F_] HT_ ?_
                  refine pn (i := 29) (N := some 79) #[T_,T_,T_,T_,T_,T_,T_,T_,T_,T_,T_,T_,T_,T_,T_,T_,T_,T_,T_,T_,T_,T_,T_,T_,T_,T_,T_,T_,T_,T_,F_,F_,F_,F_,F_,F_,F_] HT_ ?_
                  refine pn (i := 30) (N := some 80) #[T_,T_,T_,T_,T_,T_,T_,T_,T_,T_,T_,T_,T_,T_,T_,T_,T_,T_,T_,T_,T_,T_,T_,T_,T_,T_,T_,T_,T_,T_,T_,F_,F_,F_,F_,F_,F_] HT_ ?_
                  refine pn (i := 31) (N := some 81) #[T_,T_,T_,T_,T_,T_,T_,T_,T_,T_,T_,T_,T_,T_,T_,T_,T_,T_,T_,T_,T_,T_,T_,T_,T_,T_,T_,T_,T_,T_,T_,T_,F_,F_,F_,F_,F_] HT_ ?_
                  refine pn (i := 32) (N := some 82) #[T_,T_,T_,T_,T_,T_,T_,T_,T_,T_,T_,T_,T_,T_,T_,T_,T_,T_,T_,T_,T_,T_,T_,T_,T_,T_,T_,T_,T_,T_,T_,T_,T_,F_,F_,F_,F_] HT_ ?_
                  refine pn (i := 33) (N := some 83) #[T_,T_,T_,T_,T_,T_,T_,T_,T_,T_,T_,T_,T_,T_,T_,T_,T_,T_,T_,T_,T_,T_,T_,T_,T_,T_,T_,T_,T_,T_,T_,T_,T_,T_,F_,F_,F_] HT_ ?_
                  refine pn (i := 34) (N := some 84) #[T_,T_,T_,T_,T_,T_,T_,T_,T_,T_,T_,T_,T_,T_,T_,T_,T_,T_,T_,T_,T_,T_,T_,T_,T_,T_,T_,T_,T_,T_,T_,T_,T_,T_,T_,F_,F_] HT_ ?_
                  refine pn (i := 35) (N := some 85) #[T_,T_,T_,T_,T_,T_,T_,T_,T_,T_,T_,T_,T_,T_,T_,T_,T_,T_,T_,T_,T_,T_,T_,T_,T_,T_,T_,T_,T_,T_,T_,T_,T_,T_,T_,T_,F_] HT_ ?_
                  refine pu (i := 36) (N := some 86) #[T_,T_,T_,T_,T_,T_,T_,T_,T_,T_,T_,T_,T_,T_,T_,T_,T_,T_,T_,T_,T_,T_,T_,T_,T_,T_,T_,T_,T_,T_,T_,T_,T_,T_,T_,T_,T_] HT_ ?_
                  refine done_ (done_of HT_.out (by kernel_rfl)) ?_
                  try go_wp2
                  go_roundg k4
                  case measure => have := HJ2.out; have := HK2.out; have := HJ9.out; have := HK4.out; omega
                  case rel => exact ⟨(wrap64 (x6_4 + 1)), fr_, H', ⟨by have := HJ2.out; have := HK2.out; have := HJ9.out; have := HK4.out; omega⟩, ⟨hb_⟩⟩
                ·rw [if_neg c29] at H
                 exact absurd H (by simp)
               ·rw [if_neg c28] at H
                exact absurd H (by simp)
              ·rw [if_neg c27] at H
               exact absurd H (by simp)
             ·rw [if_neg c26] at H
              exact absurd H (by simp)
            ·rw [if_neg c25] at H
             have c25b0 : decide (x6_4 < x5_2) = false := decide_eq_false c25
             clear c25
             have H' := ak_ H
             clear H
             go_wp2
             go_roundg k4
             case measure => have := HJ2.out; have := HK2.out; have := HJ9.out; have := HK4.out; omega
             case rel => exact ⟨(wrap64 (x5_2 + 1)), fr_, H', ⟨by have := HJ2.out; have := HK2.out; have := HJ9.out; have := HK4.out; omega⟩, ⟨hb_⟩⟩
      ·rw [if_neg c9] at H
       have c9b0 : decide (x5_2 < (l1.length : Int)) = false := decide_eq_false c9
       clear c9
       obtain rfl := Option.some.inj H
       go_wp2
       go_ret
       exact ⟨ew_, hb_⟩

/-! ### spec_AddCheck: function 126 -/
def spec_AddCheck.l0 : Nat → List (S72) → List (S75) → Int → ByteArray → Int → Int → Option ((List (S75)) × Int)
 | 0, _, _, _, _, _, _ => none
 | k + 1, x0, x1, x8, x239000, x239001, x239002 => if x8 > 0 then (if 0 ≤ (wrap64 (x8 - 1)) then (if (wrap64 (x8 - 1)) < (x1.length : Int) then (if ((rd_T75 x1 (wrap64 (x8 - 1))).f1) > x239001 then (spec_AddCheck.l0 k x0 x1 (wrap64 (x8 - 1)) x239000 x239001 x239002) else ((some (([] : List (S75)) : List (S75))).bind fun y242 => (if 0 ≤ x8 then (if x8 ≤ (x1.length : Int) then ((some (x1.take (x8 : Int).toNat : List (S75))).bind fun y245 => (if y242.length + y245.length < 4398046511104 then ((some (y242 ++ y245 : List (S75))).bind fun y249 => (if y249.length < 4398046511104 then ((some (y249 ++ [(⟨x239000, x239001, x239002⟩ : S75)] : List (S75))).bind fun y252 => ((some (x1.drop (x8 : Int).toNat : List (S75))).bind fun y255 => (if y252.length + y255.length < 4398046511104 then ((some (y252 ++ y255 : List (S75))).bind fun y259 => ((spec_l21Checks.f k x0 y259).bind fun t262 => (if t262 = true then (some (y259, 0)) else (some (([] : List (S75)), 9))))) else (none)))) else (none))) else (none))) else (none)) else (none)))) else (none)) else (none)) else ((some (([] : List (S75)) : List (S75))).bind fun y263 => (if 0 ≤ x8 then (if x8 ≤ (x1.length : Int) then ((some (x1.take (x8 : Int).toNat : List (S75))).bind fun y266 => (if y263.length + y266.length < 4398046511104 then ((some (y263 ++ y266 : List (S75))).bind fun y270 => (if y270.length < 4398046511104 then ((some (y270 ++ [(⟨x239000, x239001, x239002⟩ : S75)] : List (S75))).bind fun y273 => ((some (x1.drop (x8 : Int).toNat : List (S75))).bind fun y276 => (if y273.length + y276.length < 4398046511104 then ((some (y273 ++ y276 : List (S75))).bind fun y280 => ((spec_l21Checks.f k x0 y280).bind fun t283 => (if t283 = true then (some (y280, 0)) else (some (([] : List (S75)), 9))))) else (none)))) else (none))) else (none))) else (none)) else (none)))
def spec_AddCheck.f (k : Nat) (l0 : List (S72)) (l1 : List (S75)) (a2_0 : ByteArray) (a2_1 : Int) (a2_2 : Int) : Option ((List (S75)) × Int) := (spec_l21Checks.f k l0 l1).bind fun t239 => (if t239 = true then ((spec_l21Check.f k l0 a2_0 a2_1 a2_2).bind fun t240 => (if t240 = true then (if (l1.length : Int) ≥ 60 then (some (([] : List (S75)), 5)) else (spec_AddCheck.l0 k l0 l1 (l1.length : Int) a2_0 a2_1 a2_2)) else (some (([] : List (S75)), 2)))) else (some (([] : List (S75)), 1)))
def spec_AddCheck.T8 : Bool × List (List Nat × List Nat) := (true, [([], []), ([0], [0]), ([1], [1]), ([2], [2]), ([2], [2]), ([4, 2], [2, 4]), ([3, 5, 2], [2, 3, 5]), ([6, 2], [2, 6]), ([7, 2], [2, 7]), ([2], [2]), ([9, 2], [2, 9]), ([8, 10, 2], [2, 8, 10]), ([2, 11], [2, 11])])
def spec_AddCheck.B8 : List Nat := [0, 1, 3, 7, 7, 23, 63, 127, 255, 7, 519, 2047, 4095]
theorem spec_AddCheck.tab8 : rtab .any (opsOf Try.f126 8) = spec_AddCheck.T8 := by kernel_rfl
theorem spec_AddCheck.bits8 : waitsOk spec_AddCheck.T8.2 spec_AddCheck.B8 = true := by kernel_rfl
set_option maxHeartbeats 8000000 in
set_option maxRecDepth 100000 in
theorem spec_AddCheck.calls (k : Nat) (A0 : Option Addr) (c0 : Nat) (l0 : List (S72)) (A1 : Option Addr) (c1 : Nat) (l1 : List (S75)) (a2_0 : ByteArray) (a2_1 : Int) (a2_2 : Int) (r1 : List (S75)) (r2 : Int) (w : World) (hr0 : Kd.C k72 w A0 l0.length l0) (hc0 : l0.length ≤ c0) (hr1 : Kd.C k75 w A1 l1.length l1) (hc1 : l1.length ≤ c1) (h : spec_AddCheck.f k l0 l1 a2_0 a2_1 a2_2 = some (r1, r2)) :
  Calls Try.prog 126 #[.slice A0 l0.length c0, .slice A1 l1.length c1, .agg #[.string a2_0, .int .i64 a2_1, .int .i64 a2_2]] w fun e w' => ∃ v0_ : Value, e = .returned (.tuple #[v0_, .int .i64 r2]) ∧ Kd.R k75 75 w' w.heap.size (fun _ => True) v0_ r1 ∧ Below w.heap.size w w' := by
 have hu75 := Try.underlying75
 have HR0 := ak_ hr0
 have HC0 := ak_ hc0
 clear hr0 hc0
 have HR1 := ak_ hr1
 have HC1 := ak_ hc1
 clear hr1 hc1
 have HB := ak_ (Below.refl w.heap.size w)
 have H : ((spec_l21Checks.f k l0 l1).bind fun t239 => (if t239 = true then ((spec_l21Check.f k l0 a2_0 a2_1 a2_2).bind fun t240 => (if t240 = true then (if (l1.length : Int) ≥ 60 then (some (([] : List (S75)), 5)) else (spec_AddCheck.l0 k l0 l1 (l1.length : Int) a2_0 a2_1 a2_2)) else (some (([] : List (S75)), 2)))) else (some (([] : List (S75)), 1)))) = some (r1, r2) := h
 clear h
 replace H := ob_ H
 obtain ⟨t239, A40, H⟩ := H
 replace H : (if t239 = true then ((spec_l21Check.f k l0 a2_0 a2_1 a2_2).bind fun t240 => (if t240 = true then (if (l1.length : Int) ≥ 60 then (some (([] : List (S75)), 5)) else (spec_AddCheck.l0 k l0 l1 (l1.length : Int) a2_0 a2_1 a2_2)) else (some (([] : List (S75)), 2)))) else (some (([] : List (S75)), 1))) = some (r1, r2) := H
 have A4 := ak_ A40
 clear A40
 by_cases c5 : t239 = true
 ·subst c5
  have H1 : ((spec_l21Check.f k l0 a2_0 a2_1 a2_2).bind fun t240 => (if t240 = true then (if (l1.length : Int) ≥ 60 then (some (([] : List (S75)), 5)) else (spec_AddCheck.l0 k l0 l1 (l1.length : Int) a2_0 a2_1 a2_2)) else (some (([] : List (S75)), 2)))) = some (r1, r2) := by rw [if_pos rfl] at H; exact H
  clear H
  have H := H1
  clear H1
  replace H := ob_ H
  obtain ⟨t240, A60, H⟩ := H
  replace H : (if t240 = true then (if (l1.length : Int) ≥ 60 then (some (([] : List (S75)), 5)) else (spec_AddCheck.l0 k l0 l1 (l1.length : Int) a2_0 a2_1 a2_2)) else (some (([] : List (S75)), 2))) = some (r1, r2) := H
  have A6 := ak_ A60
  clear A60
  by_cases c7 : t240 = true
  ·subst c7
   have H1 : (if (l1.length : Int) ≥ 60 then (some (([] : List (S75)), 5)) else (spec_AddCheck.l0 k l0 l1 (l1.length : Int) a2_0 a2_1 a2_2)) = some (r1, r2) := by rw [if_pos rfl] at H; exact H
   clear H
   have H := H1
   clear H1
   by_cases c8 : (l1.length : Int) ≥ 60
   ·rw [if_pos c8] at H
    have c8b0 : decide (60 ≤ (l1.length : Int)) = true := dt_ c8
    have c8b1 : decide (60 ≤ l1.length) = true := dt_ (by omega)
    clear c8
    simp only [Option.some.injEq, Prod.mk.injEq] at H
    obtain ⟨rfl, rfl⟩ := H
    go_enter Try.func126, Try.ntmps126
    go_wp2_with (first | ((with_reducible refine gate_dst (N := 5) rfl ?_); refine box_event ?hg (N := 5) ?hd (cs := #[.string a2_0, .int .i64 a2_1, .int .i64 a2_2]) (t := 75) ?hr ?_; (case hd => rfl); (case hg => rfl); (case hr => first | (go_simp; done) | (go_simp; rfl)); intro gb238 hg w9 hbox hb; have n0_ := ak_ (below_step hb_ hb); have n1_ := ak_ (hbox); have n2_ := ak_ ((by rw [hg]; exact (below_size hb_) : w.heap.size ≤ gb238)); have n3_ := ak_ ((by rw [hg]; exact (below_size hb_) : w.heap.size ≤ gb238)); clear HB; have HB := n0_; have BK238 := n1_; have GW238 := n2_; have GE238 := n3_; clear n0_ n1_ n2_ n3_; clear hb hbox hg) | ((with_reducible refine gate_callee (f := 79) rfl ?_); refine goesL_ (some 12) rfl rfl Try.func79 (by kernel_rfl) rfl #[.slice A0 l0.length c0, .slice A1 l1.length c1] rfl ln_ ?_; (with_reducible refine (spec_l21Checks.calls k _ _ l0 _ _ l1 true _ ?side1 ?side2 ?side3 ?side4 A4.out).mono ?_); (case side1 => exact kc_ (Kd.C_below HR0.out HB.out)); (case side2 => exact HC0.out); (case side3 => exact kc_ (Kd.C_below HR1.out HB.out)); (case side4 => exact HC1.out); rintro e w10 ⟨rfl, hb⟩; refine ⟨_, rfl, ?_⟩; have n0_ := ak_ (blk_below (g := gb238) (o := .cells #[.string a2_0, .int .i64 a2_1, .int .i64 a2_2] 75 (0, 0)) (bk_ BK238) hb); have n1_ := ak_ (below_step (hg_ GE238) hb); clear BK238 HB; have BK238 := n0_; have HB := n1_; clear n0_ n1_; clear hb) | ((with_reducible refine gate_callee (f := 111) rfl ?_); refine goesL_ (some 15) rfl rfl Try.func111 (by kernel_rfl) rfl #[.slice A0 l0.length c0, .pointer (some ⟨gb238, 0, none⟩)] rfl ln_ ?_; (with_reducible refine (spec_l21Check.calls k _ _ l0 _ a2_0 a2_1 a2_2 true _ ?side1 ?side2 ?side3 ?side4 ?side5 A6.out).mono ?_); (case side1 => exact kc_ (Kd.C_below HR0.out HB.out)); (case side2 => exact HC0.out); (case side3 => exact (blk_cell (cs := #[.string a2_0, .int .i64 a2_1, .int .i64 a2_2]) (bk_ BK238) 0).trans rfl); (case side4 => exact (blk_cell (cs := #[.string a2_0, .int .i64 a2_1, .int .i64 a2_2]) (bk_ BK238) 1).trans rfl); (case side5 => exact (blk_cell (cs := #[.string a2_0, .int .i64 a2_1, .int .i64 a2_2]) (bk_ BK238) 2).trans rfl); rintro e w11 ⟨rfl, hb⟩; refine ⟨_, rfl, ?_⟩; have n0_ := ak_ (blk_below (g := gb238) (o := .cells #[.string a2_0, .int .i64 a2_1, .int .i64 a2_2] 75 (0, 0)) (bk_ BK238) hb); have n1_ := ak_ (below_step (hg_ GE238) hb); clear BK238 HB; have BK238 := n0_; have HB := n1_; clear n0_ n1_; clear hb))
    go_ret2
    exact ⟨_, ew_, by first | exact Kd.R_nil _ _ _ _ _ | exact Kd.N_nil _ _ _ _ _ | exact Kd.V_nil _ _ _ _ _ | exact Kd.Q_nil _ _ _ _ _ | exact Kd.S_nil _ _ _ _ _, (hg_ GE238)⟩
   ·rw [if_neg c8] at H
    have c8b0 : decide (60 ≤ (l1.length : Int)) = false := decide_eq_false c8
    have c8b1 : decide (60 ≤ l1.length) = false := decide_eq_false (by omega)
    clear c8
    have H' := ak_ H
    clear H
    go_enter Try.func126, Try.ntmps126
    go_wp2_with (first | ((with_reducible refine gate_dst (N := 5) rfl ?_); refine box_event ?hg (N := 5) ?hd (cs := #[.string a2_0, .int .i64 a2_1, .int .i64 a2_2]) (t := 75) ?hr ?_; (case hd => rfl); (case hg => rfl); (case hr => first | (go_simp; done) | (go_simp; rfl)); intro gb238 hg w12 hbox hb; have n0_ := ak_ (below_step hb_ hb); have n1_ := ak_ (hbox); have n2_ := ak_ ((by rw [hg]; exact (below_size hb_) : w.heap.size ≤ gb238)); have n3_ := ak_ ((by rw [hg]; exact (below_size hb_) : w.heap.size ≤ gb238)); clear HB; have HB := n0_; have BK238 := n1_; have GW238 := n2_; have GE238 := n3_; clear n0_ n1_ n2_ n3_; clear hb hbox hg) | ((with_reducible refine gate_callee (f := 79) rfl ?_); refine goesL_ (some 12) rfl rfl Try.func79 (by kernel_rfl) rfl #[.slice A0 l0.length c0, .slice A1 l1.length c1] rfl ln_ ?_; (with_reducible refine (spec_l21Checks.calls k _ _ l0 _ _ l1 true _ ?side1 ?side2 ?side3 ?side4 A4.out).mono ?_); (case side1 => exact kc_ (Kd.C_below HR0.out HB.out)); (case side2 => exact HC0.out); (case side3 => exact kc_ (Kd.C_below HR1.out HB.out)); (case side4 => exact HC1.out); rintro e w13 ⟨rfl, hb⟩; refine ⟨_, rfl, ?_⟩; have n0_ := ak_ (blk_below (g := gb238) (o := .cells #[.string a2_0, .int .i64 a2_1, .int .i64 a2_2] 75 (0, 0)) (bk_ BK238) hb); have n1_ := ak_ (below_step (hg_ GE238) hb); clear BK238 HB; have BK238 := n0_; have HB := n1_; clear n0_ n1_; clear hb) | ((with_reducible refine gate_callee (f := 111) rfl ?_); refine goesL_ (some 15) rfl rfl Try.func111 (by kernel_rfl) rfl #[.slice A0 l0.length c0, .pointer (some ⟨gb238, 0, none⟩)] rfl ln_ ?_; (with_reducible refine (spec_l21Check.calls k _ _ l0 _ a2_0 a2_1 a2_2 true _ ?side1 ?side2 ?side3 ?side4 ?side5 A6.out).mono ?_); (case side1 => exact kc_ (Kd.C_below HR0.out HB.out)); (case side2 => exact HC0.out); (case side3 => exact (blk_cell (cs := #[.string a2_0, .int .i64 a2_1, .int .i64 a2_2]) (bk_ BK238) 0).trans rfl); (case side4 => exact (blk_cell (cs := #[.string a2_0, .int .i64 a2_1, .int .i64 a2_2]) (bk_ BK238) 1).trans rfl); (case side5 => exact (blk_cell (cs := #[.string a2_0, .int .i64 a2_1, .int .i64 a2_2]) (bk_ BK238) 2).trans rfl); rintro e w14 ⟨rfl, hb⟩; refine ⟨_, rfl, ?_⟩; have n0_ := ak_ (blk_below (g := gb238) (o := .cells #[.string a2_0, .int .i64 a2_1, .int .i64 a2_2] 75 (0, 0)) (bk_ BK238) hb); have n1_ := ak_ (below_step (hg_ GE238) hb); clear BK238 HB; have BK238 := n0_; have HB := n1_; clear n0_ n1_; clear hb))
    go_loopg [8] k (fun kq v8 w' => ∃ (x8_1 : Int), v8 = .int .i64 x8_1 ∧ Aside0 (spec_AddCheck.l0 kq l0 l1 x8_1 a2_0 a2_1 a2_2 = some (r1, r2)) ∧ Aside0 (kq ≤ k) ∧ Aside0 (w'.heap[gb238]? = some (.cells #[.string a2_0, .int .i64 a2_1, .int .i64 a2_2] 75 (0, 0))) ∧ Aside0 (Below w.heap.size w w'))
    case atStart => exact ⟨((l1.length : Int)), fr_, H', ⟨Nat.le_refl _⟩, ⟨by (with_reducible repeat (first | refine blk_drewN ?_ _ | refine blk_drew ?_ | refine blk_alloc ?_ _)); exact BK238.out⟩, ⟨(hg_ GE238)⟩⟩
    case round =>
     clear H'
     try clear c1
     try clear p2
     try clear c5
     try clear c7
     try clear c8
     try clear c8b0
     try clear c8b1
     try clear c11
     try clear c12
     obtain ⟨x8_1, rfl, HA, HK1, BK238, HB⟩ := hrel
     cases gk with
     | zero => exact absurd HA.out (by simp [spec_AddCheck.l0])
     | succ k1 =>
      have H := HA.out
      clear HA
      simp only [spec_AddCheck.l0] at H
      by_cases c15 : x8_1 > 0
      ·rw [if_pos c15] at H
       have c15b0 : decide (0 < x8_1) = true := dt_ c15
       clear c15
       obtain ⟨ji16, hji16⟩ : ∃ j_ : Int, (wrap64 (x8_1 - 1)) = j_ := ⟨_, rfl⟩
       replace H : (if 0 ≤ (ji16) then (if (ji16) < (l1.length : Int) then (if ((rd_T75 l1 (ji16)).f1) > a2_1 then (spec_AddCheck.l0 k1 l0 l1 ji16 a2_0 a2_1 a2_2) else ((some (([] : List (S75)) : List (S75))).bind fun y242 => (if 0 ≤ x8_1 then (if x8_1 ≤ (l1.length : Int) then ((some (l1.take (x8_1 : Int).toNat : List (S75))).bind fun y245 => (if y242.length + y245.length < 4398046511104 then ((some (y242 ++ y245 : List (S75))).bind fun y249 => (if y249.length < 4398046511104 then ((some (y249 ++ [(⟨a2_0, a2_1, a2_2⟩ : S75)] : List (S75))).bind fun y252 => ((some (l1.drop (x8_1 : Int).toNat : List (S75))).bind fun y255 => (if y252.length + y255.length < 4398046511104 then ((some (y252 ++ y255 : List (S75))).bind fun y259 => ((spec_l21Checks.f k1 l0 y259).bind fun t262 => (if t262 = true then (some (y259, 0)) else (some (([] : List (S75)), 9))))) else (none)))) else (none))) else (none))) else (none)) else (none)))) else (none)) else (none)) = some (r1, r2) := by first | (rw [hji16] at H; exact H) | (simp only [hji16] at H ⊢; exact H)
       have hji16w : (IntKind.i64.wrap (x8_1 - 1)) = ji16 := (i64_w _).trans hji16
       by_cases c17 : 0 ≤ (ji16)
       ·rw [if_pos c17] at H
        have c17b0 : decide (0 ≤ (ji16)) = true := dt_ c17
        clear c17
        by_cases c18 : (ji16) < (l1.length : Int)
        ·rw [if_pos c18] at H
         have c18b0 : decide ((ji16) < (l1.length : Int)) = true := dt_ c18
         clear c18
         by_cases c19 : ((rd_T75 l1 (ji16)).f1) > a2_1
         ·rw [if_pos c19] at H
          have c19b0 : decide (a2_1 < ((rd_T75 l1 (ji16)).f1)) = true := dt_ c19
          clear c19
          have H' := ak_ H
          clear H
          try go_wp2
          have n0_ := ak_ (blk_drew BK238.out)
          have n1_ := ak_ (below_drew1 HB.out)
          clear BK238
          clear HB
          have BK238 := n0_
          have HB := n1_
          clear n0_ n1_
          have p241 : 0 ≤ ((ji16) : Int) := od_
          have q241 : (ji16) < (l1.length : Int) := od_
          obtain ⟨ad241, e241, hx241_0, hx241_1, hx241_2⟩ := at_T75 HR1.out (ji16) p241 q241
          have hw241_2 := hx241_2
          have hw241_1 := hx241_1
          have hw241_0 := hx241_0
          cases e241
          replace hx241_0 := cq_ HB hx241_0
          replace hx241_1 := cq_ HB hx241_1
          replace hx241_2 := cq_ HB hx241_2
          replace p241 := eq_true p241
          replace q241 := eq_true q241
          refine start_ (n := 13) (S := fun w' => w'.cell? ⟨gb238, 0, none⟩ = some (.string a2_0) ∧ w'.cell? ⟨gb238, 1, none⟩ = some (.int .i64 a2_1) ∧ w'.cell? ⟨gb238, 2, none⟩ = some (.int .i64 a2_2) ∧ w'.cell? (ad241.add (((ji16)).toNat * 3)) = some (.string ((rd_T75 l1 (ji16)).f0)) ∧ w'.cell? ⟨(ad241.add (((ji16)).toNat * 3)).block, (ad241.add (((ji16)).toNat * 3)).off + 1, none⟩ = some (.int .i64 ((rd_T75 l1 (ji16)).f1)) ∧ w'.cell? ⟨(ad241.add (((ji16)).toNat * 3)).block, (ad241.add (((ji16)).toNat * 3)).off + 2, none⟩ = some (.int .i64 ((rd_T75 l1 (ji16)).f2))) (ds := []) #[F_,F_,F_,F_,F_,F_,F_,F_,F_,F_,F_,F_,F_] (by kernel_rfl) rfl rfl ⟨(blk_cell BK238.out 0).trans rfl, (blk_cell BK238.out 1).trans rfl, (blk_cell BK238.out 2).trans rfl, ((HB.out.cell (lt_ w _ hw241_0)).trans hw241_0), ((HB.out.cell (lt_ w _ hw241_1)).trans hw241_1), ((HB.out.cell (lt_ w _ hw241_2)).trans hw241_2)⟩ (fun hHeld => ?_); refine with_tabW spec_AddCheck.tab8 spec_AddCheck.bits8 (fun HT_ HW_ => ?_)
          generalize wr.drew = w20 at BK238 HB hx241_0 hx241_1 hx241_2 hHeld ⊢
          refine pu (i := 0) (N := some 22) #[T_,F_,F_,F_,F_,F_,F_,F_,F_,F_,F_,F_,F_] HT_ ?_
          refine pu (i := 1) (N := some 23) #[T_,T_,F_,F_,F_,F_,F_,F_,F_,F_,F_,F_,F_] HT_ ?_
          refine pu (i := 2) (N := some 24) #[T_,T_,T_,F_,F_,F_,F_,F_,F_,F_,F_,F_,F_] HT_ ?_
          refine pu (i := 3) (N := some 25) #[T_,T_,T_,T_,F_,F_,F_,F_,F_,F_,F_,F_,F_] HT_ ?_
          refine pu (i := 4) (N := some 26) #[T_,T_,T_,T_,T_,F_,F_,F_,F_,F_,F_,F_,F_] HT_ ?_
          refine pu (i := 5) (N := some 27) #[T_,T_,T_,T_,T_,T_,F_,F_,F_,F_,F_,F_,F_] HT_ ?_
          refine pu (i := 6) (N := some 28) #[T_,T_,T_,T_,T_,T_,T_,F_,F_,F_,F_,F_,F_] HT_ ?_
          refine pu (i := 7) (N := some 29) #[T_,T_,T_,T_,T_,T_,T_,T_,F_,F_,F_,F_,F_] HT_ ?_
          refine pu (i := 9) (N := some 31) #[T_,T_,T_,T_,T_,T_,T_,T_,F_,T_,F_,F_,F_] HT_ ?_
          refine take_ (i := 8) (N := some 30) (v := ?_) (a' := ?_) #[T_,T_,T_,T_,T_,T_,T_,T_,T_,T_,F_,F_,F_] rfl rfl (take_ofW HT_.out HW_.out (by kernel_rfl)) (fun _ _ _ h => h) (Or.inl ⟨by rfl, ?_⟩) hHeld ?_ ?_
          rotate_left
          ·rintro w' ⟨s0, s1, s2, s3, s4, s5⟩
           go_simp
           with_reducible rfl
          rotate_left
          ·simp only [Act.put, sT_, s0_, sS_, i64_w, i32_w]
           rfl
          refine take_ (i := 10) (N := some 32) (v := ?_) (a' := ?_) #[T_,T_,T_,T_,T_,T_,T_,T_,T_,T_,T_,F_,F_] rfl rfl (take_ofW HT_.out HW_.out (by kernel_rfl)) (fun _ _ _ h => h) (Or.inl ⟨by rfl, ?_⟩) hHeld ?_ ?_
          rotate_left
          ·rintro w' ⟨s0, s1, s2, s3, s4, s5⟩
           go_simp
           with_reducible rfl
          rotate_left
          ·simp only [Act.put, sT_, s0_, sS_, i64_w, i32_w]
           rfl
          refine pu (i := 11) (N := some 33) #[T_,T_,T_,T_,T_,T_,T_,T_,T_,T_,T_,T_,F_] HT_ ?_
          refine pu (i := 12) (N := some 34) #[T_,T_,T_,T_,T_,T_,T_,T_,T_,T_,T_,T_,T_] HT_ ?_
          refine done_ (done_of HT_.out (by kernel_rfl)) ?_
          try go_wp2
          go_roundg k1
          case measure => have := HK1.out; omega
          case rel => exact ⟨(ji16), (by first | rfl | (simp; done) | (simp only [← hji16] <;> (first | rfl | simp)) | (simp [*]; done)), H', ⟨by have := HK1.out; omega⟩, ⟨by (with_reducible repeat (first | refine blk_drewN ?_ _ | refine blk_drew ?_ | refine blk_alloc ?_ _)); exact BK238.out⟩, ⟨(hg_ GE238)⟩⟩
         ·rw [if_neg c19] at H
          have c19b0 : decide (a2_1 < ((rd_T75 l1 (ji16)).f1)) = false := decide_eq_false c19
          clear c19
          obtain ⟨y242, hy242⟩ : ∃ y_ : List (S75), y_ = (([] : List (S75))) := ⟨_, rfl⟩
          replace H : (if 0 ≤ x8_1 then (if x8_1 ≤ (l1.length : Int) then ((some (l1.take (x8_1 : Int).toNat : List (S75))).bind fun y245 => (if y242.length + y245.length < 4398046511104 then ((some (y242 ++ y245 : List (S75))).bind fun y249 => (if y249.length < 4398046511104 then ((some (y249 ++ [(⟨a2_0, a2_1, a2_2⟩ : S75)] : List (S75))).bind fun y252 => ((some (l1.drop (x8_1 : Int).toNat : List (S75))).bind fun y255 => (if y252.length + y255.length < 4398046511104 then ((some (y252 ++ y255 : List (S75))).bind fun y259 => ((spec_l21Checks.f k1 l0 y259).bind fun t262 => (if t262 = true then (some (y259, 0)) else (some (([] : List (S75)), 9))))) else (none)))) else (none))) else (none))) else (none)) else (none)) = some (r1, r2) := by first | (rw [hy242]; with_reducible exact H) | (have H2_ := (Option.bind_some _ _).symm.trans H; rw [hy242]; with_reducible exact H2_) | (have H2_ := (Option.bind_some _ _).symm.trans H; with_reducible exact H2_) | with_reducible exact H | (rw [hy242]; exact H) | exact H
          have Ny242 := ak_ hy242
          clear hy242
          by_cases c21 : 0 ≤ x8_1
          ·rw [if_pos c21] at H
           have c21b0 := eq_true c21
           have c21b1 : decide (0 ≤ x8_1) = true := dt_ c21
           clear c21
           by_cases c22 : x8_1 ≤ (l1.length : Int)
           ·rw [if_pos c22] at H
            have c22b0 := eq_true c22
            have c22b1 : decide (x8_1 ≤ (l1.length : Int)) = true := dt_ c22
            clear c22
            obtain ⟨y245, hy245⟩ : ∃ y_ : List (S75), y_ = (l1.take (x8_1 : Int).toNat) := ⟨_, rfl⟩
            replace H : (if y242.length + y245.length < 4398046511104 then ((some (y242 ++ y245 : List (S75))).bind fun y249 => (if y249.length < 4398046511104 then ((some (y249 ++ [(⟨a2_0, a2_1, a2_2⟩ : S75)] : List (S75))).bind fun y252 => ((some (l1.drop (x8_1 : Int).toNat : List (S75))).bind fun y255 => (if y252.length + y255.length < 4398046511104 then ((some (y252 ++ y255 : List (S75))).bind fun y259 => ((spec_l21Checks.f k1 l0 y259).bind fun t262 => (if t262 = true then (some (y259, 0)) else (some (([] : List (S75)), 9))))) else (none)))) else (none))) else (none)) = some (r1, r2) := by first | (rw [hy245]; with_reducible exact H) | (have H2_ := (Option.bind_some _ _).symm.trans H; rw [hy245]; with_reducible exact H2_) | (have H2_ := (Option.bind_some _ _).symm.trans H; with_reducible exact H2_) | with_reducible exact H | (rw [hy245]; exact H) | exact H
            have Ny245 := ak_ hy245
            clear hy245
            by_cases c23 : y242.length + y245.length < 4398046511104
            ·rw [if_pos c23] at H
             have LMc23 := ak_ c23
             clear c23
             obtain ⟨y249, hy249⟩ : ∃ y_ : List (S75), y_ = (y242 ++ y245) := ⟨_, rfl⟩
             replace H : (if y249.length < 4398046511104 then ((some (y249 ++ [(⟨a2_0, a2_1, a2_2⟩ : S75)] : List (S75))).bind fun y252 => ((some (l1.drop (x8_1 : Int).toNat : List (S75))).bind fun y255 => (if y252.length + y255.length < 4398046511104 then ((some (y252 ++ y255 : List (S75))).bind fun y259 => ((spec_l21Checks.f k1 l0 y259).bind fun t262 => (if t262 = true then (some (y259, 0)) else (some (([] : List (S75)), 9))))) else (none)))) else (none)) = some (r1, r2) := by first | (rw [hy249]; with_reducible exact H) | (have H2_ := (Option.bind_some _ _).symm.trans H; rw [hy249]; with_reducible exact H2_) | (have H2_ := (Option.bind_some _ _).symm.trans H; with_reducible exact H2_) | with_reducible exact H | (rw [hy249]; exact H) | exact H
             have Ny249 := ak_ hy249
             clear hy249
             by_cases c24 : y249.length < 4398046511104
             ·rw [if_pos c24] at H
              have LMc24 := ak_ c24
              clear c24
              obtain ⟨y252, hy252⟩ : ∃ y_ : List (S75), y_ = (y249 ++ [(⟨a2_0, a2_1, a2_2⟩ : S75)]) := ⟨_, rfl⟩
              replace H : ((some (l1.drop (x8_1 : Int).toNat : List (S75))).bind fun y255 => (if y252.length + y255.length < 4398046511104 then ((some (y252 ++ y255 : List (S75))).bind fun y259 => ((spec_l21Checks.f k1 l0 y259).bind fun t262 => (if t262 = true then (some (y259, 0)) else (some (([] : List (S75)), 9))))) else (none))) = some (r1, r2) := by first | (rw [hy252]; with_reducible exact H) | (have H2_ := (Option.bind_some _ _).symm.trans H; rw [hy252]; with_reducible exact H2_) | (have H2_ := (Option.bind_some _ _).symm.trans H; with_reducible exact H2_) | with_reducible exact H | (rw [hy252]; exact H) | exact H
              have Ny252 := ak_ hy252
              clear hy252
              have c25b0 := eq_true (od_ : 0 ≤ x8_1)
              have c26b0 := eq_true (od_ : x8_1 ≤ (l1.length : Int))
              obtain ⟨y255, hy255⟩ : ∃ y_ : List (S75), y_ = (l1.drop (x8_1 : Int).toNat) := ⟨_, rfl⟩
              replace H : (if y252.length + y255.length < 4398046511104 then ((some (y252 ++ y255 : List (S75))).bind fun y259 => ((spec_l21Checks.f k1 l0 y259).bind fun t262 => (if t262 = true then (some (y259, 0)) else (some (([] : List (S75)), 9))))) else (none)) = some (r1, r2) := by first | (rw [hy255]; with_reducible exact H) | (have H2_ := (Option.bind_some _ _).symm.trans H; rw [hy255]; with_reducible exact H2_) | (have H2_ := (Option.bind_some _ _).symm.trans H; with_reducible exact H2_) | with_reducible exact H | (rw [hy255]; exact H) | exact H
              have Ny255 := ak_ hy255
              clear hy255
              by_cases c27 : y252.length + y255.length < 4398046511104
              ·rw [if_pos c27] at H
               have LMc27 := ak_ c27
               clear c27
               obtain ⟨y259, hy259⟩ : ∃ y_ : List (S75), y_ = (y252 ++ y255) := ⟨_, rfl⟩
               replace H : ((spec_l21Checks.f k1 l0 y259).bind fun t262 => (if t262 = true then (some (y259, 0)) else (some (([] : List (S75)), 9)))) = some (r1, r2) := by first | (rw [hy259]; with_reducible exact H) | (have H2_ := (Option.bind_some _ _).symm.trans H; rw [hy259]; with_reducible exact H2_) | (have H2_ := (Option.bind_some _ _).symm.trans H; with_reducible exact H2_) | with_reducible exact H | (rw [hy259]; exact H) | exact H
               have Ny259 := ak_ hy259
               clear hy259
               replace H := ob_ H
               obtain ⟨t262, A280, H⟩ := H
               replace H : (if t262 = true then (some (y259, 0)) else (some (([] : List (S75)), 9))) = some (r1, r2) := H
               have A28 := ak_ A280
               clear A280
               by_cases c29 : t262 = true
               ·subst c29
                have H1 : (some (y259, 0)) = some (r1, r2) := by rw [if_pos rfl] at H; exact H
                clear H
                have H := H1
                clear H1
                simp only [Option.some.injEq, Prod.mk.injEq] at H
                obtain ⟨rfl, rfl⟩ := H
                try go_wp2
                have n0_ := ak_ (blk_drew BK238.out)
                have n1_ := ak_ (below_drew1 HB.out)
                clear BK238
                clear HB
                have BK238 := n0_
                have HB := n1_
                clear n0_ n1_
                have p241 : 0 ≤ ((ji16) : Int) := od_
                have q241 : (ji16) < (l1.length : Int) := od_
                obtain ⟨ad241, e241, hx241_0, hx241_1, hx241_2⟩ := at_T75 HR1.out (ji16) p241 q241
                have hw241_2 := hx241_2
                have hw241_1 := hx241_1
                have hw241_0 := hx241_0
                cases e241
                replace hx241_0 := cq_ HB hx241_0
                replace hx241_1 := cq_ HB hx241_1
                replace hx241_2 := cq_ HB hx241_2
                replace p241 := eq_true p241
                replace q241 := eq_true q241
                refine start_ (n := 13) (S := fun w' => w'.cell? ⟨gb238, 0, none⟩ = some (.string a2_0) ∧ w'.cell? ⟨gb238, 1, none⟩ = some (.int .i64 a2_1) ∧ w'.cell? ⟨gb238, 2, none⟩ = some (.int .i64 a2_2) ∧ w'.cell? (ad241.add (((ji16)).toNat * 3)) = some (.string ((rd_T75 l1 (ji16)).f0)) ∧ w'.cell? ⟨(ad241.add (((ji16)).toNat * 3)).block, (ad241.add (((ji16)).toNat * 3)).off + 1, none⟩ = some (.int .i64 ((rd_T75 l1 (ji16)).f1)) ∧ w'.cell? ⟨(ad241.add (((ji16)).toNat * 3)).block, (ad241.add (((ji16)).toNat * 3)).off + 2, none⟩ = some (.int .i64 ((rd_T75 l1 (ji16)).f2))) (ds := []) #[F_,F_,F_,F_,F_,F_,F_,F_,F_,F_,F_,F_,F_] (by kernel_rfl) rfl rfl ⟨(blk_cell BK238.out 0).trans rfl, (blk_cell BK238.out 1).trans rfl, (blk_cell BK238.out 2).trans rfl, ((HB.out.cell (lt_ w _ hw241_0)).trans hw241_0), ((HB.out.cell (lt_ w _ hw241_1)).trans hw241_1), ((HB.out.cell (lt_ w _ hw241_2)).trans hw241_2)⟩ (fun hHeld => ?_); refine with_tabW spec_AddCheck.tab8 spec_AddCheck.bits8 (fun HT_ HW_ => ?_)
                generalize wr.drew = w30 at BK238 HB hx241_0 hx241_1 hx241_2 hHeld ⊢
                refine pu (i := 0) (N := some 22) #[T_,F_,F_,F_,F_,F_,F_,F_,F_,F_,F_,F_,F_] HT_ ?_
                refine pu (i := 1) (N := some 23) #[T_,T_,F_,F_,F_,F_,F_,F_,F_,F_,F_,F_,F_] HT_ ?_
                refine pu (i := 2) (N := some 24) #[T_,T_,T_,F_,F_,F_,F_,F_,F_,F_,F_,F_,F_] HT_ ?_
                refine pu (i := 3) (N := some 25) #[T_,T_,T_,T_,F_,F_,F_,F_,F_,F_,F_,F_,F_] HT_ ?_
                refine pu (i := 4) (N := some 26) #[T_,T_,T_,T_,T_,F_,F_,F_,F_,F_,F_,F_,F_] HT_ ?_
                refine pu (i := 5) (N := some 27) #[T_,T_,T_,T_,T_,T_,F_,F_,F_,F_,F_,F_,F_] HT_ ?_
                refine pu (i := 6) (N := some 28) #[T_,T_,T_,T_,T_,T_,T_,F_,F_,F_,F_,F_,F_] HT_ ?_
                refine pu (i := 7) (N := some 29) #[T_,T_,T_,T_,T_,T_,T_,T_,F_,F_,F_,F_,F_] HT_ ?_
                refine pu (i := 9) (N := some 31) #[T_,T_,T_,T_,T_,T_,T_,T_,F_,T_,F_,F_,F_] HT_ ?_
                refine take_ (i := 8) (N := some 30) (v := ?_) (a' := ?_) #[T_,T_,T_,T_,T_,T_,T_,T_,T_,T_,F_,F_,F_] rfl rfl (take_ofW HT_.out HW_.out (by kernel_rfl)) (fun _ _ _ h => h) (Or.inl ⟨by rfl, ?_⟩) hHeld ?_ ?_
                rotate_left
                ·rintro w' ⟨s0, s1, s2, s3, s4, s5⟩
                 go_simp
                 with_reducible rfl
                rotate_left
                ·simp only [Act.put, sT_, s0_, sS_, i64_w, i32_w]
                 rfl
                refine take_ (i := 10) (N := some 32) (v := ?_) (a' := ?_) #[T_,T_,T_,T_,T_,T_,T_,T_,T_,T_,T_,F_,F_] rfl rfl (take_ofW HT_.out HW_.out (by kernel_rfl)) (fun _ _ _ h => h) (Or.inl ⟨by rfl, ?_⟩) hHeld ?_ ?_
                rotate_left
                ·rintro w' ⟨s0, s1, s2, s3, s4, s5⟩
                 go_simp
                 with_reducible rfl
                rotate_left
                ·simp only [Act.put, sT_, s0_, sS_, i64_w, i32_w]
                 rfl
                refine pu (i := 11) (N := some 33) #[T_,T_,T_,T_,T_,T_,T_,T_,T_,T_,T_,T_,F_] HT_ ?_
                refine pu (i := 12) (N := some 34) #[T_,T_,T_,T_,T_,T_,T_,T_,T_,T_,T_,T_,T_] HT_ ?_
                refine done_ (done_of HT_.out (by kernel_rfl)) ?_
                try go_wp2_with (first | ((with_reducible refine gate_dst (N := 37) rfl ?_); refine Kd.R_lit k75 _ 75 ?hg (N := 37) ?hd (xs := ([] : List (S75))) (inner := []) (ok := fun _ => True) (okp := fun _ => True) ?hr ?hp (fun _ hk => hk) trivial (Below.refl _ _) (Nat.le_refl _) (by simp) ?_; (case hd => rfl); (case hg => rfl); (case hr => first | (go_simp; done) | (go_simp; rfl)); (case hp => exact (Reps.none _ _)); intro v243 w31 ho32 hb hg_ hnew_; clear hg_ hnew_; (first | rw [← Ny242.out] at ho32 | (simp only [Int.reduceToNat] at ho32; rw [← Ny242.out] at ho32)); have n0_ := ak_ (Kd.R_lower (Kd.R_newB ho32 (g := gb238) (o := .cells #[.string a2_0, .int .i64 a2_1, .int .i64 a2_2] 75 (0, 0)) (bk_ BK238)) (below_size (hg_ GE238))); have n1_ := ak_ (blk_below (g := gb238) (o := .cells #[.string a2_0, .int .i64 a2_1, .int .i64 a2_2] 75 (0, 0)) (bk_ BK238) hb); have n2_ := ak_ (below_step (hg_ GE238) hb); clear BK238 HB; have HO244 := n0_; have BK238 := n1_; have HB := n2_; clear n0_ n1_ n2_; clear hb ho32; have q33 : (x8_1 : Int) ≤ ((l1.length : Int) : Int) := od_; obtain ⟨i033, hi033, _, hsz33, _⟩ := info_parts info75; have hroom33 : l1.length ≤ c1 := HC1.out; have hC33 : Kd.C k75 _ (some ad241) l1.length l1 := HR1.out; have hcut33 := cut_to (P := Try.prog) 54 75 .i64 Try.underlying54 hi033 (some ad241) l1.length c1 x8_1 (od_) q33 hroom33; have hr33 := Kd.C_take (m := (x8_1 : Int).toNat) hC33 (by omega); have hy33 : y245.length = (x8_1 : Int).toNat := (by rw [Ny245.out, List.length_take]; omega); rw [← Ny245.out] at hr33; rw [← hy33] at hcut33; have HR248 := ak_ hr33; have HC248 := ak_ (show y245.length ≤ c1 from by omega); clear hr33 hC33 hroom33 hi033 hsz33; have KY33 := ak_ hy33; clear hy33; replace q33 := eq_true q33) | ((with_reducible refine gate_builtin (b := .append) (xs := #[.tmp 37, .tmp 40]) rfl ?_); at_builtin; refine Kd.R_append_rows k75 (w0 := w) w.heap.size rfl (.tmp 37) (.tmp 40) 54 75 (.agg #[(.string ⟨#[]⟩), (.int .i64 0), (.int .i64 0)]) 32 rfl Try.underlying54 info75 rfl (by decide) (by omega) v243 y242 y245 _ _ _ (fun k_ => k_ ≠ gb238) (fun _ => False) rfl rfl ?aO ?aR (fun _ _ h => h) (fun _ h => h.elim) ?aF ?aB ?aS ?aL ?_; (case aR => exact kc_ (Kd.C_below HR248.out HB.out)); (case aB => exact (hg_ GE238)); (case aF => exact (fun k_ hk => Kd.freshB (g := gb238) (o := .cells #[.string a2_0, .int .i64 a2_1, .int .i64 a2_2] 75 (0, 0)) (bk_ BK238) k_ hk)); (case aO => exact (by (with_reducible repeat (first | apply Kd.R_alloc | apply Kd.R_drewN | apply Kd.R_drew)); exact Kd.R_mono HO244.out (fun _ hk => hk.2))); (case aS => exact (below_size (hg_ GE238))); (case aL => have := LMc23.out; omega); intro v250 w34 ho hb hg hat; rw [← Ny249.out] at ho; have n0_ := ak_ (blk_grown (g := gb238) (o := .cells #[.string a2_0, .int .i64 a2_1, .int .i64 a2_2] 75 (0, 0)) (bk_ BK238) hg (Kd.R_away HO244.out (fun _ hk => hk.2))); have n1_ := ak_ (hb); have n2_ := ak_ (ho); clear BK238 HB HO244; have BK238 := n0_; have HB := n1_; have HO251 := n2_; clear n0_ n1_ n2_; clear ho hb hg hat; have hcz35_0 : w34.cell? ⟨gb238, 0, none⟩ = some (.string a2_0) := (blk_cell BK238.out 0).trans rfl; have hcz35_1 : w34.cell? ⟨gb238, 1, none⟩ = some (.int .i64 a2_1) := (blk_cell BK238.out 1).trans rfl; have hcz35_2 : w34.cell? ⟨gb238, 2, none⟩ = some (.int .i64 a2_2) := (blk_cell BK238.out 2).trans rfl; have hfz35_0 := blk_frozen BK238.out 0; have hfz35_1 := blk_frozen BK238.out 1; have hfz35_2 := blk_frozen BK238.out 2) | ((with_reducible refine gate_builtin (b := .append) (xs := #[.tmp 42, .tmp 44]) rfl ?_); at_builtin; refine Kd.R_append k75 (w0 := w) w.heap.size rfl (.tmp 42) (.tmp 44) 54 75 (.agg #[(.string ⟨#[]⟩), (.int .i64 0), (.int .i64 0)]) 32 rfl Try.underlying54 info75 rfl (by decide) (by omega) v250 y249 (⟨a2_0, a2_1, a2_2⟩ : S75) [.string a2_0, .int .i64 a2_1, .int .i64 a2_2] (fun k_ => k_ ≠ gb238) (fun _ => False) rfl rfl ?aP (fun _ hk => hk.elim) ?aF ?aO ?aB ?aS ?aL ?_; (case aP => exact k75_mkM _ _ _ (⟨a2_0, a2_1, a2_2⟩ : S75)); (case aB => exact (hg_ GE238)); (case aF => exact (fun k_ hk => Kd.freshB (g := gb238) (o := .cells #[.string a2_0, .int .i64 a2_1, .int .i64 a2_2] 75 (0, 0)) (bk_ BK238) k_ hk)); (case aO => exact (kr_ HO251)); (case aS => exact (below_size (hg_ GE238))); (case aL => have := LMc24.out; omega); intro v253 w36 ho hb hg hat; rw [← Ny252.out] at ho; have n0_ := ak_ (blk_grown (g := gb238) (o := .cells #[.string a2_0, .int .i64 a2_1, .int .i64 a2_2] 75 (0, 0)) (bk_ BK238) hg (Kd.R_away HO251.out (fun _ hk => hk))); have n1_ := ak_ (hb); have n2_ := ak_ (ho); clear BK238 HB HO251; have BK238 := n0_; have HB := n1_; have HO254 := n2_; clear n0_ n1_ n2_; clear ho hb hg hat; have q37 : (x8_1 : Int) ≤ ((l1.length : Int) : Int) := od_; obtain ⟨i037, hi037, _, hsz37, _⟩ := info_parts info75; have hroom37 : l1.length ≤ c1 := HC1.out; have hC37 : Kd.C k75 _ (some ad241) l1.length l1 := HR1.out; have q037 : (0 : Int) ≤ (x8_1 : Int) := od_; have hcut37 := cut_from (P := Try.prog) 54 75 .i64 Try.underlying54 hi037 3 hsz37 (some ad241) l1.length c1 x8_1 q037 q37; have hr37 := Kd.C_drop (m := (x8_1 : Int).toNat) (c := c1) hC37 (by omega) hroom37; obtain ⟨A37, hA37⟩ : ∃ Az_, Az_ = (if c1 = (x8_1 : Int).toNat then (some ad241) else ((some ad241) : Option Addr).map (·.add ((x8_1 : Int).toNat * 3))) := ⟨_, rfl⟩; obtain ⟨c37, hc37⟩ : ∃ cz_, cz_ = c1 - (x8_1 : Int).toNat := ⟨_, rfl⟩; have hy37 : y255.length = l1.length - (x8_1 : Int).toNat := (by rw [Ny255.out, List.length_drop] <;> omega); rw [show (l1).drop (x8_1 : Int).toNat = y255 from Ny255.out.symm] at hr37; replace hr37 : Kd.C k75 _ A37 y255.length y255 := (by rw [hA37]; exact hr37); rw [← hy37, ← hA37, ← hc37] at hcut37; have HR258 := ak_ hr37; have HC258 := ak_ (show y255.length ≤ c37 from by rw [hy37, hc37]; exact Nat.sub_le_sub_right hroom37 _); clear hr37 hC37 hroom37 hi037 hsz37 hc37; have KY37 := ak_ hy37; have KA37 := ak_ hA37; clear hy37 hA37; replace q37 := eq_true q37) | ((with_reducible refine gate_builtin (b := .append) (xs := #[.tmp 46, .tmp 49]) rfl ?_); at_builtin; refine Kd.R_append_rows k75 (w0 := w) w.heap.size rfl (.tmp 46) (.tmp 49) 54 75 (.agg #[(.string ⟨#[]⟩), (.int .i64 0), (.int .i64 0)]) 32 rfl Try.underlying54 info75 rfl (by decide) (by omega) v253 y252 y255 _ _ _ (fun k_ => k_ ≠ gb238) (fun _ => False) rfl rfl ?aO ?aR (fun _ _ h => h) (fun _ h => h.elim) ?aF ?aB ?aS ?aL ?_; (case aR => exact kc_ (Kd.C_below HR258.out HB.out)); (case aB => exact (hg_ GE238)); (case aF => exact (fun k_ hk => Kd.freshB (g := gb238) (o := .cells #[.string a2_0, .int .i64 a2_1, .int .i64 a2_2] 75 (0, 0)) (bk_ BK238) k_ hk)); (case aO => exact (kr_ HO254)); (case aS => exact (below_size (hg_ GE238))); (case aL => have := LMc27.out; omega); intro v260 w38 ho hb hg hat; rw [← Ny259.out] at ho; have n0_ := ak_ (blk_grown (g := gb238) (o := .cells #[.string a2_0, .int .i64 a2_1, .int .i64 a2_2] 75 (0, 0)) (bk_ BK238) hg (Kd.R_away HO254.out (fun _ hk => hk))); have n1_ := ak_ (hb); have n2_ := ak_ (ho); clear BK238 HB HO254; have BK238 := n0_; have HB := n1_; have HO261 := n2_; clear n0_ n1_ n2_; clear ho hb hg hat; obtain ⟨Ao39, co39, eo39⟩ := Kd.R_slice HO261.out; subst eo39) | ((with_reducible refine gate_callee (f := 79) rfl ?_); refine goesL_ (some 53) rfl rfl Try.func79 (by kernel_rfl) rfl #[.slice A0 l0.length c0, .slice Ao39 y259.length co39] rfl ln_ ?_; (with_reducible refine (spec_l21Checks.calls k1 _ _ l0 _ _ y259 true _ ?side1 ?side2 ?side3 ?side4 A28.out).mono ?_); (case side1 => exact kc_ (Kd.C_below HR0.out HB.out)); (case side2 => exact HC0.out); (case side3 => repeat (first | exact (Kd.R_reads' HO261.out).2.2 | (with_reducible refine Kd.C_alloc ?_ _) | (with_reducible refine Kd.C_drewN ?_ _) | (with_reducible refine Kd.C_drew ?_))); (case side4 => exact (Kd.R_reads' HO261.out).2.1); rintro e w40 ⟨rfl, hb⟩; refine ⟨_, rfl, ?_⟩; have n0_ := ak_ (Kd.R_below (kr_ HO261) hb); have n1_ := ak_ (blk_below (g := gb238) (o := .cells #[.string a2_0, .int .i64 a2_1, .int .i64 a2_2] 75 (0, 0)) (bk_ BK238) hb); have n2_ := ak_ (below_step (hg_ GE238) hb); clear HO261 BK238 HB; have HO261 := n0_; have BK238 := n1_; have HB := n2_; clear n0_ n1_ n2_; clear hb))
                go_ret2
                exact ⟨_, by first | rfl | (simp [errW_none, errW_some] <;> rfl) | (simp only [← hji16]; first | rfl | (simp [errW_none, errW_some] <;> rfl)) | (simp [*, errW_none, errW_some] <;> rfl), by (with_reducible repeat (first | apply Kd.R_alloc | apply Kd.R_drewN | apply Kd.R_drew)); exact Kd.R_mono HO261.out (fun _ hk => trivial), (hg_ GE238)⟩
               ·replace c29 := Bool.eq_false_iff.mpr c29
                subst c29
                have H1 : (some (([] : List (S75)), 9)) = some (r1, r2) := by rw [if_neg (show ¬ (false = true) by decide)] at H; exact H
                clear H
                have H := H1
                clear H1
                simp only [Option.some.injEq, Prod.mk.injEq] at H
                obtain ⟨rfl, rfl⟩ := H
                try go_wp2
                have n0_ := ak_ (blk_drew BK238.out)
                have n1_ := ak_ (below_drew1 HB.out)
                clear BK238
                clear HB
                have BK238 := n0_
                have HB := n1_
                clear n0_ n1_
                have p241 : 0 ≤ ((ji16) : Int) := od_
                have q241 : (ji16) < (l1.length : Int) := od_
                obtain ⟨ad241, e241, hx241_0, hx241_1, hx241_2⟩ := at_T75 HR1.out (ji16) p241 q241
                have hw241_2 := hx241_2
                have hw241_1 := hx241_1
                have hw241_0 := hx241_0
                cases e241
                replace hx241_0 := cq_ HB hx241_0
                replace hx241_1 := cq_ HB hx241_1
                replace hx241_2 := cq_ HB hx241_2
                replace p241 := eq_true p241
                replace q241 := eq_true q241
                refine start_ (n := 13) (S := fun w' => w'.cell? ⟨gb238, 0, none⟩ = some (.string a2_0) ∧ w'.cell? ⟨gb238, 1, none⟩ = some (.int .i64 a2_1) ∧ w'.cell? ⟨gb238, 2, none⟩ = some (.int .i64 a2_2) ∧ w'.cell? (ad241.add (((ji16)).toNat * 3)) = some (.string ((rd_T75 l1 (ji16)).f0)) ∧ w'.cell? ⟨(ad241.add (((ji16)).toNat * 3)).block, (ad241.add (((ji16)).toNat * 3)).off + 1, none⟩ = some (.int .i64 ((rd_T75 l1 (ji16)).f1)) ∧ w'.cell? ⟨(ad241.add (((ji16)).toNat * 3)).block, (ad241.add (((ji16)).toNat * 3)).off + 2, none⟩ = some (.int .i64 ((rd_T75 l1 (ji16)).f2))) (ds := []) #[F_,F_,F_,F_,F_,F_,F_,F_,F_,F_,F_,F_,F_] (by kernel_rfl) rfl rfl ⟨(blk_cell BK238.out 0).trans rfl, (blk_cell BK238.out 1).trans rfl, (blk_cell BK238.out 2).trans rfl, ((HB.out.cell (lt_ w _ hw241_0)).trans hw241_0), ((HB.out.cell (lt_ w _ hw241_1)).trans hw241_1), ((HB.out.cell (lt_ w _ hw241_2)).trans hw241_2)⟩ (fun hHeld => ?_); refine with_tabW spec_AddCheck.tab8 spec_AddCheck.bits8 (fun HT_ HW_ => ?_)
                generalize wr.drew = w41 at BK238 HB hx241_0 hx241_1 hx241_2 hHeld ⊢
                refine pu (i := 0) (N := some 22) #[T_,F_,F_,F_,F_,F_,F_,F_,F_,F_,F_,F_,F_] HT_ ?_
                refine pu (i := 1) (N := some 23) #[T_,T_,F_,F_,F_,F_,F_,F_,F_,F_,F_,F_,F_] HT_ ?_
                refine pu (i := 2) (N := some 24) #[T_,T_,T_,F_,F_,F_,F_,F_,F_,F_,F_,F_,F_] HT_ ?_
                refine pu (i := 3) (N := some 25) #[T_,T_,T_,T_,F_,F_,F_,F_,F_,F_,F_,F_,F_] HT_ ?_
                refine pu (i := 4) (N := some 26) #[T_,T_,T_,T_,T_,F_,F_,F_,F_,F_,F_,F_,F_] HT_ ?_
                refine pu (i := 5) (N := some 27) #[T_,T_,T_,T_,T_,T_,F_,F_,F_,F_,F_,F_,F_] HT_ ?_
                refine pu (i := 6) (N := some 28) #[T_,T_,T_,T_,T_,T_,T_,F_,F_,F_,F_,F_,F_] HT_ ?_
                refine pu (i := 7) (N := some 29) #[T_,T_,T_,T_,T_,T_,T_,T_,F_,F_,F_,F_,F_] HT_ ?_
                refine pu (i := 9) (N := some 31) #[T_,T_,T_,T_,T_,T_,T_,T_,F_,T_,F_,F_,F_] HT_ ?_
                refine take_ (i := 8) (N := some 30) (v := ?_) (a' := ?_) #[T_,T_,T_,T_,T_,T_,T_,T_,T_,T_,F_,F_,F_] rfl rfl (take_ofW HT_.out HW_.out (by kernel_rfl)) (fun _ _ _ h => h) (Or.inl ⟨by rfl, ?_⟩) hHeld ?_ ?_
                rotate_left
                ·rintro w' ⟨s0, s1, s2, s3, s4, s5⟩
                 go_simp
                 with_reducible rfl
                rotate_left
                ·simp only [Act.put, sT_, s0_, sS_, i64_w, i32_w]
                 rfl
                refine take_ (i := 10) (N := some 32) (v := ?_) (a' := ?_) #[T_,T_,T_,T_,T_,T_,T_,T_,T_,T_,T_,F_,F_] rfl rfl (take_ofW HT_.out HW_.out (by kernel_rfl)) (fun _ _ _ h => h) (Or.inl ⟨by rfl, ?_⟩) hHeld ?_ ?_
                rotate_left
                ·rintro w' ⟨s0, s1, s2, s3, s4, s5⟩
                 go_simp
                 with_reducible rfl
                rotate_left
                ·simp only [Act.put, sT_, s0_, sS_, i64_w, i32_w]
                 rfl
                refine pu (i := 11) (N := some 33) #[T_,T_,T_,T_,T_,T_,T_,T_,T_,T_,T_,T_,F_] HT_ ?_
                refine pu (i := 12) (N := some 34) #[T_,T_,T_,T_,T_,T_,T_,T_,T_,T_,T_,T_,T_] HT_ ?_
                refine done_ (done_of HT_.out (by kernel_rfl)) ?_
                try go_wp2_with (first | ((with_reducible refine gate_dst (N := 37) rfl ?_); refine Kd.R_lit k75 _ 75 ?hg (N := 37) ?hd (xs := ([] : List (S75))) (inner := []) (ok := fun _ => True) (okp := fun _ => True) ?hr ?hp (fun _ hk => hk) trivial (Below.refl _ _) (Nat.le_refl _) (by simp) ?_; (case hd => rfl); (case hg => rfl); (case hr => first | (go_simp; done) | (go_simp; rfl)); (case hp => exact (Reps.none _ _)); intro v243 w42 ho43 hb hg_ hnew_; clear hg_ hnew_; (first | rw [← Ny242.out] at ho43 | (simp only [Int.reduceToNat] at ho43; rw [← Ny242.out] at ho43)); have n0_ := ak_ (Kd.R_lower (Kd.R_newB ho43 (g := gb238) (o := .cells #[.string a2_0, .int .i64 a2_1, .int .i64 a2_2] 75 (0, 0)) (bk_ BK238)) (below_size (hg_ GE238))); have n1_ := ak_ (blk_below (g := gb238) (o := .cells #[.string a2_0, .int .i64 a2_1, .int .i64 a2_2] 75 (0, 0)) (bk_ BK238) hb); have n2_ := ak_ (below_step (hg_ GE238) hb); clear BK238 HB; have HO244 := n0_; have BK238 := n1_; have HB := n2_; clear n0_ n1_ n2_; clear hb ho43; have q44 : (x8_1 : Int) ≤ ((l1.length : Int) : Int) := od_; obtain ⟨i044, hi044, _, hsz44, _⟩ := info_parts info75; have hroom44 : l1.length ≤ c1 := HC1.out; have hC44 : Kd.C k75 _ (some ad241) l1.length l1 := HR1.out; have hcut44 := cut_to (P := Try.prog) 54 75 .i64 Try.underlying54 hi044 (some ad241) l1.length c1 x8_1 (od_) q44 hroom44; have hr44 := Kd.C_take (m := (x8_1 : Int).toNat) hC44 (by omega); have hy44 : y245.length = (x8_1 : Int).toNat := (by rw [Ny245.out, List.length_take]; omega); rw [← Ny245.out] at hr44; rw [← hy44] at hcut44; have HR248 := ak_ hr44; have HC248 := ak_ (show y245.length ≤ c1 from by omega); clear hr44 hC44 hroom44 hi044 hsz44; have KY44 := ak_ hy44; clear hy44; replace q44 := eq_true q44) | ((with_reducible refine gate_builtin (b := .append) (xs := #[.tmp 37, .tmp 40]) rfl ?_); at_builtin; refine Kd.R_append_rows k75 (w0 := w) w.heap.size rfl (.tmp 37) (.tmp 40) 54 75 (.agg #[(.string ⟨#[]⟩), (.int .i64 0), (.int .i64 0)]) 32 rfl Try.underlying54 info75 rfl (by decide) (by omega) v243 y242 y245 _ _ _ (fun k_ => k_ ≠ gb238) (fun _ => False) rfl rfl ?aO ?aR (fun _ _ h => h) (fun _ h => h.elim) ?aF ?aB ?aS ?aL ?_; (case aR => exact kc_ (Kd.C_below HR248.out HB.out)); (case aB => exact (hg_ GE238)); (case aF => exact (fun k_ hk => Kd.freshB (g := gb238) (o := .cells #[.string a2_0, .int .i64 a2_1, .int .i64 a2_2] 75 (0, 0)) (bk_ BK238) k_ hk)); (case aO => exact (by (with_reducible repeat (first | apply Kd.R_alloc | apply Kd.R_drewN | apply Kd.R_drew)); exact Kd.R_mono HO244.out (fun _ hk => hk.2))); (case aS => exact (below_size (hg_ GE238))); (case aL => have := LMc23.out; omega); intro v250 w45 ho hb hg hat; rw [← Ny249.out] at ho; have n0_ := ak_ (blk_grown (g := gb238) (o := .cells #[.string a2_0, .int .i64 a2_1, .int .i64 a2_2] 75 (0, 0)) (bk_ BK238) hg (Kd.R_away HO244.out (fun _ hk => hk.2))); have n1_ := ak_ (hb); have n2_ := ak_ (ho); clear BK238 HB HO244; have BK238 := n0_; have HB := n1_; have HO251 := n2_; clear n0_ n1_ n2_; clear ho hb hg hat; have hcz46_0 : w45.cell? ⟨gb238, 0, none⟩ = some (.string a2_0) := (blk_cell BK238.out 0).trans rfl; have hcz46_1 : w45.cell? ⟨gb238, 1, none⟩ = some (.int .i64 a2_1) := (blk_cell BK238.out 1).trans rfl; have hcz46_2 : w45.cell? ⟨gb238, 2, none⟩ = some (.int .i64 a2_2) := (blk_cell BK238.out 2).trans rfl; have hfz46_0 := blk_frozen BK238.out 0; have hfz46_1 := blk_frozen BK238.out 1; have hfz46_2 := blk_frozen BK238.out 2) | ((with_reducible refine gate_builtin (b := .append) (xs := #[.tmp 42, .tmp 44]) rfl ?_); at_builtin; refine Kd.R_append k75 (w0 := w) w.heap.size rfl (.tmp 42) (.tmp 44) 54 75 (.agg #[(.string ⟨#[]⟩), (.int .i64 0), (.int .i64 0)]) 32 rfl Try.underlying54 info75 rfl (by decide) (by omega) v250 y249 (⟨a2_0, a2_1, a2_2⟩ : S75) [.string a2_0, .int .i64 a2_1, .int .i64 a2_2] (fun k_ => k_ ≠ gb238) (fun _ => False) rfl rfl ?aP (fun _ hk => hk.elim) ?aF ?aO ?aB ?aS ?aL ?_; (case aP => exact k75_mkM _ _ _ (⟨a2_0, a2_1, a2_2⟩ : S75)); (case aB => exact (hg_ GE238)); (case aF => exact (fun k_ hk => Kd.freshB (g := gb238) (o := .cells #[.string a2_0, .int .i64 a2_1, .int .i64 a2_2] 75 (0, 0)) (bk_ BK238) k_ hk)); (case aO => exact (kr_ HO251)); (case aS => exact (below_size (hg_ GE238))); (case aL => have := LMc24.out; omega); intro v253 w47 ho hb hg hat; rw [← Ny252.out] at ho; have n0_ := ak_ (blk_grown (g := gb238) (o := .cells #[.string a2_0, .int .i64 a2_1, .int .i64 a2_2] 75 (0, 0)) (bk_ BK238) hg (Kd.R_away HO251.out (fun _ hk => hk))); have n1_ := ak_ (hb); have n2_ := ak_ (ho); clear BK238 HB HO251; have BK238 := n0_; have HB := n1_; have HO254 := n2_; clear n0_ n1_ n2_; clear ho hb hg hat; have q48 : (x8_1 : Int) ≤ ((l1.length : Int) : Int) := od_; obtain ⟨i048, hi048, _, hsz48, _⟩ := info_parts info75; have hroom48 : l1.length ≤ c1 := HC1.out; have hC48 : Kd.C k75 _ (some ad241) l1.length l1 := HR1.out; have q048 : (0 : Int) ≤ (x8_1 : Int) := od_; have hcut48 := cut_from (P := Try.prog) 54 75 .i64 Try.underlying54 hi048 3 hsz48 (some ad241) l1.length c1 x8_1 q048 q48; have hr48 := Kd.C_drop (m := (x8_1 : Int).toNat) (c := c1) hC48 (by omega) hroom48; obtain ⟨A48, hA48⟩ : ∃ Az_, Az_ = (if c1 = (x8_1 : Int).toNat then (some ad241) else ((some ad241) : Option Addr).map (·.add ((x8_1 : Int).toNat * 3))) := ⟨_, rfl⟩; obtain ⟨c48, hc48⟩ : ∃ cz_, cz_ = c1 - (x8_1 : Int).toNat := ⟨_, rfl⟩; have hy48 : y255.length = l1.length - (x8_1 : Int).toNat := (by rw [Ny255.out, List.length_drop] <;> omega); rw [show (l1).drop (x8_1 : Int).toNat = y255 from Ny255.out.symm] at hr48; replace hr48 : Kd.C k75 _ A48 y255.length y255 := (by rw [hA48]; exact hr48); rw [← hy48, ← hA48, ← hc48] at hcut48; have HR258 := ak_ hr48; have HC258 := ak_ (show y255.length ≤ c48 from by rw [hy48, hc48]; exact Nat.sub_le_sub_right hroom48 _); clear hr48 hC48 hroom48 hi048 hsz48 hc48; have KY48 := ak_ hy48; have KA48 := ak_ hA48; clear hy48 hA48; replace q48 := eq_true q48) | ((with_reducible refine gate_builtin (b := .append) (xs := #[.tmp 46, .tmp 49]) rfl ?_); at_builtin; refine Kd.R_append_rows k75 (w0 := w) w.heap.size rfl (.tmp 46) (.tmp 49) 54 75 (.agg #[(.string ⟨#[]⟩), (.int .i64 0), (.int .i64 0)]) 32 rfl Try.underlying54 info75 rfl (by decide) (by omega) v253 y252 y255 _ _ _ (fun k_ => k_ ≠ gb238) (fun _ => False) rfl rfl ?aO ?aR (fun _ _ h => h) (fun _ h => h.elim) ?aF ?aB ?aS ?aL ?_; (case aR => exact kc_ (Kd.C_below HR258.out HB.out)); (case aB => exact (hg_ GE238)); (case aF => exact (fun k_ hk => Kd.freshB (g := gb238) (o := .cells #[.string a2_0, .int .i64 a2_1, .int .i64 a2_2] 75 (0, 0)) (bk_ BK238) k_ hk)); (case aO => exact (kr_ HO254)); (case aS => exact (below_size (hg_ GE238))); (case aL => have := LMc27.out; omega); intro v260 w49 ho hb hg hat; rw [← Ny259.out] at ho; have n0_ := ak_ (blk_grown (g := gb238) (o := .cells #[.string a2_0, .int .i64 a2_1, .int .i64 a2_2] 75 (0, 0)) (bk_ BK238) hg (Kd.R_away HO254.out (fun _ hk => hk))); have n1_ := ak_ (hb); have n2_ := ak_ (ho); clear BK238 HB HO254; have BK238 := n0_; have HB := n1_; have HO261 := n2_; clear n0_ n1_ n2_; clear ho hb hg hat; obtain ⟨Ao50, co50, eo50⟩ := Kd.R_slice HO261.out; subst eo50) | ((with_reducible refine gate_callee (f := 79) rfl ?_); refine goesL_ (some 53) rfl rfl Try.func79 (by kernel_rfl) rfl #[.slice A0 l0.length c0, .slice Ao50 y259.length co50] rfl ln_ ?_; (with_reducible refine (spec_l21Checks.calls k1 _ _ l0 _ _ y259 false _ ?side1 ?side2 ?side3 ?side4 A28.out).mono ?_); (case side1 => exact kc_ (Kd.C_below HR0.out HB.out)); (case side2 => exact HC0.out); (case side3 => repeat (first | exact (Kd.R_reads' HO261.out).2.2 | (with_reducible refine Kd.C_alloc ?_ _) | (with_reducible refine Kd.C_drewN ?_ _) | (with_reducible refine Kd.C_drew ?_))); (case side4 => exact (Kd.R_reads' HO261.out).2.1); rintro e w51 ⟨rfl, hb⟩; refine ⟨_, rfl, ?_⟩; have n0_ := ak_ (Kd.R_below (kr_ HO261) hb); have n1_ := ak_ (blk_below (g := gb238) (o := .cells #[.string a2_0, .int .i64 a2_1, .int .i64 a2_2] 75 (0, 0)) (bk_ BK238) hb); have n2_ := ak_ (below_step (hg_ GE238) hb); clear HO261 BK238 HB; have HO261 := n0_; have BK238 := n1_; have HB := n2_; clear n0_ n1_ n2_; clear hb))
                go_ret2
                exact ⟨_, by first | rfl | (simp [errW_none, errW_some] <;> rfl) | (simp only [← hji16]; first | rfl | (simp [errW_none, errW_some] <;> rfl)) | (simp [*, errW_none, errW_some] <;> rfl), by first | exact Kd.R_nil _ _ _ _ _ | exact Kd.N_nil _ _ _ _ _ | exact Kd.V_nil _ _ _ _ _ | exact Kd.Q_nil _ _ _ _ _ | exact Kd.S_nil _ _ _ _ _, (hg_ GE238)⟩
              ·rw [if_neg c27] at H
               exact absurd H (by simp)
             ·rw [if_neg c24] at H
              exact absurd H (by simp)
            ·rw [if_neg c23] at H
             exact absurd H (by simp)
           ·rw [if_neg c22] at H
            exact absurd H (by simp)
          ·rw [if_neg c21] at H
           exact absurd H (by simp)
        ·rw [if_neg c18] at H
         exact absurd H (by simp)
       ·rw [if_neg c17] at H
        exact absurd H (by simp)
      ·rw [if_neg c15] at H
       have c15b0 : decide (0 < x8_1) = false := decide_eq_false c15
       clear c15
       obtain ⟨y263, hy263⟩ : ∃ y_ : List (S75), y_ = (([] : List (S75))) := ⟨_, rfl⟩
       replace H : (if 0 ≤ x8_1 then (if x8_1 ≤ (l1.length : Int) then ((some (l1.take (x8_1 : Int).toNat : List (S75))).bind fun y266 => (if y263.length + y266.length < 4398046511104 then ((some (y263 ++ y266 : List (S75))).bind fun y270 => (if y270.length < 4398046511104 then ((some (y270 ++ [(⟨a2_0, a2_1, a2_2⟩ : S75)] : List (S75))).bind fun y273 => ((some (l1.drop (x8_1 : Int).toNat : List (S75))).bind fun y276 => (if y273.length + y276.length < 4398046511104 then ((some (y273 ++ y276 : List (S75))).bind fun y280 => ((spec_l21Checks.f k1 l0 y280).bind fun t283 => (if t283 = true then (some (y280, 0)) else (some (([] : List (S75)), 9))))) else (none)))) else (none))) else (none))) else (none)) else (none)) = some (r1, r2) := by first | (rw [hy263]; with_reducible exact H) | (have H2_ := (Option.bind_some _ _).symm.trans H; rw [hy263]; with_reducible exact H2_) | (have H2_ := (Option.bind_some _ _).symm.trans H; with_reducible exact H2_) | with_reducible exact H | (rw [hy263]; exact H) | exact H
       have Ny263 := ak_ hy263
       clear hy263
       by_cases c52 : 0 ≤ x8_1
       ·rw [if_pos c52] at H
        have c52b0 := eq_true c52
        have c52b1 : decide (0 ≤ x8_1) = true := dt_ c52
        clear c52
        by_cases c53 : x8_1 ≤ (l1.length : Int)
        ·rw [if_pos c53] at H
         have c53b0 := eq_true c53
         have c53b1 : decide (x8_1 ≤ (l1.length : Int)) = true := dt_ c53
         clear c53
         obtain ⟨y266, hy266⟩ : ∃ y_ : List (S75), y_ = (l1.take (x8_1 : Int).toNat) := ⟨_, rfl⟩
         replace H : (if y263.length + y266.length < 4398046511104 then ((some (y263 ++ y266 : List (S75))).bind fun y270 => (if y270.length < 4398046511104 then ((some (y270 ++ [(⟨a2_0, a2_1, a2_2⟩ : S75)] : List (S75))).bind fun y273 => ((some (l1.drop (x8_1 : Int).toNat : List (S75))).bind fun y276 => (if y273.length + y276.length < 4398046511104 then ((some (y273 ++ y276 : List (S75))).bind fun y280 => ((spec_l21Checks.f k1 l0 y280).bind fun t283 => (if t283 = true then (some (y280, 0)) else (some (([] : List (S75)), 9))))) else (none)))) else (none))) else (none)) = some (r1, r2) := by first | (rw [hy266]; with_reducible exact H) | (have H2_ := (Option.bind_some _ _).symm.trans H; rw [hy266]; with_reducible exact H2_) | (have H2_ := (Option.bind_some _ _).symm.trans H; with_reducible exact H2_) | with_reducible exact H | (rw [hy266]; exact H) | exact H
         have Ny266 := ak_ hy266
         clear hy266
         by_cases c54 : y263.length + y266.length < 4398046511104
         ·rw [if_pos c54] at H
          have LMc54 := ak_ c54
          clear c54
          obtain ⟨y270, hy270⟩ : ∃ y_ : List (S75), y_ = (y263 ++ y266) := ⟨_, rfl⟩
          replace H : (if y270.length < 4398046511104 then ((some (y270 ++ [(⟨a2_0, a2_1, a2_2⟩ : S75)] : List (S75))).bind fun y273 => ((some (l1.drop (x8_1 : Int).toNat : List (S75))).bind fun y276 => (if y273.length + y276.length < 4398046511104 then ((some (y273 ++ y276 : List (S75))).bind fun y280 => ((spec_l21Checks.f k1 l0 y280).bind fun t283 => (if t283 = true then (some (y280, 0)) else (some (([] : List (S75)), 9))))) else (none)))) else (none)) = some (r1, r2) := by first | (rw [hy270]; with_reducible exact H) | (have H2_ := (Option.bind_some _ _).symm.trans H; rw [hy270]; with_reducible exact H2_) | (have H2_ := (Option.bind_some _ _).symm.trans H; with_reducible exact H2_) | with_reducible exact H | (rw [hy270]; exact H) | exact H
          have Ny270 := ak_ hy270
          clear hy270
          by_cases c55 : y270.length < 4398046511104
          ·rw [if_pos c55] at H
           have LMc55 := ak_ c55
           clear c55
           obtain ⟨y273, hy273⟩ : ∃ y_ : List (S75), y_ = (y270 ++ [(⟨a2_0, a2_1, a2_2⟩ : S75)]) := ⟨_, rfl⟩
           replace H : ((some (l1.drop (x8_1 : Int).toNat : List (S75))).bind fun y276 => (if y273.length + y276.length < 4398046511104 then ((some (y273 ++ y276 : List (S75))).bind fun y280 => ((spec_l21Checks.f k1 l0 y280).bind fun t283 => (if t283 = true then (some (y280, 0)) else (some (([] : List (S75)), 9))))) else (none))) = some (r1, r2) := by first | (rw [hy273]; with_reducible exact H) | (have H2_ := (Option.bind_some _ _).symm.trans H; rw [hy273]; with_reducible exact H2_) | (have H2_ := (Option.bind_some _ _).symm.trans H; with_reducible exact H2_) | with_reducible exact H | (rw [hy273]; exact H) | exact H
           have Ny273 := ak_ hy273
           clear hy273
           have c56b0 := eq_true (od_ : 0 ≤ x8_1)
           have c57b0 := eq_true (od_ : x8_1 ≤ (l1.length : Int))
           obtain ⟨y276, hy276⟩ : ∃ y_ : List (S75), y_ = (l1.drop (x8_1 : Int).toNat) := ⟨_, rfl⟩
           replace H : (if y273.length + y276.length < 4398046511104 then ((some (y273 ++ y276 : List (S75))).bind fun y280 => ((spec_l21Checks.f k1 l0 y280).bind fun t283 => (if t283 = true then (some (y280, 0)) else (some (([] : List (S75)), 9))))) else (none)) = some (r1, r2) := by first | (rw [hy276]; with_reducible exact H) | (have H2_ := (Option.bind_some _ _).symm.trans H; rw [hy276]; with_reducible exact H2_) | (have H2_ := (Option.bind_some _ _).symm.trans H; with_reducible exact H2_) | with_reducible exact H | (rw [hy276]; exact H) | exact H
           have Ny276 := ak_ hy276
           clear hy276
           by_cases c58 : y273.length + y276.length < 4398046511104
           ·rw [if_pos c58] at H
            have LMc58 := ak_ c58
            clear c58
            obtain ⟨y280, hy280⟩ : ∃ y_ : List (S75), y_ = (y273 ++ y276) := ⟨_, rfl⟩
            replace H : ((spec_l21Checks.f k1 l0 y280).bind fun t283 => (if t283 = true then (some (y280, 0)) else (some (([] : List (S75)), 9)))) = some (r1, r2) := by first | (rw [hy280]; with_reducible exact H) | (have H2_ := (Option.bind_some _ _).symm.trans H; rw [hy280]; with_reducible exact H2_) | (have H2_ := (Option.bind_some _ _).symm.trans H; with_reducible exact H2_) | with_reducible exact H | (rw [hy280]; exact H) | exact H
            have Ny280 := ak_ hy280
            clear hy280
            replace H := ob_ H
            obtain ⟨t283, A590, H⟩ := H
            replace H : (if t283 = true then (some (y280, 0)) else (some (([] : List (S75)), 9))) = some (r1, r2) := H
            have A59 := ak_ A590
            clear A590
            by_cases c60 : t283 = true
            ·subst c60
             have H1 : (some (y280, 0)) = some (r1, r2) := by rw [if_pos rfl] at H; exact H
             clear H
             have H := H1
             clear H1
             simp only [Option.some.injEq, Prod.mk.injEq] at H
             obtain ⟨rfl, rfl⟩ := H
             try go_wp2
             have n0_ := ak_ (blk_drew BK238.out)
             have n1_ := ak_ (below_drew1 HB.out)
             clear BK238
             clear HB
             have BK238 := n0_
             have HB := n1_
             clear n0_ n1_
             refine start_ (n := 13) (S := fun w' => True) (ds := []) #[F_,F_,F_,F_,F_,F_,F_,F_,F_,F_,F_,F_,F_] (by kernel_rfl) rfl rfl trivial (fun hHeld => ?_); refine with_tabW spec_AddCheck.tab8 spec_AddCheck.bits8 (fun HT_ HW_ => ?_)
             generalize wr.drew = w61 at BK238 HB hHeld ⊢
             refine pu (i := 0) (N := some 22) #[T_,F_,F_,F_,F_,F_,F_,F_,F_,F_,F_,F_,F_] HT_ ?_
             refine pu (i := 1) (N := some 23) #[T_,T_,F_,F_,F_,F_,F_,F_,F_,F_,F_,F_,F_] HT_ ?_
             refine pu (i := 2) (N := some 24) #[T_,T_,T_,F_,F_,F_,F_,F_,F_,F_,F_,F_,F_] HT_ ?_
             refine pn (i := 3) (N := some 25) #[T_,T_,T_,T_,F_,F_,F_,F_,F_,F_,F_,F_,F_] HT_ ?_
             refine pn (i := 4) (N := some 26) #[T_,T_,T_,T_,T_,F_,F_,F_,F_,F_,F_,F_,F_] HT_ ?_
             refine pn (i := 5) (N := some 27) #[T_,T_,T_,T_,T_,T_,F_,F_,F_,F_,F_,F_,F_] HT_ ?_
             refine pn (i := 6) (N := some 28) #[T_,T_,T_,T_,T_,T_,T_,F_,F_,F_,F_,F_,F_] HT_ ?_
             refine pn (i := 7) (N := some 29) #[T_,T_,T_,T_,T_,T_,T_,T_,F_,F_,F_,F_,F_] HT_ ?_
             refine pn (i := 8) (N := some 30) #[T_,T_,T_,T_,T_,T_,T_,T_,T_,F_,F_,F_,F_] HT_ ?_
             refine pn (i := 9) (N := some 31) #[T_,T_,T_,T_,T_,T_,T_,T_,T_,T_,F_,F_,F_] HT_ ?_
             refine pn (i := 10) (N := some 32) #[T_,T_,T_,T_,T_,T_,T_,T_,T_,T_,T_,F_,F_] HT_ ?_
             refine pn (i := 11) (N := some 33) #[T_,T_,T_,T_,T_,T_,T_,T_,T_,T_,T_,T_,F_] HT_ ?_
             refine pu (i := 12) (N := some 34) #[T_,T_,T_,T_,T_,T_,T_,T_,T_,T_,T_,T_,T_] HT_ ?_
             refine done_ (done_of HT_.out (by kernel_rfl)) ?_
             try go_wp2_with (first | ((with_reducible refine gate_dst (N := 37) rfl ?_); refine Kd.R_lit k75 _ 75 ?hg (N := 37) ?hd (xs := ([] : List (S75))) (inner := []) (ok := fun _ => True) (okp := fun _ => True) ?hr ?hp (fun _ hk => hk) trivial (Below.refl _ _) (Nat.le_refl _) (by simp) ?_; (case hd => rfl); (case hg => rfl); (case hr => first | (go_simp; done) | (go_simp; rfl)); (case hp => exact (Reps.none _ _)); intro v264 w62 ho63 hb hg_ hnew_; clear hg_ hnew_; (first | rw [← Ny263.out] at ho63 | (simp only [Int.reduceToNat] at ho63; rw [← Ny263.out] at ho63)); have n0_ := ak_ (Kd.R_lower (Kd.R_newB ho63 (g := gb238) (o := .cells #[.string a2_0, .int .i64 a2_1, .int .i64 a2_2] 75 (0, 0)) (bk_ BK238)) (below_size (hg_ GE238))); have n1_ := ak_ (blk_below (g := gb238) (o := .cells #[.string a2_0, .int .i64 a2_1, .int .i64 a2_2] 75 (0, 0)) (bk_ BK238) hb); have n2_ := ak_ (below_step (hg_ GE238) hb); clear BK238 HB; have HO265 := n0_; have BK238 := n1_; have HB := n2_; clear n0_ n1_ n2_; clear hb ho63; have q64 : (x8_1 : Int) ≤ ((l1.length : Int) : Int) := od_; obtain ⟨i064, hi064, _, hsz64, _⟩ := info_parts info75; have hroom64 : l1.length ≤ c1 := HC1.out; have hC64 : Kd.C k75 _ A1 l1.length l1 := HR1.out; have hcut64 := cut_to (P := Try.prog) 54 75 .i64 Try.underlying54 hi064 A1 l1.length c1 x8_1 (od_) q64 hroom64; have hr64 := Kd.C_take (m := (x8_1 : Int).toNat) hC64 (by omega); have hy64 : y266.length = (x8_1 : Int).toNat := (by rw [Ny266.out, List.length_take]; omega); rw [← Ny266.out] at hr64; rw [← hy64] at hcut64; have HR269 := ak_ hr64; have HC269 := ak_ (show y266.length ≤ c1 from by omega); clear hr64 hC64 hroom64 hi064 hsz64; have KY64 := ak_ hy64; clear hy64; replace q64 := eq_true q64) | ((with_reducible refine gate_builtin (b := .append) (xs := #[.tmp 37, .tmp 40]) rfl ?_); at_builtin; refine Kd.R_append_rows k75 (w0 := w) w.heap.size rfl (.tmp 37) (.tmp 40) 54 75 (.agg #[(.string ⟨#[]⟩), (.int .i64 0), (.int .i64 0)]) 32 rfl Try.underlying54 info75 rfl (by decide) (by omega) v264 y263 y266 _ _ _ (fun k_ => k_ ≠ gb238) (fun _ => False) rfl rfl ?aO ?aR (fun _ _ h => h) (fun _ h => h.elim) ?aF ?aB ?aS ?aL ?_; (case aR => exact kc_ (Kd.C_below HR269.out HB.out)); (case aB => exact (hg_ GE238)); (case aF => exact (fun k_ hk => Kd.freshB (g := gb238) (o := .cells #[.string a2_0, .int .i64 a2_1, .int .i64 a2_2] 75 (0, 0)) (bk_ BK238) k_ hk)); (case aO => exact (by (with_reducible repeat (first | apply Kd.R_alloc | apply Kd.R_drewN | apply Kd.R_drew)); exact Kd.R_mono HO265.out (fun _ hk => hk.2))); (case aS => exact (below_size (hg_ GE238))); (case aL => have := LMc54.out; omega); intro v271 w65 ho hb hg hat; rw [← Ny270.out] at ho; have n0_ := ak_ (blk_grown (g := gb238) (o := .cells #[.string a2_0, .int .i64 a2_1, .int .i64 a2_2] 75 (0, 0)) (bk_ BK238) hg (Kd.R_away HO265.out (fun _ hk => hk.2))); have n1_ := ak_ (hb); have n2_ := ak_ (ho); clear BK238 HB HO265; have BK238 := n0_; have HB := n1_; have HO272 := n2_; clear n0_ n1_ n2_; clear ho hb hg hat; have hcz66_0 : w65.cell? ⟨gb238, 0, none⟩ = some (.string a2_0) := (blk_cell BK238.out 0).trans rfl; have hcz66_1 : w65.cell? ⟨gb238, 1, none⟩ = some (.int .i64 a2_1) := (blk_cell BK238.out 1).trans rfl; have hcz66_2 : w65.cell? ⟨gb238, 2, none⟩ = some (.int .i64 a2_2) := (blk_cell BK238.out 2).trans rfl; have hfz66_0 := blk_frozen BK238.out 0; have hfz66_1 := blk_frozen BK238.out 1; have hfz66_2 := blk_frozen BK238.out 2) | ((with_reducible refine gate_builtin (b := .append) (xs := #[.tmp 42, .tmp 44]) rfl ?_); at_builtin; refine Kd.R_append k75 (w0 := w) w.heap.size rfl (.tmp 42) (.tmp 44) 54 75 (.agg #[(.string ⟨#[]⟩), (.int .i64 0), (.int .i64 0)]) 32 rfl Try.underlying54 info75 rfl (by decide) (by omega) v271 y270 (⟨a2_0, a2_1, a2_2⟩ : S75) [.string a2_0, .int .i64 a2_1, .int .i64 a2_2] (fun k_ => k_ ≠ gb238) (fun _ => False) rfl rfl ?aP (fun _ hk => hk.elim) ?aF ?aO ?aB ?aS ?aL ?_; (case aP => exact k75_mkM _ _ _ (⟨a2_0, a2_1, a2_2⟩ : S75)); (case aB => exact (hg_ GE238)); (case aF => exact (fun k_ hk => Kd.freshB (g := gb238) (o := .cells #[.string a2_0, .int .i64 a2_1, .int .i64 a2_2] 75 (0, 0)) (bk_ BK238) k_ hk)); (case aO => exact (kr_ HO272)); (case aS => exact (below_size (hg_ GE238))); (case aL => have := LMc55.out; omega); intro v274 w67 ho hb hg hat; rw [← Ny273.out] at ho; have n0_ := ak_ (blk_grown (g := gb238) (o := .cells #[.string a2_0, .int .i64 a2_1, .int .i64 a2_2] 75 (0, 0)) (bk_ BK238) hg (Kd.R_away HO272.out (fun _ hk => hk))); have n1_ := ak_ (hb); have n2_ := ak_ (ho); clear BK238 HB HO272; have BK238 := n0_; have HB := n1_; have HO275 := n2_; clear n0_ n1_ n2_; clear ho hb hg hat; have q68 : (x8_1 : Int) ≤ ((l1.length : Int) : Int) := od_; obtain ⟨i068, hi068, _, hsz68, _⟩ := info_parts info75; have hroom68 : l1.length ≤ c1 := HC1.out; have hC68 : Kd.C k75 _ A1 l1.length l1 := HR1.out; have q068 : (0 : Int) ≤ (x8_1 : Int) := od_; have hcut68 := cut_from (P := Try.prog) 54 75 .i64 Try.underlying54 hi068 3 hsz68 A1 l1.length c1 x8_1 q068 q68; have hr68 := Kd.C_drop (m := (x8_1 : Int).toNat) (c := c1) hC68 (by omega) hroom68; obtain ⟨A68, hA68⟩ : ∃ Az_, Az_ = (if c1 = (x8_1 : Int).toNat then A1 else (A1 : Option Addr).map (·.add ((x8_1 : Int).toNat * 3))) := ⟨_, rfl⟩; obtain ⟨c68, hc68⟩ : ∃ cz_, cz_ = c1 - (x8_1 : Int).toNat := ⟨_, rfl⟩; have hy68 : y276.length = l1.length - (x8_1 : Int).toNat := (by rw [Ny276.out, List.length_drop] <;> omega); rw [show (l1).drop (x8_1 : Int).toNat = y276 from Ny276.out.symm] at hr68; replace hr68 : Kd.C k75 _ A68 y276.length y276 := (by rw [hA68]; exact hr68); rw [← hy68, ← hA68, ← hc68] at hcut68; have HR279 := ak_ hr68; have HC279 := ak_ (show y276.length ≤ c68 from by rw [hy68, hc68]; exact Nat.sub_le_sub_right hroom68 _); clear hr68 hC68 hroom68 hi068 hsz68 hc68; have KY68 := ak_ hy68; have KA68 := ak_ hA68; clear hy68 hA68; replace q68 := eq_true q68) | ((with_reducible refine gate_builtin (b := .append) (xs := #[.tmp 46, .tmp 49]) rfl ?_); at_builtin; refine Kd.R_append_rows k75 (w0 := w) w.heap.size rfl (.tmp 46) (.tmp 49) 54 75 (.agg #[(.string ⟨#[]⟩), (.int .i64 0), (.int .i64 0)]) 32 rfl Try.underlying54 info75 rfl (by decide) (by omega) v274 y273 y276 _ _ _ (fun k_ => k_ ≠ gb238) (fun _ => False) rfl rfl ?aO ?aR (fun _ _ h => h) (fun _ h => h.elim) ?aF ?aB ?aS ?aL ?_; (case aR => exact kc_ (Kd.C_below HR279.out HB.out)); (case aB => exact (hg_ GE238)); (case aF => exact (fun k_ hk => Kd.freshB (g := gb238) (o := .cells #[.string a2_0, .int .i64 a2_1, .int .i64 a2_2] 75 (0, 0)) (bk_ BK238) k_ hk)); (case aO => exact (kr_ HO275)); (case aS => exact (below_size (hg_ GE238))); (case aL => have := LMc58.out; omega); intro v281 w69 ho hb hg hat; rw [← Ny280.out] at ho; have n0_ := ak_ (blk_grown (g := gb238) (o := .cells #[.string a2_0, .int .i64 a2_1, .int .i64 a2_2] 75 (0, 0)) (bk_ BK238) hg (Kd.R_away HO275.out (fun _ hk => hk))); have n1_ := ak_ (hb); have n2_ := ak_ (ho); clear BK238 HB HO275; have BK238 := n0_; have HB := n1_; have HO282 := n2_; clear n0_ n1_ n2_; clear ho hb hg hat; obtain ⟨Ao70, co70, eo70⟩ := Kd.R_slice HO282.out; subst eo70) | ((with_reducible refine gate_callee (f := 79) rfl ?_); refine goesL_ (some 53) rfl rfl Try.func79 (by kernel_rfl) rfl #[.slice A0 l0.length c0, .slice Ao70 y280.length co70] rfl ln_ ?_; (with_reducible refine (spec_l21Checks.calls k1 _ _ l0 _ _ y280 true _ ?side1 ?side2 ?side3 ?side4 A59.out).mono ?_); (case side1 => exact kc_ (Kd.C_below HR0.out HB.out)); (case side2 => exact HC0.out); (case side3 => repeat (first | exact (Kd.R_reads' HO282.out).2.2 | (with_reducible refine Kd.C_alloc ?_ _) | (with_reducible refine Kd.C_drewN ?_ _) | (with_reducible refine Kd.C_drew ?_))); (case side4 => exact (Kd.R_reads' HO282.out).2.1); rintro e w71 ⟨rfl, hb⟩; refine ⟨_, rfl, ?_⟩; have n0_ := ak_ (Kd.R_below (kr_ HO282) hb); have n1_ := ak_ (blk_below (g := gb238) (o := .cells #[.string a2_0, .int .i64 a2_1, .int .i64 a2_2] 75 (0, 0)) (bk_ BK238) hb); have n2_ := ak_ (below_step (hg_ GE238) hb); clear HO282 BK238 HB; have HO282 := n0_; have BK238 := n1_; have HB := n2_; clear n0_ n1_ n2_; clear hb))
             go_ret2
             exact ⟨_, ew_, by (with_reducible repeat (first | apply Kd.R_alloc | apply Kd.R_drewN | apply Kd.R_drew)); exact Kd.R_mono HO282.out (fun _ hk => trivial), (hg_ GE238)⟩
            ·replace c60 := Bool.eq_false_iff.mpr c60
             subst c60
             have H1 : (some (([] : List (S75)), 9)) = some (r1, r2) := by rw [if_neg (show ¬ (false = true) by decide)] at H; exact H
             clear H
             have H := H1
             clear H1
             simp only [Option.some.injEq, Prod.mk.injEq] at H
             obtain ⟨rfl, rfl⟩ := H
             try go_wp2
             have n0_ := ak_ (blk_drew BK238.out)
             have n1_ := ak_ (below_drew1 HB.out)
             clear BK238
             clear HB
             have BK238 := n0_
             have HB := n1_
             clear n0_ n1_
             refine start_ (n := 13) (S := fun w' => True) (ds := []) #[F_,F_,F_,F_,F_,F_,F_,F_,F_,F_,F_,F_,F_] (by kernel_rfl) rfl rfl trivial (fun hHeld => ?_); refine with_tabW spec_AddCheck.tab8 spec_AddCheck.bits8 (fun HT_ HW_ => ?_)
             generalize wr.drew = w72 at BK238 HB hHeld ⊢
             refine pu (i := 0) (N := some 22) #[T_,F_,F_,F_,F_,F_,F_,F_,F_,F_,F_,F_,F_] HT_ ?_
             refine pu (i := 1) (N := some 23) #[T_,T_,F_,F_,F_,F_,F_,F_,F_,F_,F_,F_,F_] HT_ ?_
             refine pu (i := 2) (N := some 24) #[T_,T_,T_,F_,F_,F_,F_,F_,F_,F_,F_,F_,F_] HT_ ?_
             refine pn (i := 3) (N := some 25) #[T_,T_,T_,T_,F_,F_,F_,F_,F_,F_,F_,F_,F_] HT_ ?_
             refine pn (i := 4) (N := some 26) #[T_,T_,T_,T_,T_,F_,F_,F_,F_,F_,F_,F_,F_] HT_ ?_
             refine pn (i := 5) (N := some 27) #[T_,T_,T_,T_,T_,T_,F_,F_,F_,F_,F_,F_,F_] HT_ ?_
             refine pn (i := 6) (N := some 28) #[T_,T_,T_,T_,T_,T_,T_,F_,F_,F_,F_,F_,F_] HT_ ?_
             refine pn (i := 7) (N := some 29) #[T_,T_,T_,T_,T_,T_,T_,T_,F_,F_,F_,F_,F_] HT_ ?_
             refine pn (i := 8) (N := some 30) #[T_,T_,T_,T_,T_,T_,T_,T_,T_,F_,F_,F_,F_] HT_ ?_
             refine pn (i := 9) (N := some 31) #[T_,T_,T_,T_,T_,T_,T_,T_,T_,T_,F_,F_,F_] HT_ ?_
             refine pn (i := 10) (N := some 32) #[T_,T_,T_,T_,T_,T_,T_,T_,T_,T_,T_,F_,F_] HT_ ?_
             refine pn (i := 11) (N := some 33) #[T_,T_,T_,T_,T_,T_,T_,T_,T_,T_,T_,T_,F_] HT_ ?_
             refine pu (i := 12) (N := some 34) #[T_,T_,T_,T_,T_,T_,T_,T_,T_,T_,T_,T_,T_] HT_ ?_
             refine done_ (done_of HT_.out (by kernel_rfl)) ?_
             try go_wp2_with (first | ((with_reducible refine gate_dst (N := 37) rfl ?_); refine Kd.R_lit k75 _ 75 ?hg (N := 37) ?hd (xs := ([] : List (S75))) (inner := []) (ok := fun _ => True) (okp := fun _ => True) ?hr ?hp (fun _ hk => hk) trivial (Below.refl _ _) (Nat.le_refl _) (by simp) ?_; (case hd => rfl); (case hg => rfl); (case hr => first | (go_simp; done) | (go_simp; rfl)); (case hp => exact (Reps.none _ _)); intro v264 w73 ho74 hb hg_ hnew_; clear hg_ hnew_; (first | rw [← Ny263.out] at ho74 | (simp only [Int.reduceToNat] at ho74; rw [← Ny263.out] at ho74)); have n0_ := ak_ (Kd.R_lower (Kd.R_newB ho74 (g := gb238) (o := .cells #[.string a2_0, .int .i64 a2_1, .int .i64 a2_2] 75 (0, 0)) (bk_ BK238)) (below_size (hg_ GE238))); have n1_ := ak_ (blk_below (g := gb238) (o := .cells #[.string a2_0, .int .i64 a2_1, .int .i64 a2_2] 75 (0, 0)) (bk_ BK238) hb); have n2_ := ak_ (below_step (hg_ GE238) hb); clear BK238 HB; have HO265 := n0_; have BK238 := n1_; have HB := n2_; clear n0_ n1_ n2_; clear hb ho74; have q75 : (x8_1 : Int) ≤ ((l1.length : Int) : Int) := od_; obtain ⟨i075, hi075, _, hsz75, _⟩ := info_parts info75; have hroom75 : l1.length ≤ c1 := HC1.out; have hC75 : Kd.C k75 _ A1 l1.length l1 := HR1.out; have hcut75 := cut_to (P := Try.prog) 54 75 .i64 Try.underlying54 hi075 A1 l1.length c1 x8_1 (od_) q75 hroom75; have hr75 := Kd.C_take (m := (x8_1 : Int).toNat) hC75 (by omega); have hy75 : y266.length = (x8_1 : Int).toNat := (by rw [Ny266.out, List.length_take]; omega); rw [← Ny266.out] at hr75; rw [← hy75] at hcut75; have HR269 := ak_ hr75; have HC269 := ak_ (show y266.length ≤ c1 from by omega); clear hr75 hC75 hroom75 hi075 hsz75; have KY75 := ak_ hy75; clear hy75; replace q75 := eq_true q75) | ((with_reducible refine gate_builtin (b := .append) (xs := #[.tmp 37, .tmp 40]) rfl ?_); at_builtin; refine Kd.R_append_rows k75 (w0 := w) w.heap.size rfl (.tmp 37) (.tmp 40) 54 75 (.agg #[(.string ⟨#[]⟩), (.int .i64 0), (.int .i64 0)]) 32 rfl Try.underlying54 info75 rfl (by decide) (by omega) v264 y263 y266 _ _ _ (fun k_ => k_ ≠ gb238) (fun _ => False) rfl rfl ?aO ?aR (fun _ _ h => h) (fun _ h => h.elim) ?aF ?aB ?aS ?aL ?_; (case aR => exact kc_ (Kd.C_below HR269.out HB.out)); (case aB => exact (hg_ GE238)); (case aF => exact (fun k_ hk => Kd.freshB (g := gb238) (o := .cells #[.string a2_0, .int .i64 a2_1, .int .i64 a2_2] 75 (0, 0)) (bk_ BK238) k_ hk)); (case aO => exact (by (with_reducible repeat (first | apply Kd.R_alloc | apply Kd.R_drewN | apply Kd.R_drew)); exact Kd.R_mono HO265.out (fun _ hk => hk.2))); (case aS => exact (below_size (hg_ GE238))); (case aL => have := LMc54.out; omega); intro v271 w76 ho hb hg hat; rw [← Ny270.out] at ho; have n0_ := ak_ (blk_grown (g := gb238) (o := .cells #[.string a2_0, .int .i64 a2_1, .int .i64 a2_2] 75 (0, 0)) (bk_ BK238) hg (Kd.R_away HO265.out (fun _ hk => hk.2))); have n1_ := ak_ (hb); have n2_ := ak_ (ho); clear BK238 HB HO265; have BK238 := n0_; have HB := n1_; have HO272 := n2_; clear n0_ n1_ n2_; clear ho hb hg hat; have hcz77_0 : w76.cell? ⟨gb238, 0, none⟩ = some (.string a2_0) := (blk_cell BK238.out 0).trans rfl; have hcz77_1 : w76.cell? ⟨gb238, 1, none⟩ = some (.int .i64 a2_1) := (blk_cell BK238.out 1).trans rfl; have hcz77_2 : w76.cell? ⟨gb238, 2, none⟩ = some (.int .i64 a2_2) := (blk_cell BK238.out 2).trans rfl; have hfz77_0 := blk_frozen BK238.out 0; have hfz77_1 := blk_frozen BK238.out 1; have hfz77_2 := blk_frozen BK238.out 2) | ((with_reducible refine gate_builtin (b := .append) (xs := #[.tmp 42, .tmp 44]) rfl ?_); at_builtin; refine Kd.R_append k75 (w0 := w) w.heap.size rfl (.tmp 42) (.tmp 44) 54 75 (.agg #[(.string ⟨#[]⟩), (.int .i64 0), (.int .i64 0)]) 32 rfl Try.underlying54 info75 rfl (by decide) (by omega) v271 y270 (⟨a2_0, a2_1, a2_2⟩ : S75) [.string a2_0, .int .i64 a2_1, .int .i64 a2_2] (fun k_ => k_ ≠ gb238) (fun _ => False) rfl rfl ?aP (fun _ hk => hk.elim) ?aF ?aO ?aB ?aS ?aL ?_; (case aP => exact k75_mkM _ _ _ (⟨a2_0, a2_1, a2_2⟩ : S75)); (case aB => exact (hg_ GE238)); (case aF => exact (fun k_ hk => Kd.freshB (g := gb238) (o := .cells #[.string a2_0, .int .i64 a2_1, .int .i64 a2_2] 75 (0, 0)) (bk_ BK238) k_ hk)); (case aO => exact (kr_ HO272)); (case aS => exact (below_size (hg_ GE238))); (case aL => have := LMc55.out; omega); intro v274 w78 ho hb hg hat; rw [← Ny273.out] at ho; have n0_ := ak_ (blk_grown (g := gb238) (o := .cells #[.string a2_0, .int .i64 a2_1, .int .i64 a2_2] 75 (0, 0)) (bk_ BK238) hg (Kd.R_away HO272.out (fun _ hk => hk))); have n1_ := ak_ (hb); have n2_ := ak_ (ho); clear BK238 HB HO272; have BK238 := n0_; have HB := n1_; have HO275 := n2_; clear n0_ n1_ n2_; clear ho hb hg hat; have q79 : (x8_1 : Int) ≤ ((l1.length : Int) : Int) := od_; obtain ⟨i079, hi079, _, hsz79, _⟩ := info_parts info75; have hroom79 : l1.length ≤ c1 := HC1.out; have hC79 : Kd.C k75 _ A1 l1.length l1 := HR1.out; have q079 : (0 : Int) ≤ (x8_1 : Int) := od_; have hcut79 := cut_from (P := Try.prog) 54 75 .i64 Try.underlying54 hi079 3 hsz79 A1 l1.length c1 x8_1 q079 q79; have hr79 := Kd.C_drop (m := (x8_1 : Int).toNat) (c := c1) hC79 (by omega) hroom79; obtain ⟨A79, hA79⟩ : ∃ Az_, Az_ = (if c1 = (x8_1 : Int).toNat then A1 else (A1 : Option Addr).map (·.add ((x8_1 : Int).toNat * 3))) := ⟨_, rfl⟩; obtain ⟨c79, hc79⟩ : ∃ cz_, cz_ = c1 - (x8_1 : Int).toNat := ⟨_, rfl⟩; have hy79 : y276.length = l1.length - (x8_1 : Int).toNat := (by rw [Ny276.out, List.length_drop] <;> omega); rw [show (l1).drop (x8_1 : Int).toNat = y276 from Ny276.out.symm] at hr79; replace hr79 : Kd.C k75 _ A79 y276.length y276 := (by rw [hA79]; exact hr79); rw [← hy79, ← hA79, ← hc79] at hcut79; have HR279 := ak_ hr79; have HC279 := ak_ (show y276.length ≤ c79 from by rw [hy79, hc79]; exact Nat.sub_le_sub_right hroom79 _); clear hr79 hC79 hroom79 hi079 hsz79 hc79; have KY79 := ak_ hy79; have KA79 := ak_ hA79; clear hy79 hA79; replace q79 := eq_true q79) | ((with_reducible refine gate_builtin (b := .append) (xs := #[.tmp 46, .tmp 49]) rfl ?_); at_builtin; refine Kd.R_append_rows k75 (w0 := w) w.heap.size rfl (.tmp 46) (.tmp 49) 54 75 (.agg #[(.string ⟨#[]⟩), (.int .i64 0), (.int .i64 0)]) 32 rfl Try.underlying54 info75 rfl (by decide) (by omega) v274 y273 y276 _ _ _ (fun k_ => k_ ≠ gb238) (fun _ => False) rfl rfl ?aO ?aR (fun _ _ h => h) (fun _ h => h.elim) ?aF ?aB ?aS ?aL ?_; (case aR => exact kc_ (Kd.C_below HR279.out HB.out)); (case aB => exact (hg_ GE238)); (case aF => exact (fun k_ hk => Kd.freshB (g := gb238) (o := .cells #[.string a2_0, .int .i64 a2_1, .int .i64 a2_2] 75 (0, 0)) (bk_ BK238) k_ hk)); (case aO => exact (kr_ HO275)); (case aS => exact (below_size (hg_ GE238))); (case aL => have := LMc58.out; omega); intro v281 w80 ho hb hg hat; rw [← Ny280.out] at ho; have n0_ := ak_ (blk_grown (g := gb238) (o := .cells #[.string a2_0, .int .i64 a2_1, .int .i64 a2_2] 75 (0, 0)) (bk_ BK238) hg (Kd.R_away HO275.out (fun _ hk => hk))); have n1_ := ak_ (hb); have n2_ := ak_ (ho); clear BK238 HB HO275; have BK238 := n0_; have HB := n1_; have HO282 := n2_; clear n0_ n1_ n2_; clear ho hb hg hat; obtain ⟨Ao81, co81, eo81⟩ := Kd.R_slice HO282.out; subst eo81) | ((with_reducible refine gate_callee (f := 79) rfl ?_); refine goesL_ (some 53) rfl rfl Try.func79 (by kernel_rfl) rfl #[.slice A0 l0.length c0, .slice Ao81 y280.length co81] rfl ln_ ?_; (with_reducible refine (spec_l21Checks.calls k1 _ _ l0 _ _ y280 false _ ?side1 ?side2 ?side3 ?side4 A59.out).mono ?_); (case side1 => exact kc_ (Kd.C_below HR0.out HB.out)); (case side2 => exact HC0.out); (case side3 => repeat (first | exact (Kd.R_reads' HO282.out).2.2 | (with_reducible refine Kd.C_alloc ?_ _) | (with_reducible refine Kd.C_drewN ?_ _) | (with_reducible refine Kd.C_drew ?_))); (case side4 => exact (Kd.R_reads' HO282.out).2.1); rintro e w82 ⟨rfl, hb⟩; refine ⟨_, rfl, ?_⟩; have n0_ := ak_ (Kd.R_below (kr_ HO282) hb); have n1_ := ak_ (blk_below (g := gb238) (o := .cells #[.string a2_0, .int .i64 a2_1, .int .i64 a2_2] 75 (0, 0)) (bk_ BK238) hb); have n2_ := ak_ (below_step (hg_ GE238) hb); clear HO282 BK238 HB; have HO282 := n0_; have BK238 := n1_; have HB := n2_; clear n0_ n1_ n2_; clear hb))
             go_ret2
             exact ⟨_, ew_, by first | exact Kd.R_nil _ _ _ _ _ | exact Kd.N_nil _ _ _ _ _ | exact Kd.V_nil _ _ _ _ _ | exact Kd.Q_nil _ _ _ _ _ | exact Kd.S_nil _ _ _ _ _, (hg_ GE238)⟩
           ·rw [if_neg c58] at H
            exact absurd H (by simp)
          ·rw [if_neg c55] at H
           exact absurd H (by simp)
         ·rw [if_neg c54] at H
          exact absurd H (by simp)
        ·rw [if_neg c53] at H
         exact absurd H (by simp)
       ·rw [if_neg c52] at H
        exact absurd H (by simp)
  ·replace c7 := Bool.eq_false_iff.mpr c7
   subst c7
   have H1 : (some (([] : List (S75)), 2)) = some (r1, r2) := by rw [if_neg (show ¬ (false = true) by decide)] at H; exact H
   clear H
   have H := H1
   clear H1
   simp only [Option.some.injEq, Prod.mk.injEq] at H
   obtain ⟨rfl, rfl⟩ := H
   go_enter Try.func126, Try.ntmps126
   go_wp2_with (first | ((with_reducible refine gate_dst (N := 5) rfl ?_); refine box_event ?hg (N := 5) ?hd (cs := #[.string a2_0, .int .i64 a2_1, .int .i64 a2_2]) (t := 75) ?hr ?_; (case hd => rfl); (case hg => rfl); (case hr => first | (go_simp; done) | (go_simp; rfl)); intro gb238 hg w83 hbox hb; have n0_ := ak_ (below_step hb_ hb); have n1_ := ak_ (hbox); have n2_ := ak_ ((by rw [hg]; exact (below_size hb_) : w.heap.size ≤ gb238)); have n3_ := ak_ ((by rw [hg]; exact (below_size hb_) : w.heap.size ≤ gb238)); clear HB; have HB := n0_; have BK238 := n1_; have GW238 := n2_; have GE238 := n3_; clear n0_ n1_ n2_ n3_; clear hb hbox hg) | ((with_reducible refine gate_callee (f := 79) rfl ?_); refine goesL_ (some 12) rfl rfl Try.func79 (by kernel_rfl) rfl #[.slice A0 l0.length c0, .slice A1 l1.length c1] rfl ln_ ?_; (with_reducible refine (spec_l21Checks.calls k _ _ l0 _ _ l1 true _ ?side1 ?side2 ?side3 ?side4 A4.out).mono ?_); (case side1 => exact kc_ (Kd.C_below HR0.out HB.out)); (case side2 => exact HC0.out); (case side3 => exact kc_ (Kd.C_below HR1.out HB.out)); (case side4 => exact HC1.out); rintro e w84 ⟨rfl, hb⟩; refine ⟨_, rfl, ?_⟩; have n0_ := ak_ (blk_below (g := gb238) (o := .cells #[.string a2_0, .int .i64 a2_1, .int .i64 a2_2] 75 (0, 0)) (bk_ BK238) hb); have n1_ := ak_ (below_step (hg_ GE238) hb); clear BK238 HB; have BK238 := n0_; have HB := n1_; clear n0_ n1_; clear hb) | ((with_reducible refine gate_callee (f := 111) rfl ?_); refine goesL_ (some 15) rfl rfl Try.func111 (by kernel_rfl) rfl #[.slice A0 l0.length c0, .pointer (some ⟨gb238, 0, none⟩)] rfl ln_ ?_; (with_reducible refine (spec_l21Check.calls k _ _ l0 _ a2_0 a2_1 a2_2 false _ ?side1 ?side2 ?side3 ?side4 ?side5 A6.out).mono ?_); (case side1 => exact kc_ (Kd.C_below HR0.out HB.out)); (case side2 => exact HC0.out); (case side3 => exact (blk_cell (cs := #[.string a2_0, .int .i64 a2_1, .int .i64 a2_2]) (bk_ BK238) 0).trans rfl); (case side4 => exact (blk_cell (cs := #[.string a2_0, .int .i64 a2_1, .int .i64 a2_2]) (bk_ BK238) 1).trans rfl); (case side5 => exact (blk_cell (cs := #[.string a2_0, .int .i64 a2_1, .int .i64 a2_2]) (bk_ BK238) 2).trans rfl); rintro e w85 ⟨rfl, hb⟩; refine ⟨_, rfl, ?_⟩; have n0_ := ak_ (blk_below (g := gb238) (o := .cells #[.string a2_0, .int .i64 a2_1, .int .i64 a2_2] 75 (0, 0)) (bk_ BK238) hb); have n1_ := ak_ (below_step (hg_ GE238) hb); clear BK238 HB; have BK238 := n0_; have HB := n1_; clear n0_ n1_; clear hb))
   go_ret2
   exact ⟨_, ew_, by first | exact Kd.R_nil _ _ _ _ _ | exact Kd.N_nil _ _ _ _ _ | exact Kd.V_nil _ _ _ _ _ | exact Kd.Q_nil _ _ _ _ _ | exact Kd.S_nil _ _ _ _ _, (hg_ GE238)⟩
 ·replace c5 := Bool.eq_false_iff.mpr c5
  subst c5
  have H1 : (some (([] : List (S75)), 1)) = some (r1, r2) := by rw [if_neg (show ¬ (false = true) by decide)] at H; exact H
  clear H
  have H := H1
  clear H1
  simp only [Option.some.injEq, Prod.mk.injEq] at H
  obtain ⟨rfl, rfl⟩ := H
  go_enter Try.func126, Try.ntmps126
  go_wp2_with (first | ((with_reducible refine gate_dst (N := 5) rfl ?_); refine box_event ?hg (N := 5) ?hd (cs := #[.string a2_0, .int .i64 a2_1, .int .i64 a2_2]) (t := 75) ?hr ?_; (case hd => rfl); (case hg => rfl); (case hr => first | (go_simp; done) | (go_simp; rfl)); intro gb238 hg w86 hbox hb; have n0_ := ak_ (below_step hb_ hb); have n1_ := ak_ (hbox); have n2_ := ak_ ((by rw [hg]; exact (below_size hb_) : w.heap.size ≤ gb238)); have n3_ := ak_ ((by rw [hg]; exact (below_size hb_) : w.heap.size ≤ gb238)); clear HB; have HB := n0_; have BK238 := n1_; have GW238 := n2_; have GE238 := n3_; clear n0_ n1_ n2_ n3_; clear hb hbox hg) | ((with_reducible refine gate_callee (f := 79) rfl ?_); refine goesL_ (some 12) rfl rfl Try.func79 (by kernel_rfl) rfl #[.slice A0 l0.length c0, .slice A1 l1.length c1] rfl ln_ ?_; (with_reducible refine (spec_l21Checks.calls k _ _ l0 _ _ l1 false _ ?side1 ?side2 ?side3 ?side4 A4.out).mono ?_); (case side1 => exact kc_ (Kd.C_below HR0.out HB.out)); (case side2 => exact HC0.out); (case side3 => exact kc_ (Kd.C_below HR1.out HB.out)); (case side4 => exact HC1.out); rintro e w87 ⟨rfl, hb⟩; refine ⟨_, rfl, ?_⟩; have n0_ := ak_ (blk_below (g := gb238) (o := .cells #[.string a2_0, .int .i64 a2_1, .int .i64 a2_2] 75 (0, 0)) (bk_ BK238) hb); have n1_ := ak_ (below_step (hg_ GE238) hb); clear BK238 HB; have BK238 := n0_; have HB := n1_; clear n0_ n1_; clear hb))
  go_ret2
  exact ⟨_, ew_, by first | exact Kd.R_nil _ _ _ _ _ | exact Kd.N_nil _ _ _ _ _ | exact Kd.V_nil _ _ _ _ _ | exact Kd.Q_nil _ _ _ _ _ | exact Kd.S_nil _ _ _ _ _, (hg_ GE238)⟩

end Go.Proofs.Ytfenjlkopofopaa.P
end
