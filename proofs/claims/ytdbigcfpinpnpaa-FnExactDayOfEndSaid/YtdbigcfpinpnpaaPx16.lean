-- Written by gprint.py (own program, over the printer of the kit) out of the translation. Lean checks it.
import Derived.Test.YtdbigcfpinpnpaaPx0
import Derived.Test.YtdbigcfpinpnpaaPx2
import Derived.Test.YtdbigcfpinpnpaaPx4
import Derived.Test.YtdbigcfpinpnpaaPx6
import Derived.Test.YtdbigcfpinpnpaaPx14
import Derived.Test.YtdbigcfpinpnpaaPx15
import Derived.Test.YtdbigcfpinpnpaaWPk
namespace Go.Proofs.Ytdbigcfpinpnpaa.P
open Go.RowKit Go.Proofs.YtdbigcfpinpnpaaW.PrintWords Go.Proofs.YtdbigcfpinpnpaaW.PrintLast Go.Proofs.YtdbigcfpinpnpaaW.PrintMore Go.Proofs.YtdbigcfpinpnpaaW.Pk
open Bool renaming true → T_, false → F_
open List renaming setIfInBounds_toArray → sT_, set_cons_zero → s0_, set_cons_succ → sS_
attribute [local go_sem] max2_int min2_int max_two min_two max_three min_three max_four min_four   -- for this text's walks alone
set_option linter.unusedVariables false
set_option linter.unusedSimpArgs false

/-! ### spec_NextToFail: function 33 -/
def spec_NextToFail.l0 : Nat → List (S73) → List (S53) → Int → Int → Int → Option (ByteArray × Int × Int)
 | 0, _, _, _, _, _ => none
 | k + 1, x0, x1, x7, x8, x9 => if x9 < (x0.length : Int) then (if 0 ≤ x9 then ((spec_l21End.f k ((rd_T73 x0 x9).f0) ((rd_T73 x0 x9).f1) ((rd_T73 x0 x9).f2) ((rd_T73 x0 x9).f3) x1).bind fun t410 => (if t410 ≥ 0 then (if x7 < 0 then (spec_NextToFail.l0 k x0 x1 x9 t410 (wrap64 (x9 + 1))) else (if t410 < x8 then (spec_NextToFail.l0 k x0 x1 x9 t410 (wrap64 (x9 + 1))) else (spec_NextToFail.l0 k x0 x1 x7 x8 (wrap64 (x9 + 1))))) else (spec_NextToFail.l0 k x0 x1 x7 x8 (wrap64 (x9 + 1))))) else (none)) else (if x7 < 0 then (some ((⟨#[]⟩ : ByteArray), 0, 3)) else (if 0 ≤ x7 then (if x7 < (x0.length : Int) then (some ((rd_T73 x0 x7).f0, x8, 0)) else (none)) else (none)))
def spec_NextToFail.f (k : Nat) (l0 : List (S73)) (l1 : List (S53)) : Option (ByteArray × Int × Int) := (spec_l21Checks.f k l0 l1).bind fun t408 => (if t408 = true then (spec_NextToFail.l0 k l0 l1 (-1) 0 0) else (some ((⟨#[]⟩ : ByteArray), 0, 1)))
theorem spec_NextToFail.mono_l : ∀ k, (∀ y0 y1 y2 y3 y4, LeO (spec_NextToFail.l0 k y0 y1 y2 y3 y4) (spec_NextToFail.l0 (k + 1) y0 y1 y2 y3 y4))
 | 0 => fun _ _ _ _ _ r h => by simp [spec_NextToFail.l0] at h
 | k + 1 => by
  have ih0 := spec_NextToFail.mono_l k
  ·intro y0 y1 y2 y3 y4
   unfold spec_NextToFail.l0
   repeat' first
   | (with_reducible exact ih0 _ _ _ _ _)
   | (with_reducible exact spec_l21Checks.mono _ _ _)
   | (with_reducible exact spec_l21End.mono _ _ _ _ _ _)
   | (with_reducible exact LeO.refl _)
   | (with_reducible exact LeO.none _)
   | (with_reducible refine LeO.ite ?_ ?_)
   | (with_reducible refine LeO.bind ?_ (fun _ => ?_))
   | exact ih0 _ _ _ _ _
   | exact spec_l21Checks.mono _ _ _
   | exact spec_l21End.mono _ _ _ _ _ _
   | exact LeO.none _
   | refine LeO.ite ?_ ?_
   | refine LeO.bind ?_ (fun _ => ?_)
theorem spec_NextToFail.mono : ∀ a0 a1 k, LeO (spec_NextToFail.f k a0 a1) (spec_NextToFail.f (k + 1) a0 a1) := by
 intro a0 a1 k
 have ih0 := spec_NextToFail.mono_l k
 unfold spec_NextToFail.f
 repeat' first
   | (with_reducible exact ih0 _ _ _ _ _)
   | (with_reducible exact spec_l21Checks.mono _ _ _)
   | (with_reducible exact spec_l21End.mono _ _ _ _ _ _)
   | (with_reducible exact LeO.refl _)
   | (with_reducible exact LeO.none _)
   | (with_reducible refine LeO.ite ?_ ?_)
   | (with_reducible refine LeO.bind ?_ (fun _ => ?_))
   | exact ih0 _ _ _ _ _
   | exact spec_l21Checks.mono _ _ _
   | exact spec_l21End.mono _ _ _ _ _ _
   | exact LeO.none _
   | refine LeO.ite ?_ ?_
   | refine LeO.bind ?_ (fun _ => ?_)
set_option maxHeartbeats 8000000 in
set_option maxRecDepth 100000 in
theorem spec_NextToFail.calls (k : Nat) (A0 : Option Addr) (c0 : Nat) (l0 : List (S73)) (A1 : Option Addr) (c1 : Nat) (l1 : List (S53)) (r1 : ByteArray) (r2 : Int) (r3 : Int) (w : World) (hr0 : Kd.C k73 w A0 l0.length l0) (hc0 : l0.length ≤ c0) (hr1 : Kd.C k53 w A1 l1.length l1) (hc1 : l1.length ≤ c1) (h : spec_NextToFail.f k l0 l1 = some (r1, r2, r3)) :
  Calls Try.prog 33 #[.slice A0 l0.length c0, .slice A1 l1.length c1] w fun e w' => e = .returned (.tuple #[.string r1, .int .i64 r2, .int .i64 r3]) ∧ Below w.heap.size w w' := by
 have HR0 := Aside0.mk hr0
 have HC0 := Aside0.mk hc0
 clear hr0 hc0
 have HR1 := Aside0.mk hr1
 have HC1 := Aside0.mk hc1
 clear hr1 hc1
 have HB := Aside0.mk (Below.refl w.heap.size w)
 have H : ((spec_l21Checks.f k l0 l1).bind fun t408 => (if t408 = true then (spec_NextToFail.l0 k l0 l1 (-1) 0 0) else (some ((⟨#[]⟩ : ByteArray), 0, 1)))) = some (r1, r2, r3) := h
 clear h
 replace H := Option.bind_eq_some_iff.mp H
 obtain ⟨t408, A30, H⟩ := H
 replace H : (if t408 = true then (spec_NextToFail.l0 k l0 l1 (-1) 0 0) else (some ((⟨#[]⟩ : ByteArray), 0, 1))) = some (r1, r2, r3) := H
 have A3 := Aside0.mk A30
 clear A30
 by_cases c4 : t408 = true
 ·subst c4
  have H1 : (spec_NextToFail.l0 k l0 l1 (-1) 0 0) = some (r1, r2, r3) := by rw [if_pos rfl] at H; exact H
  clear H
  have H := H1
  clear H1
  have H' := Aside0.mk H
  clear H
  go_enter Try.func33, Try.ntmps33
  go_wp2_with (first | ((with_reducible refine gate_callee (f := 63) rfl ?_); refine goesL_ (some 13) rfl rfl Try.func63 (by kernel_rfl) rfl #[.slice A0 l0.length c0, .slice A1 l1.length c1] rfl ln_ ?_; (with_reducible refine (spec_l21Checks.calls k _ _ l0 _ _ l1 true _ ?side1 ?side2 ?side3 ?side4 A3.out).mono ?_); (case side1 => exact kc_ HR0.out); (case side2 => exact HC0.out); (case side3 => exact kc_ HR1.out); (case side4 => exact HC1.out); rintro e w5 ⟨rfl, hb⟩; refine ⟨_, rfl, ?_⟩; have n0_ := Aside0.mk (below_step hb_ hb); clear HB; have HB := n0_; clear n0_; (try clear hb); (try clear hb2); (try clear hk); (try clear hi)))
  go_loopg [7, 8, 9] k (fun kq v7 v8 v9 w' => ∃ (x7_1 : Int) (x8_1 : Int) (x9_1 : Int), v7 = .int .i64 x7_1 ∧ v8 = .int .i64 x8_1 ∧ v9 = .int .i64 x9_1 ∧ Aside0 (spec_NextToFail.l0 kq l0 l1 x7_1 x8_1 x9_1 = some (r1, r2, r3)) ∧ Aside0 (kq ≤ k) ∧ Aside0 (Below w.heap.size w w'))
  case atStart => exact ⟨((-1)), (0), (0), (by first | rfl | (simp; done) | (simp [*]; done)), (by first | rfl | (simp; done) | (simp [*]; done)), (by first | rfl | (simp; done) | (simp [*]; done)), H', ⟨Nat.le_refl _⟩, ⟨hb_⟩⟩
  case round =>
   clear H'
   try clear c1
   try clear p2
   try clear c3
   try clear c4
   obtain ⟨x7_1, x8_1, x9_1, rfl, rfl, rfl, HA, HK1, HB⟩ := hrel
   cases gk with
   | zero => exact absurd HA.out (by simp [spec_NextToFail.l0])
   | succ k1 =>
    have H := HA.out
    clear HA
    simp only [spec_NextToFail.l0] at H
    by_cases c6 : x9_1 < (l0.length : Int)
    ·rw [if_pos c6] at H
     have c6b0 : decide (x9_1 < (l0.length : Int)) = true := decide_eq_true c6
     clear c6
     by_cases c7 : 0 ≤ x9_1
     ·rw [if_pos c7] at H
      have c7b0 : decide (0 ≤ x9_1) = true := decide_eq_true c7
      clear c7
      replace H := Option.bind_eq_some_iff.mp H
      obtain ⟨t410, A80, H⟩ := H
      replace H : (if t410 ≥ 0 then (if x7_1 < 0 then (spec_NextToFail.l0 k1 l0 l1 x9_1 t410 (wrap64 (x9_1 + 1))) else (if t410 < x8_1 then (spec_NextToFail.l0 k1 l0 l1 x9_1 t410 (wrap64 (x9_1 + 1))) else (spec_NextToFail.l0 k1 l0 l1 x7_1 x8_1 (wrap64 (x9_1 + 1))))) else (spec_NextToFail.l0 k1 l0 l1 x7_1 x8_1 (wrap64 (x9_1 + 1)))) = some (r1, r2, r3) := H
      have A8 := Aside0.mk A80
      clear A80
      by_cases c9 : t410 ≥ 0
      ·rw [if_pos c9] at H
       have c9b0 : decide (0 ≤ t410) = true := decide_eq_true c9
       clear c9
       by_cases c10 : x7_1 < 0
       ·rw [if_pos c10] at H
        have c10b0 : decide (x7_1 < 0) = true := decide_eq_true c10
        clear c10
        have H' := Aside0.mk H
        clear H
        have p409 : 0 ≤ (x9_1 : Int) := od_
        have q409 : x9_1 < (l0.length : Int) := od_
        obtain ⟨ad409, e409, hx409_0, hx409_1, hx409_2, hx409_3⟩ := at_T73 HR0.out x9_1 p409 q409
        cases e409
        replace hx409_0 := cq_ HB hx409_0
        replace hx409_1 := cq_ HB hx409_1
        replace hx409_2 := cq_ HB hx409_2
        replace hx409_3 := cq_ HB hx409_3
        replace p409 := eq_true p409
        replace q409 := eq_true q409
        go_wp2_with (first | ((with_reducible refine gate_callee (f := 73) rfl ?_); refine goesL_ (some 25) rfl rfl Try.func73 (by kernel_rfl) rfl #[.pointer (some (ad409.add ((x9_1).toNat * 4))), .slice A1 l1.length c1] rfl ln_ ?_; (with_reducible refine (spec_l21End.calls k1 _ ((rd_T73 l0 x9_1).f0) ((rd_T73 l0 x9_1).f1) ((rd_T73 l0 x9_1).f2) ((rd_T73 l0 x9_1).f3) _ _ l1 t410 _ ?side1 ?side2 ?side3 ?side4 ?side5 ?side6 A8.out).mono ?_); (case side1 => exact kc_ (Kd.C_below HR1.out HB.out)); (case side2 => exact HC1.out); (case side3 => first | exact hx409_0 | (simpa using hx409_0) | (go_simp; done)); (case side4 => first | exact hx409_1 | (simpa using hx409_1) | (go_simp; done)); (case side5 => first | exact hx409_2 | (simpa using hx409_2) | (go_simp; done)); (case side6 => first | exact hx409_3 | (simpa using hx409_3) | (go_simp; done)); rintro e w11 ⟨rfl, hb⟩; refine ⟨_, rfl, ?_⟩; have n0_ := Aside0.mk (below_step hb_ hb); clear HB; have HB := n0_; clear n0_; (try clear hb); (try clear hb2); (try clear hk); (try clear hi)))
        go_roundg k1
        case measure => have := HK1.out; omega
        case rel => exact ⟨(x9_1), (t410), (wrap64 (x9_1 + 1)), (by first | rfl | (simp; done) | (simp [*]; done)), (by first | rfl | (simp; done) | (simp [*]; done)), (by first | rfl | (simp; done) | (simp [*]; done)), H', ⟨by have := HK1.out; omega⟩, ⟨hb_⟩⟩
       ·rw [if_neg c10] at H
        have c10b0 : decide (x7_1 < 0) = false := decide_eq_false c10
        clear c10
        by_cases c12 : t410 < x8_1
        ·rw [if_pos c12] at H
         have c12b0 : decide (t410 < x8_1) = true := decide_eq_true c12
         clear c12
         have H' := Aside0.mk H
         clear H
         have p409 : 0 ≤ (x9_1 : Int) := od_
         have q409 : x9_1 < (l0.length : Int) := od_
         obtain ⟨ad409, e409, hx409_0, hx409_1, hx409_2, hx409_3⟩ := at_T73 HR0.out x9_1 p409 q409
         cases e409
         replace hx409_0 := cq_ HB hx409_0
         replace hx409_1 := cq_ HB hx409_1
         replace hx409_2 := cq_ HB hx409_2
         replace hx409_3 := cq_ HB hx409_3
         replace p409 := eq_true p409
         replace q409 := eq_true q409
         go_wp2_with (first | ((with_reducible refine gate_callee (f := 73) rfl ?_); refine goesL_ (some 25) rfl rfl Try.func73 (by kernel_rfl) rfl #[.pointer (some (ad409.add ((x9_1).toNat * 4))), .slice A1 l1.length c1] rfl ln_ ?_; (with_reducible refine (spec_l21End.calls k1 _ ((rd_T73 l0 x9_1).f0) ((rd_T73 l0 x9_1).f1) ((rd_T73 l0 x9_1).f2) ((rd_T73 l0 x9_1).f3) _ _ l1 t410 _ ?side1 ?side2 ?side3 ?side4 ?side5 ?side6 A8.out).mono ?_); (case side1 => exact kc_ (Kd.C_below HR1.out HB.out)); (case side2 => exact HC1.out); (case side3 => first | exact hx409_0 | (simpa using hx409_0) | (go_simp; done)); (case side4 => first | exact hx409_1 | (simpa using hx409_1) | (go_simp; done)); (case side5 => first | exact hx409_2 | (simpa using hx409_2) | (go_simp; done)); (case side6 => first | exact hx409_3 | (simpa using hx409_3) | (go_simp; done)); rintro e w13 ⟨rfl, hb⟩; refine ⟨_, rfl, ?_⟩; have n0_ := Aside0.mk (below_step hb_ hb); clear HB; have HB := n0_; clear n0_; (try clear hb); (try clear hb2); (try clear hk); (try clear hi)))
         go_roundg k1
         case measure => have := HK1.out; omega
         case rel => exact ⟨(x9_1), (t410), (wrap64 (x9_1 + 1)), (by first | rfl | (simp; done) | (simp [*]; done)), (by first | rfl | (simp; done) | (simp [*]; done)), (by first | rfl | (simp; done) | (simp [*]; done)), H', ⟨by have := HK1.out; omega⟩, ⟨hb_⟩⟩
        ·rw [if_neg c12] at H
         have c12b0 : decide (t410 < x8_1) = false := decide_eq_false c12
         clear c12
         have H' := Aside0.mk H
         clear H
         have p409 : 0 ≤ (x9_1 : Int) := od_
         have q409 : x9_1 < (l0.length : Int) := od_
         obtain ⟨ad409, e409, hx409_0, hx409_1, hx409_2, hx409_3⟩ := at_T73 HR0.out x9_1 p409 q409
         cases e409
         replace hx409_0 := cq_ HB hx409_0
         replace hx409_1 := cq_ HB hx409_1
         replace hx409_2 := cq_ HB hx409_2
         replace hx409_3 := cq_ HB hx409_3
         replace p409 := eq_true p409
         replace q409 := eq_true q409
         go_wp2_with (first | ((with_reducible refine gate_callee (f := 73) rfl ?_); refine goesL_ (some 25) rfl rfl Try.func73 (by kernel_rfl) rfl #[.pointer (some (ad409.add ((x9_1).toNat * 4))), .slice A1 l1.length c1] rfl ln_ ?_; (with_reducible refine (spec_l21End.calls k1 _ ((rd_T73 l0 x9_1).f0) ((rd_T73 l0 x9_1).f1) ((rd_T73 l0 x9_1).f2) ((rd_T73 l0 x9_1).f3) _ _ l1 t410 _ ?side1 ?side2 ?side3 ?side4 ?side5 ?side6 A8.out).mono ?_); (case side1 => exact kc_ (Kd.C_below HR1.out HB.out)); (case side2 => exact HC1.out); (case side3 => first | exact hx409_0 | (simpa using hx409_0) | (go_simp; done)); (case side4 => first | exact hx409_1 | (simpa using hx409_1) | (go_simp; done)); (case side5 => first | exact hx409_2 | (simpa using hx409_2) | (go_simp; done)); (case side6 => first | exact hx409_3 | (simpa using hx409_3) | (go_simp; done)); rintro e w14 ⟨rfl, hb⟩; refine ⟨_, rfl, ?_⟩; have n0_ := Aside0.mk (below_step hb_ hb); clear HB; have HB := n0_; clear n0_; (try clear hb); (try clear hb2); (try clear hk); (try clear hi)))
         go_roundg k1
         case measure => have := HK1.out; omega
         case rel => exact ⟨(x7_1), (x8_1), (wrap64 (x9_1 + 1)), (by first | rfl | (simp; done) | (simp [*]; done)), (by first | rfl | (simp; done) | (simp [*]; done)), (by first | rfl | (simp; done) | (simp [*]; done)), H', ⟨by have := HK1.out; omega⟩, ⟨hb_⟩⟩
      ·rw [if_neg c9] at H
       have c9b0 : decide (0 ≤ t410) = false := decide_eq_false c9
       clear c9
       have H' := Aside0.mk H
       clear H
       have p409 : 0 ≤ (x9_1 : Int) := od_
       have q409 : x9_1 < (l0.length : Int) := od_
       obtain ⟨ad409, e409, hx409_0, hx409_1, hx409_2, hx409_3⟩ := at_T73 HR0.out x9_1 p409 q409
       cases e409
       replace hx409_0 := cq_ HB hx409_0
       replace hx409_1 := cq_ HB hx409_1
       replace hx409_2 := cq_ HB hx409_2
       replace hx409_3 := cq_ HB hx409_3
       replace p409 := eq_true p409
       replace q409 := eq_true q409
       go_wp2_with (first | ((with_reducible refine gate_callee (f := 73) rfl ?_); refine goesL_ (some 25) rfl rfl Try.func73 (by kernel_rfl) rfl #[.pointer (some (ad409.add ((x9_1).toNat * 4))), .slice A1 l1.length c1] rfl ln_ ?_; (with_reducible refine (spec_l21End.calls k1 _ ((rd_T73 l0 x9_1).f0) ((rd_T73 l0 x9_1).f1) ((rd_T73 l0 x9_1).f2) ((rd_T73 l0 x9_1).f3) _ _ l1 t410 _ ?side1 ?side2 ?side3 ?side4 ?side5 ?side6 A8.out).mono ?_); (case side1 => exact kc_ (Kd.C_below HR1.out HB.out)); (case side2 => exact HC1.out); (case side3 => first | exact hx409_0 | (simpa using hx409_0) | (go_simp; done)); (case side4 => first | exact hx409_1 | (simpa using hx409_1) | (go_simp; done)); (case side5 => first | exact hx409_2 | (simpa using hx409_2) | (go_simp; done)); (case side6 => first | exact hx409_3 | (simpa using hx409_3) | (go_simp; done)); rintro e w15 ⟨rfl, hb⟩; refine ⟨_, rfl, ?_⟩; have n0_ := Aside0.mk (below_step hb_ hb); clear HB; have HB := n0_; clear n0_; (try clear hb); (try clear hb2); (try clear hk); (try clear hi)))
       go_roundg k1
       case measure => have := HK1.out; omega
       case rel => exact ⟨(x7_1), (x8_1), (wrap64 (x9_1 + 1)), (by first | rfl | (simp; done) | (simp [*]; done)), (by first | rfl | (simp; done) | (simp [*]; done)), (by first | rfl | (simp; done) | (simp [*]; done)), H', ⟨by have := HK1.out; omega⟩, ⟨hb_⟩⟩
     ·rw [if_neg c7] at H
      exact absurd H (by simp)
    ·rw [if_neg c6] at H
     have c6b0 : decide (x9_1 < (l0.length : Int)) = false := decide_eq_false c6
     clear c6
     by_cases c16 : x7_1 < 0
     ·rw [if_pos c16] at H
      have c16b0 : decide (x7_1 < 0) = true := decide_eq_true c16
      clear c16
      simp only [Option.some.injEq, Prod.mk.injEq] at H
      obtain ⟨rfl, rfl, rfl⟩ := H
      go_wp2
      go_ret3
      exact ⟨ew_, hb_⟩
     ·rw [if_neg c16] at H
      have c16b0 : decide (x7_1 < 0) = false := decide_eq_false c16
      clear c16
      by_cases c17 : 0 ≤ x7_1
      ·rw [if_pos c17] at H
       have c17b0 : decide (0 ≤ x7_1) = true := decide_eq_true c17
       clear c17
       by_cases c18 : x7_1 < (l0.length : Int)
       ·rw [if_pos c18] at H
        have c18b0 : decide (x7_1 < (l0.length : Int)) = true := decide_eq_true c18
        clear c18
        simp only [Option.some.injEq, Prod.mk.injEq] at H
        obtain ⟨rfl, rfl, rfl⟩ := H
        have p411 : 0 ≤ (x7_1 : Int) := od_
        have q411 : x7_1 < (l0.length : Int) := od_
        obtain ⟨ad411, e411, hx411_0, hx411_1, hx411_2, hx411_3⟩ := at_T73 HR0.out x7_1 p411 q411
        cases e411
        replace hx411_0 := cq_ HB hx411_0
        replace hx411_1 := cq_ HB hx411_1
        replace hx411_2 := cq_ HB hx411_2
        replace hx411_3 := cq_ HB hx411_3
        replace p411 := eq_true p411
        replace q411 := eq_true q411
        go_wp2
        go_ret3
        exact ⟨ew_, hb_⟩
       ·rw [if_neg c18] at H
        exact absurd H (by simp)
      ·rw [if_neg c17] at H
       exact absurd H (by simp)
 ·replace c4 := Bool.eq_false_iff.mpr c4
  subst c4
  have H1 : (some ((⟨#[]⟩ : ByteArray), 0, 1)) = some (r1, r2, r3) := by rw [if_neg (show ¬ (false = true) by decide)] at H; exact H
  clear H
  have H := H1
  clear H1
  simp only [Option.some.injEq, Prod.mk.injEq] at H
  obtain ⟨rfl, rfl, rfl⟩ := H
  go_enter Try.func33, Try.ntmps33
  go_wp2_with (first | ((with_reducible refine gate_callee (f := 63) rfl ?_); refine goesL_ (some 13) rfl rfl Try.func63 (by kernel_rfl) rfl #[.slice A0 l0.length c0, .slice A1 l1.length c1] rfl ln_ ?_; (with_reducible refine (spec_l21Checks.calls k _ _ l0 _ _ l1 false _ ?side1 ?side2 ?side3 ?side4 A3.out).mono ?_); (case side1 => exact kc_ HR0.out); (case side2 => exact HC0.out); (case side3 => exact kc_ HR1.out); (case side4 => exact HC1.out); rintro e w19 ⟨rfl, hb⟩; refine ⟨_, rfl, ?_⟩; have n0_ := Aside0.mk (below_step hb_ hb); clear HB; have HB := n0_; clear n0_; (try clear hb); (try clear hb2); (try clear hk); (try clear hi)))
  go_ret3
  exact ⟨ew_, hb_⟩

/-! ### impl_NextToFail: function 34 -/
def impl_NextToFail.l0 : Nat → List (S53) → ByteArray → Int → List (S73) → Int → Int → Option (ByteArray × Int × Int)
 | 0, _, _, _, _, _, _ => none
 | k + 1, x1, x8, x9, x19, x20, x21 => if x21 < x20 then (if 0 ≤ x21 then (if x21 < (x19.length : Int) then ((impl_dayOfEnd.f k ((rd_T73 x19 x21).f0) ((rd_T73 x19 x21).f1) ((rd_T73 x19 x21).f2) ((rd_T73 x19 x21).f3) x1).bind fun t421 => (if t421 ≥ 0 then (if x9 < 0 then (impl_NextToFail.l0 k x1 ((rd_T73 x19 x21).f0) t421 x19 x20 (wrap64 (x21 + 1))) else (if t421 < x9 then (impl_NextToFail.l0 k x1 ((rd_T73 x19 x21).f0) t421 x19 x20 (wrap64 (x21 + 1))) else (impl_NextToFail.l0 k x1 x8 x9 x19 x20 (wrap64 (x21 + 1))))) else (impl_NextToFail.l0 k x1 x8 x9 x19 x20 (wrap64 (x21 + 1))))) else (none)) else (none)) else (if x9 < 0 then (some ((⟨#[]⟩ : ByteArray), 0, 3)) else (some (x8, x9, 0)))
def impl_NextToFail.f (k : Nat) (l0 : List (S73)) (l1 : List (S53)) : Option (ByteArray × Int × Int) := (impl_gearCode.f k l0 l1 0).bind fun t418 => (if t418 = 0 then (impl_NextToFail.l0 k l1 (⟨#[]⟩ : ByteArray) (-1) l0 (l0.length : Int) 0) else (some ((⟨#[]⟩ : ByteArray), 0, t418)))
theorem impl_NextToFail.mono_l : ∀ k, (∀ y0 y1 y2 y3 y4 y5, LeO (impl_NextToFail.l0 k y0 y1 y2 y3 y4 y5) (impl_NextToFail.l0 (k + 1) y0 y1 y2 y3 y4 y5))
 | 0 => fun _ _ _ _ _ _ r h => by simp [impl_NextToFail.l0] at h
 | k + 1 => by
  have ih0 := impl_NextToFail.mono_l k
  ·intro y0 y1 y2 y3 y4 y5
   unfold impl_NextToFail.l0
   repeat' first
   | (with_reducible exact ih0 _ _ _ _ _ _)
   | (with_reducible exact impl_dayOfEnd.mono _ _ _ _ _ _)
   | (with_reducible exact impl_gearCode.mono _ _ _ _)
   | (with_reducible exact LeO.refl _)
   | (with_reducible exact LeO.none _)
   | (with_reducible refine LeO.ite ?_ ?_)
   | (with_reducible refine LeO.bind ?_ (fun _ => ?_))
   | exact ih0 _ _ _ _ _ _
   | exact impl_dayOfEnd.mono _ _ _ _ _ _
   | exact impl_gearCode.mono _ _ _ _
   | exact LeO.none _
   | refine LeO.ite ?_ ?_
   | refine LeO.bind ?_ (fun _ => ?_)
theorem impl_NextToFail.mono : ∀ a0 a1 k, LeO (impl_NextToFail.f k a0 a1) (impl_NextToFail.f (k + 1) a0 a1) := by
 intro a0 a1 k
 have ih0 := impl_NextToFail.mono_l k
 unfold impl_NextToFail.f
 repeat' first
   | (with_reducible exact ih0 _ _ _ _ _ _)
   | (with_reducible exact impl_dayOfEnd.mono _ _ _ _ _ _)
   | (with_reducible exact impl_gearCode.mono _ _ _ _)
   | (with_reducible exact LeO.refl _)
   | (with_reducible exact LeO.none _)
   | (with_reducible refine LeO.ite ?_ ?_)
   | (with_reducible refine LeO.bind ?_ (fun _ => ?_))
   | exact ih0 _ _ _ _ _ _
   | exact impl_dayOfEnd.mono _ _ _ _ _ _
   | exact impl_gearCode.mono _ _ _ _
   | exact LeO.none _
   | refine LeO.ite ?_ ?_
   | refine LeO.bind ?_ (fun _ => ?_)
set_option maxHeartbeats 8000000 in
set_option maxRecDepth 100000 in
theorem impl_NextToFail.calls (k : Nat) (A0 : Option Addr) (c0 : Nat) (l0 : List (S73)) (A1 : Option Addr) (c1 : Nat) (l1 : List (S53)) (r1 : ByteArray) (r2 : Int) (r3 : Int) (w : World) (hr0 : Kd.C k73 w A0 l0.length l0) (hc0 : l0.length ≤ c0) (hr1 : Kd.C k53 w A1 l1.length l1) (hc1 : l1.length ≤ c1) (h : impl_NextToFail.f k l0 l1 = some (r1, r2, r3)) :
  Calls Try.prog 34 #[.slice A0 l0.length c0, .slice A1 l1.length c1] w fun e w' => e = .returned (.tuple #[.string r1, .int .i64 r2, .int .i64 r3]) ∧ Below w.heap.size w w' := by
 have hu73 := Try.underlying73
 have HR0 := Aside0.mk hr0
 have HC0 := Aside0.mk hc0
 clear hr0 hc0
 have HR1 := Aside0.mk hr1
 have HC1 := Aside0.mk hc1
 clear hr1 hc1
 have HB := Aside0.mk (Below.refl w.heap.size w)
 have H : ((impl_gearCode.f k l0 l1 0).bind fun t418 => (if t418 = 0 then (impl_NextToFail.l0 k l1 (⟨#[]⟩ : ByteArray) (-1) l0 (l0.length : Int) 0) else (some ((⟨#[]⟩ : ByteArray), 0, t418)))) = some (r1, r2, r3) := h
 clear h
 replace H := Option.bind_eq_some_iff.mp H
 obtain ⟨t418, A30, H⟩ := H
 replace H : (if t418 = 0 then (impl_NextToFail.l0 k l1 (⟨#[]⟩ : ByteArray) (-1) l0 (l0.length : Int) 0) else (some ((⟨#[]⟩ : ByteArray), 0, t418))) = some (r1, r2, r3) := H
 have A3 := Aside0.mk A30
 clear A30
 by_cases c4 : t418 = 0
 ·rw [if_pos c4] at H
  have c4b0 : (t418 == 0) = true := beq_iff_eq.mpr c4
  have c4b1 : (t418 != 0) = false := bne_eq_false_iff_eq.mpr c4
  clear c4
  have H' := Aside0.mk H
  clear H
  go_enter Try.func34, Try.ntmps34
  go_wp2_with (first | ((with_reducible refine gate_callee (f := 71) rfl ?_); refine goesL_ (some 15) rfl rfl Try.func71 (by kernel_rfl) rfl #[.slice A0 l0.length c0, .slice A1 l1.length c1, .int .i64 0] rfl ln_ ?_; (with_reducible refine (impl_gearCode.calls k _ _ l0 _ _ l1 0 t418 _ ?side1 ?side2 ?side3 ?side4 A3.out).mono ?_); (case side1 => exact kc_ HR0.out); (case side2 => exact HC0.out); (case side3 => exact kc_ HR1.out); (case side4 => exact HC1.out); rintro e w5 ⟨rfl, hb⟩; refine ⟨_, rfl, ?_⟩; have n0_ := Aside0.mk (below_step hb_ hb); clear HB; have HB := n0_; clear n0_; (try clear hb); (try clear hb2); (try clear hk); (try clear hi)))
  go_loopg [8, 9, 21] k (fun kq v8 v9 v21 w' => ∃ (x8_1 : ByteArray) (x9_1 : Int) (x21_1 : Int), v8 = .string x8_1 ∧ v9 = .int .i64 x9_1 ∧ v21 = .int .i64 x21_1 ∧ Aside0 (impl_NextToFail.l0 kq l1 x8_1 x9_1 l0 (l0.length : Int) x21_1 = some (r1, r2, r3)) ∧ Aside0 (kq ≤ k) ∧ Aside0 (Below w.heap.size w w'))
  case atStart => exact ⟨((⟨#[]⟩ : ByteArray)), ((-1)), (0), (by first | rfl | (simp; done) | (simp [*]; done)), (by first | rfl | (simp; done) | (simp [*]; done)), (by first | rfl | (simp; done) | (simp [*]; done)), H', ⟨Nat.le_refl _⟩, ⟨hb_⟩⟩
  case round =>
   clear H'
   try clear c1
   try clear p2
   try clear c3
   try clear c4
   try clear c4b0
   try clear c4b1
   obtain ⟨x8_1, x9_1, x21_1, rfl, rfl, rfl, HA, HK1, HB⟩ := hrel
   cases gk with
   | zero => exact absurd HA.out (by simp [impl_NextToFail.l0])
   | succ k1 =>
    have H := HA.out
    clear HA
    simp only [impl_NextToFail.l0] at H
    by_cases c6 : x21_1 < (l0.length : Int)
    ·rw [if_pos c6] at H
     have c6b0 : decide (x21_1 < (l0.length : Int)) = true := decide_eq_true c6
     clear c6
     by_cases c7 : 0 ≤ x21_1
     ·rw [if_pos c7] at H
      have c7b0 : decide (0 ≤ x21_1) = true := decide_eq_true c7
      clear c7
      by_cases c8 : x21_1 < (l0.length : Int)
      ·rw [if_pos c8] at H
       have c8b0 : decide (x21_1 < (l0.length : Int)) = true := decide_eq_true c8
       clear c8
       replace H := Option.bind_eq_some_iff.mp H
       obtain ⟨t421, A90, H⟩ := H
       replace H : (if t421 ≥ 0 then (if x9_1 < 0 then (impl_NextToFail.l0 k1 l1 ((rd_T73 l0 x21_1).f0) t421 l0 (l0.length : Int) (wrap64 (x21_1 + 1))) else (if t421 < x9_1 then (impl_NextToFail.l0 k1 l1 ((rd_T73 l0 x21_1).f0) t421 l0 (l0.length : Int) (wrap64 (x21_1 + 1))) else (impl_NextToFail.l0 k1 l1 x8_1 x9_1 l0 (l0.length : Int) (wrap64 (x21_1 + 1))))) else (impl_NextToFail.l0 k1 l1 x8_1 x9_1 l0 (l0.length : Int) (wrap64 (x21_1 + 1)))) = some (r1, r2, r3) := H
       have A9 := Aside0.mk A90
       clear A90
       by_cases c10 : t421 ≥ 0
       ·rw [if_pos c10] at H
        have c10b0 : decide (0 ≤ t421) = true := decide_eq_true c10
        clear c10
        by_cases c11 : x9_1 < 0
        ·rw [if_pos c11] at H
         have c11b0 : decide (x9_1 < 0) = true := decide_eq_true c11
         clear c11
         have H' := Aside0.mk H
         clear H
         have p419 : 0 ≤ (x21_1 : Int) := od_
         have q419 : x21_1 < (l0.length : Int) := od_
         obtain ⟨ad419, e419, hx419_0, hx419_1, hx419_2, hx419_3⟩ := at_T73 HR0.out x21_1 p419 q419
         cases e419
         replace hx419_0 := cq_ HB hx419_0
         replace hx419_1 := cq_ HB hx419_1
         replace hx419_2 := cq_ HB hx419_2
         replace hx419_3 := cq_ HB hx419_3
         replace p419 := eq_true p419
         replace q419 := eq_true q419
         go_wp2_with (first | ((with_reducible refine gate_dst (N := 11) rfl ?_); refine box_event ?hg (N := 11) ?hd (cs := #[.string (⟨#[]⟩ : ByteArray), .int .i64 0, .int .i64 0, .int .i64 0]) (t := 73) ?hr ?_; (case hd => rfl); (case hg => rfl); (case hr => first | (go_simp; done) | (go_simp; rfl)); intro gb420 hg w12 hbox hb; have n0_ := Aside0.mk (below_step hb_ hb); have n1_ := Aside0.mk (hbox); have n2_ := Aside0.mk ((by rw [hg]; exact (below_size hb_) : w.heap.size ≤ gb420)); have n3_ := Aside0.mk ((by rw [hg]; exact (below_size hb_) : w.heap.size ≤ gb420)); clear HB; have HB := n0_; have BK420 := n1_; have GW420 := n2_; have GE420 := n3_; clear n0_ n1_ n2_ n3_; clear hb hbox hg; have hcz13_0 : w12.cell? ⟨gb420, 0, none⟩ = some (.string (⟨#[]⟩ : ByteArray)) := (blk_cell BK420.out 0).trans rfl; have hcz13_1 : w12.cell? ⟨gb420, 1, none⟩ = some (.int .i64 0) := (blk_cell BK420.out 1).trans rfl; have hcz13_2 : w12.cell? ⟨gb420, 2, none⟩ = some (.int .i64 0) := (blk_cell BK420.out 2).trans rfl; have hcz13_3 : w12.cell? ⟨gb420, 3, none⟩ = some (.int .i64 0) := (blk_cell BK420.out 3).trans rfl; have hfz13_0 := blk_frozen BK420.out 0; have hfz13_1 := blk_frozen BK420.out 1; have hfz13_2 := blk_frozen BK420.out 2; have hfz13_3 := blk_frozen BK420.out 3) | ((with_reducible refine gate_callee (f := 74) rfl ?_); refine goesL_ (some 27) rfl rfl Try.func74 (by kernel_rfl) rfl #[.agg #[.string ((rd_T73 l0 x21_1).f0), .int .i64 ((rd_T73 l0 x21_1).f1), .int .i64 ((rd_T73 l0 x21_1).f2), .int .i64 ((rd_T73 l0 x21_1).f3)], .slice A1 l1.length c1] rfl ln_ ?_; (with_reducible refine (impl_dayOfEnd.calls k1 ((rd_T73 l0 x21_1).f0) ((rd_T73 l0 x21_1).f1) ((rd_T73 l0 x21_1).f2) ((rd_T73 l0 x21_1).f3) _ _ l1 t421 _ ?side1 ?side2 A9.out).mono ?_); (case side1 => exact Kd.C_below HR1.out (hg_ GE420)); (case side2 => exact HC1.out); rintro e w14 ⟨rfl, hb⟩; refine ⟨_, rfl, ?_⟩; have n0_ := Aside0.mk (blk_below (g := gb420) (o := .cells #[.string ((rd_T73 l0 x21_1).f0), .int .i64 ((rd_T73 l0 x21_1).f1), .int .i64 ((rd_T73 l0 x21_1).f2), .int .i64 ((rd_T73 l0 x21_1).f3)] 73 (0, 0)) (by (with_reducible repeat (first | refine blk_drewN ?_ _ | refine blk_drew ?_ | refine blk_alloc ?_ _)); refine blk_put (cs := #[.string ((rd_T73 l0 x21_1).f0), .int .i64 ((rd_T73 l0 x21_1).f1), .int .i64 ((rd_T73 l0 x21_1).f2), .int .i64 0]) ?_ 3 _ rfl; (with_reducible repeat (first | refine blk_drewN ?_ _ | refine blk_drew ?_ | refine blk_alloc ?_ _)); refine blk_put (cs := #[.string ((rd_T73 l0 x21_1).f0), .int .i64 ((rd_T73 l0 x21_1).f1), .int .i64 0, .int .i64 0]) ?_ 2 _ rfl; (with_reducible repeat (first | refine blk_drewN ?_ _ | refine blk_drew ?_ | refine blk_alloc ?_ _)); refine blk_put (cs := #[.string ((rd_T73 l0 x21_1).f0), .int .i64 0, .int .i64 0, .int .i64 0]) ?_ 1 _ rfl; (with_reducible repeat (first | refine blk_drewN ?_ _ | refine blk_drew ?_ | refine blk_alloc ?_ _)); refine blk_put (cs := #[.string (⟨#[]⟩ : ByteArray), .int .i64 0, .int .i64 0, .int .i64 0]) ?_ 0 _ rfl; (with_reducible repeat (first | refine blk_drewN ?_ _ | refine blk_drew ?_ | refine blk_alloc ?_ _)); exact BK420.out) hb); have n1_ := Aside0.mk (below_step (hg_ GE420) hb); clear BK420; clear HB; have BK420 := n0_; have HB := n1_; clear n0_ n1_; (try clear hb); (try clear hb2); (try clear hk); (try clear hi); have hcz15_0 : w14.cell? ⟨gb420, 0, none⟩ = some (.string ((rd_T73 l0 x21_1).f0)) := (blk_cell BK420.out 0).trans rfl; have hcz15_1 : w14.cell? ⟨gb420, 1, none⟩ = some (.int .i64 ((rd_T73 l0 x21_1).f1)) := (blk_cell BK420.out 1).trans rfl; have hcz15_2 : w14.cell? ⟨gb420, 2, none⟩ = some (.int .i64 ((rd_T73 l0 x21_1).f2)) := (blk_cell BK420.out 2).trans rfl; have hcz15_3 : w14.cell? ⟨gb420, 3, none⟩ = some (.int .i64 ((rd_T73 l0 x21_1).f3)) := (blk_cell BK420.out 3).trans rfl; have hfz15_0 := blk_frozen BK420.out 0; have hfz15_1 := blk_frozen BK420.out 1; have hfz15_2 := blk_frozen BK420.out 2; have hfz15_3 := blk_frozen BK420.out 3))
         go_roundg k1
         case measure => have := HK1.out; omega
         case rel => exact ⟨((rd_T73 l0 x21_1).f0), (t421), (wrap64 (x21_1 + 1)), (by first | rfl | (simp; done) | (simp [*]; done)), (by first | rfl | (simp; done) | (simp [*]; done)), (by first | rfl | (simp; done) | (simp [*]; done)), H', ⟨by have := HK1.out; omega⟩, ⟨(hg_ GE420)⟩⟩
        ·rw [if_neg c11] at H
         have c11b0 : decide (x9_1 < 0) = false := decide_eq_false c11
         clear c11
         by_cases c16 : t421 < x9_1
         ·rw [if_pos c16] at H
          have c16b0 : decide (t421 < x9_1) = true := decide_eq_true c16
          clear c16
          have H' := Aside0.mk H
          clear H
          have p419 : 0 ≤ (x21_1 : Int) := od_
          have q419 : x21_1 < (l0.length : Int) := od_
          obtain ⟨ad419, e419, hx419_0, hx419_1, hx419_2, hx419_3⟩ := at_T73 HR0.out x21_1 p419 q419
          cases e419
          replace hx419_0 := cq_ HB hx419_0
          replace hx419_1 := cq_ HB hx419_1
          replace hx419_2 := cq_ HB hx419_2
          replace hx419_3 := cq_ HB hx419_3
          replace p419 := eq_true p419
          replace q419 := eq_true q419
          go_wp2_with (first | ((with_reducible refine gate_dst (N := 11) rfl ?_); refine box_event ?hg (N := 11) ?hd (cs := #[.string (⟨#[]⟩ : ByteArray), .int .i64 0, .int .i64 0, .int .i64 0]) (t := 73) ?hr ?_; (case hd => rfl); (case hg => rfl); (case hr => first | (go_simp; done) | (go_simp; rfl)); intro gb420 hg w17 hbox hb; have n0_ := Aside0.mk (below_step hb_ hb); have n1_ := Aside0.mk (hbox); have n2_ := Aside0.mk ((by rw [hg]; exact (below_size hb_) : w.heap.size ≤ gb420)); have n3_ := Aside0.mk ((by rw [hg]; exact (below_size hb_) : w.heap.size ≤ gb420)); clear HB; have HB := n0_; have BK420 := n1_; have GW420 := n2_; have GE420 := n3_; clear n0_ n1_ n2_ n3_; clear hb hbox hg; have hcz18_0 : w17.cell? ⟨gb420, 0, none⟩ = some (.string (⟨#[]⟩ : ByteArray)) := (blk_cell BK420.out 0).trans rfl; have hcz18_1 : w17.cell? ⟨gb420, 1, none⟩ = some (.int .i64 0) := (blk_cell BK420.out 1).trans rfl; have hcz18_2 : w17.cell? ⟨gb420, 2, none⟩ = some (.int .i64 0) := (blk_cell BK420.out 2).trans rfl; have hcz18_3 : w17.cell? ⟨gb420, 3, none⟩ = some (.int .i64 0) := (blk_cell BK420.out 3).trans rfl; have hfz18_0 := blk_frozen BK420.out 0; have hfz18_1 := blk_frozen BK420.out 1; have hfz18_2 := blk_frozen BK420.out 2; have hfz18_3 := blk_frozen BK420.out 3) | ((with_reducible refine gate_callee (f := 74) rfl ?_); refine goesL_ (some 27) rfl rfl Try.func74 (by kernel_rfl) rfl #[.agg #[.string ((rd_T73 l0 x21_1).f0), .int .i64 ((rd_T73 l0 x21_1).f1), .int .i64 ((rd_T73 l0 x21_1).f2), .int .i64 ((rd_T73 l0 x21_1).f3)], .slice A1 l1.length c1] rfl ln_ ?_; (with_reducible refine (impl_dayOfEnd.calls k1 ((rd_T73 l0 x21_1).f0) ((rd_T73 l0 x21_1).f1) ((rd_T73 l0 x21_1).f2) ((rd_T73 l0 x21_1).f3) _ _ l1 t421 _ ?side1 ?side2 A9.out).mono ?_); (case side1 => exact Kd.C_below HR1.out (hg_ GE420)); (case side2 => exact HC1.out); rintro e w19 ⟨rfl, hb⟩; refine ⟨_, rfl, ?_⟩; have n0_ := Aside0.mk (blk_below (g := gb420) (o := .cells #[.string ((rd_T73 l0 x21_1).f0), .int .i64 ((rd_T73 l0 x21_1).f1), .int .i64 ((rd_T73 l0 x21_1).f2), .int .i64 ((rd_T73 l0 x21_1).f3)] 73 (0, 0)) (by (with_reducible repeat (first | refine blk_drewN ?_ _ | refine blk_drew ?_ | refine blk_alloc ?_ _)); refine blk_put (cs := #[.string ((rd_T73 l0 x21_1).f0), .int .i64 ((rd_T73 l0 x21_1).f1), .int .i64 ((rd_T73 l0 x21_1).f2), .int .i64 0]) ?_ 3 _ rfl; (with_reducible repeat (first | refine blk_drewN ?_ _ | refine blk_drew ?_ | refine blk_alloc ?_ _)); refine blk_put (cs := #[.string ((rd_T73 l0 x21_1).f0), .int .i64 ((rd_T73 l0 x21_1).f1), .int .i64 0, .int .i64 0]) ?_ 2 _ rfl; (with_reducible repeat (first | refine blk_drewN ?_ _ | refine blk_drew ?_ | refine blk_alloc ?_ _)); refine blk_put (cs := #[.string ((rd_T73 l0 x21_1).f0), .int .i64 0, .int .i64 0, .int .i64 0]) ?_ 1 _ rfl; (with_reducible repeat (first | refine blk_drewN ?_ _ | refine blk_drew ?_ | refine blk_alloc ?_ _)); refine blk_put (cs := #[.string (⟨#[]⟩ : ByteArray), .int .i64 0, .int .i64 0, .int .i64 0]) ?_ 0 _ rfl; (with_reducible repeat (first | refine blk_drewN ?_ _ | refine blk_drew ?_ | refine blk_alloc ?_ _)); exact BK420.out) hb); have n1_ := Aside0.mk (below_step (hg_ GE420) hb); clear BK420; clear HB; have BK420 := n0_; have HB := n1_; clear n0_ n1_; (try clear hb); (try clear hb2); (try clear hk); (try clear hi); have hcz20_0 : w19.cell? ⟨gb420, 0, none⟩ = some (.string ((rd_T73 l0 x21_1).f0)) := (blk_cell BK420.out 0).trans rfl; have hcz20_1 : w19.cell? ⟨gb420, 1, none⟩ = some (.int .i64 ((rd_T73 l0 x21_1).f1)) := (blk_cell BK420.out 1).trans rfl; have hcz20_2 : w19.cell? ⟨gb420, 2, none⟩ = some (.int .i64 ((rd_T73 l0 x21_1).f2)) := (blk_cell BK420.out 2).trans rfl; have hcz20_3 : w19.cell? ⟨gb420, 3, none⟩ = some (.int .i64 ((rd_T73 l0 x21_1).f3)) := (blk_cell BK420.out 3).trans rfl; have hfz20_0 := blk_frozen BK420.out 0; have hfz20_1 := blk_frozen BK420.out 1; have hfz20_2 := blk_frozen BK420.out 2; have hfz20_3 := blk_frozen BK420.out 3))
          go_roundg k1
          case measure => have := HK1.out; omega
          case rel => exact ⟨((rd_T73 l0 x21_1).f0), (t421), (wrap64 (x21_1 + 1)), (by first | rfl | (simp; done) | (simp [*]; done)), (by first | rfl | (simp; done) | (simp [*]; done)), (by first | rfl | (simp; done) | (simp [*]; done)), H', ⟨by have := HK1.out; omega⟩, ⟨(hg_ GE420)⟩⟩
         ·rw [if_neg c16] at H
          have c16b0 : decide (t421 < x9_1) = false := decide_eq_false c16
          clear c16
          have H' := Aside0.mk H
          clear H
          have p419 : 0 ≤ (x21_1 : Int) := od_
          have q419 : x21_1 < (l0.length : Int) := od_
          obtain ⟨ad419, e419, hx419_0, hx419_1, hx419_2, hx419_3⟩ := at_T73 HR0.out x21_1 p419 q419
          cases e419
          replace hx419_0 := cq_ HB hx419_0
          replace hx419_1 := cq_ HB hx419_1
          replace hx419_2 := cq_ HB hx419_2
          replace hx419_3 := cq_ HB hx419_3
          replace p419 := eq_true p419
          replace q419 := eq_true q419
          go_wp2_with (first | ((with_reducible refine gate_dst (N := 11) rfl ?_); refine box_event ?hg (N := 11) ?hd (cs := #[.string (⟨#[]⟩ : ByteArray), .int .i64 0, .int .i64 0, .int .i64 0]) (t := 73) ?hr ?_; (case hd => rfl); (case hg => rfl); (case hr => first | (go_simp; done) | (go_simp; rfl)); intro gb420 hg w21 hbox hb; have n0_ := Aside0.mk (below_step hb_ hb); have n1_ := Aside0.mk (hbox); have n2_ := Aside0.mk ((by rw [hg]; exact (below_size hb_) : w.heap.size ≤ gb420)); have n3_ := Aside0.mk ((by rw [hg]; exact (below_size hb_) : w.heap.size ≤ gb420)); clear HB; have HB := n0_; have BK420 := n1_; have GW420 := n2_; have GE420 := n3_; clear n0_ n1_ n2_ n3_; clear hb hbox hg; have hcz22_0 : w21.cell? ⟨gb420, 0, none⟩ = some (.string (⟨#[]⟩ : ByteArray)) := (blk_cell BK420.out 0).trans rfl; have hcz22_1 : w21.cell? ⟨gb420, 1, none⟩ = some (.int .i64 0) := (blk_cell BK420.out 1).trans rfl; have hcz22_2 : w21.cell? ⟨gb420, 2, none⟩ = some (.int .i64 0) := (blk_cell BK420.out 2).trans rfl; have hcz22_3 : w21.cell? ⟨gb420, 3, none⟩ = some (.int .i64 0) := (blk_cell BK420.out 3).trans rfl; have hfz22_0 := blk_frozen BK420.out 0; have hfz22_1 := blk_frozen BK420.out 1; have hfz22_2 := blk_frozen BK420.out 2; have hfz22_3 := blk_frozen BK420.out 3) | ((with_reducible refine gate_callee (f := 74) rfl ?_); refine goesL_ (some 27) rfl rfl Try.func74 (by kernel_rfl) rfl #[.agg #[.string ((rd_T73 l0 x21_1).f0), .int .i64 ((rd_T73 l0 x21_1).f1), .int .i64 ((rd_T73 l0 x21_1).f2), .int .i64 ((rd_T73 l0 x21_1).f3)], .slice A1 l1.length c1] rfl ln_ ?_; (with_reducible refine (impl_dayOfEnd.calls k1 ((rd_T73 l0 x21_1).f0) ((rd_T73 l0 x21_1).f1) ((rd_T73 l0 x21_1).f2) ((rd_T73 l0 x21_1).f3) _ _ l1 t421 _ ?side1 ?side2 A9.out).mono ?_); (case side1 => exact Kd.C_below HR1.out (hg_ GE420)); (case side2 => exact HC1.out); rintro e w23 ⟨rfl, hb⟩; refine ⟨_, rfl, ?_⟩; have n0_ := Aside0.mk (blk_below (g := gb420) (o := .cells #[.string ((rd_T73 l0 x21_1).f0), .int .i64 ((rd_T73 l0 x21_1).f1), .int .i64 ((rd_T73 l0 x21_1).f2), .int .i64 ((rd_T73 l0 x21_1).f3)] 73 (0, 0)) (by (with_reducible repeat (first | refine blk_drewN ?_ _ | refine blk_drew ?_ | refine blk_alloc ?_ _)); refine blk_put (cs := #[.string ((rd_T73 l0 x21_1).f0), .int .i64 ((rd_T73 l0 x21_1).f1), .int .i64 ((rd_T73 l0 x21_1).f2), .int .i64 0]) ?_ 3 _ rfl; (with_reducible repeat (first | refine blk_drewN ?_ _ | refine blk_drew ?_ | refine blk_alloc ?_ _)); refine blk_put (cs := #[.string ((rd_T73 l0 x21_1).f0), .int .i64 ((rd_T73 l0 x21_1).f1), .int .i64 0, .int .i64 0]) ?_ 2 _ rfl; (with_reducible repeat (first | refine blk_drewN ?_ _ | refine blk_drew ?_ | refine blk_alloc ?_ _)); refine blk_put (cs := #[.string ((rd_T73 l0 x21_1).f0), .int .i64 0, .int .i64 0, .int .i64 0]) ?_ 1 _ rfl; (with_reducible repeat (first | refine blk_drewN ?_ _ | refine blk_drew ?_ | refine blk_alloc ?_ _)); refine blk_put (cs := #[.string (⟨#[]⟩ : ByteArray), .int .i64 0, .int .i64 0, .int .i64 0]) ?_ 0 _ rfl; (with_reducible repeat (first | refine blk_drewN ?_ _ | refine blk_drew ?_ | refine blk_alloc ?_ _)); exact BK420.out) hb); have n1_ := Aside0.mk (below_step (hg_ GE420) hb); clear BK420; clear HB; have BK420 := n0_; have HB := n1_; clear n0_ n1_; (try clear hb); (try clear hb2); (try clear hk); (try clear hi)))
          go_roundg k1
          case measure => have := HK1.out; omega
          case rel => exact ⟨(x8_1), (x9_1), (wrap64 (x21_1 + 1)), (by first | rfl | (simp; done) | (simp [*]; done)), (by first | rfl | (simp; done) | (simp [*]; done)), (by first | rfl | (simp; done) | (simp [*]; done)), H', ⟨by have := HK1.out; omega⟩, ⟨(hg_ GE420)⟩⟩
       ·rw [if_neg c10] at H
        have c10b0 : decide (0 ≤ t421) = false := decide_eq_false c10
        clear c10
        have H' := Aside0.mk H
        clear H
        have p419 : 0 ≤ (x21_1 : Int) := od_
        have q419 : x21_1 < (l0.length : Int) := od_
        obtain ⟨ad419, e419, hx419_0, hx419_1, hx419_2, hx419_3⟩ := at_T73 HR0.out x21_1 p419 q419
        cases e419
        replace hx419_0 := cq_ HB hx419_0
        replace hx419_1 := cq_ HB hx419_1
        replace hx419_2 := cq_ HB hx419_2
        replace hx419_3 := cq_ HB hx419_3
        replace p419 := eq_true p419
        replace q419 := eq_true q419
        go_wp2_with (first | ((with_reducible refine gate_dst (N := 11) rfl ?_); refine box_event ?hg (N := 11) ?hd (cs := #[.string (⟨#[]⟩ : ByteArray), .int .i64 0, .int .i64 0, .int .i64 0]) (t := 73) ?hr ?_; (case hd => rfl); (case hg => rfl); (case hr => first | (go_simp; done) | (go_simp; rfl)); intro gb420 hg w24 hbox hb; have n0_ := Aside0.mk (below_step hb_ hb); have n1_ := Aside0.mk (hbox); have n2_ := Aside0.mk ((by rw [hg]; exact (below_size hb_) : w.heap.size ≤ gb420)); have n3_ := Aside0.mk ((by rw [hg]; exact (below_size hb_) : w.heap.size ≤ gb420)); clear HB; have HB := n0_; have BK420 := n1_; have GW420 := n2_; have GE420 := n3_; clear n0_ n1_ n2_ n3_; clear hb hbox hg; have hcz25_0 : w24.cell? ⟨gb420, 0, none⟩ = some (.string (⟨#[]⟩ : ByteArray)) := (blk_cell BK420.out 0).trans rfl; have hcz25_1 : w24.cell? ⟨gb420, 1, none⟩ = some (.int .i64 0) := (blk_cell BK420.out 1).trans rfl; have hcz25_2 : w24.cell? ⟨gb420, 2, none⟩ = some (.int .i64 0) := (blk_cell BK420.out 2).trans rfl; have hcz25_3 : w24.cell? ⟨gb420, 3, none⟩ = some (.int .i64 0) := (blk_cell BK420.out 3).trans rfl; have hfz25_0 := blk_frozen BK420.out 0; have hfz25_1 := blk_frozen BK420.out 1; have hfz25_2 := blk_frozen BK420.out 2; have hfz25_3 := blk_frozen BK420.out 3) | ((with_reducible refine gate_callee (f := 74) rfl ?_); refine goesL_ (some 27) rfl rfl Try.func74 (by kernel_rfl) rfl #[.agg #[.string ((rd_T73 l0 x21_1).f0), .int .i64 ((rd_T73 l0 x21_1).f1), .int .i64 ((rd_T73 l0 x21_1).f2), .int .i64 ((rd_T73 l0 x21_1).f3)], .slice A1 l1.length c1] rfl ln_ ?_; (with_reducible refine (impl_dayOfEnd.calls k1 ((rd_T73 l0 x21_1).f0) ((rd_T73 l0 x21_1).f1) ((rd_T73 l0 x21_1).f2) ((rd_T73 l0 x21_1).f3) _ _ l1 t421 _ ?side1 ?side2 A9.out).mono ?_); (case side1 => exact Kd.C_below HR1.out (hg_ GE420)); (case side2 => exact HC1.out); rintro e w26 ⟨rfl, hb⟩; refine ⟨_, rfl, ?_⟩; have n0_ := Aside0.mk (blk_below (g := gb420) (o := .cells #[.string ((rd_T73 l0 x21_1).f0), .int .i64 ((rd_T73 l0 x21_1).f1), .int .i64 ((rd_T73 l0 x21_1).f2), .int .i64 ((rd_T73 l0 x21_1).f3)] 73 (0, 0)) (by (with_reducible repeat (first | refine blk_drewN ?_ _ | refine blk_drew ?_ | refine blk_alloc ?_ _)); refine blk_put (cs := #[.string ((rd_T73 l0 x21_1).f0), .int .i64 ((rd_T73 l0 x21_1).f1), .int .i64 ((rd_T73 l0 x21_1).f2), .int .i64 0]) ?_ 3 _ rfl; (with_reducible repeat (first | refine blk_drewN ?_ _ | refine blk_drew ?_ | refine blk_alloc ?_ _)); refine blk_put (cs := #[.string ((rd_T73 l0 x21_1).f0), .int .i64 ((rd_T73 l0 x21_1).f1), .int .i64 0, .int .i64 0]) ?_ 2 _ rfl; (with_reducible repeat (first | refine blk_drewN ?_ _ | refine blk_drew ?_ | refine blk_alloc ?_ _)); refine blk_put (cs := #[.string ((rd_T73 l0 x21_1).f0), .int .i64 0, .int .i64 0, .int .i64 0]) ?_ 1 _ rfl; (with_reducible repeat (first | refine blk_drewN ?_ _ | refine blk_drew ?_ | refine blk_alloc ?_ _)); refine blk_put (cs := #[.string (⟨#[]⟩ : ByteArray), .int .i64 0, .int .i64 0, .int .i64 0]) ?_ 0 _ rfl; (with_reducible repeat (first | refine blk_drewN ?_ _ | refine blk_drew ?_ | refine blk_alloc ?_ _)); exact BK420.out) hb); have n1_ := Aside0.mk (below_step (hg_ GE420) hb); clear BK420; clear HB; have BK420 := n0_; have HB := n1_; clear n0_ n1_; (try clear hb); (try clear hb2); (try clear hk); (try clear hi)))
        go_roundg k1
        case measure => have := HK1.out; omega
        case rel => exact ⟨(x8_1), (x9_1), (wrap64 (x21_1 + 1)), (by first | rfl | (simp; done) | (simp [*]; done)), (by first | rfl | (simp; done) | (simp [*]; done)), (by first | rfl | (simp; done) | (simp [*]; done)), H', ⟨by have := HK1.out; omega⟩, ⟨(hg_ GE420)⟩⟩
      ·rw [if_neg c8] at H
       exact absurd H (by simp)
     ·rw [if_neg c7] at H
      exact absurd H (by simp)
    ·rw [if_neg c6] at H
     have c6b0 : decide (x21_1 < (l0.length : Int)) = false := decide_eq_false c6
     clear c6
     by_cases c27 : x9_1 < 0
     ·rw [if_pos c27] at H
      have c27b0 : decide (x9_1 < 0) = true := decide_eq_true c27
      clear c27
      simp only [Option.some.injEq, Prod.mk.injEq] at H
      obtain ⟨rfl, rfl, rfl⟩ := H
      go_wp2
      go_ret3
      exact ⟨ew_, hb_⟩
     ·rw [if_neg c27] at H
      have c27b0 : decide (x9_1 < 0) = false := decide_eq_false c27
      clear c27
      simp only [Option.some.injEq, Prod.mk.injEq] at H
      obtain ⟨rfl, rfl, rfl⟩ := H
      go_wp2
      go_ret3
      exact ⟨ew_, hb_⟩
 ·rw [if_neg c4] at H
  have c4b0 : (t418 == 0) = false := beq_eq_false_iff_ne.mpr c4
  have c4b1 : (t418 != 0) = true := bne_iff_ne.mpr c4
  simp only [Option.some.injEq, Prod.mk.injEq] at H
  obtain ⟨rfl, rfl, rfl⟩ := H
  go_enter Try.func34, Try.ntmps34
  go_wp2_with (first | ((with_reducible refine gate_callee (f := 71) rfl ?_); refine goesL_ (some 15) rfl rfl Try.func71 (by kernel_rfl) rfl #[.slice A0 l0.length c0, .slice A1 l1.length c1, .int .i64 0] rfl ln_ ?_; (with_reducible refine (impl_gearCode.calls k _ _ l0 _ _ l1 0 t418 _ ?side1 ?side2 ?side3 ?side4 A3.out).mono ?_); (case side1 => exact kc_ HR0.out); (case side2 => exact HC0.out); (case side3 => exact kc_ HR1.out); (case side4 => exact HC1.out); rintro e w28 ⟨rfl, hb⟩; refine ⟨_, rfl, ?_⟩; have n0_ := Aside0.mk (below_step hb_ hb); clear HB; have HB := n0_; clear n0_; (try clear hb); (try clear hb2); (try clear hk); (try clear hi)))
  go_ret3
  exact ⟨ew_, hb_⟩

/-! ### laws_FnExactNextToFail: function 8 -/
def laws_FnExactNextToFail.j0 : Nat → List (S72) → List (S49) → List (S73) → List (S53) → Bool → Option (Bool)
 | 0, _, _, _, _, _ => none
 | k + 1, x0, x1, x9, x10, x56 => if x56 = true then (some false) else ((laws_toGearS.f k x0).bind fun t442 => ((laws_eqGearS.f k x9 t442).bind fun t445 => (if t445 = true then ((laws_toCheckS.f k x1).bind fun t446 => ((laws_eqCheckS.f k x10 t446).bind fun t449 => (if t449 = true then (some true) else (some false)))) else (some false))))
def laws_FnExactNextToFail.f (k : Nat) (l0 : List (S72)) (l1 : List (S49)) : Option (Bool) := (laws_szGearS.f k l0 1048576).bind fun t422 => (if t422 < 0 then (some true) else ((laws_szCheckS.f k l1 t422).bind fun t423 => (if t423 < 0 then (some true) else ((laws_toGearS.f k l0).bind fun t424 => ((laws_toCheckS.f k l1).bind fun t427 => ((spec_NextToFail.f k t424 t427).bind fun bt430 => ((laws_toGearS.f k l0).bind fun t433 => ((laws_toCheckS.f k l1).bind fun t436 => ((impl_NextToFail.f k t433 t436).bind fun bt439 => (if bt439.1.toList = bt430.1.toList then (if bt439.2.1 = bt430.2.1 then (laws_FnExactNextToFail.j0 k l0 l1 t433 t436 (bt439.2.2 != bt430.2.2)) else (laws_FnExactNextToFail.j0 k l0 l1 t433 t436 true)) else (laws_FnExactNextToFail.j0 k l0 l1 t433 t436 true)))))))))))
theorem laws_FnExactNextToFail.mono_l : ∀ k, (∀ y0 y1 y2 y3 y4, LeO (laws_FnExactNextToFail.j0 k y0 y1 y2 y3 y4) (laws_FnExactNextToFail.j0 (k + 1) y0 y1 y2 y3 y4))
 | 0 => fun _ _ _ _ _ r h => by simp [laws_FnExactNextToFail.j0] at h
 | k + 1 => by
  have ih0 := laws_FnExactNextToFail.mono_l k
  ·intro y0 y1 y2 y3 y4
   unfold laws_FnExactNextToFail.j0
   repeat' first
   | (with_reducible exact ih0 _ _ _ _ _)
   | (with_reducible exact impl_NextToFail.mono _ _ _)
   | (with_reducible exact laws_eqCheckS.mono _ _ _)
   | (with_reducible exact laws_eqGearS.mono _ _ _)
   | (with_reducible exact laws_szCheckS.mono _ _ _)
   | (with_reducible exact laws_szGearS.mono _ _ _)
   | (with_reducible exact laws_toCheckS.mono _ _)
   | (with_reducible exact laws_toGearS.mono _ _)
   | (with_reducible exact spec_NextToFail.mono _ _ _)
   | (with_reducible exact LeO.refl _)
   | (with_reducible exact LeO.none _)
   | (with_reducible refine LeO.ite ?_ ?_)
   | (with_reducible refine LeO.bind ?_ (fun _ => ?_))
   | exact ih0 _ _ _ _ _
   | exact impl_NextToFail.mono _ _ _
   | exact laws_eqCheckS.mono _ _ _
   | exact laws_eqGearS.mono _ _ _
   | exact laws_szCheckS.mono _ _ _
   | exact laws_szGearS.mono _ _ _
   | exact laws_toCheckS.mono _ _
   | exact laws_toGearS.mono _ _
   | exact spec_NextToFail.mono _ _ _
   | exact LeO.none _
   | refine LeO.ite ?_ ?_
   | refine LeO.bind ?_ (fun _ => ?_)
theorem laws_FnExactNextToFail.mono : ∀ a0 a1 k, LeO (laws_FnExactNextToFail.f k a0 a1) (laws_FnExactNextToFail.f (k + 1) a0 a1) := by
 intro a0 a1 k
 have ih0 := laws_FnExactNextToFail.mono_l k
 unfold laws_FnExactNextToFail.f
 repeat' first
   | (with_reducible exact ih0 _ _ _ _ _)
   | (with_reducible exact impl_NextToFail.mono _ _ _)
   | (with_reducible exact laws_eqCheckS.mono _ _ _)
   | (with_reducible exact laws_eqGearS.mono _ _ _)
   | (with_reducible exact laws_szCheckS.mono _ _ _)
   | (with_reducible exact laws_szGearS.mono _ _ _)
   | (with_reducible exact laws_toCheckS.mono _ _)
   | (with_reducible exact laws_toGearS.mono _ _)
   | (with_reducible exact spec_NextToFail.mono _ _ _)
   | (with_reducible exact LeO.refl _)
   | (with_reducible exact LeO.none _)
   | (with_reducible refine LeO.ite ?_ ?_)
   | (with_reducible refine LeO.bind ?_ (fun _ => ?_))
   | exact ih0 _ _ _ _ _
   | exact impl_NextToFail.mono _ _ _
   | exact laws_eqCheckS.mono _ _ _
   | exact laws_eqGearS.mono _ _ _
   | exact laws_szCheckS.mono _ _ _
   | exact laws_szGearS.mono _ _ _
   | exact laws_toCheckS.mono _ _
   | exact laws_toGearS.mono _ _
   | exact spec_NextToFail.mono _ _ _
   | exact LeO.none _
   | refine LeO.ite ?_ ?_
   | refine LeO.bind ?_ (fun _ => ?_)
set_option maxHeartbeats 8000000 in
set_option maxRecDepth 100000 in
theorem laws_FnExactNextToFail.calls (k : Nat) (A0 : Option Addr) (c0 : Nat) (l0 : List (S72)) (A1 : Option Addr) (c1 : Nat) (l1 : List (S49)) (r : Bool) (w : World) (hr0 : Kd.C k72 w A0 l0.length l0) (hc0 : l0.length ≤ c0) (hr1 : Kd.C k49 w A1 l1.length l1) (hc1 : l1.length ≤ c1) (h : laws_FnExactNextToFail.f k l0 l1 = some r) :
  Calls Try.prog 8 #[.slice A0 l0.length c0, .slice A1 l1.length c1] w fun e w' => e = .returned (.bool r) ∧ Below w.heap.size w w' := by
 have HR0 := Aside0.mk hr0
 have HC0 := Aside0.mk hc0
 clear hr0 hc0
 have HR1 := Aside0.mk hr1
 have HC1 := Aside0.mk hc1
 clear hr1 hc1
 have HB := Aside0.mk (Below.refl w.heap.size w)
 have H : ((laws_szGearS.f k l0 1048576).bind fun t422 => (if t422 < 0 then (some true) else ((laws_szCheckS.f k l1 t422).bind fun t423 => (if t423 < 0 then (some true) else ((laws_toGearS.f k l0).bind fun t424 => ((laws_toCheckS.f k l1).bind fun t427 => ((spec_NextToFail.f k t424 t427).bind fun bt430 => ((laws_toGearS.f k l0).bind fun t433 => ((laws_toCheckS.f k l1).bind fun t436 => ((impl_NextToFail.f k t433 t436).bind fun bt439 => (if bt439.1.toList = bt430.1.toList then (if bt439.2.1 = bt430.2.1 then (laws_FnExactNextToFail.j0 k l0 l1 t433 t436 (bt439.2.2 != bt430.2.2)) else (laws_FnExactNextToFail.j0 k l0 l1 t433 t436 true)) else (laws_FnExactNextToFail.j0 k l0 l1 t433 t436 true)))))))))))) = some r := h
 clear h
 replace H := Option.bind_eq_some_iff.mp H
 obtain ⟨t422, A30, H⟩ := H
 replace H : (if t422 < 0 then (some true) else ((laws_szCheckS.f k l1 t422).bind fun t423 => (if t423 < 0 then (some true) else ((laws_toGearS.f k l0).bind fun t424 => ((laws_toCheckS.f k l1).bind fun t427 => ((spec_NextToFail.f k t424 t427).bind fun bt430 => ((laws_toGearS.f k l0).bind fun t433 => ((laws_toCheckS.f k l1).bind fun t436 => ((impl_NextToFail.f k t433 t436).bind fun bt439 => (if bt439.1.toList = bt430.1.toList then (if bt439.2.1 = bt430.2.1 then (laws_FnExactNextToFail.j0 k l0 l1 t433 t436 (bt439.2.2 != bt430.2.2)) else (laws_FnExactNextToFail.j0 k l0 l1 t433 t436 true)) else (laws_FnExactNextToFail.j0 k l0 l1 t433 t436 true))))))))))) = some r := H
 have A3 := Aside0.mk A30
 clear A30
 by_cases c4 : t422 < 0
 ·rw [if_pos c4] at H
  have c4b0 : decide (t422 < 0) = true := decide_eq_true c4
  clear c4
  obtain rfl := Option.some.inj H
  go_enter Try.func8, Try.ntmps8
  go_wp2_with (first | ((with_reducible refine gate_callee (f := 20) rfl ?_); refine goesL_ (some 16) rfl rfl Try.func20 (by kernel_rfl) rfl #[.slice A0 l0.length c0, .int .i64 1048576] rfl ln_ ?_; (with_reducible refine (laws_szGearS.calls k _ _ l0 1048576 t422 _ ?side1 ?side2 A3.out).mono ?_); (case side1 => exact kc_ HR0.out); (case side2 => exact HC0.out); rintro e w5 ⟨rfl, hb⟩; refine ⟨_, rfl, ?_⟩; have n0_ := Aside0.mk (below_step hb_ hb); clear HB; have HB := n0_; clear n0_; (try clear hb); (try clear hb2); (try clear hk); (try clear hi)))
  go_ret
  exact ⟨ew_, hb_⟩
 ·rw [if_neg c4] at H
  have c4b0 : decide (t422 < 0) = false := decide_eq_false c4
  clear c4
  replace H := Option.bind_eq_some_iff.mp H
  obtain ⟨t423, A60, H⟩ := H
  replace H : (if t423 < 0 then (some true) else ((laws_toGearS.f k l0).bind fun t424 => ((laws_toCheckS.f k l1).bind fun t427 => ((spec_NextToFail.f k t424 t427).bind fun bt430 => ((laws_toGearS.f k l0).bind fun t433 => ((laws_toCheckS.f k l1).bind fun t436 => ((impl_NextToFail.f k t433 t436).bind fun bt439 => (if bt439.1.toList = bt430.1.toList then (if bt439.2.1 = bt430.2.1 then (laws_FnExactNextToFail.j0 k l0 l1 t433 t436 (bt439.2.2 != bt430.2.2)) else (laws_FnExactNextToFail.j0 k l0 l1 t433 t436 true)) else (laws_FnExactNextToFail.j0 k l0 l1 t433 t436 true))))))))) = some r := H
  have A6 := Aside0.mk A60
  clear A60
  by_cases c7 : t423 < 0
  ·rw [if_pos c7] at H
   have c7b0 : decide (t423 < 0) = true := decide_eq_true c7
   clear c7
   obtain rfl := Option.some.inj H
   go_enter Try.func8, Try.ntmps8
   go_wp2_with (first | ((with_reducible refine gate_callee (f := 20) rfl ?_); refine goesL_ (some 16) rfl rfl Try.func20 (by kernel_rfl) rfl #[.slice A0 l0.length c0, .int .i64 1048576] rfl ln_ ?_; (with_reducible refine (laws_szGearS.calls k _ _ l0 1048576 t422 _ ?side1 ?side2 A3.out).mono ?_); (case side1 => exact kc_ HR0.out); (case side2 => exact HC0.out); rintro e w8 ⟨rfl, hb⟩; refine ⟨_, rfl, ?_⟩; have n0_ := Aside0.mk (below_step hb_ hb); clear HB; have HB := n0_; clear n0_; (try clear hb); (try clear hb2); (try clear hk); (try clear hi)) | ((with_reducible refine gate_callee (f := 15) rfl ?_); refine goesL_ (some 21) rfl rfl Try.func15 (by kernel_rfl) rfl #[.slice A1 l1.length c1, .int .i64 t422] rfl ln_ ?_; (with_reducible refine (laws_szCheckS.calls k _ _ l1 t422 t423 _ ?side1 ?side2 A6.out).mono ?_); (case side1 => exact kc_ (Kd.C_below HR1.out HB.out)); (case side2 => exact HC1.out); rintro e w9 ⟨rfl, hb⟩; refine ⟨_, rfl, ?_⟩; have n0_ := Aside0.mk (below_step hb_ hb); clear HB; have HB := n0_; clear n0_; (try clear hb); (try clear hb2); (try clear hk); (try clear hi)))
   go_ret
   exact ⟨ew_, hb_⟩
  ·rw [if_neg c7] at H
   have c7b0 : decide (t423 < 0) = false := decide_eq_false c7
   clear c7
   replace H := Option.bind_eq_some_iff.mp H
   obtain ⟨t424, A100, H⟩ := H
   replace H : ((laws_toCheckS.f k l1).bind fun t427 => ((spec_NextToFail.f k t424 t427).bind fun bt430 => ((laws_toGearS.f k l0).bind fun t433 => ((laws_toCheckS.f k l1).bind fun t436 => ((impl_NextToFail.f k t433 t436).bind fun bt439 => (if bt439.1.toList = bt430.1.toList then (if bt439.2.1 = bt430.2.1 then (laws_FnExactNextToFail.j0 k l0 l1 t433 t436 (bt439.2.2 != bt430.2.2)) else (laws_FnExactNextToFail.j0 k l0 l1 t433 t436 true)) else (laws_FnExactNextToFail.j0 k l0 l1 t433 t436 true))))))) = some r := H
   have A10 := Aside0.mk A100
   clear A100
   replace H := Option.bind_eq_some_iff.mp H
   obtain ⟨t427, A110, H⟩ := H
   replace H : ((spec_NextToFail.f k t424 t427).bind fun bt430 => ((laws_toGearS.f k l0).bind fun t433 => ((laws_toCheckS.f k l1).bind fun t436 => ((impl_NextToFail.f k t433 t436).bind fun bt439 => (if bt439.1.toList = bt430.1.toList then (if bt439.2.1 = bt430.2.1 then (laws_FnExactNextToFail.j0 k l0 l1 t433 t436 (bt439.2.2 != bt430.2.2)) else (laws_FnExactNextToFail.j0 k l0 l1 t433 t436 true)) else (laws_FnExactNextToFail.j0 k l0 l1 t433 t436 true)))))) = some r := H
   have A11 := Aside0.mk A110
   clear A110
   replace H := Option.bind_eq_some_iff.mp H
   obtain ⟨⟨t430, t431, t432⟩, A120, H⟩ := H
   replace H : ((laws_toGearS.f k l0).bind fun t433 => ((laws_toCheckS.f k l1).bind fun t436 => ((impl_NextToFail.f k t433 t436).bind fun bt439 => (if bt439.1.toList = t430.toList then (if bt439.2.1 = t431 then (laws_FnExactNextToFail.j0 k l0 l1 t433 t436 (bt439.2.2 != t432)) else (laws_FnExactNextToFail.j0 k l0 l1 t433 t436 true)) else (laws_FnExactNextToFail.j0 k l0 l1 t433 t436 true))))) = some r := H
   have A12 := Aside0.mk A120
   clear A120
   replace H := Option.bind_eq_some_iff.mp H
   obtain ⟨t433, A130, H⟩ := H
   replace H : ((laws_toCheckS.f k l1).bind fun t436 => ((impl_NextToFail.f k t433 t436).bind fun bt439 => (if bt439.1.toList = t430.toList then (if bt439.2.1 = t431 then (laws_FnExactNextToFail.j0 k l0 l1 t433 t436 (bt439.2.2 != t432)) else (laws_FnExactNextToFail.j0 k l0 l1 t433 t436 true)) else (laws_FnExactNextToFail.j0 k l0 l1 t433 t436 true)))) = some r := H
   have A13 := Aside0.mk A130
   clear A130
   replace H := Option.bind_eq_some_iff.mp H
   obtain ⟨t436, A140, H⟩ := H
   replace H : ((impl_NextToFail.f k t433 t436).bind fun bt439 => (if bt439.1.toList = t430.toList then (if bt439.2.1 = t431 then (laws_FnExactNextToFail.j0 k l0 l1 t433 t436 (bt439.2.2 != t432)) else (laws_FnExactNextToFail.j0 k l0 l1 t433 t436 true)) else (laws_FnExactNextToFail.j0 k l0 l1 t433 t436 true))) = some r := H
   have A14 := Aside0.mk A140
   clear A140
   replace H := Option.bind_eq_some_iff.mp H
   obtain ⟨⟨t439, t440, t441⟩, A150, H⟩ := H
   replace H : (if t439.toList = t430.toList then (if t440 = t431 then (laws_FnExactNextToFail.j0 k l0 l1 t433 t436 (t441 != t432)) else (laws_FnExactNextToFail.j0 k l0 l1 t433 t436 true)) else (laws_FnExactNextToFail.j0 k l0 l1 t433 t436 true)) = some r := H
   have A15 := Aside0.mk A150
   clear A150
   have HC16 := Aside0.mk H
   clear H
   go_enter Try.func8, Try.ntmps8
   go_upto_region 12 with (first | ((with_reducible refine gate_callee (f := 20) rfl ?_); refine goesL_ (some 16) rfl rfl Try.func20 (by kernel_rfl) rfl #[.slice A0 l0.length c0, .int .i64 1048576] rfl ln_ ?_; (with_reducible refine (laws_szGearS.calls k _ _ l0 1048576 t422 _ ?side1 ?side2 A3.out).mono ?_); (case side1 => exact kc_ HR0.out); (case side2 => exact HC0.out); rintro e w17 ⟨rfl, hb⟩; refine ⟨_, rfl, ?_⟩; have n0_ := Aside0.mk (below_step hb_ hb); clear HB; have HB := n0_; clear n0_; (try clear hb); (try clear hb2); (try clear hk); (try clear hi)) | ((with_reducible refine gate_callee (f := 15) rfl ?_); refine goesL_ (some 21) rfl rfl Try.func15 (by kernel_rfl) rfl #[.slice A1 l1.length c1, .int .i64 t422] rfl ln_ ?_; (with_reducible refine (laws_szCheckS.calls k _ _ l1 t422 t423 _ ?side1 ?side2 A6.out).mono ?_); (case side1 => exact kc_ (Kd.C_below HR1.out HB.out)); (case side2 => exact HC1.out); rintro e w18 ⟨rfl, hb⟩; refine ⟨_, rfl, ?_⟩; have n0_ := Aside0.mk (below_step hb_ hb); clear HB; have HB := n0_; clear n0_; (try clear hb); (try clear hb2); (try clear hk); (try clear hi)) | ((with_reducible refine gate_callee (f := 22) rfl ?_); refine goesL_ (some 26) rfl rfl Try.func22 (by kernel_rfl) rfl #[.slice A0 l0.length c0] rfl ln_ ?_; (with_reducible refine (laws_toGearS.calls k _ _ l0 t424 _ ?side1 ?side2 A10.out).mono ?_); (case side1 => exact kc_ (Kd.C_below HR0.out HB.out)); (case side2 => exact HC0.out); rintro e w19 ⟨v425, rfl, ho0, hb⟩; refine ⟨_, rfl, ?_⟩; have n0_ := Aside0.mk (Kd.R_lower ho0 (below_size hb_)); have n1_ := Aside0.mk (below_step hb_ hb); clear HB; have HO426 := n0_; have HB := n1_; clear n0_ n1_; (try clear hb); (try clear hb2); (try clear hk); (try clear hi); (try clear ho0)) | ((with_reducible refine gate_callee (f := 17) rfl ?_); refine goesL_ (some 28) rfl rfl Try.func17 (by kernel_rfl) rfl #[.slice A1 l1.length c1] rfl ln_ ?_; (with_reducible refine (laws_toCheckS.calls k _ _ l1 t427 _ ?side1 ?side2 A11.out).mono ?_); (case side1 => exact kc_ (Kd.C_below HR1.out HB.out)); (case side2 => exact HC1.out); rintro e w20 ⟨v428, rfl, ho0, hb⟩; refine ⟨_, rfl, ?_⟩; have n0_ := Aside0.mk (Kd.R_below (kr_ HO426) hb); have n1_ := Aside0.mk (Kd.R_lower ho0 (below_size hb_)); have n2_ := Aside0.mk (below_step hb_ hb); clear HO426; clear HB; have HO426 := n0_; have HO429 := n1_; have HB := n2_; clear n0_ n1_ n2_; (try clear hb); (try clear hb2); (try clear hk); (try clear hi); (try clear ho0); obtain ⟨Ao21, co21, eo21⟩ := Kd.R_slice HO426.out; subst eo21; obtain ⟨Ao22, co22, eo22⟩ := Kd.R_slice HO429.out; subst eo22) | ((with_reducible refine gate_callee (f := 33) rfl ?_); refine goesL_ (some 29) rfl rfl Try.func33 (by kernel_rfl) rfl #[.slice Ao21 t424.length co21, .slice Ao22 t427.length co22] rfl ln_ ?_; (with_reducible refine (spec_NextToFail.calls k _ _ t424 _ _ t427 t430 t431 t432 _ ?side1 ?side2 ?side3 ?side4 A12.out).mono ?_); (case side1 => repeat (first | exact (Kd.R_reads' HO426.out).2.2 | (with_reducible refine Kd.C_alloc ?_ _) | (with_reducible refine Kd.C_drewN ?_ _) | (with_reducible refine Kd.C_drew ?_))); (case side2 => exact (Kd.R_reads' HO426.out).2.1); (case side3 => repeat (first | exact (Kd.R_reads' HO429.out).2.2 | (with_reducible refine Kd.C_alloc ?_ _) | (with_reducible refine Kd.C_drewN ?_ _) | (with_reducible refine Kd.C_drew ?_))); (case side4 => exact (Kd.R_reads' HO429.out).2.1); rintro e w23 ⟨rfl, hb⟩; refine ⟨_, rfl, ?_⟩; have n0_ := Aside0.mk (Kd.R_below (kr_ HO426) hb); have n1_ := Aside0.mk (Kd.R_below (kr_ HO429) hb); have n2_ := Aside0.mk (below_step hb_ hb); clear HO426; clear HO429; clear HB; have HO426 := n0_; have HO429 := n1_; have HB := n2_; clear n0_ n1_ n2_; (try clear hb); (try clear hb2); (try clear hk); (try clear hi)) | ((with_reducible refine gate_callee (f := 22) rfl ?_); refine goesL_ (some 34) rfl rfl Try.func22 (by kernel_rfl) rfl #[.slice A0 l0.length c0] rfl ln_ ?_; (with_reducible refine (laws_toGearS.calls k _ _ l0 t433 _ ?side1 ?side2 A13.out).mono ?_); (case side1 => exact kc_ (Kd.C_below HR0.out HB.out)); (case side2 => exact HC0.out); rintro e w24 ⟨v434, rfl, ho0, hb⟩; refine ⟨_, rfl, ?_⟩; have n0_ := Aside0.mk (Kd.R_elder' (kr_ HO426) (Kd.R_base ho0) hb); have n1_ := Aside0.mk (Kd.R_below (kr_ HO429) hb); have n2_ := Aside0.mk (Kd.R_lower (Kd.R_new' ho0 (Kd.R_lt (kr_ HO426))) (below_size hb_)); have n3_ := Aside0.mk (below_step hb_ hb); clear HO426; clear HO429; clear HB; have HO426 := n0_; have HO429 := n1_; have HO435 := n2_; have HB := n3_; clear n0_ n1_ n2_ n3_; (try clear hb); (try clear hb2); (try clear hk); (try clear hi); (try clear ho0)) | ((with_reducible refine gate_callee (f := 17) rfl ?_); refine goesL_ (some 36) rfl rfl Try.func17 (by kernel_rfl) rfl #[.slice A1 l1.length c1] rfl ln_ ?_; (with_reducible refine (laws_toCheckS.calls k _ _ l1 t436 _ ?side1 ?side2 A14.out).mono ?_); (case side1 => exact kc_ (Kd.C_below HR1.out HB.out)); (case side2 => exact HC1.out); rintro e w25 ⟨v437, rfl, ho0, hb⟩; refine ⟨_, rfl, ?_⟩; have n0_ := Aside0.mk (Kd.R_below (kr_ HO426) hb); have n1_ := Aside0.mk (Kd.R_elder' (kr_ HO429) (Kd.R_base ho0) hb); have n2_ := Aside0.mk (Kd.R_below (kr_ HO435) hb); have n3_ := Aside0.mk (Kd.R_lower (Kd.R_new' ho0 (Kd.R_lt (kr_ HO429))) (below_size hb_)); have n4_ := Aside0.mk (below_step hb_ hb); clear HO426; clear HO429; clear HO435; clear HB; have HO426 := n0_; have HO429 := n1_; have HO435 := n2_; have HO438 := n3_; have HB := n4_; clear n0_ n1_ n2_ n3_ n4_; (try clear hb); (try clear hb2); (try clear hk); (try clear hi); (try clear ho0); obtain ⟨Ao26, co26, eo26⟩ := Kd.R_slice HO435.out; subst eo26; obtain ⟨Ao27, co27, eo27⟩ := Kd.R_slice HO438.out; subst eo27) | ((with_reducible refine gate_callee (f := 34) rfl ?_); refine goesL_ (some 40) rfl rfl Try.func34 (by kernel_rfl) rfl #[.slice Ao26 t433.length co26, .slice Ao27 t436.length co27] rfl ln_ ?_; (with_reducible refine (impl_NextToFail.calls k _ _ t433 _ _ t436 t439 t440 t441 _ ?side1 ?side2 ?side3 ?side4 A15.out).mono ?_); (case side1 => repeat (first | exact (Kd.R_reads' HO435.out).2.2 | (with_reducible refine Kd.C_alloc ?_ _) | (with_reducible refine Kd.C_drewN ?_ _) | (with_reducible refine Kd.C_drew ?_))); (case side2 => exact (Kd.R_reads' HO435.out).2.1); (case side3 => repeat (first | exact (Kd.R_reads' HO438.out).2.2 | (with_reducible refine Kd.C_alloc ?_ _) | (with_reducible refine Kd.C_drewN ?_ _) | (with_reducible refine Kd.C_drew ?_))); (case side4 => exact (Kd.R_reads' HO438.out).2.1); rintro e w28 ⟨rfl, hb⟩; refine ⟨_, rfl, ?_⟩; have n0_ := Aside0.mk (Kd.R_below (kr_ HO426) hb); have n1_ := Aside0.mk (Kd.R_below (kr_ HO429) hb); have n2_ := Aside0.mk (Kd.R_below (kr_ HO435) hb); have n3_ := Aside0.mk (Kd.R_below (kr_ HO438) hb); have n4_ := Aside0.mk (below_step hb_ hb); clear HO426; clear HO429; clear HO435; clear HO438; clear HB; have HO426 := n0_; have HO429 := n1_; have HO435 := n2_; have HO438 := n3_; have HB := n4_; clear n0_ n1_ n2_ n3_ n4_; (try clear hb); (try clear hb2); (try clear hk); (try clear hi)))
   (try simp only [Act.put, List.setIfInBounds_toArray, List.set_cons_zero, List.set_cons_succ])
   go_cut [56] (fun v56 wc => ∃ (kq : Nat) (x56_15 : Bool), v56 = .bool x56_15 ∧ Aside0 (laws_FnExactNextToFail.j0 kq l0 l1 t433 t436 x56_15 = some r) ∧ Aside0 (kq ≤ k) ∧ Aside0 (Kd.R k73 73 wc w.heap.size (fun _ => True) (.slice Ao26 t433.length co26) t433) ∧ Aside0 (Kd.R k53 53 wc w.heap.size (fun _ => True) (.slice Ao27 t436.length co27) t436) ∧ Aside0 (Below w.heap.size w wc))
   case first =>
    have H := HC16.out
    clear HC16
    by_cases c29 : t439.toList = t430.toList
    ·rw [if_pos c29] at H
     have c29b0 : (t439.toList == t430.toList) = true := beq_iff_eq.mpr c29
     have c29b1 : (t439.toList != t430.toList) = false := bne_eq_false_iff_eq.mpr c29
     clear c29
     (first | rw [c29b0] | (simp only [i64_w, i32_w]; rw [c29b0]) | skip)
     by_cases c30 : t440 = t431
     ·rw [if_pos c30] at H
      have c30b0 : (t440 == t431) = true := beq_iff_eq.mpr c30
      have c30b1 : (t440 != t431) = false := bne_eq_false_iff_eq.mpr c30
      clear c30
      have H' := Aside0.mk H
      clear H
      go_wp2
      go_meet
      case rel => exact ⟨_, ((t441 != t432)), (by first | rfl | (simp; done) | (simp [*]; done)), H', ⟨by first | omega | exact Nat.le_refl _⟩, ⟨by (with_reducible repeat (first | apply Kd.R_alloc | apply Kd.R_drewN | apply Kd.R_drew)); exact Kd.R_mono HO435.out (fun _ hk => trivial)⟩, ⟨by (with_reducible repeat (first | apply Kd.R_alloc | apply Kd.R_drewN | apply Kd.R_drew)); exact Kd.R_mono HO438.out (fun _ hk => trivial)⟩, ⟨hb_⟩⟩
     ·rw [if_neg c30] at H
      have c30b0 : (t440 == t431) = false := beq_eq_false_iff_ne.mpr c30
      have c30b1 : (t440 != t431) = true := bne_iff_ne.mpr c30
      have H' := Aside0.mk H
      clear H
      go_wp2
      go_meet
      case rel => exact ⟨_, (true), (by first | rfl | (simp; done) | (simp [*]; done)), H', ⟨by first | omega | exact Nat.le_refl _⟩, ⟨by (with_reducible repeat (first | apply Kd.R_alloc | apply Kd.R_drewN | apply Kd.R_drew)); exact Kd.R_mono HO435.out (fun _ hk => trivial)⟩, ⟨by (with_reducible repeat (first | apply Kd.R_alloc | apply Kd.R_drewN | apply Kd.R_drew)); exact Kd.R_mono HO438.out (fun _ hk => trivial)⟩, ⟨hb_⟩⟩
    ·rw [if_neg c29] at H
     have c29b0 : (t439.toList == t430.toList) = false := beq_eq_false_iff_ne.mpr c29
     have c29b1 : (t439.toList != t430.toList) = true := bne_iff_ne.mpr c29
     (first | rw [c29b0] | (simp only [i64_w, i32_w]; rw [c29b0]) | skip)
     have H' := Aside0.mk H
     clear H
     go_wp2
     go_meet
     case rel => exact ⟨_, (true), (by first | rfl | (simp; done) | (simp [*]; done)), H', ⟨by first | omega | exact Nat.le_refl _⟩, ⟨by (with_reducible repeat (first | apply Kd.R_alloc | apply Kd.R_drewN | apply Kd.R_drew)); exact Kd.R_mono HO435.out (fun _ hk => trivial)⟩, ⟨by (with_reducible repeat (first | apply Kd.R_alloc | apply Kd.R_drewN | apply Kd.R_drew)); exact Kd.R_mono HO438.out (fun _ hk => trivial)⟩, ⟨hb_⟩⟩
   case rest =>
    clear HC16
    try clear c1
    try clear c2
    try clear p2
    try clear c3
    try clear c4
    try clear c4b0
    try clear c7
    try clear c7b0
    try clear c8
    try clear c15
    try clear c17
    try clear c20
    try clear c22
    try clear c29
    try clear c29b0
    try clear c29b1
    try clear c30
    try clear c30b0
    try clear c30b1
    obtain ⟨kq, x56_15, rfl, HA, HJ15, HO_9, HO_10, HB⟩ := hcut
    cases kq with
    | zero => exact absurd HA.out (by simp [laws_FnExactNextToFail.j0])
    | succ kj15 =>
     have H := HA.out
     clear HA
     simp only [laws_FnExactNextToFail.j0] at H
     by_cases c31 : x56_15 = true
     ·subst c31
      have H1 : (some false) = some r := by rw [if_pos rfl] at H; exact H
      clear H
      have H := H1
      clear H1
      obtain rfl := Option.some.inj H
      go_wp2
      go_ret
      exact ⟨ew_, hb_⟩
     ·replace c31 := Bool.eq_false_iff.mpr c31
      subst c31
      have H1 : ((laws_toGearS.f kj15 l0).bind fun t442 => ((laws_eqGearS.f kj15 t433 t442).bind fun t445 => (if t445 = true then ((laws_toCheckS.f kj15 l1).bind fun t446 => ((laws_eqCheckS.f kj15 t436 t446).bind fun t449 => (if t449 = true then (some true) else (some false)))) else (some false)))) = some r := by rw [if_neg (show ¬ (false = true) by decide)] at H; exact H
      clear H
      have H := H1
      clear H1
      replace H := Option.bind_eq_some_iff.mp H
      obtain ⟨t442, A320, H⟩ := H
      replace H : ((laws_eqGearS.f kj15 t433 t442).bind fun t445 => (if t445 = true then ((laws_toCheckS.f kj15 l1).bind fun t446 => ((laws_eqCheckS.f kj15 t436 t446).bind fun t449 => (if t449 = true then (some true) else (some false)))) else (some false))) = some r := H
      have A32 := Aside0.mk A320
      clear A320
      replace H := Option.bind_eq_some_iff.mp H
      obtain ⟨t445, A330, H⟩ := H
      replace H : (if t445 = true then ((laws_toCheckS.f kj15 l1).bind fun t446 => ((laws_eqCheckS.f kj15 t436 t446).bind fun t449 => (if t449 = true then (some true) else (some false)))) else (some false)) = some r := H
      have A33 := Aside0.mk A330
      clear A330
      by_cases c34 : t445 = true
      ·subst c34
       have H1 : ((laws_toCheckS.f kj15 l1).bind fun t446 => ((laws_eqCheckS.f kj15 t436 t446).bind fun t449 => (if t449 = true then (some true) else (some false)))) = some r := by rw [if_pos rfl] at H; exact H
       clear H
       have H := H1
       clear H1
       replace H := Option.bind_eq_some_iff.mp H
       obtain ⟨t446, A350, H⟩ := H
       replace H : ((laws_eqCheckS.f kj15 t436 t446).bind fun t449 => (if t449 = true then (some true) else (some false))) = some r := H
       have A35 := Aside0.mk A350
       clear A350
       replace H := Option.bind_eq_some_iff.mp H
       obtain ⟨t449, A360, H⟩ := H
       replace H : (if t449 = true then (some true) else (some false)) = some r := H
       have A36 := Aside0.mk A360
       clear A360
       by_cases c37 : t449 = true
       ·subst c37
        have H1 : (some true) = some r := by rw [if_pos rfl] at H; exact H
        clear H
        have H := H1
        clear H1
        obtain rfl := Option.some.inj H
        go_wp2_with (first | ((with_reducible refine gate_callee (f := 22) rfl ?_); refine goesL_ (some 59) rfl rfl Try.func22 (by kernel_rfl) rfl #[.slice A0 l0.length c0] rfl ln_ ?_; (with_reducible refine (laws_toGearS.calls kj15 _ _ l0 t442 _ ?side1 ?side2 A32.out).mono ?_); (case side1 => exact kc_ (Kd.C_below HR0.out HB.out)); (case side2 => exact HC0.out); rintro e w38 ⟨v443, rfl, ho0, hb⟩; refine ⟨_, rfl, ?_⟩; have n0_ := Aside0.mk (Kd.R_elder' (kr_ HO_9) (Kd.R_base ho0) hb); have n1_ := Aside0.mk (Kd.R_below (kr_ HO_10) hb); have n2_ := Aside0.mk (Kd.R_lower (Kd.R_new' ho0 (Kd.R_lt (kr_ HO_9))) (below_size hb_)); have n3_ := Aside0.mk (below_step hb_ hb); clear HO_9; clear HO_10; clear HB; have HO_9 := n0_; have HO_10 := n1_; have HO444 := n2_; have HB := n3_; clear n0_ n1_ n2_ n3_; (try clear hb); (try clear hb2); (try clear hk); (try clear hi); (try clear ho0); obtain ⟨Ao39, co39, eo39⟩ := Kd.R_slice HO444.out; subst eo39) | ((with_reducible refine gate_callee (f := 24) rfl ?_); refine goesL_ (some 60) rfl rfl Try.func24 (by kernel_rfl) rfl #[.slice Ao26 t433.length co26, .slice Ao39 t442.length co39] rfl ln_ ?_; (with_reducible refine (laws_eqGearS.calls kj15 _ _ t433 _ _ t442 true _ ?side1 ?side2 ?side3 ?side4 A33.out).mono ?_); (case side1 => repeat (first | exact (Kd.R_reads' HO_9.out).2.2 | (with_reducible refine Kd.C_alloc ?_ _) | (with_reducible refine Kd.C_drewN ?_ _) | (with_reducible refine Kd.C_drew ?_))); (case side2 => exact (Kd.R_reads' HO_9.out).2.1); (case side3 => repeat (first | exact (Kd.R_reads' HO444.out).2.2 | (with_reducible refine Kd.C_alloc ?_ _) | (with_reducible refine Kd.C_drewN ?_ _) | (with_reducible refine Kd.C_drew ?_))); (case side4 => exact (Kd.R_reads' HO444.out).2.1); rintro e w40 ⟨rfl, hb⟩; refine ⟨_, rfl, ?_⟩; have n0_ := Aside0.mk (Kd.R_below (kr_ HO_9) hb); have n1_ := Aside0.mk (Kd.R_below (kr_ HO_10) hb); have n2_ := Aside0.mk (Kd.R_below (kr_ HO444) hb); have n3_ := Aside0.mk (below_step hb_ hb); clear HO_9; clear HO_10; clear HO444; clear HB; have HO_9 := n0_; have HO_10 := n1_; have HO444 := n2_; have HB := n3_; clear n0_ n1_ n2_ n3_; (try clear hb); (try clear hb2); (try clear hk); (try clear hi)) | ((with_reducible refine gate_callee (f := 17) rfl ?_); refine goesL_ (some 64) rfl rfl Try.func17 (by kernel_rfl) rfl #[.slice A1 l1.length c1] rfl ln_ ?_; (with_reducible refine (laws_toCheckS.calls kj15 _ _ l1 t446 _ ?side1 ?side2 A35.out).mono ?_); (case side1 => exact kc_ (Kd.C_below HR1.out HB.out)); (case side2 => exact HC1.out); rintro e w41 ⟨v447, rfl, ho0, hb⟩; refine ⟨_, rfl, ?_⟩; have n0_ := Aside0.mk (Kd.R_below (kr_ HO_9) hb); have n1_ := Aside0.mk (Kd.R_elder' (kr_ HO_10) (Kd.R_base ho0) hb); have n2_ := Aside0.mk (Kd.R_below (kr_ HO444) hb); have n3_ := Aside0.mk (Kd.R_lower (Kd.R_new' ho0 (Kd.R_lt (kr_ HO_10))) (below_size hb_)); have n4_ := Aside0.mk (below_step hb_ hb); clear HO_9; clear HO_10; clear HO444; clear HB; have HO_9 := n0_; have HO_10 := n1_; have HO444 := n2_; have HO448 := n3_; have HB := n4_; clear n0_ n1_ n2_ n3_ n4_; (try clear hb); (try clear hb2); (try clear hk); (try clear hi); (try clear ho0); obtain ⟨Ao42, co42, eo42⟩ := Kd.R_slice HO448.out; subst eo42) | ((with_reducible refine gate_callee (f := 19) rfl ?_); refine goesL_ (some 65) rfl rfl Try.func19 (by kernel_rfl) rfl #[.slice Ao27 t436.length co27, .slice Ao42 t446.length co42] rfl ln_ ?_; (with_reducible refine (laws_eqCheckS.calls kj15 _ _ t436 _ _ t446 true _ ?side1 ?side2 ?side3 ?side4 A36.out).mono ?_); (case side1 => repeat (first | exact (Kd.R_reads' HO_10.out).2.2 | (with_reducible refine Kd.C_alloc ?_ _) | (with_reducible refine Kd.C_drewN ?_ _) | (with_reducible refine Kd.C_drew ?_))); (case side2 => exact (Kd.R_reads' HO_10.out).2.1); (case side3 => repeat (first | exact (Kd.R_reads' HO448.out).2.2 | (with_reducible refine Kd.C_alloc ?_ _) | (with_reducible refine Kd.C_drewN ?_ _) | (with_reducible refine Kd.C_drew ?_))); (case side4 => exact (Kd.R_reads' HO448.out).2.1); rintro e w43 ⟨rfl, hb⟩; refine ⟨_, rfl, ?_⟩; have n0_ := Aside0.mk (Kd.R_below (kr_ HO_9) hb); have n1_ := Aside0.mk (Kd.R_below (kr_ HO_10) hb); have n2_ := Aside0.mk (Kd.R_below (kr_ HO444) hb); have n3_ := Aside0.mk (Kd.R_below (kr_ HO448) hb); have n4_ := Aside0.mk (below_step hb_ hb); clear HO_9; clear HO_10; clear HO444; clear HO448; clear HB; have HO_9 := n0_; have HO_10 := n1_; have HO444 := n2_; have HO448 := n3_; have HB := n4_; clear n0_ n1_ n2_ n3_ n4_; (try clear hb); (try clear hb2); (try clear hk); (try clear hi)))
        go_ret
        exact ⟨ew_, hb_⟩
       ·replace c37 := Bool.eq_false_iff.mpr c37
        subst c37
        have H1 : (some false) = some r := by rw [if_neg (show ¬ (false = true) by decide)] at H; exact H
        clear H
        have H := H1
        clear H1
        obtain rfl := Option.some.inj H
        go_wp2_with (first | ((with_reducible refine gate_callee (f := 22) rfl ?_); refine goesL_ (some 59) rfl rfl Try.func22 (by kernel_rfl) rfl #[.slice A0 l0.length c0] rfl ln_ ?_; (with_reducible refine (laws_toGearS.calls kj15 _ _ l0 t442 _ ?side1 ?side2 A32.out).mono ?_); (case side1 => exact kc_ (Kd.C_below HR0.out HB.out)); (case side2 => exact HC0.out); rintro e w44 ⟨v443, rfl, ho0, hb⟩; refine ⟨_, rfl, ?_⟩; have n0_ := Aside0.mk (Kd.R_elder' (kr_ HO_9) (Kd.R_base ho0) hb); have n1_ := Aside0.mk (Kd.R_below (kr_ HO_10) hb); have n2_ := Aside0.mk (Kd.R_lower (Kd.R_new' ho0 (Kd.R_lt (kr_ HO_9))) (below_size hb_)); have n3_ := Aside0.mk (below_step hb_ hb); clear HO_9; clear HO_10; clear HB; have HO_9 := n0_; have HO_10 := n1_; have HO444 := n2_; have HB := n3_; clear n0_ n1_ n2_ n3_; (try clear hb); (try clear hb2); (try clear hk); (try clear hi); (try clear ho0); obtain ⟨Ao45, co45, eo45⟩ := Kd.R_slice HO444.out; subst eo45) | ((with_reducible refine gate_callee (f := 24) rfl ?_); refine goesL_ (some 60) rfl rfl Try.func24 (by kernel_rfl) rfl #[.slice Ao26 t433.length co26, .slice Ao45 t442.length co45] rfl ln_ ?_; (with_reducible refine (laws_eqGearS.calls kj15 _ _ t433 _ _ t442 true _ ?side1 ?side2 ?side3 ?side4 A33.out).mono ?_); (case side1 => repeat (first | exact (Kd.R_reads' HO_9.out).2.2 | (with_reducible refine Kd.C_alloc ?_ _) | (with_reducible refine Kd.C_drewN ?_ _) | (with_reducible refine Kd.C_drew ?_))); (case side2 => exact (Kd.R_reads' HO_9.out).2.1); (case side3 => repeat (first | exact (Kd.R_reads' HO444.out).2.2 | (with_reducible refine Kd.C_alloc ?_ _) | (with_reducible refine Kd.C_drewN ?_ _) | (with_reducible refine Kd.C_drew ?_))); (case side4 => exact (Kd.R_reads' HO444.out).2.1); rintro e w46 ⟨rfl, hb⟩; refine ⟨_, rfl, ?_⟩; have n0_ := Aside0.mk (Kd.R_below (kr_ HO_9) hb); have n1_ := Aside0.mk (Kd.R_below (kr_ HO_10) hb); have n2_ := Aside0.mk (Kd.R_below (kr_ HO444) hb); have n3_ := Aside0.mk (below_step hb_ hb); clear HO_9; clear HO_10; clear HO444; clear HB; have HO_9 := n0_; have HO_10 := n1_; have HO444 := n2_; have HB := n3_; clear n0_ n1_ n2_ n3_; (try clear hb); (try clear hb2); (try clear hk); (try clear hi)) | ((with_reducible refine gate_callee (f := 17) rfl ?_); refine goesL_ (some 64) rfl rfl Try.func17 (by kernel_rfl) rfl #[.slice A1 l1.length c1] rfl ln_ ?_; (with_reducible refine (laws_toCheckS.calls kj15 _ _ l1 t446 _ ?side1 ?side2 A35.out).mono ?_); (case side1 => exact kc_ (Kd.C_below HR1.out HB.out)); (case side2 => exact HC1.out); rintro e w47 ⟨v447, rfl, ho0, hb⟩; refine ⟨_, rfl, ?_⟩; have n0_ := Aside0.mk (Kd.R_below (kr_ HO_9) hb); have n1_ := Aside0.mk (Kd.R_elder' (kr_ HO_10) (Kd.R_base ho0) hb); have n2_ := Aside0.mk (Kd.R_below (kr_ HO444) hb); have n3_ := Aside0.mk (Kd.R_lower (Kd.R_new' ho0 (Kd.R_lt (kr_ HO_10))) (below_size hb_)); have n4_ := Aside0.mk (below_step hb_ hb); clear HO_9; clear HO_10; clear HO444; clear HB; have HO_9 := n0_; have HO_10 := n1_; have HO444 := n2_; have HO448 := n3_; have HB := n4_; clear n0_ n1_ n2_ n3_ n4_; (try clear hb); (try clear hb2); (try clear hk); (try clear hi); (try clear ho0); obtain ⟨Ao48, co48, eo48⟩ := Kd.R_slice HO448.out; subst eo48) | ((with_reducible refine gate_callee (f := 19) rfl ?_); refine goesL_ (some 65) rfl rfl Try.func19 (by kernel_rfl) rfl #[.slice Ao27 t436.length co27, .slice Ao48 t446.length co48] rfl ln_ ?_; (with_reducible refine (laws_eqCheckS.calls kj15 _ _ t436 _ _ t446 false _ ?side1 ?side2 ?side3 ?side4 A36.out).mono ?_); (case side1 => repeat (first | exact (Kd.R_reads' HO_10.out).2.2 | (with_reducible refine Kd.C_alloc ?_ _) | (with_reducible refine Kd.C_drewN ?_ _) | (with_reducible refine Kd.C_drew ?_))); (case side2 => exact (Kd.R_reads' HO_10.out).2.1); (case side3 => repeat (first | exact (Kd.R_reads' HO448.out).2.2 | (with_reducible refine Kd.C_alloc ?_ _) | (with_reducible refine Kd.C_drewN ?_ _) | (with_reducible refine Kd.C_drew ?_))); (case side4 => exact (Kd.R_reads' HO448.out).2.1); rintro e w49 ⟨rfl, hb⟩; refine ⟨_, rfl, ?_⟩; have n0_ := Aside0.mk (Kd.R_below (kr_ HO_9) hb); have n1_ := Aside0.mk (Kd.R_below (kr_ HO_10) hb); have n2_ := Aside0.mk (Kd.R_below (kr_ HO444) hb); have n3_ := Aside0.mk (Kd.R_below (kr_ HO448) hb); have n4_ := Aside0.mk (below_step hb_ hb); clear HO_9; clear HO_10; clear HO444; clear HO448; clear HB; have HO_9 := n0_; have HO_10 := n1_; have HO444 := n2_; have HO448 := n3_; have HB := n4_; clear n0_ n1_ n2_ n3_ n4_; (try clear hb); (try clear hb2); (try clear hk); (try clear hi)))
        go_ret
        exact ⟨ew_, hb_⟩
      ·replace c34 := Bool.eq_false_iff.mpr c34
       subst c34
       have H1 : (some false) = some r := by rw [if_neg (show ¬ (false = true) by decide)] at H; exact H
       clear H
       have H := H1
       clear H1
       obtain rfl := Option.some.inj H
       go_wp2_with (first | ((with_reducible refine gate_callee (f := 22) rfl ?_); refine goesL_ (some 59) rfl rfl Try.func22 (by kernel_rfl) rfl #[.slice A0 l0.length c0] rfl ln_ ?_; (with_reducible refine (laws_toGearS.calls kj15 _ _ l0 t442 _ ?side1 ?side2 A32.out).mono ?_); (case side1 => exact kc_ (Kd.C_below HR0.out HB.out)); (case side2 => exact HC0.out); rintro e w50 ⟨v443, rfl, ho0, hb⟩; refine ⟨_, rfl, ?_⟩; have n0_ := Aside0.mk (Kd.R_elder' (kr_ HO_9) (Kd.R_base ho0) hb); have n1_ := Aside0.mk (Kd.R_below (kr_ HO_10) hb); have n2_ := Aside0.mk (Kd.R_lower (Kd.R_new' ho0 (Kd.R_lt (kr_ HO_9))) (below_size hb_)); have n3_ := Aside0.mk (below_step hb_ hb); clear HO_9; clear HO_10; clear HB; have HO_9 := n0_; have HO_10 := n1_; have HO444 := n2_; have HB := n3_; clear n0_ n1_ n2_ n3_; (try clear hb); (try clear hb2); (try clear hk); (try clear hi); (try clear ho0); obtain ⟨Ao51, co51, eo51⟩ := Kd.R_slice HO444.out; subst eo51) | ((with_reducible refine gate_callee (f := 24) rfl ?_); refine goesL_ (some 60) rfl rfl Try.func24 (by kernel_rfl) rfl #[.slice Ao26 t433.length co26, .slice Ao51 t442.length co51] rfl ln_ ?_; (with_reducible refine (laws_eqGearS.calls kj15 _ _ t433 _ _ t442 false _ ?side1 ?side2 ?side3 ?side4 A33.out).mono ?_); (case side1 => repeat (first | exact (Kd.R_reads' HO_9.out).2.2 | (with_reducible refine Kd.C_alloc ?_ _) | (with_reducible refine Kd.C_drewN ?_ _) | (with_reducible refine Kd.C_drew ?_))); (case side2 => exact (Kd.R_reads' HO_9.out).2.1); (case side3 => repeat (first | exact (Kd.R_reads' HO444.out).2.2 | (with_reducible refine Kd.C_alloc ?_ _) | (with_reducible refine Kd.C_drewN ?_ _) | (with_reducible refine Kd.C_drew ?_))); (case side4 => exact (Kd.R_reads' HO444.out).2.1); rintro e w52 ⟨rfl, hb⟩; refine ⟨_, rfl, ?_⟩; have n0_ := Aside0.mk (Kd.R_below (kr_ HO_9) hb); have n1_ := Aside0.mk (Kd.R_below (kr_ HO_10) hb); have n2_ := Aside0.mk (Kd.R_below (kr_ HO444) hb); have n3_ := Aside0.mk (below_step hb_ hb); clear HO_9; clear HO_10; clear HO444; clear HB; have HO_9 := n0_; have HO_10 := n1_; have HO444 := n2_; have HB := n3_; clear n0_ n1_ n2_ n3_; (try clear hb); (try clear hb2); (try clear hk); (try clear hi)))
       go_ret
       exact ⟨ew_, hb_⟩

end Go.Proofs.Ytdbigcfpinpnpaa.P
