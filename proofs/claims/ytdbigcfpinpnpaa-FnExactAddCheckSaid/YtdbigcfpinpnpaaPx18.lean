-- Written by gprint.py (own program, over the printer of the kit) out of the translation. Lean checks it.
import Derived.Test.YtdbigcfpinpnpaaPx0
import Derived.Test.YtdbigcfpinpnpaaPx6
import Derived.Test.YtdbigcfpinpnpaaPx14
import Derived.Test.YtdbigcfpinpnpaaWPk
namespace Go.Proofs.Ytdbigcfpinpnpaa.P
open Go.RowKit Go.Proofs.YtdbigcfpinpnpaaW.PrintWords Go.Proofs.YtdbigcfpinpnpaaW.PrintLast Go.Proofs.YtdbigcfpinpnpaaW.PrintMore Go.Proofs.YtdbigcfpinpnpaaW.Pk
open Bool renaming true → T_, false → F_
open List renaming setIfInBounds_toArray → sT_, set_cons_zero → s0_, set_cons_succ → sS_
attribute [local go_sem] max2_int min2_int max_two min_two max_three min_three max_four min_four   -- for this text's walks alone
set_option linter.unusedVariables false
set_option linter.unusedSimpArgs false

/-! ### spec_AddCheck: function 38 -/
def spec_AddCheck.l0 : Nat → List (S73) → List (S53) → Int → ByteArray → Int → Int → Option ((List (S53)) × Int)
 | 0, _, _, _, _, _, _ => none
 | k + 1, x0, x1, x8, x485000, x485001, x485002 => if x8 > 0 then (if 0 ≤ (wrap64 (x8 - 1)) then (if (wrap64 (x8 - 1)) < (x1.length : Int) then (if ((rd_T53 x1 (wrap64 (x8 - 1))).f1) > x485001 then (spec_AddCheck.l0 k x0 x1 (wrap64 (x8 - 1)) x485000 x485001 x485002) else ((some (([] : List (S53)) : List (S53))).bind fun y488 => (if 0 ≤ x8 then (if x8 ≤ (x1.length : Int) then ((some (x1.take (x8 : Int).toNat : List (S53))).bind fun y491 => (if y488.length + y491.length < 4398046511104 then ((some (y488 ++ y491 : List (S53))).bind fun y495 => (if y495.length < 4398046511104 then ((some (y495 ++ [(⟨x485000, x485001, x485002⟩ : S53)] : List (S53))).bind fun y498 => ((some (x1.drop (x8 : Int).toNat : List (S53))).bind fun y501 => (if y498.length + y501.length < 4398046511104 then ((some (y498 ++ y501 : List (S53))).bind fun y505 => ((spec_l21Checks.f k x0 y505).bind fun t508 => (if t508 = true then (some (y505, 0)) else (some (([] : List (S53)), 9))))) else (none)))) else (none))) else (none))) else (none)) else (none)))) else (none)) else (none)) else ((some (([] : List (S53)) : List (S53))).bind fun y509 => (if 0 ≤ x8 then (if x8 ≤ (x1.length : Int) then ((some (x1.take (x8 : Int).toNat : List (S53))).bind fun y512 => (if y509.length + y512.length < 4398046511104 then ((some (y509 ++ y512 : List (S53))).bind fun y516 => (if y516.length < 4398046511104 then ((some (y516 ++ [(⟨x485000, x485001, x485002⟩ : S53)] : List (S53))).bind fun y519 => ((some (x1.drop (x8 : Int).toNat : List (S53))).bind fun y522 => (if y519.length + y522.length < 4398046511104 then ((some (y519 ++ y522 : List (S53))).bind fun y526 => ((spec_l21Checks.f k x0 y526).bind fun t529 => (if t529 = true then (some (y526, 0)) else (some (([] : List (S53)), 9))))) else (none)))) else (none))) else (none))) else (none)) else (none)))
def spec_AddCheck.f (k : Nat) (l0 : List (S73)) (l1 : List (S53)) (a2_0 : ByteArray) (a2_1 : Int) (a2_2 : Int) : Option ((List (S53)) × Int) := (spec_l21Checks.f k l0 l1).bind fun t485 => (if t485 = true then ((spec_l21Check.f k l0 a2_0 a2_1 a2_2).bind fun t486 => (if t486 = true then (if (l1.length : Int) ≥ 60 then (some (([] : List (S53)), 5)) else (spec_AddCheck.l0 k l0 l1 (l1.length : Int) a2_0 a2_1 a2_2)) else (some (([] : List (S53)), 2)))) else (some (([] : List (S53)), 1)))
theorem spec_AddCheck.mono_l : ∀ k, (∀ y0 y1 y2 y3 y4 y5, LeO (spec_AddCheck.l0 k y0 y1 y2 y3 y4 y5) (spec_AddCheck.l0 (k + 1) y0 y1 y2 y3 y4 y5))
 | 0 => fun _ _ _ _ _ _ r h => by simp [spec_AddCheck.l0] at h
 | k + 1 => by
  have ih0 := spec_AddCheck.mono_l k
  ·intro y0 y1 y2 y3 y4 y5
   unfold spec_AddCheck.l0
   repeat' first
   | (with_reducible exact ih0 _ _ _ _ _ _)
   | (with_reducible exact spec_l21Check.mono _ _ _ _ _)
   | (with_reducible exact spec_l21Checks.mono _ _ _)
   | (with_reducible exact LeO.refl _)
   | (with_reducible exact LeO.none _)
   | (with_reducible refine LeO.ite ?_ ?_)
   | (with_reducible refine LeO.bind ?_ (fun _ => ?_))
   | exact ih0 _ _ _ _ _ _
   | exact spec_l21Check.mono _ _ _ _ _
   | exact spec_l21Checks.mono _ _ _
   | exact LeO.none _
   | refine LeO.ite ?_ ?_
   | refine LeO.bind ?_ (fun _ => ?_)
theorem spec_AddCheck.mono : ∀ a0 a1 a2 a3 a4 k, LeO (spec_AddCheck.f k a0 a1 a2 a3 a4) (spec_AddCheck.f (k + 1) a0 a1 a2 a3 a4) := by
 intro a0 a1 a2 a3 a4 k
 have ih0 := spec_AddCheck.mono_l k
 unfold spec_AddCheck.f
 repeat' first
   | (with_reducible exact ih0 _ _ _ _ _ _)
   | (with_reducible exact spec_l21Check.mono _ _ _ _ _)
   | (with_reducible exact spec_l21Checks.mono _ _ _)
   | (with_reducible exact LeO.refl _)
   | (with_reducible exact LeO.none _)
   | (with_reducible refine LeO.ite ?_ ?_)
   | (with_reducible refine LeO.bind ?_ (fun _ => ?_))
   | exact ih0 _ _ _ _ _ _
   | exact spec_l21Check.mono _ _ _ _ _
   | exact spec_l21Checks.mono _ _ _
   | exact LeO.none _
   | refine LeO.ite ?_ ?_
   | refine LeO.bind ?_ (fun _ => ?_)
def spec_AddCheck.T8 : Bool × List (List Nat × List Nat) := (true, [([], []), ([0], [0]), ([1], [1]), ([2], [2]), ([2], [2]), ([4, 2], [2, 4]), ([3, 5, 2], [2, 3, 5]), ([6, 2], [2, 6]), ([7, 2], [2, 7]), ([2], [2]), ([9, 2], [2, 9]), ([8, 10, 2], [2, 8, 10]), ([2, 11], [2, 11])])
def spec_AddCheck.B8 : List Nat := [0, 1, 3, 7, 7, 23, 63, 127, 255, 7, 519, 2047, 4095]
theorem spec_AddCheck.tab8 : rtab .any (opsOf Try.f38 8) = spec_AddCheck.T8 := by kernel_rfl
theorem spec_AddCheck.bits8 : waitsOk spec_AddCheck.T8.2 spec_AddCheck.B8 = true := by kernel_rfl
set_option maxHeartbeats 8000000 in
set_option maxRecDepth 100000 in
theorem spec_AddCheck.calls (k : Nat) (A0 : Option Addr) (c0 : Nat) (l0 : List (S73)) (A1 : Option Addr) (c1 : Nat) (l1 : List (S53)) (a2_0 : ByteArray) (a2_1 : Int) (a2_2 : Int) (r1 : List (S53)) (r2 : Int) (w : World) (hr0 : Kd.C k73 w A0 l0.length l0) (hc0 : l0.length ≤ c0) (hr1 : Kd.C k53 w A1 l1.length l1) (hc1 : l1.length ≤ c1) (h : spec_AddCheck.f k l0 l1 a2_0 a2_1 a2_2 = some (r1, r2)) :
  Calls Try.prog 38 #[.slice A0 l0.length c0, .slice A1 l1.length c1, .agg #[.string a2_0, .int .i64 a2_1, .int .i64 a2_2]] w fun e w' => ∃ v0_ : Value, e = .returned (.tuple #[v0_, .int .i64 r2]) ∧ Kd.R k53 53 w' w.heap.size (fun _ => True) v0_ r1 ∧ Below w.heap.size w w' := by
 have hu53 := Try.underlying53
 have HR0 := Aside0.mk hr0
 have HC0 := Aside0.mk hc0
 clear hr0 hc0
 have HR1 := Aside0.mk hr1
 have HC1 := Aside0.mk hc1
 clear hr1 hc1
 have HB := Aside0.mk (Below.refl w.heap.size w)
 have H : ((spec_l21Checks.f k l0 l1).bind fun t485 => (if t485 = true then ((spec_l21Check.f k l0 a2_0 a2_1 a2_2).bind fun t486 => (if t486 = true then (if (l1.length : Int) ≥ 60 then (some (([] : List (S53)), 5)) else (spec_AddCheck.l0 k l0 l1 (l1.length : Int) a2_0 a2_1 a2_2)) else (some (([] : List (S53)), 2)))) else (some (([] : List (S53)), 1)))) = some (r1, r2) := h
 clear h
 replace H := Option.bind_eq_some_iff.mp H
 obtain ⟨t485, A40, H⟩ := H
 replace H : (if t485 = true then ((spec_l21Check.f k l0 a2_0 a2_1 a2_2).bind fun t486 => (if t486 = true then (if (l1.length : Int) ≥ 60 then (some (([] : List (S53)), 5)) else (spec_AddCheck.l0 k l0 l1 (l1.length : Int) a2_0 a2_1 a2_2)) else (some (([] : List (S53)), 2)))) else (some (([] : List (S53)), 1))) = some (r1, r2) := H
 have A4 := Aside0.mk A40
 clear A40
 by_cases c5 : t485 = true
 ·subst c5
  have H1 : ((spec_l21Check.f k l0 a2_0 a2_1 a2_2).bind fun t486 => (if t486 = true then (if (l1.length : Int) ≥ 60 then (some (([] : List (S53)), 5)) else (spec_AddCheck.l0 k l0 l1 (l1.length : Int) a2_0 a2_1 a2_2)) else (some (([] : List (S53)), 2)))) = some (r1, r2) := by rw [if_pos rfl] at H; exact H
  clear H
  have H := H1
  clear H1
  replace H := Option.bind_eq_some_iff.mp H
  obtain ⟨t486, A60, H⟩ := H
  replace H : (if t486 = true then (if (l1.length : Int) ≥ 60 then (some (([] : List (S53)), 5)) else (spec_AddCheck.l0 k l0 l1 (l1.length : Int) a2_0 a2_1 a2_2)) else (some (([] : List (S53)), 2))) = some (r1, r2) := H
  have A6 := Aside0.mk A60
  clear A60
  by_cases c7 : t486 = true
  ·subst c7
   have H1 : (if (l1.length : Int) ≥ 60 then (some (([] : List (S53)), 5)) else (spec_AddCheck.l0 k l0 l1 (l1.length : Int) a2_0 a2_1 a2_2)) = some (r1, r2) := by rw [if_pos rfl] at H; exact H
   clear H
   have H := H1
   clear H1
   by_cases c8 : (l1.length : Int) ≥ 60
   ·rw [if_pos c8] at H
    have c8b0 : decide (60 ≤ (l1.length : Int)) = true := decide_eq_true c8
    have c8b1 : decide (60 ≤ l1.length) = true := decide_eq_true (by omega)
    clear c8
    simp only [Option.some.injEq, Prod.mk.injEq] at H
    obtain ⟨rfl, rfl⟩ := H
    go_enter Try.func38, Try.ntmps38
    go_wp2_with (first | ((with_reducible refine gate_dst (N := 5) rfl ?_); refine box_event ?hg (N := 5) ?hd (cs := #[.string a2_0, .int .i64 a2_1, .int .i64 a2_2]) (t := 53) ?hr ?_; (case hd => rfl); (case hg => rfl); (case hr => first | (go_simp; done) | (go_simp; rfl)); intro gb484 hg w9 hbox hb; have n0_ := Aside0.mk (below_step hb_ hb); have n1_ := Aside0.mk (hbox); have n2_ := Aside0.mk ((by rw [hg]; exact (below_size hb_) : w.heap.size ≤ gb484)); have n3_ := Aside0.mk ((by rw [hg]; exact (below_size hb_) : w.heap.size ≤ gb484)); clear HB; have HB := n0_; have BK484 := n1_; have GW484 := n2_; have GE484 := n3_; clear n0_ n1_ n2_ n3_; clear hb hbox hg) | ((with_reducible refine gate_callee (f := 63) rfl ?_); refine goesL_ (some 12) rfl rfl Try.func63 (by kernel_rfl) rfl #[.slice A0 l0.length c0, .slice A1 l1.length c1] rfl ln_ ?_; (with_reducible refine (spec_l21Checks.calls k _ _ l0 _ _ l1 true _ ?side1 ?side2 ?side3 ?side4 A4.out).mono ?_); (case side1 => exact kc_ (Kd.C_below HR0.out HB.out)); (case side2 => exact HC0.out); (case side3 => exact kc_ (Kd.C_below HR1.out HB.out)); (case side4 => exact HC1.out); rintro e w10 ⟨rfl, hb⟩; refine ⟨_, rfl, ?_⟩; have n0_ := Aside0.mk (blk_below (g := gb484) (o := .cells #[.string a2_0, .int .i64 a2_1, .int .i64 a2_2] 53 (0, 0)) (bk_ BK484) hb); have n1_ := Aside0.mk (below_step (hg_ GE484) hb); clear BK484; clear HB; have BK484 := n0_; have HB := n1_; clear n0_ n1_; (try clear hb); (try clear hb2); (try clear hk); (try clear hi)) | ((with_reducible refine gate_callee (f := 75) rfl ?_); refine goesL_ (some 15) rfl rfl Try.func75 (by kernel_rfl) rfl #[.slice A0 l0.length c0, .pointer (some ⟨gb484, 0, none⟩)] rfl ln_ ?_; (with_reducible refine (spec_l21Check.calls k _ _ l0 _ a2_0 a2_1 a2_2 true _ ?side1 ?side2 ?side3 ?side4 ?side5 A6.out).mono ?_); (case side1 => exact kc_ (Kd.C_below HR0.out HB.out)); (case side2 => exact HC0.out); (case side3 => exact (blk_cell (cs := #[.string a2_0, .int .i64 a2_1, .int .i64 a2_2]) (bk_ BK484) 0).trans rfl); (case side4 => exact (blk_cell (cs := #[.string a2_0, .int .i64 a2_1, .int .i64 a2_2]) (bk_ BK484) 1).trans rfl); (case side5 => exact (blk_cell (cs := #[.string a2_0, .int .i64 a2_1, .int .i64 a2_2]) (bk_ BK484) 2).trans rfl); rintro e w11 ⟨rfl, hb⟩; refine ⟨_, rfl, ?_⟩; have n0_ := Aside0.mk (blk_below (g := gb484) (o := .cells #[.string a2_0, .int .i64 a2_1, .int .i64 a2_2] 53 (0, 0)) (bk_ BK484) hb); have n1_ := Aside0.mk (below_step (hg_ GE484) hb); clear BK484; clear HB; have BK484 := n0_; have HB := n1_; clear n0_ n1_; (try clear hb); (try clear hb2); (try clear hk); (try clear hi)))
    go_ret2
    exact ⟨_, ew_, by first | exact Kd.R_nil _ _ _ _ _ | exact Kd.N_nil _ _ _ _ _ | exact Kd.V_nil _ _ _ _ _ | exact Kd.Q_nil _ _ _ _ _ | exact Kd.S_nil _ _ _ _ _, (hg_ GE484)⟩
   ·rw [if_neg c8] at H
    have c8b0 : decide (60 ≤ (l1.length : Int)) = false := decide_eq_false c8
    have c8b1 : decide (60 ≤ l1.length) = false := decide_eq_false (by omega)
    clear c8
    have H' := Aside0.mk H
    clear H
    go_enter Try.func38, Try.ntmps38
    go_wp2_with (first | ((with_reducible refine gate_dst (N := 5) rfl ?_); refine box_event ?hg (N := 5) ?hd (cs := #[.string a2_0, .int .i64 a2_1, .int .i64 a2_2]) (t := 53) ?hr ?_; (case hd => rfl); (case hg => rfl); (case hr => first | (go_simp; done) | (go_simp; rfl)); intro gb484 hg w12 hbox hb; have n0_ := Aside0.mk (below_step hb_ hb); have n1_ := Aside0.mk (hbox); have n2_ := Aside0.mk ((by rw [hg]; exact (below_size hb_) : w.heap.size ≤ gb484)); have n3_ := Aside0.mk ((by rw [hg]; exact (below_size hb_) : w.heap.size ≤ gb484)); clear HB; have HB := n0_; have BK484 := n1_; have GW484 := n2_; have GE484 := n3_; clear n0_ n1_ n2_ n3_; clear hb hbox hg) | ((with_reducible refine gate_callee (f := 63) rfl ?_); refine goesL_ (some 12) rfl rfl Try.func63 (by kernel_rfl) rfl #[.slice A0 l0.length c0, .slice A1 l1.length c1] rfl ln_ ?_; (with_reducible refine (spec_l21Checks.calls k _ _ l0 _ _ l1 true _ ?side1 ?side2 ?side3 ?side4 A4.out).mono ?_); (case side1 => exact kc_ (Kd.C_below HR0.out HB.out)); (case side2 => exact HC0.out); (case side3 => exact kc_ (Kd.C_below HR1.out HB.out)); (case side4 => exact HC1.out); rintro e w13 ⟨rfl, hb⟩; refine ⟨_, rfl, ?_⟩; have n0_ := Aside0.mk (blk_below (g := gb484) (o := .cells #[.string a2_0, .int .i64 a2_1, .int .i64 a2_2] 53 (0, 0)) (bk_ BK484) hb); have n1_ := Aside0.mk (below_step (hg_ GE484) hb); clear BK484; clear HB; have BK484 := n0_; have HB := n1_; clear n0_ n1_; (try clear hb); (try clear hb2); (try clear hk); (try clear hi)) | ((with_reducible refine gate_callee (f := 75) rfl ?_); refine goesL_ (some 15) rfl rfl Try.func75 (by kernel_rfl) rfl #[.slice A0 l0.length c0, .pointer (some ⟨gb484, 0, none⟩)] rfl ln_ ?_; (with_reducible refine (spec_l21Check.calls k _ _ l0 _ a2_0 a2_1 a2_2 true _ ?side1 ?side2 ?side3 ?side4 ?side5 A6.out).mono ?_); (case side1 => exact kc_ (Kd.C_below HR0.out HB.out)); (case side2 => exact HC0.out); (case side3 => exact (blk_cell (cs := #[.string a2_0, .int .i64 a2_1, .int .i64 a2_2]) (bk_ BK484) 0).trans rfl); (case side4 => exact (blk_cell (cs := #[.string a2_0, .int .i64 a2_1, .int .i64 a2_2]) (bk_ BK484) 1).trans rfl); (case side5 => exact (blk_cell (cs := #[.string a2_0, .int .i64 a2_1, .int .i64 a2_2]) (bk_ BK484) 2).trans rfl); rintro e w14 ⟨rfl, hb⟩; refine ⟨_, rfl, ?_⟩; have n0_ := Aside0.mk (blk_below (g := gb484) (o := .cells #[.string a2_0, .int .i64 a2_1, .int .i64 a2_2] 53 (0, 0)) (bk_ BK484) hb); have n1_ := Aside0.mk (below_step (hg_ GE484) hb); clear BK484; clear HB; have BK484 := n0_; have HB := n1_; clear n0_ n1_; (try clear hb); (try clear hb2); (try clear hk); (try clear hi)))
    go_loopg [8] k (fun kq v8 w' => ∃ (x8_1 : Int), v8 = .int .i64 x8_1 ∧ Aside0 (spec_AddCheck.l0 kq l0 l1 x8_1 a2_0 a2_1 a2_2 = some (r1, r2)) ∧ Aside0 (kq ≤ k) ∧ Aside0 (w'.heap[gb484]? = some (.cells #[.string a2_0, .int .i64 a2_1, .int .i64 a2_2] 53 (0, 0))) ∧ Aside0 (Below w.heap.size w w'))
    case atStart => exact ⟨((l1.length : Int)), (by first | rfl | (simp; done) | (simp [*]; done)), H', ⟨Nat.le_refl _⟩, ⟨by (with_reducible repeat (first | refine blk_drewN ?_ _ | refine blk_drew ?_ | refine blk_alloc ?_ _)); exact BK484.out⟩, ⟨(hg_ GE484)⟩⟩
    case round =>
     clear H'
     try clear c1
     try clear p2
     try clear c3
     try clear c5
     try clear c6
     try clear c7
     try clear c8
     try clear c8b0
     try clear c8b1
     obtain ⟨x8_1, rfl, HA, HK1, BK484, HB⟩ := hrel
     cases gk with
     | zero => exact absurd HA.out (by simp [spec_AddCheck.l0])
     | succ k1 =>
      have H := HA.out
      clear HA
      simp only [spec_AddCheck.l0] at H
      by_cases c15 : x8_1 > 0
      ·rw [if_pos c15] at H
       have c15b0 : decide (0 < x8_1) = true := decide_eq_true c15
       clear c15
       obtain ⟨ji16, hji16⟩ : ∃ j_ : Int, (wrap64 (x8_1 - 1)) = j_ := ⟨_, rfl⟩
       replace H : (if 0 ≤ (ji16) then (if (ji16) < (l1.length : Int) then (if ((rd_T53 l1 (ji16)).f1) > a2_1 then (spec_AddCheck.l0 k1 l0 l1 ji16 a2_0 a2_1 a2_2) else ((some (([] : List (S53)) : List (S53))).bind fun y488 => (if 0 ≤ x8_1 then (if x8_1 ≤ (l1.length : Int) then ((some (l1.take (x8_1 : Int).toNat : List (S53))).bind fun y491 => (if y488.length + y491.length < 4398046511104 then ((some (y488 ++ y491 : List (S53))).bind fun y495 => (if y495.length < 4398046511104 then ((some (y495 ++ [(⟨a2_0, a2_1, a2_2⟩ : S53)] : List (S53))).bind fun y498 => ((some (l1.drop (x8_1 : Int).toNat : List (S53))).bind fun y501 => (if y498.length + y501.length < 4398046511104 then ((some (y498 ++ y501 : List (S53))).bind fun y505 => ((spec_l21Checks.f k1 l0 y505).bind fun t508 => (if t508 = true then (some (y505, 0)) else (some (([] : List (S53)), 9))))) else (none)))) else (none))) else (none))) else (none)) else (none)))) else (none)) else (none)) = some (r1, r2) := by first | (rw [hji16] at H; exact H) | (simp only [hji16] at H ⊢; exact H)
       have hji16w : (IntKind.i64.wrap (x8_1 - 1)) = ji16 := (i64_w _).trans hji16
       by_cases c17 : 0 ≤ (ji16)
       ·rw [if_pos c17] at H
        have c17b0 : decide (0 ≤ (ji16)) = true := decide_eq_true c17
        clear c17
        by_cases c18 : (ji16) < (l1.length : Int)
        ·rw [if_pos c18] at H
         have c18b0 : decide ((ji16) < (l1.length : Int)) = true := decide_eq_true c18
         clear c18
         by_cases c19 : ((rd_T53 l1 (ji16)).f1) > a2_1
         ·rw [if_pos c19] at H
          have c19b0 : decide (a2_1 < ((rd_T53 l1 (ji16)).f1)) = true := decide_eq_true c19
          clear c19
          have H' := Aside0.mk H
          clear H
          try go_wp2
          have n0_ := Aside0.mk (blk_drew BK484.out)
          have n1_ := Aside0.mk (below_drew1 HB.out)
          clear BK484
          clear HB
          have BK484 := n0_
          have HB := n1_
          clear n0_ n1_
          have p487 : 0 ≤ ((ji16) : Int) := od_
          have q487 : (ji16) < (l1.length : Int) := od_
          obtain ⟨ad487, e487, hx487_0, hx487_1, hx487_2⟩ := at_T53 HR1.out (ji16) p487 q487
          have hw487_2 := hx487_2
          have hw487_1 := hx487_1
          have hw487_0 := hx487_0
          cases e487
          replace hx487_0 := cq_ HB hx487_0
          replace hx487_1 := cq_ HB hx487_1
          replace hx487_2 := cq_ HB hx487_2
          replace p487 := eq_true p487
          replace q487 := eq_true q487
          refine start_ (n := 13) (S := fun w' => w'.cell? ⟨gb484, 0, none⟩ = some (.string a2_0) ∧ w'.cell? ⟨gb484, 1, none⟩ = some (.int .i64 a2_1) ∧ w'.cell? ⟨gb484, 2, none⟩ = some (.int .i64 a2_2) ∧ w'.cell? (ad487.add (((ji16)).toNat * 3)) = some (.string ((rd_T53 l1 (ji16)).f0)) ∧ w'.cell? ⟨(ad487.add (((ji16)).toNat * 3)).block, (ad487.add (((ji16)).toNat * 3)).off + 1, none⟩ = some (.int .i64 ((rd_T53 l1 (ji16)).f1)) ∧ w'.cell? ⟨(ad487.add (((ji16)).toNat * 3)).block, (ad487.add (((ji16)).toNat * 3)).off + 2, none⟩ = some (.int .i64 ((rd_T53 l1 (ji16)).f2))) (ds := []) #[F_,F_,F_,F_,F_,F_,F_,F_,F_,F_,F_,F_,F_] (by kernel_rfl) rfl rfl ⟨(blk_cell BK484.out 0).trans rfl, (blk_cell BK484.out 1).trans rfl, (blk_cell BK484.out 2).trans rfl, ((HB.out.cell (World.block_lt_of_cell? w _ hw487_0)).trans hw487_0), ((HB.out.cell (World.block_lt_of_cell? w _ hw487_1)).trans hw487_1), ((HB.out.cell (World.block_lt_of_cell? w _ hw487_2)).trans hw487_2)⟩ (fun hHeld => ?_); refine with_tabW spec_AddCheck.tab8 spec_AddCheck.bits8 (fun HT_ HW_ => ?_)
          generalize wr.drew = w20 at BK484 HB hx487_0 hx487_1 hx487_2 hHeld ⊢
          refine pu (i := 0) (N := some 22) #[T_,F_,F_,F_,F_,F_,F_,F_,F_,F_,F_,F_,F_] HT_ ?_
          refine pu (i := 1) (N := some 23) #[T_,T_,F_,F_,F_,F_,F_,F_,F_,F_,F_,F_,F_] HT_ ?_
          refine pu (i := 2) (N := some 24) #[T_,T_,T_,F_,F_,F_,F_,F_,F_,F_,F_,F_,F_] HT_ ?_
          refine pu (i := 3) (N := some 25) #[T_,T_,T_,T_,F_,F_,F_,F_,F_,F_,F_,F_,F_] HT_ ?_
          refine pu (i := 4) (N := some 26) #[T_,T_,T_,T_,T_,F_,F_,F_,F_,F_,F_,F_,F_] HT_ ?_
          refine pu (i := 5) (N := some 27) #[T_,T_,T_,T_,T_,T_,F_,F_,F_,F_,F_,F_,F_] HT_ ?_
          refine pu (i := 6) (N := some 28) #[T_,T_,T_,T_,T_,T_,T_,F_,F_,F_,F_,F_,F_] HT_ ?_
          refine pu (i := 7) (N := some 29) #[T_,T_,T_,T_,T_,T_,T_,T_,F_,F_,F_,F_,F_] HT_ ?_
          refine pu (i := 9) (N := some 31) #[T_,T_,T_,T_,T_,T_,T_,T_,F_,T_,F_,F_,F_] HT_ ?_
          refine take_ (i := 8) (N := some 30) (v := ?_) (a' := ?_) #[T_,T_,T_,T_,T_,T_,T_,T_,T_,T_,F_,F_,F_] rfl rfl (take_ofW HT_.out HW_.out (by kernel_rfl)) (fun _ _ _ h => h) (Or.inl ⟨by rfl, ?_⟩) hHeld ?_ ?_
          rotate_left
          ·rintro w' ⟨s0, s1, s2, s3, s4, s5⟩
           go_simp
           with_reducible rfl
          rotate_left
          ·simp only [Act.put, sT_, s0_, sS_, i64_w, i32_w]
           rfl
          refine take_ (i := 10) (N := some 32) (v := ?_) (a' := ?_) #[T_,T_,T_,T_,T_,T_,T_,T_,T_,T_,T_,F_,F_] rfl rfl (take_ofW HT_.out HW_.out (by kernel_rfl)) (fun _ _ _ h => h) (Or.inl ⟨by rfl, ?_⟩) hHeld ?_ ?_
          rotate_left
          ·rintro w' ⟨s0, s1, s2, s3, s4, s5⟩
           go_simp
           with_reducible rfl
          rotate_left
          ·simp only [Act.put, sT_, s0_, sS_, i64_w, i32_w]
           rfl
          refine pu (i := 11) (N := some 33) #[T_,T_,T_,T_,T_,T_,T_,T_,T_,T_,T_,T_,F_] HT_ ?_
          refine pu (i := 12) (N := some 34) #[T_,T_,T_,T_,T_,T_,T_,T_,T_,T_,T_,T_,T_] HT_ ?_
          refine done_ (done_of HT_.out (by kernel_rfl)) ?_
          try go_wp2
          go_roundg k1
          case measure => have := HK1.out; omega
          case rel => exact ⟨(ji16), (by first | rfl | (simp; done) | (simp only [← hji16] <;> (first | rfl | simp)) | (simp [*]; done)), H', ⟨by have := HK1.out; omega⟩, ⟨by (with_reducible repeat (first | refine blk_drewN ?_ _ | refine blk_drew ?_ | refine blk_alloc ?_ _)); exact BK484.out⟩, ⟨(hg_ GE484)⟩⟩
         ·rw [if_neg c19] at H
          have c19b0 : decide (a2_1 < ((rd_T53 l1 (ji16)).f1)) = false := decide_eq_false c19
          clear c19
          obtain ⟨y488, hy488⟩ : ∃ y_ : List (S53), y_ = (([] : List (S53))) := ⟨_, rfl⟩
          replace H : (if 0 ≤ x8_1 then (if x8_1 ≤ (l1.length : Int) then ((some (l1.take (x8_1 : Int).toNat : List (S53))).bind fun y491 => (if y488.length + y491.length < 4398046511104 then ((some (y488 ++ y491 : List (S53))).bind fun y495 => (if y495.length < 4398046511104 then ((some (y495 ++ [(⟨a2_0, a2_1, a2_2⟩ : S53)] : List (S53))).bind fun y498 => ((some (l1.drop (x8_1 : Int).toNat : List (S53))).bind fun y501 => (if y498.length + y501.length < 4398046511104 then ((some (y498 ++ y501 : List (S53))).bind fun y505 => ((spec_l21Checks.f k1 l0 y505).bind fun t508 => (if t508 = true then (some (y505, 0)) else (some (([] : List (S53)), 9))))) else (none)))) else (none))) else (none))) else (none)) else (none)) = some (r1, r2) := by first | (rw [hy488]; with_reducible exact H) | (have H2_ := (Option.bind_some _ _).symm.trans H; rw [hy488]; with_reducible exact H2_) | (have H2_ := (Option.bind_some _ _).symm.trans H; with_reducible exact H2_) | with_reducible exact H | (rw [hy488]; exact H) | exact H
          have Ny488 := Aside0.mk hy488
          clear hy488
          by_cases c21 : 0 ≤ x8_1
          ·rw [if_pos c21] at H
           have c21b0 := eq_true c21
           have c21b1 : decide (0 ≤ x8_1) = true := decide_eq_true c21
           clear c21
           by_cases c22 : x8_1 ≤ (l1.length : Int)
           ·rw [if_pos c22] at H
            have c22b0 := eq_true c22
            have c22b1 : decide (x8_1 ≤ (l1.length : Int)) = true := decide_eq_true c22
            clear c22
            obtain ⟨y491, hy491⟩ : ∃ y_ : List (S53), y_ = (l1.take (x8_1 : Int).toNat) := ⟨_, rfl⟩
            replace H : (if y488.length + y491.length < 4398046511104 then ((some (y488 ++ y491 : List (S53))).bind fun y495 => (if y495.length < 4398046511104 then ((some (y495 ++ [(⟨a2_0, a2_1, a2_2⟩ : S53)] : List (S53))).bind fun y498 => ((some (l1.drop (x8_1 : Int).toNat : List (S53))).bind fun y501 => (if y498.length + y501.length < 4398046511104 then ((some (y498 ++ y501 : List (S53))).bind fun y505 => ((spec_l21Checks.f k1 l0 y505).bind fun t508 => (if t508 = true then (some (y505, 0)) else (some (([] : List (S53)), 9))))) else (none)))) else (none))) else (none)) = some (r1, r2) := by first | (rw [hy491]; with_reducible exact H) | (have H2_ := (Option.bind_some _ _).symm.trans H; rw [hy491]; with_reducible exact H2_) | (have H2_ := (Option.bind_some _ _).symm.trans H; with_reducible exact H2_) | with_reducible exact H | (rw [hy491]; exact H) | exact H
            have Ny491 := Aside0.mk hy491
            clear hy491
            by_cases c23 : y488.length + y491.length < 4398046511104
            ·rw [if_pos c23] at H
             have LMc23 := Aside0.mk c23
             clear c23
             obtain ⟨y495, hy495⟩ : ∃ y_ : List (S53), y_ = (y488 ++ y491) := ⟨_, rfl⟩
             replace H : (if y495.length < 4398046511104 then ((some (y495 ++ [(⟨a2_0, a2_1, a2_2⟩ : S53)] : List (S53))).bind fun y498 => ((some (l1.drop (x8_1 : Int).toNat : List (S53))).bind fun y501 => (if y498.length + y501.length < 4398046511104 then ((some (y498 ++ y501 : List (S53))).bind fun y505 => ((spec_l21Checks.f k1 l0 y505).bind fun t508 => (if t508 = true then (some (y505, 0)) else (some (([] : List (S53)), 9))))) else (none)))) else (none)) = some (r1, r2) := by first | (rw [hy495]; with_reducible exact H) | (have H2_ := (Option.bind_some _ _).symm.trans H; rw [hy495]; with_reducible exact H2_) | (have H2_ := (Option.bind_some _ _).symm.trans H; with_reducible exact H2_) | with_reducible exact H | (rw [hy495]; exact H) | exact H
             have Ny495 := Aside0.mk hy495
             clear hy495
             by_cases c24 : y495.length < 4398046511104
             ·rw [if_pos c24] at H
              have LMc24 := Aside0.mk c24
              clear c24
              obtain ⟨y498, hy498⟩ : ∃ y_ : List (S53), y_ = (y495 ++ [(⟨a2_0, a2_1, a2_2⟩ : S53)]) := ⟨_, rfl⟩
              replace H : ((some (l1.drop (x8_1 : Int).toNat : List (S53))).bind fun y501 => (if y498.length + y501.length < 4398046511104 then ((some (y498 ++ y501 : List (S53))).bind fun y505 => ((spec_l21Checks.f k1 l0 y505).bind fun t508 => (if t508 = true then (some (y505, 0)) else (some (([] : List (S53)), 9))))) else (none))) = some (r1, r2) := by first | (rw [hy498]; with_reducible exact H) | (have H2_ := (Option.bind_some _ _).symm.trans H; rw [hy498]; with_reducible exact H2_) | (have H2_ := (Option.bind_some _ _).symm.trans H; with_reducible exact H2_) | with_reducible exact H | (rw [hy498]; exact H) | exact H
              have Ny498 := Aside0.mk hy498
              clear hy498
              have c25b0 := eq_true (od_ : 0 ≤ x8_1)
              have c26b0 := eq_true (od_ : x8_1 ≤ (l1.length : Int))
              obtain ⟨y501, hy501⟩ : ∃ y_ : List (S53), y_ = (l1.drop (x8_1 : Int).toNat) := ⟨_, rfl⟩
              replace H : (if y498.length + y501.length < 4398046511104 then ((some (y498 ++ y501 : List (S53))).bind fun y505 => ((spec_l21Checks.f k1 l0 y505).bind fun t508 => (if t508 = true then (some (y505, 0)) else (some (([] : List (S53)), 9))))) else (none)) = some (r1, r2) := by first | (rw [hy501]; with_reducible exact H) | (have H2_ := (Option.bind_some _ _).symm.trans H; rw [hy501]; with_reducible exact H2_) | (have H2_ := (Option.bind_some _ _).symm.trans H; with_reducible exact H2_) | with_reducible exact H | (rw [hy501]; exact H) | exact H
              have Ny501 := Aside0.mk hy501
              clear hy501
              by_cases c27 : y498.length + y501.length < 4398046511104
              ·rw [if_pos c27] at H
               have LMc27 := Aside0.mk c27
               clear c27
               obtain ⟨y505, hy505⟩ : ∃ y_ : List (S53), y_ = (y498 ++ y501) := ⟨_, rfl⟩
               replace H : ((spec_l21Checks.f k1 l0 y505).bind fun t508 => (if t508 = true then (some (y505, 0)) else (some (([] : List (S53)), 9)))) = some (r1, r2) := by first | (rw [hy505]; with_reducible exact H) | (have H2_ := (Option.bind_some _ _).symm.trans H; rw [hy505]; with_reducible exact H2_) | (have H2_ := (Option.bind_some _ _).symm.trans H; with_reducible exact H2_) | with_reducible exact H | (rw [hy505]; exact H) | exact H
               have Ny505 := Aside0.mk hy505
               clear hy505
               replace H := Option.bind_eq_some_iff.mp H
               obtain ⟨t508, A280, H⟩ := H
               replace H : (if t508 = true then (some (y505, 0)) else (some (([] : List (S53)), 9))) = some (r1, r2) := H
               have A28 := Aside0.mk A280
               clear A280
               by_cases c29 : t508 = true
               ·subst c29
                have H1 : (some (y505, 0)) = some (r1, r2) := by rw [if_pos rfl] at H; exact H
                clear H
                have H := H1
                clear H1
                simp only [Option.some.injEq, Prod.mk.injEq] at H
                obtain ⟨rfl, rfl⟩ := H
                try go_wp2
                have n0_ := Aside0.mk (blk_drew BK484.out)
                have n1_ := Aside0.mk (below_drew1 HB.out)
                clear BK484
                clear HB
                have BK484 := n0_
                have HB := n1_
                clear n0_ n1_
                have p487 : 0 ≤ ((ji16) : Int) := od_
                have q487 : (ji16) < (l1.length : Int) := od_
                obtain ⟨ad487, e487, hx487_0, hx487_1, hx487_2⟩ := at_T53 HR1.out (ji16) p487 q487
                have hw487_2 := hx487_2
                have hw487_1 := hx487_1
                have hw487_0 := hx487_0
                cases e487
                replace hx487_0 := cq_ HB hx487_0
                replace hx487_1 := cq_ HB hx487_1
                replace hx487_2 := cq_ HB hx487_2
                replace p487 := eq_true p487
                replace q487 := eq_true q487
                refine start_ (n := 13) (S := fun w' => w'.cell? ⟨gb484, 0, none⟩ = some (.string a2_0) ∧ w'.cell? ⟨gb484, 1, none⟩ = some (.int .i64 a2_1) ∧ w'.cell? ⟨gb484, 2, none⟩ = some (.int .i64 a2_2) ∧ w'.cell? (ad487.add (((ji16)).toNat * 3)) = some (.string ((rd_T53 l1 (ji16)).f0)) ∧ w'.cell? ⟨(ad487.add (((ji16)).toNat * 3)).block, (ad487.add (((ji16)).toNat * 3)).off + 1, none⟩ = some (.int .i64 ((rd_T53 l1 (ji16)).f1)) ∧ w'.cell? ⟨(ad487.add (((ji16)).toNat * 3)).block, (ad487.add (((ji16)).toNat * 3)).off + 2, none⟩ = some (.int .i64 ((rd_T53 l1 (ji16)).f2))) (ds := []) #[F_,F_,F_,F_,F_,F_,F_,F_,F_,F_,F_,F_,F_] (by kernel_rfl) rfl rfl ⟨(blk_cell BK484.out 0).trans rfl, (blk_cell BK484.out 1).trans rfl, (blk_cell BK484.out 2).trans rfl, ((HB.out.cell (World.block_lt_of_cell? w _ hw487_0)).trans hw487_0), ((HB.out.cell (World.block_lt_of_cell? w _ hw487_1)).trans hw487_1), ((HB.out.cell (World.block_lt_of_cell? w _ hw487_2)).trans hw487_2)⟩ (fun hHeld => ?_); refine with_tabW spec_AddCheck.tab8 spec_AddCheck.bits8 (fun HT_ HW_ => ?_)
                generalize wr.drew = w30 at BK484 HB hx487_0 hx487_1 hx487_2 hHeld ⊢
                refine pu (i := 0) (N := some 22) #[T_,F_,F_,F_,F_,F_,F_,F_,F_,F_,F_,F_,F_] HT_ ?_
                refine pu (i := 1) (N := some 23) #[T_,T_,F_,F_,F_,F_,F_,F_,F_,F_,F_,F_,F_] HT_ ?_
                refine pu (i := 2) (N := some 24) #[T_,T_,T_,F_,F_,F_,F_,F_,F_,F_,F_,F_,F_] HT_ ?_
                refine pu (i := 3) (N := some 25) #[T_,T_,T_,T_,F_,F_,F_,F_,F_,F_,F_,F_,F_] HT_ ?_
                refine pu (i := 4) (N := some 26) #[T_,T_,T_,T_,T_,F_,F_,F_,F_,F_,F_,F_,F_] HT_ ?_
                refine pu (i := 5) (N := some 27) #[T_,T_,T_,T_,T_,T_,F_,F_,F_,F_,F_,F_,F_] HT_ ?_
                refine pu (i := 6) (N := some 28) #[T_,T_,T_,T_,T_,T_,T_,F_,F_,F_,F_,F_,F_] HT_ ?_
                refine pu (i := 7) (N := some 29) #[T_,T_,T_,T_,T_,T_,T_,T_,F_,F_,F_,F_,F_] HT_ ?_
                refine pu (i := 9) (N := some 31) #[T_,T_,T_,T_,T_,T_,T_,T_,F_,T_,F_,F_,F_] HT_ ?_
                refine take_ (i := 8) (N := some 30) (v := ?_) (a' := ?_) #[T_,T_,T_,T_,T_,T_,T_,T_,T_,T_,F_,F_,F_] rfl rfl (take_ofW HT_.out HW_.out (by kernel_rfl)) (fun _ _ _ h => h) (Or.inl ⟨by rfl, ?_⟩) hHeld ?_ ?_
                rotate_left
                ·rintro w' ⟨s0, s1, s2, s3, s4, s5⟩
                 go_simp
                 with_reducible rfl
                rotate_left
                ·simp only [Act.put, sT_, s0_, sS_, i64_w, i32_w]
                 rfl
                refine take_ (i := 10) (N := some 32) (v := ?_) (a' := ?_) #[T_,T_,T_,T_,T_,T_,T_,T_,T_,T_,T_,F_,F_] rfl rfl (take_ofW HT_.out HW_.out (by kernel_rfl)) (fun _ _ _ h => h) (Or.inl ⟨by rfl, ?_⟩) hHeld ?_ ?_
                rotate_left
                ·rintro w' ⟨s0, s1, s2, s3, s4, s5⟩
                 go_simp
                 with_reducible rfl
                rotate_left
                ·simp only [Act.put, sT_, s0_, sS_, i64_w, i32_w]
                 rfl
                refine pu (i := 11) (N := some 33) #[T_,T_,T_,T_,T_,T_,T_,T_,T_,T_,T_,T_,F_] HT_ ?_
                refine pu (i := 12) (N := some 34) #[T_,T_,T_,T_,T_,T_,T_,T_,T_,T_,T_,T_,T_] HT_ ?_
                refine done_ (done_of HT_.out (by kernel_rfl)) ?_
                try go_wp2_with (first | ((with_reducible refine gate_dst (N := 37) rfl ?_); refine Kd.R_lit k53 _ 53 ?hg (N := 37) ?hd (xs := ([] : List (S53))) (inner := []) (ok := fun _ => True) (okp := fun _ => True) ?hr ?hp (fun _ hk => hk) trivial (Below.refl _ _) (Nat.le_refl _) (by simp) ?_; (case hd => rfl); (case hg => rfl); (case hr => first | (go_simp; done) | (go_simp; rfl)); (case hp => exact (Reps.none _ _)); intro v489 w31 ho32 hb hg_ hnew_; clear hg_ hnew_; (first | rw [← Ny488.out] at ho32 | (simp only [Int.reduceToNat] at ho32; rw [← Ny488.out] at ho32)); have n0_ := Aside0.mk (Kd.R_lower (Kd.R_newB ho32 (g := gb484) (o := .cells #[.string a2_0, .int .i64 a2_1, .int .i64 a2_2] 53 (0, 0)) (bk_ BK484)) (below_size (hg_ GE484))); have n1_ := Aside0.mk (blk_below (g := gb484) (o := .cells #[.string a2_0, .int .i64 a2_1, .int .i64 a2_2] 53 (0, 0)) (bk_ BK484) hb); have n2_ := Aside0.mk (below_step (hg_ GE484) hb); clear BK484; clear HB; have HO490 := n0_; have BK484 := n1_; have HB := n2_; clear n0_ n1_ n2_; clear hb ho32; have q33 : (x8_1 : Int) ≤ ((l1.length : Int) : Int) := od_; obtain ⟨i033, hi033, _, hsz33, _⟩ := info_parts info53; have hroom33 : l1.length ≤ c1 := HC1.out; have hC33 : Kd.C k53 _ (some ad487) l1.length l1 := HR1.out; have hcut33 := cut_to (P := Try.prog) 25 53 .i64 Try.underlying25 hi033 (some ad487) l1.length c1 x8_1 (od_) q33 hroom33; have hr33 := Kd.C_take (m := (x8_1 : Int).toNat) hC33 (by omega); have hy33 : y491.length = (x8_1 : Int).toNat := (by rw [Ny491.out, List.length_take]; omega); rw [← Ny491.out] at hr33; rw [← hy33] at hcut33; have HR494 := Aside0.mk hr33; have HC494 := Aside0.mk (show y491.length ≤ c1 from by omega); clear hr33 hC33 hroom33 hi033 hsz33; have KY33 := Aside0.mk hy33; clear hy33; replace q33 := eq_true q33) | ((with_reducible refine gate_builtin (b := .append) (xs := #[.tmp 37, .tmp 40]) rfl ?_); at_builtin; refine Kd.R_append_rows k53 (w0 := w) w.heap.size rfl (.tmp 37) (.tmp 40) 25 53 (.agg #[(.string ⟨#[]⟩), (.int .i64 0), (.int .i64 0)]) 32 rfl Try.underlying25 info53 rfl (by decide) (by omega) v489 y488 y491 _ _ _ (fun k_ => k_ ≠ gb484) (fun _ => False) rfl rfl ?aO ?aR (fun _ _ h => h) (fun _ h => h.elim) ?aF ?aB ?aS ?aL ?_; (case aR => exact kc_ (Kd.C_below HR494.out HB.out)); (case aB => exact (hg_ GE484)); (case aF => exact (fun k_ hk => Kd.freshB (g := gb484) (o := .cells #[.string a2_0, .int .i64 a2_1, .int .i64 a2_2] 53 (0, 0)) (bk_ BK484) k_ hk)); (case aO => exact (by (with_reducible repeat (first | apply Kd.R_alloc | apply Kd.R_drewN | apply Kd.R_drew)); exact Kd.R_mono HO490.out (fun _ hk => hk.2))); (case aS => exact (below_size (hg_ GE484))); (case aL => have := LMc23.out; omega); intro v496 w34 ho hb hg hat; rw [← Ny495.out] at ho; have n0_ := Aside0.mk (blk_grown (g := gb484) (o := .cells #[.string a2_0, .int .i64 a2_1, .int .i64 a2_2] 53 (0, 0)) (bk_ BK484) hg (Kd.R_away HO490.out (fun _ hk => hk.2))); have n1_ := Aside0.mk (hb); have n2_ := Aside0.mk (ho); clear BK484; clear HB; clear HO490; have BK484 := n0_; have HB := n1_; have HO497 := n2_; clear n0_ n1_ n2_; clear ho hb hg hat; have hcz35_0 : w34.cell? ⟨gb484, 0, none⟩ = some (.string a2_0) := (blk_cell BK484.out 0).trans rfl; have hcz35_1 : w34.cell? ⟨gb484, 1, none⟩ = some (.int .i64 a2_1) := (blk_cell BK484.out 1).trans rfl; have hcz35_2 : w34.cell? ⟨gb484, 2, none⟩ = some (.int .i64 a2_2) := (blk_cell BK484.out 2).trans rfl; have hfz35_0 := blk_frozen BK484.out 0; have hfz35_1 := blk_frozen BK484.out 1; have hfz35_2 := blk_frozen BK484.out 2) | ((with_reducible refine gate_builtin (b := .append) (xs := #[.tmp 42, .tmp 44]) rfl ?_); at_builtin; refine Kd.R_append k53 (w0 := w) w.heap.size rfl (.tmp 42) (.tmp 44) 25 53 (.agg #[(.string ⟨#[]⟩), (.int .i64 0), (.int .i64 0)]) 32 rfl Try.underlying25 info53 rfl (by decide) (by omega) v496 y495 (⟨a2_0, a2_1, a2_2⟩ : S53) [.string a2_0, .int .i64 a2_1, .int .i64 a2_2] (fun k_ => k_ ≠ gb484) (fun _ => False) rfl rfl ?aP (fun _ hk => hk.elim) ?aF ?aO ?aB ?aS ?aL ?_; (case aP => exact k53_mkM _ _ _ (⟨a2_0, a2_1, a2_2⟩ : S53)); (case aB => exact (hg_ GE484)); (case aF => exact (fun k_ hk => Kd.freshB (g := gb484) (o := .cells #[.string a2_0, .int .i64 a2_1, .int .i64 a2_2] 53 (0, 0)) (bk_ BK484) k_ hk)); (case aO => exact (kr_ HO497)); (case aS => exact (below_size (hg_ GE484))); (case aL => have := LMc24.out; omega); intro v499 w36 ho hb hg hat; rw [← Ny498.out] at ho; have n0_ := Aside0.mk (blk_grown (g := gb484) (o := .cells #[.string a2_0, .int .i64 a2_1, .int .i64 a2_2] 53 (0, 0)) (bk_ BK484) hg (Kd.R_away HO497.out (fun _ hk => hk))); have n1_ := Aside0.mk (hb); have n2_ := Aside0.mk (ho); clear BK484; clear HB; clear HO497; have BK484 := n0_; have HB := n1_; have HO500 := n2_; clear n0_ n1_ n2_; clear ho hb hg hat; have q37 : (x8_1 : Int) ≤ ((l1.length : Int) : Int) := od_; obtain ⟨i037, hi037, _, hsz37, _⟩ := info_parts info53; have hroom37 : l1.length ≤ c1 := HC1.out; have hC37 : Kd.C k53 _ (some ad487) l1.length l1 := HR1.out; have q037 : (0 : Int) ≤ (x8_1 : Int) := od_; have hcut37 := cut_from (P := Try.prog) 25 53 .i64 Try.underlying25 hi037 3 hsz37 (some ad487) l1.length c1 x8_1 q037 q37; have hr37 := Kd.C_drop (m := (x8_1 : Int).toNat) (c := c1) hC37 (by omega) hroom37; obtain ⟨A37, hA37⟩ : ∃ Az_, Az_ = (if c1 = (x8_1 : Int).toNat then (some ad487) else ((some ad487) : Option Addr).map (·.add ((x8_1 : Int).toNat * 3))) := ⟨_, rfl⟩; obtain ⟨c37, hc37⟩ : ∃ cz_, cz_ = c1 - (x8_1 : Int).toNat := ⟨_, rfl⟩; have hy37 : y501.length = l1.length - (x8_1 : Int).toNat := (by rw [Ny501.out, List.length_drop] <;> omega); rw [show (l1).drop (x8_1 : Int).toNat = y501 from Ny501.out.symm] at hr37; replace hr37 : Kd.C k53 _ A37 y501.length y501 := (by rw [hA37]; exact hr37); rw [← hy37, ← hA37, ← hc37] at hcut37; have HR504 := Aside0.mk hr37; have HC504 := Aside0.mk (show y501.length ≤ c37 from by rw [hy37, hc37]; exact Nat.sub_le_sub_right hroom37 _); clear hr37 hC37 hroom37 hi037 hsz37 hc37; have KY37 := Aside0.mk hy37; have KA37 := Aside0.mk hA37; clear hy37 hA37; replace q37 := eq_true q37) | ((with_reducible refine gate_builtin (b := .append) (xs := #[.tmp 46, .tmp 49]) rfl ?_); at_builtin; refine Kd.R_append_rows k53 (w0 := w) w.heap.size rfl (.tmp 46) (.tmp 49) 25 53 (.agg #[(.string ⟨#[]⟩), (.int .i64 0), (.int .i64 0)]) 32 rfl Try.underlying25 info53 rfl (by decide) (by omega) v499 y498 y501 _ _ _ (fun k_ => k_ ≠ gb484) (fun _ => False) rfl rfl ?aO ?aR (fun _ _ h => h) (fun _ h => h.elim) ?aF ?aB ?aS ?aL ?_; (case aR => exact kc_ (Kd.C_below HR504.out HB.out)); (case aB => exact (hg_ GE484)); (case aF => exact (fun k_ hk => Kd.freshB (g := gb484) (o := .cells #[.string a2_0, .int .i64 a2_1, .int .i64 a2_2] 53 (0, 0)) (bk_ BK484) k_ hk)); (case aO => exact (kr_ HO500)); (case aS => exact (below_size (hg_ GE484))); (case aL => have := LMc27.out; omega); intro v506 w38 ho hb hg hat; rw [← Ny505.out] at ho; have n0_ := Aside0.mk (blk_grown (g := gb484) (o := .cells #[.string a2_0, .int .i64 a2_1, .int .i64 a2_2] 53 (0, 0)) (bk_ BK484) hg (Kd.R_away HO500.out (fun _ hk => hk))); have n1_ := Aside0.mk (hb); have n2_ := Aside0.mk (ho); clear BK484; clear HB; clear HO500; have BK484 := n0_; have HB := n1_; have HO507 := n2_; clear n0_ n1_ n2_; clear ho hb hg hat; obtain ⟨Ao39, co39, eo39⟩ := Kd.R_slice HO507.out; subst eo39) | ((with_reducible refine gate_callee (f := 63) rfl ?_); refine goesL_ (some 53) rfl rfl Try.func63 (by kernel_rfl) rfl #[.slice A0 l0.length c0, .slice Ao39 y505.length co39] rfl ln_ ?_; (with_reducible refine (spec_l21Checks.calls k1 _ _ l0 _ _ y505 true _ ?side1 ?side2 ?side3 ?side4 A28.out).mono ?_); (case side1 => exact kc_ (Kd.C_below HR0.out HB.out)); (case side2 => exact HC0.out); (case side3 => repeat (first | exact (Kd.R_reads' HO507.out).2.2 | (with_reducible refine Kd.C_alloc ?_ _) | (with_reducible refine Kd.C_drewN ?_ _) | (with_reducible refine Kd.C_drew ?_))); (case side4 => exact (Kd.R_reads' HO507.out).2.1); rintro e w40 ⟨rfl, hb⟩; refine ⟨_, rfl, ?_⟩; have n0_ := Aside0.mk (Kd.R_below (kr_ HO507) hb); have n1_ := Aside0.mk (blk_below (g := gb484) (o := .cells #[.string a2_0, .int .i64 a2_1, .int .i64 a2_2] 53 (0, 0)) (bk_ BK484) hb); have n2_ := Aside0.mk (below_step (hg_ GE484) hb); clear HO507; clear BK484; clear HB; have HO507 := n0_; have BK484 := n1_; have HB := n2_; clear n0_ n1_ n2_; (try clear hb); (try clear hb2); (try clear hk); (try clear hi)))
                go_ret2
                exact ⟨_, by first | rfl | (simp [errW_none, errW_some] <;> rfl) | (simp only [← hji16]; first | rfl | (simp [errW_none, errW_some] <;> rfl)) | (simp [*, errW_none, errW_some] <;> rfl), by (with_reducible repeat (first | apply Kd.R_alloc | apply Kd.R_drewN | apply Kd.R_drew)); exact Kd.R_mono HO507.out (fun _ hk => trivial), (hg_ GE484)⟩
               ·replace c29 := Bool.eq_false_iff.mpr c29
                subst c29
                have H1 : (some (([] : List (S53)), 9)) = some (r1, r2) := by rw [if_neg (show ¬ (false = true) by decide)] at H; exact H
                clear H
                have H := H1
                clear H1
                simp only [Option.some.injEq, Prod.mk.injEq] at H
                obtain ⟨rfl, rfl⟩ := H
                try go_wp2
                have n0_ := Aside0.mk (blk_drew BK484.out)
                have n1_ := Aside0.mk (below_drew1 HB.out)
                clear BK484
                clear HB
                have BK484 := n0_
                have HB := n1_
                clear n0_ n1_
                have p487 : 0 ≤ ((ji16) : Int) := od_
                have q487 : (ji16) < (l1.length : Int) := od_
                obtain ⟨ad487, e487, hx487_0, hx487_1, hx487_2⟩ := at_T53 HR1.out (ji16) p487 q487
                have hw487_2 := hx487_2
                have hw487_1 := hx487_1
                have hw487_0 := hx487_0
                cases e487
                replace hx487_0 := cq_ HB hx487_0
                replace hx487_1 := cq_ HB hx487_1
                replace hx487_2 := cq_ HB hx487_2
                replace p487 := eq_true p487
                replace q487 := eq_true q487
                refine start_ (n := 13) (S := fun w' => w'.cell? ⟨gb484, 0, none⟩ = some (.string a2_0) ∧ w'.cell? ⟨gb484, 1, none⟩ = some (.int .i64 a2_1) ∧ w'.cell? ⟨gb484, 2, none⟩ = some (.int .i64 a2_2) ∧ w'.cell? (ad487.add (((ji16)).toNat * 3)) = some (.string ((rd_T53 l1 (ji16)).f0)) ∧ w'.cell? ⟨(ad487.add (((ji16)).toNat * 3)).block, (ad487.add (((ji16)).toNat * 3)).off + 1, none⟩ = some (.int .i64 ((rd_T53 l1 (ji16)).f1)) ∧ w'.cell? ⟨(ad487.add (((ji16)).toNat * 3)).block, (ad487.add (((ji16)).toNat * 3)).off + 2, none⟩ = some (.int .i64 ((rd_T53 l1 (ji16)).f2))) (ds := []) #[F_,F_,F_,F_,F_,F_,F_,F_,F_,F_,F_,F_,F_] (by kernel_rfl) rfl rfl ⟨(blk_cell BK484.out 0).trans rfl, (blk_cell BK484.out 1).trans rfl, (blk_cell BK484.out 2).trans rfl, ((HB.out.cell (World.block_lt_of_cell? w _ hw487_0)).trans hw487_0), ((HB.out.cell (World.block_lt_of_cell? w _ hw487_1)).trans hw487_1), ((HB.out.cell (World.block_lt_of_cell? w _ hw487_2)).trans hw487_2)⟩ (fun hHeld => ?_); refine with_tabW spec_AddCheck.tab8 spec_AddCheck.bits8 (fun HT_ HW_ => ?_)
                generalize wr.drew = w41 at BK484 HB hx487_0 hx487_1 hx487_2 hHeld ⊢
                refine pu (i := 0) (N := some 22) #[T_,F_,F_,F_,F_,F_,F_,F_,F_,F_,F_,F_,F_] HT_ ?_
                refine pu (i := 1) (N := some 23) #[T_,T_,F_,F_,F_,F_,F_,F_,F_,F_,F_,F_,F_] HT_ ?_
                refine pu (i := 2) (N := some 24) #[T_,T_,T_,F_,F_,F_,F_,F_,F_,F_,F_,F_,F_] HT_ ?_
                refine pu (i := 3) (N := some 25) #[T_,T_,T_,T_,F_,F_,F_,F_,F_,F_,F_,F_,F_] HT_ ?_
                refine pu (i := 4) (N := some 26) #[T_,T_,T_,T_,T_,F_,F_,F_,F_,F_,F_,F_,F_] HT_ ?_
                refine pu (i := 5) (N := some 27) #[T_,T_,T_,T_,T_,T_,F_,F_,F_,F_,F_,F_,F_] HT_ ?_
                refine pu (i := 6) (N := some 28) #[T_,T_,T_,T_,T_,T_,T_,F_,F_,F_,F_,F_,F_] HT_ ?_
                refine pu (i := 7) (N := some 29) #[T_,T_,T_,T_,T_,T_,T_,T_,F_,F_,F_,F_,F_] HT_ ?_
                refine pu (i := 9) (N := some 31) #[T_,T_,T_,T_,T_,T_,T_,T_,F_,T_,F_,F_,F_] HT_ ?_
                refine take_ (i := 8) (N := some 30) (v := ?_) (a' := ?_) #[T_,T_,T_,T_,T_,T_,T_,T_,T_,T_,F_,F_,F_] rfl rfl (take_ofW HT_.out HW_.out (by kernel_rfl)) (fun _ _ _ h => h) (Or.inl ⟨by rfl, ?_⟩) hHeld ?_ ?_
                rotate_left
                ·rintro w' ⟨s0, s1, s2, s3, s4, s5⟩
                 go_simp
                 with_reducible rfl
                rotate_left
                ·simp only [Act.put, sT_, s0_, sS_, i64_w, i32_w]
                 rfl
                refine take_ (i := 10) (N := some 32) (v := ?_) (a' := ?_) #[T_,T_,T_,T_,T_,T_,T_,T_,T_,T_,T_,F_,F_] rfl rfl (take_ofW HT_.out HW_.out (by kernel_rfl)) (fun _ _ _ h => h) (Or.inl ⟨by rfl, ?_⟩) hHeld ?_ ?_
                rotate_left
                ·rintro w' ⟨s0, s1, s2, s3, s4, s5⟩
                 go_simp
                 with_reducible rfl
                rotate_left
                ·simp only [Act.put, sT_, s0_, sS_, i64_w, i32_w]
                 rfl
                refine pu (i := 11) (N := some 33) #[T_,T_,T_,T_,T_,T_,T_,T_,T_,T_,T_,T_,F_] HT_ ?_
                refine pu (i := 12) (N := some 34) #[T_,T_,T_,T_,T_,T_,T_,T_,T_,T_,T_,T_,T_] HT_ ?_
                refine done_ (done_of HT_.out (by kernel_rfl)) ?_
                try go_wp2_with (first | ((with_reducible refine gate_dst (N := 37) rfl ?_); refine Kd.R_lit k53 _ 53 ?hg (N := 37) ?hd (xs := ([] : List (S53))) (inner := []) (ok := fun _ => True) (okp := fun _ => True) ?hr ?hp (fun _ hk => hk) trivial (Below.refl _ _) (Nat.le_refl _) (by simp) ?_; (case hd => rfl); (case hg => rfl); (case hr => first | (go_simp; done) | (go_simp; rfl)); (case hp => exact (Reps.none _ _)); intro v489 w42 ho43 hb hg_ hnew_; clear hg_ hnew_; (first | rw [← Ny488.out] at ho43 | (simp only [Int.reduceToNat] at ho43; rw [← Ny488.out] at ho43)); have n0_ := Aside0.mk (Kd.R_lower (Kd.R_newB ho43 (g := gb484) (o := .cells #[.string a2_0, .int .i64 a2_1, .int .i64 a2_2] 53 (0, 0)) (bk_ BK484)) (below_size (hg_ GE484))); have n1_ := Aside0.mk (blk_below (g := gb484) (o := .cells #[.string a2_0, .int .i64 a2_1, .int .i64 a2_2] 53 (0, 0)) (bk_ BK484) hb); have n2_ := Aside0.mk (below_step (hg_ GE484) hb); clear BK484; clear HB; have HO490 := n0_; have BK484 := n1_; have HB := n2_; clear n0_ n1_ n2_; clear hb ho43; have q44 : (x8_1 : Int) ≤ ((l1.length : Int) : Int) := od_; obtain ⟨i044, hi044, _, hsz44, _⟩ := info_parts info53; have hroom44 : l1.length ≤ c1 := HC1.out; have hC44 : Kd.C k53 _ (some ad487) l1.length l1 := HR1.out; have hcut44 := cut_to (P := Try.prog) 25 53 .i64 Try.underlying25 hi044 (some ad487) l1.length c1 x8_1 (od_) q44 hroom44; have hr44 := Kd.C_take (m := (x8_1 : Int).toNat) hC44 (by omega); have hy44 : y491.length = (x8_1 : Int).toNat := (by rw [Ny491.out, List.length_take]; omega); rw [← Ny491.out] at hr44; rw [← hy44] at hcut44; have HR494 := Aside0.mk hr44; have HC494 := Aside0.mk (show y491.length ≤ c1 from by omega); clear hr44 hC44 hroom44 hi044 hsz44; have KY44 := Aside0.mk hy44; clear hy44; replace q44 := eq_true q44) | ((with_reducible refine gate_builtin (b := .append) (xs := #[.tmp 37, .tmp 40]) rfl ?_); at_builtin; refine Kd.R_append_rows k53 (w0 := w) w.heap.size rfl (.tmp 37) (.tmp 40) 25 53 (.agg #[(.string ⟨#[]⟩), (.int .i64 0), (.int .i64 0)]) 32 rfl Try.underlying25 info53 rfl (by decide) (by omega) v489 y488 y491 _ _ _ (fun k_ => k_ ≠ gb484) (fun _ => False) rfl rfl ?aO ?aR (fun _ _ h => h) (fun _ h => h.elim) ?aF ?aB ?aS ?aL ?_; (case aR => exact kc_ (Kd.C_below HR494.out HB.out)); (case aB => exact (hg_ GE484)); (case aF => exact (fun k_ hk => Kd.freshB (g := gb484) (o := .cells #[.string a2_0, .int .i64 a2_1, .int .i64 a2_2] 53 (0, 0)) (bk_ BK484) k_ hk)); (case aO => exact (by (with_reducible repeat (first | apply Kd.R_alloc | apply Kd.R_drewN | apply Kd.R_drew)); exact Kd.R_mono HO490.out (fun _ hk => hk.2))); (case aS => exact (below_size (hg_ GE484))); (case aL => have := LMc23.out; omega); intro v496 w45 ho hb hg hat; rw [← Ny495.out] at ho; have n0_ := Aside0.mk (blk_grown (g := gb484) (o := .cells #[.string a2_0, .int .i64 a2_1, .int .i64 a2_2] 53 (0, 0)) (bk_ BK484) hg (Kd.R_away HO490.out (fun _ hk => hk.2))); have n1_ := Aside0.mk (hb); have n2_ := Aside0.mk (ho); clear BK484; clear HB; clear HO490; have BK484 := n0_; have HB := n1_; have HO497 := n2_; clear n0_ n1_ n2_; clear ho hb hg hat; have hcz46_0 : w45.cell? ⟨gb484, 0, none⟩ = some (.string a2_0) := (blk_cell BK484.out 0).trans rfl; have hcz46_1 : w45.cell? ⟨gb484, 1, none⟩ = some (.int .i64 a2_1) := (blk_cell BK484.out 1).trans rfl; have hcz46_2 : w45.cell? ⟨gb484, 2, none⟩ = some (.int .i64 a2_2) := (blk_cell BK484.out 2).trans rfl; have hfz46_0 := blk_frozen BK484.out 0; have hfz46_1 := blk_frozen BK484.out 1; have hfz46_2 := blk_frozen BK484.out 2) | ((with_reducible refine gate_builtin (b := .append) (xs := #[.tmp 42, .tmp 44]) rfl ?_); at_builtin; refine Kd.R_append k53 (w0 := w) w.heap.size rfl (.tmp 42) (.tmp 44) 25 53 (.agg #[(.string ⟨#[]⟩), (.int .i64 0), (.int .i64 0)]) 32 rfl Try.underlying25 info53 rfl (by decide) (by omega) v496 y495 (⟨a2_0, a2_1, a2_2⟩ : S53) [.string a2_0, .int .i64 a2_1, .int .i64 a2_2] (fun k_ => k_ ≠ gb484) (fun _ => False) rfl rfl ?aP (fun _ hk => hk.elim) ?aF ?aO ?aB ?aS ?aL ?_; (case aP => exact k53_mkM _ _ _ (⟨a2_0, a2_1, a2_2⟩ : S53)); (case aB => exact (hg_ GE484)); (case aF => exact (fun k_ hk => Kd.freshB (g := gb484) (o := .cells #[.string a2_0, .int .i64 a2_1, .int .i64 a2_2] 53 (0, 0)) (bk_ BK484) k_ hk)); (case aO => exact (kr_ HO497)); (case aS => exact (below_size (hg_ GE484))); (case aL => have := LMc24.out; omega); intro v499 w47 ho hb hg hat; rw [← Ny498.out] at ho; have n0_ := Aside0.mk (blk_grown (g := gb484) (o := .cells #[.string a2_0, .int .i64 a2_1, .int .i64 a2_2] 53 (0, 0)) (bk_ BK484) hg (Kd.R_away HO497.out (fun _ hk => hk))); have n1_ := Aside0.mk (hb); have n2_ := Aside0.mk (ho); clear BK484; clear HB; clear HO497; have BK484 := n0_; have HB := n1_; have HO500 := n2_; clear n0_ n1_ n2_; clear ho hb hg hat; have q48 : (x8_1 : Int) ≤ ((l1.length : Int) : Int) := od_; obtain ⟨i048, hi048, _, hsz48, _⟩ := info_parts info53; have hroom48 : l1.length ≤ c1 := HC1.out; have hC48 : Kd.C k53 _ (some ad487) l1.length l1 := HR1.out; have q048 : (0 : Int) ≤ (x8_1 : Int) := od_; have hcut48 := cut_from (P := Try.prog) 25 53 .i64 Try.underlying25 hi048 3 hsz48 (some ad487) l1.length c1 x8_1 q048 q48; have hr48 := Kd.C_drop (m := (x8_1 : Int).toNat) (c := c1) hC48 (by omega) hroom48; obtain ⟨A48, hA48⟩ : ∃ Az_, Az_ = (if c1 = (x8_1 : Int).toNat then (some ad487) else ((some ad487) : Option Addr).map (·.add ((x8_1 : Int).toNat * 3))) := ⟨_, rfl⟩; obtain ⟨c48, hc48⟩ : ∃ cz_, cz_ = c1 - (x8_1 : Int).toNat := ⟨_, rfl⟩; have hy48 : y501.length = l1.length - (x8_1 : Int).toNat := (by rw [Ny501.out, List.length_drop] <;> omega); rw [show (l1).drop (x8_1 : Int).toNat = y501 from Ny501.out.symm] at hr48; replace hr48 : Kd.C k53 _ A48 y501.length y501 := (by rw [hA48]; exact hr48); rw [← hy48, ← hA48, ← hc48] at hcut48; have HR504 := Aside0.mk hr48; have HC504 := Aside0.mk (show y501.length ≤ c48 from by rw [hy48, hc48]; exact Nat.sub_le_sub_right hroom48 _); clear hr48 hC48 hroom48 hi048 hsz48 hc48; have KY48 := Aside0.mk hy48; have KA48 := Aside0.mk hA48; clear hy48 hA48; replace q48 := eq_true q48) | ((with_reducible refine gate_builtin (b := .append) (xs := #[.tmp 46, .tmp 49]) rfl ?_); at_builtin; refine Kd.R_append_rows k53 (w0 := w) w.heap.size rfl (.tmp 46) (.tmp 49) 25 53 (.agg #[(.string ⟨#[]⟩), (.int .i64 0), (.int .i64 0)]) 32 rfl Try.underlying25 info53 rfl (by decide) (by omega) v499 y498 y501 _ _ _ (fun k_ => k_ ≠ gb484) (fun _ => False) rfl rfl ?aO ?aR (fun _ _ h => h) (fun _ h => h.elim) ?aF ?aB ?aS ?aL ?_; (case aR => exact kc_ (Kd.C_below HR504.out HB.out)); (case aB => exact (hg_ GE484)); (case aF => exact (fun k_ hk => Kd.freshB (g := gb484) (o := .cells #[.string a2_0, .int .i64 a2_1, .int .i64 a2_2] 53 (0, 0)) (bk_ BK484) k_ hk)); (case aO => exact (kr_ HO500)); (case aS => exact (below_size (hg_ GE484))); (case aL => have := LMc27.out; omega); intro v506 w49 ho hb hg hat; rw [← Ny505.out] at ho; have n0_ := Aside0.mk (blk_grown (g := gb484) (o := .cells #[.string a2_0, .int .i64 a2_1, .int .i64 a2_2] 53 (0, 0)) (bk_ BK484) hg (Kd.R_away HO500.out (fun _ hk => hk))); have n1_ := Aside0.mk (hb); have n2_ := Aside0.mk (ho); clear BK484; clear HB; clear HO500; have BK484 := n0_; have HB := n1_; have HO507 := n2_; clear n0_ n1_ n2_; clear ho hb hg hat; obtain ⟨Ao50, co50, eo50⟩ := Kd.R_slice HO507.out; subst eo50) | ((with_reducible refine gate_callee (f := 63) rfl ?_); refine goesL_ (some 53) rfl rfl Try.func63 (by kernel_rfl) rfl #[.slice A0 l0.length c0, .slice Ao50 y505.length co50] rfl ln_ ?_; (with_reducible refine (spec_l21Checks.calls k1 _ _ l0 _ _ y505 false _ ?side1 ?side2 ?side3 ?side4 A28.out).mono ?_); (case side1 => exact kc_ (Kd.C_below HR0.out HB.out)); (case side2 => exact HC0.out); (case side3 => repeat (first | exact (Kd.R_reads' HO507.out).2.2 | (with_reducible refine Kd.C_alloc ?_ _) | (with_reducible refine Kd.C_drewN ?_ _) | (with_reducible refine Kd.C_drew ?_))); (case side4 => exact (Kd.R_reads' HO507.out).2.1); rintro e w51 ⟨rfl, hb⟩; refine ⟨_, rfl, ?_⟩; have n0_ := Aside0.mk (Kd.R_below (kr_ HO507) hb); have n1_ := Aside0.mk (blk_below (g := gb484) (o := .cells #[.string a2_0, .int .i64 a2_1, .int .i64 a2_2] 53 (0, 0)) (bk_ BK484) hb); have n2_ := Aside0.mk (below_step (hg_ GE484) hb); clear HO507; clear BK484; clear HB; have HO507 := n0_; have BK484 := n1_; have HB := n2_; clear n0_ n1_ n2_; (try clear hb); (try clear hb2); (try clear hk); (try clear hi)))
                go_ret2
                exact ⟨_, by first | rfl | (simp [errW_none, errW_some] <;> rfl) | (simp only [← hji16]; first | rfl | (simp [errW_none, errW_some] <;> rfl)) | (simp [*, errW_none, errW_some] <;> rfl), by first | exact Kd.R_nil _ _ _ _ _ | exact Kd.N_nil _ _ _ _ _ | exact Kd.V_nil _ _ _ _ _ | exact Kd.Q_nil _ _ _ _ _ | exact Kd.S_nil _ _ _ _ _, (hg_ GE484)⟩
              ·rw [if_neg c27] at H
               exact absurd H (by simp)
             ·rw [if_neg c24] at H
              exact absurd H (by simp)
            ·rw [if_neg c23] at H
             exact absurd H (by simp)
           ·rw [if_neg c22] at H
            exact absurd H (by simp)
          ·rw [if_neg c21] at H
           exact absurd H (by simp)
        ·rw [if_neg c18] at H
         exact absurd H (by simp)
       ·rw [if_neg c17] at H
        exact absurd H (by simp)
      ·rw [if_neg c15] at H
       have c15b0 : decide (0 < x8_1) = false := decide_eq_false c15
       clear c15
       obtain ⟨y509, hy509⟩ : ∃ y_ : List (S53), y_ = (([] : List (S53))) := ⟨_, rfl⟩
       replace H : (if 0 ≤ x8_1 then (if x8_1 ≤ (l1.length : Int) then ((some (l1.take (x8_1 : Int).toNat : List (S53))).bind fun y512 => (if y509.length + y512.length < 4398046511104 then ((some (y509 ++ y512 : List (S53))).bind fun y516 => (if y516.length < 4398046511104 then ((some (y516 ++ [(⟨a2_0, a2_1, a2_2⟩ : S53)] : List (S53))).bind fun y519 => ((some (l1.drop (x8_1 : Int).toNat : List (S53))).bind fun y522 => (if y519.length + y522.length < 4398046511104 then ((some (y519 ++ y522 : List (S53))).bind fun y526 => ((spec_l21Checks.f k1 l0 y526).bind fun t529 => (if t529 = true then (some (y526, 0)) else (some (([] : List (S53)), 9))))) else (none)))) else (none))) else (none))) else (none)) else (none)) = some (r1, r2) := by first | (rw [hy509]; with_reducible exact H) | (have H2_ := (Option.bind_some _ _).symm.trans H; rw [hy509]; with_reducible exact H2_) | (have H2_ := (Option.bind_some _ _).symm.trans H; with_reducible exact H2_) | with_reducible exact H | (rw [hy509]; exact H) | exact H
       have Ny509 := Aside0.mk hy509
       clear hy509
       by_cases c52 : 0 ≤ x8_1
       ·rw [if_pos c52] at H
        have c52b0 := eq_true c52
        have c52b1 : decide (0 ≤ x8_1) = true := decide_eq_true c52
        clear c52
        by_cases c53 : x8_1 ≤ (l1.length : Int)
        ·rw [if_pos c53] at H
         have c53b0 := eq_true c53
         have c53b1 : decide (x8_1 ≤ (l1.length : Int)) = true := decide_eq_true c53
         clear c53
         obtain ⟨y512, hy512⟩ : ∃ y_ : List (S53), y_ = (l1.take (x8_1 : Int).toNat) := ⟨_, rfl⟩
         replace H : (if y509.length + y512.length < 4398046511104 then ((some (y509 ++ y512 : List (S53))).bind fun y516 => (if y516.length < 4398046511104 then ((some (y516 ++ [(⟨a2_0, a2_1, a2_2⟩ : S53)] : List (S53))).bind fun y519 => ((some (l1.drop (x8_1 : Int).toNat : List (S53))).bind fun y522 => (if y519.length + y522.length < 4398046511104 then ((some (y519 ++ y522 : List (S53))).bind fun y526 => ((spec_l21Checks.f k1 l0 y526).bind fun t529 => (if t529 = true then (some (y526, 0)) else (some (([] : List (S53)), 9))))) else (none)))) else (none))) else (none)) = some (r1, r2) := by first | (rw [hy512]; with_reducible exact H) | (have H2_ := (Option.bind_some _ _).symm.trans H; rw [hy512]; with_reducible exact H2_) | (have H2_ := (Option.bind_some _ _).symm.trans H; with_reducible exact H2_) | with_reducible exact H | (rw [hy512]; exact H) | exact H
         have Ny512 := Aside0.mk hy512
         clear hy512
         by_cases c54 : y509.length + y512.length < 4398046511104
         ·rw [if_pos c54] at H
          have LMc54 := Aside0.mk c54
          clear c54
          obtain ⟨y516, hy516⟩ : ∃ y_ : List (S53), y_ = (y509 ++ y512) := ⟨_, rfl⟩
          replace H : (if y516.length < 4398046511104 then ((some (y516 ++ [(⟨a2_0, a2_1, a2_2⟩ : S53)] : List (S53))).bind fun y519 => ((some (l1.drop (x8_1 : Int).toNat : List (S53))).bind fun y522 => (if y519.length + y522.length < 4398046511104 then ((some (y519 ++ y522 : List (S53))).bind fun y526 => ((spec_l21Checks.f k1 l0 y526).bind fun t529 => (if t529 = true then (some (y526, 0)) else (some (([] : List (S53)), 9))))) else (none)))) else (none)) = some (r1, r2) := by first | (rw [hy516]; with_reducible exact H) | (have H2_ := (Option.bind_some _ _).symm.trans H; rw [hy516]; with_reducible exact H2_) | (have H2_ := (Option.bind_some _ _).symm.trans H; with_reducible exact H2_) | with_reducible exact H | (rw [hy516]; exact H) | exact H
          have Ny516 := Aside0.mk hy516
          clear hy516
          by_cases c55 : y516.length < 4398046511104
          ·rw [if_pos c55] at H
           have LMc55 := Aside0.mk c55
           clear c55
           obtain ⟨y519, hy519⟩ : ∃ y_ : List (S53), y_ = (y516 ++ [(⟨a2_0, a2_1, a2_2⟩ : S53)]) := ⟨_, rfl⟩
           replace H : ((some (l1.drop (x8_1 : Int).toNat : List (S53))).bind fun y522 => (if y519.length + y522.length < 4398046511104 then ((some (y519 ++ y522 : List (S53))).bind fun y526 => ((spec_l21Checks.f k1 l0 y526).bind fun t529 => (if t529 = true then (some (y526, 0)) else (some (([] : List (S53)), 9))))) else (none))) = some (r1, r2) := by first | (rw [hy519]; with_reducible exact H) | (have H2_ := (Option.bind_some _ _).symm.trans H; rw [hy519]; with_reducible exact H2_) | (have H2_ := (Option.bind_some _ _).symm.trans H; with_reducible exact H2_) | with_reducible exact H | (rw [hy519]; exact H) | exact H
           have Ny519 := Aside0.mk hy519
           clear hy519
           have c56b0 := eq_true (od_ : 0 ≤ x8_1)
           have c57b0 := eq_true (od_ : x8_1 ≤ (l1.length : Int))
           obtain ⟨y522, hy522⟩ : ∃ y_ : List (S53), y_ = (l1.drop (x8_1 : Int).toNat) := ⟨_, rfl⟩
           replace H : (if y519.length + y522.length < 4398046511104 then ((some (y519 ++ y522 : List (S53))).bind fun y526 => ((spec_l21Checks.f k1 l0 y526).bind fun t529 => (if t529 = true then (some (y526, 0)) else (some (([] : List (S53)), 9))))) else (none)) = some (r1, r2) := by first | (rw [hy522]; with_reducible exact H) | (have H2_ := (Option.bind_some _ _).symm.trans H; rw [hy522]; with_reducible exact H2_) | (have H2_ := (Option.bind_some _ _).symm.trans H; with_reducible exact H2_) | with_reducible exact H | (rw [hy522]; exact H) | exact H
           have Ny522 := Aside0.mk hy522
           clear hy522
           by_cases c58 : y519.length + y522.length < 4398046511104
           ·rw [if_pos c58] at H
            have LMc58 := Aside0.mk c58
            clear c58
            obtain ⟨y526, hy526⟩ : ∃ y_ : List (S53), y_ = (y519 ++ y522) := ⟨_, rfl⟩
            replace H : ((spec_l21Checks.f k1 l0 y526).bind fun t529 => (if t529 = true then (some (y526, 0)) else (some (([] : List (S53)), 9)))) = some (r1, r2) := by first | (rw [hy526]; with_reducible exact H) | (have H2_ := (Option.bind_some _ _).symm.trans H; rw [hy526]; with_reducible exact H2_) | (have H2_ := (Option.bind_some _ _).symm.trans H; with_reducible exact H2_) | with_reducible exact H | (rw [hy526]; exact H) | exact H
            have Ny526 := Aside0.mk hy526
            clear hy526
            replace H := Option.bind_eq_some_iff.mp H
            obtain ⟨t529, A590, H⟩ := H
            replace H : (if t529 = true then (some (y526, 0)) else (some (([] : List (S53)), 9))) = some (r1, r2) := H
            have A59 := Aside0.mk A590
            clear A590
            by_cases c60 : t529 = true
            ·subst c60
             have H1 : (some (y526, 0)) = some (r1, r2) := by rw [if_pos rfl] at H; exact H
             clear H
             have H := H1
             clear H1
             simp only [Option.some.injEq, Prod.mk.injEq] at H
             obtain ⟨rfl, rfl⟩ := H
             try go_wp2
             have n0_ := Aside0.mk (blk_drew BK484.out)
             have n1_ := Aside0.mk (below_drew1 HB.out)
             clear BK484
             clear HB
             have BK484 := n0_
             have HB := n1_
             clear n0_ n1_
             refine start_ (n := 13) (S := fun w' => True) (ds := []) #[F_,F_,F_,F_,F_,F_,F_,F_,F_,F_,F_,F_,F_] (by kernel_rfl) rfl rfl trivial (fun hHeld => ?_); refine with_tabW spec_AddCheck.tab8 spec_AddCheck.bits8 (fun HT_ HW_ => ?_)
             generalize wr.drew = w61 at BK484 HB hHeld ⊢
             refine pu (i := 0) (N := some 22) #[T_,F_,F_,F_,F_,F_,F_,F_,F_,F_,F_,F_,F_] HT_ ?_
             refine pu (i := 1) (N := some 23) #[T_,T_,F_,F_,F_,F_,F_,F_,F_,F_,F_,F_,F_] HT_ ?_
             refine pu (i := 2) (N := some 24) #[T_,T_,T_,F_,F_,F_,F_,F_,F_,F_,F_,F_,F_] HT_ ?_
             refine pn (i := 3) (N := some 25) #[T_,T_,T_,T_,F_,F_,F_,F_,F_,F_,F_,F_,F_] HT_ ?_
             refine pn (i := 4) (N := some 26) #[T_,T_,T_,T_,T_,F_,F_,F_,F_,F_,F_,F_,F_] HT_ ?_
             refine pn (i := 5) (N := some 27) #[T_,T_,T_,T_,T_,T_,F_,F_,F_,F_,F_,F_,F_] HT_ ?_
             refine pn (i := 6) (N := some 28) #[T_,T_,T_,T_,T_,T_,T_,F_,F_,F_,F_,F_,F_] HT_ ?_
             refine pn (i := 7) (N := some 29) #[T_,T_,T_,T_,T_,T_,T_,T_,F_,F_,F_,F_,F_] HT_ ?_
             refine pn (i := 8) (N := some 30) #[T_,T_,T_,T_,T_,T_,T_,T_,T_,F_,F_,F_,F_] HT_ ?_
             refine pn (i := 9) (N := some 31) #[T_,T_,T_,T_,T_,T_,T_,T_,T_,T_,F_,F_,F_] HT_ ?_
             refine pn (i := 10) (N := some 32) #[T_,T_,T_,T_,T_,T_,T_,T_,T_,T_,T_,F_,F_] HT_ ?_
             refine pn (i := 11) (N := some 33) #[T_,T_,T_,T_,T_,T_,T_,T_,T_,T_,T_,T_,F_] HT_ ?_
             refine pu (i := 12) (N := some 34) #[T_,T_,T_,T_,T_,T_,T_,T_,T_,T_,T_,T_,T_] HT_ ?_
             refine done_ (done_of HT_.out (by kernel_rfl)) ?_
             try go_wp2_with (first | ((with_reducible refine gate_dst (N := 37) rfl ?_); refine Kd.R_lit k53 _ 53 ?hg (N := 37) ?hd (xs := ([] : List (S53))) (inner := []) (ok := fun _ => True) (okp := fun _ => True) ?hr ?hp (fun _ hk => hk) trivial (Below.refl _ _) (Nat.le_refl _) (by simp) ?_; (case hd => rfl); (case hg => rfl); (case hr => first | (go_simp; done) | (go_simp; rfl)); (case hp => exact (Reps.none _ _)); intro v510 w62 ho63 hb hg_ hnew_; clear hg_ hnew_; (first | rw [← Ny509.out] at ho63 | (simp only [Int.reduceToNat] at ho63; rw [← Ny509.out] at ho63)); have n0_ := Aside0.mk (Kd.R_lower (Kd.R_newB ho63 (g := gb484) (o := .cells #[.string a2_0, .int .i64 a2_1, .int .i64 a2_2] 53 (0, 0)) (bk_ BK484)) (below_size (hg_ GE484))); have n1_ := Aside0.mk (blk_below (g := gb484) (o := .cells #[.string a2_0, .int .i64 a2_1, .int .i64 a2_2] 53 (0, 0)) (bk_ BK484) hb); have n2_ := Aside0.mk (below_step (hg_ GE484) hb); clear BK484; clear HB; have HO511 := n0_; have BK484 := n1_; have HB := n2_; clear n0_ n1_ n2_; clear hb ho63; have q64 : (x8_1 : Int) ≤ ((l1.length : Int) : Int) := od_; obtain ⟨i064, hi064, _, hsz64, _⟩ := info_parts info53; have hroom64 : l1.length ≤ c1 := HC1.out; have hC64 : Kd.C k53 _ A1 l1.length l1 := HR1.out; have hcut64 := cut_to (P := Try.prog) 25 53 .i64 Try.underlying25 hi064 A1 l1.length c1 x8_1 (od_) q64 hroom64; have hr64 := Kd.C_take (m := (x8_1 : Int).toNat) hC64 (by omega); have hy64 : y512.length = (x8_1 : Int).toNat := (by rw [Ny512.out, List.length_take]; omega); rw [← Ny512.out] at hr64; rw [← hy64] at hcut64; have HR515 := Aside0.mk hr64; have HC515 := Aside0.mk (show y512.length ≤ c1 from by omega); clear hr64 hC64 hroom64 hi064 hsz64; have KY64 := Aside0.mk hy64; clear hy64; replace q64 := eq_true q64) | ((with_reducible refine gate_builtin (b := .append) (xs := #[.tmp 37, .tmp 40]) rfl ?_); at_builtin; refine Kd.R_append_rows k53 (w0 := w) w.heap.size rfl (.tmp 37) (.tmp 40) 25 53 (.agg #[(.string ⟨#[]⟩), (.int .i64 0), (.int .i64 0)]) 32 rfl Try.underlying25 info53 rfl (by decide) (by omega) v510 y509 y512 _ _ _ (fun k_ => k_ ≠ gb484) (fun _ => False) rfl rfl ?aO ?aR (fun _ _ h => h) (fun _ h => h.elim) ?aF ?aB ?aS ?aL ?_; (case aR => exact kc_ (Kd.C_below HR515.out HB.out)); (case aB => exact (hg_ GE484)); (case aF => exact (fun k_ hk => Kd.freshB (g := gb484) (o := .cells #[.string a2_0, .int .i64 a2_1, .int .i64 a2_2] 53 (0, 0)) (bk_ BK484) k_ hk)); (case aO => exact (by (with_reducible repeat (first | apply Kd.R_alloc | apply Kd.R_drewN | apply Kd.R_drew)); exact Kd.R_mono HO511.out (fun _ hk => hk.2))); (case aS => exact (below_size (hg_ GE484))); (case aL => have := LMc54.out; omega); intro v517 w65 ho hb hg hat; rw [← Ny516.out] at ho; have n0_ := Aside0.mk (blk_grown (g := gb484) (o := .cells #[.string a2_0, .int .i64 a2_1, .int .i64 a2_2] 53 (0, 0)) (bk_ BK484) hg (Kd.R_away HO511.out (fun _ hk => hk.2))); have n1_ := Aside0.mk (hb); have n2_ := Aside0.mk (ho); clear BK484; clear HB; clear HO511; have BK484 := n0_; have HB := n1_; have HO518 := n2_; clear n0_ n1_ n2_; clear ho hb hg hat; have hcz66_0 : w65.cell? ⟨gb484, 0, none⟩ = some (.string a2_0) := (blk_cell BK484.out 0).trans rfl; have hcz66_1 : w65.cell? ⟨gb484, 1, none⟩ = some (.int .i64 a2_1) := (blk_cell BK484.out 1).trans rfl; have hcz66_2 : w65.cell? ⟨gb484, 2, none⟩ = some (.int .i64 a2_2) := (blk_cell BK484.out 2).trans rfl; have hfz66_0 := blk_frozen BK484.out 0; have hfz66_1 := blk_frozen BK484.out 1; have hfz66_2 := blk_frozen BK484.out 2) | ((with_reducible refine gate_builtin (b := .append) (xs := #[.tmp 42, .tmp 44]) rfl ?_); at_builtin; refine Kd.R_append k53 (w0 := w) w.heap.size rfl (.tmp 42) (.tmp 44) 25 53 (.agg #[(.string ⟨#[]⟩), (.int .i64 0), (.int .i64 0)]) 32 rfl Try.underlying25 info53 rfl (by decide) (by omega) v517 y516 (⟨a2_0, a2_1, a2_2⟩ : S53) [.string a2_0, .int .i64 a2_1, .int .i64 a2_2] (fun k_ => k_ ≠ gb484) (fun _ => False) rfl rfl ?aP (fun _ hk => hk.elim) ?aF ?aO ?aB ?aS ?aL ?_; (case aP => exact k53_mkM _ _ _ (⟨a2_0, a2_1, a2_2⟩ : S53)); (case aB => exact (hg_ GE484)); (case aF => exact (fun k_ hk => Kd.freshB (g := gb484) (o := .cells #[.string a2_0, .int .i64 a2_1, .int .i64 a2_2] 53 (0, 0)) (bk_ BK484) k_ hk)); (case aO => exact (kr_ HO518)); (case aS => exact (below_size (hg_ GE484))); (case aL => have := LMc55.out; omega); intro v520 w67 ho hb hg hat; rw [← Ny519.out] at ho; have n0_ := Aside0.mk (blk_grown (g := gb484) (o := .cells #[.string a2_0, .int .i64 a2_1, .int .i64 a2_2] 53 (0, 0)) (bk_ BK484) hg (Kd.R_away HO518.out (fun _ hk => hk))); have n1_ := Aside0.mk (hb); have n2_ := Aside0.mk (ho); clear BK484; clear HB; clear HO518; have BK484 := n0_; have HB := n1_; have HO521 := n2_; clear n0_ n1_ n2_; clear ho hb hg hat; have q68 : (x8_1 : Int) ≤ ((l1.length : Int) : Int) := od_; obtain ⟨i068, hi068, _, hsz68, _⟩ := info_parts info53; have hroom68 : l1.length ≤ c1 := HC1.out; have hC68 : Kd.C k53 _ A1 l1.length l1 := HR1.out; have q068 : (0 : Int) ≤ (x8_1 : Int) := od_; have hcut68 := cut_from (P := Try.prog) 25 53 .i64 Try.underlying25 hi068 3 hsz68 A1 l1.length c1 x8_1 q068 q68; have hr68 := Kd.C_drop (m := (x8_1 : Int).toNat) (c := c1) hC68 (by omega) hroom68; obtain ⟨A68, hA68⟩ : ∃ Az_, Az_ = (if c1 = (x8_1 : Int).toNat then A1 else (A1 : Option Addr).map (·.add ((x8_1 : Int).toNat * 3))) := ⟨_, rfl⟩; obtain ⟨c68, hc68⟩ : ∃ cz_, cz_ = c1 - (x8_1 : Int).toNat := ⟨_, rfl⟩; have hy68 : y522.length = l1.length - (x8_1 : Int).toNat := (by rw [Ny522.out, List.length_drop] <;> omega); rw [show (l1).drop (x8_1 : Int).toNat = y522 from Ny522.out.symm] at hr68; replace hr68 : Kd.C k53 _ A68 y522.length y522 := (by rw [hA68]; exact hr68); rw [← hy68, ← hA68, ← hc68] at hcut68; have HR525 := Aside0.mk hr68; have HC525 := Aside0.mk (show y522.length ≤ c68 from by rw [hy68, hc68]; exact Nat.sub_le_sub_right hroom68 _); clear hr68 hC68 hroom68 hi068 hsz68 hc68; have KY68 := Aside0.mk hy68; have KA68 := Aside0.mk hA68; clear hy68 hA68; replace q68 := eq_true q68) | ((with_reducible refine gate_builtin (b := .append) (xs := #[.tmp 46, .tmp 49]) rfl ?_); at_builtin; refine Kd.R_append_rows k53 (w0 := w) w.heap.size rfl (.tmp 46) (.tmp 49) 25 53 (.agg #[(.string ⟨#[]⟩), (.int .i64 0), (.int .i64 0)]) 32 rfl Try.underlying25 info53 rfl (by decide) (by omega) v520 y519 y522 _ _ _ (fun k_ => k_ ≠ gb484) (fun _ => False) rfl rfl ?aO ?aR (fun _ _ h => h) (fun _ h => h.elim) ?aF ?aB ?aS ?aL ?_; (case aR => exact kc_ (Kd.C_below HR525.out HB.out)); (case aB => exact (hg_ GE484)); (case aF => exact (fun k_ hk => Kd.freshB (g := gb484) (o := .cells #[.string a2_0, .int .i64 a2_1, .int .i64 a2_2] 53 (0, 0)) (bk_ BK484) k_ hk)); (case aO => exact (kr_ HO521)); (case aS => exact (below_size (hg_ GE484))); (case aL => have := LMc58.out; omega); intro v527 w69 ho hb hg hat; rw [← Ny526.out] at ho; have n0_ := Aside0.mk (blk_grown (g := gb484) (o := .cells #[.string a2_0, .int .i64 a2_1, .int .i64 a2_2] 53 (0, 0)) (bk_ BK484) hg (Kd.R_away HO521.out (fun _ hk => hk))); have n1_ := Aside0.mk (hb); have n2_ := Aside0.mk (ho); clear BK484; clear HB; clear HO521; have BK484 := n0_; have HB := n1_; have HO528 := n2_; clear n0_ n1_ n2_; clear ho hb hg hat; obtain ⟨Ao70, co70, eo70⟩ := Kd.R_slice HO528.out; subst eo70) | ((with_reducible refine gate_callee (f := 63) rfl ?_); refine goesL_ (some 53) rfl rfl Try.func63 (by kernel_rfl) rfl #[.slice A0 l0.length c0, .slice Ao70 y526.length co70] rfl ln_ ?_; (with_reducible refine (spec_l21Checks.calls k1 _ _ l0 _ _ y526 true _ ?side1 ?side2 ?side3 ?side4 A59.out).mono ?_); (case side1 => exact kc_ (Kd.C_below HR0.out HB.out)); (case side2 => exact HC0.out); (case side3 => repeat (first | exact (Kd.R_reads' HO528.out).2.2 | (with_reducible refine Kd.C_alloc ?_ _) | (with_reducible refine Kd.C_drewN ?_ _) | (with_reducible refine Kd.C_drew ?_))); (case side4 => exact (Kd.R_reads' HO528.out).2.1); rintro e w71 ⟨rfl, hb⟩; refine ⟨_, rfl, ?_⟩; have n0_ := Aside0.mk (Kd.R_below (kr_ HO528) hb); have n1_ := Aside0.mk (blk_below (g := gb484) (o := .cells #[.string a2_0, .int .i64 a2_1, .int .i64 a2_2] 53 (0, 0)) (bk_ BK484) hb); have n2_ := Aside0.mk (below_step (hg_ GE484) hb); clear HO528; clear BK484; clear HB; have HO528 := n0_; have BK484 := n1_; have HB := n2_; clear n0_ n1_ n2_; (try clear hb); (try clear hb2); (try clear hk); (try clear hi)))
             go_ret2
             exact ⟨_, ew_, by (with_reducible repeat (first | apply Kd.R_alloc | apply Kd.R_drewN | apply Kd.R_drew)); exact Kd.R_mono HO528.out (fun _ hk => trivial), (hg_ GE484)⟩
            ·replace c60 := Bool.eq_false_iff.mpr c60
             subst c60
             have H1 : (some (([] : List (S53)), 9)) = some (r1, r2) := by rw [if_neg (show ¬ (false = true) by decide)] at H; exact H
             clear H
             have H := H1
             clear H1
             simp only [Option.some.injEq, Prod.mk.injEq] at H
             obtain ⟨rfl, rfl⟩ := H
             try go_wp2
             have n0_ := Aside0.mk (blk_drew BK484.out)
             have n1_ := Aside0.mk (below_drew1 HB.out)
             clear BK484
             clear HB
             have BK484 := n0_
             have HB := n1_
             clear n0_ n1_
             refine start_ (n := 13) (S := fun w' => True) (ds := []) #[F_,F_,F_,F_,F_,F_,F_,F_,F_,F_,F_,F_,F_] (by kernel_rfl) rfl rfl trivial (fun hHeld => ?_); refine with_tabW spec_AddCheck.tab8 spec_AddCheck.bits8 (fun HT_ HW_ => ?_)
             generalize wr.drew = w72 at BK484 HB hHeld ⊢
             refine pu (i := 0) (N := some 22) #[T_,F_,F_,F_,F_,F_,F_,F_,F_,F_,F_,F_,F_] HT_ ?_
             refine pu (i := 1) (N := some 23) #[T_,T_,F_,F_,F_,F_,F_,F_,F_,F_,F_,F_,F_] HT_ ?_
             refine pu (i := 2) (N := some 24) #[T_,T_,T_,F_,F_,F_,F_,F_,F_,F_,F_,F_,F_] HT_ ?_
             refine pn (i := 3) (N := some 25) #[T_,T_,T_,T_,F_,F_,F_,F_,F_,F_,F_,F_,F_] HT_ ?_
             refine pn (i := 4) (N := some 26) #[T_,T_,T_,T_,T_,F_,F_,F_,F_,F_,F_,F_,F_] HT_ ?_
             refine pn (i := 5) (N := some 27) #[T_,T_,T_,T_,T_,T_,F_,F_,F_,F_,F_,F_,F_] HT_ ?_
             refine pn (i := 6) (N := some 28) #[T_,T_,T_,T_,T_,T_,T_,F_,F_,F_,F_,F_,F_] HT_ ?_
             refine pn (i := 7) (N := some 29) #[T_,T_,T_,T_,T_,T_,T_,T_,F_,F_,F_,F_,F_] HT_ ?_
             refine pn (i := 8) (N := some 30) #[T_,T_,T_,T_,T_,T_,T_,T_,T_,F_,F_,F_,F_] HT_ ?_
             refine pn (i := 9) (N := some 31) #[T_,T_,T_,T_,T_,T_,T_,T_,T_,T_,F_,F_,F_] HT_ ?_
             refine pn (i := 10) (N := some 32) #[T_,T_,T_,T_,T_,T_,T_,T_,T_,T_,T_,F_,F_] HT_ ?_
             refine pn (i := 11) (N := some 33) #[T_,T_,T_,T_,T_,T_,T_,T_,T_,T_,T_,T_,F_] HT_ ?_
             refine pu (i := 12) (N := some 34) #[T_,T_,T_,T_,T_,T_,T_,T_,T_,T_,T_,T_,T_] HT_ ?_
             refine done_ (done_of HT_.out (by kernel_rfl)) ?_
             try go_wp2_with (first | ((with_reducible refine gate_dst (N := 37) rfl ?_); refine Kd.R_lit k53 _ 53 ?hg (N := 37) ?hd (xs := ([] : List (S53))) (inner := []) (ok := fun _ => True) (okp := fun _ => True) ?hr ?hp (fun _ hk => hk) trivial (Below.refl _ _) (Nat.le_refl _) (by simp) ?_; (case hd => rfl); (case hg => rfl); (case hr => first | (go_simp; done) | (go_simp; rfl)); (case hp => exact (Reps.none _ _)); intro v510 w73 ho74 hb hg_ hnew_; clear hg_ hnew_; (first | rw [← Ny509.out] at ho74 | (simp only [Int.reduceToNat] at ho74; rw [← Ny509.out] at ho74)); have n0_ := Aside0.mk (Kd.R_lower (Kd.R_newB ho74 (g := gb484) (o := .cells #[.string a2_0, .int .i64 a2_1, .int .i64 a2_2] 53 (0, 0)) (bk_ BK484)) (below_size (hg_ GE484))); have n1_ := Aside0.mk (blk_below (g := gb484) (o := .cells #[.string a2_0, .int .i64 a2_1, .int .i64 a2_2] 53 (0, 0)) (bk_ BK484) hb); have n2_ := Aside0.mk (below_step (hg_ GE484) hb); clear BK484; clear HB; have HO511 := n0_; have BK484 := n1_; have HB := n2_; clear n0_ n1_ n2_; clear hb ho74; have q75 : (x8_1 : Int) ≤ ((l1.length : Int) : Int) := od_; obtain ⟨i075, hi075, _, hsz75, _⟩ := info_parts info53; have hroom75 : l1.length ≤ c1 := HC1.out; have hC75 : Kd.C k53 _ A1 l1.length l1 := HR1.out; have hcut75 := cut_to (P := Try.prog) 25 53 .i64 Try.underlying25 hi075 A1 l1.length c1 x8_1 (od_) q75 hroom75; have hr75 := Kd.C_take (m := (x8_1 : Int).toNat) hC75 (by omega); have hy75 : y512.length = (x8_1 : Int).toNat := (by rw [Ny512.out, List.length_take]; omega); rw [← Ny512.out] at hr75; rw [← hy75] at hcut75; have HR515 := Aside0.mk hr75; have HC515 := Aside0.mk (show y512.length ≤ c1 from by omega); clear hr75 hC75 hroom75 hi075 hsz75; have KY75 := Aside0.mk hy75; clear hy75; replace q75 := eq_true q75) | ((with_reducible refine gate_builtin (b := .append) (xs := #[.tmp 37, .tmp 40]) rfl ?_); at_builtin; refine Kd.R_append_rows k53 (w0 := w) w.heap.size rfl (.tmp 37) (.tmp 40) 25 53 (.agg #[(.string ⟨#[]⟩), (.int .i64 0), (.int .i64 0)]) 32 rfl Try.underlying25 info53 rfl (by decide) (by omega) v510 y509 y512 _ _ _ (fun k_ => k_ ≠ gb484) (fun _ => False) rfl rfl ?aO ?aR (fun _ _ h => h) (fun _ h => h.elim) ?aF ?aB ?aS ?aL ?_; (case aR => exact kc_ (Kd.C_below HR515.out HB.out)); (case aB => exact (hg_ GE484)); (case aF => exact (fun k_ hk => Kd.freshB (g := gb484) (o := .cells #[.string a2_0, .int .i64 a2_1, .int .i64 a2_2] 53 (0, 0)) (bk_ BK484) k_ hk)); (case aO => exact (by (with_reducible repeat (first | apply Kd.R_alloc | apply Kd.R_drewN | apply Kd.R_drew)); exact Kd.R_mono HO511.out (fun _ hk => hk.2))); (case aS => exact (below_size (hg_ GE484))); (case aL => have := LMc54.out; omega); intro v517 w76 ho hb hg hat; rw [← Ny516.out] at ho; have n0_ := Aside0.mk (blk_grown (g := gb484) (o := .cells #[.string a2_0, .int .i64 a2_1, .int .i64 a2_2] 53 (0, 0)) (bk_ BK484) hg (Kd.R_away HO511.out (fun _ hk => hk.2))); have n1_ := Aside0.mk (hb); have n2_ := Aside0.mk (ho); clear BK484; clear HB; clear HO511; have BK484 := n0_; have HB := n1_; have HO518 := n2_; clear n0_ n1_ n2_; clear ho hb hg hat; have hcz77_0 : w76.cell? ⟨gb484, 0, none⟩ = some (.string a2_0) := (blk_cell BK484.out 0).trans rfl; have hcz77_1 : w76.cell? ⟨gb484, 1, none⟩ = some (.int .i64 a2_1) := (blk_cell BK484.out 1).trans rfl; have hcz77_2 : w76.cell? ⟨gb484, 2, none⟩ = some (.int .i64 a2_2) := (blk_cell BK484.out 2).trans rfl; have hfz77_0 := blk_frozen BK484.out 0; have hfz77_1 := blk_frozen BK484.out 1; have hfz77_2 := blk_frozen BK484.out 2) | ((with_reducible refine gate_builtin (b := .append) (xs := #[.tmp 42, .tmp 44]) rfl ?_); at_builtin; refine Kd.R_append k53 (w0 := w) w.heap.size rfl (.tmp 42) (.tmp 44) 25 53 (.agg #[(.string ⟨#[]⟩), (.int .i64 0), (.int .i64 0)]) 32 rfl Try.underlying25 info53 rfl (by decide) (by omega) v517 y516 (⟨a2_0, a2_1, a2_2⟩ : S53) [.string a2_0, .int .i64 a2_1, .int .i64 a2_2] (fun k_ => k_ ≠ gb484) (fun _ => False) rfl rfl ?aP (fun _ hk => hk.elim) ?aF ?aO ?aB ?aS ?aL ?_; (case aP => exact k53_mkM _ _ _ (⟨a2_0, a2_1, a2_2⟩ : S53)); (case aB => exact (hg_ GE484)); (case aF => exact (fun k_ hk => Kd.freshB (g := gb484) (o := .cells #[.string a2_0, .int .i64 a2_1, .int .i64 a2_2] 53 (0, 0)) (bk_ BK484) k_ hk)); (case aO => exact (kr_ HO518)); (case aS => exact (below_size (hg_ GE484))); (case aL => have := LMc55.out; omega); intro v520 w78 ho hb hg hat; rw [← Ny519.out] at ho; have n0_ := Aside0.mk (blk_grown (g := gb484) (o := .cells #[.string a2_0, .int .i64 a2_1, .int .i64 a2_2] 53 (0, 0)) (bk_ BK484) hg (Kd.R_away HO518.out (fun _ hk => hk))); have n1_ := Aside0.mk (hb); have n2_ := Aside0.mk (ho); clear BK484; clear HB; clear HO518; have BK484 := n0_; have HB := n1_; have HO521 := n2_; clear n0_ n1_ n2_; clear ho hb hg hat; have q79 : (x8_1 : Int) ≤ ((l1.length : Int) : Int) := od_; obtain ⟨i079, hi079, _, hsz79, _⟩ := info_parts info53; have hroom79 : l1.length ≤ c1 := HC1.out; have hC79 : Kd.C k53 _ A1 l1.length l1 := HR1.out; have q079 : (0 : Int) ≤ (x8_1 : Int) := od_; have hcut79 := cut_from (P := Try.prog) 25 53 .i64 Try.underlying25 hi079 3 hsz79 A1 l1.length c1 x8_1 q079 q79; have hr79 := Kd.C_drop (m := (x8_1 : Int).toNat) (c := c1) hC79 (by omega) hroom79; obtain ⟨A79, hA79⟩ : ∃ Az_, Az_ = (if c1 = (x8_1 : Int).toNat then A1 else (A1 : Option Addr).map (·.add ((x8_1 : Int).toNat * 3))) := ⟨_, rfl⟩; obtain ⟨c79, hc79⟩ : ∃ cz_, cz_ = c1 - (x8_1 : Int).toNat := ⟨_, rfl⟩; have hy79 : y522.length = l1.length - (x8_1 : Int).toNat := (by rw [Ny522.out, List.length_drop] <;> omega); rw [show (l1).drop (x8_1 : Int).toNat = y522 from Ny522.out.symm] at hr79; replace hr79 : Kd.C k53 _ A79 y522.length y522 := (by rw [hA79]; exact hr79); rw [← hy79, ← hA79, ← hc79] at hcut79; have HR525 := Aside0.mk hr79; have HC525 := Aside0.mk (show y522.length ≤ c79 from by rw [hy79, hc79]; exact Nat.sub_le_sub_right hroom79 _); clear hr79 hC79 hroom79 hi079 hsz79 hc79; have KY79 := Aside0.mk hy79; have KA79 := Aside0.mk hA79; clear hy79 hA79; replace q79 := eq_true q79) | ((with_reducible refine gate_builtin (b := .append) (xs := #[.tmp 46, .tmp 49]) rfl ?_); at_builtin; refine Kd.R_append_rows k53 (w0 := w) w.heap.size rfl (.tmp 46) (.tmp 49) 25 53 (.agg #[(.string ⟨#[]⟩), (.int .i64 0), (.int .i64 0)]) 32 rfl Try.underlying25 info53 rfl (by decide) (by omega) v520 y519 y522 _ _ _ (fun k_ => k_ ≠ gb484) (fun _ => False) rfl rfl ?aO ?aR (fun _ _ h => h) (fun _ h => h.elim) ?aF ?aB ?aS ?aL ?_; (case aR => exact kc_ (Kd.C_below HR525.out HB.out)); (case aB => exact (hg_ GE484)); (case aF => exact (fun k_ hk => Kd.freshB (g := gb484) (o := .cells #[.string a2_0, .int .i64 a2_1, .int .i64 a2_2] 53 (0, 0)) (bk_ BK484) k_ hk)); (case aO => exact (kr_ HO521)); (case aS => exact (below_size (hg_ GE484))); (case aL => have := LMc58.out; omega); intro v527 w80 ho hb hg hat; rw [← Ny526.out] at ho; have n0_ := Aside0.mk (blk_grown (g := gb484) (o := .cells #[.string a2_0, .int .i64 a2_1, .int .i64 a2_2] 53 (0, 0)) (bk_ BK484) hg (Kd.R_away HO521.out (fun _ hk => hk))); have n1_ := Aside0.mk (hb); have n2_ := Aside0.mk (ho); clear BK484; clear HB; clear HO521; have BK484 := n0_; have HB := n1_; have HO528 := n2_; clear n0_ n1_ n2_; clear ho hb hg hat; obtain ⟨Ao81, co81, eo81⟩ := Kd.R_slice HO528.out; subst eo81) | ((with_reducible refine gate_callee (f := 63) rfl ?_); refine goesL_ (some 53) rfl rfl Try.func63 (by kernel_rfl) rfl #[.slice A0 l0.length c0, .slice Ao81 y526.length co81] rfl ln_ ?_; (with_reducible refine (spec_l21Checks.calls k1 _ _ l0 _ _ y526 false _ ?side1 ?side2 ?side3 ?side4 A59.out).mono ?_); (case side1 => exact kc_ (Kd.C_below HR0.out HB.out)); (case side2 => exact HC0.out); (case side3 => repeat (first | exact (Kd.R_reads' HO528.out).2.2 | (with_reducible refine Kd.C_alloc ?_ _) | (with_reducible refine Kd.C_drewN ?_ _) | (with_reducible refine Kd.C_drew ?_))); (case side4 => exact (Kd.R_reads' HO528.out).2.1); rintro e w82 ⟨rfl, hb⟩; refine ⟨_, rfl, ?_⟩; have n0_ := Aside0.mk (Kd.R_below (kr_ HO528) hb); have n1_ := Aside0.mk (blk_below (g := gb484) (o := .cells #[.string a2_0, .int .i64 a2_1, .int .i64 a2_2] 53 (0, 0)) (bk_ BK484) hb); have n2_ := Aside0.mk (below_step (hg_ GE484) hb); clear HO528; clear BK484; clear HB; have HO528 := n0_; have BK484 := n1_; have HB := n2_; clear n0_ n1_ n2_; (try clear hb); (try clear hb2); (try clear hk); (try clear hi)))
             go_ret2
             exact ⟨_, ew_, by first | exact Kd.R_nil _ _ _ _ _ | exact Kd.N_nil _ _ _ _ _ | exact Kd.V_nil _ _ _ _ _ | exact Kd.Q_nil _ _ _ _ _ | exact Kd.S_nil _ _ _ _ _, (hg_ GE484)⟩
           ·rw [if_neg c58] at H
            exact absurd H (by simp)
          ·rw [if_neg c55] at H
           exact absurd H (by simp)
         ·rw [if_neg c54] at H
          exact absurd H (by simp)
        ·rw [if_neg c53] at H
         exact absurd H (by simp)
       ·rw [if_neg c52] at H
        exact absurd H (by simp)
  ·replace c7 := Bool.eq_false_iff.mpr c7
   subst c7
   have H1 : (some (([] : List (S53)), 2)) = some (r1, r2) := by rw [if_neg (show ¬ (false = true) by decide)] at H; exact H
   clear H
   have H := H1
   clear H1
   simp only [Option.some.injEq, Prod.mk.injEq] at H
   obtain ⟨rfl, rfl⟩ := H
   go_enter Try.func38, Try.ntmps38
   go_wp2_with (first | ((with_reducible refine gate_dst (N := 5) rfl ?_); refine box_event ?hg (N := 5) ?hd (cs := #[.string a2_0, .int .i64 a2_1, .int .i64 a2_2]) (t := 53) ?hr ?_; (case hd => rfl); (case hg => rfl); (case hr => first | (go_simp; done) | (go_simp; rfl)); intro gb484 hg w83 hbox hb; have n0_ := Aside0.mk (below_step hb_ hb); have n1_ := Aside0.mk (hbox); have n2_ := Aside0.mk ((by rw [hg]; exact (below_size hb_) : w.heap.size ≤ gb484)); have n3_ := Aside0.mk ((by rw [hg]; exact (below_size hb_) : w.heap.size ≤ gb484)); clear HB; have HB := n0_; have BK484 := n1_; have GW484 := n2_; have GE484 := n3_; clear n0_ n1_ n2_ n3_; clear hb hbox hg) | ((with_reducible refine gate_callee (f := 63) rfl ?_); refine goesL_ (some 12) rfl rfl Try.func63 (by kernel_rfl) rfl #[.slice A0 l0.length c0, .slice A1 l1.length c1] rfl ln_ ?_; (with_reducible refine (spec_l21Checks.calls k _ _ l0 _ _ l1 true _ ?side1 ?side2 ?side3 ?side4 A4.out).mono ?_); (case side1 => exact kc_ (Kd.C_below HR0.out HB.out)); (case side2 => exact HC0.out); (case side3 => exact kc_ (Kd.C_below HR1.out HB.out)); (case side4 => exact HC1.out); rintro e w84 ⟨rfl, hb⟩; refine ⟨_, rfl, ?_⟩; have n0_ := Aside0.mk (blk_below (g := gb484) (o := .cells #[.string a2_0, .int .i64 a2_1, .int .i64 a2_2] 53 (0, 0)) (bk_ BK484) hb); have n1_ := Aside0.mk (below_step (hg_ GE484) hb); clear BK484; clear HB; have BK484 := n0_; have HB := n1_; clear n0_ n1_; (try clear hb); (try clear hb2); (try clear hk); (try clear hi)) | ((with_reducible refine gate_callee (f := 75) rfl ?_); refine goesL_ (some 15) rfl rfl Try.func75 (by kernel_rfl) rfl #[.slice A0 l0.length c0, .pointer (some ⟨gb484, 0, none⟩)] rfl ln_ ?_; (with_reducible refine (spec_l21Check.calls k _ _ l0 _ a2_0 a2_1 a2_2 false _ ?side1 ?side2 ?side3 ?side4 ?side5 A6.out).mono ?_); (case side1 => exact kc_ (Kd.C_below HR0.out HB.out)); (case side2 => exact HC0.out); (case side3 => exact (blk_cell (cs := #[.string a2_0, .int .i64 a2_1, .int .i64 a2_2]) (bk_ BK484) 0).trans rfl); (case side4 => exact (blk_cell (cs := #[.string a2_0, .int .i64 a2_1, .int .i64 a2_2]) (bk_ BK484) 1).trans rfl); (case side5 => exact (blk_cell (cs := #[.string a2_0, .int .i64 a2_1, .int .i64 a2_2]) (bk_ BK484) 2).trans rfl); rintro e w85 ⟨rfl, hb⟩; refine ⟨_, rfl, ?_⟩; have n0_ := Aside0.mk (blk_below (g := gb484) (o := .cells #[.string a2_0, .int .i64 a2_1, .int .i64 a2_2] 53 (0, 0)) (bk_ BK484) hb); have n1_ := Aside0.mk (below_step (hg_ GE484) hb); clear BK484; clear HB; have BK484 := n0_; have HB := n1_; clear n0_ n1_; (try clear hb); (try clear hb2); (try clear hk); (try clear hi)))
   go_ret2
   exact ⟨_, ew_, by first | exact Kd.R_nil _ _ _ _ _ | exact Kd.N_nil _ _ _ _ _ | exact Kd.V_nil _ _ _ _ _ | exact Kd.Q_nil _ _ _ _ _ | exact Kd.S_nil _ _ _ _ _, (hg_ GE484)⟩
 ·replace c5 := Bool.eq_false_iff.mpr c5
  subst c5
  have H1 : (some (([] : List (S53)), 1)) = some (r1, r2) := by rw [if_neg (show ¬ (false = true) by decide)] at H; exact H
  clear H
  have H := H1
  clear H1
  simp only [Option.some.injEq, Prod.mk.injEq] at H
  obtain ⟨rfl, rfl⟩ := H
  go_enter Try.func38, Try.ntmps38
  go_wp2_with (first | ((with_reducible refine gate_dst (N := 5) rfl ?_); refine box_event ?hg (N := 5) ?hd (cs := #[.string a2_0, .int .i64 a2_1, .int .i64 a2_2]) (t := 53) ?hr ?_; (case hd => rfl); (case hg => rfl); (case hr => first | (go_simp; done) | (go_simp; rfl)); intro gb484 hg w86 hbox hb; have n0_ := Aside0.mk (below_step hb_ hb); have n1_ := Aside0.mk (hbox); have n2_ := Aside0.mk ((by rw [hg]; exact (below_size hb_) : w.heap.size ≤ gb484)); have n3_ := Aside0.mk ((by rw [hg]; exact (below_size hb_) : w.heap.size ≤ gb484)); clear HB; have HB := n0_; have BK484 := n1_; have GW484 := n2_; have GE484 := n3_; clear n0_ n1_ n2_ n3_; clear hb hbox hg) | ((with_reducible refine gate_callee (f := 63) rfl ?_); refine goesL_ (some 12) rfl rfl Try.func63 (by kernel_rfl) rfl #[.slice A0 l0.length c0, .slice A1 l1.length c1] rfl ln_ ?_; (with_reducible refine (spec_l21Checks.calls k _ _ l0 _ _ l1 false _ ?side1 ?side2 ?side3 ?side4 A4.out).mono ?_); (case side1 => exact kc_ (Kd.C_below HR0.out HB.out)); (case side2 => exact HC0.out); (case side3 => exact kc_ (Kd.C_below HR1.out HB.out)); (case side4 => exact HC1.out); rintro e w87 ⟨rfl, hb⟩; refine ⟨_, rfl, ?_⟩; have n0_ := Aside0.mk (blk_below (g := gb484) (o := .cells #[.string a2_0, .int .i64 a2_1, .int .i64 a2_2] 53 (0, 0)) (bk_ BK484) hb); have n1_ := Aside0.mk (below_step (hg_ GE484) hb); clear BK484; clear HB; have BK484 := n0_; have HB := n1_; clear n0_ n1_; (try clear hb); (try clear hb2); (try clear hk); (try clear hi)))
  go_ret2
  exact ⟨_, ew_, by first | exact Kd.R_nil _ _ _ _ _ | exact Kd.N_nil _ _ _ _ _ | exact Kd.V_nil _ _ _ _ _ | exact Kd.Q_nil _ _ _ _ _ | exact Kd.S_nil _ _ _ _ _, (hg_ GE484)⟩

/-! ### impl_AddCheck: function 40 -/
def impl_AddCheck.l0 : Nat → List (S73) → List (S53) → Int → ByteArray → Int → Int → Option ((List (S53)) × Int)
 | 0, _, _, _, _, _, _ => none
 | k + 1, x0, x1, x9, x531000, x531001, x531002 => if x9 > 0 then (if 0 ≤ (wrap64 (x9 - 1)) then (if (wrap64 (x9 - 1)) < (x1.length : Int) then (if ((rd_T53 x1 (wrap64 (x9 - 1))).f1) > x531001 then (impl_AddCheck.l0 k x0 x1 (wrap64 (x9 - 1)) x531000 x531001 x531002) else ((some (([] : List (S53)) : List (S53))).bind fun y534 => (if 0 ≤ x9 then (if x9 ≤ (x1.length : Int) then ((some (x1.take (x9 : Int).toNat : List (S53))).bind fun y537 => (if y534.length + y537.length < 4398046511104 then ((some (y534 ++ y537 : List (S53))).bind fun y541 => ((some (([(⟨x531000, x531001, x531002⟩ : S53)] : List (S53)) : List (S53))).bind fun y544 => (if y541.length + y544.length < 4398046511104 then ((some (y541 ++ y544 : List (S53))).bind fun y547 => ((some (x1.drop (x9 : Int).toNat : List (S53))).bind fun y550 => (if y547.length + y550.length < 4398046511104 then ((some (y547 ++ y550 : List (S53))).bind fun y554 => ((impl_areChecks.f k x0 y554).bind fun t557 => (if t557 = true then (some (y554, 0)) else (some (([] : List (S53)), 9))))) else (none)))) else (none)))) else (none))) else (none)) else (none)))) else (none)) else (none)) else ((some (([] : List (S53)) : List (S53))).bind fun y558 => (if 0 ≤ x9 then (if x9 ≤ (x1.length : Int) then ((some (x1.take (x9 : Int).toNat : List (S53))).bind fun y561 => (if y558.length + y561.length < 4398046511104 then ((some (y558 ++ y561 : List (S53))).bind fun y565 => ((some (([(⟨x531000, x531001, x531002⟩ : S53)] : List (S53)) : List (S53))).bind fun y568 => (if y565.length + y568.length < 4398046511104 then ((some (y565 ++ y568 : List (S53))).bind fun y571 => ((some (x1.drop (x9 : Int).toNat : List (S53))).bind fun y574 => (if y571.length + y574.length < 4398046511104 then ((some (y571 ++ y574 : List (S53))).bind fun y578 => ((impl_areChecks.f k x0 y578).bind fun t581 => (if t581 = true then (some (y578, 0)) else (some (([] : List (S53)), 9))))) else (none)))) else (none)))) else (none))) else (none)) else (none)))
def impl_AddCheck.f (k : Nat) (l0 : List (S73)) (l1 : List (S53)) (a2_0 : ByteArray) (a2_1 : Int) (a2_2 : Int) : Option ((List (S53)) × Int) := (impl_gearCode.f k l0 l1 0).bind fun t531 => (if t531 = 0 then ((impl_isCheck.f l0 a2_0 a2_1 a2_2).bind fun t532 => (if t532 = true then (if (l1.length : Int) = 60 then (some (([] : List (S53)), 5)) else (impl_AddCheck.l0 k l0 l1 (l1.length : Int) a2_0 a2_1 a2_2)) else (some (([] : List (S53)), 2)))) else (some (([] : List (S53)), t531)))
theorem impl_AddCheck.mono_l : ∀ k, (∀ y0 y1 y2 y3 y4 y5, LeO (impl_AddCheck.l0 k y0 y1 y2 y3 y4 y5) (impl_AddCheck.l0 (k + 1) y0 y1 y2 y3 y4 y5))
 | 0 => fun _ _ _ _ _ _ r h => by simp [impl_AddCheck.l0] at h
 | k + 1 => by
  have ih0 := impl_AddCheck.mono_l k
  ·intro y0 y1 y2 y3 y4 y5
   unfold impl_AddCheck.l0
   repeat' first
   | (with_reducible exact ih0 _ _ _ _ _ _)
   | (with_reducible exact impl_areChecks.mono _ _ _)
   | (with_reducible exact impl_gearCode.mono _ _ _ _)
   | (with_reducible exact LeO.refl _)
   | (with_reducible exact LeO.none _)
   | (with_reducible refine LeO.ite ?_ ?_)
   | (with_reducible refine LeO.bind ?_ (fun _ => ?_))
   | exact ih0 _ _ _ _ _ _
   | exact impl_areChecks.mono _ _ _
   | exact impl_gearCode.mono _ _ _ _
   | exact LeO.none _
   | refine LeO.ite ?_ ?_
   | refine LeO.bind ?_ (fun _ => ?_)
theorem impl_AddCheck.mono : ∀ a0 a1 a2 a3 a4 k, LeO (impl_AddCheck.f k a0 a1 a2 a3 a4) (impl_AddCheck.f (k + 1) a0 a1 a2 a3 a4) := by
 intro a0 a1 a2 a3 a4 k
 have ih0 := impl_AddCheck.mono_l k
 unfold impl_AddCheck.f
 repeat' first
   | (with_reducible exact ih0 _ _ _ _ _ _)
   | (with_reducible exact impl_areChecks.mono _ _ _)
   | (with_reducible exact impl_gearCode.mono _ _ _ _)
   | (with_reducible exact LeO.refl _)
   | (with_reducible exact LeO.none _)
   | (with_reducible refine LeO.ite ?_ ?_)
   | (with_reducible refine LeO.bind ?_ (fun _ => ?_))
   | exact ih0 _ _ _ _ _ _
   | exact impl_areChecks.mono _ _ _
   | exact impl_gearCode.mono _ _ _ _
   | exact LeO.none _
   | refine LeO.ite ?_ ?_
   | refine LeO.bind ?_ (fun _ => ?_)
def impl_AddCheck.T9 : Bool × List (List Nat × List Nat) := (true, [([], []), ([0], [0]), ([1], [1]), ([2], [2]), ([2], [2]), ([4, 2], [2, 4]), ([3, 5, 2], [2, 3, 5]), ([6, 2], [2, 6]), ([7, 2], [2, 7]), ([2], [2]), ([9, 2], [2, 9]), ([8, 10, 2], [2, 8, 10]), ([2, 11], [2, 11])])
def impl_AddCheck.B9 : List Nat := [0, 1, 3, 7, 7, 23, 63, 127, 255, 7, 519, 2047, 4095]
theorem impl_AddCheck.tab9 : rtab .any (opsOf Try.f40 9) = impl_AddCheck.T9 := by kernel_rfl
theorem impl_AddCheck.bits9 : waitsOk impl_AddCheck.T9.2 impl_AddCheck.B9 = true := by kernel_rfl
def impl_AddCheck.T11 : Bool × List (List Nat × List Nat) := (true, [([], []), ([], []), ([], []), ([1, 2], [1, 2]), ([0, 3], [0, 3]), ([], []), ([5], [5]), ([4, 6, 4], [4, 6]), ([], []), ([], []), ([8, 9], [8, 9]), ([7, 10, 7], [7, 10]), ([11, 11, 0, 1, 2, 3, 4, 5, 6, 7, 8, 9, 10, 11], [11])])
def impl_AddCheck.B11 : List Nat := [0, 0, 0, 6, 15, 0, 32, 127, 0, 0, 768, 2047, 4095]
theorem impl_AddCheck.tab11 : rtab .any (opsOf Try.f40 11) = impl_AddCheck.T11 := by kernel_rfl
theorem impl_AddCheck.bits11 : waitsOk impl_AddCheck.T11.2 impl_AddCheck.B11 = true := by kernel_rfl
set_option maxHeartbeats 8000000 in
set_option maxRecDepth 100000 in
theorem impl_AddCheck.calls (k : Nat) (A0 : Option Addr) (c0 : Nat) (l0 : List (S73)) (A1 : Option Addr) (c1 : Nat) (l1 : List (S53)) (a2_0 : ByteArray) (a2_1 : Int) (a2_2 : Int) (r1 : List (S53)) (r2 : Int) (w : World) (hr0 : Kd.C k73 w A0 l0.length l0) (hc0 : l0.length ≤ c0) (hr1 : Kd.C k53 w A1 l1.length l1) (hc1 : l1.length ≤ c1) (h : impl_AddCheck.f k l0 l1 a2_0 a2_1 a2_2 = some (r1, r2)) :
  Calls Try.prog 40 #[.slice A0 l0.length c0, .slice A1 l1.length c1, .agg #[.string a2_0, .int .i64 a2_1, .int .i64 a2_2]] w fun e w' => ∃ v0_ : Value, e = .returned (.tuple #[v0_, .int .i64 r2]) ∧ Kd.R k53 53 w' w.heap.size (fun _ => True) v0_ r1 ∧ Below w.heap.size w w' := by
 have hu53 := Try.underlying53
 have HR0 := Aside0.mk hr0
 have HC0 := Aside0.mk hc0
 clear hr0 hc0
 have HR1 := Aside0.mk hr1
 have HC1 := Aside0.mk hc1
 clear hr1 hc1
 have HB := Aside0.mk (Below.refl w.heap.size w)
 have H : ((impl_gearCode.f k l0 l1 0).bind fun t531 => (if t531 = 0 then ((impl_isCheck.f l0 a2_0 a2_1 a2_2).bind fun t532 => (if t532 = true then (if (l1.length : Int) = 60 then (some (([] : List (S53)), 5)) else (impl_AddCheck.l0 k l0 l1 (l1.length : Int) a2_0 a2_1 a2_2)) else (some (([] : List (S53)), 2)))) else (some (([] : List (S53)), t531)))) = some (r1, r2) := h
 clear h
 replace H := Option.bind_eq_some_iff.mp H
 obtain ⟨t531, A40, H⟩ := H
 replace H : (if t531 = 0 then ((impl_isCheck.f l0 a2_0 a2_1 a2_2).bind fun t532 => (if t532 = true then (if (l1.length : Int) = 60 then (some (([] : List (S53)), 5)) else (impl_AddCheck.l0 k l0 l1 (l1.length : Int) a2_0 a2_1 a2_2)) else (some (([] : List (S53)), 2)))) else (some (([] : List (S53)), t531))) = some (r1, r2) := H
 have A4 := Aside0.mk A40
 clear A40
 by_cases c5 : t531 = 0
 ·rw [if_pos c5] at H
  have c5b0 : (t531 == 0) = true := beq_iff_eq.mpr c5
  have c5b1 : (t531 != 0) = false := bne_eq_false_iff_eq.mpr c5
  clear c5
  replace H := Option.bind_eq_some_iff.mp H
  obtain ⟨t532, A60, H⟩ := H
  replace H : (if t532 = true then (if (l1.length : Int) = 60 then (some (([] : List (S53)), 5)) else (impl_AddCheck.l0 k l0 l1 (l1.length : Int) a2_0 a2_1 a2_2)) else (some (([] : List (S53)), 2))) = some (r1, r2) := H
  have A6 := Aside0.mk A60
  clear A60
  by_cases c7 : t532 = true
  ·subst c7
   have H1 : (if (l1.length : Int) = 60 then (some (([] : List (S53)), 5)) else (impl_AddCheck.l0 k l0 l1 (l1.length : Int) a2_0 a2_1 a2_2)) = some (r1, r2) := by rw [if_pos rfl] at H; exact H
   clear H
   have H := H1
   clear H1
   by_cases c8 : (l1.length : Int) = 60
   ·rw [if_pos c8] at H
    have c8b0 : ((l1.length : Int) == 60) = true := beq_iff_eq.mpr c8
    have c8b1 : ((l1.length : Int) != 60) = false := bne_eq_false_iff_eq.mpr c8
    clear c8
    simp only [Option.some.injEq, Prod.mk.injEq] at H
    obtain ⟨rfl, rfl⟩ := H
    go_enter Try.func40, Try.ntmps40
    go_wp2_with (first | ((with_reducible refine gate_dst (N := 5) rfl ?_); refine box_event ?hg (N := 5) ?hd (cs := #[.string a2_0, .int .i64 a2_1, .int .i64 a2_2]) (t := 53) ?hr ?_; (case hd => rfl); (case hg => rfl); (case hr => first | (go_simp; done) | (go_simp; rfl)); intro gb530 hg w9 hbox hb; have n0_ := Aside0.mk (below_step hb_ hb); have n1_ := Aside0.mk (hbox); have n2_ := Aside0.mk ((by rw [hg]; exact (below_size hb_) : w.heap.size ≤ gb530)); have n3_ := Aside0.mk ((by rw [hg]; exact (below_size hb_) : w.heap.size ≤ gb530)); clear HB; have HB := n0_; have BK530 := n1_; have GW530 := n2_; have GE530 := n3_; clear n0_ n1_ n2_ n3_; clear hb hbox hg) | ((with_reducible refine gate_callee (f := 71) rfl ?_); refine goesL_ (some 13) rfl rfl Try.func71 (by kernel_rfl) rfl #[.slice A0 l0.length c0, .slice A1 l1.length c1, .int .i64 0] rfl ln_ ?_; (with_reducible refine (impl_gearCode.calls k _ _ l0 _ _ l1 0 t531 _ ?side1 ?side2 ?side3 ?side4 A4.out).mono ?_); (case side1 => exact kc_ (Kd.C_below HR0.out HB.out)); (case side2 => exact HC0.out); (case side3 => exact kc_ (Kd.C_below HR1.out HB.out)); (case side4 => exact HC1.out); rintro e w10 ⟨rfl, hb⟩; refine ⟨_, rfl, ?_⟩; have n0_ := Aside0.mk (blk_below (g := gb530) (o := .cells #[.string a2_0, .int .i64 a2_1, .int .i64 a2_2] 53 (0, 0)) (bk_ BK530) hb); have n1_ := Aside0.mk (below_step (hg_ GE530) hb); clear BK530; clear HB; have BK530 := n0_; have HB := n1_; clear n0_ n1_; (try clear hb); (try clear hb2); (try clear hk); (try clear hi); have hcz11_0 : w10.cell? ⟨gb530, 0, none⟩ = some (.string a2_0) := (blk_cell BK530.out 0).trans rfl; have hcz11_1 : w10.cell? ⟨gb530, 1, none⟩ = some (.int .i64 a2_1) := (blk_cell BK530.out 1).trans rfl; have hcz11_2 : w10.cell? ⟨gb530, 2, none⟩ = some (.int .i64 a2_2) := (blk_cell BK530.out 2).trans rfl; have hfz11_0 := blk_frozen BK530.out 0; have hfz11_1 := blk_frozen BK530.out 1; have hfz11_2 := blk_frozen BK530.out 2) | ((with_reducible refine gate_callee (f := 76) rfl ?_); refine goesL_ (some 19) rfl rfl Try.func76 (by kernel_rfl) rfl #[.slice A0 l0.length c0, .agg #[.string a2_0, .int .i64 a2_1, .int .i64 a2_2]] rfl ln_ ?_; (with_reducible refine (impl_isCheck.calls _ _ l0 a2_0 a2_1 a2_2 true _ ?side1 ?side2 A6.out).mono ?_); (case side1 => exact kc_ (Kd.C_below HR0.out HB.out)); (case side2 => exact HC0.out); rintro e w12 ⟨rfl, hb⟩; refine ⟨_, rfl, ?_⟩; have n0_ := Aside0.mk (blk_below (g := gb530) (o := .cells #[.string a2_0, .int .i64 a2_1, .int .i64 a2_2] 53 (0, 0)) (bk_ BK530) hb); have n1_ := Aside0.mk (below_step (hg_ GE530) hb); clear BK530; clear HB; have BK530 := n0_; have HB := n1_; clear n0_ n1_; (try clear hb); (try clear hb2); (try clear hk); (try clear hi)))
    go_ret2
    exact ⟨_, ew_, by first | exact Kd.R_nil _ _ _ _ _ | exact Kd.N_nil _ _ _ _ _ | exact Kd.V_nil _ _ _ _ _ | exact Kd.Q_nil _ _ _ _ _ | exact Kd.S_nil _ _ _ _ _, (hg_ GE530)⟩
   ·rw [if_neg c8] at H
    have c8b0 : ((l1.length : Int) == 60) = false := beq_eq_false_iff_ne.mpr c8
    have c8b1 : ((l1.length : Int) != 60) = true := bne_iff_ne.mpr c8
    have H' := Aside0.mk H
    clear H
    go_enter Try.func40, Try.ntmps40
    go_wp2_with (first | ((with_reducible refine gate_dst (N := 5) rfl ?_); refine box_event ?hg (N := 5) ?hd (cs := #[.string a2_0, .int .i64 a2_1, .int .i64 a2_2]) (t := 53) ?hr ?_; (case hd => rfl); (case hg => rfl); (case hr => first | (go_simp; done) | (go_simp; rfl)); intro gb530 hg w13 hbox hb; have n0_ := Aside0.mk (below_step hb_ hb); have n1_ := Aside0.mk (hbox); have n2_ := Aside0.mk ((by rw [hg]; exact (below_size hb_) : w.heap.size ≤ gb530)); have n3_ := Aside0.mk ((by rw [hg]; exact (below_size hb_) : w.heap.size ≤ gb530)); clear HB; have HB := n0_; have BK530 := n1_; have GW530 := n2_; have GE530 := n3_; clear n0_ n1_ n2_ n3_; clear hb hbox hg) | ((with_reducible refine gate_callee (f := 71) rfl ?_); refine goesL_ (some 13) rfl rfl Try.func71 (by kernel_rfl) rfl #[.slice A0 l0.length c0, .slice A1 l1.length c1, .int .i64 0] rfl ln_ ?_; (with_reducible refine (impl_gearCode.calls k _ _ l0 _ _ l1 0 t531 _ ?side1 ?side2 ?side3 ?side4 A4.out).mono ?_); (case side1 => exact kc_ (Kd.C_below HR0.out HB.out)); (case side2 => exact HC0.out); (case side3 => exact kc_ (Kd.C_below HR1.out HB.out)); (case side4 => exact HC1.out); rintro e w14 ⟨rfl, hb⟩; refine ⟨_, rfl, ?_⟩; have n0_ := Aside0.mk (blk_below (g := gb530) (o := .cells #[.string a2_0, .int .i64 a2_1, .int .i64 a2_2] 53 (0, 0)) (bk_ BK530) hb); have n1_ := Aside0.mk (below_step (hg_ GE530) hb); clear BK530; clear HB; have BK530 := n0_; have HB := n1_; clear n0_ n1_; (try clear hb); (try clear hb2); (try clear hk); (try clear hi); have hcz15_0 : w14.cell? ⟨gb530, 0, none⟩ = some (.string a2_0) := (blk_cell BK530.out 0).trans rfl; have hcz15_1 : w14.cell? ⟨gb530, 1, none⟩ = some (.int .i64 a2_1) := (blk_cell BK530.out 1).trans rfl; have hcz15_2 : w14.cell? ⟨gb530, 2, none⟩ = some (.int .i64 a2_2) := (blk_cell BK530.out 2).trans rfl; have hfz15_0 := blk_frozen BK530.out 0; have hfz15_1 := blk_frozen BK530.out 1; have hfz15_2 := blk_frozen BK530.out 2) | ((with_reducible refine gate_callee (f := 76) rfl ?_); refine goesL_ (some 19) rfl rfl Try.func76 (by kernel_rfl) rfl #[.slice A0 l0.length c0, .agg #[.string a2_0, .int .i64 a2_1, .int .i64 a2_2]] rfl ln_ ?_; (with_reducible refine (impl_isCheck.calls _ _ l0 a2_0 a2_1 a2_2 true _ ?side1 ?side2 A6.out).mono ?_); (case side1 => exact kc_ (Kd.C_below HR0.out HB.out)); (case side2 => exact HC0.out); rintro e w16 ⟨rfl, hb⟩; refine ⟨_, rfl, ?_⟩; have n0_ := Aside0.mk (blk_below (g := gb530) (o := .cells #[.string a2_0, .int .i64 a2_1, .int .i64 a2_2] 53 (0, 0)) (bk_ BK530) hb); have n1_ := Aside0.mk (below_step (hg_ GE530) hb); clear BK530; clear HB; have BK530 := n0_; have HB := n1_; clear n0_ n1_; (try clear hb); (try clear hb2); (try clear hk); (try clear hi)))
    go_loopg [9] k (fun kq v9 w' => ∃ (x9_1 : Int), v9 = .int .i64 x9_1 ∧ Aside0 (impl_AddCheck.l0 kq l0 l1 x9_1 a2_0 a2_1 a2_2 = some (r1, r2)) ∧ Aside0 (kq ≤ k) ∧ Aside0 (w'.heap[gb530]? = some (.cells #[.string a2_0, .int .i64 a2_1, .int .i64 a2_2] 53 (0, 0))) ∧ Aside0 (Below w.heap.size w w'))
    case atStart => exact ⟨((l1.length : Int)), (by first | rfl | (simp; done) | (simp [*]; done)), H', ⟨Nat.le_refl _⟩, ⟨by (with_reducible repeat (first | refine blk_drewN ?_ _ | refine blk_drew ?_ | refine blk_alloc ?_ _)); exact BK530.out⟩, ⟨(hg_ GE530)⟩⟩
    case round =>
     clear H'
     try clear c1
     try clear p2
     try clear c4
     try clear c5
     try clear c5b0
     try clear c5b1
     try clear c7
     try clear c8
     try clear c8b0
     try clear c8b1
     try clear hcz11_0
     try clear hcz11_1
     try clear hcz11_2
     try clear hcz15_0
     try clear hcz15_1
     try clear hcz15_2
     try clear hfz11_0
     try clear hfz11_1
     try clear hfz11_2
     try clear hfz15_0
     try clear hfz15_1
     try clear hfz15_2
     obtain ⟨x9_1, rfl, HA, HK1, BK530, HB⟩ := hrel
     cases gk with
     | zero => exact absurd HA.out (by simp [impl_AddCheck.l0])
     | succ k1 =>
      have H := HA.out
      clear HA
      simp only [impl_AddCheck.l0] at H
      by_cases c17 : x9_1 > 0
      ·rw [if_pos c17] at H
       have c17b0 : decide (0 < x9_1) = true := decide_eq_true c17
       clear c17
       obtain ⟨ji18, hji18⟩ : ∃ j_ : Int, (wrap64 (x9_1 - 1)) = j_ := ⟨_, rfl⟩
       replace H : (if 0 ≤ (ji18) then (if (ji18) < (l1.length : Int) then (if ((rd_T53 l1 (ji18)).f1) > a2_1 then (impl_AddCheck.l0 k1 l0 l1 ji18 a2_0 a2_1 a2_2) else ((some (([] : List (S53)) : List (S53))).bind fun y534 => (if 0 ≤ x9_1 then (if x9_1 ≤ (l1.length : Int) then ((some (l1.take (x9_1 : Int).toNat : List (S53))).bind fun y537 => (if y534.length + y537.length < 4398046511104 then ((some (y534 ++ y537 : List (S53))).bind fun y541 => ((some (([(⟨a2_0, a2_1, a2_2⟩ : S53)] : List (S53)) : List (S53))).bind fun y544 => (if y541.length + y544.length < 4398046511104 then ((some (y541 ++ y544 : List (S53))).bind fun y547 => ((some (l1.drop (x9_1 : Int).toNat : List (S53))).bind fun y550 => (if y547.length + y550.length < 4398046511104 then ((some (y547 ++ y550 : List (S53))).bind fun y554 => ((impl_areChecks.f k1 l0 y554).bind fun t557 => (if t557 = true then (some (y554, 0)) else (some (([] : List (S53)), 9))))) else (none)))) else (none)))) else (none))) else (none)) else (none)))) else (none)) else (none)) = some (r1, r2) := by first | (rw [hji18] at H; exact H) | (simp only [hji18] at H ⊢; exact H)
       have hji18w : (IntKind.i64.wrap (x9_1 - 1)) = ji18 := (i64_w _).trans hji18
       by_cases c19 : 0 ≤ (ji18)
       ·rw [if_pos c19] at H
        have c19b0 : decide (0 ≤ (ji18)) = true := decide_eq_true c19
        clear c19
        by_cases c20 : (ji18) < (l1.length : Int)
        ·rw [if_pos c20] at H
         have c20b0 : decide ((ji18) < (l1.length : Int)) = true := decide_eq_true c20
         clear c20
         by_cases c21 : ((rd_T53 l1 (ji18)).f1) > a2_1
         ·rw [if_pos c21] at H
          have c21b0 : decide (a2_1 < ((rd_T53 l1 (ji18)).f1)) = true := decide_eq_true c21
          clear c21
          have H' := Aside0.mk H
          clear H
          try go_wp2
          have n0_ := Aside0.mk (blk_drew BK530.out)
          have n1_ := Aside0.mk (below_drew1 HB.out)
          clear BK530
          clear HB
          have BK530 := n0_
          have HB := n1_
          clear n0_ n1_
          have p533 : 0 ≤ ((ji18) : Int) := od_
          have q533 : (ji18) < (l1.length : Int) := od_
          obtain ⟨ad533, e533, hx533_0, hx533_1, hx533_2⟩ := at_T53 HR1.out (ji18) p533 q533
          have hw533_2 := hx533_2
          have hw533_1 := hx533_1
          have hw533_0 := hx533_0
          cases e533
          replace hx533_0 := cq_ HB hx533_0
          replace hx533_1 := cq_ HB hx533_1
          replace hx533_2 := cq_ HB hx533_2
          replace p533 := eq_true p533
          replace q533 := eq_true q533
          refine start_ (n := 13) (S := fun w' => w'.cell? ⟨gb530, 0, none⟩ = some (.string a2_0) ∧ w'.cell? ⟨gb530, 1, none⟩ = some (.int .i64 a2_1) ∧ w'.cell? ⟨gb530, 2, none⟩ = some (.int .i64 a2_2) ∧ w'.cell? (ad533.add (((ji18)).toNat * 3)) = some (.string ((rd_T53 l1 (ji18)).f0)) ∧ w'.cell? ⟨(ad533.add (((ji18)).toNat * 3)).block, (ad533.add (((ji18)).toNat * 3)).off + 1, none⟩ = some (.int .i64 ((rd_T53 l1 (ji18)).f1)) ∧ w'.cell? ⟨(ad533.add (((ji18)).toNat * 3)).block, (ad533.add (((ji18)).toNat * 3)).off + 2, none⟩ = some (.int .i64 ((rd_T53 l1 (ji18)).f2))) (ds := []) #[F_,F_,F_,F_,F_,F_,F_,F_,F_,F_,F_,F_,F_] (by kernel_rfl) rfl rfl ⟨(blk_cell BK530.out 0).trans rfl, (blk_cell BK530.out 1).trans rfl, (blk_cell BK530.out 2).trans rfl, ((HB.out.cell (World.block_lt_of_cell? w _ hw533_0)).trans hw533_0), ((HB.out.cell (World.block_lt_of_cell? w _ hw533_1)).trans hw533_1), ((HB.out.cell (World.block_lt_of_cell? w _ hw533_2)).trans hw533_2)⟩ (fun hHeld => ?_); refine with_tabW impl_AddCheck.tab9 impl_AddCheck.bits9 (fun HT_ HW_ => ?_)
          generalize wr.drew = w22 at BK530 HB hx533_0 hx533_1 hx533_2 hHeld ⊢
          refine pu (i := 0) (N := some 26) #[T_,F_,F_,F_,F_,F_,F_,F_,F_,F_,F_,F_,F_] HT_ ?_
          refine pu (i := 1) (N := some 27) #[T_,T_,F_,F_,F_,F_,F_,F_,F_,F_,F_,F_,F_] HT_ ?_
          refine pu (i := 2) (N := some 28) #[T_,T_,T_,F_,F_,F_,F_,F_,F_,F_,F_,F_,F_] HT_ ?_
          refine pu (i := 3) (N := some 29) #[T_,T_,T_,T_,F_,F_,F_,F_,F_,F_,F_,F_,F_] HT_ ?_
          refine pu (i := 4) (N := some 30) #[T_,T_,T_,T_,T_,F_,F_,F_,F_,F_,F_,F_,F_] HT_ ?_
          refine pu (i := 5) (N := some 31) #[T_,T_,T_,T_,T_,T_,F_,F_,F_,F_,F_,F_,F_] HT_ ?_
          refine pu (i := 6) (N := some 32) #[T_,T_,T_,T_,T_,T_,T_,F_,F_,F_,F_,F_,F_] HT_ ?_
          refine pu (i := 7) (N := some 33) #[T_,T_,T_,T_,T_,T_,T_,T_,F_,F_,F_,F_,F_] HT_ ?_
          refine pu (i := 9) (N := some 35) #[T_,T_,T_,T_,T_,T_,T_,T_,F_,T_,F_,F_,F_] HT_ ?_
          refine take_ (i := 8) (N := some 34) (v := ?_) (a' := ?_) #[T_,T_,T_,T_,T_,T_,T_,T_,T_,T_,F_,F_,F_] rfl rfl (take_ofW HT_.out HW_.out (by kernel_rfl)) (fun _ _ _ h => h) (Or.inl ⟨by rfl, ?_⟩) hHeld ?_ ?_
          rotate_left
          ·rintro w' ⟨s0, s1, s2, s3, s4, s5⟩
           go_simp
           with_reducible rfl
          rotate_left
          ·simp only [Act.put, sT_, s0_, sS_, i64_w, i32_w]
           rfl
          refine take_ (i := 10) (N := some 36) (v := ?_) (a' := ?_) #[T_,T_,T_,T_,T_,T_,T_,T_,T_,T_,T_,F_,F_] rfl rfl (take_ofW HT_.out HW_.out (by kernel_rfl)) (fun _ _ _ h => h) (Or.inl ⟨by rfl, ?_⟩) hHeld ?_ ?_
          rotate_left
          ·rintro w' ⟨s0, s1, s2, s3, s4, s5⟩
           go_simp
           with_reducible rfl
          rotate_left
          ·simp only [Act.put, sT_, s0_, sS_, i64_w, i32_w]
           rfl
          refine pu (i := 11) (N := some 37) #[T_,T_,T_,T_,T_,T_,T_,T_,T_,T_,T_,T_,F_] HT_ ?_
          refine pu (i := 12) (N := some 38) #[T_,T_,T_,T_,T_,T_,T_,T_,T_,T_,T_,T_,T_] HT_ ?_
          refine done_ (done_of HT_.out (by kernel_rfl)) ?_
          try go_wp2
          go_roundg k1
          case measure => have := HK1.out; omega
          case rel => exact ⟨(ji18), (by first | rfl | (simp; done) | (simp only [← hji18] <;> (first | rfl | simp)) | (simp [*]; done)), H', ⟨by have := HK1.out; omega⟩, ⟨by (with_reducible repeat (first | refine blk_drewN ?_ _ | refine blk_drew ?_ | refine blk_alloc ?_ _)); exact BK530.out⟩, ⟨(hg_ GE530)⟩⟩
         ·rw [if_neg c21] at H
          have c21b0 : decide (a2_1 < ((rd_T53 l1 (ji18)).f1)) = false := decide_eq_false c21
          clear c21
          obtain ⟨y534, hy534⟩ : ∃ y_ : List (S53), y_ = (([] : List (S53))) := ⟨_, rfl⟩
          replace H : (if 0 ≤ x9_1 then (if x9_1 ≤ (l1.length : Int) then ((some (l1.take (x9_1 : Int).toNat : List (S53))).bind fun y537 => (if y534.length + y537.length < 4398046511104 then ((some (y534 ++ y537 : List (S53))).bind fun y541 => ((some (([(⟨a2_0, a2_1, a2_2⟩ : S53)] : List (S53)) : List (S53))).bind fun y544 => (if y541.length + y544.length < 4398046511104 then ((some (y541 ++ y544 : List (S53))).bind fun y547 => ((some (l1.drop (x9_1 : Int).toNat : List (S53))).bind fun y550 => (if y547.length + y550.length < 4398046511104 then ((some (y547 ++ y550 : List (S53))).bind fun y554 => ((impl_areChecks.f k1 l0 y554).bind fun t557 => (if t557 = true then (some (y554, 0)) else (some (([] : List (S53)), 9))))) else (none)))) else (none)))) else (none))) else (none)) else (none)) = some (r1, r2) := by first | (rw [hy534]; with_reducible exact H) | (have H2_ := (Option.bind_some _ _).symm.trans H; rw [hy534]; with_reducible exact H2_) | (have H2_ := (Option.bind_some _ _).symm.trans H; with_reducible exact H2_) | with_reducible exact H | (rw [hy534]; exact H) | exact H
          have Ny534 := Aside0.mk hy534
          clear hy534
          by_cases c23 : 0 ≤ x9_1
          ·rw [if_pos c23] at H
           have c23b0 := eq_true c23
           have c23b1 : decide (0 ≤ x9_1) = true := decide_eq_true c23
           clear c23
           by_cases c24 : x9_1 ≤ (l1.length : Int)
           ·rw [if_pos c24] at H
            have c24b0 := eq_true c24
            have c24b1 : decide (x9_1 ≤ (l1.length : Int)) = true := decide_eq_true c24
            clear c24
            obtain ⟨y537, hy537⟩ : ∃ y_ : List (S53), y_ = (l1.take (x9_1 : Int).toNat) := ⟨_, rfl⟩
            replace H : (if y534.length + y537.length < 4398046511104 then ((some (y534 ++ y537 : List (S53))).bind fun y541 => ((some (([(⟨a2_0, a2_1, a2_2⟩ : S53)] : List (S53)) : List (S53))).bind fun y544 => (if y541.length + y544.length < 4398046511104 then ((some (y541 ++ y544 : List (S53))).bind fun y547 => ((some (l1.drop (x9_1 : Int).toNat : List (S53))).bind fun y550 => (if y547.length + y550.length < 4398046511104 then ((some (y547 ++ y550 : List (S53))).bind fun y554 => ((impl_areChecks.f k1 l0 y554).bind fun t557 => (if t557 = true then (some (y554, 0)) else (some (([] : List (S53)), 9))))) else (none)))) else (none)))) else (none)) = some (r1, r2) := by first | (rw [hy537]; with_reducible exact H) | (have H2_ := (Option.bind_some _ _).symm.trans H; rw [hy537]; with_reducible exact H2_) | (have H2_ := (Option.bind_some _ _).symm.trans H; with_reducible exact H2_) | with_reducible exact H | (rw [hy537]; exact H) | exact H
            have Ny537 := Aside0.mk hy537
            clear hy537
            by_cases c25 : y534.length + y537.length < 4398046511104
            ·rw [if_pos c25] at H
             have LMc25 := Aside0.mk c25
             clear c25
             obtain ⟨y541, hy541⟩ : ∃ y_ : List (S53), y_ = (y534 ++ y537) := ⟨_, rfl⟩
             replace H : ((some (([(⟨a2_0, a2_1, a2_2⟩ : S53)] : List (S53)) : List (S53))).bind fun y544 => (if y541.length + y544.length < 4398046511104 then ((some (y541 ++ y544 : List (S53))).bind fun y547 => ((some (l1.drop (x9_1 : Int).toNat : List (S53))).bind fun y550 => (if y547.length + y550.length < 4398046511104 then ((some (y547 ++ y550 : List (S53))).bind fun y554 => ((impl_areChecks.f k1 l0 y554).bind fun t557 => (if t557 = true then (some (y554, 0)) else (some (([] : List (S53)), 9))))) else (none)))) else (none))) = some (r1, r2) := by first | (rw [hy541]; with_reducible exact H) | (have H2_ := (Option.bind_some _ _).symm.trans H; rw [hy541]; with_reducible exact H2_) | (have H2_ := (Option.bind_some _ _).symm.trans H; with_reducible exact H2_) | with_reducible exact H | (rw [hy541]; exact H) | exact H
             have Ny541 := Aside0.mk hy541
             clear hy541
             obtain ⟨y544, hy544⟩ : ∃ y_ : List (S53), y_ = (([(⟨a2_0, a2_1, a2_2⟩ : S53)] : List (S53))) := ⟨_, rfl⟩
             replace H : (if y541.length + y544.length < 4398046511104 then ((some (y541 ++ y544 : List (S53))).bind fun y547 => ((some (l1.drop (x9_1 : Int).toNat : List (S53))).bind fun y550 => (if y547.length + y550.length < 4398046511104 then ((some (y547 ++ y550 : List (S53))).bind fun y554 => ((impl_areChecks.f k1 l0 y554).bind fun t557 => (if t557 = true then (some (y554, 0)) else (some (([] : List (S53)), 9))))) else (none)))) else (none)) = some (r1, r2) := by first | (rw [hy544]; with_reducible exact H) | (have H2_ := (Option.bind_some _ _).symm.trans H; rw [hy544]; with_reducible exact H2_) | (have H2_ := (Option.bind_some _ _).symm.trans H; with_reducible exact H2_) | with_reducible exact H | (rw [hy544]; exact H) | exact H
             have Ny544 := Aside0.mk hy544
             clear hy544
             by_cases c26 : y541.length + y544.length < 4398046511104
             ·rw [if_pos c26] at H
              have LMc26 := Aside0.mk c26
              clear c26
              obtain ⟨y547, hy547⟩ : ∃ y_ : List (S53), y_ = (y541 ++ y544) := ⟨_, rfl⟩
              replace H : ((some (l1.drop (x9_1 : Int).toNat : List (S53))).bind fun y550 => (if y547.length + y550.length < 4398046511104 then ((some (y547 ++ y550 : List (S53))).bind fun y554 => ((impl_areChecks.f k1 l0 y554).bind fun t557 => (if t557 = true then (some (y554, 0)) else (some (([] : List (S53)), 9))))) else (none))) = some (r1, r2) := by first | (rw [hy547]; with_reducible exact H) | (have H2_ := (Option.bind_some _ _).symm.trans H; rw [hy547]; with_reducible exact H2_) | (have H2_ := (Option.bind_some _ _).symm.trans H; with_reducible exact H2_) | with_reducible exact H | (rw [hy547]; exact H) | exact H
              have Ny547 := Aside0.mk hy547
              clear hy547
              have c27b0 := eq_true (od_ : 0 ≤ x9_1)
              have c28b0 := eq_true (od_ : x9_1 ≤ (l1.length : Int))
              obtain ⟨y550, hy550⟩ : ∃ y_ : List (S53), y_ = (l1.drop (x9_1 : Int).toNat) := ⟨_, rfl⟩
              replace H : (if y547.length + y550.length < 4398046511104 then ((some (y547 ++ y550 : List (S53))).bind fun y554 => ((impl_areChecks.f k1 l0 y554).bind fun t557 => (if t557 = true then (some (y554, 0)) else (some (([] : List (S53)), 9))))) else (none)) = some (r1, r2) := by first | (rw [hy550]; with_reducible exact H) | (have H2_ := (Option.bind_some _ _).symm.trans H; rw [hy550]; with_reducible exact H2_) | (have H2_ := (Option.bind_some _ _).symm.trans H; with_reducible exact H2_) | with_reducible exact H | (rw [hy550]; exact H) | exact H
              have Ny550 := Aside0.mk hy550
              clear hy550
              by_cases c29 : y547.length + y550.length < 4398046511104
              ·rw [if_pos c29] at H
               have LMc29 := Aside0.mk c29
               clear c29
               obtain ⟨y554, hy554⟩ : ∃ y_ : List (S53), y_ = (y547 ++ y550) := ⟨_, rfl⟩
               replace H : ((impl_areChecks.f k1 l0 y554).bind fun t557 => (if t557 = true then (some (y554, 0)) else (some (([] : List (S53)), 9)))) = some (r1, r2) := by first | (rw [hy554]; with_reducible exact H) | (have H2_ := (Option.bind_some _ _).symm.trans H; rw [hy554]; with_reducible exact H2_) | (have H2_ := (Option.bind_some _ _).symm.trans H; with_reducible exact H2_) | with_reducible exact H | (rw [hy554]; exact H) | exact H
               have Ny554 := Aside0.mk hy554
               clear hy554
               replace H := Option.bind_eq_some_iff.mp H
               obtain ⟨t557, A300, H⟩ := H
               replace H : (if t557 = true then (some (y554, 0)) else (some (([] : List (S53)), 9))) = some (r1, r2) := H
               have A30 := Aside0.mk A300
               clear A300
               by_cases c31 : t557 = true
               ·subst c31
                have H1 : (some (y554, 0)) = some (r1, r2) := by rw [if_pos rfl] at H; exact H
                clear H
                have H := H1
                clear H1
                simp only [Option.some.injEq, Prod.mk.injEq] at H
                obtain ⟨rfl, rfl⟩ := H
                try go_wp2
                have n0_ := Aside0.mk (blk_drew BK530.out)
                have n1_ := Aside0.mk (below_drew1 HB.out)
                clear BK530
                clear HB
                have BK530 := n0_
                have HB := n1_
                clear n0_ n1_
                have p533 : 0 ≤ ((ji18) : Int) := od_
                have q533 : (ji18) < (l1.length : Int) := od_
                obtain ⟨ad533, e533, hx533_0, hx533_1, hx533_2⟩ := at_T53 HR1.out (ji18) p533 q533
                have hw533_2 := hx533_2
                have hw533_1 := hx533_1
                have hw533_0 := hx533_0
                cases e533
                replace hx533_0 := cq_ HB hx533_0
                replace hx533_1 := cq_ HB hx533_1
                replace hx533_2 := cq_ HB hx533_2
                replace p533 := eq_true p533
                replace q533 := eq_true q533
                refine start_ (n := 13) (S := fun w' => w'.cell? ⟨gb530, 0, none⟩ = some (.string a2_0) ∧ w'.cell? ⟨gb530, 1, none⟩ = some (.int .i64 a2_1) ∧ w'.cell? ⟨gb530, 2, none⟩ = some (.int .i64 a2_2) ∧ w'.cell? (ad533.add (((ji18)).toNat * 3)) = some (.string ((rd_T53 l1 (ji18)).f0)) ∧ w'.cell? ⟨(ad533.add (((ji18)).toNat * 3)).block, (ad533.add (((ji18)).toNat * 3)).off + 1, none⟩ = some (.int .i64 ((rd_T53 l1 (ji18)).f1)) ∧ w'.cell? ⟨(ad533.add (((ji18)).toNat * 3)).block, (ad533.add (((ji18)).toNat * 3)).off + 2, none⟩ = some (.int .i64 ((rd_T53 l1 (ji18)).f2))) (ds := []) #[F_,F_,F_,F_,F_,F_,F_,F_,F_,F_,F_,F_,F_] (by kernel_rfl) rfl rfl ⟨(blk_cell BK530.out 0).trans rfl, (blk_cell BK530.out 1).trans rfl, (blk_cell BK530.out 2).trans rfl, ((HB.out.cell (World.block_lt_of_cell? w _ hw533_0)).trans hw533_0), ((HB.out.cell (World.block_lt_of_cell? w _ hw533_1)).trans hw533_1), ((HB.out.cell (World.block_lt_of_cell? w _ hw533_2)).trans hw533_2)⟩ (fun hHeld => ?_); refine with_tabW impl_AddCheck.tab9 impl_AddCheck.bits9 (fun HT_ HW_ => ?_)
                generalize wr.drew = w32 at BK530 HB hx533_0 hx533_1 hx533_2 hHeld ⊢
                refine pu (i := 0) (N := some 26) #[T_,F_,F_,F_,F_,F_,F_,F_,F_,F_,F_,F_,F_] HT_ ?_
                refine pu (i := 1) (N := some 27) #[T_,T_,F_,F_,F_,F_,F_,F_,F_,F_,F_,F_,F_] HT_ ?_
                refine pu (i := 2) (N := some 28) #[T_,T_,T_,F_,F_,F_,F_,F_,F_,F_,F_,F_,F_] HT_ ?_
                refine pu (i := 3) (N := some 29) #[T_,T_,T_,T_,F_,F_,F_,F_,F_,F_,F_,F_,F_] HT_ ?_
                refine pu (i := 4) (N := some 30) #[T_,T_,T_,T_,T_,F_,F_,F_,F_,F_,F_,F_,F_] HT_ ?_
                refine pu (i := 5) (N := some 31) #[T_,T_,T_,T_,T_,T_,F_,F_,F_,F_,F_,F_,F_] HT_ ?_
                refine pu (i := 6) (N := some 32) #[T_,T_,T_,T_,T_,T_,T_,F_,F_,F_,F_,F_,F_] HT_ ?_
                refine pu (i := 7) (N := some 33) #[T_,T_,T_,T_,T_,T_,T_,T_,F_,F_,F_,F_,F_] HT_ ?_
                refine pu (i := 9) (N := some 35) #[T_,T_,T_,T_,T_,T_,T_,T_,F_,T_,F_,F_,F_] HT_ ?_
                refine take_ (i := 8) (N := some 34) (v := ?_) (a' := ?_) #[T_,T_,T_,T_,T_,T_,T_,T_,T_,T_,F_,F_,F_] rfl rfl (take_ofW HT_.out HW_.out (by kernel_rfl)) (fun _ _ _ h => h) (Or.inl ⟨by rfl, ?_⟩) hHeld ?_ ?_
                rotate_left
                ·rintro w' ⟨s0, s1, s2, s3, s4, s5⟩
                 go_simp
                 with_reducible rfl
                rotate_left
                ·simp only [Act.put, sT_, s0_, sS_, i64_w, i32_w]
                 rfl
                refine take_ (i := 10) (N := some 36) (v := ?_) (a' := ?_) #[T_,T_,T_,T_,T_,T_,T_,T_,T_,T_,T_,F_,F_] rfl rfl (take_ofW HT_.out HW_.out (by kernel_rfl)) (fun _ _ _ h => h) (Or.inl ⟨by rfl, ?_⟩) hHeld ?_ ?_
                rotate_left
                ·rintro w' ⟨s0, s1, s2, s3, s4, s5⟩
                 go_simp
                 with_reducible rfl
                rotate_left
                ·simp only [Act.put, sT_, s0_, sS_, i64_w, i32_w]
                 rfl
                refine pu (i := 11) (N := some 37) #[T_,T_,T_,T_,T_,T_,T_,T_,T_,T_,T_,T_,F_] HT_ ?_
                refine pu (i := 12) (N := some 38) #[T_,T_,T_,T_,T_,T_,T_,T_,T_,T_,T_,T_,T_] HT_ ?_
                refine done_ (done_of HT_.out (by kernel_rfl)) ?_
                try go_wp2
                have n0_ := Aside0.mk (blk_drew BK530.out)
                have n1_ := Aside0.mk (below_drew1 HB.out)
                clear BK530
                clear HB
                have BK530 := n0_
                have HB := n1_
                clear n0_ n1_
                have q34 : (x9_1 : Int) ≤ ((l1.length : Int) : Int) := od_
                obtain ⟨i034, hi034, _, hsz34, _⟩ := info_parts info53
                have hroom34 : l1.length ≤ c1 := HC1.out
                have hC34 : Kd.C k53 _ (some ad533) l1.length l1 := HR1.out
                have hcut34 := cut_to (P := Try.prog) 25 53 .i64 Try.underlying25 hi034 (some ad533) l1.length c1 x9_1 (od_) q34 hroom34
                have hr34 := Kd.C_take (m := (x9_1 : Int).toNat) hC34 (by omega)
                have hy34 : y537.length = (x9_1 : Int).toNat := (by rw [Ny537.out, List.length_take]; omega)
                rw [← Ny537.out] at hr34
                rw [← hy34] at hcut34
                have HR540 := Aside0.mk hr34
                have HC540 := Aside0.mk (show y537.length ≤ c1 from by omega)
                clear hr34 hC34 hroom34 hi034 hsz34
                have KY34 := Aside0.mk hy34
                clear hy34
                replace q34 := eq_true q34
                have q35 : (x9_1 : Int) ≤ ((l1.length : Int) : Int) := od_
                obtain ⟨i035, hi035, _, hsz35, _⟩ := info_parts info53
                have hroom35 : l1.length ≤ c1 := HC1.out
                have hC35 : Kd.C k53 _ (some ad533) l1.length l1 := HR1.out
                have q035 : (0 : Int) ≤ (x9_1 : Int) := od_
                have hcut35 := cut_from (P := Try.prog) 25 53 .i64 Try.underlying25 hi035 3 hsz35 (some ad533) l1.length c1 x9_1 q035 q35
                have hr35 := Kd.C_drop (m := (x9_1 : Int).toNat) (c := c1) hC35 (by omega) hroom35
                obtain ⟨A35, hA35⟩ : ∃ Az_, Az_ = (if c1 = (x9_1 : Int).toNat then (some ad533) else ((some ad533) : Option Addr).map (·.add ((x9_1 : Int).toNat * 3))) := ⟨_, rfl⟩
                obtain ⟨c35, hc35⟩ : ∃ cz_, cz_ = c1 - (x9_1 : Int).toNat := ⟨_, rfl⟩
                have hy35 : y550.length = l1.length - (x9_1 : Int).toNat := (by rw [Ny550.out, List.length_drop] <;> omega)
                rw [show (l1).drop (x9_1 : Int).toNat = y550 from Ny550.out.symm] at hr35
                replace hr35 : Kd.C k53 _ A35 y550.length y550 := (by rw [hA35]; exact hr35)
                rw [← hy35, ← hA35, ← hc35] at hcut35
                have HR553 := Aside0.mk hr35
                have HC553 := Aside0.mk (show y550.length ≤ c35 from by rw [hy35, hc35]; exact Nat.sub_le_sub_right hroom35 _)
                clear hr35 hC35 hroom35 hi035 hsz35 hc35
                have KY35 := Aside0.mk hy35
                have KA35 := Aside0.mk hA35
                clear hy35 hA35
                replace q35 := eq_true q35
                refine start_ (n := 13) (S := fun w' => w'.cell? ⟨gb530, 0, none⟩ = some (.string a2_0) ∧ w'.cell? ⟨gb530, 1, none⟩ = some (.int .i64 a2_1) ∧ w'.cell? ⟨gb530, 2, none⟩ = some (.int .i64 a2_2)) (ds := []) #[F_,F_,F_,F_,F_,F_,F_,F_,F_,F_,F_,F_,F_] (by kernel_rfl) rfl rfl ⟨(blk_cell BK530.out 0).trans rfl, (blk_cell BK530.out 1).trans rfl, (blk_cell BK530.out 2).trans rfl⟩ (fun hHeld => ?_); refine with_tabW impl_AddCheck.tab11 impl_AddCheck.bits11 (fun HT_ HW_ => ?_)
                generalize w32.drew = w33 at BK530 HB HR540 HR553 hHeld ⊢
                refine pu (i := 1) (N := some 42) #[F_,T_,F_,F_,F_,F_,F_,F_,F_,F_,F_,F_,F_] HT_ ?_
                refine pu (i := 2) (N := some 43) #[F_,T_,T_,F_,F_,F_,F_,F_,F_,F_,F_,F_,F_] HT_ ?_
                refine pu (i := 3) (N := some 44) #[F_,T_,T_,T_,F_,F_,F_,F_,F_,F_,F_,F_,F_] HT_ ?_
                refine pu (i := 8) (N := some 49) #[F_,T_,T_,T_,F_,F_,F_,F_,T_,F_,F_,F_,F_] HT_ ?_
                refine pu (i := 9) (N := some 50) #[F_,T_,T_,T_,F_,F_,F_,F_,T_,T_,F_,F_,F_] HT_ ?_
                refine pu (i := 10) (N := some 51) #[F_,T_,T_,T_,F_,F_,F_,F_,T_,T_,T_,F_,F_] HT_ ?_
                refine take_ (i := 5) (N := some 46) (v := ?_) (a' := ?_) #[F_,T_,T_,T_,F_,T_,F_,F_,T_,T_,T_,F_,F_] rfl rfl (take_ofW HT_.out HW_.out (by kernel_rfl)) (fun _ _ _ h => h) (Or.inl ⟨by rfl, ?_⟩) hHeld ?_ ?_
                rotate_left
                ·rintro w' ⟨s0, s1, s2⟩
                 go_simp
                 with_reducible rfl
                rotate_left
                ·simp only [Act.put, sT_, s0_, sS_, i64_w, i32_w]
                 rfl
                refine join_ (σ := Value × Value × Value) 3 #[T_,T_,T_,T_,T_,T_,T_,F_,T_,T_,T_,F_,F_] (fun s_ => [(41, s_.1), (45, s_.2.1), (47, s_.2.2)]) (fun s_ w' => (w'.cell? ⟨gb530, 0, none⟩ = some (.string a2_0) ∧ w'.cell? ⟨gb530, 1, none⟩ = some (.int .i64 a2_1) ∧ w'.cell? ⟨gb530, 2, none⟩ = some (.int .i64 a2_2)) ∧ (Kd.R k53 53 w' w.heap.size (fun k_ => some k_ ≠ (s_.2.2 : Value).ownBlock ∧ k_ ≠ gb530) s_.2.1 y541) ∧ (Kd.R k53 53 w' w.heap.size (fun k_ => some k_ ≠ (s_.2.1 : Value).ownBlock ∧ k_ ≠ gb530) s_.2.2 y544) ∧ (w'.heap[gb530]? = some (.cells #[.string a2_0, .int .i64 a2_1, .int .i64 a2_2] 53 (0, 0))) ∧ (Below w.heap.size w w')) ?_ ?_
                rotate_left
                ·intro hCont
                 refine two_ (i := 0) (j := 6) (Ni := some 41) (Nj := some 47) #[T_,T_,T_,T_,F_,T_,F_,F_,T_,T_,T_,F_,F_] #[F_,T_,T_,T_,F_,T_,T_,F_,T_,T_,T_,F_,F_] rfl rfl rfl rfl (two_of HT_.out (by kernel_rfl)) (by decide) (by decide) (fun K hK => ?_) (fun K hK => ?_)
                 ·skip
                  refine Kd.R_lit_step k53 _ 53 ?hg (N := 41) ?hd (xs := ([] : List (S53))) (inner := []) (ok := fun _ => True) (okp := fun _ => True) ?hr ?hp (fun _ hk => hk) trivial (Below.refl _ _) (Nat.le_refl _) (by simp) ?_; (case hd => rfl); (case hg => rfl); (case hr => first | (go_simp; done) | (go_simp; rfl)); (case hp => exact (Reps.none _ _))
                  intro v535 w36 ho37 hb hg_ hnew_
                  clear hg_ hnew_
                  (first | rw [← Ny534.out] at ho37 | (simp only [Int.reduceToNat] at ho37; rw [← Ny534.out] at ho37))
                  have n0_ := Aside0.mk (Kd.R_lower (Kd.R_newB ho37 (g := gb530) (o := .cells #[.string a2_0, .int .i64 a2_1, .int .i64 a2_2] 53 (0, 0)) (bk_ BK530)) (below_size (hg_ GE530)))
                  have n1_ := Aside0.mk (blk_below (g := gb530) (o := .cells #[.string a2_0, .int .i64 a2_1, .int .i64 a2_2] 53 (0, 0)) (bk_ BK530) hb)
                  have n2_ := Aside0.mk (below_step (hg_ GE530) hb)
                  clear BK530
                  clear HB
                  have HO536 := n0_
                  have BK530 := n1_
                  have HB := n2_
                  clear n0_ n1_ n2_
                  clear hb ho37
                  refine hK.out _ _ ⟨(blk_cell BK530.out 0).trans rfl, (blk_cell BK530.out 1).trans rfl, (blk_cell BK530.out 2).trans rfl⟩ (fun hHeld => ?_)
                  clear hK K
                  refine norm_ (a' := ?_) ?_ ?_
                  rotate_left
                  ·show Act.put _ (some 41) _ = _
                   simp only [Act.put, sT_, s0_, sS_, i64_w, i32_w]
                   rfl
                  refine two_ (i := 4) (j := 6) (Ni := some 45) (Nj := some 47) #[T_,T_,T_,T_,T_,T_,F_,F_,T_,T_,T_,F_,F_] #[T_,T_,T_,T_,F_,T_,T_,F_,T_,T_,T_,F_,F_] rfl rfl rfl rfl (two_of HT_.out (by kernel_rfl)) (by decide) (by decide) (fun K hK => ?_) (fun K hK => ?_)
                  ·skip
                   refine Kd.R_append_rows_step k53 (w0 := w) w.heap.size (by rfl) (.tmp 41) (.tmp 44) 25 53 (.agg #[(.string ⟨#[]⟩), (.int .i64 0), (.int .i64 0)]) 32 rfl Try.underlying25 info53 rfl (by decide) (by omega) v535 y534 y537 _ _ _ (fun k_ => k_ ≠ gb530) (fun _ => False) rfl rfl ?aO ?aR (fun _ _ h => h) (fun _ h => h.elim) ?aF ?aB ?aS ?aL ?_
                   (case aR => exact kc_ (Kd.C_below HR540.out HB.out))
                   (case aB => exact (hg_ GE530))
                   (case aF => exact (fun k_ hk => Kd.freshB (g := gb530) (o := .cells #[.string a2_0, .int .i64 a2_1, .int .i64 a2_2] 53 (0, 0)) (bk_ BK530) k_ hk))
                   (case aO => exact (by (with_reducible repeat (first | apply Kd.R_alloc | apply Kd.R_drewN | apply Kd.R_drew)); exact Kd.R_mono HO536.out (fun _ hk => hk.2)))
                   (case aS => exact (below_size (hg_ GE530)))
                   (case aL => have := LMc25.out; omega)
                   intro v542 w38 ho hb hg hat
                   rw [← Ny541.out] at ho
                   have n0_ := Aside0.mk (blk_grown (g := gb530) (o := .cells #[.string a2_0, .int .i64 a2_1, .int .i64 a2_2] 53 (0, 0)) (bk_ BK530) hg (Kd.R_away HO536.out (fun _ hk => hk.2)))
                   have n1_ := Aside0.mk (hb)
                   have n2_ := Aside0.mk (ho)
                   clear BK530
                   clear HB
                   clear HO536
                   have BK530 := n0_
                   have HB := n1_
                   have HO543 := n2_
                   clear n0_ n1_ n2_
                   clear ho hb hg hat
                   refine hK.out _ _ ⟨(blk_cell BK530.out 0).trans rfl, (blk_cell BK530.out 1).trans rfl, (blk_cell BK530.out 2).trans rfl⟩ (fun hHeld => ?_)
                   clear hK K
                   refine norm_ (a' := ?_) ?_ ?_
                   rotate_left
                   ·show Act.put _ (some 45) _ = _
                    simp only [Act.put, sT_, s0_, sS_, i64_w, i32_w]
                    rfl
                   refine one_ (i := 6) (N := some 47) #[T_,T_,T_,T_,T_,T_,T_,F_,T_,T_,T_,F_,F_] rfl rfl (one_of HT_.out (by kernel_rfl)) (by decide) (fun K hK => ?_)
                   refine Kd.R_lit_step k53 _ 53 ?hg (N := 47) ?hd (xs := ([(⟨a2_0, a2_1, a2_2⟩ : S53)] : List (S53))) (inner := [.string a2_0, .int .i64 a2_1, .int .i64 a2_2]) (ok := fun _ => True) (okp := fun _ => True) ?hr ?hp (fun _ hk => hk) trivial (Below.refl _ _) (Nat.le_refl _) (by simp) ?_; (case hd => rfl); (case hg => rfl); (case hr => first | (go_simp; done) | (go_simp; rfl)); (case hp => exact (Reps.c3 (show Kd.M k53 _ _ _ (⟨a2_0, a2_1, a2_2⟩ : S53) [.string a2_0, .int .i64 a2_1, .int .i64 a2_2] from (k53_mkM _ _ _ (⟨a2_0, a2_1, a2_2⟩ : S53) )) (Reps.none _ _)))
                   intro v545 w39 ho40 hb hg_ hnew_
                   clear hg_ hnew_
                   (first | rw [← Ny544.out] at ho40 | (simp only [Int.reduceToNat] at ho40; rw [← Ny544.out] at ho40))
                   have n0_ := Aside0.mk (Kd.R_elder' (kr_ HO543) (Kd.R_base ho40) hb)
                   have n1_ := Aside0.mk (Kd.R_lower (Kd.R_newB (Kd.R_new' ho40 (Kd.R_lt (kr_ HO543))) (g := gb530) (o := .cells #[.string a2_0, .int .i64 a2_1, .int .i64 a2_2] 53 (0, 0)) (bk_ BK530)) (below_size (hg_ GE530)))
                   have n2_ := Aside0.mk (blk_below (g := gb530) (o := .cells #[.string a2_0, .int .i64 a2_1, .int .i64 a2_2] 53 (0, 0)) (bk_ BK530) hb)
                   have n3_ := Aside0.mk (below_step (hg_ GE530) hb)
                   clear HO543
                   clear BK530
                   clear HB
                   have HO543 := n0_
                   have HO546 := n1_
                   have BK530 := n2_
                   have HB := n3_
                   clear n0_ n1_ n2_ n3_
                   clear hb ho40
                   refine hK.out _ _ ⟨(blk_cell BK530.out 0).trans rfl, (blk_cell BK530.out 1).trans rfl, (blk_cell BK530.out 2).trans rfl⟩ (fun hHeld => ?_)
                   clear hK K
                   refine norm_ (a' := ?_) ?_ ?_
                   rotate_left
                   ·show Act.put _ (some 47) _ = _
                    simp only [Act.put, sT_, s0_, sS_, i64_w, i32_w]
                    rfl
                   exact norm_ (by simp only [putAll, Act.put, List.setIfInBounds_toArray, List.set_cons_zero, List.set_cons_succ]) (hCont (v535, v542, v545) _ ⟨hHeld, (by (with_reducible repeat (first | apply Kd.R_alloc | apply Kd.R_drewN | apply Kd.R_drew)); exact Kd.R_mono HO543.out (fun _ hk => ⟨hk.2, hk.1⟩)), (by (with_reducible repeat (first | apply Kd.R_alloc | apply Kd.R_drewN | apply Kd.R_drew)); exact Kd.R_mono HO546.out (fun _ hk => ⟨hk.1.2, hk.2⟩)), (bk_ BK530), (hg_ GE530)⟩)
                  ·skip
                   refine Kd.R_lit_step k53 _ 53 ?hg (N := 47) ?hd (xs := ([(⟨a2_0, a2_1, a2_2⟩ : S53)] : List (S53))) (inner := [.string a2_0, .int .i64 a2_1, .int .i64 a2_2]) (ok := fun _ => True) (okp := fun _ => True) ?hr ?hp (fun _ hk => hk) trivial (Below.refl _ _) (Nat.le_refl _) (by simp) ?_; (case hd => rfl); (case hg => rfl); (case hr => first | (go_simp; done) | (go_simp; rfl)); (case hp => exact (Reps.c3 (show Kd.M k53 _ _ _ (⟨a2_0, a2_1, a2_2⟩ : S53) [.string a2_0, .int .i64 a2_1, .int .i64 a2_2] from (k53_mkM _ _ _ (⟨a2_0, a2_1, a2_2⟩ : S53) )) (Reps.none _ _)))
                   intro v545 w38 ho39 hb hg_ hnew_
                   clear hg_ hnew_
                   (first | rw [← Ny544.out] at ho39 | (simp only [Int.reduceToNat] at ho39; rw [← Ny544.out] at ho39))
                   have n0_ := Aside0.mk (Kd.R_elder' (kr_ HO536) (Kd.R_base ho39) hb)
                   have n1_ := Aside0.mk (Kd.R_lower (Kd.R_newB (Kd.R_new' ho39 (Kd.R_lt (kr_ HO536))) (g := gb530) (o := .cells #[.string a2_0, .int .i64 a2_1, .int .i64 a2_2] 53 (0, 0)) (bk_ BK530)) (below_size (hg_ GE530)))
                   have n2_ := Aside0.mk (blk_below (g := gb530) (o := .cells #[.string a2_0, .int .i64 a2_1, .int .i64 a2_2] 53 (0, 0)) (bk_ BK530) hb)
                   have n3_ := Aside0.mk (below_step (hg_ GE530) hb)
                   clear HO536
                   clear BK530
                   clear HB
                   have HO536 := n0_
                   have HO546 := n1_
                   have BK530 := n2_
                   have HB := n3_
                   clear n0_ n1_ n2_ n3_
                   clear hb ho39
                   refine hK.out _ _ ⟨(blk_cell BK530.out 0).trans rfl, (blk_cell BK530.out 1).trans rfl, (blk_cell BK530.out 2).trans rfl⟩ (fun hHeld => ?_)
                   clear hK K
                   refine norm_ (a' := ?_) ?_ ?_
                   rotate_left
                   ·show Act.put _ (some 47) _ = _
                    simp only [Act.put, sT_, s0_, sS_, i64_w, i32_w]
                    rfl
                   refine one_ (i := 4) (N := some 45) #[T_,T_,T_,T_,T_,T_,T_,F_,T_,T_,T_,F_,F_] rfl rfl (one_of HT_.out (by kernel_rfl)) (by decide) (fun K hK => ?_)
                   refine Kd.R_append_rows_step k53 (w0 := w) w.heap.size (by rfl) (.tmp 41) (.tmp 44) 25 53 (.agg #[(.string ⟨#[]⟩), (.int .i64 0), (.int .i64 0)]) 32 rfl Try.underlying25 info53 rfl (by decide) (by omega) v535 y534 y537 _ _ _ (fun k_ => some k_ ≠ (v545 : Value).ownBlock ∧ k_ ≠ gb530) (fun _ => False) rfl rfl ?aO ?aR (fun _ _ h => h) (fun _ h => h.elim) ?aF ?aB ?aS ?aL ?_
                   (case aR => exact kc_ (Kd.C_below HR540.out HB.out))
                   (case aB => exact (hg_ GE530))
                   (case aF => exact (fun k_ hk => ⟨Kd.fresh' (Kd.R_lt (kr_ HO546)) k_ hk, Kd.freshB (g := gb530) (o := .cells #[.string a2_0, .int .i64 a2_1, .int .i64 a2_2] 53 (0, 0)) (bk_ BK530) k_ hk⟩))
                   (case aO => exact (by (with_reducible repeat (first | apply Kd.R_alloc | apply Kd.R_drewN | apply Kd.R_drew)); exact Kd.R_mono HO536.out (fun _ hk => ⟨hk.2, hk.1.2⟩)))
                   (case aS => exact (below_size (hg_ GE530)))
                   (case aL => have := LMc25.out; omega)
                   intro v542 w40 ho hb hg hat
                   rw [← Ny541.out] at ho
                   have n0_ := Aside0.mk (blk_grown (g := gb530) (o := .cells #[.string a2_0, .int .i64 a2_1, .int .i64 a2_2] 53 (0, 0)) (bk_ BK530) hg (Kd.R_away HO536.out (fun _ hk => hk.1.2)))
                   have n1_ := Aside0.mk (Kd.R_after (ok := (fun k_ => k_ ≠ gb530)) (by (with_reducible repeat (first | apply Kd.R_alloc | apply Kd.R_drewN | apply Kd.R_drew)); exact Kd.R_mono HO546.out (fun _ hk => ⟨hk.2, hk.1.2⟩)) hg hat)
                   have n2_ := Aside0.mk (hb)
                   have n3_ := Aside0.mk (ho)
                   clear BK530
                   clear HO546
                   clear HB
                   clear HO536
                   have BK530 := n0_
                   have HO546 := n1_
                   have HB := n2_
                   have HO543 := n3_
                   clear n0_ n1_ n2_ n3_
                   clear ho hb hg hat
                   refine hK.out _ _ ⟨(blk_cell BK530.out 0).trans rfl, (blk_cell BK530.out 1).trans rfl, (blk_cell BK530.out 2).trans rfl⟩ (fun hHeld => ?_)
                   clear hK K
                   refine norm_ (a' := ?_) ?_ ?_
                   rotate_left
                   ·show Act.put _ (some 45) _ = _
                    simp only [Act.put, sT_, s0_, sS_, i64_w, i32_w]
                    rfl
                   exact norm_ (by simp only [putAll, Act.put, List.setIfInBounds_toArray, List.set_cons_zero, List.set_cons_succ]) (hCont (v535, v542, v545) _ ⟨hHeld, (kr_ HO543), (by (with_reducible repeat (first | apply Kd.R_alloc | apply Kd.R_drewN | apply Kd.R_drew)); exact Kd.R_mono HO546.out (fun _ hk => ⟨hk.2, hk.1⟩)), (bk_ BK530), (hg_ GE530)⟩)
                 ·skip
                  refine Kd.R_lit_step k53 _ 53 ?hg (N := 47) ?hd (xs := ([(⟨a2_0, a2_1, a2_2⟩ : S53)] : List (S53))) (inner := [.string a2_0, .int .i64 a2_1, .int .i64 a2_2]) (ok := fun _ => True) (okp := fun _ => True) ?hr ?hp (fun _ hk => hk) trivial (Below.refl _ _) (Nat.le_refl _) (by simp) ?_; (case hd => rfl); (case hg => rfl); (case hr => first | (go_simp; done) | (go_simp; rfl)); (case hp => exact (Reps.c3 (show Kd.M k53 _ _ _ (⟨a2_0, a2_1, a2_2⟩ : S53) [.string a2_0, .int .i64 a2_1, .int .i64 a2_2] from (k53_mkM _ _ _ (⟨a2_0, a2_1, a2_2⟩ : S53) )) (Reps.none _ _)))
                  intro v545 w36 ho37 hb hg_ hnew_
                  clear hg_ hnew_
                  (first | rw [← Ny544.out] at ho37 | (simp only [Int.reduceToNat] at ho37; rw [← Ny544.out] at ho37))
                  have n0_ := Aside0.mk (Kd.R_lower (Kd.R_newB ho37 (g := gb530) (o := .cells #[.string a2_0, .int .i64 a2_1, .int .i64 a2_2] 53 (0, 0)) (bk_ BK530)) (below_size (hg_ GE530)))
                  have n1_ := Aside0.mk (blk_below (g := gb530) (o := .cells #[.string a2_0, .int .i64 a2_1, .int .i64 a2_2] 53 (0, 0)) (bk_ BK530) hb)
                  have n2_ := Aside0.mk (below_step (hg_ GE530) hb)
                  clear BK530
                  clear HB
                  have HO546 := n0_
                  have BK530 := n1_
                  have HB := n2_
                  clear n0_ n1_ n2_
                  clear hb ho37
                  refine hK.out _ _ ⟨(blk_cell BK530.out 0).trans rfl, (blk_cell BK530.out 1).trans rfl, (blk_cell BK530.out 2).trans rfl⟩ (fun hHeld => ?_)
                  clear hK K
                  refine norm_ (a' := ?_) ?_ ?_
                  rotate_left
                  ·show Act.put _ (some 47) _ = _
                   simp only [Act.put, sT_, s0_, sS_, i64_w, i32_w]
                   rfl
                  refine one_ (i := 0) (N := some 41) #[T_,T_,T_,T_,F_,T_,T_,F_,T_,T_,T_,F_,F_] rfl rfl (one_of HT_.out (by kernel_rfl)) (by decide) (fun K hK => ?_)
                  refine Kd.R_lit_step k53 _ 53 ?hg (N := 41) ?hd (xs := ([] : List (S53))) (inner := []) (ok := fun _ => True) (okp := fun _ => True) ?hr ?hp (fun _ hk => hk) trivial (Below.refl _ _) (Nat.le_refl _) (by simp) ?_; (case hd => rfl); (case hg => rfl); (case hr => first | (go_simp; done) | (go_simp; rfl)); (case hp => exact (Reps.none _ _))
                  intro v535 w38 ho39 hb hg_ hnew_
                  clear hg_ hnew_
                  (first | rw [← Ny534.out] at ho39 | (simp only [Int.reduceToNat] at ho39; rw [← Ny534.out] at ho39))
                  have n0_ := Aside0.mk (Kd.R_elder' (kr_ HO546) (Kd.R_base ho39) hb)
                  have n1_ := Aside0.mk (Kd.R_lower (Kd.R_newB (Kd.R_new' ho39 (Kd.R_lt (kr_ HO546))) (g := gb530) (o := .cells #[.string a2_0, .int .i64 a2_1, .int .i64 a2_2] 53 (0, 0)) (bk_ BK530)) (below_size (hg_ GE530)))
                  have n2_ := Aside0.mk (blk_below (g := gb530) (o := .cells #[.string a2_0, .int .i64 a2_1, .int .i64 a2_2] 53 (0, 0)) (bk_ BK530) hb)
                  have n3_ := Aside0.mk (below_step (hg_ GE530) hb)
                  clear HO546
                  clear BK530
                  clear HB
                  have HO546 := n0_
                  have HO536 := n1_
                  have BK530 := n2_
                  have HB := n3_
                  clear n0_ n1_ n2_ n3_
                  clear hb ho39
                  refine hK.out _ _ ⟨(blk_cell BK530.out 0).trans rfl, (blk_cell BK530.out 1).trans rfl, (blk_cell BK530.out 2).trans rfl⟩ (fun hHeld => ?_)
                  clear hK K
                  refine norm_ (a' := ?_) ?_ ?_
                  rotate_left
                  ·show Act.put _ (some 41) _ = _
                   simp only [Act.put, sT_, s0_, sS_, i64_w, i32_w]
                   rfl
                  refine one_ (i := 4) (N := some 45) #[T_,T_,T_,T_,T_,T_,T_,F_,T_,T_,T_,F_,F_] rfl rfl (one_of HT_.out (by kernel_rfl)) (by decide) (fun K hK => ?_)
                  refine Kd.R_append_rows_step k53 (w0 := w) w.heap.size (by rfl) (.tmp 41) (.tmp 44) 25 53 (.agg #[(.string ⟨#[]⟩), (.int .i64 0), (.int .i64 0)]) 32 rfl Try.underlying25 info53 rfl (by decide) (by omega) v535 y534 y537 _ _ _ (fun k_ => some k_ ≠ (v545 : Value).ownBlock ∧ k_ ≠ gb530) (fun _ => False) rfl rfl ?aO ?aR (fun _ _ h => h) (fun _ h => h.elim) ?aF ?aB ?aS ?aL ?_
                  (case aR => exact kc_ (Kd.C_below HR540.out HB.out))
                  (case aB => exact (hg_ GE530))
                  (case aF => exact (fun k_ hk => ⟨Kd.fresh' (Kd.R_lt (kr_ HO546)) k_ hk, Kd.freshB (g := gb530) (o := .cells #[.string a2_0, .int .i64 a2_1, .int .i64 a2_2] 53 (0, 0)) (bk_ BK530) k_ hk⟩))
                  (case aO => exact (by (with_reducible repeat (first | apply Kd.R_alloc | apply Kd.R_drewN | apply Kd.R_drew)); exact Kd.R_mono HO536.out (fun _ hk => ⟨hk.1.2, hk.2⟩)))
                  (case aS => exact (below_size (hg_ GE530)))
                  (case aL => have := LMc25.out; omega)
                  intro v542 w40 ho hb hg hat
                  rw [← Ny541.out] at ho
                  have n0_ := Aside0.mk (blk_grown (g := gb530) (o := .cells #[.string a2_0, .int .i64 a2_1, .int .i64 a2_2] 53 (0, 0)) (bk_ BK530) hg (Kd.R_away HO536.out (fun _ hk => hk.2)))
                  have n1_ := Aside0.mk (Kd.R_after (ok := (fun k_ => k_ ≠ gb530)) (by (with_reducible repeat (first | apply Kd.R_alloc | apply Kd.R_drewN | apply Kd.R_drew)); exact Kd.R_mono HO546.out (fun _ hk => ⟨hk.1.2, hk.2⟩)) hg hat)
                  have n2_ := Aside0.mk (hb)
                  have n3_ := Aside0.mk (ho)
                  clear BK530
                  clear HO546
                  clear HB
                  clear HO536
                  have BK530 := n0_
                  have HO546 := n1_
                  have HB := n2_
                  have HO543 := n3_
                  clear n0_ n1_ n2_ n3_
                  clear ho hb hg hat
                  refine hK.out _ _ ⟨(blk_cell BK530.out 0).trans rfl, (blk_cell BK530.out 1).trans rfl, (blk_cell BK530.out 2).trans rfl⟩ (fun hHeld => ?_)
                  clear hK K
                  refine norm_ (a' := ?_) ?_ ?_
                  rotate_left
                  ·show Act.put _ (some 45) _ = _
                   simp only [Act.put, sT_, s0_, sS_, i64_w, i32_w]
                   rfl
                  exact norm_ (by simp only [putAll, Act.put, List.setIfInBounds_toArray, List.set_cons_zero, List.set_cons_succ]) (hCont (v535, v542, v545) _ ⟨hHeld, (kr_ HO543), (by (with_reducible repeat (first | apply Kd.R_alloc | apply Kd.R_drewN | apply Kd.R_drew)); exact Kd.R_mono HO546.out (fun _ hk => ⟨hk.2, hk.1⟩)), (bk_ BK530), (hg_ GE530)⟩)
                rintro ⟨v535, v542, v545⟩ w41 ⟨hS_, h0_, h1_, h2_, h3_⟩
                have n0_ : Aside0 (Kd.R k53 53 w41 w.heap.size (fun k_ => some k_ ≠ (v545 : Value).ownBlock ∧ k_ ≠ gb530) v542 y541) := ⟨h0_⟩
                have n1_ : Aside0 (Kd.R k53 53 w41 w.heap.size (fun k_ => some k_ ≠ (v542 : Value).ownBlock ∧ k_ ≠ gb530) v545 y544) := ⟨h1_⟩
                have n2_ : Aside0 (w41.heap[gb530]? = some (.cells #[.string a2_0, .int .i64 a2_1, .int .i64 a2_2] 53 (0, 0))) := ⟨h2_⟩
                have n3_ : Aside0 (Below w.heap.size w w41) := ⟨h3_⟩
                clear BK530
                clear HB
                clear h0_ h1_ h2_ h3_
                have HO543 := n0_
                have HO546 := n1_
                have BK530 := n2_
                have HB := n3_
                clear n0_ n1_ n2_ n3_
                have hHeld : w41.cell? ⟨gb530, 0, none⟩ = some (.string a2_0) ∧ w41.cell? ⟨gb530, 1, none⟩ = some (.int .i64 a2_1) ∧ w41.cell? ⟨gb530, 2, none⟩ = some (.int .i64 a2_2) := hS_
                obtain ⟨Ao43, co43, eo43⟩ := Kd.R_slice HO546.out
                (first | subst eo43 | (injection eo43 with f1_ f2_ f3_; have f4_ := f1_.symm; have f5_ := f3_.symm; clear f1_ f2_ f3_; subst f4_; subst f5_))
                refine norm_ (a' := ?_) ?_ ?_
                rotate_left
                ·simp only [putAll, Act.put, List.setIfInBounds_toArray, List.set_cons_zero, List.set_cons_succ]
                 rfl
                refine one_ (i := 7) (N := some 48) #[T_,T_,T_,T_,T_,T_,T_,T_,T_,T_,T_,F_,F_] rfl rfl (one_of HT_.out (by kernel_rfl)) (by decide) (fun K hK => ?_)
                refine Kd.R_append_rows_step k53 (w0 := w) w.heap.size (by rfl) (.tmp 45) (.tmp 47) 25 53 (.agg #[(.string ⟨#[]⟩), (.int .i64 0), (.int .i64 0)]) 32 rfl Try.underlying25 info53 rfl (by decide) (by omega) v542 y541 y544 _ _ _ (fun k_ => some k_ ≠ (.slice Ao43 y544.length co43 : Value).ownBlock ∧ k_ ≠ gb530) (fun _ => False) rfl rfl ?aO ?aR (fun _ _ h => h) (fun _ h => h.elim) ?aF ?aB ?aS ?aL ?_
                (case aR => repeat (first | exact (Kd.R_reads' HO546.out).2.2 | (with_reducible refine Kd.C_alloc ?_ _) | (with_reducible refine Kd.C_drewN ?_ _) | (with_reducible refine Kd.C_drew ?_)))
                (case aB => exact (hg_ GE530))
                (case aF => exact (fun k_ hk => ⟨Kd.fresh' (Kd.R_lt (kr_ HO546)) k_ hk, Kd.freshB (g := gb530) (o := .cells #[.string a2_0, .int .i64 a2_1, .int .i64 a2_2] 53 (0, 0)) (bk_ BK530) k_ hk⟩))
                (case aO => exact (kr_ HO543))
                (case aS => exact (below_size (hg_ GE530)))
                (case aL => have := LMc26.out; omega)
                intro v548 w42 ho hb hg hat
                rw [← Ny547.out] at ho
                have n0_ := Aside0.mk (blk_grown (g := gb530) (o := .cells #[.string a2_0, .int .i64 a2_1, .int .i64 a2_2] 53 (0, 0)) (bk_ BK530) hg (Kd.R_away HO543.out (fun _ hk => hk.2)))
                have n1_ := Aside0.mk (Kd.R_after (ok := (fun k_ => k_ ≠ gb530)) (by (with_reducible repeat (first | apply Kd.R_alloc | apply Kd.R_drewN | apply Kd.R_drew)); exact Kd.R_mono HO546.out (fun _ hk => ⟨hk.2, hk.1⟩)) hg hat)
                have n2_ := Aside0.mk (hb)
                have n3_ := Aside0.mk (ho)
                clear BK530
                clear HO546
                clear HB
                clear HO543
                have BK530 := n0_
                have HO546 := n1_
                have HB := n2_
                have HO549 := n3_
                clear n0_ n1_ n2_ n3_
                clear ho hb hg hat
                refine hK.out _ _ ⟨(blk_cell BK530.out 0).trans rfl, (blk_cell BK530.out 1).trans rfl, (blk_cell BK530.out 2).trans rfl⟩ (fun hHeld => ?_)
                clear hK K
                refine norm_ (a' := ?_) ?_ ?_
                rotate_left
                ·show Act.put _ (some 48) _ = _
                 simp only [Act.put, sT_, s0_, sS_, i64_w, i32_w]
                 rfl
                refine one_ (i := 11) (N := some 52) #[T_,T_,T_,T_,T_,T_,T_,T_,T_,T_,T_,T_,F_] rfl rfl (one_of HT_.out (by kernel_rfl)) (by decide) (fun K hK => ?_)
                refine Kd.R_append_rows_step k53 (w0 := w) w.heap.size (by rfl) (.tmp 48) (.tmp 51) 25 53 (.agg #[(.string ⟨#[]⟩), (.int .i64 0), (.int .i64 0)]) 32 rfl Try.underlying25 info53 rfl (by decide) (by omega) v548 y547 y550 _ _ _ (fun k_ => some k_ ≠ (.slice Ao43 y544.length co43 : Value).ownBlock ∧ k_ ≠ gb530) (fun _ => False) rfl rfl ?aO ?aR (fun _ _ h => h) (fun _ h => h.elim) ?aF ?aB ?aS ?aL ?_
                (case aR => exact kc_ (Kd.C_below HR553.out HB.out))
                (case aB => exact (hg_ GE530))
                (case aF => exact (fun k_ hk => ⟨Kd.fresh' (Kd.R_lt (kr_ HO546)) k_ hk, Kd.freshB (g := gb530) (o := .cells #[.string a2_0, .int .i64 a2_1, .int .i64 a2_2] 53 (0, 0)) (bk_ BK530) k_ hk⟩))
                (case aO => exact (kr_ HO549))
                (case aS => exact (below_size (hg_ GE530)))
                (case aL => have := LMc29.out; omega)
                intro v555 w44 ho hb hg hat
                rw [← Ny554.out] at ho
                have n0_ := Aside0.mk (blk_grown (g := gb530) (o := .cells #[.string a2_0, .int .i64 a2_1, .int .i64 a2_2] 53 (0, 0)) (bk_ BK530) hg (Kd.R_away HO549.out (fun _ hk => hk.2)))
                have n1_ := Aside0.mk (Kd.R_after (ok := (fun k_ => k_ ≠ gb530)) (kr_ HO546) hg hat)
                have n2_ := Aside0.mk (hb)
                have n3_ := Aside0.mk (ho)
                clear BK530
                clear HO546
                clear HB
                clear HO549
                have BK530 := n0_
                have HO546 := n1_
                have HB := n2_
                have HO556 := n3_
                clear n0_ n1_ n2_ n3_
                clear ho hb hg hat
                refine hK.out _ _ ⟨(blk_cell BK530.out 0).trans rfl, (blk_cell BK530.out 1).trans rfl, (blk_cell BK530.out 2).trans rfl⟩ (fun hHeld => ?_)
                clear hK K
                refine norm_ (a' := ?_) ?_ ?_
                rotate_left
                ·show Act.put _ (some 52) _ = _
                 simp only [Act.put, sT_, s0_, sS_, i64_w, i32_w]
                 rfl
                refine pu (i := 12) (N := some 10) #[T_,T_,T_,T_,T_,T_,T_,T_,T_,T_,T_,T_,T_] HT_ ?_
                refine done_ (done_of HT_.out (by kernel_rfl)) ?_
                obtain ⟨Ao45, co45, eo45⟩ := Kd.R_slice HO556.out
                subst eo45
                try go_wp2_with (first | ((with_reducible refine gate_callee (f := 64) rfl ?_); refine goesL_ (some 55) rfl rfl Try.func64 (by kernel_rfl) rfl #[.slice A0 l0.length c0, .slice Ao45 y554.length co45] rfl ln_ ?_; (with_reducible refine (impl_areChecks.calls k1 _ _ l0 _ _ y554 true _ ?side1 ?side2 ?side3 ?side4 A30.out).mono ?_); (case side1 => exact kc_ (Kd.C_below HR0.out HB.out)); (case side2 => exact HC0.out); (case side3 => repeat (first | exact (Kd.R_reads' HO556.out).2.2 | (with_reducible refine Kd.C_alloc ?_ _) | (with_reducible refine Kd.C_drewN ?_ _) | (with_reducible refine Kd.C_drew ?_))); (case side4 => exact (Kd.R_reads' HO556.out).2.1); rintro e w46 ⟨rfl, hb⟩; refine ⟨_, rfl, ?_⟩; have n0_ := Aside0.mk (Kd.R_below (kr_ HO546) hb); have n1_ := Aside0.mk (Kd.R_below (kr_ HO556) hb); have n2_ := Aside0.mk (blk_below (g := gb530) (o := .cells #[.string a2_0, .int .i64 a2_1, .int .i64 a2_2] 53 (0, 0)) (bk_ BK530) hb); have n3_ := Aside0.mk (below_step (hg_ GE530) hb); clear HO546; clear HO556; clear BK530; clear HB; have HO546 := n0_; have HO556 := n1_; have BK530 := n2_; have HB := n3_; clear n0_ n1_ n2_ n3_; (try clear hb); (try clear hb2); (try clear hk); (try clear hi)))
                go_ret2
                exact ⟨_, by first | rfl | (simp [errW_none, errW_some] <;> rfl) | (simp only [← hji18]; first | rfl | (simp [errW_none, errW_some] <;> rfl)) | (simp [*, errW_none, errW_some] <;> rfl), by (with_reducible repeat (first | apply Kd.R_alloc | apply Kd.R_drewN | apply Kd.R_drew)); exact Kd.R_mono HO556.out (fun _ hk => trivial), (hg_ GE530)⟩
               ·replace c31 := Bool.eq_false_iff.mpr c31
                subst c31
                have H1 : (some (([] : List (S53)), 9)) = some (r1, r2) := by rw [if_neg (show ¬ (false = true) by decide)] at H; exact H
                clear H
                have H := H1
                clear H1
                simp only [Option.some.injEq, Prod.mk.injEq] at H
                obtain ⟨rfl, rfl⟩ := H
                try go_wp2
                have n0_ := Aside0.mk (blk_drew BK530.out)
                have n1_ := Aside0.mk (below_drew1 HB.out)
                clear BK530
                clear HB
                have BK530 := n0_
                have HB := n1_
                clear n0_ n1_
                have p533 : 0 ≤ ((ji18) : Int) := od_
                have q533 : (ji18) < (l1.length : Int) := od_
                obtain ⟨ad533, e533, hx533_0, hx533_1, hx533_2⟩ := at_T53 HR1.out (ji18) p533 q533
                have hw533_2 := hx533_2
                have hw533_1 := hx533_1
                have hw533_0 := hx533_0
                cases e533
                replace hx533_0 := cq_ HB hx533_0
                replace hx533_1 := cq_ HB hx533_1
                replace hx533_2 := cq_ HB hx533_2
                replace p533 := eq_true p533
                replace q533 := eq_true q533
                refine start_ (n := 13) (S := fun w' => w'.cell? ⟨gb530, 0, none⟩ = some (.string a2_0) ∧ w'.cell? ⟨gb530, 1, none⟩ = some (.int .i64 a2_1) ∧ w'.cell? ⟨gb530, 2, none⟩ = some (.int .i64 a2_2) ∧ w'.cell? (ad533.add (((ji18)).toNat * 3)) = some (.string ((rd_T53 l1 (ji18)).f0)) ∧ w'.cell? ⟨(ad533.add (((ji18)).toNat * 3)).block, (ad533.add (((ji18)).toNat * 3)).off + 1, none⟩ = some (.int .i64 ((rd_T53 l1 (ji18)).f1)) ∧ w'.cell? ⟨(ad533.add (((ji18)).toNat * 3)).block, (ad533.add (((ji18)).toNat * 3)).off + 2, none⟩ = some (.int .i64 ((rd_T53 l1 (ji18)).f2))) (ds := []) #[F_,F_,F_,F_,F_,F_,F_,F_,F_,F_,F_,F_,F_] (by kernel_rfl) rfl rfl ⟨(blk_cell BK530.out 0).trans rfl, (blk_cell BK530.out 1).trans rfl, (blk_cell BK530.out 2).trans rfl, ((HB.out.cell (World.block_lt_of_cell? w _ hw533_0)).trans hw533_0), ((HB.out.cell (World.block_lt_of_cell? w _ hw533_1)).trans hw533_1), ((HB.out.cell (World.block_lt_of_cell? w _ hw533_2)).trans hw533_2)⟩ (fun hHeld => ?_); refine with_tabW impl_AddCheck.tab9 impl_AddCheck.bits9 (fun HT_ HW_ => ?_)
                generalize wr.drew = w47 at BK530 HB hx533_0 hx533_1 hx533_2 hHeld ⊢
                refine pu (i := 0) (N := some 26) #[T_,F_,F_,F_,F_,F_,F_,F_,F_,F_,F_,F_,F_] HT_ ?_
                refine pu (i := 1) (N := some 27) #[T_,T_,F_,F_,F_,F_,F_,F_,F_,F_,F_,F_,F_] HT_ ?_
                refine pu (i := 2) (N := some 28) #[T_,T_,T_,F_,F_,F_,F_,F_,F_,F_,F_,F_,F_] HT_ ?_
                refine pu (i := 3) (N := some 29) #[T_,T_,T_,T_,F_,F_,F_,F_,F_,F_,F_,F_,F_] HT_ ?_
                refine pu (i := 4) (N := some 30) #[T_,T_,T_,T_,T_,F_,F_,F_,F_,F_,F_,F_,F_] HT_ ?_
                refine pu (i := 5) (N := some 31) #[T_,T_,T_,T_,T_,T_,F_,F_,F_,F_,F_,F_,F_] HT_ ?_
                refine pu (i := 6) (N := some 32) #[T_,T_,T_,T_,T_,T_,T_,F_,F_,F_,F_,F_,F_] HT_ ?_
                refine pu (i := 7) (N := some 33) #[T_,T_,T_,T_,T_,T_,T_,T_,F_,F_,F_,F_,F_] HT_ ?_
                refine pu (i := 9) (N := some 35) #[T_,T_,T_,T_,T_,T_,T_,T_,F_,T_,F_,F_,F_] HT_ ?_
                refine take_ (i := 8) (N := some 34) (v := ?_) (a' := ?_) #[T_,T_,T_,T_,T_,T_,T_,T_,T_,T_,F_,F_,F_] rfl rfl (take_ofW HT_.out HW_.out (by kernel_rfl)) (fun _ _ _ h => h) (Or.inl ⟨by rfl, ?_⟩) hHeld ?_ ?_
                rotate_left
                ·rintro w' ⟨s0, s1, s2, s3, s4, s5⟩
                 go_simp
                 with_reducible rfl
                rotate_left
                ·simp only [Act.put, sT_, s0_, sS_, i64_w, i32_w]
                 rfl
                refine take_ (i := 10) (N := some 36) (v := ?_) (a' := ?_) #[T_,T_,T_,T_,T_,T_,T_,T_,T_,T_,T_,F_,F_] rfl rfl (take_ofW HT_.out HW_.out (by kernel_rfl)) (fun _ _ _ h => h) (Or.inl ⟨by rfl, ?_⟩) hHeld ?_ ?_
                rotate_left
                ·rintro w' ⟨s0, s1, s2, s3, s4, s5⟩
                 go_simp
                 with_reducible rfl
                rotate_left
                ·simp only [Act.put, sT_, s0_, sS_, i64_w, i32_w]
                 rfl
                refine pu (i := 11) (N := some 37) #[T_,T_,T_,T_,T_,T_,T_,T_,T_,T_,T_,T_,F_] HT_ ?_
                refine pu (i := 12) (N := some 38) #[T_,T_,T_,T_,T_,T_,T_,T_,T_,T_,T_,T_,T_] HT_ ?_
                refine done_ (done_of HT_.out (by kernel_rfl)) ?_
                try go_wp2
                have n0_ := Aside0.mk (blk_drew BK530.out)
                have n1_ := Aside0.mk (below_drew1 HB.out)
                clear BK530
                clear HB
                have BK530 := n0_
                have HB := n1_
                clear n0_ n1_
                have q49 : (x9_1 : Int) ≤ ((l1.length : Int) : Int) := od_
                obtain ⟨i049, hi049, _, hsz49, _⟩ := info_parts info53
                have hroom49 : l1.length ≤ c1 := HC1.out
                have hC49 : Kd.C k53 _ (some ad533) l1.length l1 := HR1.out
                have hcut49 := cut_to (P := Try.prog) 25 53 .i64 Try.underlying25 hi049 (some ad533) l1.length c1 x9_1 (od_) q49 hroom49
                have hr49 := Kd.C_take (m := (x9_1 : Int).toNat) hC49 (by omega)
                have hy49 : y537.length = (x9_1 : Int).toNat := (by rw [Ny537.out, List.length_take]; omega)
                rw [← Ny537.out] at hr49
                rw [← hy49] at hcut49
                have HR540 := Aside0.mk hr49
                have HC540 := Aside0.mk (show y537.length ≤ c1 from by omega)
                clear hr49 hC49 hroom49 hi049 hsz49
                have KY49 := Aside0.mk hy49
                clear hy49
                replace q49 := eq_true q49
                have q50 : (x9_1 : Int) ≤ ((l1.length : Int) : Int) := od_
                obtain ⟨i050, hi050, _, hsz50, _⟩ := info_parts info53
                have hroom50 : l1.length ≤ c1 := HC1.out
                have hC50 : Kd.C k53 _ (some ad533) l1.length l1 := HR1.out
                have q050 : (0 : Int) ≤ (x9_1 : Int) := od_
                have hcut50 := cut_from (P := Try.prog) 25 53 .i64 Try.underlying25 hi050 3 hsz50 (some ad533) l1.length c1 x9_1 q050 q50
                have hr50 := Kd.C_drop (m := (x9_1 : Int).toNat) (c := c1) hC50 (by omega) hroom50
                obtain ⟨A50, hA50⟩ : ∃ Az_, Az_ = (if c1 = (x9_1 : Int).toNat then (some ad533) else ((some ad533) : Option Addr).map (·.add ((x9_1 : Int).toNat * 3))) := ⟨_, rfl⟩
                obtain ⟨c50, hc50⟩ : ∃ cz_, cz_ = c1 - (x9_1 : Int).toNat := ⟨_, rfl⟩
                have hy50 : y550.length = l1.length - (x9_1 : Int).toNat := (by rw [Ny550.out, List.length_drop] <;> omega)
                rw [show (l1).drop (x9_1 : Int).toNat = y550 from Ny550.out.symm] at hr50
                replace hr50 : Kd.C k53 _ A50 y550.length y550 := (by rw [hA50]; exact hr50)
                rw [← hy50, ← hA50, ← hc50] at hcut50
                have HR553 := Aside0.mk hr50
                have HC553 := Aside0.mk (show y550.length ≤ c50 from by rw [hy50, hc50]; exact Nat.sub_le_sub_right hroom50 _)
                clear hr50 hC50 hroom50 hi050 hsz50 hc50
                have KY50 := Aside0.mk hy50
                have KA50 := Aside0.mk hA50
                clear hy50 hA50
                replace q50 := eq_true q50
                refine start_ (n := 13) (S := fun w' => w'.cell? ⟨gb530, 0, none⟩ = some (.string a2_0) ∧ w'.cell? ⟨gb530, 1, none⟩ = some (.int .i64 a2_1) ∧ w'.cell? ⟨gb530, 2, none⟩ = some (.int .i64 a2_2)) (ds := []) #[F_,F_,F_,F_,F_,F_,F_,F_,F_,F_,F_,F_,F_] (by kernel_rfl) rfl rfl ⟨(blk_cell BK530.out 0).trans rfl, (blk_cell BK530.out 1).trans rfl, (blk_cell BK530.out 2).trans rfl⟩ (fun hHeld => ?_); refine with_tabW impl_AddCheck.tab11 impl_AddCheck.bits11 (fun HT_ HW_ => ?_)
                generalize w47.drew = w48 at BK530 HB HR540 HR553 hHeld ⊢
                refine pu (i := 1) (N := some 42) #[F_,T_,F_,F_,F_,F_,F_,F_,F_,F_,F_,F_,F_] HT_ ?_
                refine pu (i := 2) (N := some 43) #[F_,T_,T_,F_,F_,F_,F_,F_,F_,F_,F_,F_,F_] HT_ ?_
                refine pu (i := 3) (N := some 44) #[F_,T_,T_,T_,F_,F_,F_,F_,F_,F_,F_,F_,F_] HT_ ?_
                refine pu (i := 8) (N := some 49) #[F_,T_,T_,T_,F_,F_,F_,F_,T_,F_,F_,F_,F_] HT_ ?_
                refine pu (i := 9) (N := some 50) #[F_,T_,T_,T_,F_,F_,F_,F_,T_,T_,F_,F_,F_] HT_ ?_
                refine pu (i := 10) (N := some 51) #[F_,T_,T_,T_,F_,F_,F_,F_,T_,T_,T_,F_,F_] HT_ ?_
                refine take_ (i := 5) (N := some 46) (v := ?_) (a' := ?_) #[F_,T_,T_,T_,F_,T_,F_,F_,T_,T_,T_,F_,F_] rfl rfl (take_ofW HT_.out HW_.out (by kernel_rfl)) (fun _ _ _ h => h) (Or.inl ⟨by rfl, ?_⟩) hHeld ?_ ?_
                rotate_left
                ·rintro w' ⟨s0, s1, s2⟩
                 go_simp
                 with_reducible rfl
                rotate_left
                ·simp only [Act.put, sT_, s0_, sS_, i64_w, i32_w]
                 rfl
                refine join_ (σ := Value × Value × Value) 3 #[T_,T_,T_,T_,T_,T_,T_,F_,T_,T_,T_,F_,F_] (fun s_ => [(41, s_.1), (45, s_.2.1), (47, s_.2.2)]) (fun s_ w' => (w'.cell? ⟨gb530, 0, none⟩ = some (.string a2_0) ∧ w'.cell? ⟨gb530, 1, none⟩ = some (.int .i64 a2_1) ∧ w'.cell? ⟨gb530, 2, none⟩ = some (.int .i64 a2_2)) ∧ (Kd.R k53 53 w' w.heap.size (fun k_ => some k_ ≠ (s_.2.2 : Value).ownBlock ∧ k_ ≠ gb530) s_.2.1 y541) ∧ (Kd.R k53 53 w' w.heap.size (fun k_ => some k_ ≠ (s_.2.1 : Value).ownBlock ∧ k_ ≠ gb530) s_.2.2 y544) ∧ (w'.heap[gb530]? = some (.cells #[.string a2_0, .int .i64 a2_1, .int .i64 a2_2] 53 (0, 0))) ∧ (Below w.heap.size w w')) ?_ ?_
                rotate_left
                ·intro hCont
                 refine two_ (i := 0) (j := 6) (Ni := some 41) (Nj := some 47) #[T_,T_,T_,T_,F_,T_,F_,F_,T_,T_,T_,F_,F_] #[F_,T_,T_,T_,F_,T_,T_,F_,T_,T_,T_,F_,F_] rfl rfl rfl rfl (two_of HT_.out (by kernel_rfl)) (by decide) (by decide) (fun K hK => ?_) (fun K hK => ?_)
                 ·skip
                  refine Kd.R_lit_step k53 _ 53 ?hg (N := 41) ?hd (xs := ([] : List (S53))) (inner := []) (ok := fun _ => True) (okp := fun _ => True) ?hr ?hp (fun _ hk => hk) trivial (Below.refl _ _) (Nat.le_refl _) (by simp) ?_; (case hd => rfl); (case hg => rfl); (case hr => first | (go_simp; done) | (go_simp; rfl)); (case hp => exact (Reps.none _ _))
                  intro v535 w51 ho52 hb hg_ hnew_
                  clear hg_ hnew_
                  (first | rw [← Ny534.out] at ho52 | (simp only [Int.reduceToNat] at ho52; rw [← Ny534.out] at ho52))
                  have n0_ := Aside0.mk (Kd.R_lower (Kd.R_newB ho52 (g := gb530) (o := .cells #[.string a2_0, .int .i64 a2_1, .int .i64 a2_2] 53 (0, 0)) (bk_ BK530)) (below_size (hg_ GE530)))
                  have n1_ := Aside0.mk (blk_below (g := gb530) (o := .cells #[.string a2_0, .int .i64 a2_1, .int .i64 a2_2] 53 (0, 0)) (bk_ BK530) hb)
                  have n2_ := Aside0.mk (below_step (hg_ GE530) hb)
                  clear BK530
                  clear HB
                  have HO536 := n0_
                  have BK530 := n1_
                  have HB := n2_
                  clear n0_ n1_ n2_
                  clear hb ho52
                  refine hK.out _ _ ⟨(blk_cell BK530.out 0).trans rfl, (blk_cell BK530.out 1).trans rfl, (blk_cell BK530.out 2).trans rfl⟩ (fun hHeld => ?_)
                  clear hK K
                  refine norm_ (a' := ?_) ?_ ?_
                  rotate_left
                  ·show Act.put _ (some 41) _ = _
                   simp only [Act.put, sT_, s0_, sS_, i64_w, i32_w]
                   rfl
                  refine two_ (i := 4) (j := 6) (Ni := some 45) (Nj := some 47) #[T_,T_,T_,T_,T_,T_,F_,F_,T_,T_,T_,F_,F_] #[T_,T_,T_,T_,F_,T_,T_,F_,T_,T_,T_,F_,F_] rfl rfl rfl rfl (two_of HT_.out (by kernel_rfl)) (by decide) (by decide) (fun K hK => ?_) (fun K hK => ?_)
                  ·skip
                   refine Kd.R_append_rows_step k53 (w0 := w) w.heap.size (by rfl) (.tmp 41) (.tmp 44) 25 53 (.agg #[(.string ⟨#[]⟩), (.int .i64 0), (.int .i64 0)]) 32 rfl Try.underlying25 info53 rfl (by decide) (by omega) v535 y534 y537 _ _ _ (fun k_ => k_ ≠ gb530) (fun _ => False) rfl rfl ?aO ?aR (fun _ _ h => h) (fun _ h => h.elim) ?aF ?aB ?aS ?aL ?_
                   (case aR => exact kc_ (Kd.C_below HR540.out HB.out))
                   (case aB => exact (hg_ GE530))
                   (case aF => exact (fun k_ hk => Kd.freshB (g := gb530) (o := .cells #[.string a2_0, .int .i64 a2_1, .int .i64 a2_2] 53 (0, 0)) (bk_ BK530) k_ hk))
                   (case aO => exact (by (with_reducible repeat (first | apply Kd.R_alloc | apply Kd.R_drewN | apply Kd.R_drew)); exact Kd.R_mono HO536.out (fun _ hk => hk.2)))
                   (case aS => exact (below_size (hg_ GE530)))
                   (case aL => have := LMc25.out; omega)
                   intro v542 w53 ho hb hg hat
                   rw [← Ny541.out] at ho
                   have n0_ := Aside0.mk (blk_grown (g := gb530) (o := .cells #[.string a2_0, .int .i64 a2_1, .int .i64 a2_2] 53 (0, 0)) (bk_ BK530) hg (Kd.R_away HO536.out (fun _ hk => hk.2)))
                   have n1_ := Aside0.mk (hb)
                   have n2_ := Aside0.mk (ho)
                   clear BK530
                   clear HB
                   clear HO536
                   have BK530 := n0_
                   have HB := n1_
                   have HO543 := n2_
                   clear n0_ n1_ n2_
                   clear ho hb hg hat
                   refine hK.out _ _ ⟨(blk_cell BK530.out 0).trans rfl, (blk_cell BK530.out 1).trans rfl, (blk_cell BK530.out 2).trans rfl⟩ (fun hHeld => ?_)
                   clear hK K
                   refine norm_ (a' := ?_) ?_ ?_
                   rotate_left
                   ·show Act.put _ (some 45) _ = _
                    simp only [Act.put, sT_, s0_, sS_, i64_w, i32_w]
                    rfl
                   refine one_ (i := 6) (N := some 47) #[T_,T_,T_,T_,T_,T_,T_,F_,T_,T_,T_,F_,F_] rfl rfl (one_of HT_.out (by kernel_rfl)) (by decide) (fun K hK => ?_)
                   refine Kd.R_lit_step k53 _ 53 ?hg (N := 47) ?hd (xs := ([(⟨a2_0, a2_1, a2_2⟩ : S53)] : List (S53))) (inner := [.string a2_0, .int .i64 a2_1, .int .i64 a2_2]) (ok := fun _ => True) (okp := fun _ => True) ?hr ?hp (fun _ hk => hk) trivial (Below.refl _ _) (Nat.le_refl _) (by simp) ?_; (case hd => rfl); (case hg => rfl); (case hr => first | (go_simp; done) | (go_simp; rfl)); (case hp => exact (Reps.c3 (show Kd.M k53 _ _ _ (⟨a2_0, a2_1, a2_2⟩ : S53) [.string a2_0, .int .i64 a2_1, .int .i64 a2_2] from (k53_mkM _ _ _ (⟨a2_0, a2_1, a2_2⟩ : S53) )) (Reps.none _ _)))
                   intro v545 w54 ho55 hb hg_ hnew_
                   clear hg_ hnew_
                   (first | rw [← Ny544.out] at ho55 | (simp only [Int.reduceToNat] at ho55; rw [← Ny544.out] at ho55))
                   have n0_ := Aside0.mk (Kd.R_elder' (kr_ HO543) (Kd.R_base ho55) hb)
                   have n1_ := Aside0.mk (Kd.R_lower (Kd.R_newB (Kd.R_new' ho55 (Kd.R_lt (kr_ HO543))) (g := gb530) (o := .cells #[.string a2_0, .int .i64 a2_1, .int .i64 a2_2] 53 (0, 0)) (bk_ BK530)) (below_size (hg_ GE530)))
                   have n2_ := Aside0.mk (blk_below (g := gb530) (o := .cells #[.string a2_0, .int .i64 a2_1, .int .i64 a2_2] 53 (0, 0)) (bk_ BK530) hb)
                   have n3_ := Aside0.mk (below_step (hg_ GE530) hb)
                   clear HO543
                   clear BK530
                   clear HB
                   have HO543 := n0_
                   have HO546 := n1_
                   have BK530 := n2_
                   have HB := n3_
                   clear n0_ n1_ n2_ n3_
                   clear hb ho55
                   refine hK.out _ _ ⟨(blk_cell BK530.out 0).trans rfl, (blk_cell BK530.out 1).trans rfl, (blk_cell BK530.out 2).trans rfl⟩ (fun hHeld => ?_)
                   clear hK K
                   refine norm_ (a' := ?_) ?_ ?_
                   rotate_left
                   ·show Act.put _ (some 47) _ = _
                    simp only [Act.put, sT_, s0_, sS_, i64_w, i32_w]
                    rfl
                   exact norm_ (by simp only [putAll, Act.put, List.setIfInBounds_toArray, List.set_cons_zero, List.set_cons_succ]) (hCont (v535, v542, v545) _ ⟨hHeld, (by (with_reducible repeat (first | apply Kd.R_alloc | apply Kd.R_drewN | apply Kd.R_drew)); exact Kd.R_mono HO543.out (fun _ hk => ⟨hk.2, hk.1⟩)), (by (with_reducible repeat (first | apply Kd.R_alloc | apply Kd.R_drewN | apply Kd.R_drew)); exact Kd.R_mono HO546.out (fun _ hk => ⟨hk.1.2, hk.2⟩)), (bk_ BK530), (hg_ GE530)⟩)
                  ·skip
                   refine Kd.R_lit_step k53 _ 53 ?hg (N := 47) ?hd (xs := ([(⟨a2_0, a2_1, a2_2⟩ : S53)] : List (S53))) (inner := [.string a2_0, .int .i64 a2_1, .int .i64 a2_2]) (ok := fun _ => True) (okp := fun _ => True) ?hr ?hp (fun _ hk => hk) trivial (Below.refl _ _) (Nat.le_refl _) (by simp) ?_; (case hd => rfl); (case hg => rfl); (case hr => first | (go_simp; done) | (go_simp; rfl)); (case hp => exact (Reps.c3 (show Kd.M k53 _ _ _ (⟨a2_0, a2_1, a2_2⟩ : S53) [.string a2_0, .int .i64 a2_1, .int .i64 a2_2] from (k53_mkM _ _ _ (⟨a2_0, a2_1, a2_2⟩ : S53) )) (Reps.none _ _)))
                   intro v545 w53 ho54 hb hg_ hnew_
                   clear hg_ hnew_
                   (first | rw [← Ny544.out] at ho54 | (simp only [Int.reduceToNat] at ho54; rw [← Ny544.out] at ho54))
                   have n0_ := Aside0.mk (Kd.R_elder' (kr_ HO536) (Kd.R_base ho54) hb)
                   have n1_ := Aside0.mk (Kd.R_lower (Kd.R_newB (Kd.R_new' ho54 (Kd.R_lt (kr_ HO536))) (g := gb530) (o := .cells #[.string a2_0, .int .i64 a2_1, .int .i64 a2_2] 53 (0, 0)) (bk_ BK530)) (below_size (hg_ GE530)))
                   have n2_ := Aside0.mk (blk_below (g := gb530) (o := .cells #[.string a2_0, .int .i64 a2_1, .int .i64 a2_2] 53 (0, 0)) (bk_ BK530) hb)
                   have n3_ := Aside0.mk (below_step (hg_ GE530) hb)
                   clear HO536
                   clear BK530
                   clear HB
                   have HO536 := n0_
                   have HO546 := n1_
                   have BK530 := n2_
                   have HB := n3_
                   clear n0_ n1_ n2_ n3_
                   clear hb ho54
                   refine hK.out _ _ ⟨(blk_cell BK530.out 0).trans rfl, (blk_cell BK530.out 1).trans rfl, (blk_cell BK530.out 2).trans rfl⟩ (fun hHeld => ?_)
                   clear hK K
                   refine norm_ (a' := ?_) ?_ ?_
                   rotate_left
                   ·show Act.put _ (some 47) _ = _
                    simp only [Act.put, sT_, s0_, sS_, i64_w, i32_w]
                    rfl
                   refine one_ (i := 4) (N := some 45) #[T_,T_,T_,T_,T_,T_,T_,F_,T_,T_,T_,F_,F_] rfl rfl (one_of HT_.out (by kernel_rfl)) (by decide) (fun K hK => ?_)
                   refine Kd.R_append_rows_step k53 (w0 := w) w.heap.size (by rfl) (.tmp 41) (.tmp 44) 25 53 (.agg #[(.string ⟨#[]⟩), (.int .i64 0), (.int .i64 0)]) 32 rfl Try.underlying25 info53 rfl (by decide) (by omega) v535 y534 y537 _ _ _ (fun k_ => some k_ ≠ (v545 : Value).ownBlock ∧ k_ ≠ gb530) (fun _ => False) rfl rfl ?aO ?aR (fun _ _ h => h) (fun _ h => h.elim) ?aF ?aB ?aS ?aL ?_
                   (case aR => exact kc_ (Kd.C_below HR540.out HB.out))
                   (case aB => exact (hg_ GE530))
                   (case aF => exact (fun k_ hk => ⟨Kd.fresh' (Kd.R_lt (kr_ HO546)) k_ hk, Kd.freshB (g := gb530) (o := .cells #[.string a2_0, .int .i64 a2_1, .int .i64 a2_2] 53 (0, 0)) (bk_ BK530) k_ hk⟩))
                   (case aO => exact (by (with_reducible repeat (first | apply Kd.R_alloc | apply Kd.R_drewN | apply Kd.R_drew)); exact Kd.R_mono HO536.out (fun _ hk => ⟨hk.2, hk.1.2⟩)))
                   (case aS => exact (below_size (hg_ GE530)))
                   (case aL => have := LMc25.out; omega)
                   intro v542 w55 ho hb hg hat
                   rw [← Ny541.out] at ho
                   have n0_ := Aside0.mk (blk_grown (g := gb530) (o := .cells #[.string a2_0, .int .i64 a2_1, .int .i64 a2_2] 53 (0, 0)) (bk_ BK530) hg (Kd.R_away HO536.out (fun _ hk => hk.1.2)))
                   have n1_ := Aside0.mk (Kd.R_after (ok := (fun k_ => k_ ≠ gb530)) (by (with_reducible repeat (first | apply Kd.R_alloc | apply Kd.R_drewN | apply Kd.R_drew)); exact Kd.R_mono HO546.out (fun _ hk => ⟨hk.2, hk.1.2⟩)) hg hat)
                   have n2_ := Aside0.mk (hb)
                   have n3_ := Aside0.mk (ho)
                   clear BK530
                   clear HO546
                   clear HB
                   clear HO536
                   have BK530 := n0_
                   have HO546 := n1_
                   have HB := n2_
                   have HO543 := n3_
                   clear n0_ n1_ n2_ n3_
                   clear ho hb hg hat
                   refine hK.out _ _ ⟨(blk_cell BK530.out 0).trans rfl, (blk_cell BK530.out 1).trans rfl, (blk_cell BK530.out 2).trans rfl⟩ (fun hHeld => ?_)
                   clear hK K
                   refine norm_ (a' := ?_) ?_ ?_
                   rotate_left
                   ·show Act.put _ (some 45) _ = _
                    simp only [Act.put, sT_, s0_, sS_, i64_w, i32_w]
                    rfl
                   exact norm_ (by simp only [putAll, Act.put, List.setIfInBounds_toArray, List.set_cons_zero, List.set_cons_succ]) (hCont (v535, v542, v545) _ ⟨hHeld, (kr_ HO543), (by (with_reducible repeat (first | apply Kd.R_alloc | apply Kd.R_drewN | apply Kd.R_drew)); exact Kd.R_mono HO546.out (fun _ hk => ⟨hk.2, hk.1⟩)), (bk_ BK530), (hg_ GE530)⟩)
                 ·skip
                  refine Kd.R_lit_step k53 _ 53 ?hg (N := 47) ?hd (xs := ([(⟨a2_0, a2_1, a2_2⟩ : S53)] : List (S53))) (inner := [.string a2_0, .int .i64 a2_1, .int .i64 a2_2]) (ok := fun _ => True) (okp := fun _ => True) ?hr ?hp (fun _ hk => hk) trivial (Below.refl _ _) (Nat.le_refl _) (by simp) ?_; (case hd => rfl); (case hg => rfl); (case hr => first | (go_simp; done) | (go_simp; rfl)); (case hp => exact (Reps.c3 (show Kd.M k53 _ _ _ (⟨a2_0, a2_1, a2_2⟩ : S53) [.string a2_0, .int .i64 a2_1, .int .i64 a2_2] from (k53_mkM _ _ _ (⟨a2_0, a2_1, a2_2⟩ : S53) )) (Reps.none _ _)))
                  intro v545 w51 ho52 hb hg_ hnew_
                  clear hg_ hnew_
                  (first | rw [← Ny544.out] at ho52 | (simp only [Int.reduceToNat] at ho52; rw [← Ny544.out] at ho52))
                  have n0_ := Aside0.mk (Kd.R_lower (Kd.R_newB ho52 (g := gb530) (o := .cells #[.string a2_0, .int .i64 a2_1, .int .i64 a2_2] 53 (0, 0)) (bk_ BK530)) (below_size (hg_ GE530)))
                  have n1_ := Aside0.mk (blk_below (g := gb530) (o := .cells #[.string a2_0, .int .i64 a2_1, .int .i64 a2_2] 53 (0, 0)) (bk_ BK530) hb)
                  have n2_ := Aside0.mk (below_step (hg_ GE530) hb)
                  clear BK530
                  clear HB
                  have HO546 := n0_
                  have BK530 := n1_
                  have HB := n2_
                  clear n0_ n1_ n2_
                  clear hb ho52
                  refine hK.out _ _ ⟨(blk_cell BK530.out 0).trans rfl, (blk_cell BK530.out 1).trans rfl, (blk_cell BK530.out 2).trans rfl⟩ (fun hHeld => ?_)
                  clear hK K
                  refine norm_ (a' := ?_) ?_ ?_
                  rotate_left
                  ·show Act.put _ (some 47) _ = _
                   simp only [Act.put, sT_, s0_, sS_, i64_w, i32_w]
                   rfl
                  refine one_ (i := 0) (N := some 41) #[T_,T_,T_,T_,F_,T_,T_,F_,T_,T_,T_,F_,F_] rfl rfl (one_of HT_.out (by kernel_rfl)) (by decide) (fun K hK => ?_)
                  refine Kd.R_lit_step k53 _ 53 ?hg (N := 41) ?hd (xs := ([] : List (S53))) (inner := []) (ok := fun _ => True) (okp := fun _ => True) ?hr ?hp (fun _ hk => hk) trivial (Below.refl _ _) (Nat.le_refl _) (by simp) ?_; (case hd => rfl); (case hg => rfl); (case hr => first | (go_simp; done) | (go_simp; rfl)); (case hp => exact (Reps.none _ _))
                  intro v535 w53 ho54 hb hg_ hnew_
                  clear hg_ hnew_
                  (first | rw [← Ny534.out] at ho54 | (simp only [Int.reduceToNat] at ho54; rw [← Ny534.out] at ho54))
                  have n0_ := Aside0.mk (Kd.R_elder' (kr_ HO546) (Kd.R_base ho54) hb)
                  have n1_ := Aside0.mk (Kd.R_lower (Kd.R_newB (Kd.R_new' ho54 (Kd.R_lt (kr_ HO546))) (g := gb530) (o := .cells #[.string a2_0, .int .i64 a2_1, .int .i64 a2_2] 53 (0, 0)) (bk_ BK530)) (below_size (hg_ GE530)))
                  have n2_ := Aside0.mk (blk_below (g := gb530) (o := .cells #[.string a2_0, .int .i64 a2_1, .int .i64 a2_2] 53 (0, 0)) (bk_ BK530) hb)
                  have n3_ := Aside0.mk (below_step (hg_ GE530) hb)
                  clear HO546
                  clear BK530
                  clear HB
                  have HO546 := n0_
                  have HO536 := n1_
                  have BK530 := n2_
                  have HB := n3_
                  clear n0_ n1_ n2_ n3_
                  clear hb ho54
                  refine hK.out _ _ ⟨(blk_cell BK530.out 0).trans rfl, (blk_cell BK530.out 1).trans rfl, (blk_cell BK530.out 2).trans rfl⟩ (fun hHeld => ?_)
                  clear hK K
                  refine norm_ (a' := ?_) ?_ ?_
                  rotate_left
                  ·show Act.put _ (some 41) _ = _
                   simp only [Act.put, sT_, s0_, sS_, i64_w, i32_w]
                   rfl
                  refine one_ (i := 4) (N := some 45) #[T_,T_,T_,T_,T_,T_,T_,F_,T_,T_,T_,F_,F_] rfl rfl (one_of HT_.out (by kernel_rfl)) (by decide) (fun K hK => ?_)
                  refine Kd.R_append_rows_step k53 (w0 := w) w.heap.size (by rfl) (.tmp 41) (.tmp 44) 25 53 (.agg #[(.string ⟨#[]⟩), (.int .i64 0), (.int .i64 0)]) 32 rfl Try.underlying25 info53 rfl (by decide) (by omega) v535 y534 y537 _ _ _ (fun k_ => some k_ ≠ (v545 : Value).ownBlock ∧ k_ ≠ gb530) (fun _ => False) rfl rfl ?aO ?aR (fun _ _ h => h) (fun _ h => h.elim) ?aF ?aB ?aS ?aL ?_
                  (case aR => exact kc_ (Kd.C_below HR540.out HB.out))
                  (case aB => exact (hg_ GE530))
                  (case aF => exact (fun k_ hk => ⟨Kd.fresh' (Kd.R_lt (kr_ HO546)) k_ hk, Kd.freshB (g := gb530) (o := .cells #[.string a2_0, .int .i64 a2_1, .int .i64 a2_2] 53 (0, 0)) (bk_ BK530) k_ hk⟩))
                  (case aO => exact (by (with_reducible repeat (first | apply Kd.R_alloc | apply Kd.R_drewN | apply Kd.R_drew)); exact Kd.R_mono HO536.out (fun _ hk => ⟨hk.1.2, hk.2⟩)))
                  (case aS => exact (below_size (hg_ GE530)))
                  (case aL => have := LMc25.out; omega)
                  intro v542 w55 ho hb hg hat
                  rw [← Ny541.out] at ho
                  have n0_ := Aside0.mk (blk_grown (g := gb530) (o := .cells #[.string a2_0, .int .i64 a2_1, .int .i64 a2_2] 53 (0, 0)) (bk_ BK530) hg (Kd.R_away HO536.out (fun _ hk => hk.2)))
                  have n1_ := Aside0.mk (Kd.R_after (ok := (fun k_ => k_ ≠ gb530)) (by (with_reducible repeat (first | apply Kd.R_alloc | apply Kd.R_drewN | apply Kd.R_drew)); exact Kd.R_mono HO546.out (fun _ hk => ⟨hk.1.2, hk.2⟩)) hg hat)
                  have n2_ := Aside0.mk (hb)
                  have n3_ := Aside0.mk (ho)
                  clear BK530
                  clear HO546
                  clear HB
                  clear HO536
                  have BK530 := n0_
                  have HO546 := n1_
                  have HB := n2_
                  have HO543 := n3_
                  clear n0_ n1_ n2_ n3_
                  clear ho hb hg hat
                  refine hK.out _ _ ⟨(blk_cell BK530.out 0).trans rfl, (blk_cell BK530.out 1).trans rfl, (blk_cell BK530.out 2).trans rfl⟩ (fun hHeld => ?_)
                  clear hK K
                  refine norm_ (a' := ?_) ?_ ?_
                  rotate_left
                  ·show Act.put _ (some 45) _ = _
                   simp only [Act.put, sT_, s0_, sS_, i64_w, i32_w]
                   rfl
                  exact norm_ (by simp only [putAll, Act.put, List.setIfInBounds_toArray, List.set_cons_zero, List.set_cons_succ]) (hCont (v535, v542, v545) _ ⟨hHeld, (kr_ HO543), (by (with_reducible repeat (first | apply Kd.R_alloc | apply Kd.R_drewN | apply Kd.R_drew)); exact Kd.R_mono HO546.out (fun _ hk => ⟨hk.2, hk.1⟩)), (bk_ BK530), (hg_ GE530)⟩)
                rintro ⟨v535, v542, v545⟩ w56 ⟨hS_, h0_, h1_, h2_, h3_⟩
                have n0_ : Aside0 (Kd.R k53 53 w56 w.heap.size (fun k_ => some k_ ≠ (v545 : Value).ownBlock ∧ k_ ≠ gb530) v542 y541) := ⟨h0_⟩
                have n1_ : Aside0 (Kd.R k53 53 w56 w.heap.size (fun k_ => some k_ ≠ (v542 : Value).ownBlock ∧ k_ ≠ gb530) v545 y544) := ⟨h1_⟩
                have n2_ : Aside0 (w56.heap[gb530]? = some (.cells #[.string a2_0, .int .i64 a2_1, .int .i64 a2_2] 53 (0, 0))) := ⟨h2_⟩
                have n3_ : Aside0 (Below w.heap.size w w56) := ⟨h3_⟩
                clear BK530
                clear HB
                clear h0_ h1_ h2_ h3_
                have HO543 := n0_
                have HO546 := n1_
                have BK530 := n2_
                have HB := n3_
                clear n0_ n1_ n2_ n3_
                have hHeld : w56.cell? ⟨gb530, 0, none⟩ = some (.string a2_0) ∧ w56.cell? ⟨gb530, 1, none⟩ = some (.int .i64 a2_1) ∧ w56.cell? ⟨gb530, 2, none⟩ = some (.int .i64 a2_2) := hS_
                obtain ⟨Ao58, co58, eo58⟩ := Kd.R_slice HO546.out
                (first | subst eo58 | (injection eo58 with f1_ f2_ f3_; have f4_ := f1_.symm; have f5_ := f3_.symm; clear f1_ f2_ f3_; subst f4_; subst f5_))
                refine norm_ (a' := ?_) ?_ ?_
                rotate_left
                ·simp only [putAll, Act.put, List.setIfInBounds_toArray, List.set_cons_zero, List.set_cons_succ]
                 rfl
                refine one_ (i := 7) (N := some 48) #[T_,T_,T_,T_,T_,T_,T_,T_,T_,T_,T_,F_,F_] rfl rfl (one_of HT_.out (by kernel_rfl)) (by decide) (fun K hK => ?_)
                refine Kd.R_append_rows_step k53 (w0 := w) w.heap.size (by rfl) (.tmp 45) (.tmp 47) 25 53 (.agg #[(.string ⟨#[]⟩), (.int .i64 0), (.int .i64 0)]) 32 rfl Try.underlying25 info53 rfl (by decide) (by omega) v542 y541 y544 _ _ _ (fun k_ => some k_ ≠ (.slice Ao58 y544.length co58 : Value).ownBlock ∧ k_ ≠ gb530) (fun _ => False) rfl rfl ?aO ?aR (fun _ _ h => h) (fun _ h => h.elim) ?aF ?aB ?aS ?aL ?_
                (case aR => repeat (first | exact (Kd.R_reads' HO546.out).2.2 | (with_reducible refine Kd.C_alloc ?_ _) | (with_reducible refine Kd.C_drewN ?_ _) | (with_reducible refine Kd.C_drew ?_)))
                (case aB => exact (hg_ GE530))
                (case aF => exact (fun k_ hk => ⟨Kd.fresh' (Kd.R_lt (kr_ HO546)) k_ hk, Kd.freshB (g := gb530) (o := .cells #[.string a2_0, .int .i64 a2_1, .int .i64 a2_2] 53 (0, 0)) (bk_ BK530) k_ hk⟩))
                (case aO => exact (kr_ HO543))
                (case aS => exact (below_size (hg_ GE530)))
                (case aL => have := LMc26.out; omega)
                intro v548 w57 ho hb hg hat
                rw [← Ny547.out] at ho
                have n0_ := Aside0.mk (blk_grown (g := gb530) (o := .cells #[.string a2_0, .int .i64 a2_1, .int .i64 a2_2] 53 (0, 0)) (bk_ BK530) hg (Kd.R_away HO543.out (fun _ hk => hk.2)))
                have n1_ := Aside0.mk (Kd.R_after (ok := (fun k_ => k_ ≠ gb530)) (by (with_reducible repeat (first | apply Kd.R_alloc | apply Kd.R_drewN | apply Kd.R_drew)); exact Kd.R_mono HO546.out (fun _ hk => ⟨hk.2, hk.1⟩)) hg hat)
                have n2_ := Aside0.mk (hb)
                have n3_ := Aside0.mk (ho)
                clear BK530
                clear HO546
                clear HB
                clear HO543
                have BK530 := n0_
                have HO546 := n1_
                have HB := n2_
                have HO549 := n3_
                clear n0_ n1_ n2_ n3_
                clear ho hb hg hat
                refine hK.out _ _ ⟨(blk_cell BK530.out 0).trans rfl, (blk_cell BK530.out 1).trans rfl, (blk_cell BK530.out 2).trans rfl⟩ (fun hHeld => ?_)
                clear hK K
                refine norm_ (a' := ?_) ?_ ?_
                rotate_left
                ·show Act.put _ (some 48) _ = _
                 simp only [Act.put, sT_, s0_, sS_, i64_w, i32_w]
                 rfl
                refine one_ (i := 11) (N := some 52) #[T_,T_,T_,T_,T_,T_,T_,T_,T_,T_,T_,T_,F_] rfl rfl (one_of HT_.out (by kernel_rfl)) (by decide) (fun K hK => ?_)
                refine Kd.R_append_rows_step k53 (w0 := w) w.heap.size (by rfl) (.tmp 48) (.tmp 51) 25 53 (.agg #[(.string ⟨#[]⟩), (.int .i64 0), (.int .i64 0)]) 32 rfl Try.underlying25 info53 rfl (by decide) (by omega) v548 y547 y550 _ _ _ (fun k_ => some k_ ≠ (.slice Ao58 y544.length co58 : Value).ownBlock ∧ k_ ≠ gb530) (fun _ => False) rfl rfl ?aO ?aR (fun _ _ h => h) (fun _ h => h.elim) ?aF ?aB ?aS ?aL ?_
                (case aR => exact kc_ (Kd.C_below HR553.out HB.out))
                (case aB => exact (hg_ GE530))
                (case aF => exact (fun k_ hk => ⟨Kd.fresh' (Kd.R_lt (kr_ HO546)) k_ hk, Kd.freshB (g := gb530) (o := .cells #[.string a2_0, .int .i64 a2_1, .int .i64 a2_2] 53 (0, 0)) (bk_ BK530) k_ hk⟩))
                (case aO => exact (kr_ HO549))
                (case aS => exact (below_size (hg_ GE530)))
                (case aL => have := LMc29.out; omega)
                intro v555 w59 ho hb hg hat
                rw [← Ny554.out] at ho
                have n0_ := Aside0.mk (blk_grown (g := gb530) (o := .cells #[.string a2_0, .int .i64 a2_1, .int .i64 a2_2] 53 (0, 0)) (bk_ BK530) hg (Kd.R_away HO549.out (fun _ hk => hk.2)))
                have n1_ := Aside0.mk (Kd.R_after (ok := (fun k_ => k_ ≠ gb530)) (kr_ HO546) hg hat)
                have n2_ := Aside0.mk (hb)
                have n3_ := Aside0.mk (ho)
                clear BK530
                clear HO546
                clear HB
                clear HO549
                have BK530 := n0_
                have HO546 := n1_
                have HB := n2_
                have HO556 := n3_
                clear n0_ n1_ n2_ n3_
                clear ho hb hg hat
                refine hK.out _ _ ⟨(blk_cell BK530.out 0).trans rfl, (blk_cell BK530.out 1).trans rfl, (blk_cell BK530.out 2).trans rfl⟩ (fun hHeld => ?_)
                clear hK K
                refine norm_ (a' := ?_) ?_ ?_
                rotate_left
                ·show Act.put _ (some 52) _ = _
                 simp only [Act.put, sT_, s0_, sS_, i64_w, i32_w]
                 rfl
                refine pu (i := 12) (N := some 10) #[T_,T_,T_,T_,T_,T_,T_,T_,T_,T_,T_,T_,T_] HT_ ?_
                refine done_ (done_of HT_.out (by kernel_rfl)) ?_
                obtain ⟨Ao60, co60, eo60⟩ := Kd.R_slice HO556.out
                subst eo60
                try go_wp2_with (first | ((with_reducible refine gate_callee (f := 64) rfl ?_); refine goesL_ (some 55) rfl rfl Try.func64 (by kernel_rfl) rfl #[.slice A0 l0.length c0, .slice Ao60 y554.length co60] rfl ln_ ?_; (with_reducible refine (impl_areChecks.calls k1 _ _ l0 _ _ y554 false _ ?side1 ?side2 ?side3 ?side4 A30.out).mono ?_); (case side1 => exact kc_ (Kd.C_below HR0.out HB.out)); (case side2 => exact HC0.out); (case side3 => repeat (first | exact (Kd.R_reads' HO556.out).2.2 | (with_reducible refine Kd.C_alloc ?_ _) | (with_reducible refine Kd.C_drewN ?_ _) | (with_reducible refine Kd.C_drew ?_))); (case side4 => exact (Kd.R_reads' HO556.out).2.1); rintro e w61 ⟨rfl, hb⟩; refine ⟨_, rfl, ?_⟩; have n0_ := Aside0.mk (Kd.R_below (kr_ HO546) hb); have n1_ := Aside0.mk (Kd.R_below (kr_ HO556) hb); have n2_ := Aside0.mk (blk_below (g := gb530) (o := .cells #[.string a2_0, .int .i64 a2_1, .int .i64 a2_2] 53 (0, 0)) (bk_ BK530) hb); have n3_ := Aside0.mk (below_step (hg_ GE530) hb); clear HO546; clear HO556; clear BK530; clear HB; have HO546 := n0_; have HO556 := n1_; have BK530 := n2_; have HB := n3_; clear n0_ n1_ n2_ n3_; (try clear hb); (try clear hb2); (try clear hk); (try clear hi)))
                go_ret2
                exact ⟨_, by first | rfl | (simp [errW_none, errW_some] <;> rfl) | (simp only [← hji18]; first | rfl | (simp [errW_none, errW_some] <;> rfl)) | (simp [*, errW_none, errW_some] <;> rfl), by first | exact Kd.R_nil _ _ _ _ _ | exact Kd.N_nil _ _ _ _ _ | exact Kd.V_nil _ _ _ _ _ | exact Kd.Q_nil _ _ _ _ _ | exact Kd.S_nil _ _ _ _ _, (hg_ GE530)⟩
              ·rw [if_neg c29] at H
               exact absurd H (by simp)
             ·rw [if_neg c26] at H
              exact absurd H (by simp)
            ·rw [if_neg c25] at H
             exact absurd H (by simp)
           ·rw [if_neg c24] at H
            exact absurd H (by simp)
          ·rw [if_neg c23] at H
           exact absurd H (by simp)
        ·rw [if_neg c20] at H
         exact absurd H (by simp)
       ·rw [if_neg c19] at H
        exact absurd H (by simp)
      ·rw [if_neg c17] at H
       have c17b0 : decide (0 < x9_1) = false := decide_eq_false c17
       clear c17
       obtain ⟨y558, hy558⟩ : ∃ y_ : List (S53), y_ = (([] : List (S53))) := ⟨_, rfl⟩
       replace H : (if 0 ≤ x9_1 then (if x9_1 ≤ (l1.length : Int) then ((some (l1.take (x9_1 : Int).toNat : List (S53))).bind fun y561 => (if y558.length + y561.length < 4398046511104 then ((some (y558 ++ y561 : List (S53))).bind fun y565 => ((some (([(⟨a2_0, a2_1, a2_2⟩ : S53)] : List (S53)) : List (S53))).bind fun y568 => (if y565.length + y568.length < 4398046511104 then ((some (y565 ++ y568 : List (S53))).bind fun y571 => ((some (l1.drop (x9_1 : Int).toNat : List (S53))).bind fun y574 => (if y571.length + y574.length < 4398046511104 then ((some (y571 ++ y574 : List (S53))).bind fun y578 => ((impl_areChecks.f k1 l0 y578).bind fun t581 => (if t581 = true then (some (y578, 0)) else (some (([] : List (S53)), 9))))) else (none)))) else (none)))) else (none))) else (none)) else (none)) = some (r1, r2) := by first | (rw [hy558]; with_reducible exact H) | (have H2_ := (Option.bind_some _ _).symm.trans H; rw [hy558]; with_reducible exact H2_) | (have H2_ := (Option.bind_some _ _).symm.trans H; with_reducible exact H2_) | with_reducible exact H | (rw [hy558]; exact H) | exact H
       have Ny558 := Aside0.mk hy558
       clear hy558
       by_cases c62 : 0 ≤ x9_1
       ·rw [if_pos c62] at H
        have c62b0 := eq_true c62
        have c62b1 : decide (0 ≤ x9_1) = true := decide_eq_true c62
        clear c62
        by_cases c63 : x9_1 ≤ (l1.length : Int)
        ·rw [if_pos c63] at H
         have c63b0 := eq_true c63
         have c63b1 : decide (x9_1 ≤ (l1.length : Int)) = true := decide_eq_true c63
         clear c63
         obtain ⟨y561, hy561⟩ : ∃ y_ : List (S53), y_ = (l1.take (x9_1 : Int).toNat) := ⟨_, rfl⟩
         replace H : (if y558.length + y561.length < 4398046511104 then ((some (y558 ++ y561 : List (S53))).bind fun y565 => ((some (([(⟨a2_0, a2_1, a2_2⟩ : S53)] : List (S53)) : List (S53))).bind fun y568 => (if y565.length + y568.length < 4398046511104 then ((some (y565 ++ y568 : List (S53))).bind fun y571 => ((some (l1.drop (x9_1 : Int).toNat : List (S53))).bind fun y574 => (if y571.length + y574.length < 4398046511104 then ((some (y571 ++ y574 : List (S53))).bind fun y578 => ((impl_areChecks.f k1 l0 y578).bind fun t581 => (if t581 = true then (some (y578, 0)) else (some (([] : List (S53)), 9))))) else (none)))) else (none)))) else (none)) = some (r1, r2) := by first | (rw [hy561]; with_reducible exact H) | (have H2_ := (Option.bind_some _ _).symm.trans H; rw [hy561]; with_reducible exact H2_) | (have H2_ := (Option.bind_some _ _).symm.trans H; with_reducible exact H2_) | with_reducible exact H | (rw [hy561]; exact H) | exact H
         have Ny561 := Aside0.mk hy561
         clear hy561
         by_cases c64 : y558.length + y561.length < 4398046511104
         ·rw [if_pos c64] at H
          have LMc64 := Aside0.mk c64
          clear c64
          obtain ⟨y565, hy565⟩ : ∃ y_ : List (S53), y_ = (y558 ++ y561) := ⟨_, rfl⟩
          replace H : ((some (([(⟨a2_0, a2_1, a2_2⟩ : S53)] : List (S53)) : List (S53))).bind fun y568 => (if y565.length + y568.length < 4398046511104 then ((some (y565 ++ y568 : List (S53))).bind fun y571 => ((some (l1.drop (x9_1 : Int).toNat : List (S53))).bind fun y574 => (if y571.length + y574.length < 4398046511104 then ((some (y571 ++ y574 : List (S53))).bind fun y578 => ((impl_areChecks.f k1 l0 y578).bind fun t581 => (if t581 = true then (some (y578, 0)) else (some (([] : List (S53)), 9))))) else (none)))) else (none))) = some (r1, r2) := by first | (rw [hy565]; with_reducible exact H) | (have H2_ := (Option.bind_some _ _).symm.trans H; rw [hy565]; with_reducible exact H2_) | (have H2_ := (Option.bind_some _ _).symm.trans H; with_reducible exact H2_) | with_reducible exact H | (rw [hy565]; exact H) | exact H
          have Ny565 := Aside0.mk hy565
          clear hy565
          obtain ⟨y568, hy568⟩ : ∃ y_ : List (S53), y_ = (([(⟨a2_0, a2_1, a2_2⟩ : S53)] : List (S53))) := ⟨_, rfl⟩
          replace H : (if y565.length + y568.length < 4398046511104 then ((some (y565 ++ y568 : List (S53))).bind fun y571 => ((some (l1.drop (x9_1 : Int).toNat : List (S53))).bind fun y574 => (if y571.length + y574.length < 4398046511104 then ((some (y571 ++ y574 : List (S53))).bind fun y578 => ((impl_areChecks.f k1 l0 y578).bind fun t581 => (if t581 = true then (some (y578, 0)) else (some (([] : List (S53)), 9))))) else (none)))) else (none)) = some (r1, r2) := by first | (rw [hy568]; with_reducible exact H) | (have H2_ := (Option.bind_some _ _).symm.trans H; rw [hy568]; with_reducible exact H2_) | (have H2_ := (Option.bind_some _ _).symm.trans H; with_reducible exact H2_) | with_reducible exact H | (rw [hy568]; exact H) | exact H
          have Ny568 := Aside0.mk hy568
          clear hy568
          by_cases c65 : y565.length + y568.length < 4398046511104
          ·rw [if_pos c65] at H
           have LMc65 := Aside0.mk c65
           clear c65
           obtain ⟨y571, hy571⟩ : ∃ y_ : List (S53), y_ = (y565 ++ y568) := ⟨_, rfl⟩
           replace H : ((some (l1.drop (x9_1 : Int).toNat : List (S53))).bind fun y574 => (if y571.length + y574.length < 4398046511104 then ((some (y571 ++ y574 : List (S53))).bind fun y578 => ((impl_areChecks.f k1 l0 y578).bind fun t581 => (if t581 = true then (some (y578, 0)) else (some (([] : List (S53)), 9))))) else (none))) = some (r1, r2) := by first | (rw [hy571]; with_reducible exact H) | (have H2_ := (Option.bind_some _ _).symm.trans H; rw [hy571]; with_reducible exact H2_) | (have H2_ := (Option.bind_some _ _).symm.trans H; with_reducible exact H2_) | with_reducible exact H | (rw [hy571]; exact H) | exact H
           have Ny571 := Aside0.mk hy571
           clear hy571
           have c66b0 := eq_true (od_ : 0 ≤ x9_1)
           have c67b0 := eq_true (od_ : x9_1 ≤ (l1.length : Int))
           obtain ⟨y574, hy574⟩ : ∃ y_ : List (S53), y_ = (l1.drop (x9_1 : Int).toNat) := ⟨_, rfl⟩
           replace H : (if y571.length + y574.length < 4398046511104 then ((some (y571 ++ y574 : List (S53))).bind fun y578 => ((impl_areChecks.f k1 l0 y578).bind fun t581 => (if t581 = true then (some (y578, 0)) else (some (([] : List (S53)), 9))))) else (none)) = some (r1, r2) := by first | (rw [hy574]; with_reducible exact H) | (have H2_ := (Option.bind_some _ _).symm.trans H; rw [hy574]; with_reducible exact H2_) | (have H2_ := (Option.bind_some _ _).symm.trans H; with_reducible exact H2_) | with_reducible exact H | (rw [hy574]; exact H) | exact H
           have Ny574 := Aside0.mk hy574
           clear hy574
           by_cases c68 : y571.length + y574.length < 4398046511104
           ·rw [if_pos c68] at H
            have LMc68 := Aside0.mk c68
            clear c68
            obtain ⟨y578, hy578⟩ : ∃ y_ : List (S53), y_ = (y571 ++ y574) := ⟨_, rfl⟩
            replace H : ((impl_areChecks.f k1 l0 y578).bind fun t581 => (if t581 = true then (some (y578, 0)) else (some (([] : List (S53)), 9)))) = some (r1, r2) := by first | (rw [hy578]; with_reducible exact H) | (have H2_ := (Option.bind_some _ _).symm.trans H; rw [hy578]; with_reducible exact H2_) | (have H2_ := (Option.bind_some _ _).symm.trans H; with_reducible exact H2_) | with_reducible exact H | (rw [hy578]; exact H) | exact H
            have Ny578 := Aside0.mk hy578
            clear hy578
            replace H := Option.bind_eq_some_iff.mp H
            obtain ⟨t581, A690, H⟩ := H
            replace H : (if t581 = true then (some (y578, 0)) else (some (([] : List (S53)), 9))) = some (r1, r2) := H
            have A69 := Aside0.mk A690
            clear A690
            by_cases c70 : t581 = true
            ·subst c70
             have H1 : (some (y578, 0)) = some (r1, r2) := by rw [if_pos rfl] at H; exact H
             clear H
             have H := H1
             clear H1
             simp only [Option.some.injEq, Prod.mk.injEq] at H
             obtain ⟨rfl, rfl⟩ := H
             try go_wp2
             have n0_ := Aside0.mk (blk_drew BK530.out)
             have n1_ := Aside0.mk (below_drew1 HB.out)
             clear BK530
             clear HB
             have BK530 := n0_
             have HB := n1_
             clear n0_ n1_
             refine start_ (n := 13) (S := fun w' => True) (ds := []) #[F_,F_,F_,F_,F_,F_,F_,F_,F_,F_,F_,F_,F_] (by kernel_rfl) rfl rfl trivial (fun hHeld => ?_); refine with_tabW impl_AddCheck.tab9 impl_AddCheck.bits9 (fun HT_ HW_ => ?_)
             generalize wr.drew = w71 at BK530 HB hHeld ⊢
             refine pu (i := 0) (N := some 26) #[T_,F_,F_,F_,F_,F_,F_,F_,F_,F_,F_,F_,F_] HT_ ?_
             refine pu (i := 1) (N := some 27) #[T_,T_,F_,F_,F_,F_,F_,F_,F_,F_,F_,F_,F_] HT_ ?_
             refine pu (i := 2) (N := some 28) #[T_,T_,T_,F_,F_,F_,F_,F_,F_,F_,F_,F_,F_] HT_ ?_
             refine pn (i := 3) (N := some 29) #[T_,T_,T_,T_,F_,F_,F_,F_,F_,F_,F_,F_,F_] HT_ ?_
             refine pn (i := 4) (N := some 30) #[T_,T_,T_,T_,T_,F_,F_,F_,F_,F_,F_,F_,F_] HT_ ?_
             refine pn (i := 5) (N := some 31) #[T_,T_,T_,T_,T_,T_,F_,F_,F_,F_,F_,F_,F_] HT_ ?_
             refine pn (i := 6) (N := some 32) #[T_,T_,T_,T_,T_,T_,T_,F_,F_,F_,F_,F_,F_] HT_ ?_
             refine pn (i := 7) (N := some 33) #[T_,T_,T_,T_,T_,T_,T_,T_,F_,F_,F_,F_,F_] HT_ ?_
             refine pn (i := 8) (N := some 34) #[T_,T_,T_,T_,T_,T_,T_,T_,T_,F_,F_,F_,F_] HT_ ?_
             refine pn (i := 9) (N := some 35) #[T_,T_,T_,T_,T_,T_,T_,T_,T_,T_,F_,F_,F_] HT_ ?_
             refine pn (i := 10) (N := some 36) #[T_,T_,T_,T_,T_,T_,T_,T_,T_,T_,T_,F_,F_] HT_ ?_
             refine pn (i := 11) (N := some 37) #[T_,T_,T_,T_,T_,T_,T_,T_,T_,T_,T_,T_,F_] HT_ ?_
             refine pu (i := 12) (N := some 38) #[T_,T_,T_,T_,T_,T_,T_,T_,T_,T_,T_,T_,T_] HT_ ?_
             refine done_ (done_of HT_.out (by kernel_rfl)) ?_
             try go_wp2
             have n0_ := Aside0.mk (blk_drew BK530.out)
             have n1_ := Aside0.mk (below_drew1 HB.out)
             clear BK530
             clear HB
             have BK530 := n0_
             have HB := n1_
             clear n0_ n1_
             have q73 : (x9_1 : Int) ≤ ((l1.length : Int) : Int) := od_
             obtain ⟨i073, hi073, _, hsz73, _⟩ := info_parts info53
             have hroom73 : l1.length ≤ c1 := HC1.out
             have hC73 : Kd.C k53 _ A1 l1.length l1 := HR1.out
             have hcut73 := cut_to (P := Try.prog) 25 53 .i64 Try.underlying25 hi073 A1 l1.length c1 x9_1 (od_) q73 hroom73
             have hr73 := Kd.C_take (m := (x9_1 : Int).toNat) hC73 (by omega)
             have hy73 : y561.length = (x9_1 : Int).toNat := (by rw [Ny561.out, List.length_take]; omega)
             rw [← Ny561.out] at hr73
             rw [← hy73] at hcut73
             have HR564 := Aside0.mk hr73
             have HC564 := Aside0.mk (show y561.length ≤ c1 from by omega)
             clear hr73 hC73 hroom73 hi073 hsz73
             have KY73 := Aside0.mk hy73
             clear hy73
             replace q73 := eq_true q73
             have q74 : (x9_1 : Int) ≤ ((l1.length : Int) : Int) := od_
             obtain ⟨i074, hi074, _, hsz74, _⟩ := info_parts info53
             have hroom74 : l1.length ≤ c1 := HC1.out
             have hC74 : Kd.C k53 _ A1 l1.length l1 := HR1.out
             have q074 : (0 : Int) ≤ (x9_1 : Int) := od_
             have hcut74 := cut_from (P := Try.prog) 25 53 .i64 Try.underlying25 hi074 3 hsz74 A1 l1.length c1 x9_1 q074 q74
             have hr74 := Kd.C_drop (m := (x9_1 : Int).toNat) (c := c1) hC74 (by omega) hroom74
             obtain ⟨A74, hA74⟩ : ∃ Az_, Az_ = (if c1 = (x9_1 : Int).toNat then A1 else (A1 : Option Addr).map (·.add ((x9_1 : Int).toNat * 3))) := ⟨_, rfl⟩
             obtain ⟨c74, hc74⟩ : ∃ cz_, cz_ = c1 - (x9_1 : Int).toNat := ⟨_, rfl⟩
             have hy74 : y574.length = l1.length - (x9_1 : Int).toNat := (by rw [Ny574.out, List.length_drop] <;> omega)
             rw [show (l1).drop (x9_1 : Int).toNat = y574 from Ny574.out.symm] at hr74
             replace hr74 : Kd.C k53 _ A74 y574.length y574 := (by rw [hA74]; exact hr74)
             rw [← hy74, ← hA74, ← hc74] at hcut74
             have HR577 := Aside0.mk hr74
             have HC577 := Aside0.mk (show y574.length ≤ c74 from by rw [hy74, hc74]; exact Nat.sub_le_sub_right hroom74 _)
             clear hr74 hC74 hroom74 hi074 hsz74 hc74
             have KY74 := Aside0.mk hy74
             have KA74 := Aside0.mk hA74
             clear hy74 hA74
             replace q74 := eq_true q74
             refine start_ (n := 13) (S := fun w' => w'.cell? ⟨gb530, 0, none⟩ = some (.string a2_0) ∧ w'.cell? ⟨gb530, 1, none⟩ = some (.int .i64 a2_1) ∧ w'.cell? ⟨gb530, 2, none⟩ = some (.int .i64 a2_2)) (ds := []) #[F_,F_,F_,F_,F_,F_,F_,F_,F_,F_,F_,F_,F_] (by kernel_rfl) rfl rfl ⟨(blk_cell BK530.out 0).trans rfl, (blk_cell BK530.out 1).trans rfl, (blk_cell BK530.out 2).trans rfl⟩ (fun hHeld => ?_); refine with_tabW impl_AddCheck.tab11 impl_AddCheck.bits11 (fun HT_ HW_ => ?_)
             generalize w71.drew = w72 at BK530 HB HR564 HR577 hHeld ⊢
             refine pu (i := 1) (N := some 42) #[F_,T_,F_,F_,F_,F_,F_,F_,F_,F_,F_,F_,F_] HT_ ?_
             refine pu (i := 2) (N := some 43) #[F_,T_,T_,F_,F_,F_,F_,F_,F_,F_,F_,F_,F_] HT_ ?_
             refine pu (i := 3) (N := some 44) #[F_,T_,T_,T_,F_,F_,F_,F_,F_,F_,F_,F_,F_] HT_ ?_
             refine pu (i := 8) (N := some 49) #[F_,T_,T_,T_,F_,F_,F_,F_,T_,F_,F_,F_,F_] HT_ ?_
             refine pu (i := 9) (N := some 50) #[F_,T_,T_,T_,F_,F_,F_,F_,T_,T_,F_,F_,F_] HT_ ?_
             refine pu (i := 10) (N := some 51) #[F_,T_,T_,T_,F_,F_,F_,F_,T_,T_,T_,F_,F_] HT_ ?_
             refine take_ (i := 5) (N := some 46) (v := ?_) (a' := ?_) #[F_,T_,T_,T_,F_,T_,F_,F_,T_,T_,T_,F_,F_] rfl rfl (take_ofW HT_.out HW_.out (by kernel_rfl)) (fun _ _ _ h => h) (Or.inl ⟨by rfl, ?_⟩) hHeld ?_ ?_
             rotate_left
             ·rintro w' ⟨s0, s1, s2⟩
              go_simp
              with_reducible rfl
             rotate_left
             ·simp only [Act.put, sT_, s0_, sS_, i64_w, i32_w]
              rfl
             refine join_ (σ := Value × Value × Value) 3 #[T_,T_,T_,T_,T_,T_,T_,F_,T_,T_,T_,F_,F_] (fun s_ => [(41, s_.1), (45, s_.2.1), (47, s_.2.2)]) (fun s_ w' => (w'.cell? ⟨gb530, 0, none⟩ = some (.string a2_0) ∧ w'.cell? ⟨gb530, 1, none⟩ = some (.int .i64 a2_1) ∧ w'.cell? ⟨gb530, 2, none⟩ = some (.int .i64 a2_2)) ∧ (Kd.R k53 53 w' w.heap.size (fun k_ => some k_ ≠ (s_.2.2 : Value).ownBlock ∧ k_ ≠ gb530) s_.2.1 y565) ∧ (Kd.R k53 53 w' w.heap.size (fun k_ => some k_ ≠ (s_.2.1 : Value).ownBlock ∧ k_ ≠ gb530) s_.2.2 y568) ∧ (w'.heap[gb530]? = some (.cells #[.string a2_0, .int .i64 a2_1, .int .i64 a2_2] 53 (0, 0))) ∧ (Below w.heap.size w w')) ?_ ?_
             rotate_left
             ·intro hCont
              refine two_ (i := 0) (j := 6) (Ni := some 41) (Nj := some 47) #[T_,T_,T_,T_,F_,T_,F_,F_,T_,T_,T_,F_,F_] #[F_,T_,T_,T_,F_,T_,T_,F_,T_,T_,T_,F_,F_] rfl rfl rfl rfl (two_of HT_.out (by kernel_rfl)) (by decide) (by decide) (fun K hK => ?_) (fun K hK => ?_)
              ·skip
               refine Kd.R_lit_step k53 _ 53 ?hg (N := 41) ?hd (xs := ([] : List (S53))) (inner := []) (ok := fun _ => True) (okp := fun _ => True) ?hr ?hp (fun _ hk => hk) trivial (Below.refl _ _) (Nat.le_refl _) (by simp) ?_; (case hd => rfl); (case hg => rfl); (case hr => first | (go_simp; done) | (go_simp; rfl)); (case hp => exact (Reps.none _ _))
               intro v559 w75 ho76 hb hg_ hnew_
               clear hg_ hnew_
               (first | rw [← Ny558.out] at ho76 | (simp only [Int.reduceToNat] at ho76; rw [← Ny558.out] at ho76))
               have n0_ := Aside0.mk (Kd.R_lower (Kd.R_newB ho76 (g := gb530) (o := .cells #[.string a2_0, .int .i64 a2_1, .int .i64 a2_2] 53 (0, 0)) (bk_ BK530)) (below_size (hg_ GE530)))
               have n1_ := Aside0.mk (blk_below (g := gb530) (o := .cells #[.string a2_0, .int .i64 a2_1, .int .i64 a2_2] 53 (0, 0)) (bk_ BK530) hb)
               have n2_ := Aside0.mk (below_step (hg_ GE530) hb)
               clear BK530
               clear HB
               have HO560 := n0_
               have BK530 := n1_
               have HB := n2_
               clear n0_ n1_ n2_
               clear hb ho76
               refine hK.out _ _ ⟨(blk_cell BK530.out 0).trans rfl, (blk_cell BK530.out 1).trans rfl, (blk_cell BK530.out 2).trans rfl⟩ (fun hHeld => ?_)
               clear hK K
               refine norm_ (a' := ?_) ?_ ?_
               rotate_left
               ·show Act.put _ (some 41) _ = _
                simp only [Act.put, sT_, s0_, sS_, i64_w, i32_w]
                rfl
               refine two_ (i := 4) (j := 6) (Ni := some 45) (Nj := some 47) #[T_,T_,T_,T_,T_,T_,F_,F_,T_,T_,T_,F_,F_] #[T_,T_,T_,T_,F_,T_,T_,F_,T_,T_,T_,F_,F_] rfl rfl rfl rfl (two_of HT_.out (by kernel_rfl)) (by decide) (by decide) (fun K hK => ?_) (fun K hK => ?_)
               ·skip
                refine Kd.R_append_rows_step k53 (w0 := w) w.heap.size (by rfl) (.tmp 41) (.tmp 44) 25 53 (.agg #[(.string ⟨#[]⟩), (.int .i64 0), (.int .i64 0)]) 32 rfl Try.underlying25 info53 rfl (by decide) (by omega) v559 y558 y561 _ _ _ (fun k_ => k_ ≠ gb530) (fun _ => False) rfl rfl ?aO ?aR (fun _ _ h => h) (fun _ h => h.elim) ?aF ?aB ?aS ?aL ?_
                (case aR => exact kc_ (Kd.C_below HR564.out HB.out))
                (case aB => exact (hg_ GE530))
                (case aF => exact (fun k_ hk => Kd.freshB (g := gb530) (o := .cells #[.string a2_0, .int .i64 a2_1, .int .i64 a2_2] 53 (0, 0)) (bk_ BK530) k_ hk))
                (case aO => exact (by (with_reducible repeat (first | apply Kd.R_alloc | apply Kd.R_drewN | apply Kd.R_drew)); exact Kd.R_mono HO560.out (fun _ hk => hk.2)))
                (case aS => exact (below_size (hg_ GE530)))
                (case aL => have := LMc64.out; omega)
                intro v566 w77 ho hb hg hat
                rw [← Ny565.out] at ho
                have n0_ := Aside0.mk (blk_grown (g := gb530) (o := .cells #[.string a2_0, .int .i64 a2_1, .int .i64 a2_2] 53 (0, 0)) (bk_ BK530) hg (Kd.R_away HO560.out (fun _ hk => hk.2)))
                have n1_ := Aside0.mk (hb)
                have n2_ := Aside0.mk (ho)
                clear BK530
                clear HB
                clear HO560
                have BK530 := n0_
                have HB := n1_
                have HO567 := n2_
                clear n0_ n1_ n2_
                clear ho hb hg hat
                refine hK.out _ _ ⟨(blk_cell BK530.out 0).trans rfl, (blk_cell BK530.out 1).trans rfl, (blk_cell BK530.out 2).trans rfl⟩ (fun hHeld => ?_)
                clear hK K
                refine norm_ (a' := ?_) ?_ ?_
                rotate_left
                ·show Act.put _ (some 45) _ = _
                 simp only [Act.put, sT_, s0_, sS_, i64_w, i32_w]
                 rfl
                refine one_ (i := 6) (N := some 47) #[T_,T_,T_,T_,T_,T_,T_,F_,T_,T_,T_,F_,F_] rfl rfl (one_of HT_.out (by kernel_rfl)) (by decide) (fun K hK => ?_)
                refine Kd.R_lit_step k53 _ 53 ?hg (N := 47) ?hd (xs := ([(⟨a2_0, a2_1, a2_2⟩ : S53)] : List (S53))) (inner := [.string a2_0, .int .i64 a2_1, .int .i64 a2_2]) (ok := fun _ => True) (okp := fun _ => True) ?hr ?hp (fun _ hk => hk) trivial (Below.refl _ _) (Nat.le_refl _) (by simp) ?_; (case hd => rfl); (case hg => rfl); (case hr => first | (go_simp; done) | (go_simp; rfl)); (case hp => exact (Reps.c3 (show Kd.M k53 _ _ _ (⟨a2_0, a2_1, a2_2⟩ : S53) [.string a2_0, .int .i64 a2_1, .int .i64 a2_2] from (k53_mkM _ _ _ (⟨a2_0, a2_1, a2_2⟩ : S53) )) (Reps.none _ _)))
                intro v569 w78 ho79 hb hg_ hnew_
                clear hg_ hnew_
                (first | rw [← Ny568.out] at ho79 | (simp only [Int.reduceToNat] at ho79; rw [← Ny568.out] at ho79))
                have n0_ := Aside0.mk (Kd.R_elder' (kr_ HO567) (Kd.R_base ho79) hb)
                have n1_ := Aside0.mk (Kd.R_lower (Kd.R_newB (Kd.R_new' ho79 (Kd.R_lt (kr_ HO567))) (g := gb530) (o := .cells #[.string a2_0, .int .i64 a2_1, .int .i64 a2_2] 53 (0, 0)) (bk_ BK530)) (below_size (hg_ GE530)))
                have n2_ := Aside0.mk (blk_below (g := gb530) (o := .cells #[.string a2_0, .int .i64 a2_1, .int .i64 a2_2] 53 (0, 0)) (bk_ BK530) hb)
                have n3_ := Aside0.mk (below_step (hg_ GE530) hb)
                clear HO567
                clear BK530
                clear HB
                have HO567 := n0_
                have HO570 := n1_
                have BK530 := n2_
                have HB := n3_
                clear n0_ n1_ n2_ n3_
                clear hb ho79
                refine hK.out _ _ ⟨(blk_cell BK530.out 0).trans rfl, (blk_cell BK530.out 1).trans rfl, (blk_cell BK530.out 2).trans rfl⟩ (fun hHeld => ?_)
                clear hK K
                refine norm_ (a' := ?_) ?_ ?_
                rotate_left
                ·show Act.put _ (some 47) _ = _
                 simp only [Act.put, sT_, s0_, sS_, i64_w, i32_w]
                 rfl
                exact norm_ (by simp only [putAll, Act.put, List.setIfInBounds_toArray, List.set_cons_zero, List.set_cons_succ]) (hCont (v559, v566, v569) _ ⟨hHeld, (by (with_reducible repeat (first | apply Kd.R_alloc | apply Kd.R_drewN | apply Kd.R_drew)); exact Kd.R_mono HO567.out (fun _ hk => ⟨hk.2, hk.1⟩)), (by (with_reducible repeat (first | apply Kd.R_alloc | apply Kd.R_drewN | apply Kd.R_drew)); exact Kd.R_mono HO570.out (fun _ hk => ⟨hk.1.2, hk.2⟩)), (bk_ BK530), (hg_ GE530)⟩)
               ·skip
                refine Kd.R_lit_step k53 _ 53 ?hg (N := 47) ?hd (xs := ([(⟨a2_0, a2_1, a2_2⟩ : S53)] : List (S53))) (inner := [.string a2_0, .int .i64 a2_1, .int .i64 a2_2]) (ok := fun _ => True) (okp := fun _ => True) ?hr ?hp (fun _ hk => hk) trivial (Below.refl _ _) (Nat.le_refl _) (by simp) ?_; (case hd => rfl); (case hg => rfl); (case hr => first | (go_simp; done) | (go_simp; rfl)); (case hp => exact (Reps.c3 (show Kd.M k53 _ _ _ (⟨a2_0, a2_1, a2_2⟩ : S53) [.string a2_0, .int .i64 a2_1, .int .i64 a2_2] from (k53_mkM _ _ _ (⟨a2_0, a2_1, a2_2⟩ : S53) )) (Reps.none _ _)))
                intro v569 w77 ho78 hb hg_ hnew_
                clear hg_ hnew_
                (first | rw [← Ny568.out] at ho78 | (simp only [Int.reduceToNat] at ho78; rw [← Ny568.out] at ho78))
                have n0_ := Aside0.mk (Kd.R_elder' (kr_ HO560) (Kd.R_base ho78) hb)
                have n1_ := Aside0.mk (Kd.R_lower (Kd.R_newB (Kd.R_new' ho78 (Kd.R_lt (kr_ HO560))) (g := gb530) (o := .cells #[.string a2_0, .int .i64 a2_1, .int .i64 a2_2] 53 (0, 0)) (bk_ BK530)) (below_size (hg_ GE530)))
                have n2_ := Aside0.mk (blk_below (g := gb530) (o := .cells #[.string a2_0, .int .i64 a2_1, .int .i64 a2_2] 53 (0, 0)) (bk_ BK530) hb)
                have n3_ := Aside0.mk (below_step (hg_ GE530) hb)
                clear HO560
                clear BK530
                clear HB
                have HO560 := n0_
                have HO570 := n1_
                have BK530 := n2_
                have HB := n3_
                clear n0_ n1_ n2_ n3_
                clear hb ho78
                refine hK.out _ _ ⟨(blk_cell BK530.out 0).trans rfl, (blk_cell BK530.out 1).trans rfl, (blk_cell BK530.out 2).trans rfl⟩ (fun hHeld => ?_)
                clear hK K
                refine norm_ (a' := ?_) ?_ ?_
                rotate_left
                ·show Act.put _ (some 47) _ = _
                 simp only [Act.put, sT_, s0_, sS_, i64_w, i32_w]
                 rfl
                refine one_ (i := 4) (N := some 45) #[T_,T_,T_,T_,T_,T_,T_,F_,T_,T_,T_,F_,F_] rfl rfl (one_of HT_.out (by kernel_rfl)) (by decide) (fun K hK => ?_)
                refine Kd.R_append_rows_step k53 (w0 := w) w.heap.size (by rfl) (.tmp 41) (.tmp 44) 25 53 (.agg #[(.string ⟨#[]⟩), (.int .i64 0), (.int .i64 0)]) 32 rfl Try.underlying25 info53 rfl (by decide) (by omega) v559 y558 y561 _ _ _ (fun k_ => some k_ ≠ (v569 : Value).ownBlock ∧ k_ ≠ gb530) (fun _ => False) rfl rfl ?aO ?aR (fun _ _ h => h) (fun _ h => h.elim) ?aF ?aB ?aS ?aL ?_
                (case aR => exact kc_ (Kd.C_below HR564.out HB.out))
                (case aB => exact (hg_ GE530))
                (case aF => exact (fun k_ hk => ⟨Kd.fresh' (Kd.R_lt (kr_ HO570)) k_ hk, Kd.freshB (g := gb530) (o := .cells #[.string a2_0, .int .i64 a2_1, .int .i64 a2_2] 53 (0, 0)) (bk_ BK530) k_ hk⟩))
                (case aO => exact (by (with_reducible repeat (first | apply Kd.R_alloc | apply Kd.R_drewN | apply Kd.R_drew)); exact Kd.R_mono HO560.out (fun _ hk => ⟨hk.2, hk.1.2⟩)))
                (case aS => exact (below_size (hg_ GE530)))
                (case aL => have := LMc64.out; omega)
                intro v566 w79 ho hb hg hat
                rw [← Ny565.out] at ho
                have n0_ := Aside0.mk (blk_grown (g := gb530) (o := .cells #[.string a2_0, .int .i64 a2_1, .int .i64 a2_2] 53 (0, 0)) (bk_ BK530) hg (Kd.R_away HO560.out (fun _ hk => hk.1.2)))
                have n1_ := Aside0.mk (Kd.R_after (ok := (fun k_ => k_ ≠ gb530)) (by (with_reducible repeat (first | apply Kd.R_alloc | apply Kd.R_drewN | apply Kd.R_drew)); exact Kd.R_mono HO570.out (fun _ hk => ⟨hk.2, hk.1.2⟩)) hg hat)
                have n2_ := Aside0.mk (hb)
                have n3_ := Aside0.mk (ho)
                clear BK530
                clear HO570
                clear HB
                clear HO560
                have BK530 := n0_
                have HO570 := n1_
                have HB := n2_
                have HO567 := n3_
                clear n0_ n1_ n2_ n3_
                clear ho hb hg hat
                refine hK.out _ _ ⟨(blk_cell BK530.out 0).trans rfl, (blk_cell BK530.out 1).trans rfl, (blk_cell BK530.out 2).trans rfl⟩ (fun hHeld => ?_)
                clear hK K
                refine norm_ (a' := ?_) ?_ ?_
                rotate_left
                ·show Act.put _ (some 45) _ = _
                 simp only [Act.put, sT_, s0_, sS_, i64_w, i32_w]
                 rfl
                exact norm_ (by simp only [putAll, Act.put, List.setIfInBounds_toArray, List.set_cons_zero, List.set_cons_succ]) (hCont (v559, v566, v569) _ ⟨hHeld, (kr_ HO567), (by (with_reducible repeat (first | apply Kd.R_alloc | apply Kd.R_drewN | apply Kd.R_drew)); exact Kd.R_mono HO570.out (fun _ hk => ⟨hk.2, hk.1⟩)), (bk_ BK530), (hg_ GE530)⟩)
              ·skip
               refine Kd.R_lit_step k53 _ 53 ?hg (N := 47) ?hd (xs := ([(⟨a2_0, a2_1, a2_2⟩ : S53)] : List (S53))) (inner := [.string a2_0, .int .i64 a2_1, .int .i64 a2_2]) (ok := fun _ => True) (okp := fun _ => True) ?hr ?hp (fun _ hk => hk) trivial (Below.refl _ _) (Nat.le_refl _) (by simp) ?_; (case hd => rfl); (case hg => rfl); (case hr => first | (go_simp; done) | (go_simp; rfl)); (case hp => exact (Reps.c3 (show Kd.M k53 _ _ _ (⟨a2_0, a2_1, a2_2⟩ : S53) [.string a2_0, .int .i64 a2_1, .int .i64 a2_2] from (k53_mkM _ _ _ (⟨a2_0, a2_1, a2_2⟩ : S53) )) (Reps.none _ _)))
               intro v569 w75 ho76 hb hg_ hnew_
               clear hg_ hnew_
               (first | rw [← Ny568.out] at ho76 | (simp only [Int.reduceToNat] at ho76; rw [← Ny568.out] at ho76))
               have n0_ := Aside0.mk (Kd.R_lower (Kd.R_newB ho76 (g := gb530) (o := .cells #[.string a2_0, .int .i64 a2_1, .int .i64 a2_2] 53 (0, 0)) (bk_ BK530)) (below_size (hg_ GE530)))
               have n1_ := Aside0.mk (blk_below (g := gb530) (o := .cells #[.string a2_0, .int .i64 a2_1, .int .i64 a2_2] 53 (0, 0)) (bk_ BK530) hb)
               have n2_ := Aside0.mk (below_step (hg_ GE530) hb)
               clear BK530
               clear HB
               have HO570 := n0_
               have BK530 := n1_
               have HB := n2_
               clear n0_ n1_ n2_
               clear hb ho76
               refine hK.out _ _ ⟨(blk_cell BK530.out 0).trans rfl, (blk_cell BK530.out 1).trans rfl, (blk_cell BK530.out 2).trans rfl⟩ (fun hHeld => ?_)
               clear hK K
               refine norm_ (a' := ?_) ?_ ?_
               rotate_left
               ·show Act.put _ (some 47) _ = _
                simp only [Act.put, sT_, s0_, sS_, i64_w, i32_w]
                rfl
               refine one_ (i := 0) (N := some 41) #[T_,T_,T_,T_,F_,T_,T_,F_,T_,T_,T_,F_,F_] rfl rfl (one_of HT_.out (by kernel_rfl)) (by decide) (fun K hK => ?_)
               refine Kd.R_lit_step k53 _ 53 ?hg (N := 41) ?hd (xs := ([] : List (S53))) (inner := []) (ok := fun _ => True) (okp := fun _ => True) ?hr ?hp (fun _ hk => hk) trivial (Below.refl _ _) (Nat.le_refl _) (by simp) ?_; (case hd => rfl); (case hg => rfl); (case hr => first | (go_simp; done) | (go_simp; rfl)); (case hp => exact (Reps.none _ _))
               intro v559 w77 ho78 hb hg_ hnew_
               clear hg_ hnew_
               (first | rw [← Ny558.out] at ho78 | (simp only [Int.reduceToNat] at ho78; rw [← Ny558.out] at ho78))
               have n0_ := Aside0.mk (Kd.R_elder' (kr_ HO570) (Kd.R_base ho78) hb)
               have n1_ := Aside0.mk (Kd.R_lower (Kd.R_newB (Kd.R_new' ho78 (Kd.R_lt (kr_ HO570))) (g := gb530) (o := .cells #[.string a2_0, .int .i64 a2_1, .int .i64 a2_2] 53 (0, 0)) (bk_ BK530)) (below_size (hg_ GE530)))
               have n2_ := Aside0.mk (blk_below (g := gb530) (o := .cells #[.string a2_0, .int .i64 a2_1, .int .i64 a2_2] 53 (0, 0)) (bk_ BK530) hb)
               have n3_ := Aside0.mk (below_step (hg_ GE530) hb)
               clear HO570
               clear BK530
               clear HB
               have HO570 := n0_
               have HO560 := n1_
               have BK530 := n2_
               have HB := n3_
               clear n0_ n1_ n2_ n3_
               clear hb ho78
               refine hK.out _ _ ⟨(blk_cell BK530.out 0).trans rfl, (blk_cell BK530.out 1).trans rfl, (blk_cell BK530.out 2).trans rfl⟩ (fun hHeld => ?_)
               clear hK K
               refine norm_ (a' := ?_) ?_ ?_
               rotate_left
               ·show Act.put _ (some 41) _ = _
                simp only [Act.put, sT_, s0_, sS_, i64_w, i32_w]
                rfl
               refine one_ (i := 4) (N := some 45) #[T_,T_,T_,T_,T_,T_,T_,F_,T_,T_,T_,F_,F_] rfl rfl (one_of HT_.out (by kernel_rfl)) (by decide) (fun K hK => ?_)
               refine Kd.R_append_rows_step k53 (w0 := w) w.heap.size (by rfl) (.tmp 41) (.tmp 44) 25 53 (.agg #[(.string ⟨#[]⟩), (.int .i64 0), (.int .i64 0)]) 32 rfl Try.underlying25 info53 rfl (by decide) (by omega) v559 y558 y561 _ _ _ (fun k_ => some k_ ≠ (v569 : Value).ownBlock ∧ k_ ≠ gb530) (fun _ => False) rfl rfl ?aO ?aR (fun _ _ h => h) (fun _ h => h.elim) ?aF ?aB ?aS ?aL ?_
               (case aR => exact kc_ (Kd.C_below HR564.out HB.out))
               (case aB => exact (hg_ GE530))
               (case aF => exact (fun k_ hk => ⟨Kd.fresh' (Kd.R_lt (kr_ HO570)) k_ hk, Kd.freshB (g := gb530) (o := .cells #[.string a2_0, .int .i64 a2_1, .int .i64 a2_2] 53 (0, 0)) (bk_ BK530) k_ hk⟩))
               (case aO => exact (by (with_reducible repeat (first | apply Kd.R_alloc | apply Kd.R_drewN | apply Kd.R_drew)); exact Kd.R_mono HO560.out (fun _ hk => ⟨hk.1.2, hk.2⟩)))
               (case aS => exact (below_size (hg_ GE530)))
               (case aL => have := LMc64.out; omega)
               intro v566 w79 ho hb hg hat
               rw [← Ny565.out] at ho
               have n0_ := Aside0.mk (blk_grown (g := gb530) (o := .cells #[.string a2_0, .int .i64 a2_1, .int .i64 a2_2] 53 (0, 0)) (bk_ BK530) hg (Kd.R_away HO560.out (fun _ hk => hk.2)))
               have n1_ := Aside0.mk (Kd.R_after (ok := (fun k_ => k_ ≠ gb530)) (by (with_reducible repeat (first | apply Kd.R_alloc | apply Kd.R_drewN | apply Kd.R_drew)); exact Kd.R_mono HO570.out (fun _ hk => ⟨hk.1.2, hk.2⟩)) hg hat)
               have n2_ := Aside0.mk (hb)
               have n3_ := Aside0.mk (ho)
               clear BK530
               clear HO570
               clear HB
               clear HO560
               have BK530 := n0_
               have HO570 := n1_
               have HB := n2_
               have HO567 := n3_
               clear n0_ n1_ n2_ n3_
               clear ho hb hg hat
               refine hK.out _ _ ⟨(blk_cell BK530.out 0).trans rfl, (blk_cell BK530.out 1).trans rfl, (blk_cell BK530.out 2).trans rfl⟩ (fun hHeld => ?_)
               clear hK K
               refine norm_ (a' := ?_) ?_ ?_
               rotate_left
               ·show Act.put _ (some 45) _ = _
                simp only [Act.put, sT_, s0_, sS_, i64_w, i32_w]
                rfl
               exact norm_ (by simp only [putAll, Act.put, List.setIfInBounds_toArray, List.set_cons_zero, List.set_cons_succ]) (hCont (v559, v566, v569) _ ⟨hHeld, (kr_ HO567), (by (with_reducible repeat (first | apply Kd.R_alloc | apply Kd.R_drewN | apply Kd.R_drew)); exact Kd.R_mono HO570.out (fun _ hk => ⟨hk.2, hk.1⟩)), (bk_ BK530), (hg_ GE530)⟩)
             rintro ⟨v559, v566, v569⟩ w80 ⟨hS_, h0_, h1_, h2_, h3_⟩
             have n0_ : Aside0 (Kd.R k53 53 w80 w.heap.size (fun k_ => some k_ ≠ (v569 : Value).ownBlock ∧ k_ ≠ gb530) v566 y565) := ⟨h0_⟩
             have n1_ : Aside0 (Kd.R k53 53 w80 w.heap.size (fun k_ => some k_ ≠ (v566 : Value).ownBlock ∧ k_ ≠ gb530) v569 y568) := ⟨h1_⟩
             have n2_ : Aside0 (w80.heap[gb530]? = some (.cells #[.string a2_0, .int .i64 a2_1, .int .i64 a2_2] 53 (0, 0))) := ⟨h2_⟩
             have n3_ : Aside0 (Below w.heap.size w w80) := ⟨h3_⟩
             clear BK530
             clear HB
             clear h0_ h1_ h2_ h3_
             have HO567 := n0_
             have HO570 := n1_
             have BK530 := n2_
             have HB := n3_
             clear n0_ n1_ n2_ n3_
             have hHeld : w80.cell? ⟨gb530, 0, none⟩ = some (.string a2_0) ∧ w80.cell? ⟨gb530, 1, none⟩ = some (.int .i64 a2_1) ∧ w80.cell? ⟨gb530, 2, none⟩ = some (.int .i64 a2_2) := hS_
             obtain ⟨Ao82, co82, eo82⟩ := Kd.R_slice HO570.out
             (first | subst eo82 | (injection eo82 with f1_ f2_ f3_; have f4_ := f1_.symm; have f5_ := f3_.symm; clear f1_ f2_ f3_; subst f4_; subst f5_))
             refine norm_ (a' := ?_) ?_ ?_
             rotate_left
             ·simp only [putAll, Act.put, List.setIfInBounds_toArray, List.set_cons_zero, List.set_cons_succ]
              rfl
             refine one_ (i := 7) (N := some 48) #[T_,T_,T_,T_,T_,T_,T_,T_,T_,T_,T_,F_,F_] rfl rfl (one_of HT_.out (by kernel_rfl)) (by decide) (fun K hK => ?_)
             refine Kd.R_append_rows_step k53 (w0 := w) w.heap.size (by rfl) (.tmp 45) (.tmp 47) 25 53 (.agg #[(.string ⟨#[]⟩), (.int .i64 0), (.int .i64 0)]) 32 rfl Try.underlying25 info53 rfl (by decide) (by omega) v566 y565 y568 _ _ _ (fun k_ => some k_ ≠ (.slice Ao82 y568.length co82 : Value).ownBlock ∧ k_ ≠ gb530) (fun _ => False) rfl rfl ?aO ?aR (fun _ _ h => h) (fun _ h => h.elim) ?aF ?aB ?aS ?aL ?_
             (case aR => repeat (first | exact (Kd.R_reads' HO570.out).2.2 | (with_reducible refine Kd.C_alloc ?_ _) | (with_reducible refine Kd.C_drewN ?_ _) | (with_reducible refine Kd.C_drew ?_)))
             (case aB => exact (hg_ GE530))
             (case aF => exact (fun k_ hk => ⟨Kd.fresh' (Kd.R_lt (kr_ HO570)) k_ hk, Kd.freshB (g := gb530) (o := .cells #[.string a2_0, .int .i64 a2_1, .int .i64 a2_2] 53 (0, 0)) (bk_ BK530) k_ hk⟩))
             (case aO => exact (kr_ HO567))
             (case aS => exact (below_size (hg_ GE530)))
             (case aL => have := LMc65.out; omega)
             intro v572 w81 ho hb hg hat
             rw [← Ny571.out] at ho
             have n0_ := Aside0.mk (blk_grown (g := gb530) (o := .cells #[.string a2_0, .int .i64 a2_1, .int .i64 a2_2] 53 (0, 0)) (bk_ BK530) hg (Kd.R_away HO567.out (fun _ hk => hk.2)))
             have n1_ := Aside0.mk (Kd.R_after (ok := (fun k_ => k_ ≠ gb530)) (by (with_reducible repeat (first | apply Kd.R_alloc | apply Kd.R_drewN | apply Kd.R_drew)); exact Kd.R_mono HO570.out (fun _ hk => ⟨hk.2, hk.1⟩)) hg hat)
             have n2_ := Aside0.mk (hb)
             have n3_ := Aside0.mk (ho)
             clear BK530
             clear HO570
             clear HB
             clear HO567
             have BK530 := n0_
             have HO570 := n1_
             have HB := n2_
             have HO573 := n3_
             clear n0_ n1_ n2_ n3_
             clear ho hb hg hat
             refine hK.out _ _ ⟨(blk_cell BK530.out 0).trans rfl, (blk_cell BK530.out 1).trans rfl, (blk_cell BK530.out 2).trans rfl⟩ (fun hHeld => ?_)
             clear hK K
             refine norm_ (a' := ?_) ?_ ?_
             rotate_left
             ·show Act.put _ (some 48) _ = _
              simp only [Act.put, sT_, s0_, sS_, i64_w, i32_w]
              rfl
             refine one_ (i := 11) (N := some 52) #[T_,T_,T_,T_,T_,T_,T_,T_,T_,T_,T_,T_,F_] rfl rfl (one_of HT_.out (by kernel_rfl)) (by decide) (fun K hK => ?_)
             refine Kd.R_append_rows_step k53 (w0 := w) w.heap.size (by rfl) (.tmp 48) (.tmp 51) 25 53 (.agg #[(.string ⟨#[]⟩), (.int .i64 0), (.int .i64 0)]) 32 rfl Try.underlying25 info53 rfl (by decide) (by omega) v572 y571 y574 _ _ _ (fun k_ => some k_ ≠ (.slice Ao82 y568.length co82 : Value).ownBlock ∧ k_ ≠ gb530) (fun _ => False) rfl rfl ?aO ?aR (fun _ _ h => h) (fun _ h => h.elim) ?aF ?aB ?aS ?aL ?_
             (case aR => exact kc_ (Kd.C_below HR577.out HB.out))
             (case aB => exact (hg_ GE530))
             (case aF => exact (fun k_ hk => ⟨Kd.fresh' (Kd.R_lt (kr_ HO570)) k_ hk, Kd.freshB (g := gb530) (o := .cells #[.string a2_0, .int .i64 a2_1, .int .i64 a2_2] 53 (0, 0)) (bk_ BK530) k_ hk⟩))
             (case aO => exact (kr_ HO573))
             (case aS => exact (below_size (hg_ GE530)))
             (case aL => have := LMc68.out; omega)
             intro v579 w83 ho hb hg hat
             rw [← Ny578.out] at ho
             have n0_ := Aside0.mk (blk_grown (g := gb530) (o := .cells #[.string a2_0, .int .i64 a2_1, .int .i64 a2_2] 53 (0, 0)) (bk_ BK530) hg (Kd.R_away HO573.out (fun _ hk => hk.2)))
             have n1_ := Aside0.mk (Kd.R_after (ok := (fun k_ => k_ ≠ gb530)) (kr_ HO570) hg hat)
             have n2_ := Aside0.mk (hb)
             have n3_ := Aside0.mk (ho)
             clear BK530
             clear HO570
             clear HB
             clear HO573
             have BK530 := n0_
             have HO570 := n1_
             have HB := n2_
             have HO580 := n3_
             clear n0_ n1_ n2_ n3_
             clear ho hb hg hat
             refine hK.out _ _ ⟨(blk_cell BK530.out 0).trans rfl, (blk_cell BK530.out 1).trans rfl, (blk_cell BK530.out 2).trans rfl⟩ (fun hHeld => ?_)
             clear hK K
             refine norm_ (a' := ?_) ?_ ?_
             rotate_left
             ·show Act.put _ (some 52) _ = _
              simp only [Act.put, sT_, s0_, sS_, i64_w, i32_w]
              rfl
             refine pu (i := 12) (N := some 10) #[T_,T_,T_,T_,T_,T_,T_,T_,T_,T_,T_,T_,T_] HT_ ?_
             refine done_ (done_of HT_.out (by kernel_rfl)) ?_
             obtain ⟨Ao84, co84, eo84⟩ := Kd.R_slice HO580.out
             subst eo84
             try go_wp2_with (first | ((with_reducible refine gate_callee (f := 64) rfl ?_); refine goesL_ (some 55) rfl rfl Try.func64 (by kernel_rfl) rfl #[.slice A0 l0.length c0, .slice Ao84 y578.length co84] rfl ln_ ?_; (with_reducible refine (impl_areChecks.calls k1 _ _ l0 _ _ y578 true _ ?side1 ?side2 ?side3 ?side4 A69.out).mono ?_); (case side1 => exact kc_ (Kd.C_below HR0.out HB.out)); (case side2 => exact HC0.out); (case side3 => repeat (first | exact (Kd.R_reads' HO580.out).2.2 | (with_reducible refine Kd.C_alloc ?_ _) | (with_reducible refine Kd.C_drewN ?_ _) | (with_reducible refine Kd.C_drew ?_))); (case side4 => exact (Kd.R_reads' HO580.out).2.1); rintro e w85 ⟨rfl, hb⟩; refine ⟨_, rfl, ?_⟩; have n0_ := Aside0.mk (Kd.R_below (kr_ HO570) hb); have n1_ := Aside0.mk (Kd.R_below (kr_ HO580) hb); have n2_ := Aside0.mk (blk_below (g := gb530) (o := .cells #[.string a2_0, .int .i64 a2_1, .int .i64 a2_2] 53 (0, 0)) (bk_ BK530) hb); have n3_ := Aside0.mk (below_step (hg_ GE530) hb); clear HO570; clear HO580; clear BK530; clear HB; have HO570 := n0_; have HO580 := n1_; have BK530 := n2_; have HB := n3_; clear n0_ n1_ n2_ n3_; (try clear hb); (try clear hb2); (try clear hk); (try clear hi)))
             go_ret2
             exact ⟨_, ew_, by (with_reducible repeat (first | apply Kd.R_alloc | apply Kd.R_drewN | apply Kd.R_drew)); exact Kd.R_mono HO580.out (fun _ hk => trivial), (hg_ GE530)⟩
            ·replace c70 := Bool.eq_false_iff.mpr c70
             subst c70
             have H1 : (some (([] : List (S53)), 9)) = some (r1, r2) := by rw [if_neg (show ¬ (false = true) by decide)] at H; exact H
             clear H
             have H := H1
             clear H1
             simp only [Option.some.injEq, Prod.mk.injEq] at H
             obtain ⟨rfl, rfl⟩ := H
             try go_wp2
             have n0_ := Aside0.mk (blk_drew BK530.out)
             have n1_ := Aside0.mk (below_drew1 HB.out)
             clear BK530
             clear HB
             have BK530 := n0_
             have HB := n1_
             clear n0_ n1_
             refine start_ (n := 13) (S := fun w' => True) (ds := []) #[F_,F_,F_,F_,F_,F_,F_,F_,F_,F_,F_,F_,F_] (by kernel_rfl) rfl rfl trivial (fun hHeld => ?_); refine with_tabW impl_AddCheck.tab9 impl_AddCheck.bits9 (fun HT_ HW_ => ?_)
             generalize wr.drew = w86 at BK530 HB hHeld ⊢
             refine pu (i := 0) (N := some 26) #[T_,F_,F_,F_,F_,F_,F_,F_,F_,F_,F_,F_,F_] HT_ ?_
             refine pu (i := 1) (N := some 27) #[T_,T_,F_,F_,F_,F_,F_,F_,F_,F_,F_,F_,F_] HT_ ?_
             refine pu (i := 2) (N := some 28) #[T_,T_,T_,F_,F_,F_,F_,F_,F_,F_,F_,F_,F_] HT_ ?_
             refine pn (i := 3) (N := some 29) #[T_,T_,T_,T_,F_,F_,F_,F_,F_,F_,F_,F_,F_] HT_ ?_
             refine pn (i := 4) (N := some 30) #[T_,T_,T_,T_,T_,F_,F_,F_,F_,F_,F_,F_,F_] HT_ ?_
             refine pn (i := 5) (N := some 31) #[T_,T_,T_,T_,T_,T_,F_,F_,F_,F_,F_,F_,F_] HT_ ?_
             refine pn (i := 6) (N := some 32) #[T_,T_,T_,T_,T_,T_,T_,F_,F_,F_,F_,F_,F_] HT_ ?_
             refine pn (i := 7) (N := some 33) #[T_,T_,T_,T_,T_,T_,T_,T_,F_,F_,F_,F_,F_] HT_ ?_
             refine pn (i := 8) (N := some 34) #[T_,T_,T_,T_,T_,T_,T_,T_,T_,F_,F_,F_,F_] HT_ ?_
             refine pn (i := 9) (N := some 35) #[T_,T_,T_,T_,T_,T_,T_,T_,T_,T_,F_,F_,F_] HT_ ?_
             refine pn (i := 10) (N := some 36) #[T_,T_,T_,T_,T_,T_,T_,T_,T_,T_,T_,F_,F_] HT_ ?_
             refine pn (i := 11) (N := some 37) #[T_,T_,T_,T_,T_,T_,T_,T_,T_,T_,T_,T_,F_] HT_ ?_
             refine pu (i := 12) (N := some 38) #[T_,T_,T_,T_,T_,T_,T_,T_,T_,T_,T_,T_,T_] HT_ ?_
             refine done_ (done_of HT_.out (by kernel_rfl)) ?_
             try go_wp2
             have n0_ := Aside0.mk (blk_drew BK530.out)
             have n1_ := Aside0.mk (below_drew1 HB.out)
             clear BK530
             clear HB
             have BK530 := n0_
             have HB := n1_
             clear n0_ n1_
             have q88 : (x9_1 : Int) ≤ ((l1.length : Int) : Int) := od_
             obtain ⟨i088, hi088, _, hsz88, _⟩ := info_parts info53
             have hroom88 : l1.length ≤ c1 := HC1.out
             have hC88 : Kd.C k53 _ A1 l1.length l1 := HR1.out
             have hcut88 := cut_to (P := Try.prog) 25 53 .i64 Try.underlying25 hi088 A1 l1.length c1 x9_1 (od_) q88 hroom88
             have hr88 := Kd.C_take (m := (x9_1 : Int).toNat) hC88 (by omega)
             have hy88 : y561.length = (x9_1 : Int).toNat := (by rw [Ny561.out, List.length_take]; omega)
             rw [← Ny561.out] at hr88
             rw [← hy88] at hcut88
             have HR564 := Aside0.mk hr88
             have HC564 := Aside0.mk (show y561.length ≤ c1 from by omega)
             clear hr88 hC88 hroom88 hi088 hsz88
             have KY88 := Aside0.mk hy88
             clear hy88
             replace q88 := eq_true q88
             have q89 : (x9_1 : Int) ≤ ((l1.length : Int) : Int) := od_
             obtain ⟨i089, hi089, _, hsz89, _⟩ := info_parts info53
             have hroom89 : l1.length ≤ c1 := HC1.out
             have hC89 : Kd.C k53 _ A1 l1.length l1 := HR1.out
             have q089 : (0 : Int) ≤ (x9_1 : Int) := od_
             have hcut89 := cut_from (P := Try.prog) 25 53 .i64 Try.underlying25 hi089 3 hsz89 A1 l1.length c1 x9_1 q089 q89
             have hr89 := Kd.C_drop (m := (x9_1 : Int).toNat) (c := c1) hC89 (by omega) hroom89
             obtain ⟨A89, hA89⟩ : ∃ Az_, Az_ = (if c1 = (x9_1 : Int).toNat then A1 else (A1 : Option Addr).map (·.add ((x9_1 : Int).toNat * 3))) := ⟨_, rfl⟩
             obtain ⟨c89, hc89⟩ : ∃ cz_, cz_ = c1 - (x9_1 : Int).toNat := ⟨_, rfl⟩
             have hy89 : y574.length = l1.length - (x9_1 : Int).toNat := (by rw [Ny574.out, List.length_drop] <;> omega)
             rw [show (l1).drop (x9_1 : Int).toNat = y574 from Ny574.out.symm] at hr89
             replace hr89 : Kd.C k53 _ A89 y574.length y574 := (by rw [hA89]; exact hr89)
             rw [← hy89, ← hA89, ← hc89] at hcut89
             have HR577 := Aside0.mk hr89
             have HC577 := Aside0.mk (show y574.length ≤ c89 from by rw [hy89, hc89]; exact Nat.sub_le_sub_right hroom89 _)
             clear hr89 hC89 hroom89 hi089 hsz89 hc89
             have KY89 := Aside0.mk hy89
             have KA89 := Aside0.mk hA89
             clear hy89 hA89
             replace q89 := eq_true q89
             refine start_ (n := 13) (S := fun w' => w'.cell? ⟨gb530, 0, none⟩ = some (.string a2_0) ∧ w'.cell? ⟨gb530, 1, none⟩ = some (.int .i64 a2_1) ∧ w'.cell? ⟨gb530, 2, none⟩ = some (.int .i64 a2_2)) (ds := []) #[F_,F_,F_,F_,F_,F_,F_,F_,F_,F_,F_,F_,F_] (by kernel_rfl) rfl rfl ⟨(blk_cell BK530.out 0).trans rfl, (blk_cell BK530.out 1).trans rfl, (blk_cell BK530.out 2).trans rfl⟩ (fun hHeld => ?_); refine with_tabW impl_AddCheck.tab11 impl_AddCheck.bits11 (fun HT_ HW_ => ?_)
             generalize w86.drew = w87 at BK530 HB HR564 HR577 hHeld ⊢
             refine pu (i := 1) (N := some 42) #[F_,T_,F_,F_,F_,F_,F_,F_,F_,F_,F_,F_,F_] HT_ ?_
             refine pu (i := 2) (N := some 43) #[F_,T_,T_,F_,F_,F_,F_,F_,F_,F_,F_,F_,F_] HT_ ?_
             refine pu (i := 3) (N := some 44) #[F_,T_,T_,T_,F_,F_,F_,F_,F_,F_,F_,F_,F_] HT_ ?_
             refine pu (i := 8) (N := some 49) #[F_,T_,T_,T_,F_,F_,F_,F_,T_,F_,F_,F_,F_] HT_ ?_
             refine pu (i := 9) (N := some 50) #[F_,T_,T_,T_,F_,F_,F_,F_,T_,T_,F_,F_,F_] HT_ ?_
             refine pu (i := 10) (N := some 51) #[F_,T_,T_,T_,F_,F_,F_,F_,T_,T_,T_,F_,F_] HT_ ?_
             refine take_ (i := 5) (N := some 46) (v := ?_) (a' := ?_) #[F_,T_,T_,T_,F_,T_,F_,F_,T_,T_,T_,F_,F_] rfl rfl (take_ofW HT_.out HW_.out (by kernel_rfl)) (fun _ _ _ h => h) (Or.inl ⟨by rfl, ?_⟩) hHeld ?_ ?_
             rotate_left
             ·rintro w' ⟨s0, s1, s2⟩
              go_simp
              with_reducible rfl
             rotate_left
             ·simp only [Act.put, sT_, s0_, sS_, i64_w, i32_w]
              rfl
             refine join_ (σ := Value × Value × Value) 3 #[T_,T_,T_,T_,T_,T_,T_,F_,T_,T_,T_,F_,F_] (fun s_ => [(41, s_.1), (45, s_.2.1), (47, s_.2.2)]) (fun s_ w' => (w'.cell? ⟨gb530, 0, none⟩ = some (.string a2_0) ∧ w'.cell? ⟨gb530, 1, none⟩ = some (.int .i64 a2_1) ∧ w'.cell? ⟨gb530, 2, none⟩ = some (.int .i64 a2_2)) ∧ (Kd.R k53 53 w' w.heap.size (fun k_ => some k_ ≠ (s_.2.2 : Value).ownBlock ∧ k_ ≠ gb530) s_.2.1 y565) ∧ (Kd.R k53 53 w' w.heap.size (fun k_ => some k_ ≠ (s_.2.1 : Value).ownBlock ∧ k_ ≠ gb530) s_.2.2 y568) ∧ (w'.heap[gb530]? = some (.cells #[.string a2_0, .int .i64 a2_1, .int .i64 a2_2] 53 (0, 0))) ∧ (Below w.heap.size w w')) ?_ ?_
             rotate_left
             ·intro hCont
              refine two_ (i := 0) (j := 6) (Ni := some 41) (Nj := some 47) #[T_,T_,T_,T_,F_,T_,F_,F_,T_,T_,T_,F_,F_] #[F_,T_,T_,T_,F_,T_,T_,F_,T_,T_,T_,F_,F_] rfl rfl rfl rfl (two_of HT_.out (by kernel_rfl)) (by decide) (by decide) (fun K hK => ?_) (fun K hK => ?_)
              ·skip
               refine Kd.R_lit_step k53 _ 53 ?hg (N := 41) ?hd (xs := ([] : List (S53))) (inner := []) (ok := fun _ => True) (okp := fun _ => True) ?hr ?hp (fun _ hk => hk) trivial (Below.refl _ _) (Nat.le_refl _) (by simp) ?_; (case hd => rfl); (case hg => rfl); (case hr => first | (go_simp; done) | (go_simp; rfl)); (case hp => exact (Reps.none _ _))
               intro v559 w90 ho91 hb hg_ hnew_
               clear hg_ hnew_
               (first | rw [← Ny558.out] at ho91 | (simp only [Int.reduceToNat] at ho91; rw [← Ny558.out] at ho91))
               have n0_ := Aside0.mk (Kd.R_lower (Kd.R_newB ho91 (g := gb530) (o := .cells #[.string a2_0, .int .i64 a2_1, .int .i64 a2_2] 53 (0, 0)) (bk_ BK530)) (below_size (hg_ GE530)))
               have n1_ := Aside0.mk (blk_below (g := gb530) (o := .cells #[.string a2_0, .int .i64 a2_1, .int .i64 a2_2] 53 (0, 0)) (bk_ BK530) hb)
               have n2_ := Aside0.mk (below_step (hg_ GE530) hb)
               clear BK530
               clear HB
               have HO560 := n0_
               have BK530 := n1_
               have HB := n2_
               clear n0_ n1_ n2_
               clear hb ho91
               refine hK.out _ _ ⟨(blk_cell BK530.out 0).trans rfl, (blk_cell BK530.out 1).trans rfl, (blk_cell BK530.out 2).trans rfl⟩ (fun hHeld => ?_)
               clear hK K
               refine norm_ (a' := ?_) ?_ ?_
               rotate_left
               ·show Act.put _ (some 41) _ = _
                simp only [Act.put, sT_, s0_, sS_, i64_w, i32_w]
                rfl
               refine two_ (i := 4) (j := 6) (Ni := some 45) (Nj := some 47) #[T_,T_,T_,T_,T_,T_,F_,F_,T_,T_,T_,F_,F_] #[T_,T_,T_,T_,F_,T_,T_,F_,T_,T_,T_,F_,F_] rfl rfl rfl rfl (two_of HT_.out (by kernel_rfl)) (by decide) (by decide) (fun K hK => ?_) (fun K hK => ?_)
               ·skip
                refine Kd.R_append_rows_step k53 (w0 := w) w.heap.size (by rfl) (.tmp 41) (.tmp 44) 25 53 (.agg #[(.string ⟨#[]⟩), (.int .i64 0), (.int .i64 0)]) 32 rfl Try.underlying25 info53 rfl (by decide) (by omega) v559 y558 y561 _ _ _ (fun k_ => k_ ≠ gb530) (fun _ => False) rfl rfl ?aO ?aR (fun _ _ h => h) (fun _ h => h.elim) ?aF ?aB ?aS ?aL ?_
                (case aR => exact kc_ (Kd.C_below HR564.out HB.out))
                (case aB => exact (hg_ GE530))
                (case aF => exact (fun k_ hk => Kd.freshB (g := gb530) (o := .cells #[.string a2_0, .int .i64 a2_1, .int .i64 a2_2] 53 (0, 0)) (bk_ BK530) k_ hk))
                (case aO => exact (by (with_reducible repeat (first | apply Kd.R_alloc | apply Kd.R_drewN | apply Kd.R_drew)); exact Kd.R_mono HO560.out (fun _ hk => hk.2)))
                (case aS => exact (below_size (hg_ GE530)))
                (case aL => have := LMc64.out; omega)
                intro v566 w92 ho hb hg hat
                rw [← Ny565.out] at ho
                have n0_ := Aside0.mk (blk_grown (g := gb530) (o := .cells #[.string a2_0, .int .i64 a2_1, .int .i64 a2_2] 53 (0, 0)) (bk_ BK530) hg (Kd.R_away HO560.out (fun _ hk => hk.2)))
                have n1_ := Aside0.mk (hb)
                have n2_ := Aside0.mk (ho)
                clear BK530
                clear HB
                clear HO560
                have BK530 := n0_
                have HB := n1_
                have HO567 := n2_
                clear n0_ n1_ n2_
                clear ho hb hg hat
                refine hK.out _ _ ⟨(blk_cell BK530.out 0).trans rfl, (blk_cell BK530.out 1).trans rfl, (blk_cell BK530.out 2).trans rfl⟩ (fun hHeld => ?_)
                clear hK K
                refine norm_ (a' := ?_) ?_ ?_
                rotate_left
                ·show Act.put _ (some 45) _ = _
                 simp only [Act.put, sT_, s0_, sS_, i64_w, i32_w]
                 rfl
                refine one_ (i := 6) (N := some 47) #[T_,T_,T_,T_,T_,T_,T_,F_,T_,T_,T_,F_,F_] rfl rfl (one_of HT_.out (by kernel_rfl)) (by decide) (fun K hK => ?_)
                refine Kd.R_lit_step k53 _ 53 ?hg (N := 47) ?hd (xs := ([(⟨a2_0, a2_1, a2_2⟩ : S53)] : List (S53))) (inner := [.string a2_0, .int .i64 a2_1, .int .i64 a2_2]) (ok := fun _ => True) (okp := fun _ => True) ?hr ?hp (fun _ hk => hk) trivial (Below.refl _ _) (Nat.le_refl _) (by simp) ?_; (case hd => rfl); (case hg => rfl); (case hr => first | (go_simp; done) | (go_simp; rfl)); (case hp => exact (Reps.c3 (show Kd.M k53 _ _ _ (⟨a2_0, a2_1, a2_2⟩ : S53) [.string a2_0, .int .i64 a2_1, .int .i64 a2_2] from (k53_mkM _ _ _ (⟨a2_0, a2_1, a2_2⟩ : S53) )) (Reps.none _ _)))
                intro v569 w93 ho94 hb hg_ hnew_
                clear hg_ hnew_
                (first | rw [← Ny568.out] at ho94 | (simp only [Int.reduceToNat] at ho94; rw [← Ny568.out] at ho94))
                have n0_ := Aside0.mk (Kd.R_elder' (kr_ HO567) (Kd.R_base ho94) hb)
                have n1_ := Aside0.mk (Kd.R_lower (Kd.R_newB (Kd.R_new' ho94 (Kd.R_lt (kr_ HO567))) (g := gb530) (o := .cells #[.string a2_0, .int .i64 a2_1, .int .i64 a2_2] 53 (0, 0)) (bk_ BK530)) (below_size (hg_ GE530)))
                have n2_ := Aside0.mk (blk_below (g := gb530) (o := .cells #[.string a2_0, .int .i64 a2_1, .int .i64 a2_2] 53 (0, 0)) (bk_ BK530) hb)
                have n3_ := Aside0.mk (below_step (hg_ GE530) hb)
                clear HO567
                clear BK530
                clear HB
                have HO567 := n0_
                have HO570 := n1_
                have BK530 := n2_
                have HB := n3_
                clear n0_ n1_ n2_ n3_
                clear hb ho94
                refine hK.out _ _ ⟨(blk_cell BK530.out 0).trans rfl, (blk_cell BK530.out 1).trans rfl, (blk_cell BK530.out 2).trans rfl⟩ (fun hHeld => ?_)
                clear hK K
                refine norm_ (a' := ?_) ?_ ?_
                rotate_left
                ·show Act.put _ (some 47) _ = _
                 simp only [Act.put, sT_, s0_, sS_, i64_w, i32_w]
                 rfl
                exact norm_ (by simp only [putAll, Act.put, List.setIfInBounds_toArray, List.set_cons_zero, List.set_cons_succ]) (hCont (v559, v566, v569) _ ⟨hHeld, (by (with_reducible repeat (first | apply Kd.R_alloc | apply Kd.R_drewN | apply Kd.R_drew)); exact Kd.R_mono HO567.out (fun _ hk => ⟨hk.2, hk.1⟩)), (by (with_reducible repeat (first | apply Kd.R_alloc | apply Kd.R_drewN | apply Kd.R_drew)); exact Kd.R_mono HO570.out (fun _ hk => ⟨hk.1.2, hk.2⟩)), (bk_ BK530), (hg_ GE530)⟩)
               ·skip
                refine Kd.R_lit_step k53 _ 53 ?hg (N := 47) ?hd (xs := ([(⟨a2_0, a2_1, a2_2⟩ : S53)] : List (S53))) (inner := [.string a2_0, .int .i64 a2_1, .int .i64 a2_2]) (ok := fun _ => True) (okp := fun _ => True) ?hr ?hp (fun _ hk => hk) trivial (Below.refl _ _) (Nat.le_refl _) (by simp) ?_; (case hd => rfl); (case hg => rfl); (case hr => first | (go_simp; done) | (go_simp; rfl)); (case hp => exact (Reps.c3 (show Kd.M k53 _ _ _ (⟨a2_0, a2_1, a2_2⟩ : S53) [.string a2_0, .int .i64 a2_1, .int .i64 a2_2] from (k53_mkM _ _ _ (⟨a2_0, a2_1, a2_2⟩ : S53) )) (Reps.none _ _)))
                intro v569 w92 ho93 hb hg_ hnew_
                clear hg_ hnew_
                (first | rw [← Ny568.out] at ho93 | (simp only [Int.reduceToNat] at ho93; rw [← Ny568.out] at ho93))
                have n0_ := Aside0.mk (Kd.R_elder' (kr_ HO560) (Kd.R_base ho93) hb)
                have n1_ := Aside0.mk (Kd.R_lower (Kd.R_newB (Kd.R_new' ho93 (Kd.R_lt (kr_ HO560))) (g := gb530) (o := .cells #[.string a2_0, .int .i64 a2_1, .int .i64 a2_2] 53 (0, 0)) (bk_ BK530)) (below_size (hg_ GE530)))
                have n2_ := Aside0.mk (blk_below (g := gb530) (o := .cells #[.string a2_0, .int .i64 a2_1, .int .i64 a2_2] 53 (0, 0)) (bk_ BK530) hb)
                have n3_ := Aside0.mk (below_step (hg_ GE530) hb)
                clear HO560
                clear BK530
                clear HB
                have HO560 := n0_
                have HO570 := n1_
                have BK530 := n2_
                have HB := n3_
                clear n0_ n1_ n2_ n3_
                clear hb ho93
                refine hK.out _ _ ⟨(blk_cell BK530.out 0).trans rfl, (blk_cell BK530.out 1).trans rfl, (blk_cell BK530.out 2).trans rfl⟩ (fun hHeld => ?_)
                clear hK K
                refine norm_ (a' := ?_) ?_ ?_
                rotate_left
                ·show Act.put _ (some 47) _ = _
                 simp only [Act.put, sT_, s0_, sS_, i64_w, i32_w]
                 rfl
                refine one_ (i := 4) (N := some 45) #[T_,T_,T_,T_,T_,T_,T_,F_,T_,T_,T_,F_,F_] rfl rfl (one_of HT_.out (by kernel_rfl)) (by decide) (fun K hK => ?_)
                refine Kd.R_append_rows_step k53 (w0 := w) w.heap.size (by rfl) (.tmp 41) (.tmp 44) 25 53 (.agg #[(.string ⟨#[]⟩), (.int .i64 0), (.int .i64 0)]) 32 rfl Try.underlying25 info53 rfl (by decide) (by omega) v559 y558 y561 _ _ _ (fun k_ => some k_ ≠ (v569 : Value).ownBlock ∧ k_ ≠ gb530) (fun _ => False) rfl rfl ?aO ?aR (fun _ _ h => h) (fun _ h => h.elim) ?aF ?aB ?aS ?aL ?_
                (case aR => exact kc_ (Kd.C_below HR564.out HB.out))
                (case aB => exact (hg_ GE530))
                (case aF => exact (fun k_ hk => ⟨Kd.fresh' (Kd.R_lt (kr_ HO570)) k_ hk, Kd.freshB (g := gb530) (o := .cells #[.string a2_0, .int .i64 a2_1, .int .i64 a2_2] 53 (0, 0)) (bk_ BK530) k_ hk⟩))
                (case aO => exact (by (with_reducible repeat (first | apply Kd.R_alloc | apply Kd.R_drewN | apply Kd.R_drew)); exact Kd.R_mono HO560.out (fun _ hk => ⟨hk.2, hk.1.2⟩)))
                (case aS => exact (below_size (hg_ GE530)))
                (case aL => have := LMc64.out; omega)
                intro v566 w94 ho hb hg hat
                rw [← Ny565.out] at ho
                have n0_ := Aside0.mk (blk_grown (g := gb530) (o := .cells #[.string a2_0, .int .i64 a2_1, .int .i64 a2_2] 53 (0, 0)) (bk_ BK530) hg (Kd.R_away HO560.out (fun _ hk => hk.1.2)))
                have n1_ := Aside0.mk (Kd.R_after (ok := (fun k_ => k_ ≠ gb530)) (by (with_reducible repeat (first | apply Kd.R_alloc | apply Kd.R_drewN | apply Kd.R_drew)); exact Kd.R_mono HO570.out (fun _ hk => ⟨hk.2, hk.1.2⟩)) hg hat)
                have n2_ := Aside0.mk (hb)
                have n3_ := Aside0.mk (ho)
                clear BK530
                clear HO570
                clear HB
                clear HO560
                have BK530 := n0_
                have HO570 := n1_
                have HB := n2_
                have HO567 := n3_
                clear n0_ n1_ n2_ n3_
                clear ho hb hg hat
                refine hK.out _ _ ⟨(blk_cell BK530.out 0).trans rfl, (blk_cell BK530.out 1).trans rfl, (blk_cell BK530.out 2).trans rfl⟩ (fun hHeld => ?_)
                clear hK K
                refine norm_ (a' := ?_) ?_ ?_
                rotate_left
                ·show Act.put _ (some 45) _ = _
                 simp only [Act.put, sT_, s0_, sS_, i64_w, i32_w]
                 rfl
                exact norm_ (by simp only [putAll, Act.put, List.setIfInBounds_toArray, List.set_cons_zero, List.set_cons_succ]) (hCont (v559, v566, v569) _ ⟨hHeld, (kr_ HO567), (by (with_reducible repeat (first | apply Kd.R_alloc | apply Kd.R_drewN | apply Kd.R_drew)); exact Kd.R_mono HO570.out (fun _ hk => ⟨hk.2, hk.1⟩)), (bk_ BK530), (hg_ GE530)⟩)
              ·skip
               refine Kd.R_lit_step k53 _ 53 ?hg (N := 47) ?hd (xs := ([(⟨a2_0, a2_1, a2_2⟩ : S53)] : List (S53))) (inner := [.string a2_0, .int .i64 a2_1, .int .i64 a2_2]) (ok := fun _ => True) (okp := fun _ => True) ?hr ?hp (fun _ hk => hk) trivial (Below.refl _ _) (Nat.le_refl _) (by simp) ?_; (case hd => rfl); (case hg => rfl); (case hr => first | (go_simp; done) | (go_simp; rfl)); (case hp => exact (Reps.c3 (show Kd.M k53 _ _ _ (⟨a2_0, a2_1, a2_2⟩ : S53) [.string a2_0, .int .i64 a2_1, .int .i64 a2_2] from (k53_mkM _ _ _ (⟨a2_0, a2_1, a2_2⟩ : S53) )) (Reps.none _ _)))
               intro v569 w90 ho91 hb hg_ hnew_
               clear hg_ hnew_
               (first | rw [← Ny568.out] at ho91 | (simp only [Int.reduceToNat] at ho91; rw [← Ny568.out] at ho91))
               have n0_ := Aside0.mk (Kd.R_lower (Kd.R_newB ho91 (g := gb530) (o := .cells #[.string a2_0, .int .i64 a2_1, .int .i64 a2_2] 53 (0, 0)) (bk_ BK530)) (below_size (hg_ GE530)))
               have n1_ := Aside0.mk (blk_below (g := gb530) (o := .cells #[.string a2_0, .int .i64 a2_1, .int .i64 a2_2] 53 (0, 0)) (bk_ BK530) hb)
               have n2_ := Aside0.mk (below_step (hg_ GE530) hb)
               clear BK530
               clear HB
               have HO570 := n0_
               have BK530 := n1_
               have HB := n2_
               clear n0_ n1_ n2_
               clear hb ho91
               refine hK.out _ _ ⟨(blk_cell BK530.out 0).trans rfl, (blk_cell BK530.out 1).trans rfl, (blk_cell BK530.out 2).trans rfl⟩ (fun hHeld => ?_)
               clear hK K
               refine norm_ (a' := ?_) ?_ ?_
               rotate_left
               ·show Act.put _ (some 47) _ = _
                simp only [Act.put, sT_, s0_, sS_, i64_w, i32_w]
                rfl
               refine one_ (i := 0) (N := some 41) #[T_,T_,T_,T_,F_,T_,T_,F_,T_,T_,T_,F_,F_] rfl rfl (one_of HT_.out (by kernel_rfl)) (by decide) (fun K hK => ?_)
               refine Kd.R_lit_step k53 _ 53 ?hg (N := 41) ?hd (xs := ([] : List (S53))) (inner := []) (ok := fun _ => True) (okp := fun _ => True) ?hr ?hp (fun _ hk => hk) trivial (Below.refl _ _) (Nat.le_refl _) (by simp) ?_; (case hd => rfl); (case hg => rfl); (case hr => first | (go_simp; done) | (go_simp; rfl)); (case hp => exact (Reps.none _ _))
               intro v559 w92 ho93 hb hg_ hnew_
               clear hg_ hnew_
               (first | rw [← Ny558.out] at ho93 | (simp only [Int.reduceToNat] at ho93; rw [← Ny558.out] at ho93))
               have n0_ := Aside0.mk (Kd.R_elder' (kr_ HO570) (Kd.R_base ho93) hb)
               have n1_ := Aside0.mk (Kd.R_lower (Kd.R_newB (Kd.R_new' ho93 (Kd.R_lt (kr_ HO570))) (g := gb530) (o := .cells #[.string a2_0, .int .i64 a2_1, .int .i64 a2_2] 53 (0, 0)) (bk_ BK530)) (below_size (hg_ GE530)))
               have n2_ := Aside0.mk (blk_below (g := gb530) (o := .cells #[.string a2_0, .int .i64 a2_1, .int .i64 a2_2] 53 (0, 0)) (bk_ BK530) hb)
               have n3_ := Aside0.mk (below_step (hg_ GE530) hb)
               clear HO570
               clear BK530
               clear HB
               have HO570 := n0_
               have HO560 := n1_
               have BK530 := n2_
               have HB := n3_
               clear n0_ n1_ n2_ n3_
               clear hb ho93
               refine hK.out _ _ ⟨(blk_cell BK530.out 0).trans rfl, (blk_cell BK530.out 1).trans rfl, (blk_cell BK530.out 2).trans rfl⟩ (fun hHeld => ?_)
               clear hK K
               refine norm_ (a' := ?_) ?_ ?_
               rotate_left
               ·show Act.put _ (some 41) _ = _
                simp only [Act.put, sT_, s0_, sS_, i64_w, i32_w]
                rfl
               refine one_ (i := 4) (N := some 45) #[T_,T_,T_,T_,T_,T_,T_,F_,T_,T_,T_,F_,F_] rfl rfl (one_of HT_.out (by kernel_rfl)) (by decide) (fun K hK => ?_)
               refine Kd.R_append_rows_step k53 (w0 := w) w.heap.size (by rfl) (.tmp 41) (.tmp 44) 25 53 (.agg #[(.string ⟨#[]⟩), (.int .i64 0), (.int .i64 0)]) 32 rfl Try.underlying25 info53 rfl (by decide) (by omega) v559 y558 y561 _ _ _ (fun k_ => some k_ ≠ (v569 : Value).ownBlock ∧ k_ ≠ gb530) (fun _ => False) rfl rfl ?aO ?aR (fun _ _ h => h) (fun _ h => h.elim) ?aF ?aB ?aS ?aL ?_
               (case aR => exact kc_ (Kd.C_below HR564.out HB.out))
               (case aB => exact (hg_ GE530))
               (case aF => exact (fun k_ hk => ⟨Kd.fresh' (Kd.R_lt (kr_ HO570)) k_ hk, Kd.freshB (g := gb530) (o := .cells #[.string a2_0, .int .i64 a2_1, .int .i64 a2_2] 53 (0, 0)) (bk_ BK530) k_ hk⟩))
               (case aO => exact (by (with_reducible repeat (first | apply Kd.R_alloc | apply Kd.R_drewN | apply Kd.R_drew)); exact Kd.R_mono HO560.out (fun _ hk => ⟨hk.1.2, hk.2⟩)))
               (case aS => exact (below_size (hg_ GE530)))
               (case aL => have := LMc64.out; omega)
               intro v566 w94 ho hb hg hat
               rw [← Ny565.out] at ho
               have n0_ := Aside0.mk (blk_grown (g := gb530) (o := .cells #[.string a2_0, .int .i64 a2_1, .int .i64 a2_2] 53 (0, 0)) (bk_ BK530) hg (Kd.R_away HO560.out (fun _ hk => hk.2)))
               have n1_ := Aside0.mk (Kd.R_after (ok := (fun k_ => k_ ≠ gb530)) (by (with_reducible repeat (first | apply Kd.R_alloc | apply Kd.R_drewN | apply Kd.R_drew)); exact Kd.R_mono HO570.out (fun _ hk => ⟨hk.1.2, hk.2⟩)) hg hat)
               have n2_ := Aside0.mk (hb)
               have n3_ := Aside0.mk (ho)
               clear BK530
               clear HO570
               clear HB
               clear HO560
               have BK530 := n0_
               have HO570 := n1_
               have HB := n2_
               have HO567 := n3_
               clear n0_ n1_ n2_ n3_
               clear ho hb hg hat
               refine hK.out _ _ ⟨(blk_cell BK530.out 0).trans rfl, (blk_cell BK530.out 1).trans rfl, (blk_cell BK530.out 2).trans rfl⟩ (fun hHeld => ?_)
               clear hK K
               refine norm_ (a' := ?_) ?_ ?_
               rotate_left
               ·show Act.put _ (some 45) _ = _
                simp only [Act.put, sT_, s0_, sS_, i64_w, i32_w]
                rfl
               exact norm_ (by simp only [putAll, Act.put, List.setIfInBounds_toArray, List.set_cons_zero, List.set_cons_succ]) (hCont (v559, v566, v569) _ ⟨hHeld, (kr_ HO567), (by (with_reducible repeat (first | apply Kd.R_alloc | apply Kd.R_drewN | apply Kd.R_drew)); exact Kd.R_mono HO570.out (fun _ hk => ⟨hk.2, hk.1⟩)), (bk_ BK530), (hg_ GE530)⟩)
             rintro ⟨v559, v566, v569⟩ w95 ⟨hS_, h0_, h1_, h2_, h3_⟩
             have n0_ : Aside0 (Kd.R k53 53 w95 w.heap.size (fun k_ => some k_ ≠ (v569 : Value).ownBlock ∧ k_ ≠ gb530) v566 y565) := ⟨h0_⟩
             have n1_ : Aside0 (Kd.R k53 53 w95 w.heap.size (fun k_ => some k_ ≠ (v566 : Value).ownBlock ∧ k_ ≠ gb530) v569 y568) := ⟨h1_⟩
             have n2_ : Aside0 (w95.heap[gb530]? = some (.cells #[.string a2_0, .int .i64 a2_1, .int .i64 a2_2] 53 (0, 0))) := ⟨h2_⟩
             have n3_ : Aside0 (Below w.heap.size w w95) := ⟨h3_⟩
             clear BK530
             clear HB
             clear h0_ h1_ h2_ h3_
             have HO567 := n0_
             have HO570 := n1_
             have BK530 := n2_
             have HB := n3_
             clear n0_ n1_ n2_ n3_
             have hHeld : w95.cell? ⟨gb530, 0, none⟩ = some (.string a2_0) ∧ w95.cell? ⟨gb530, 1, none⟩ = some (.int .i64 a2_1) ∧ w95.cell? ⟨gb530, 2, none⟩ = some (.int .i64 a2_2) := hS_
             obtain ⟨Ao97, co97, eo97⟩ := Kd.R_slice HO570.out
             (first | subst eo97 | (injection eo97 with f1_ f2_ f3_; have f4_ := f1_.symm; have f5_ := f3_.symm; clear f1_ f2_ f3_; subst f4_; subst f5_))
             refine norm_ (a' := ?_) ?_ ?_
             rotate_left
             ·simp only [putAll, Act.put, List.setIfInBounds_toArray, List.set_cons_zero, List.set_cons_succ]
              rfl
             refine one_ (i := 7) (N := some 48) #[T_,T_,T_,T_,T_,T_,T_,T_,T_,T_,T_,F_,F_] rfl rfl (one_of HT_.out (by kernel_rfl)) (by decide) (fun K hK => ?_)
             refine Kd.R_append_rows_step k53 (w0 := w) w.heap.size (by rfl) (.tmp 45) (.tmp 47) 25 53 (.agg #[(.string ⟨#[]⟩), (.int .i64 0), (.int .i64 0)]) 32 rfl Try.underlying25 info53 rfl (by decide) (by omega) v566 y565 y568 _ _ _ (fun k_ => some k_ ≠ (.slice Ao97 y568.length co97 : Value).ownBlock ∧ k_ ≠ gb530) (fun _ => False) rfl rfl ?aO ?aR (fun _ _ h => h) (fun _ h => h.elim) ?aF ?aB ?aS ?aL ?_
             (case aR => repeat (first | exact (Kd.R_reads' HO570.out).2.2 | (with_reducible refine Kd.C_alloc ?_ _) | (with_reducible refine Kd.C_drewN ?_ _) | (with_reducible refine Kd.C_drew ?_)))
             (case aB => exact (hg_ GE530))
             (case aF => exact (fun k_ hk => ⟨Kd.fresh' (Kd.R_lt (kr_ HO570)) k_ hk, Kd.freshB (g := gb530) (o := .cells #[.string a2_0, .int .i64 a2_1, .int .i64 a2_2] 53 (0, 0)) (bk_ BK530) k_ hk⟩))
             (case aO => exact (kr_ HO567))
             (case aS => exact (below_size (hg_ GE530)))
             (case aL => have := LMc65.out; omega)
             intro v572 w96 ho hb hg hat
             rw [← Ny571.out] at ho
             have n0_ := Aside0.mk (blk_grown (g := gb530) (o := .cells #[.string a2_0, .int .i64 a2_1, .int .i64 a2_2] 53 (0, 0)) (bk_ BK530) hg (Kd.R_away HO567.out (fun _ hk => hk.2)))
             have n1_ := Aside0.mk (Kd.R_after (ok := (fun k_ => k_ ≠ gb530)) (by (with_reducible repeat (first | apply Kd.R_alloc | apply Kd.R_drewN | apply Kd.R_drew)); exact Kd.R_mono HO570.out (fun _ hk => ⟨hk.2, hk.1⟩)) hg hat)
             have n2_ := Aside0.mk (hb)
             have n3_ := Aside0.mk (ho)
             clear BK530
             clear HO570
             clear HB
             clear HO567
             have BK530 := n0_
             have HO570 := n1_
             have HB := n2_
             have HO573 := n3_
             clear n0_ n1_ n2_ n3_
             clear ho hb hg hat
             refine hK.out _ _ ⟨(blk_cell BK530.out 0).trans rfl, (blk_cell BK530.out 1).trans rfl, (blk_cell BK530.out 2).trans rfl⟩ (fun hHeld => ?_)
             clear hK K
             refine norm_ (a' := ?_) ?_ ?_
             rotate_left
             ·show Act.put _ (some 48) _ = _
              simp only [Act.put, sT_, s0_, sS_, i64_w, i32_w]
              rfl
             refine one_ (i := 11) (N := some 52) #[T_,T_,T_,T_,T_,T_,T_,T_,T_,T_,T_,T_,F_] rfl rfl (one_of HT_.out (by kernel_rfl)) (by decide) (fun K hK => ?_)
             refine Kd.R_append_rows_step k53 (w0 := w) w.heap.size (by rfl) (.tmp 48) (.tmp 51) 25 53 (.agg #[(.string ⟨#[]⟩), (.int .i64 0), (.int .i64 0)]) 32 rfl Try.underlying25 info53 rfl (by decide) (by omega) v572 y571 y574 _ _ _ (fun k_ => some k_ ≠ (.slice Ao97 y568.length co97 : Value).ownBlock ∧ k_ ≠ gb530) (fun _ => False) rfl rfl ?aO ?aR (fun _ _ h => h) (fun _ h => h.elim) ?aF ?aB ?aS ?aL ?_
             (case aR => exact kc_ (Kd.C_below HR577.out HB.out))
             (case aB => exact (hg_ GE530))
             (case aF => exact (fun k_ hk => ⟨Kd.fresh' (Kd.R_lt (kr_ HO570)) k_ hk, Kd.freshB (g := gb530) (o := .cells #[.string a2_0, .int .i64 a2_1, .int .i64 a2_2] 53 (0, 0)) (bk_ BK530) k_ hk⟩))
             (case aO => exact (kr_ HO573))
             (case aS => exact (below_size (hg_ GE530)))
             (case aL => have := LMc68.out; omega)
             intro v579 w98 ho hb hg hat
             rw [← Ny578.out] at ho
             have n0_ := Aside0.mk (blk_grown (g := gb530) (o := .cells #[.string a2_0, .int .i64 a2_1, .int .i64 a2_2] 53 (0, 0)) (bk_ BK530) hg (Kd.R_away HO573.out (fun _ hk => hk.2)))
             have n1_ := Aside0.mk (Kd.R_after (ok := (fun k_ => k_ ≠ gb530)) (kr_ HO570) hg hat)
             have n2_ := Aside0.mk (hb)
             have n3_ := Aside0.mk (ho)
             clear BK530
             clear HO570
             clear HB
             clear HO573
             have BK530 := n0_
             have HO570 := n1_
             have HB := n2_
             have HO580 := n3_
             clear n0_ n1_ n2_ n3_
             clear ho hb hg hat
             refine hK.out _ _ ⟨(blk_cell BK530.out 0).trans rfl, (blk_cell BK530.out 1).trans rfl, (blk_cell BK530.out 2).trans rfl⟩ (fun hHeld => ?_)
             clear hK K
             refine norm_ (a' := ?_) ?_ ?_
             rotate_left
             ·show Act.put _ (some 52) _ = _
              simp only [Act.put, sT_, s0_, sS_, i64_w, i32_w]
              rfl
             refine pu (i := 12) (N := some 10) #[T_,T_,T_,T_,T_,T_,T_,T_,T_,T_,T_,T_,T_] HT_ ?_
             refine done_ (done_of HT_.out (by kernel_rfl)) ?_
             obtain ⟨Ao99, co99, eo99⟩ := Kd.R_slice HO580.out
             subst eo99
             try go_wp2_with (first | ((with_reducible refine gate_callee (f := 64) rfl ?_); refine goesL_ (some 55) rfl rfl Try.func64 (by kernel_rfl) rfl #[.slice A0 l0.length c0, .slice Ao99 y578.length co99] rfl ln_ ?_; (with_reducible refine (impl_areChecks.calls k1 _ _ l0 _ _ y578 false _ ?side1 ?side2 ?side3 ?side4 A69.out).mono ?_); (case side1 => exact kc_ (Kd.C_below HR0.out HB.out)); (case side2 => exact HC0.out); (case side3 => repeat (first | exact (Kd.R_reads' HO580.out).2.2 | (with_reducible refine Kd.C_alloc ?_ _) | (with_reducible refine Kd.C_drewN ?_ _) | (with_reducible refine Kd.C_drew ?_))); (case side4 => exact (Kd.R_reads' HO580.out).2.1); rintro e w100 ⟨rfl, hb⟩; refine ⟨_, rfl, ?_⟩; have n0_ := Aside0.mk (Kd.R_below (kr_ HO570) hb); have n1_ := Aside0.mk (Kd.R_below (kr_ HO580) hb); have n2_ := Aside0.mk (blk_below (g := gb530) (o := .cells #[.string a2_0, .int .i64 a2_1, .int .i64 a2_2] 53 (0, 0)) (bk_ BK530) hb); have n3_ := Aside0.mk (below_step (hg_ GE530) hb); clear HO570; clear HO580; clear BK530; clear HB; have HO570 := n0_; have HO580 := n1_; have BK530 := n2_; have HB := n3_; clear n0_ n1_ n2_ n3_; (try clear hb); (try clear hb2); (try clear hk); (try clear hi)))
             go_ret2
             exact ⟨_, ew_, by first | exact Kd.R_nil _ _ _ _ _ | exact Kd.N_nil _ _ _ _ _ | exact Kd.V_nil _ _ _ _ _ | exact Kd.Q_nil _ _ _ _ _ | exact Kd.S_nil _ _ _ _ _, (hg_ GE530)⟩
           ·rw [if_neg c68] at H
            exact absurd H (by simp)
          ·rw [if_neg c65] at H
           exact absurd H (by simp)
         ·rw [if_neg c64] at H
          exact absurd H (by simp)
        ·rw [if_neg c63] at H
         exact absurd H (by simp)
       ·rw [if_neg c62] at H
        exact absurd H (by simp)
  ·replace c7 := Bool.eq_false_iff.mpr c7
   subst c7
   have H1 : (some (([] : List (S53)), 2)) = some (r1, r2) := by rw [if_neg (show ¬ (false = true) by decide)] at H; exact H
   clear H
   have H := H1
   clear H1
   simp only [Option.some.injEq, Prod.mk.injEq] at H
   obtain ⟨rfl, rfl⟩ := H
   go_enter Try.func40, Try.ntmps40
   go_wp2_with (first | ((with_reducible refine gate_dst (N := 5) rfl ?_); refine box_event ?hg (N := 5) ?hd (cs := #[.string a2_0, .int .i64 a2_1, .int .i64 a2_2]) (t := 53) ?hr ?_; (case hd => rfl); (case hg => rfl); (case hr => first | (go_simp; done) | (go_simp; rfl)); intro gb530 hg w101 hbox hb; have n0_ := Aside0.mk (below_step hb_ hb); have n1_ := Aside0.mk (hbox); have n2_ := Aside0.mk ((by rw [hg]; exact (below_size hb_) : w.heap.size ≤ gb530)); have n3_ := Aside0.mk ((by rw [hg]; exact (below_size hb_) : w.heap.size ≤ gb530)); clear HB; have HB := n0_; have BK530 := n1_; have GW530 := n2_; have GE530 := n3_; clear n0_ n1_ n2_ n3_; clear hb hbox hg) | ((with_reducible refine gate_callee (f := 71) rfl ?_); refine goesL_ (some 13) rfl rfl Try.func71 (by kernel_rfl) rfl #[.slice A0 l0.length c0, .slice A1 l1.length c1, .int .i64 0] rfl ln_ ?_; (with_reducible refine (impl_gearCode.calls k _ _ l0 _ _ l1 0 t531 _ ?side1 ?side2 ?side3 ?side4 A4.out).mono ?_); (case side1 => exact kc_ (Kd.C_below HR0.out HB.out)); (case side2 => exact HC0.out); (case side3 => exact kc_ (Kd.C_below HR1.out HB.out)); (case side4 => exact HC1.out); rintro e w102 ⟨rfl, hb⟩; refine ⟨_, rfl, ?_⟩; have n0_ := Aside0.mk (blk_below (g := gb530) (o := .cells #[.string a2_0, .int .i64 a2_1, .int .i64 a2_2] 53 (0, 0)) (bk_ BK530) hb); have n1_ := Aside0.mk (below_step (hg_ GE530) hb); clear BK530; clear HB; have BK530 := n0_; have HB := n1_; clear n0_ n1_; (try clear hb); (try clear hb2); (try clear hk); (try clear hi); have hcz103_0 : w102.cell? ⟨gb530, 0, none⟩ = some (.string a2_0) := (blk_cell BK530.out 0).trans rfl; have hcz103_1 : w102.cell? ⟨gb530, 1, none⟩ = some (.int .i64 a2_1) := (blk_cell BK530.out 1).trans rfl; have hcz103_2 : w102.cell? ⟨gb530, 2, none⟩ = some (.int .i64 a2_2) := (blk_cell BK530.out 2).trans rfl; have hfz103_0 := blk_frozen BK530.out 0; have hfz103_1 := blk_frozen BK530.out 1; have hfz103_2 := blk_frozen BK530.out 2) | ((with_reducible refine gate_callee (f := 76) rfl ?_); refine goesL_ (some 19) rfl rfl Try.func76 (by kernel_rfl) rfl #[.slice A0 l0.length c0, .agg #[.string a2_0, .int .i64 a2_1, .int .i64 a2_2]] rfl ln_ ?_; (with_reducible refine (impl_isCheck.calls _ _ l0 a2_0 a2_1 a2_2 false _ ?side1 ?side2 A6.out).mono ?_); (case side1 => exact kc_ (Kd.C_below HR0.out HB.out)); (case side2 => exact HC0.out); rintro e w104 ⟨rfl, hb⟩; refine ⟨_, rfl, ?_⟩; have n0_ := Aside0.mk (blk_below (g := gb530) (o := .cells #[.string a2_0, .int .i64 a2_1, .int .i64 a2_2] 53 (0, 0)) (bk_ BK530) hb); have n1_ := Aside0.mk (below_step (hg_ GE530) hb); clear BK530; clear HB; have BK530 := n0_; have HB := n1_; clear n0_ n1_; (try clear hb); (try clear hb2); (try clear hk); (try clear hi)))
   go_ret2
   exact ⟨_, ew_, by first | exact Kd.R_nil _ _ _ _ _ | exact Kd.N_nil _ _ _ _ _ | exact Kd.V_nil _ _ _ _ _ | exact Kd.Q_nil _ _ _ _ _ | exact Kd.S_nil _ _ _ _ _, (hg_ GE530)⟩
 ·rw [if_neg c5] at H
  have c5b0 : (t531 == 0) = false := beq_eq_false_iff_ne.mpr c5
  have c5b1 : (t531 != 0) = true := bne_iff_ne.mpr c5
  simp only [Option.some.injEq, Prod.mk.injEq] at H
  obtain ⟨rfl, rfl⟩ := H
  go_enter Try.func40, Try.ntmps40
  go_wp2_with (first | ((with_reducible refine gate_dst (N := 5) rfl ?_); refine box_event ?hg (N := 5) ?hd (cs := #[.string a2_0, .int .i64 a2_1, .int .i64 a2_2]) (t := 53) ?hr ?_; (case hd => rfl); (case hg => rfl); (case hr => first | (go_simp; done) | (go_simp; rfl)); intro gb530 hg w105 hbox hb; have n0_ := Aside0.mk (below_step hb_ hb); have n1_ := Aside0.mk (hbox); have n2_ := Aside0.mk ((by rw [hg]; exact (below_size hb_) : w.heap.size ≤ gb530)); have n3_ := Aside0.mk ((by rw [hg]; exact (below_size hb_) : w.heap.size ≤ gb530)); clear HB; have HB := n0_; have BK530 := n1_; have GW530 := n2_; have GE530 := n3_; clear n0_ n1_ n2_ n3_; clear hb hbox hg) | ((with_reducible refine gate_callee (f := 71) rfl ?_); refine goesL_ (some 13) rfl rfl Try.func71 (by kernel_rfl) rfl #[.slice A0 l0.length c0, .slice A1 l1.length c1, .int .i64 0] rfl ln_ ?_; (with_reducible refine (impl_gearCode.calls k _ _ l0 _ _ l1 0 t531 _ ?side1 ?side2 ?side3 ?side4 A4.out).mono ?_); (case side1 => exact kc_ (Kd.C_below HR0.out HB.out)); (case side2 => exact HC0.out); (case side3 => exact kc_ (Kd.C_below HR1.out HB.out)); (case side4 => exact HC1.out); rintro e w106 ⟨rfl, hb⟩; refine ⟨_, rfl, ?_⟩; have n0_ := Aside0.mk (blk_below (g := gb530) (o := .cells #[.string a2_0, .int .i64 a2_1, .int .i64 a2_2] 53 (0, 0)) (bk_ BK530) hb); have n1_ := Aside0.mk (below_step (hg_ GE530) hb); clear BK530; clear HB; have BK530 := n0_; have HB := n1_; clear n0_ n1_; (try clear hb); (try clear hb2); (try clear hk); (try clear hi)))
  go_ret2
  exact ⟨_, ew_, by first | exact Kd.R_nil _ _ _ _ _ | exact Kd.N_nil _ _ _ _ _ | exact Kd.V_nil _ _ _ _ _ | exact Kd.Q_nil _ _ _ _ _ | exact Kd.S_nil _ _ _ _ _, (hg_ GE530)⟩

end Go.Proofs.Ytdbigcfpinpnpaa.P
