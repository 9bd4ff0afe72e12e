-- Written by gprint.py (own program, over the printer of the kit) out of the translation. Lean checks it.
import Derived.Test.YtdbigcfpinpnpaaPx0
import Derived.Test.YtdbigcfpinpnpaaPx2
import Derived.Test.YtdbigcfpinpnpaaPx4
import Derived.Test.YtdbigcfpinpnpaaPx6
import Derived.Test.YtdbigcfpinpnpaaPx9
import Derived.Test.YtdbigcfpinpnpaaPx11
import Derived.Test.YtdbigcfpinpnpaaPx14
import Derived.Test.YtdbigcfpinpnpaaPx20
import Derived.Test.YtdbigcfpinpnpaaPx22
import Derived.Test.YtdbigcfpinpnpaaPx23
import Derived.Test.YtdbigcfpinpnpaaWPk
namespace Go.Proofs.Ytdbigcfpinpnpaa.P
open Go.RowKit Go.Proofs.YtdbigcfpinpnpaaW.PrintWords Go.Proofs.YtdbigcfpinpnpaaW.PrintLast Go.Proofs.YtdbigcfpinpnpaaW.PrintMore Go.Proofs.YtdbigcfpinpnpaaW.Pk
open Bool renaming true → T_, false → F_
open List renaming setIfInBounds_toArray → sT_, set_cons_zero → s0_, set_cons_succ → sS_
attribute [local go_sem] max2_int min2_int max_two min_two max_three min_three max_four min_four   -- for this text's walks alone
set_option linter.unusedVariables false
set_option linter.unusedSimpArgs false

/-! ### spec_FasterThanTold: function 51 -/
def spec_FasterThanTold.l0 : Nat → List (S73) → List (S53) → List ByteArray → Int → Option (List ByteArray × Int)
 | 0, _, _, _, _ => none
 | k + 1, x0, x1, x6, x7 => if x7 < (x0.length : Int) then (if 0 ≤ x7 then ((spec_l21Found.f k x1 ((rd_T73 x0 x7).f0)).bind fun bt817 => (if bt817.1 > (wrap64 (((rd_T73 x0 x7).f2) * bt817.2)) then (if x6.length < 8796093022208 then (spec_FasterThanTold.l0 k x0 x1 (x6 ++ [(rd_T73 x0 x7).f0]) (wrap64 (x7 + 1))) else (none)) else (spec_FasterThanTold.l0 k x0 x1 x6 (wrap64 (x7 + 1))))) else (none)) else (some (x6, 0))
def spec_FasterThanTold.f (k : Nat) (l0 : List (S73)) (l1 : List (S53)) : Option (List ByteArray × Int) := (spec_l21Checks.f k l0 l1).bind fun t812 => (if t812 = true then (spec_FasterThanTold.l0 k l0 l1 (([] : List ByteArray)) 0) else (some (([] : List ByteArray), 1)))
theorem spec_FasterThanTold.mono_l : ∀ k, (∀ y0 y1 y2 y3, LeO (spec_FasterThanTold.l0 k y0 y1 y2 y3) (spec_FasterThanTold.l0 (k + 1) y0 y1 y2 y3))
 | 0 => fun _ _ _ _ r h => by simp [spec_FasterThanTold.l0] at h
 | k + 1 => by
  have ih0 := spec_FasterThanTold.mono_l k
  ·intro y0 y1 y2 y3
   unfold spec_FasterThanTold.l0
   repeat' first
   | (with_reducible exact ih0 _ _ _ _)
   | (with_reducible exact spec_l21Checks.mono _ _ _)
   | (with_reducible exact spec_l21Found.mono _ _ _)
   | (with_reducible exact LeO.refl _)
   | (with_reducible exact LeO.none _)
   | (with_reducible refine LeO.ite ?_ ?_)
   | (with_reducible refine LeO.bind ?_ (fun _ => ?_))
   | exact ih0 _ _ _ _
   | exact spec_l21Checks.mono _ _ _
   | exact spec_l21Found.mono _ _ _
   | exact LeO.none _
   | refine LeO.ite ?_ ?_
   | refine LeO.bind ?_ (fun _ => ?_)
theorem spec_FasterThanTold.mono : ∀ a0 a1 k, LeO (spec_FasterThanTold.f k a0 a1) (spec_FasterThanTold.f (k + 1) a0 a1) := by
 intro a0 a1 k
 have ih0 := spec_FasterThanTold.mono_l k
 unfold spec_FasterThanTold.f
 repeat' first
   | (with_reducible exact ih0 _ _ _ _)
   | (with_reducible exact spec_l21Checks.mono _ _ _)
   | (with_reducible exact spec_l21Found.mono _ _ _)
   | (with_reducible exact LeO.refl _)
   | (with_reducible exact LeO.none _)
   | (with_reducible refine LeO.ite ?_ ?_)
   | (with_reducible refine LeO.bind ?_ (fun _ => ?_))
   | exact ih0 _ _ _ _
   | exact spec_l21Checks.mono _ _ _
   | exact spec_l21Found.mono _ _ _
   | exact LeO.none _
   | refine LeO.ite ?_ ?_
   | refine LeO.bind ?_ (fun _ => ?_)
set_option maxHeartbeats 8000000 in
set_option maxRecDepth 100000 in
theorem spec_FasterThanTold.calls (k : Nat) (A0 : Option Addr) (c0 : Nat) (l0 : List (S73)) (A1 : Option Addr) (c1 : Nat) (l1 : List (S53)) (r1 : List ByteArray) (r2 : Int) (w : World) (hr0 : Kd.C k73 w A0 l0.length l0) (hc0 : l0.length ≤ c0) (hr1 : Kd.C k53 w A1 l1.length l1) (hc1 : l1.length ≤ c1) (h : spec_FasterThanTold.f k l0 l1 = some (r1, r2)) :
  Calls Try.prog 51 #[.slice A0 l0.length c0, .slice A1 l1.length c1] w fun e w' => ∃ v0_ : Value, e = .returned (.tuple #[v0_, .int .i64 r2]) ∧ Kd.R Kd.string 9 w' w.heap.size (fun _ => True) v0_ r1 ∧ Below w.heap.size w w' := by
 have HR0 := Aside0.mk hr0
 have HC0 := Aside0.mk hc0
 clear hr0 hc0
 have HR1 := Aside0.mk hr1
 have HC1 := Aside0.mk hc1
 clear hr1 hc1
 have HB := Aside0.mk (Below.refl w.heap.size w)
 have H : ((spec_l21Checks.f k l0 l1).bind fun t812 => (if t812 = true then (spec_FasterThanTold.l0 k l0 l1 (([] : List ByteArray)) 0) else (some (([] : List ByteArray), 1)))) = some (r1, r2) := h
 clear h
 replace H := Option.bind_eq_some_iff.mp H
 obtain ⟨t812, A30, H⟩ := H
 replace H : (if t812 = true then (spec_FasterThanTold.l0 k l0 l1 (([] : List ByteArray)) 0) else (some (([] : List ByteArray), 1))) = some (r1, r2) := H
 have A3 := Aside0.mk A30
 clear A30
 by_cases c4 : t812 = true
 ·subst c4
  have H1 : (spec_FasterThanTold.l0 k l0 l1 (([] : List ByteArray)) 0) = some (r1, r2) := by rw [if_pos rfl] at H; exact H
  clear H
  have H := H1
  clear H1
  obtain ⟨y813, hy813⟩ : ∃ y_ : List ByteArray, y_ = (([] : List ByteArray)) := ⟨_, rfl⟩
  replace H : (spec_FasterThanTold.l0 k l0 l1 y813 0) = some (r1, r2) := by first | (rw [hy813]; with_reducible exact H) | (have H2_ := (Option.bind_some _ _).symm.trans H; rw [hy813]; with_reducible exact H2_) | (have H2_ := (Option.bind_some _ _).symm.trans H; with_reducible exact H2_) | with_reducible exact H | (rw [hy813]; exact H) | exact H
  have Ny813 := Aside0.mk hy813
  clear hy813
  have H' := Aside0.mk H
  clear H
  go_enter Try.func51, Try.ntmps51
  go_wp2_with (first | ((with_reducible refine gate_callee (f := 63) rfl ?_); refine goesL_ (some 12) rfl rfl Try.func63 (by kernel_rfl) rfl #[.slice A0 l0.length c0, .slice A1 l1.length c1] rfl ln_ ?_; (with_reducible refine (spec_l21Checks.calls k _ _ l0 _ _ l1 true _ ?side1 ?side2 ?side3 ?side4 A3.out).mono ?_); (case side1 => exact kc_ HR0.out); (case side2 => exact HC0.out); (case side3 => exact kc_ HR1.out); (case side4 => exact HC1.out); rintro e w5 ⟨rfl, hb⟩; refine ⟨_, rfl, ?_⟩; have n0_ := Aside0.mk (below_step hb_ hb); clear HB; have HB := n0_; clear n0_; (try clear hb); (try clear hb2); (try clear hk); (try clear hi)) | ((with_reducible refine gate_dst (N := 14) rfl ?_); refine Kd.R_lit Kd.string _ 9 ?hg (N := 14) ?hd (xs := ([] : List ByteArray)) (inner := []) (ok := fun _ => True) (okp := fun _ => True) ?hr ?hp (fun _ hk => hk) trivial (Below.refl _ _) (Nat.le_refl _) (by simp) ?_; (case hd => rfl); (case hg => rfl); (case hr => first | (go_simp; done) | (go_simp; rfl)); (case hp => exact (Reps.none _ _)); intro v814 w6 ho7 hb hg_ hnew_; clear hg_ hnew_; (first | rw [← Ny813.out] at ho7 | (simp only [Int.reduceToNat] at ho7; rw [← Ny813.out] at ho7)); have n0_ := Aside0.mk (Kd.R_lower ho7 (below_size hb_)); have n1_ := Aside0.mk (below_step hb_ hb); clear HB; have HO815 := n0_; have HB := n1_; clear n0_ n1_; clear hb ho7))
  go_loopg [6, 7] k (fun kq v6 v7 w' => ∃ (x6_1 : List ByteArray) (x7_1 : Int), v7 = .int .i64 x7_1 ∧ Aside0 (spec_FasterThanTold.l0 kq l0 l1 x6_1 x7_1 = some (r1, r2)) ∧ Aside0 (kq ≤ k) ∧ Aside0 (Kd.R Kd.string 9 w' w.heap.size (fun _ => True) v6 x6_1) ∧ Aside0 (Below w.heap.size w w'))
  case atStart => exact ⟨(y813), (0), (by first | rfl | (simp; done) | (simp [*]; done)), H', ⟨Nat.le_refl _⟩, ⟨by (with_reducible repeat (first | apply Kd.R_alloc | apply Kd.R_drewN | apply Kd.R_drew)); exact HO815.out⟩, ⟨hb_⟩⟩
  case round =>
   clear H'
   try clear c1
   try clear p2
   try clear c4
   try clear c5
   try clear c6
   obtain ⟨x6_1, x7_1, rfl, HA, HK1, HO_6, HB⟩ := hrel
   cases gk with
   | zero => exact absurd HA.out (by simp [spec_FasterThanTold.l0])
   | succ k1 =>
    have H := HA.out
    clear HA
    simp only [spec_FasterThanTold.l0] at H
    by_cases c8 : x7_1 < (l0.length : Int)
    ·rw [if_pos c8] at H
     have c8b0 : decide (x7_1 < (l0.length : Int)) = true := decide_eq_true c8
     clear c8
     by_cases c9 : 0 ≤ x7_1
     ·rw [if_pos c9] at H
      have c9b0 : decide (0 ≤ x7_1) = true := decide_eq_true c9
      clear c9
      replace H := Option.bind_eq_some_iff.mp H
      obtain ⟨⟨t817, t818⟩, A100, H⟩ := H
      replace H : (if t817 > (wrap64 (((rd_T73 l0 x7_1).f2) * t818)) then (if x6_1.length < 8796093022208 then (spec_FasterThanTold.l0 k1 l0 l1 (x6_1 ++ [(rd_T73 l0 x7_1).f0]) (wrap64 (x7_1 + 1))) else (none)) else (spec_FasterThanTold.l0 k1 l0 l1 x6_1 (wrap64 (x7_1 + 1)))) = some (r1, r2) := H
      have A10 := Aside0.mk A100
      clear A100
      by_cases c11 : t817 > (wrap64 (((rd_T73 l0 x7_1).f2) * t818))
      ·rw [if_pos c11] at H
       have c11b0 : decide ((wrap64 (((rd_T73 l0 x7_1).f2) * t818)) < t817) = true := decide_eq_true c11
       clear c11
       by_cases c12 : x6_1.length < 8796093022208
       ·rw [if_pos c12] at H
        have LMc12 := Aside0.mk c12
        clear c12
        obtain ⟨y821, hy821⟩ : ∃ y_ : List ByteArray, y_ = (x6_1 ++ [(rd_T73 l0 x7_1).f0]) := ⟨_, rfl⟩
        replace H : (spec_FasterThanTold.l0 k1 l0 l1 y821 (wrap64 (x7_1 + 1))) = some (r1, r2) := by first | (rw [hy821]; with_reducible exact H) | (have H2_ := (Option.bind_some _ _).symm.trans H; rw [hy821]; with_reducible exact H2_) | (have H2_ := (Option.bind_some _ _).symm.trans H; with_reducible exact H2_) | with_reducible exact H | (rw [hy821]; exact H) | exact H
        have Ny821 := Aside0.mk hy821
        clear hy821
        have H' := Aside0.mk H
        clear H
        have p816 : 0 ≤ (x7_1 : Int) := od_
        have q816 : x7_1 < (l0.length : Int) := od_
        obtain ⟨ad816, e816, hx816_0, hx816_1, hx816_2, hx816_3⟩ := at_T73 HR0.out x7_1 p816 q816
        cases e816
        replace hx816_0 := cq_ HB hx816_0
        replace hx816_1 := cq_ HB hx816_1
        replace hx816_2 := cq_ HB hx816_2
        replace hx816_3 := cq_ HB hx816_3
        replace p816 := eq_true p816
        replace q816 := eq_true q816
        go_wp2_with (first | ((with_reducible refine gate_callee (f := 79) rfl ?_); refine goesL_ (some 28) rfl rfl Try.func79 (by kernel_rfl) rfl #[.slice A1 l1.length c1, .string ((rd_T73 l0 x7_1).f0)] rfl ln_ ?_; (with_reducible refine (spec_l21Found.calls k1 _ _ l1 ((rd_T73 l0 x7_1).f0) t817 t818 _ ?side1 ?side2 A10.out).mono ?_); (case side1 => exact kc_ (Kd.C_below HR1.out HB.out)); (case side2 => exact HC1.out); rintro e w13 ⟨rfl, hb⟩; refine ⟨_, rfl, ?_⟩; have n0_ := Aside0.mk (Kd.R_below (kr_ HO_6) hb); have n1_ := Aside0.mk (below_step hb_ hb); clear HO_6; clear HB; have HO_6 := n0_; have HB := n1_; clear n0_ n1_; (try clear hb); (try clear hb2); (try clear hk); (try clear hi); have p819 : 0 ≤ (x7_1 : Int) := od_; have q819 : x7_1 < (l0.length : Int) := od_; obtain ⟨ad819, e819, hx819_0, hx819_1, hx819_2, hx819_3⟩ := at_T73 HR0.out x7_1 p819 q819; obtain rfl : ad816 = ad819 := (by injection e819); replace hx819_0 := cq_ HB hx819_0; replace hx819_1 := cq_ HB hx819_1; replace hx819_2 := cq_ HB hx819_2; replace hx819_3 := cq_ HB hx819_3; replace p819 := eq_true p819; replace q819 := eq_true q819; have p820 : 0 ≤ (x7_1 : Int) := od_; have q820 : x7_1 < (l0.length : Int) := od_; obtain ⟨ad820, e820, hx820_0, hx820_1, hx820_2, hx820_3⟩ := at_T73 HR0.out x7_1 p820 q820; obtain rfl : ad816 = ad820 := (by injection e820); replace hx820_0 := cq_ HB hx820_0; replace hx820_1 := cq_ HB hx820_1; replace hx820_2 := cq_ HB hx820_2; replace hx820_3 := cq_ HB hx820_3; replace p820 := eq_true p820; replace q820 := eq_true q820) | ((with_reducible refine gate_builtin (b := .append) (xs := #[.tmp 40, .tmp 46]) rfl ?_); at_builtin; refine Kd.R_append Kd.string (w0 := w) w.heap.size rfl (.tmp 40) (.tmp 46) 57 9 (.string ⟨#[]⟩) 16 rfl Try.underlying57 info9 rfl (by decide) (by omega) u6 x6_1 ((rd_T73 l0 x7_1).f0) [.string ((rd_T73 l0 x7_1).f0)] (fun _ => True) (fun _ => False) rfl rfl ?aP (fun _ hk => hk.elim) ?aF ?aO ?aB ?aS ?aL ?_; (case aP => exact rfl); (case aB => exact hb_); (case aF => exact (fun _ _ => trivial)); (case aO => exact (kr_ HO_6)); (case aS => exact (below_size hb_)); (case aL => have := LMc12.out; omega); intro v822 w14 ho hb hg hat; rw [← Ny821.out] at ho; have n0_ := Aside0.mk (hb); have n1_ := Aside0.mk (ho); clear HB; clear HO_6; have HB := n0_; have HO823 := n1_; clear n0_ n1_; clear ho hb hg hat))
        go_roundg k1
        case measure => have := HK1.out; omega
        case rel => exact ⟨(y821), (wrap64 (x7_1 + 1)), (by first | rfl | (simp; done) | (simp [*]; done)), H', ⟨by have := HK1.out; omega⟩, ⟨by (with_reducible repeat (first | apply Kd.R_alloc | apply Kd.R_drewN | apply Kd.R_drew)); exact HO823.out⟩, ⟨hb_⟩⟩
       ·rw [if_neg c12] at H
        exact absurd H (by simp)
      ·rw [if_neg c11] at H
       have c11b0 : decide ((wrap64 (((rd_T73 l0 x7_1).f2) * t818)) < t817) = false := decide_eq_false c11
       clear c11
       have H' := Aside0.mk H
       clear H
       have p816 : 0 ≤ (x7_1 : Int) := od_
       have q816 : x7_1 < (l0.length : Int) := od_
       obtain ⟨ad816, e816, hx816_0, hx816_1, hx816_2, hx816_3⟩ := at_T73 HR0.out x7_1 p816 q816
       cases e816
       replace hx816_0 := cq_ HB hx816_0
       replace hx816_1 := cq_ HB hx816_1
       replace hx816_2 := cq_ HB hx816_2
       replace hx816_3 := cq_ HB hx816_3
       replace p816 := eq_true p816
       replace q816 := eq_true q816
       go_wp2_with (first | ((with_reducible refine gate_callee (f := 79) rfl ?_); refine goesL_ (some 28) rfl rfl Try.func79 (by kernel_rfl) rfl #[.slice A1 l1.length c1, .string ((rd_T73 l0 x7_1).f0)] rfl ln_ ?_; (with_reducible refine (spec_l21Found.calls k1 _ _ l1 ((rd_T73 l0 x7_1).f0) t817 t818 _ ?side1 ?side2 A10.out).mono ?_); (case side1 => exact kc_ (Kd.C_below HR1.out HB.out)); (case side2 => exact HC1.out); rintro e w15 ⟨rfl, hb⟩; refine ⟨_, rfl, ?_⟩; have n0_ := Aside0.mk (Kd.R_below (kr_ HO_6) hb); have n1_ := Aside0.mk (below_step hb_ hb); clear HO_6; clear HB; have HO_6 := n0_; have HB := n1_; clear n0_ n1_; (try clear hb); (try clear hb2); (try clear hk); (try clear hi); have p819 : 0 ≤ (x7_1 : Int) := od_; have q819 : x7_1 < (l0.length : Int) := od_; obtain ⟨ad819, e819, hx819_0, hx819_1, hx819_2, hx819_3⟩ := at_T73 HR0.out x7_1 p819 q819; obtain rfl : ad816 = ad819 := (by injection e819); replace hx819_0 := cq_ HB hx819_0; replace hx819_1 := cq_ HB hx819_1; replace hx819_2 := cq_ HB hx819_2; replace hx819_3 := cq_ HB hx819_3; replace p819 := eq_true p819; replace q819 := eq_true q819))
       go_roundg k1
       case measure => have := HK1.out; omega
       case rel => exact ⟨(x6_1), (wrap64 (x7_1 + 1)), (by first | rfl | (simp; done) | (simp [*]; done)), H', ⟨by have := HK1.out; omega⟩, ⟨by (with_reducible repeat (first | apply Kd.R_alloc | apply Kd.R_drewN | apply Kd.R_drew)); exact HO_6.out⟩, ⟨hb_⟩⟩
     ·rw [if_neg c9] at H
      exact absurd H (by simp)
    ·rw [if_neg c8] at H
     have c8b0 : decide (x7_1 < (l0.length : Int)) = false := decide_eq_false c8
     clear c8
     simp only [Option.some.injEq, Prod.mk.injEq] at H
     obtain ⟨rfl, rfl⟩ := H
     go_wp2
     go_ret2
     exact ⟨_, ew_, by (with_reducible repeat (first | apply Kd.R_alloc | apply Kd.R_drewN | apply Kd.R_drew)); exact HO_6.out, hb_⟩
 ·replace c4 := Bool.eq_false_iff.mpr c4
  subst c4
  have H1 : (some (([] : List ByteArray), 1)) = some (r1, r2) := by rw [if_neg (show ¬ (false = true) by decide)] at H; exact H
  clear H
  have H := H1
  clear H1
  simp only [Option.some.injEq, Prod.mk.injEq] at H
  obtain ⟨rfl, rfl⟩ := H
  go_enter Try.func51, Try.ntmps51
  go_wp2_with (first | ((with_reducible refine gate_callee (f := 63) rfl ?_); refine goesL_ (some 12) rfl rfl Try.func63 (by kernel_rfl) rfl #[.slice A0 l0.length c0, .slice A1 l1.length c1] rfl ln_ ?_; (with_reducible refine (spec_l21Checks.calls k _ _ l0 _ _ l1 false _ ?side1 ?side2 ?side3 ?side4 A3.out).mono ?_); (case side1 => exact kc_ HR0.out); (case side2 => exact HC0.out); (case side3 => exact kc_ HR1.out); (case side4 => exact HC1.out); rintro e w16 ⟨rfl, hb⟩; refine ⟨_, rfl, ?_⟩; have n0_ := Aside0.mk (below_step hb_ hb); clear HB; have HB := n0_; clear n0_; (try clear hb); (try clear hb2); (try clear hk); (try clear hi)))
  go_ret2
  exact ⟨_, ew_, by first | exact Kd.R_nil _ _ _ _ _ | exact Kd.N_nil _ _ _ _ _ | exact Kd.V_nil _ _ _ _ _ | exact Kd.Q_nil _ _ _ _ _ | exact Kd.S_nil _ _ _ _ _, hb_⟩

/-! ### impl_FasterThanTold: function 52 -/
def impl_FasterThanTold.l0 : Nat → List (S53) → List ByteArray → List (S73) → Int → Int → Option (List ByteArray × Int)
 | 0, _, _, _, _, _ => none
 | k + 1, x1, x7, x20, x21, x22 => if x22 < x21 then (if 0 ≤ x22 then (if x22 < (x20.length : Int) then ((impl_checksOf.f k x1 ((rd_T73 x20 x22).f0)).bind fun t830 => (if (t830.length : Int) < 2 then (impl_FasterThanTold.l0 k x1 x7 x20 x21 (wrap64 (x22 + 1))) else ((impl_foundOf.f t830).bind fun bt833 => (if bt833.1 > (wrap64 (((rd_T73 x20 x22).f2) * bt833.2)) then (if x7.length < 8796093022208 then (impl_FasterThanTold.l0 k x1 (x7 ++ [(rd_T73 x20 x22).f0]) x20 x21 (wrap64 (x22 + 1))) else (none)) else (impl_FasterThanTold.l0 k x1 x7 x20 x21 (wrap64 (x22 + 1))))))) else (none)) else (none)) else (some (x7, 0))
def impl_FasterThanTold.f (k : Nat) (l0 : List (S73)) (l1 : List (S53)) : Option (List ByteArray × Int) := (impl_gearCode.f k l0 l1 0).bind fun t824 => (if t824 = 0 then (impl_FasterThanTold.l0 k l1 (([] : List ByteArray)) l0 (l0.length : Int) 0) else (some (([] : List ByteArray), t824)))
theorem impl_FasterThanTold.mono_l : ∀ k, (∀ y0 y1 y2 y3 y4, LeO (impl_FasterThanTold.l0 k y0 y1 y2 y3 y4) (impl_FasterThanTold.l0 (k + 1) y0 y1 y2 y3 y4))
 | 0 => fun _ _ _ _ _ r h => by simp [impl_FasterThanTold.l0] at h
 | k + 1 => by
  have ih0 := impl_FasterThanTold.mono_l k
  ·intro y0 y1 y2 y3 y4
   unfold impl_FasterThanTold.l0
   repeat' first
   | (with_reducible exact ih0 _ _ _ _ _)
   | (with_reducible exact impl_checksOf.mono _ _ _)
   | (with_reducible exact impl_gearCode.mono _ _ _ _)
   | (with_reducible exact LeO.refl _)
   | (with_reducible exact LeO.none _)
   | (with_reducible refine LeO.ite ?_ ?_)
   | (with_reducible refine LeO.bind ?_ (fun _ => ?_))
   | exact ih0 _ _ _ _ _
   | exact impl_checksOf.mono _ _ _
   | exact impl_gearCode.mono _ _ _ _
   | exact LeO.none _
   | refine LeO.ite ?_ ?_
   | refine LeO.bind ?_ (fun _ => ?_)
theorem impl_FasterThanTold.mono : ∀ a0 a1 k, LeO (impl_FasterThanTold.f k a0 a1) (impl_FasterThanTold.f (k + 1) a0 a1) := by
 intro a0 a1 k
 have ih0 := impl_FasterThanTold.mono_l k
 unfold impl_FasterThanTold.f
 repeat' first
   | (with_reducible exact ih0 _ _ _ _ _)
   | (with_reducible exact impl_checksOf.mono _ _ _)
   | (with_reducible exact impl_gearCode.mono _ _ _ _)
   | (with_reducible exact LeO.refl _)
   | (with_reducible exact LeO.none _)
   | (with_reducible refine LeO.ite ?_ ?_)
   | (with_reducible refine LeO.bind ?_ (fun _ => ?_))
   | exact ih0 _ _ _ _ _
   | exact impl_checksOf.mono _ _ _
   | exact impl_gearCode.mono _ _ _ _
   | exact LeO.none _
   | refine LeO.ite ?_ ?_
   | refine LeO.bind ?_ (fun _ => ?_)
set_option maxHeartbeats 8000000 in
set_option maxRecDepth 100000 in
theorem impl_FasterThanTold.calls (k : Nat) (A0 : Option Addr) (c0 : Nat) (l0 : List (S73)) (A1 : Option Addr) (c1 : Nat) (l1 : List (S53)) (r1 : List ByteArray) (r2 : Int) (w : World) (hr0 : Kd.C k73 w A0 l0.length l0) (hc0 : l0.length ≤ c0) (hr1 : Kd.C k53 w A1 l1.length l1) (hc1 : l1.length ≤ c1) (h : impl_FasterThanTold.f k l0 l1 = some (r1, r2)) :
  Calls Try.prog 52 #[.slice A0 l0.length c0, .slice A1 l1.length c1] w fun e w' => ∃ v0_ : Value, e = .returned (.tuple #[v0_, .int .i64 r2]) ∧ Kd.R Kd.string 9 w' w.heap.size (fun _ => True) v0_ r1 ∧ Below w.heap.size w w' := by
 have hu73 := Try.underlying73
 have HR0 := Aside0.mk hr0
 have HC0 := Aside0.mk hc0
 clear hr0 hc0
 have HR1 := Aside0.mk hr1
 have HC1 := Aside0.mk hc1
 clear hr1 hc1
 have HB := Aside0.mk (Below.refl w.heap.size w)
 have H : ((impl_gearCode.f k l0 l1 0).bind fun t824 => (if t824 = 0 then (impl_FasterThanTold.l0 k l1 (([] : List ByteArray)) l0 (l0.length : Int) 0) else (some (([] : List ByteArray), t824)))) = some (r1, r2) := h
 clear h
 replace H := Option.bind_eq_some_iff.mp H
 obtain ⟨t824, A30, H⟩ := H
 replace H : (if t824 = 0 then (impl_FasterThanTold.l0 k l1 (([] : List ByteArray)) l0 (l0.length : Int) 0) else (some (([] : List ByteArray), t824))) = some (r1, r2) := H
 have A3 := Aside0.mk A30
 clear A30
 by_cases c4 : t824 = 0
 ·rw [if_pos c4] at H
  have c4b0 : (t824 == 0) = true := beq_iff_eq.mpr c4
  have c4b1 : (t824 != 0) = false := bne_eq_false_iff_eq.mpr c4
  clear c4
  obtain ⟨y825, hy825⟩ : ∃ y_ : List ByteArray, y_ = (([] : List ByteArray)) := ⟨_, rfl⟩
  replace H : (impl_FasterThanTold.l0 k l1 y825 l0 (l0.length : Int) 0) = some (r1, r2) := by first | (rw [hy825]; with_reducible exact H) | (have H2_ := (Option.bind_some _ _).symm.trans H; rw [hy825]; with_reducible exact H2_) | (have H2_ := (Option.bind_some _ _).symm.trans H; with_reducible exact H2_) | with_reducible exact H | (rw [hy825]; exact H) | exact H
  have Ny825 := Aside0.mk hy825
  clear hy825
  have H' := Aside0.mk H
  clear H
  go_enter Try.func52, Try.ntmps52
  go_wp2_with (first | ((with_reducible refine gate_callee (f := 71) rfl ?_); refine goesL_ (some 15) rfl rfl Try.func71 (by kernel_rfl) rfl #[.slice A0 l0.length c0, .slice A1 l1.length c1, .int .i64 0] rfl ln_ ?_; (with_reducible refine (impl_gearCode.calls k _ _ l0 _ _ l1 0 t824 _ ?side1 ?side2 ?side3 ?side4 A3.out).mono ?_); (case side1 => exact kc_ HR0.out); (case side2 => exact HC0.out); (case side3 => exact kc_ HR1.out); (case side4 => exact HC1.out); rintro e w5 ⟨rfl, hb⟩; refine ⟨_, rfl, ?_⟩; have n0_ := Aside0.mk (below_step hb_ hb); clear HB; have HB := n0_; clear n0_; (try clear hb); (try clear hb2); (try clear hk); (try clear hi)) | ((with_reducible refine gate_dst (N := 19) rfl ?_); refine Kd.R_lit Kd.string _ 9 ?hg (N := 19) ?hd (xs := ([] : List ByteArray)) (inner := []) (ok := fun _ => True) (okp := fun _ => True) ?hr ?hp (fun _ hk => hk) trivial (Below.refl _ _) (Nat.le_refl _) (by simp) ?_; (case hd => rfl); (case hg => rfl); (case hr => first | (go_simp; done) | (go_simp; rfl)); (case hp => exact (Reps.none _ _)); intro v826 w6 ho7 hb hg_ hnew_; clear hg_ hnew_; (first | rw [← Ny825.out] at ho7 | (simp only [Int.reduceToNat] at ho7; rw [← Ny825.out] at ho7)); have n0_ := Aside0.mk (Kd.R_lower ho7 (below_size hb_)); have n1_ := Aside0.mk (below_step hb_ hb); clear HB; have HO827 := n0_; have HB := n1_; clear n0_ n1_; clear hb ho7))
  go_loopg [7, 22] k (fun kq v7 v22 w' => ∃ (x7_1 : List ByteArray) (x22_1 : Int), v22 = .int .i64 x22_1 ∧ Aside0 (impl_FasterThanTold.l0 kq l1 x7_1 l0 (l0.length : Int) x22_1 = some (r1, r2)) ∧ Aside0 (kq ≤ k) ∧ Aside0 (Kd.R Kd.string 9 w' w.heap.size (fun _ => True) v7 x7_1) ∧ Aside0 (Below w.heap.size w w'))
  case atStart => exact ⟨(y825), (0), (by first | rfl | (simp; done) | (simp [*]; done)), H', ⟨Nat.le_refl _⟩, ⟨by (with_reducible repeat (first | apply Kd.R_alloc | apply Kd.R_drewN | apply Kd.R_drew)); exact HO827.out⟩, ⟨hb_⟩⟩
  case round =>
   clear H'
   try clear c1
   try clear p2
   try clear c4
   try clear c4b0
   try clear c4b1
   try clear c5
   try clear c7
   obtain ⟨x7_1, x22_1, rfl, HA, HK1, HO_7, HB⟩ := hrel
   cases gk with
   | zero => exact absurd HA.out (by simp [impl_FasterThanTold.l0])
   | succ k1 =>
    have H := HA.out
    clear HA
    simp only [impl_FasterThanTold.l0] at H
    by_cases c8 : x22_1 < (l0.length : Int)
    ·rw [if_pos c8] at H
     have c8b0 : decide (x22_1 < (l0.length : Int)) = true := decide_eq_true c8
     clear c8
     by_cases c9 : 0 ≤ x22_1
     ·rw [if_pos c9] at H
      have c9b0 : decide (0 ≤ x22_1) = true := decide_eq_true c9
      clear c9
      by_cases c10 : x22_1 < (l0.length : Int)
      ·rw [if_pos c10] at H
       have c10b0 : decide (x22_1 < (l0.length : Int)) = true := decide_eq_true c10
       clear c10
       replace H := Option.bind_eq_some_iff.mp H
       obtain ⟨t830, A110, H⟩ := H
       replace H : (if (t830.length : Int) < 2 then (impl_FasterThanTold.l0 k1 l1 x7_1 l0 (l0.length : Int) (wrap64 (x22_1 + 1))) else ((impl_foundOf.f t830).bind fun bt833 => (if bt833.1 > (wrap64 (((rd_T73 l0 x22_1).f2) * bt833.2)) then (if x7_1.length < 8796093022208 then (impl_FasterThanTold.l0 k1 l1 (x7_1 ++ [(rd_T73 l0 x22_1).f0]) l0 (l0.length : Int) (wrap64 (x22_1 + 1))) else (none)) else (impl_FasterThanTold.l0 k1 l1 x7_1 l0 (l0.length : Int) (wrap64 (x22_1 + 1)))))) = some (r1, r2) := H
       have A11 := Aside0.mk A110
       clear A110
       by_cases c12 : (t830.length : Int) < 2
       ·rw [if_pos c12] at H
        have c12b0 : decide ((t830.length : Int) < 2) = true := decide_eq_true c12
        have c12b1 : decide (t830.length < 2) = true := decide_eq_true (by omega)
        clear c12
        have H' := Aside0.mk H
        clear H
        have p828 : 0 ≤ (x22_1 : Int) := od_
        have q828 : x22_1 < (l0.length : Int) := od_
        obtain ⟨ad828, e828, hx828_0, hx828_1, hx828_2, hx828_3⟩ := at_T73 HR0.out x22_1 p828 q828
        cases e828
        replace hx828_0 := cq_ HB hx828_0
        replace hx828_1 := cq_ HB hx828_1
        replace hx828_2 := cq_ HB hx828_2
        replace hx828_3 := cq_ HB hx828_3
        replace p828 := eq_true p828
        replace q828 := eq_true q828
        go_wp2_with (first | ((with_reducible refine gate_dst (N := 9) rfl ?_); refine box_event ?hg (N := 9) ?hd (cs := #[.string (⟨#[]⟩ : ByteArray), .int .i64 0, .int .i64 0, .int .i64 0]) (t := 73) ?hr ?_; (case hd => rfl); (case hg => rfl); (case hr => first | (go_simp; done) | (go_simp; rfl)); intro gb829 hg w13 hbox hb; have n0_ := Aside0.mk (Kd.R_below (kr_ HO_7) hb); have n1_ := Aside0.mk (below_step hb_ hb); have n2_ := Aside0.mk (hbox); have n3_ := Aside0.mk ((by rw [hg]; exact (below_size hb_) : w.heap.size ≤ gb829)); have n4_ := Aside0.mk ((by rw [hg]; exact (below_size hb_) : w.heap.size ≤ gb829)); clear HO_7; clear HB; have HO_7 := n0_; have HB := n1_; have BK829 := n2_; have GW829 := n3_; have GE829 := n4_; clear n0_ n1_ n2_ n3_ n4_; clear hb hbox hg; have hcz14_0 : w13.cell? ⟨gb829, 0, none⟩ = some (.string (⟨#[]⟩ : ByteArray)) := (blk_cell BK829.out 0).trans rfl; have hcz14_1 : w13.cell? ⟨gb829, 1, none⟩ = some (.int .i64 0) := (blk_cell BK829.out 1).trans rfl; have hcz14_2 : w13.cell? ⟨gb829, 2, none⟩ = some (.int .i64 0) := (blk_cell BK829.out 2).trans rfl; have hcz14_3 : w13.cell? ⟨gb829, 3, none⟩ = some (.int .i64 0) := (blk_cell BK829.out 3).trans rfl; have hfz14_0 := blk_frozen BK829.out 0; have hfz14_1 := blk_frozen BK829.out 1; have hfz14_2 := blk_frozen BK829.out 2; have hfz14_3 := blk_frozen BK829.out 3) | ((with_reducible refine gate_callee (f := 78) rfl ?_); refine goesL_ (some 29) rfl rfl Try.func78 (by kernel_rfl) rfl #[.slice A1 l1.length c1, .string ((rd_T73 l0 x22_1).f0)] rfl ln_ ?_; (with_reducible refine (impl_checksOf.calls k1 _ _ l1 ((rd_T73 l0 x22_1).f0) t830 _ ?side1 ?side2 A11.out).mono ?_); (case side1 => exact Kd.C_below HR1.out (hg_ GE829)); (case side2 => exact HC1.out); rintro e w15 ⟨v831, rfl, ho0, hb⟩; refine ⟨_, rfl, ?_⟩; have n0_ := Aside0.mk (Kd.R_below (by (with_reducible repeat (first | apply Kd.R_alloc | apply Kd.R_drewN | apply Kd.R_drew)); exact (Kd.R_mono (Kd.R_far (p := ⟨gb829, 3, none⟩) (Kd.R_far (p := ⟨gb829, 2, none⟩) (Kd.R_far (p := ⟨gb829, 1, none⟩) (Kd.R_far (p := ⟨gb829, 0, none⟩) (Kd.R_types HO_7.out BK829.out (by decide)) (fun _ hk => hk.2) (.string ((rd_T73 l0 x22_1).f0))) (fun _ hk => hk.2) (.int .i64 ((rd_T73 l0 x22_1).f1))) (fun _ hk => hk.2) (.int .i64 ((rd_T73 l0 x22_1).f2))) (fun _ hk => hk.2) (.int .i64 ((rd_T73 l0 x22_1).f3))) (fun _ h_ => h_.1))) hb); have n1_ := Aside0.mk (Kd.R_lower ho0 (below_size (hg_ GE829))); have n2_ := Aside0.mk (blk_below (g := gb829) (o := .cells #[.string ((rd_T73 l0 x22_1).f0), .int .i64 ((rd_T73 l0 x22_1).f1), .int .i64 ((rd_T73 l0 x22_1).f2), .int .i64 ((rd_T73 l0 x22_1).f3)] 73 (0, 0)) (by (with_reducible repeat (first | refine blk_drewN ?_ _ | refine blk_drew ?_ | refine blk_alloc ?_ _)); refine blk_put (cs := #[.string ((rd_T73 l0 x22_1).f0), .int .i64 ((rd_T73 l0 x22_1).f1), .int .i64 ((rd_T73 l0 x22_1).f2), .int .i64 0]) ?_ 3 _ rfl; (with_reducible repeat (first | refine blk_drewN ?_ _ | refine blk_drew ?_ | refine blk_alloc ?_ _)); refine blk_put (cs := #[.string ((rd_T73 l0 x22_1).f0), .int .i64 ((rd_T73 l0 x22_1).f1), .int .i64 0, .int .i64 0]) ?_ 2 _ rfl; (with_reducible repeat (first | refine blk_drewN ?_ _ | refine blk_drew ?_ | refine blk_alloc ?_ _)); refine blk_put (cs := #[.string ((rd_T73 l0 x22_1).f0), .int .i64 0, .int .i64 0, .int .i64 0]) ?_ 1 _ rfl; (with_reducible repeat (first | refine blk_drewN ?_ _ | refine blk_drew ?_ | refine blk_alloc ?_ _)); refine blk_put (cs := #[.string (⟨#[]⟩ : ByteArray), .int .i64 0, .int .i64 0, .int .i64 0]) ?_ 0 _ rfl; (with_reducible repeat (first | refine blk_drewN ?_ _ | refine blk_drew ?_ | refine blk_alloc ?_ _)); exact BK829.out) hb); have n3_ := Aside0.mk (below_step (hg_ GE829) hb); clear HO_7; clear BK829; clear HB; have HO_7 := n0_; have HO832 := n1_; have BK829 := n2_; have HB := n3_; clear n0_ n1_ n2_ n3_; (try clear hb); (try clear hb2); (try clear hk); (try clear hi); (try clear ho0); obtain ⟨Ao16, co16, eo16⟩ := Kd.R_slice HO832.out; subst eo16))
        go_roundg k1
        case measure => have := HK1.out; omega
        case rel => exact ⟨(x7_1), (wrap64 (x22_1 + 1)), (by first | rfl | (simp; done) | (simp [*]; done)), H', ⟨by have := HK1.out; omega⟩, ⟨by (with_reducible repeat (first | apply Kd.R_alloc | apply Kd.R_drewN | apply Kd.R_drew)); exact HO_7.out⟩, ⟨(hg_ GE829)⟩⟩
       ·rw [if_neg c12] at H
        have c12b0 : decide ((t830.length : Int) < 2) = false := decide_eq_false c12
        have c12b1 : decide (t830.length < 2) = false := decide_eq_false (by omega)
        clear c12
        replace H := Option.bind_eq_some_iff.mp H
        obtain ⟨⟨t833, t834⟩, A170, H⟩ := H
        replace H : (if t833 > (wrap64 (((rd_T73 l0 x22_1).f2) * t834)) then (if x7_1.length < 8796093022208 then (impl_FasterThanTold.l0 k1 l1 (x7_1 ++ [(rd_T73 l0 x22_1).f0]) l0 (l0.length : Int) (wrap64 (x22_1 + 1))) else (none)) else (impl_FasterThanTold.l0 k1 l1 x7_1 l0 (l0.length : Int) (wrap64 (x22_1 + 1)))) = some (r1, r2) := H
        have A17 := Aside0.mk A170
        clear A170
        by_cases c18 : t833 > (wrap64 (((rd_T73 l0 x22_1).f2) * t834))
        ·rw [if_pos c18] at H
         have c18b0 : decide ((wrap64 (((rd_T73 l0 x22_1).f2) * t834)) < t833) = true := decide_eq_true c18
         clear c18
         by_cases c19 : x7_1.length < 8796093022208
         ·rw [if_pos c19] at H
          have LMc19 := Aside0.mk c19
          clear c19
          obtain ⟨y835, hy835⟩ : ∃ y_ : List ByteArray, y_ = (x7_1 ++ [(rd_T73 l0 x22_1).f0]) := ⟨_, rfl⟩
          replace H : (impl_FasterThanTold.l0 k1 l1 y835 l0 (l0.length : Int) (wrap64 (x22_1 + 1))) = some (r1, r2) := by first | (rw [hy835]; with_reducible exact H) | (have H2_ := (Option.bind_some _ _).symm.trans H; rw [hy835]; with_reducible exact H2_) | (have H2_ := (Option.bind_some _ _).symm.trans H; with_reducible exact H2_) | with_reducible exact H | (rw [hy835]; exact H) | exact H
          have Ny835 := Aside0.mk hy835
          clear hy835
          have H' := Aside0.mk H
          clear H
          have p828 : 0 ≤ (x22_1 : Int) := od_
          have q828 : x22_1 < (l0.length : Int) := od_
          obtain ⟨ad828, e828, hx828_0, hx828_1, hx828_2, hx828_3⟩ := at_T73 HR0.out x22_1 p828 q828
          cases e828
          replace hx828_0 := cq_ HB hx828_0
          replace hx828_1 := cq_ HB hx828_1
          replace hx828_2 := cq_ HB hx828_2
          replace hx828_3 := cq_ HB hx828_3
          replace p828 := eq_true p828
          replace q828 := eq_true q828
          go_wp2_with (first | ((with_reducible refine gate_dst (N := 9) rfl ?_); refine box_event ?hg (N := 9) ?hd (cs := #[.string (⟨#[]⟩ : ByteArray), .int .i64 0, .int .i64 0, .int .i64 0]) (t := 73) ?hr ?_; (case hd => rfl); (case hg => rfl); (case hr => first | (go_simp; done) | (go_simp; rfl)); intro gb829 hg w20 hbox hb; have n0_ := Aside0.mk (Kd.R_below (kr_ HO_7) hb); have n1_ := Aside0.mk (below_step hb_ hb); have n2_ := Aside0.mk (hbox); have n3_ := Aside0.mk ((by rw [hg]; exact (below_size hb_) : w.heap.size ≤ gb829)); have n4_ := Aside0.mk ((by rw [hg]; exact (below_size hb_) : w.heap.size ≤ gb829)); clear HO_7; clear HB; have HO_7 := n0_; have HB := n1_; have BK829 := n2_; have GW829 := n3_; have GE829 := n4_; clear n0_ n1_ n2_ n3_ n4_; clear hb hbox hg; have hcz21_0 : w20.cell? ⟨gb829, 0, none⟩ = some (.string (⟨#[]⟩ : ByteArray)) := (blk_cell BK829.out 0).trans rfl; have hcz21_1 : w20.cell? ⟨gb829, 1, none⟩ = some (.int .i64 0) := (blk_cell BK829.out 1).trans rfl; have hcz21_2 : w20.cell? ⟨gb829, 2, none⟩ = some (.int .i64 0) := (blk_cell BK829.out 2).trans rfl; have hcz21_3 : w20.cell? ⟨gb829, 3, none⟩ = some (.int .i64 0) := (blk_cell BK829.out 3).trans rfl; have hfz21_0 := blk_frozen BK829.out 0; have hfz21_1 := blk_frozen BK829.out 1; have hfz21_2 := blk_frozen BK829.out 2; have hfz21_3 := blk_frozen BK829.out 3) | ((with_reducible refine gate_callee (f := 78) rfl ?_); refine goesL_ (some 29) rfl rfl Try.func78 (by kernel_rfl) rfl #[.slice A1 l1.length c1, .string ((rd_T73 l0 x22_1).f0)] rfl ln_ ?_; (with_reducible refine (impl_checksOf.calls k1 _ _ l1 ((rd_T73 l0 x22_1).f0) t830 _ ?side1 ?side2 A11.out).mono ?_); (case side1 => exact Kd.C_below HR1.out (hg_ GE829)); (case side2 => exact HC1.out); rintro e w22 ⟨v831, rfl, ho0, hb⟩; refine ⟨_, rfl, ?_⟩; have n0_ := Aside0.mk (Kd.R_below (by (with_reducible repeat (first | apply Kd.R_alloc | apply Kd.R_drewN | apply Kd.R_drew)); exact (Kd.R_mono (Kd.R_far (p := ⟨gb829, 3, none⟩) (Kd.R_far (p := ⟨gb829, 2, none⟩) (Kd.R_far (p := ⟨gb829, 1, none⟩) (Kd.R_far (p := ⟨gb829, 0, none⟩) (Kd.R_types HO_7.out BK829.out (by decide)) (fun _ hk => hk.2) (.string ((rd_T73 l0 x22_1).f0))) (fun _ hk => hk.2) (.int .i64 ((rd_T73 l0 x22_1).f1))) (fun _ hk => hk.2) (.int .i64 ((rd_T73 l0 x22_1).f2))) (fun _ hk => hk.2) (.int .i64 ((rd_T73 l0 x22_1).f3))) (fun _ h_ => h_.1))) hb); have n1_ := Aside0.mk (Kd.R_lower ho0 (below_size (hg_ GE829))); have n2_ := Aside0.mk (blk_below (g := gb829) (o := .cells #[.string ((rd_T73 l0 x22_1).f0), .int .i64 ((rd_T73 l0 x22_1).f1), .int .i64 ((rd_T73 l0 x22_1).f2), .int .i64 ((rd_T73 l0 x22_1).f3)] 73 (0, 0)) (by (with_reducible repeat (first | refine blk_drewN ?_ _ | refine blk_drew ?_ | refine blk_alloc ?_ _)); refine blk_put (cs := #[.string ((rd_T73 l0 x22_1).f0), .int .i64 ((rd_T73 l0 x22_1).f1), .int .i64 ((rd_T73 l0 x22_1).f2), .int .i64 0]) ?_ 3 _ rfl; (with_reducible repeat (first | refine blk_drewN ?_ _ | refine blk_drew ?_ | refine blk_alloc ?_ _)); refine blk_put (cs := #[.string ((rd_T73 l0 x22_1).f0), .int .i64 ((rd_T73 l0 x22_1).f1), .int .i64 0, .int .i64 0]) ?_ 2 _ rfl; (with_reducible repeat (first | refine blk_drewN ?_ _ | refine blk_drew ?_ | refine blk_alloc ?_ _)); refine blk_put (cs := #[.string ((rd_T73 l0 x22_1).f0), .int .i64 0, .int .i64 0, .int .i64 0]) ?_ 1 _ rfl; (with_reducible repeat (first | refine blk_drewN ?_ _ | refine blk_drew ?_ | refine blk_alloc ?_ _)); refine blk_put (cs := #[.string (⟨#[]⟩ : ByteArray), .int .i64 0, .int .i64 0, .int .i64 0]) ?_ 0 _ rfl; (with_reducible repeat (first | refine blk_drewN ?_ _ | refine blk_drew ?_ | refine blk_alloc ?_ _)); exact BK829.out) hb); have n3_ := Aside0.mk (below_step (hg_ GE829) hb); clear HO_7; clear BK829; clear HB; have HO_7 := n0_; have HO832 := n1_; have BK829 := n2_; have HB := n3_; clear n0_ n1_ n2_ n3_; (try clear hb); (try clear hb2); (try clear hk); (try clear hi); (try clear ho0); obtain ⟨Ao23, co23, eo23⟩ := Kd.R_slice HO832.out; subst eo23) | ((with_reducible refine gate_callee (f := 81) rfl ?_); refine goesL_ (some 35) rfl rfl Try.func81 (by kernel_rfl) rfl #[.slice Ao23 t830.length co23] rfl ln_ ?_; (with_reducible refine (impl_foundOf.calls _ _ t830 t833 t834 _ ?side1 ?side2 A17.out).mono ?_); (case side1 => repeat (first | exact (Kd.R_reads' HO832.out).2.2 | (with_reducible refine Kd.C_alloc ?_ _) | (with_reducible refine Kd.C_drewN ?_ _) | (with_reducible refine Kd.C_drew ?_))); (case side2 => exact (Kd.R_reads' HO832.out).2.1); rintro e w24 ⟨rfl, hb⟩; refine ⟨_, rfl, ?_⟩; have n0_ := Aside0.mk (Kd.R_below (kr_ HO_7) hb); have n1_ := Aside0.mk (Kd.R_below (kr_ HO832) hb); have n2_ := Aside0.mk (blk_below (g := gb829) (o := .cells #[.string ((rd_T73 l0 x22_1).f0), .int .i64 ((rd_T73 l0 x22_1).f1), .int .i64 ((rd_T73 l0 x22_1).f2), .int .i64 ((rd_T73 l0 x22_1).f3)] 73 (0, 0)) (bk_ BK829) hb); have n3_ := Aside0.mk (below_step (hg_ GE829) hb); clear HO_7; clear HO832; clear BK829; clear HB; have HO_7 := n0_; have HO832 := n1_; have BK829 := n2_; have HB := n3_; clear n0_ n1_ n2_ n3_; (try clear hb); (try clear hb2); (try clear hk); (try clear hi); have hcz25_0 : w24.cell? ⟨gb829, 0, none⟩ = some (.string ((rd_T73 l0 x22_1).f0)) := (blk_cell BK829.out 0).trans rfl; have hcz25_1 : w24.cell? ⟨gb829, 1, none⟩ = some (.int .i64 ((rd_T73 l0 x22_1).f1)) := (blk_cell BK829.out 1).trans rfl; have hcz25_2 : w24.cell? ⟨gb829, 2, none⟩ = some (.int .i64 ((rd_T73 l0 x22_1).f2)) := (blk_cell BK829.out 2).trans rfl; have hcz25_3 : w24.cell? ⟨gb829, 3, none⟩ = some (.int .i64 ((rd_T73 l0 x22_1).f3)) := (blk_cell BK829.out 3).trans rfl; have hfz25_0 := blk_frozen BK829.out 0; have hfz25_1 := blk_frozen BK829.out 1; have hfz25_2 := blk_frozen BK829.out 2; have hfz25_3 := blk_frozen BK829.out 3) | ((with_reducible refine gate_builtin (b := .append) (xs := #[.tmp 44, .tmp 47]) rfl ?_); at_builtin; refine Kd.R_append Kd.string (w0 := w) w.heap.size rfl (.tmp 44) (.tmp 47) 57 9 (.string ⟨#[]⟩) 16 rfl Try.underlying57 info9 rfl (by decide) (by omega) u7 x7_1 ((rd_T73 l0 x22_1).f0) [.string ((rd_T73 l0 x22_1).f0)] (fun _ => True) (fun _ => False) rfl rfl ?aP (fun _ hk => hk.elim) ?aF ?aO ?aB ?aS ?aL ?_; (case aP => exact rfl); (case aB => exact (hg_ GE829)); (case aF => exact (fun _ _ => trivial)); (case aO => exact (kr_ HO_7)); (case aS => exact (below_size (hg_ GE829))); (case aL => have := LMc19.out; omega); intro v836 w26 ho hb hg hat; rw [← Ny835.out] at ho; have n0_ := Aside0.mk (blk_grown (g := gb829) (o := .cells #[.string ((rd_T73 l0 x22_1).f0), .int .i64 ((rd_T73 l0 x22_1).f1), .int .i64 ((rd_T73 l0 x22_1).f2), .int .i64 ((rd_T73 l0 x22_1).f3)] 73 (0, 0)) (bk_ BK829) hg (Kd.R_ne HO_7.out BK829.out (by decide))); have n1_ := Aside0.mk (Kd.R_over' (kr_ HO832) (Kd.R_typed (kr_ HO_7)) (by decide) hg); have n2_ := Aside0.mk (hb); have n3_ := Aside0.mk (ho); clear BK829; clear HO832; clear HB; clear HO_7; have BK829 := n0_; have HO832 := n1_; have HB := n2_; have HO837 := n3_; clear n0_ n1_ n2_ n3_; clear ho hb hg hat))
          go_roundg k1
          case measure => have := HK1.out; omega
          case rel => exact ⟨(y835), (wrap64 (x22_1 + 1)), (by first | rfl | (simp; done) | (simp [*]; done)), H', ⟨by have := HK1.out; omega⟩, ⟨by (with_reducible repeat (first | apply Kd.R_alloc | apply Kd.R_drewN | apply Kd.R_drew)); exact HO837.out⟩, ⟨(hg_ GE829)⟩⟩
         ·rw [if_neg c19] at H
          exact absurd H (by simp)
        ·rw [if_neg c18] at H
         have c18b0 : decide ((wrap64 (((rd_T73 l0 x22_1).f2) * t834)) < t833) = false := decide_eq_false c18
         clear c18
         have H' := Aside0.mk H
         clear H
         have p828 : 0 ≤ (x22_1 : Int) := od_
         have q828 : x22_1 < (l0.length : Int) := od_
         obtain ⟨ad828, e828, hx828_0, hx828_1, hx828_2, hx828_3⟩ := at_T73 HR0.out x22_1 p828 q828
         cases e828
         replace hx828_0 := cq_ HB hx828_0
         replace hx828_1 := cq_ HB hx828_1
         replace hx828_2 := cq_ HB hx828_2
         replace hx828_3 := cq_ HB hx828_3
         replace p828 := eq_true p828
         replace q828 := eq_true q828
         go_wp2_with (first | ((with_reducible refine gate_dst (N := 9) rfl ?_); refine box_event ?hg (N := 9) ?hd (cs := #[.string (⟨#[]⟩ : ByteArray), .int .i64 0, .int .i64 0, .int .i64 0]) (t := 73) ?hr ?_; (case hd => rfl); (case hg => rfl); (case hr => first | (go_simp; done) | (go_simp; rfl)); intro gb829 hg w27 hbox hb; have n0_ := Aside0.mk (Kd.R_below (kr_ HO_7) hb); have n1_ := Aside0.mk (below_step hb_ hb); have n2_ := Aside0.mk (hbox); have n3_ := Aside0.mk ((by rw [hg]; exact (below_size hb_) : w.heap.size ≤ gb829)); have n4_ := Aside0.mk ((by rw [hg]; exact (below_size hb_) : w.heap.size ≤ gb829)); clear HO_7; clear HB; have HO_7 := n0_; have HB := n1_; have BK829 := n2_; have GW829 := n3_; have GE829 := n4_; clear n0_ n1_ n2_ n3_ n4_; clear hb hbox hg; have hcz28_0 : w27.cell? ⟨gb829, 0, none⟩ = some (.string (⟨#[]⟩ : ByteArray)) := (blk_cell BK829.out 0).trans rfl; have hcz28_1 : w27.cell? ⟨gb829, 1, none⟩ = some (.int .i64 0) := (blk_cell BK829.out 1).trans rfl; have hcz28_2 : w27.cell? ⟨gb829, 2, none⟩ = some (.int .i64 0) := (blk_cell BK829.out 2).trans rfl; have hcz28_3 : w27.cell? ⟨gb829, 3, none⟩ = some (.int .i64 0) := (blk_cell BK829.out 3).trans rfl; have hfz28_0 := blk_frozen BK829.out 0; have hfz28_1 := blk_frozen BK829.out 1; have hfz28_2 := blk_frozen BK829.out 2; have hfz28_3 := blk_frozen BK829.out 3) | ((with_reducible refine gate_callee (f := 78) rfl ?_); refine goesL_ (some 29) rfl rfl Try.func78 (by kernel_rfl) rfl #[.slice A1 l1.length c1, .string ((rd_T73 l0 x22_1).f0)] rfl ln_ ?_; (with_reducible refine (impl_checksOf.calls k1 _ _ l1 ((rd_T73 l0 x22_1).f0) t830 _ ?side1 ?side2 A11.out).mono ?_); (case side1 => exact Kd.C_below HR1.out (hg_ GE829)); (case side2 => exact HC1.out); rintro e w29 ⟨v831, rfl, ho0, hb⟩; refine ⟨_, rfl, ?_⟩; have n0_ := Aside0.mk (Kd.R_below (by (with_reducible repeat (first | apply Kd.R_alloc | apply Kd.R_drewN | apply Kd.R_drew)); exact (Kd.R_mono (Kd.R_far (p := ⟨gb829, 3, none⟩) (Kd.R_far (p := ⟨gb829, 2, none⟩) (Kd.R_far (p := ⟨gb829, 1, none⟩) (Kd.R_far (p := ⟨gb829, 0, none⟩) (Kd.R_types HO_7.out BK829.out (by decide)) (fun _ hk => hk.2) (.string ((rd_T73 l0 x22_1).f0))) (fun _ hk => hk.2) (.int .i64 ((rd_T73 l0 x22_1).f1))) (fun _ hk => hk.2) (.int .i64 ((rd_T73 l0 x22_1).f2))) (fun _ hk => hk.2) (.int .i64 ((rd_T73 l0 x22_1).f3))) (fun _ h_ => h_.1))) hb); have n1_ := Aside0.mk (Kd.R_lower ho0 (below_size (hg_ GE829))); have n2_ := Aside0.mk (blk_below (g := gb829) (o := .cells #[.string ((rd_T73 l0 x22_1).f0), .int .i64 ((rd_T73 l0 x22_1).f1), .int .i64 ((rd_T73 l0 x22_1).f2), .int .i64 ((rd_T73 l0 x22_1).f3)] 73 (0, 0)) (by (with_reducible repeat (first | refine blk_drewN ?_ _ | refine blk_drew ?_ | refine blk_alloc ?_ _)); refine blk_put (cs := #[.string ((rd_T73 l0 x22_1).f0), .int .i64 ((rd_T73 l0 x22_1).f1), .int .i64 ((rd_T73 l0 x22_1).f2), .int .i64 0]) ?_ 3 _ rfl; (with_reducible repeat (first | refine blk_drewN ?_ _ | refine blk_drew ?_ | refine blk_alloc ?_ _)); refine blk_put (cs := #[.string ((rd_T73 l0 x22_1).f0), .int .i64 ((rd_T73 l0 x22_1).f1), .int .i64 0, .int .i64 0]) ?_ 2 _ rfl; (with_reducible repeat (first | refine blk_drewN ?_ _ | refine blk_drew ?_ | refine blk_alloc ?_ _)); refine blk_put (cs := #[.string ((rd_T73 l0 x22_1).f0), .int .i64 0, .int .i64 0, .int .i64 0]) ?_ 1 _ rfl; (with_reducible repeat (first | refine blk_drewN ?_ _ | refine blk_drew ?_ | refine blk_alloc ?_ _)); refine blk_put (cs := #[.string (⟨#[]⟩ : ByteArray), .int .i64 0, .int .i64 0, .int .i64 0]) ?_ 0 _ rfl; (with_reducible repeat (first | refine blk_drewN ?_ _ | refine blk_drew ?_ | refine blk_alloc ?_ _)); exact BK829.out) hb); have n3_ := Aside0.mk (below_step (hg_ GE829) hb); clear HO_7; clear BK829; clear HB; have HO_7 := n0_; have HO832 := n1_; have BK829 := n2_; have HB := n3_; clear n0_ n1_ n2_ n3_; (try clear hb); (try clear hb2); (try clear hk); (try clear hi); (try clear ho0); obtain ⟨Ao30, co30, eo30⟩ := Kd.R_slice HO832.out; subst eo30) | ((with_reducible refine gate_callee (f := 81) rfl ?_); refine goesL_ (some 35) rfl rfl Try.func81 (by kernel_rfl) rfl #[.slice Ao30 t830.length co30] rfl ln_ ?_; (with_reducible refine (impl_foundOf.calls _ _ t830 t833 t834 _ ?side1 ?side2 A17.out).mono ?_); (case side1 => repeat (first | exact (Kd.R_reads' HO832.out).2.2 | (with_reducible refine Kd.C_alloc ?_ _) | (with_reducible refine Kd.C_drewN ?_ _) | (with_reducible refine Kd.C_drew ?_))); (case side2 => exact (Kd.R_reads' HO832.out).2.1); rintro e w31 ⟨rfl, hb⟩; refine ⟨_, rfl, ?_⟩; have n0_ := Aside0.mk (Kd.R_below (kr_ HO_7) hb); have n1_ := Aside0.mk (Kd.R_below (kr_ HO832) hb); have n2_ := Aside0.mk (blk_below (g := gb829) (o := .cells #[.string ((rd_T73 l0 x22_1).f0), .int .i64 ((rd_T73 l0 x22_1).f1), .int .i64 ((rd_T73 l0 x22_1).f2), .int .i64 ((rd_T73 l0 x22_1).f3)] 73 (0, 0)) (bk_ BK829) hb); have n3_ := Aside0.mk (below_step (hg_ GE829) hb); clear HO_7; clear HO832; clear BK829; clear HB; have HO_7 := n0_; have HO832 := n1_; have BK829 := n2_; have HB := n3_; clear n0_ n1_ n2_ n3_; (try clear hb); (try clear hb2); (try clear hk); (try clear hi); have hcz32_0 : w31.cell? ⟨gb829, 0, none⟩ = some (.string ((rd_T73 l0 x22_1).f0)) := (blk_cell BK829.out 0).trans rfl; have hcz32_1 : w31.cell? ⟨gb829, 1, none⟩ = some (.int .i64 ((rd_T73 l0 x22_1).f1)) := (blk_cell BK829.out 1).trans rfl; have hcz32_2 : w31.cell? ⟨gb829, 2, none⟩ = some (.int .i64 ((rd_T73 l0 x22_1).f2)) := (blk_cell BK829.out 2).trans rfl; have hcz32_3 : w31.cell? ⟨gb829, 3, none⟩ = some (.int .i64 ((rd_T73 l0 x22_1).f3)) := (blk_cell BK829.out 3).trans rfl; have hfz32_0 := blk_frozen BK829.out 0; have hfz32_1 := blk_frozen BK829.out 1; have hfz32_2 := blk_frozen BK829.out 2; have hfz32_3 := blk_frozen BK829.out 3))
         go_roundg k1
         case measure => have := HK1.out; omega
         case rel => exact ⟨(x7_1), (wrap64 (x22_1 + 1)), (by first | rfl | (simp; done) | (simp [*]; done)), H', ⟨by have := HK1.out; omega⟩, ⟨by (with_reducible repeat (first | apply Kd.R_alloc | apply Kd.R_drewN | apply Kd.R_drew)); exact HO_7.out⟩, ⟨(hg_ GE829)⟩⟩
      ·rw [if_neg c10] at H
       exact absurd H (by simp)
     ·rw [if_neg c9] at H
      exact absurd H (by simp)
    ·rw [if_neg c8] at H
     have c8b0 : decide (x22_1 < (l0.length : Int)) = false := decide_eq_false c8
     clear c8
     simp only [Option.some.injEq, Prod.mk.injEq] at H
     obtain ⟨rfl, rfl⟩ := H
     go_wp2
     go_ret2
     exact ⟨_, ew_, by (with_reducible repeat (first | apply Kd.R_alloc | apply Kd.R_drewN | apply Kd.R_drew)); exact HO_7.out, hb_⟩
 ·rw [if_neg c4] at H
  have c4b0 : (t824 == 0) = false := beq_eq_false_iff_ne.mpr c4
  have c4b1 : (t824 != 0) = true := bne_iff_ne.mpr c4
  simp only [Option.some.injEq, Prod.mk.injEq] at H
  obtain ⟨rfl, rfl⟩ := H
  go_enter Try.func52, Try.ntmps52
  go_wp2_with (first | ((with_reducible refine gate_callee (f := 71) rfl ?_); refine goesL_ (some 15) rfl rfl Try.func71 (by kernel_rfl) rfl #[.slice A0 l0.length c0, .slice A1 l1.length c1, .int .i64 0] rfl ln_ ?_; (with_reducible refine (impl_gearCode.calls k _ _ l0 _ _ l1 0 t824 _ ?side1 ?side2 ?side3 ?side4 A3.out).mono ?_); (case side1 => exact kc_ HR0.out); (case side2 => exact HC0.out); (case side3 => exact kc_ HR1.out); (case side4 => exact HC1.out); rintro e w33 ⟨rfl, hb⟩; refine ⟨_, rfl, ?_⟩; have n0_ := Aside0.mk (below_step hb_ hb); clear HB; have HB := n0_; clear n0_; (try clear hb); (try clear hb2); (try clear hk); (try clear hi)))
  go_ret2
  exact ⟨_, ew_, by first | exact Kd.R_nil _ _ _ _ _ | exact Kd.N_nil _ _ _ _ _ | exact Kd.V_nil _ _ _ _ _ | exact Kd.Q_nil _ _ _ _ _ | exact Kd.S_nil _ _ _ _ _, hb_⟩

/-! ### laws_FnExactFasterThanTold: function 13 -/
mutual
def laws_FnExactFasterThanTold.j0 : Nat → List (S72) → List (S49) → List ByteArray → Int → List (S73) → List (S53) → List ByteArray → Int → Bool → Option (Bool)
 | 0, _, _, _, _, _, _, _, _, _ => none
 | k + 1, x0, x1, x6, x7, x8, x9, x10, x11, x53 => if x53 = true then (some false) else ((laws_toGearS.f k x0).bind fun t861 => ((laws_eqGearS.f k x8 t861).bind fun t864 => (if t864 = true then ((laws_toCheckS.f k x1).bind fun t865 => ((laws_eqCheckS.f k x9 t865).bind fun t868 => (if t868 = true then ((laws_markGearS.f k x8 1).bind fun bt869 => ((laws_markCheckS.f k x9 bt869.1).bind fun bt871 => (if bt871.1 < 0 then (laws_FnExactFasterThanTold.j1 k x0 x1 x6 x7 x10 true) else ((laws_eqStringS.f k x10 x6).bind fun t873 => (if t873 = true then (laws_FnExactFasterThanTold.j1 k x0 x1 x6 x7 x10 (x11 != x7)) else (laws_FnExactFasterThanTold.j1 k x0 x1 x6 x7 x10 true)))))) else (some false)))) else (some false))))
def laws_FnExactFasterThanTold.j1 : Nat → List (S72) → List (S49) → List ByteArray → Int → List ByteArray → Bool → Option (Bool)
 | 0, _, _, _, _, _, _ => none
 | k + 1, x0, x1, x6, x7, x10, x82 => if x82 = true then (some false) else ((laws_markStringS.f k x10 1).bind fun bt874 => ((laws_heldStringS.f k bt874.2 1).bind fun t876 => (if t876 < 0 then (some false) else (if t876 = bt874.1 then ((laws_toGearS.f k x0).bind fun t877 => ((laws_toCheckS.f k x1).bind fun t880 => ((impl_FasterThanTold.f k t877 t880).bind fun bt883 => ((laws_eqStringS.f k bt883.1 x6).bind fun t887 => (if t887 = true then (laws_FnExactFasterThanTold.j2 k bt874.2 bt874.1 (bt883.2 != x7)) else (laws_FnExactFasterThanTold.j2 k bt874.2 bt874.1 true)))))) else (some false)))))
def laws_FnExactFasterThanTold.j2 : Nat → List ByteArray → Int → Bool → Option (Bool)
 | 0, _, _, _ => none
 | k + 1, x10, x13, x110 => if x110 = true then (some false) else ((laws_heldStringS.f k x10 1).bind fun t888 => (if t888 < 0 then (some false) else (if t888 = x13 then (some true) else (some false))))
end
def laws_FnExactFasterThanTold.f (k : Nat) (l0 : List (S72)) (l1 : List (S49)) : Option (Bool) := (laws_szGearS.f k l0 1048576).bind fun t838 => (if t838 < 0 then (some true) else ((laws_szCheckS.f k l1 t838).bind fun t839 => (if t839 < 0 then (some true) else ((laws_toGearS.f k l0).bind fun t840 => ((laws_toCheckS.f k l1).bind fun t843 => ((spec_FasterThanTold.f k t840 t843).bind fun bt846 => ((laws_toGearS.f k l0).bind fun t850 => ((laws_toCheckS.f k l1).bind fun t853 => ((impl_FasterThanTold.f k t850 t853).bind fun bt856 => ((laws_eqStringS.f k bt856.1 bt846.1).bind fun t860 => (if t860 = true then (laws_FnExactFasterThanTold.j0 k l0 l1 bt846.1 bt846.2 t850 t853 bt856.1 bt856.2 (bt856.2 != bt846.2)) else (laws_FnExactFasterThanTold.j0 k l0 l1 bt846.1 bt846.2 t850 t853 bt856.1 bt856.2 true))))))))))))
theorem laws_FnExactFasterThanTold.mono_l : ∀ k, (∀ y0 y1 y2 y3 y4 y5 y6 y7 y8, LeO (laws_FnExactFasterThanTold.j0 k y0 y1 y2 y3 y4 y5 y6 y7 y8) (laws_FnExactFasterThanTold.j0 (k + 1) y0 y1 y2 y3 y4 y5 y6 y7 y8)) ∧ (∀ y0 y1 y2 y3 y4 y5, LeO (laws_FnExactFasterThanTold.j1 k y0 y1 y2 y3 y4 y5) (laws_FnExactFasterThanTold.j1 (k + 1) y0 y1 y2 y3 y4 y5)) ∧ (∀ y0 y1 y2, LeO (laws_FnExactFasterThanTold.j2 k y0 y1 y2) (laws_FnExactFasterThanTold.j2 (k + 1) y0 y1 y2))
 | 0 => ⟨fun _ _ _ _ _ _ _ _ _ r h => by simp [laws_FnExactFasterThanTold.j0] at h, fun _ _ _ _ _ _ r h => by simp [laws_FnExactFasterThanTold.j1] at h, fun _ _ _ r h => by simp [laws_FnExactFasterThanTold.j2] at h⟩
 | k + 1 => by
  obtain ⟨ih0, ih1, ih2⟩ := laws_FnExactFasterThanTold.mono_l k
  refine ⟨?_, ?_, ?_⟩
  ·intro y0 y1 y2 y3 y4 y5 y6 y7 y8
   unfold laws_FnExactFasterThanTold.j0
   repeat' first
   | (with_reducible exact ih0 _ _ _ _ _ _ _ _ _)
   | (with_reducible exact ih1 _ _ _ _ _ _)
   | (with_reducible exact ih2 _ _ _)
   | (with_reducible exact impl_FasterThanTold.mono _ _ _)
   | (with_reducible exact laws_eqCheckS.mono _ _ _)
   | (with_reducible exact laws_eqGearS.mono _ _ _)
   | (with_reducible exact laws_eqStringS.mono _ _ _)
   | (with_reducible exact laws_heldStringS.mono _ _ _)
   | (with_reducible exact laws_markCheckS.mono _ _ _)
   | (with_reducible exact laws_markGearS.mono _ _ _)
   | (with_reducible exact laws_markStringS.mono _ _ _)
   | (with_reducible exact laws_szCheckS.mono _ _ _)
   | (with_reducible exact laws_szGearS.mono _ _ _)
   | (with_reducible exact laws_toCheckS.mono _ _)
   | (with_reducible exact laws_toGearS.mono _ _)
   | (with_reducible exact spec_FasterThanTold.mono _ _ _)
   | (with_reducible exact LeO.refl _)
   | (with_reducible exact LeO.none _)
   | (with_reducible refine LeO.ite ?_ ?_)
   | (with_reducible refine LeO.bind ?_ (fun _ => ?_))
   | exact ih0 _ _ _ _ _ _ _ _ _
   | exact ih1 _ _ _ _ _ _
   | exact ih2 _ _ _
   | exact impl_FasterThanTold.mono _ _ _
   | exact laws_eqCheckS.mono _ _ _
   | exact laws_eqGearS.mono _ _ _
   | exact laws_eqStringS.mono _ _ _
   | exact laws_heldStringS.mono _ _ _
   | exact laws_markCheckS.mono _ _ _
   | exact laws_markGearS.mono _ _ _
   | exact laws_markStringS.mono _ _ _
   | exact laws_szCheckS.mono _ _ _
   | exact laws_szGearS.mono _ _ _
   | exact laws_toCheckS.mono _ _
   | exact laws_toGearS.mono _ _
   | exact spec_FasterThanTold.mono _ _ _
   | exact LeO.none _
   | refine LeO.ite ?_ ?_
   | refine LeO.bind ?_ (fun _ => ?_)
  ·intro y0 y1 y2 y3 y4 y5
   unfold laws_FnExactFasterThanTold.j1
   repeat' first
   | (with_reducible exact ih0 _ _ _ _ _ _ _ _ _)
   | (with_reducible exact ih1 _ _ _ _ _ _)
   | (with_reducible exact ih2 _ _ _)
   | (with_reducible exact impl_FasterThanTold.mono _ _ _)
   | (with_reducible exact laws_eqCheckS.mono _ _ _)
   | (with_reducible exact laws_eqGearS.mono _ _ _)
   | (with_reducible exact laws_eqStringS.mono _ _ _)
   | (with_reducible exact laws_heldStringS.mono _ _ _)
   | (with_reducible exact laws_markCheckS.mono _ _ _)
   | (with_reducible exact laws_markGearS.mono _ _ _)
   | (with_reducible exact laws_markStringS.mono _ _ _)
   | (with_reducible exact laws_szCheckS.mono _ _ _)
   | (with_reducible exact laws_szGearS.mono _ _ _)
   | (with_reducible exact laws_toCheckS.mono _ _)
   | (with_reducible exact laws_toGearS.mono _ _)
   | (with_reducible exact spec_FasterThanTold.mono _ _ _)
   | (with_reducible exact LeO.refl _)
   | (with_reducible exact LeO.none _)
   | (with_reducible refine LeO.ite ?_ ?_)
   | (with_reducible refine LeO.bind ?_ (fun _ => ?_))
   | exact ih0 _ _ _ _ _ _ _ _ _
   | exact ih1 _ _ _ _ _ _
   | exact ih2 _ _ _
   | exact impl_FasterThanTold.mono _ _ _
   | exact laws_eqCheckS.mono _ _ _
   | exact laws_eqGearS.mono _ _ _
   | exact laws_eqStringS.mono _ _ _
   | exact laws_heldStringS.mono _ _ _
   | exact laws_markCheckS.mono _ _ _
   | exact laws_markGearS.mono _ _ _
   | exact laws_markStringS.mono _ _ _
   | exact laws_szCheckS.mono _ _ _
   | exact laws_szGearS.mono _ _ _
   | exact laws_toCheckS.mono _ _
   | exact laws_toGearS.mono _ _
   | exact spec_FasterThanTold.mono _ _ _
   | exact LeO.none _
   | refine LeO.ite ?_ ?_
   | refine LeO.bind ?_ (fun _ => ?_)
  ·intro y0 y1 y2
   unfold laws_FnExactFasterThanTold.j2
   repeat' first
   | (with_reducible exact ih0 _ _ _ _ _ _ _ _ _)
   | (with_reducible exact ih1 _ _ _ _ _ _)
   | (with_reducible exact ih2 _ _ _)
   | (with_reducible exact impl_FasterThanTold.mono _ _ _)
   | (with_reducible exact laws_eqCheckS.mono _ _ _)
   | (with_reducible exact laws_eqGearS.mono _ _ _)
   | (with_reducible exact laws_eqStringS.mono _ _ _)
   | (with_reducible exact laws_heldStringS.mono _ _ _)
   | (with_reducible exact laws_markCheckS.mono _ _ _)
   | (with_reducible exact laws_markGearS.mono _ _ _)
   | (with_reducible exact laws_markStringS.mono _ _ _)
   | (with_reducible exact laws_szCheckS.mono _ _ _)
   | (with_reducible exact laws_szGearS.mono _ _ _)
   | (with_reducible exact laws_toCheckS.mono _ _)
   | (with_reducible exact laws_toGearS.mono _ _)
   | (with_reducible exact spec_FasterThanTold.mono _ _ _)
   | (with_reducible exact LeO.refl _)
   | (with_reducible exact LeO.none _)
   | (with_reducible refine LeO.ite ?_ ?_)
   | (with_reducible refine LeO.bind ?_ (fun _ => ?_))
   | exact ih0 _ _ _ _ _ _ _ _ _
   | exact ih1 _ _ _ _ _ _
   | exact ih2 _ _ _
   | exact impl_FasterThanTold.mono _ _ _
   | exact laws_eqCheckS.mono _ _ _
   | exact laws_eqGearS.mono _ _ _
   | exact laws_eqStringS.mono _ _ _
   | exact laws_heldStringS.mono _ _ _
   | exact laws_markCheckS.mono _ _ _
   | exact laws_markGearS.mono _ _ _
   | exact laws_markStringS.mono _ _ _
   | exact laws_szCheckS.mono _ _ _
   | exact laws_szGearS.mono _ _ _
   | exact laws_toCheckS.mono _ _
   | exact laws_toGearS.mono _ _
   | exact spec_FasterThanTold.mono _ _ _
   | exact LeO.none _
   | refine LeO.ite ?_ ?_
   | refine LeO.bind ?_ (fun _ => ?_)
theorem laws_FnExactFasterThanTold.mono : ∀ a0 a1 k, LeO (laws_FnExactFasterThanTold.f k a0 a1) (laws_FnExactFasterThanTold.f (k + 1) a0 a1) := by
 intro a0 a1 k
 obtain ⟨ih0, ih1, ih2⟩ := laws_FnExactFasterThanTold.mono_l k
 unfold laws_FnExactFasterThanTold.f
 repeat' first
   | (with_reducible exact ih0 _ _ _ _ _ _ _ _ _)
   | (with_reducible exact ih1 _ _ _ _ _ _)
   | (with_reducible exact ih2 _ _ _)
   | (with_reducible exact impl_FasterThanTold.mono _ _ _)
   | (with_reducible exact laws_eqCheckS.mono _ _ _)
   | (with_reducible exact laws_eqGearS.mono _ _ _)
   | (with_reducible exact laws_eqStringS.mono _ _ _)
   | (with_reducible exact laws_heldStringS.mono _ _ _)
   | (with_reducible exact laws_markCheckS.mono _ _ _)
   | (with_reducible exact laws_markGearS.mono _ _ _)
   | (with_reducible exact laws_markStringS.mono _ _ _)
   | (with_reducible exact laws_szCheckS.mono _ _ _)
   | (with_reducible exact laws_szGearS.mono _ _ _)
   | (with_reducible exact laws_toCheckS.mono _ _)
   | (with_reducible exact laws_toGearS.mono _ _)
   | (with_reducible exact spec_FasterThanTold.mono _ _ _)
   | (with_reducible exact LeO.refl _)
   | (with_reducible exact LeO.none _)
   | (with_reducible refine LeO.ite ?_ ?_)
   | (with_reducible refine LeO.bind ?_ (fun _ => ?_))
   | exact ih0 _ _ _ _ _ _ _ _ _
   | exact ih1 _ _ _ _ _ _
   | exact ih2 _ _ _
   | exact impl_FasterThanTold.mono _ _ _
   | exact laws_eqCheckS.mono _ _ _
   | exact laws_eqGearS.mono _ _ _
   | exact laws_eqStringS.mono _ _ _
   | exact laws_heldStringS.mono _ _ _
   | exact laws_markCheckS.mono _ _ _
   | exact laws_markGearS.mono _ _ _
   | exact laws_markStringS.mono _ _ _
   | exact laws_szCheckS.mono _ _ _
   | exact laws_szGearS.mono _ _ _
   | exact laws_toCheckS.mono _ _
   | exact laws_toGearS.mono _ _
   | exact spec_FasterThanTold.mono _ _ _
   | exact LeO.none _
   | refine LeO.ite ?_ ?_
   | refine LeO.bind ?_ (fun _ => ?_)
set_option maxHeartbeats 8000000 in
set_option maxRecDepth 100000 in
theorem laws_FnExactFasterThanTold.calls (k : Nat) (A0 : Option Addr) (c0 : Nat) (l0 : List (S72)) (A1 : Option Addr) (c1 : Nat) (l1 : List (S49)) (r : Bool) (w : World) (hr0 : Kd.C k72 w A0 l0.length l0) (hc0 : l0.length ≤ c0) (hr1 : Kd.C k49 w A1 l1.length l1) (hc1 : l1.length ≤ c1) (h : laws_FnExactFasterThanTold.f k l0 l1 = some r) :
  Calls Try.prog 13 #[.slice A0 l0.length c0, .slice A1 l1.length c1] w fun e w' => e = .returned (.bool r) ∧ Below w.heap.size w w' := by
 have HR0 := Aside0.mk hr0
 have HC0 := Aside0.mk hc0
 clear hr0 hc0
 have HR1 := Aside0.mk hr1
 have HC1 := Aside0.mk hc1
 clear hr1 hc1
 have HB := Aside0.mk (Below.refl w.heap.size w)
 have H : ((laws_szGearS.f k l0 1048576).bind fun t838 => (if t838 < 0 then (some true) else ((laws_szCheckS.f k l1 t838).bind fun t839 => (if t839 < 0 then (some true) else ((laws_toGearS.f k l0).bind fun t840 => ((laws_toCheckS.f k l1).bind fun t843 => ((spec_FasterThanTold.f k t840 t843).bind fun bt846 => ((laws_toGearS.f k l0).bind fun t850 => ((laws_toCheckS.f k l1).bind fun t853 => ((impl_FasterThanTold.f k t850 t853).bind fun bt856 => ((laws_eqStringS.f k bt856.1 bt846.1).bind fun t860 => (if t860 = true then (laws_FnExactFasterThanTold.j0 k l0 l1 bt846.1 bt846.2 t850 t853 bt856.1 bt856.2 (bt856.2 != bt846.2)) else (laws_FnExactFasterThanTold.j0 k l0 l1 bt846.1 bt846.2 t850 t853 bt856.1 bt856.2 true))))))))))))) = some r := h
 clear h
 replace H := Option.bind_eq_some_iff.mp H
 obtain ⟨t838, A30, H⟩ := H
 replace H : (if t838 < 0 then (some true) else ((laws_szCheckS.f k l1 t838).bind fun t839 => (if t839 < 0 then (some true) else ((laws_toGearS.f k l0).bind fun t840 => ((laws_toCheckS.f k l1).bind fun t843 => ((spec_FasterThanTold.f k t840 t843).bind fun bt846 => ((laws_toGearS.f k l0).bind fun t850 => ((laws_toCheckS.f k l1).bind fun t853 => ((impl_FasterThanTold.f k t850 t853).bind fun bt856 => ((laws_eqStringS.f k bt856.1 bt846.1).bind fun t860 => (if t860 = true then (laws_FnExactFasterThanTold.j0 k l0 l1 bt846.1 bt846.2 t850 t853 bt856.1 bt856.2 (bt856.2 != bt846.2)) else (laws_FnExactFasterThanTold.j0 k l0 l1 bt846.1 bt846.2 t850 t853 bt856.1 bt856.2 true)))))))))))) = some r := H
 have A3 := Aside0.mk A30
 clear A30
 by_cases c4 : t838 < 0
 ·rw [if_pos c4] at H
  have c4b0 : decide (t838 < 0) = true := decide_eq_true c4
  clear c4
  obtain rfl := Option.some.inj H
  go_enter Try.func13, Try.ntmps13
  go_wp2_with (first | ((with_reducible refine gate_callee (f := 20) rfl ?_); refine goesL_ (some 19) rfl rfl Try.func20 (by kernel_rfl) rfl #[.slice A0 l0.length c0, .int .i64 1048576] rfl ln_ ?_; (with_reducible refine (laws_szGearS.calls k _ _ l0 1048576 t838 _ ?side1 ?side2 A3.out).mono ?_); (case side1 => exact kc_ HR0.out); (case side2 => exact HC0.out); rintro e w5 ⟨rfl, hb⟩; refine ⟨_, rfl, ?_⟩; have n0_ := Aside0.mk (below_step hb_ hb); clear HB; have HB := n0_; clear n0_; (try clear hb); (try clear hb2); (try clear hk); (try clear hi)))
  go_ret
  exact ⟨ew_, hb_⟩
 ·rw [if_neg c4] at H
  have c4b0 : decide (t838 < 0) = false := decide_eq_false c4
  clear c4
  replace H := Option.bind_eq_some_iff.mp H
  obtain ⟨t839, A60, H⟩ := H
  replace H : (if t839 < 0 then (some true) else ((laws_toGearS.f k l0).bind fun t840 => ((laws_toCheckS.f k l1).bind fun t843 => ((spec_FasterThanTold.f k t840 t843).bind fun bt846 => ((laws_toGearS.f k l0).bind fun t850 => ((laws_toCheckS.f k l1).bind fun t853 => ((impl_FasterThanTold.f k t850 t853).bind fun bt856 => ((laws_eqStringS.f k bt856.1 bt846.1).bind fun t860 => (if t860 = true then (laws_FnExactFasterThanTold.j0 k l0 l1 bt846.1 bt846.2 t850 t853 bt856.1 bt856.2 (bt856.2 != bt846.2)) else (laws_FnExactFasterThanTold.j0 k l0 l1 bt846.1 bt846.2 t850 t853 bt856.1 bt856.2 true)))))))))) = some r := H
  have A6 := Aside0.mk A60
  clear A60
  by_cases c7 : t839 < 0
  ·rw [if_pos c7] at H
   have c7b0 : decide (t839 < 0) = true := decide_eq_true c7
   clear c7
   obtain rfl := Option.some.inj H
   go_enter Try.func13, Try.ntmps13
   go_wp2_with (first | ((with_reducible refine gate_callee (f := 20) rfl ?_); refine goesL_ (some 19) rfl rfl Try.func20 (by kernel_rfl) rfl #[.slice A0 l0.length c0, .int .i64 1048576] rfl ln_ ?_; (with_reducible refine (laws_szGearS.calls k _ _ l0 1048576 t838 _ ?side1 ?side2 A3.out).mono ?_); (case side1 => exact kc_ HR0.out); (case side2 => exact HC0.out); rintro e w8 ⟨rfl, hb⟩; refine ⟨_, rfl, ?_⟩; have n0_ := Aside0.mk (below_step hb_ hb); clear HB; have HB := n0_; clear n0_; (try clear hb); (try clear hb2); (try clear hk); (try clear hi)) | ((with_reducible refine gate_callee (f := 15) rfl ?_); refine goesL_ (some 24) rfl rfl Try.func15 (by kernel_rfl) rfl #[.slice A1 l1.length c1, .int .i64 t838] rfl ln_ ?_; (with_reducible refine (laws_szCheckS.calls k _ _ l1 t838 t839 _ ?side1 ?side2 A6.out).mono ?_); (case side1 => exact kc_ (Kd.C_below HR1.out HB.out)); (case side2 => exact HC1.out); rintro e w9 ⟨rfl, hb⟩; refine ⟨_, rfl, ?_⟩; have n0_ := Aside0.mk (below_step hb_ hb); clear HB; have HB := n0_; clear n0_; (try clear hb); (try clear hb2); (try clear hk); (try clear hi)))
   go_ret
   exact ⟨ew_, hb_⟩
  ·rw [if_neg c7] at H
   have c7b0 : decide (t839 < 0) = false := decide_eq_false c7
   clear c7
   replace H := Option.bind_eq_some_iff.mp H
   obtain ⟨t840, A100, H⟩ := H
   replace H : ((laws_toCheckS.f k l1).bind fun t843 => ((spec_FasterThanTold.f k t840 t843).bind fun bt846 => ((laws_toGearS.f k l0).bind fun t850 => ((laws_toCheckS.f k l1).bind fun t853 => ((impl_FasterThanTold.f k t850 t853).bind fun bt856 => ((laws_eqStringS.f k bt856.1 bt846.1).bind fun t860 => (if t860 = true then (laws_FnExactFasterThanTold.j0 k l0 l1 bt846.1 bt846.2 t850 t853 bt856.1 bt856.2 (bt856.2 != bt846.2)) else (laws_FnExactFasterThanTold.j0 k l0 l1 bt846.1 bt846.2 t850 t853 bt856.1 bt856.2 true)))))))) = some r := H
   have A10 := Aside0.mk A100
   clear A100
   replace H := Option.bind_eq_some_iff.mp H
   obtain ⟨t843, A110, H⟩ := H
   replace H : ((spec_FasterThanTold.f k t840 t843).bind fun bt846 => ((laws_toGearS.f k l0).bind fun t850 => ((laws_toCheckS.f k l1).bind fun t853 => ((impl_FasterThanTold.f k t850 t853).bind fun bt856 => ((laws_eqStringS.f k bt856.1 bt846.1).bind fun t860 => (if t860 = true then (laws_FnExactFasterThanTold.j0 k l0 l1 bt846.1 bt846.2 t850 t853 bt856.1 bt856.2 (bt856.2 != bt846.2)) else (laws_FnExactFasterThanTold.j0 k l0 l1 bt846.1 bt846.2 t850 t853 bt856.1 bt856.2 true))))))) = some r := H
   have A11 := Aside0.mk A110
   clear A110
   replace H := Option.bind_eq_some_iff.mp H
   obtain ⟨⟨t846, t847⟩, A120, H⟩ := H
   replace H : ((laws_toGearS.f k l0).bind fun t850 => ((laws_toCheckS.f k l1).bind fun t853 => ((impl_FasterThanTold.f k t850 t853).bind fun bt856 => ((laws_eqStringS.f k bt856.1 t846).bind fun t860 => (if t860 = true then (laws_FnExactFasterThanTold.j0 k l0 l1 t846 t847 t850 t853 bt856.1 bt856.2 (bt856.2 != t847)) else (laws_FnExactFasterThanTold.j0 k l0 l1 t846 t847 t850 t853 bt856.1 bt856.2 true)))))) = some r := H
   have A12 := Aside0.mk A120
   clear A120
   replace H := Option.bind_eq_some_iff.mp H
   obtain ⟨t850, A130, H⟩ := H
   replace H : ((laws_toCheckS.f k l1).bind fun t853 => ((impl_FasterThanTold.f k t850 t853).bind fun bt856 => ((laws_eqStringS.f k bt856.1 t846).bind fun t860 => (if t860 = true then (laws_FnExactFasterThanTold.j0 k l0 l1 t846 t847 t850 t853 bt856.1 bt856.2 (bt856.2 != t847)) else (laws_FnExactFasterThanTold.j0 k l0 l1 t846 t847 t850 t853 bt856.1 bt856.2 true))))) = some r := H
   have A13 := Aside0.mk A130
   clear A130
   replace H := Option.bind_eq_some_iff.mp H
   obtain ⟨t853, A140, H⟩ := H
   replace H : ((impl_FasterThanTold.f k t850 t853).bind fun bt856 => ((laws_eqStringS.f k bt856.1 t846).bind fun t860 => (if t860 = true then (laws_FnExactFasterThanTold.j0 k l0 l1 t846 t847 t850 t853 bt856.1 bt856.2 (bt856.2 != t847)) else (laws_FnExactFasterThanTold.j0 k l0 l1 t846 t847 t850 t853 bt856.1 bt856.2 true)))) = some r := H
   have A14 := Aside0.mk A140
   clear A140
   replace H := Option.bind_eq_some_iff.mp H
   obtain ⟨⟨t856, t857⟩, A150, H⟩ := H
   replace H : ((laws_eqStringS.f k t856 t846).bind fun t860 => (if t860 = true then (laws_FnExactFasterThanTold.j0 k l0 l1 t846 t847 t850 t853 t856 t857 (t857 != t847)) else (laws_FnExactFasterThanTold.j0 k l0 l1 t846 t847 t850 t853 t856 t857 true))) = some r := H
   have A15 := Aside0.mk A150
   clear A150
   have HC16 := Aside0.mk H
   clear H
   go_enter Try.func13, Try.ntmps13
   go_upto_region 12 with (first | ((with_reducible refine gate_callee (f := 20) rfl ?_); refine goesL_ (some 19) rfl rfl Try.func20 (by kernel_rfl) rfl #[.slice A0 l0.length c0, .int .i64 1048576] rfl ln_ ?_; (with_reducible refine (laws_szGearS.calls k _ _ l0 1048576 t838 _ ?side1 ?side2 A3.out).mono ?_); (case side1 => exact kc_ HR0.out); (case side2 => exact HC0.out); rintro e w17 ⟨rfl, hb⟩; refine ⟨_, rfl, ?_⟩; have n0_ := Aside0.mk (below_step hb_ hb); clear HB; have HB := n0_; clear n0_; (try clear hb); (try clear hb2); (try clear hk); (try clear hi)) | ((with_reducible refine gate_callee (f := 15) rfl ?_); refine goesL_ (some 24) rfl rfl Try.func15 (by kernel_rfl) rfl #[.slice A1 l1.length c1, .int .i64 t838] rfl ln_ ?_; (with_reducible refine (laws_szCheckS.calls k _ _ l1 t838 t839 _ ?side1 ?side2 A6.out).mono ?_); (case side1 => exact kc_ (Kd.C_below HR1.out HB.out)); (case side2 => exact HC1.out); rintro e w18 ⟨rfl, hb⟩; refine ⟨_, rfl, ?_⟩; have n0_ := Aside0.mk (below_step hb_ hb); clear HB; have HB := n0_; clear n0_; (try clear hb); (try clear hb2); (try clear hk); (try clear hi)) | ((with_reducible refine gate_callee (f := 22) rfl ?_); refine goesL_ (some 29) rfl rfl Try.func22 (by kernel_rfl) rfl #[.slice A0 l0.length c0] rfl ln_ ?_; (with_reducible refine (laws_toGearS.calls k _ _ l0 t840 _ ?side1 ?side2 A10.out).mono ?_); (case side1 => exact kc_ (Kd.C_below HR0.out HB.out)); (case side2 => exact HC0.out); rintro e w19 ⟨v841, rfl, ho0, hb⟩; refine ⟨_, rfl, ?_⟩; have n0_ := Aside0.mk (Kd.R_lower ho0 (below_size hb_)); have n1_ := Aside0.mk (below_step hb_ hb); clear HB; have HO842 := n0_; have HB := n1_; clear n0_ n1_; (try clear hb); (try clear hb2); (try clear hk); (try clear hi); (try clear ho0)) | ((with_reducible refine gate_callee (f := 17) rfl ?_); refine goesL_ (some 31) rfl rfl Try.func17 (by kernel_rfl) rfl #[.slice A1 l1.length c1] rfl ln_ ?_; (with_reducible refine (laws_toCheckS.calls k _ _ l1 t843 _ ?side1 ?side2 A11.out).mono ?_); (case side1 => exact kc_ (Kd.C_below HR1.out HB.out)); (case side2 => exact HC1.out); rintro e w20 ⟨v844, rfl, ho0, hb⟩; refine ⟨_, rfl, ?_⟩; have n0_ := Aside0.mk (Kd.R_below (kr_ HO842) hb); have n1_ := Aside0.mk (Kd.R_lower ho0 (below_size hb_)); have n2_ := Aside0.mk (below_step hb_ hb); clear HO842; clear HB; have HO842 := n0_; have HO845 := n1_; have HB := n2_; clear n0_ n1_ n2_; (try clear hb); (try clear hb2); (try clear hk); (try clear hi); (try clear ho0); obtain ⟨Ao21, co21, eo21⟩ := Kd.R_slice HO842.out; subst eo21; obtain ⟨Ao22, co22, eo22⟩ := Kd.R_slice HO845.out; subst eo22) | ((with_reducible refine gate_callee (f := 51) rfl ?_); refine goesL_ (some 32) rfl rfl Try.func51 (by kernel_rfl) rfl #[.slice Ao21 t840.length co21, .slice Ao22 t843.length co22] rfl ln_ ?_; (with_reducible refine (spec_FasterThanTold.calls k _ _ t840 _ _ t843 t846 t847 _ ?side1 ?side2 ?side3 ?side4 A12.out).mono ?_); (case side1 => repeat (first | exact (Kd.R_reads' HO842.out).2.2 | (with_reducible refine Kd.C_alloc ?_ _) | (with_reducible refine Kd.C_drewN ?_ _) | (with_reducible refine Kd.C_drew ?_))); (case side2 => exact (Kd.R_reads' HO842.out).2.1); (case side3 => repeat (first | exact (Kd.R_reads' HO845.out).2.2 | (with_reducible refine Kd.C_alloc ?_ _) | (with_reducible refine Kd.C_drewN ?_ _) | (with_reducible refine Kd.C_drew ?_))); (case side4 => exact (Kd.R_reads' HO845.out).2.1); rintro e w23 ⟨v848, rfl, ho0, hb⟩; refine ⟨_, rfl, ?_⟩; have n0_ := Aside0.mk (Kd.R_below (kr_ HO842) hb); have n1_ := Aside0.mk (Kd.R_below (kr_ HO845) hb); have n2_ := Aside0.mk (Kd.R_lower ho0 (below_size hb_)); have n3_ := Aside0.mk (below_step hb_ hb); clear HO842; clear HO845; clear HB; have HO842 := n0_; have HO845 := n1_; have HO849 := n2_; have HB := n3_; clear n0_ n1_ n2_ n3_; (try clear hb); (try clear hb2); (try clear hk); (try clear hi); (try clear ho0)) | ((with_reducible refine gate_callee (f := 22) rfl ?_); refine goesL_ (some 36) rfl rfl Try.func22 (by kernel_rfl) rfl #[.slice A0 l0.length c0] rfl ln_ ?_; (with_reducible refine (laws_toGearS.calls k _ _ l0 t850 _ ?side1 ?side2 A13.out).mono ?_); (case side1 => exact kc_ (Kd.C_below HR0.out HB.out)); (case side2 => exact HC0.out); rintro e w24 ⟨v851, rfl, ho0, hb⟩; refine ⟨_, rfl, ?_⟩; have n0_ := Aside0.mk (Kd.R_elder' (kr_ HO842) (Kd.R_base ho0) hb); have n1_ := Aside0.mk (Kd.R_below (kr_ HO845) hb); have n2_ := Aside0.mk (Kd.R_below (kr_ HO849) hb); have n3_ := Aside0.mk (Kd.R_lower (Kd.R_new' ho0 (Kd.R_lt (kr_ HO842))) (below_size hb_)); have n4_ := Aside0.mk (below_step hb_ hb); clear HO842; clear HO845; clear HO849; clear HB; have HO842 := n0_; have HO845 := n1_; have HO849 := n2_; have HO852 := n3_; have HB := n4_; clear n0_ n1_ n2_ n3_ n4_; (try clear hb); (try clear hb2); (try clear hk); (try clear hi); (try clear ho0)) | ((with_reducible refine gate_callee (f := 17) rfl ?_); refine goesL_ (some 38) rfl rfl Try.func17 (by kernel_rfl) rfl #[.slice A1 l1.length c1] rfl ln_ ?_; (with_reducible refine (laws_toCheckS.calls k _ _ l1 t853 _ ?side1 ?side2 A14.out).mono ?_); (case side1 => exact kc_ (Kd.C_below HR1.out HB.out)); (case side2 => exact HC1.out); rintro e w25 ⟨v854, rfl, ho0, hb⟩; refine ⟨_, rfl, ?_⟩; have n0_ := Aside0.mk (Kd.R_below (kr_ HO842) hb); have n1_ := Aside0.mk (Kd.R_elder' (kr_ HO845) (Kd.R_base ho0) hb); have n2_ := Aside0.mk (Kd.R_below (kr_ HO849) hb); have n3_ := Aside0.mk (Kd.R_below (kr_ HO852) hb); have n4_ := Aside0.mk (Kd.R_lower (Kd.R_new' ho0 (Kd.R_lt (kr_ HO845))) (below_size hb_)); have n5_ := Aside0.mk (below_step hb_ hb); clear HO842; clear HO845; clear HO849; clear HO852; clear HB; have HO842 := n0_; have HO845 := n1_; have HO849 := n2_; have HO852 := n3_; have HO855 := n4_; have HB := n5_; clear n0_ n1_ n2_ n3_ n4_ n5_; (try clear hb); (try clear hb2); (try clear hk); (try clear hi); (try clear ho0); obtain ⟨Ao26, co26, eo26⟩ := Kd.R_slice HO852.out; subst eo26; obtain ⟨Ao27, co27, eo27⟩ := Kd.R_slice HO855.out; subst eo27) | ((with_reducible refine gate_callee (f := 52) rfl ?_); refine goesL_ (some 42) rfl rfl Try.func52 (by kernel_rfl) rfl #[.slice Ao26 t850.length co26, .slice Ao27 t853.length co27] rfl ln_ ?_; (with_reducible refine (impl_FasterThanTold.calls k _ _ t850 _ _ t853 t856 t857 _ ?side1 ?side2 ?side3 ?side4 A15.out).mono ?_); (case side1 => repeat (first | exact (Kd.R_reads' HO852.out).2.2 | (with_reducible refine Kd.C_alloc ?_ _) | (with_reducible refine Kd.C_drewN ?_ _) | (with_reducible refine Kd.C_drew ?_))); (case side2 => exact (Kd.R_reads' HO852.out).2.1); (case side3 => repeat (first | exact (Kd.R_reads' HO855.out).2.2 | (with_reducible refine Kd.C_alloc ?_ _) | (with_reducible refine Kd.C_drewN ?_ _) | (with_reducible refine Kd.C_drew ?_))); (case side4 => exact (Kd.R_reads' HO855.out).2.1); rintro e w28 ⟨v858, rfl, ho0, hb⟩; refine ⟨_, rfl, ?_⟩; have n0_ := Aside0.mk (Kd.R_below (kr_ HO842) hb); have n1_ := Aside0.mk (Kd.R_below (kr_ HO845) hb); have n2_ := Aside0.mk (Kd.R_elder' (kr_ HO849) (Kd.R_base ho0) hb); have n3_ := Aside0.mk (Kd.R_below (kr_ HO852) hb); have n4_ := Aside0.mk (Kd.R_below (kr_ HO855) hb); have n5_ := Aside0.mk (Kd.R_lower (Kd.R_new' ho0 (Kd.R_lt (kr_ HO849))) (below_size hb_)); have n6_ := Aside0.mk (below_step hb_ hb); clear HO842; clear HO845; clear HO849; clear HO852; clear HO855; clear HB; have HO842 := n0_; have HO845 := n1_; have HO849 := n2_; have HO852 := n3_; have HO855 := n4_; have HO859 := n5_; have HB := n6_; clear n0_ n1_ n2_ n3_ n4_ n5_ n6_; (try clear hb); (try clear hb2); (try clear hk); (try clear hi); (try clear ho0)))
   (try simp only [Act.put, List.setIfInBounds_toArray, List.set_cons_zero, List.set_cons_succ])
   go_cut [53] (fun v53 wc => ∃ (kq : Nat) (x53_15 : Bool), v53 = .bool x53_15 ∧ Aside0 (laws_FnExactFasterThanTold.j0 kq l0 l1 t846 t847 t850 t853 t856 t857 x53_15 = some r) ∧ Aside0 (kq ≤ k) ∧ Aside0 (Kd.R Kd.string 9 wc w.heap.size (fun k_ => some k_ ≠ (v858 : Value).ownBlock) v848 t846) ∧ Aside0 (Kd.R k73 73 wc w.heap.size (fun _ => True) (.slice Ao26 t850.length co26) t850) ∧ Aside0 (Kd.R k53 53 wc w.heap.size (fun _ => True) (.slice Ao27 t853.length co27) t853) ∧ Aside0 (Kd.R Kd.string 9 wc w.heap.size (fun k_ => some k_ ≠ (v848 : Value).ownBlock) v858 t856) ∧ Aside0 (Below w.heap.size w wc))
   case first =>
    have H := HC16.out
    clear HC16
    replace H := Option.bind_eq_some_iff.mp H
    obtain ⟨t860, A290, H⟩ := H
    replace H : (if t860 = true then (laws_FnExactFasterThanTold.j0 k l0 l1 t846 t847 t850 t853 t856 t857 (t857 != t847)) else (laws_FnExactFasterThanTold.j0 k l0 l1 t846 t847 t850 t853 t856 t857 true)) = some r := H
    have A29 := Aside0.mk A290
    clear A290
    by_cases c30 : t860 = true
    ·subst c30
     have H1 : (laws_FnExactFasterThanTold.j0 k l0 l1 t846 t847 t850 t853 t856 t857 (t857 != t847)) = some r := by rw [if_pos rfl] at H; exact H
     clear H
     have H := H1
     clear H1
     have H' := Aside0.mk H
     clear H
     obtain ⟨Ao31, co31, eo31⟩ := Kd.R_slice HO859.out
     subst eo31
     obtain ⟨Ao32, co32, eo32⟩ := Kd.R_slice HO849.out
     subst eo32
     go_wp2_with (first | ((with_reducible refine gate_callee (f := 45) rfl ?_); refine goesL_ (some 47) rfl rfl Try.func45 (by kernel_rfl) rfl #[.slice Ao31 t856.length co31, .slice Ao32 t846.length co32] rfl ln_ ?_; (with_reducible refine (laws_eqStringS.calls k _ _ t856 _ _ t846 true _ ?side1 ?side2 ?side3 ?side4 A29.out).mono ?_); (case side1 => repeat (first | exact (Kd.R_reads' HO859.out).2.2 | (with_reducible refine Kd.C_alloc ?_ _) | (with_reducible refine Kd.C_drewN ?_ _) | (with_reducible refine Kd.C_drew ?_))); (case side2 => exact (Kd.R_reads' HO859.out).2.1); (case side3 => repeat (first | exact (Kd.R_reads' HO849.out).2.2 | (with_reducible refine Kd.C_alloc ?_ _) | (with_reducible refine Kd.C_drewN ?_ _) | (with_reducible refine Kd.C_drew ?_))); (case side4 => exact (Kd.R_reads' HO849.out).2.1); rintro e w' ⟨rfl, ⟨nd, rfl⟩⟩; refine ⟨_, rfl, ?_⟩))
     go_meet
     case rel => exact ⟨_, ((t857 != t847)), (by first | rfl | (simp; done) | (simp [*]; done)), H', ⟨by first | omega | exact Nat.le_refl _⟩, ⟨by (with_reducible repeat (first | apply Kd.R_alloc | apply Kd.R_drewN | apply Kd.R_drew)); exact Kd.R_mono HO849.out (fun _ hk => hk.2)⟩, ⟨by (with_reducible repeat (first | apply Kd.R_alloc | apply Kd.R_drewN | apply Kd.R_drew)); exact Kd.R_mono HO852.out (fun _ hk => trivial)⟩, ⟨by (with_reducible repeat (first | apply Kd.R_alloc | apply Kd.R_drewN | apply Kd.R_drew)); exact Kd.R_mono HO855.out (fun _ hk => trivial)⟩, ⟨by (with_reducible repeat (first | apply Kd.R_alloc | apply Kd.R_drewN | apply Kd.R_drew)); exact Kd.R_mono HO859.out (fun _ hk => hk.2)⟩, ⟨hb_⟩⟩
    ·replace c30 := Bool.eq_false_iff.mpr c30
     subst c30
     have H1 : (laws_FnExactFasterThanTold.j0 k l0 l1 t846 t847 t850 t853 t856 t857 true) = some r := by rw [if_neg (show ¬ (false = true) by decide)] at H; exact H
     clear H
     have H := H1
     clear H1
     have H' := Aside0.mk H
     clear H
     obtain ⟨Ao33, co33, eo33⟩ := Kd.R_slice HO859.out
     subst eo33
     obtain ⟨Ao34, co34, eo34⟩ := Kd.R_slice HO849.out
     subst eo34
     go_wp2_with (first | ((with_reducible refine gate_callee (f := 45) rfl ?_); refine goesL_ (some 47) rfl rfl Try.func45 (by kernel_rfl) rfl #[.slice Ao33 t856.length co33, .slice Ao34 t846.length co34] rfl ln_ ?_; (with_reducible refine (laws_eqStringS.calls k _ _ t856 _ _ t846 false _ ?side1 ?side2 ?side3 ?side4 A29.out).mono ?_); (case side1 => repeat (first | exact (Kd.R_reads' HO859.out).2.2 | (with_reducible refine Kd.C_alloc ?_ _) | (with_reducible refine Kd.C_drewN ?_ _) | (with_reducible refine Kd.C_drew ?_))); (case side2 => exact (Kd.R_reads' HO859.out).2.1); (case side3 => repeat (first | exact (Kd.R_reads' HO849.out).2.2 | (with_reducible refine Kd.C_alloc ?_ _) | (with_reducible refine Kd.C_drewN ?_ _) | (with_reducible refine Kd.C_drew ?_))); (case side4 => exact (Kd.R_reads' HO849.out).2.1); rintro e w' ⟨rfl, ⟨nd, rfl⟩⟩; refine ⟨_, rfl, ?_⟩))
     go_meet
     case rel => exact ⟨_, (true), (by first | rfl | (simp; done) | (simp [*]; done)), H', ⟨by first | omega | exact Nat.le_refl _⟩, ⟨by (with_reducible repeat (first | apply Kd.R_alloc | apply Kd.R_drewN | apply Kd.R_drew)); exact Kd.R_mono HO849.out (fun _ hk => hk.2)⟩, ⟨by (with_reducible repeat (first | apply Kd.R_alloc | apply Kd.R_drewN | apply Kd.R_drew)); exact Kd.R_mono HO852.out (fun _ hk => trivial)⟩, ⟨by (with_reducible repeat (first | apply Kd.R_alloc | apply Kd.R_drewN | apply Kd.R_drew)); exact Kd.R_mono HO855.out (fun _ hk => trivial)⟩, ⟨by (with_reducible repeat (first | apply Kd.R_alloc | apply Kd.R_drewN | apply Kd.R_drew)); exact Kd.R_mono HO859.out (fun _ hk => hk.2)⟩, ⟨hb_⟩⟩
   case rest =>
    clear HC16
    try clear c1
    try clear c2
    try clear p2
    try clear c3
    try clear c4
    try clear c4b0
    try clear c5
    try clear c7
    try clear c7b0
    try clear c13
    try clear c15
    try clear c17
    try clear c20
    try clear c22
    try clear c30
    obtain ⟨kq, x53_15, rfl, HA, HJ15, HO_6, HO_8, HO_9, HO_10, HB⟩ := hcut
    cases kq with
    | zero => exact absurd HA.out (by simp [laws_FnExactFasterThanTold.j0])
    | succ kj15 =>
     have H := HA.out
     clear HA
     simp only [laws_FnExactFasterThanTold.j0] at H
     by_cases c35 : x53_15 = true
     ·subst c35
      have H1 : (some false) = some r := by rw [if_pos rfl] at H; exact H
      clear H
      have H := H1
      clear H1
      obtain rfl := Option.some.inj H
      go_wp2
      go_ret
      exact ⟨ew_, hb_⟩
     ·replace c35 := Bool.eq_false_iff.mpr c35
      subst c35
      have H1 : ((laws_toGearS.f kj15 l0).bind fun t861 => ((laws_eqGearS.f kj15 t850 t861).bind fun t864 => (if t864 = true then ((laws_toCheckS.f kj15 l1).bind fun t865 => ((laws_eqCheckS.f kj15 t853 t865).bind fun t868 => (if t868 = true then ((laws_markGearS.f kj15 t850 1).bind fun bt869 => ((laws_markCheckS.f kj15 t853 bt869.1).bind fun bt871 => (if bt871.1 < 0 then (laws_FnExactFasterThanTold.j1 kj15 l0 l1 t846 t847 t856 true) else ((laws_eqStringS.f kj15 t856 t846).bind fun t873 => (if t873 = true then (laws_FnExactFasterThanTold.j1 kj15 l0 l1 t846 t847 t856 (t857 != t847)) else (laws_FnExactFasterThanTold.j1 kj15 l0 l1 t846 t847 t856 true)))))) else (some false)))) else (some false)))) = some r := by rw [if_neg (show ¬ (false = true) by decide)] at H; exact H
      clear H
      have H := H1
      clear H1
      replace H := Option.bind_eq_some_iff.mp H
      obtain ⟨t861, A360, H⟩ := H
      replace H : ((laws_eqGearS.f kj15 t850 t861).bind fun t864 => (if t864 = true then ((laws_toCheckS.f kj15 l1).bind fun t865 => ((laws_eqCheckS.f kj15 t853 t865).bind fun t868 => (if t868 = true then ((laws_markGearS.f kj15 t850 1).bind fun bt869 => ((laws_markCheckS.f kj15 t853 bt869.1).bind fun bt871 => (if bt871.1 < 0 then (laws_FnExactFasterThanTold.j1 kj15 l0 l1 t846 t847 t856 true) else ((laws_eqStringS.f kj15 t856 t846).bind fun t873 => (if t873 = true then (laws_FnExactFasterThanTold.j1 kj15 l0 l1 t846 t847 t856 (t857 != t847)) else (laws_FnExactFasterThanTold.j1 kj15 l0 l1 t846 t847 t856 true)))))) else (some false)))) else (some false))) = some r := H
      have A36 := Aside0.mk A360
      clear A360
      replace H := Option.bind_eq_some_iff.mp H
      obtain ⟨t864, A370, H⟩ := H
      replace H : (if t864 = true then ((laws_toCheckS.f kj15 l1).bind fun t865 => ((laws_eqCheckS.f kj15 t853 t865).bind fun t868 => (if t868 = true then ((laws_markGearS.f kj15 t850 1).bind fun bt869 => ((laws_markCheckS.f kj15 t853 bt869.1).bind fun bt871 => (if bt871.1 < 0 then (laws_FnExactFasterThanTold.j1 kj15 l0 l1 t846 t847 t856 true) else ((laws_eqStringS.f kj15 t856 t846).bind fun t873 => (if t873 = true then (laws_FnExactFasterThanTold.j1 kj15 l0 l1 t846 t847 t856 (t857 != t847)) else (laws_FnExactFasterThanTold.j1 kj15 l0 l1 t846 t847 t856 true)))))) else (some false)))) else (some false)) = some r := H
      have A37 := Aside0.mk A370
      clear A370
      by_cases c38 : t864 = true
      ·subst c38
       have H1 : ((laws_toCheckS.f kj15 l1).bind fun t865 => ((laws_eqCheckS.f kj15 t853 t865).bind fun t868 => (if t868 = true then ((laws_markGearS.f kj15 t850 1).bind fun bt869 => ((laws_markCheckS.f kj15 t853 bt869.1).bind fun bt871 => (if bt871.1 < 0 then (laws_FnExactFasterThanTold.j1 kj15 l0 l1 t846 t847 t856 true) else ((laws_eqStringS.f kj15 t856 t846).bind fun t873 => (if t873 = true then (laws_FnExactFasterThanTold.j1 kj15 l0 l1 t846 t847 t856 (t857 != t847)) else (laws_FnExactFasterThanTold.j1 kj15 l0 l1 t846 t847 t856 true)))))) else (some false)))) = some r := by rw [if_pos rfl] at H; exact H
       clear H
       have H := H1
       clear H1
       replace H := Option.bind_eq_some_iff.mp H
       obtain ⟨t865, A390, H⟩ := H
       replace H : ((laws_eqCheckS.f kj15 t853 t865).bind fun t868 => (if t868 = true then ((laws_markGearS.f kj15 t850 1).bind fun bt869 => ((laws_markCheckS.f kj15 t853 bt869.1).bind fun bt871 => (if bt871.1 < 0 then (laws_FnExactFasterThanTold.j1 kj15 l0 l1 t846 t847 t856 true) else ((laws_eqStringS.f kj15 t856 t846).bind fun t873 => (if t873 = true then (laws_FnExactFasterThanTold.j1 kj15 l0 l1 t846 t847 t856 (t857 != t847)) else (laws_FnExactFasterThanTold.j1 kj15 l0 l1 t846 t847 t856 true)))))) else (some false))) = some r := H
       have A39 := Aside0.mk A390
       clear A390
       replace H := Option.bind_eq_some_iff.mp H
       obtain ⟨t868, A400, H⟩ := H
       replace H : (if t868 = true then ((laws_markGearS.f kj15 t850 1).bind fun bt869 => ((laws_markCheckS.f kj15 t853 bt869.1).bind fun bt871 => (if bt871.1 < 0 then (laws_FnExactFasterThanTold.j1 kj15 l0 l1 t846 t847 t856 true) else ((laws_eqStringS.f kj15 t856 t846).bind fun t873 => (if t873 = true then (laws_FnExactFasterThanTold.j1 kj15 l0 l1 t846 t847 t856 (t857 != t847)) else (laws_FnExactFasterThanTold.j1 kj15 l0 l1 t846 t847 t856 true)))))) else (some false)) = some r := H
       have A40 := Aside0.mk A400
       clear A400
       by_cases c41 : t868 = true
       ·subst c41
        have H1 : ((laws_markGearS.f kj15 t850 1).bind fun bt869 => ((laws_markCheckS.f kj15 t853 bt869.1).bind fun bt871 => (if bt871.1 < 0 then (laws_FnExactFasterThanTold.j1 kj15 l0 l1 t846 t847 t856 true) else ((laws_eqStringS.f kj15 t856 t846).bind fun t873 => (if t873 = true then (laws_FnExactFasterThanTold.j1 kj15 l0 l1 t846 t847 t856 (t857 != t847)) else (laws_FnExactFasterThanTold.j1 kj15 l0 l1 t846 t847 t856 true)))))) = some r := by rw [if_pos rfl] at H; exact H
        clear H
        have H := H1
        clear H1
        replace H := Option.bind_eq_some_iff.mp H
        obtain ⟨⟨t869, t870⟩, A420, H⟩ := H
        replace H : ((laws_markCheckS.f kj15 t853 t869).bind fun bt871 => (if bt871.1 < 0 then (laws_FnExactFasterThanTold.j1 kj15 l0 l1 t846 t847 t856 true) else ((laws_eqStringS.f kj15 t856 t846).bind fun t873 => (if t873 = true then (laws_FnExactFasterThanTold.j1 kj15 l0 l1 t846 t847 t856 (t857 != t847)) else (laws_FnExactFasterThanTold.j1 kj15 l0 l1 t846 t847 t856 true))))) = some r := H
        have A42 := Aside0.mk A420
        clear A420
        replace H := Option.bind_eq_some_iff.mp H
        obtain ⟨⟨t871, t872⟩, A430, H⟩ := H
        replace H : (if t871 < 0 then (laws_FnExactFasterThanTold.j1 kj15 l0 l1 t846 t847 t856 true) else ((laws_eqStringS.f kj15 t856 t846).bind fun t873 => (if t873 = true then (laws_FnExactFasterThanTold.j1 kj15 l0 l1 t846 t847 t856 (t857 != t847)) else (laws_FnExactFasterThanTold.j1 kj15 l0 l1 t846 t847 t856 true)))) = some r := H
        have A43 := Aside0.mk A430
        clear A430
        have HC44 := Aside0.mk H
        clear H
        go_upto_region 21 with (first | ((with_reducible refine gate_callee (f := 22) rfl ?_); refine goesL_ (some 56) rfl rfl Try.func22 (by kernel_rfl) rfl #[.slice A0 l0.length c0] rfl ln_ ?_; (with_reducible refine (laws_toGearS.calls kj15 _ _ l0 t861 _ ?side1 ?side2 A36.out).mono ?_); (case side1 => exact kc_ (Kd.C_below HR0.out HB.out)); (case side2 => exact HC0.out); rintro e w45 ⟨v862, rfl, ho0, hb⟩; refine ⟨_, rfl, ?_⟩; have n0_ := Aside0.mk (Kd.R_below (kr_ HO_6) hb); have n1_ := Aside0.mk (Kd.R_elder' (kr_ HO_8) (Kd.R_base ho0) hb); have n2_ := Aside0.mk (Kd.R_below (kr_ HO_9) hb); have n3_ := Aside0.mk (Kd.R_below (kr_ HO_10) hb); have n4_ := Aside0.mk (Kd.R_lower (Kd.R_new' ho0 (Kd.R_lt (kr_ HO_8))) (below_size hb_)); have n5_ := Aside0.mk (below_step hb_ hb); clear HO_6; clear HO_8; clear HO_9; clear HO_10; clear HB; have HO_6 := n0_; have HO_8 := n1_; have HO_9 := n2_; have HO_10 := n3_; have HO863 := n4_; have HB := n5_; clear n0_ n1_ n2_ n3_ n4_ n5_; (try clear hb); (try clear hb2); (try clear hk); (try clear hi); (try clear ho0); obtain ⟨Ao46, co46, eo46⟩ := Kd.R_slice HO863.out; subst eo46) | ((with_reducible refine gate_callee (f := 24) rfl ?_); refine goesL_ (some 57) rfl rfl Try.func24 (by kernel_rfl) rfl #[.slice Ao26 t850.length co26, .slice Ao46 t861.length co46] rfl ln_ ?_; (with_reducible refine (laws_eqGearS.calls kj15 _ _ t850 _ _ t861 true _ ?side1 ?side2 ?side3 ?side4 A37.out).mono ?_); (case side1 => repeat (first | exact (Kd.R_reads' HO_8.out).2.2 | (with_reducible refine Kd.C_alloc ?_ _) | (with_reducible refine Kd.C_drewN ?_ _) | (with_reducible refine Kd.C_drew ?_))); (case side2 => exact (Kd.R_reads' HO_8.out).2.1); (case side3 => repeat (first | exact (Kd.R_reads' HO863.out).2.2 | (with_reducible refine Kd.C_alloc ?_ _) | (with_reducible refine Kd.C_drewN ?_ _) | (with_reducible refine Kd.C_drew ?_))); (case side4 => exact (Kd.R_reads' HO863.out).2.1); rintro e w47 ⟨rfl, hb⟩; refine ⟨_, rfl, ?_⟩; have n0_ := Aside0.mk (Kd.R_below (kr_ HO_6) hb); have n1_ := Aside0.mk (Kd.R_below (kr_ HO_8) hb); have n2_ := Aside0.mk (Kd.R_below (kr_ HO_9) hb); have n3_ := Aside0.mk (Kd.R_below (kr_ HO_10) hb); have n4_ := Aside0.mk (Kd.R_below (kr_ HO863) hb); have n5_ := Aside0.mk (below_step hb_ hb); clear HO_6; clear HO_8; clear HO_9; clear HO_10; clear HO863; clear HB; have HO_6 := n0_; have HO_8 := n1_; have HO_9 := n2_; have HO_10 := n3_; have HO863 := n4_; have HB := n5_; clear n0_ n1_ n2_ n3_ n4_ n5_; (try clear hb); (try clear hb2); (try clear hk); (try clear hi)) | ((with_reducible refine gate_callee (f := 17) rfl ?_); refine goesL_ (some 61) rfl rfl Try.func17 (by kernel_rfl) rfl #[.slice A1 l1.length c1] rfl ln_ ?_; (with_reducible refine (laws_toCheckS.calls kj15 _ _ l1 t865 _ ?side1 ?side2 A39.out).mono ?_); (case side1 => exact kc_ (Kd.C_below HR1.out HB.out)); (case side2 => exact HC1.out); rintro e w48 ⟨v866, rfl, ho0, hb⟩; refine ⟨_, rfl, ?_⟩; have n0_ := Aside0.mk (Kd.R_below (kr_ HO_6) hb); have n1_ := Aside0.mk (Kd.R_below (kr_ HO_8) hb); have n2_ := Aside0.mk (Kd.R_elder' (kr_ HO_9) (Kd.R_base ho0) hb); have n3_ := Aside0.mk (Kd.R_below (kr_ HO_10) hb); have n4_ := Aside0.mk (Kd.R_below (kr_ HO863) hb); have n5_ := Aside0.mk (Kd.R_lower (Kd.R_new' ho0 (Kd.R_lt (kr_ HO_9))) (below_size hb_)); have n6_ := Aside0.mk (below_step hb_ hb); clear HO_6; clear HO_8; clear HO_9; clear HO_10; clear HO863; clear HB; have HO_6 := n0_; have HO_8 := n1_; have HO_9 := n2_; have HO_10 := n3_; have HO863 := n4_; have HO867 := n5_; have HB := n6_; clear n0_ n1_ n2_ n3_ n4_ n5_ n6_; (try clear hb); (try clear hb2); (try clear hk); (try clear hi); (try clear ho0); obtain ⟨Ao49, co49, eo49⟩ := Kd.R_slice HO867.out; subst eo49) | ((with_reducible refine gate_callee (f := 19) rfl ?_); refine goesL_ (some 62) rfl rfl Try.func19 (by kernel_rfl) rfl #[.slice Ao27 t853.length co27, .slice Ao49 t865.length co49] rfl ln_ ?_; (with_reducible refine (laws_eqCheckS.calls kj15 _ _ t853 _ _ t865 true _ ?side1 ?side2 ?side3 ?side4 A40.out).mono ?_); (case side1 => repeat (first | exact (Kd.R_reads' HO_9.out).2.2 | (with_reducible refine Kd.C_alloc ?_ _) | (with_reducible refine Kd.C_drewN ?_ _) | (with_reducible refine Kd.C_drew ?_))); (case side2 => exact (Kd.R_reads' HO_9.out).2.1); (case side3 => repeat (first | exact (Kd.R_reads' HO867.out).2.2 | (with_reducible refine Kd.C_alloc ?_ _) | (with_reducible refine Kd.C_drewN ?_ _) | (with_reducible refine Kd.C_drew ?_))); (case side4 => exact (Kd.R_reads' HO867.out).2.1); rintro e w50 ⟨rfl, hb⟩; refine ⟨_, rfl, ?_⟩; have n0_ := Aside0.mk (Kd.R_below (kr_ HO_6) hb); have n1_ := Aside0.mk (Kd.R_below (kr_ HO_8) hb); have n2_ := Aside0.mk (Kd.R_below (kr_ HO_9) hb); have n3_ := Aside0.mk (Kd.R_below (kr_ HO_10) hb); have n4_ := Aside0.mk (Kd.R_below (kr_ HO863) hb); have n5_ := Aside0.mk (Kd.R_below (kr_ HO867) hb); have n6_ := Aside0.mk (below_step hb_ hb); clear HO_6; clear HO_8; clear HO_9; clear HO_10; clear HO863; clear HO867; clear HB; have HO_6 := n0_; have HO_8 := n1_; have HO_9 := n2_; have HO_10 := n3_; have HO863 := n4_; have HO867 := n5_; have HB := n6_; clear n0_ n1_ n2_ n3_ n4_ n5_ n6_; (try clear hb); (try clear hb2); (try clear hk); (try clear hi)) | ((with_reducible refine gate_callee (f := 29) rfl ?_); refine goesL_ (some 66) rfl rfl Try.func29 (by kernel_rfl) rfl #[.slice Ao26 t850.length co26, .int .i64 1] rfl ln_ ?_; (with_reducible refine (laws_markGearS.calls kj15 (fun k_ => some k_ = (.slice Ao26 t850.length co26 : Value).ownBlock) (.slice Ao26 t850.length co26) t850 1 t869 t870 w _ ?side1 ?side2 A42.out).mono ?_); (case side1 => repeat (first | (with_reducible first | exact HB.out | apply below_alloc | apply pw_below_drewN | apply below_drew1) | exact HB.out)); (case side2 => exact Kd.R_tight rfl HO_8.out); rintro e w51 ⟨rfl, hy0, hb, hkp⟩; refine ⟨_, rfl, ?_⟩; have n0_ := Aside0.mk (Kd.R_mono (ok' := fun k_ => some k_ ≠ (v858 : Value).ownBlock) (Kd.R_keptB ((Kd.R_apart' HO_6.out (Kd.R_typed HO_8.out) (by decide))) hkp (fun k_ hk_ hs_ => (hk_.2) hs_)) (fun k_ hk_ => hk_.1.1)); have n1_ := Aside0.mk (Kd.R_reok rfl hy0 (fun k_ e_ => HO_8.out.1 k_ e_)); have n2_ := Aside0.mk (Kd.R_mono (ok' := fun k_ => some k_ ≠ (.slice Ao49 t865.length co49 : Value).ownBlock) (Kd.R_keptB ((Kd.R_apart' HO_9.out (Kd.R_typed HO_8.out) (by decide))) hkp (fun k_ hk_ hs_ => (hk_.2) hs_)) (fun k_ hk_ => hk_.1.1.2)); have n3_ := Aside0.mk (Kd.R_mono (ok' := fun k_ => some k_ ≠ (v848 : Value).ownBlock) (Kd.R_keptB ((Kd.R_apart' HO_10.out (Kd.R_typed HO_8.out) (by decide))) hkp (fun k_ hk_ hs_ => (hk_.2) hs_)) (fun k_ hk_ => hk_.1.1)); have n4_ := Aside0.mk (Kd.R_mono (ok' := fun k_ => some k_ ≠ (.slice Ao26 t850.length co26 : Value).ownBlock) (Kd.R_keptB (HO863.out) hkp (fun k_ hk_ hs_ => (hk_.2) hs_)) (fun k_ hk_ => hk_.1.2)); have n5_ := Aside0.mk (Kd.R_mono (ok' := fun k_ => some k_ ≠ (.slice Ao27 t853.length co27 : Value).ownBlock) (Kd.R_keptB ((Kd.R_apart' HO867.out (Kd.R_typed HO_8.out) (by decide))) hkp (fun k_ hk_ hs_ => (hk_.2) hs_)) (fun k_ hk_ => hk_.1.1.2)); have n6_ := Aside0.mk (hb); clear HO_6; clear HO_8; clear HO_9; clear HO_10; clear HO863; clear HO867; clear HB; have HO_6 := n0_; have HO_8 := n1_; have HO_9 := n2_; have HO_10 := n3_; have HO863 := n4_; have HO867 := n5_; have HB := n6_; clear n0_ n1_ n2_ n3_ n4_ n5_ n6_; (try clear hb); (try clear hkp); (try clear hy0)) | ((with_reducible refine gate_callee (f := 41) rfl ?_); refine goesL_ (some 69) rfl rfl Try.func41 (by kernel_rfl) rfl #[.slice Ao27 t853.length co27, .int .i64 t869] rfl ln_ ?_; (with_reducible refine (laws_markCheckS.calls kj15 (fun k_ => some k_ = (.slice Ao27 t853.length co27 : Value).ownBlock) (.slice Ao27 t853.length co27) t853 t869 t871 t872 w _ ?side1 ?side2 A43.out).mono ?_); (case side1 => repeat (first | (with_reducible first | exact HB.out | apply below_alloc | apply pw_below_drewN | apply below_drew1) | exact HB.out)); (case side2 => exact Kd.R_tight rfl HO_9.out); rintro e w52 ⟨rfl, hy0, hb, hkp⟩; refine ⟨_, rfl, ?_⟩; have n0_ := Aside0.mk (Kd.R_mono (ok' := fun k_ => some k_ ≠ (v858 : Value).ownBlock) (Kd.R_keptB ((Kd.R_apart' HO_6.out (Kd.R_typed HO_9.out) (by decide))) hkp (fun k_ hk_ hs_ => (hk_.2) hs_)) (fun k_ hk_ => hk_.1.1)); have n1_ := Aside0.mk (Kd.R_mono (ok' := fun k_ => some k_ ≠ (.slice Ao46 t861.length co46 : Value).ownBlock) (Kd.R_keptB ((Kd.R_apart' HO_8.out (Kd.R_typed HO_9.out) (by decide))) hkp (fun k_ hk_ hs_ => (hk_.2) hs_)) (fun k_ hk_ => hk_.1.1.2)); have n2_ := Aside0.mk (Kd.R_reok rfl hy0 (fun k_ e_ => HO_9.out.1 k_ e_)); have n3_ := Aside0.mk (Kd.R_mono (ok' := fun k_ => some k_ ≠ (v848 : Value).ownBlock) (Kd.R_keptB ((Kd.R_apart' HO_10.out (Kd.R_typed HO_9.out) (by decide))) hkp (fun k_ hk_ hs_ => (hk_.2) hs_)) (fun k_ hk_ => hk_.1.1)); have n4_ := Aside0.mk (Kd.R_mono (ok' := fun k_ => some k_ ≠ (.slice Ao26 t850.length co26 : Value).ownBlock) (Kd.R_keptB ((Kd.R_apart' HO863.out (Kd.R_typed HO_9.out) (by decide))) hkp (fun k_ hk_ hs_ => (hk_.2) hs_)) (fun k_ hk_ => hk_.1.1)); have n5_ := Aside0.mk (Kd.R_mono (ok' := fun k_ => some k_ ≠ (.slice Ao27 t853.length co27 : Value).ownBlock) (Kd.R_keptB (HO867.out) hkp (fun k_ hk_ hs_ => (hk_) hs_)) (fun k_ hk_ => hk_.1)); have n6_ := Aside0.mk (hb); clear HO_6; clear HO_8; clear HO_9; clear HO_10; clear HO863; clear HO867; clear HB; have HO_6 := n0_; have HO_8 := n1_; have HO_9 := n2_; have HO_10 := n3_; have HO863 := n4_; have HO867 := n5_; have HB := n6_; clear n0_ n1_ n2_ n3_ n4_ n5_ n6_; (try clear hb); (try clear hkp); (try clear hy0)))
        (try simp only [Act.put, List.setIfInBounds_toArray, List.set_cons_zero, List.set_cons_succ])
        go_cut [82] (fun v82 wc => ∃ (kq : Nat) (x82_43 : Bool), v82 = .bool x82_43 ∧ Aside0 (laws_FnExactFasterThanTold.j1 kq l0 l1 t846 t847 t856 x82_43 = some r) ∧ Aside0 (kq ≤ kj15) ∧ Aside0 (Kd.R Kd.string 9 wc w.heap.size (fun k_ => some k_ ≠ (v858 : Value).ownBlock) v848 t846) ∧ Aside0 (Kd.R Kd.string 9 wc w.heap.size (fun k_ => some k_ ≠ (v848 : Value).ownBlock) v858 t856) ∧ Aside0 (Below w.heap.size w wc))
        case first =>
         have H := HC44.out
         clear HC44
         by_cases c53 : t871 < 0
         ·rw [if_pos c53] at H
          have c53b0 : decide (t871 < 0) = true := decide_eq_true c53
          clear c53
          (first | rw [c53b0] | (simp only [i64_w, i32_w]; rw [c53b0]) | skip)
          have H' := Aside0.mk H
          clear H
          go_wp2
          go_meet
          case rel => exact ⟨_, (true), (by first | rfl | (simp; done) | (simp [*]; done)), H', ⟨by have := HJ15.out; first | omega | exact Nat.le_refl _⟩, ⟨by (with_reducible repeat (first | apply Kd.R_alloc | apply Kd.R_drewN | apply Kd.R_drew)); exact HO_6.out⟩, ⟨by (with_reducible repeat (first | apply Kd.R_alloc | apply Kd.R_drewN | apply Kd.R_drew)); exact HO_10.out⟩, ⟨hb_⟩⟩
         ·rw [if_neg c53] at H
          have c53b0 : decide (t871 < 0) = false := decide_eq_false c53
          clear c53
          (first | rw [c53b0] | (simp only [i64_w, i32_w]; rw [c53b0]) | skip)
          replace H := Option.bind_eq_some_iff.mp H
          obtain ⟨t873, A540, H⟩ := H
          replace H : (if t873 = true then (laws_FnExactFasterThanTold.j1 kj15 l0 l1 t846 t847 t856 (t857 != t847)) else (laws_FnExactFasterThanTold.j1 kj15 l0 l1 t846 t847 t856 true)) = some r := H
          have A54 := Aside0.mk A540
          clear A540
          by_cases c55 : t873 = true
          ·subst c55
           have H1 : (laws_FnExactFasterThanTold.j1 kj15 l0 l1 t846 t847 t856 (t857 != t847)) = some r := by rw [if_pos rfl] at H; exact H
           clear H
           have H := H1
           clear H1
           have H' := Aside0.mk H
           clear H
           obtain ⟨Ao56, co56, eo56⟩ := Kd.R_slice HO_10.out
           subst eo56
           obtain ⟨Ao57, co57, eo57⟩ := Kd.R_slice HO_6.out
           subst eo57
           go_wp2_with (first | (go_at_call 45; (with_reducible refine (laws_eqStringS.calls kj15 _ _ t856 _ _ t846 true _ ?side1 ?side2 ?side3 ?side4 A54.out).mono ?_); (case side1 => repeat (first | exact (Kd.R_reads' HO_10.out).2.2 | (with_reducible refine Kd.C_alloc ?_ _) | (with_reducible refine Kd.C_drewN ?_ _) | (with_reducible refine Kd.C_drew ?_))); (case side2 => exact (Kd.R_reads' HO_10.out).2.1); (case side3 => repeat (first | exact (Kd.R_reads' HO_6.out).2.2 | (with_reducible refine Kd.C_alloc ?_ _) | (with_reducible refine Kd.C_drewN ?_ _) | (with_reducible refine Kd.C_drew ?_))); (case side4 => exact (Kd.R_reads' HO_6.out).2.1); rintro e w' ⟨rfl, ⟨nd, rfl⟩⟩))
           go_meet
           case rel => exact ⟨_, ((t857 != t847)), (by first | rfl | (simp; done) | (simp [*]; done)), H', ⟨by have := HJ15.out; first | omega | exact Nat.le_refl _⟩, ⟨by (with_reducible repeat (first | apply Kd.R_alloc | apply Kd.R_drewN | apply Kd.R_drew)); exact HO_6.out⟩, ⟨by (with_reducible repeat (first | apply Kd.R_alloc | apply Kd.R_drewN | apply Kd.R_drew)); exact HO_10.out⟩, ⟨hb_⟩⟩
          ·replace c55 := Bool.eq_false_iff.mpr c55
           subst c55
           have H1 : (laws_FnExactFasterThanTold.j1 kj15 l0 l1 t846 t847 t856 true) = some r := by rw [if_neg (show ¬ (false = true) by decide)] at H; exact H
           clear H
           have H := H1
           clear H1
           have H' := Aside0.mk H
           clear H
           obtain ⟨Ao58, co58, eo58⟩ := Kd.R_slice HO_10.out
           subst eo58
           obtain ⟨Ao59, co59, eo59⟩ := Kd.R_slice HO_6.out
           subst eo59
           go_wp2_with (first | (go_at_call 45; (with_reducible refine (laws_eqStringS.calls kj15 _ _ t856 _ _ t846 false _ ?side1 ?side2 ?side3 ?side4 A54.out).mono ?_); (case side1 => repeat (first | exact (Kd.R_reads' HO_10.out).2.2 | (with_reducible refine Kd.C_alloc ?_ _) | (with_reducible refine Kd.C_drewN ?_ _) | (with_reducible refine Kd.C_drew ?_))); (case side2 => exact (Kd.R_reads' HO_10.out).2.1); (case side3 => repeat (first | exact (Kd.R_reads' HO_6.out).2.2 | (with_reducible refine Kd.C_alloc ?_ _) | (with_reducible refine Kd.C_drewN ?_ _) | (with_reducible refine Kd.C_drew ?_))); (case side4 => exact (Kd.R_reads' HO_6.out).2.1); rintro e w' ⟨rfl, ⟨nd, rfl⟩⟩))
           go_meet
           case rel => exact ⟨_, (true), (by first | rfl | (simp; done) | (simp [*]; done)), H', ⟨by have := HJ15.out; first | omega | exact Nat.le_refl _⟩, ⟨by (with_reducible repeat (first | apply Kd.R_alloc | apply Kd.R_drewN | apply Kd.R_drew)); exact HO_6.out⟩, ⟨by (with_reducible repeat (first | apply Kd.R_alloc | apply Kd.R_drewN | apply Kd.R_drew)); exact HO_10.out⟩, ⟨hb_⟩⟩
        case rest =>
         clear HC44
         try clear c1
         try clear c2
         try clear p2
         try clear c3
         try clear c4
         try clear c4b0
         try clear c5
         try clear c7
         try clear c7b0
         try clear c13
         try clear c15
         try clear c17
         try clear c19
         try clear c20
         try clear c22
         try clear c24
         try clear c29
         try clear c30
         try clear c35
         try clear c38
         try clear c41
         try clear c45
         try clear c51
         try clear c52
         try clear c53
         try clear c53b0
         try clear c55
         try clear p2
         obtain ⟨kq, x82_43, rfl, HA, HJ43, HO_6, HO_10, HB⟩ := hcut
         cases kq with
         | zero => exact absurd HA.out (by simp [laws_FnExactFasterThanTold.j1])
         | succ kj43 =>
          have H := HA.out
          clear HA
          simp only [laws_FnExactFasterThanTold.j1] at H
          by_cases c60 : x82_43 = true
          ·subst c60
           have H1 : (some false) = some r := by rw [if_pos rfl] at H; exact H
           clear H
           have H := H1
           clear H1
           obtain rfl := Option.some.inj H
           go_wp2
           go_ret
           exact ⟨ew_, hb_⟩
          ·replace c60 := Bool.eq_false_iff.mpr c60
           subst c60
           have H1 : ((laws_markStringS.f kj43 t856 1).bind fun bt874 => ((laws_heldStringS.f kj43 bt874.2 1).bind fun t876 => (if t876 < 0 then (some false) else (if t876 = bt874.1 then ((laws_toGearS.f kj43 l0).bind fun t877 => ((laws_toCheckS.f kj43 l1).bind fun t880 => ((impl_FasterThanTold.f kj43 t877 t880).bind fun bt883 => ((laws_eqStringS.f kj43 bt883.1 t846).bind fun t887 => (if t887 = true then (laws_FnExactFasterThanTold.j2 kj43 bt874.2 bt874.1 (bt883.2 != t847)) else (laws_FnExactFasterThanTold.j2 kj43 bt874.2 bt874.1 true)))))) else (some false))))) = some r := by rw [if_neg (show ¬ (false = true) by decide)] at H; exact H
           clear H
           have H := H1
           clear H1
           replace H := Option.bind_eq_some_iff.mp H
           obtain ⟨⟨t874, t875⟩, A610, H⟩ := H
           replace H : ((laws_heldStringS.f kj43 t875 1).bind fun t876 => (if t876 < 0 then (some false) else (if t876 = t874 then ((laws_toGearS.f kj43 l0).bind fun t877 => ((laws_toCheckS.f kj43 l1).bind fun t880 => ((impl_FasterThanTold.f kj43 t877 t880).bind fun bt883 => ((laws_eqStringS.f kj43 bt883.1 t846).bind fun t887 => (if t887 = true then (laws_FnExactFasterThanTold.j2 kj43 t875 t874 (bt883.2 != t847)) else (laws_FnExactFasterThanTold.j2 kj43 t875 t874 true)))))) else (some false)))) = some r := H
           have A61 := Aside0.mk A610
           clear A610
           replace H := Option.bind_eq_some_iff.mp H
           obtain ⟨t876, A620, H⟩ := H
           replace H : (if t876 < 0 then (some false) else (if t876 = t874 then ((laws_toGearS.f kj43 l0).bind fun t877 => ((laws_toCheckS.f kj43 l1).bind fun t880 => ((impl_FasterThanTold.f kj43 t877 t880).bind fun bt883 => ((laws_eqStringS.f kj43 bt883.1 t846).bind fun t887 => (if t887 = true then (laws_FnExactFasterThanTold.j2 kj43 t875 t874 (bt883.2 != t847)) else (laws_FnExactFasterThanTold.j2 kj43 t875 t874 true)))))) else (some false))) = some r := H
           have A62 := Aside0.mk A620
           clear A620
           by_cases c63 : t876 < 0
           ·rw [if_pos c63] at H
            have c63b0 : decide (t876 < 0) = true := decide_eq_true c63
            clear c63
            obtain rfl := Option.some.inj H
            obtain ⟨Ao64, co64, eo64⟩ := Kd.R_slice HO_10.out
            subst eo64
            go_wp2_with (first | ((with_reducible refine gate_callee (f := 46) rfl ?_); refine goesL_ (some 85) rfl rfl Try.func46 (by kernel_rfl) rfl #[.slice Ao64 t856.length co64, .int .i64 1] rfl ln_ ?_; (with_reducible refine (laws_markStringS.calls kj43 (fun k_ => some k_ = (.slice Ao64 t856.length co64 : Value).ownBlock) (.slice Ao64 t856.length co64) t856 1 t874 t875 w _ ?side1 ?side2 A61.out).mono ?_); (case side1 => repeat (first | (with_reducible first | exact HB.out | apply below_alloc | apply pw_below_drewN | apply below_drew1) | exact HB.out)); (case side2 => exact Kd.R_tight rfl HO_10.out); rintro e w65 ⟨rfl, hy0, hb, hkp⟩; refine ⟨_, rfl, ?_⟩; have n0_ := Aside0.mk (Kd.R_mono (ok' := fun k_ => some k_ ≠ (.slice Ao64 t856.length co64 : Value).ownBlock) (Kd.R_keptB (HO_6.out) hkp (fun k_ hk_ hs_ => (hk_) hs_)) (fun k_ hk_ => hk_.1)); have n1_ := Aside0.mk (Kd.R_reok rfl hy0 (fun k_ e_ => HO_10.out.1 k_ e_)); have n2_ := Aside0.mk (hb); clear HO_6; clear HO_10; clear HB; have HO_6 := n0_; have HO_10 := n1_; have HB := n2_; clear n0_ n1_ n2_; (try clear hb); (try clear hkp); (try clear hy0)) | ((with_reducible refine gate_callee (f := 47) rfl ?_); refine goesL_ (some 88) rfl rfl Try.func47 (by kernel_rfl) rfl #[.slice Ao64 t875.length co64, .int .i64 1] rfl (by (try simp only [List.map_toArray, List.map_cons, List.map_nil]); first | done | (rw [show t875.length = t856.length from (Kd.R_reads' HO_10.out).1.symm] <;> rfl) | rfl | (simp only [List.length_drop, List.length_take]; rfl)) ?_; (with_reducible refine (laws_heldStringS.calls kj43 _ _ t875 1 t876 _ ?side1 ?side2 A62.out).mono ?_); (case side1 => repeat (first | exact (Kd.R_reads' HO_10.out).2.2 | (with_reducible refine Kd.C_alloc ?_ _) | (with_reducible refine Kd.C_drewN ?_ _) | (with_reducible refine Kd.C_drew ?_))); (case side2 => rw [show t875.length = t856.length from (Kd.R_reads' HO_10.out).1.symm]; exact (Kd.R_reads' HO_10.out).2.1); rintro e w66 ⟨rfl, hb⟩; refine ⟨_, rfl, ?_⟩; have n0_ := Aside0.mk (Kd.R_below (kr_ HO_6) hb); have n1_ := Aside0.mk (Kd.R_below (kr_ HO_10) hb); have n2_ := Aside0.mk (below_step hb_ hb); clear HO_6; clear HO_10; clear HB; have HO_6 := n0_; have HO_10 := n1_; have HB := n2_; clear n0_ n1_ n2_; (try clear hb); (try clear hb2); (try clear hk); (try clear hi)))
            go_ret
            exact ⟨ew_, hb_⟩
           ·rw [if_neg c63] at H
            have c63b0 : decide (t876 < 0) = false := decide_eq_false c63
            clear c63
            by_cases c67 : t876 = t874
            ·rw [if_pos c67] at H
             have c67b0 : (t876 == t874) = true := beq_iff_eq.mpr c67
             have c67b1 : (t876 != t874) = false := bne_eq_false_iff_eq.mpr c67
             clear c67
             replace H := Option.bind_eq_some_iff.mp H
             obtain ⟨t877, A680, H⟩ := H
             replace H : ((laws_toCheckS.f kj43 l1).bind fun t880 => ((impl_FasterThanTold.f kj43 t877 t880).bind fun bt883 => ((laws_eqStringS.f kj43 bt883.1 t846).bind fun t887 => (if t887 = true then (laws_FnExactFasterThanTold.j2 kj43 t875 t874 (bt883.2 != t847)) else (laws_FnExactFasterThanTold.j2 kj43 t875 t874 true))))) = some r := H
             have A68 := Aside0.mk A680
             clear A680
             replace H := Option.bind_eq_some_iff.mp H
             obtain ⟨t880, A690, H⟩ := H
             replace H : ((impl_FasterThanTold.f kj43 t877 t880).bind fun bt883 => ((laws_eqStringS.f kj43 bt883.1 t846).bind fun t887 => (if t887 = true then (laws_FnExactFasterThanTold.j2 kj43 t875 t874 (bt883.2 != t847)) else (laws_FnExactFasterThanTold.j2 kj43 t875 t874 true)))) = some r := H
             have A69 := Aside0.mk A690
             clear A690
             replace H := Option.bind_eq_some_iff.mp H
             obtain ⟨⟨t883, t884⟩, A700, H⟩ := H
             replace H : ((laws_eqStringS.f kj43 t883 t846).bind fun t887 => (if t887 = true then (laws_FnExactFasterThanTold.j2 kj43 t875 t874 (t884 != t847)) else (laws_FnExactFasterThanTold.j2 kj43 t875 t874 true))) = some r := H
             have A70 := Aside0.mk A700
             clear A700
             have HC71 := Aside0.mk H
             clear H
             obtain ⟨Ao72, co72, eo72⟩ := Kd.R_slice HO_10.out
             subst eo72
             go_upto_region 32 with (first | ((with_reducible refine gate_callee (f := 46) rfl ?_); refine goesL_ (some 85) rfl rfl Try.func46 (by kernel_rfl) rfl #[.slice Ao72 t856.length co72, .int .i64 1] rfl ln_ ?_; (with_reducible refine (laws_markStringS.calls kj43 (fun k_ => some k_ = (.slice Ao72 t856.length co72 : Value).ownBlock) (.slice Ao72 t856.length co72) t856 1 t874 t875 w _ ?side1 ?side2 A61.out).mono ?_); (case side1 => repeat (first | (with_reducible first | exact HB.out | apply below_alloc | apply pw_below_drewN | apply below_drew1) | exact HB.out)); (case side2 => exact Kd.R_tight rfl HO_10.out); rintro e w73 ⟨rfl, hy0, hb, hkp⟩; refine ⟨_, rfl, ?_⟩; have n0_ := Aside0.mk (Kd.R_mono (ok' := fun k_ => some k_ ≠ (.slice Ao72 t856.length co72 : Value).ownBlock) (Kd.R_keptB (HO_6.out) hkp (fun k_ hk_ hs_ => (hk_) hs_)) (fun k_ hk_ => hk_.1)); have n1_ := Aside0.mk (Kd.R_reok rfl hy0 (fun k_ e_ => HO_10.out.1 k_ e_)); have n2_ := Aside0.mk (hb); clear HO_6; clear HO_10; clear HB; have HO_6 := n0_; have HO_10 := n1_; have HB := n2_; clear n0_ n1_ n2_; (try clear hb); (try clear hkp); (try clear hy0)) | ((with_reducible refine gate_callee (f := 47) rfl ?_); refine goesL_ (some 88) rfl rfl Try.func47 (by kernel_rfl) rfl #[.slice Ao72 t875.length co72, .int .i64 1] rfl (by (try simp only [List.map_toArray, List.map_cons, List.map_nil]); first | done | (rw [show t875.length = t856.length from (Kd.R_reads' HO_10.out).1.symm] <;> rfl) | rfl | (simp only [List.length_drop, List.length_take]; rfl)) ?_; (with_reducible refine (laws_heldStringS.calls kj43 _ _ t875 1 t876 _ ?side1 ?side2 A62.out).mono ?_); (case side1 => repeat (first | exact (Kd.R_reads' HO_10.out).2.2 | (with_reducible refine Kd.C_alloc ?_ _) | (with_reducible refine Kd.C_drewN ?_ _) | (with_reducible refine Kd.C_drew ?_))); (case side2 => rw [show t875.length = t856.length from (Kd.R_reads' HO_10.out).1.symm]; exact (Kd.R_reads' HO_10.out).2.1); rintro e w74 ⟨rfl, hb⟩; refine ⟨_, rfl, ?_⟩; have n0_ := Aside0.mk (Kd.R_below (kr_ HO_6) hb); have n1_ := Aside0.mk (Kd.R_below (kr_ HO_10) hb); have n2_ := Aside0.mk (below_step hb_ hb); clear HO_6; clear HO_10; clear HB; have HO_6 := n0_; have HO_10 := n1_; have HB := n2_; clear n0_ n1_ n2_; (try clear hb); (try clear hb2); (try clear hk); (try clear hi)) | ((with_reducible refine gate_callee (f := 22) rfl ?_); refine goesL_ (some 96) rfl rfl Try.func22 (by kernel_rfl) rfl #[.slice A0 l0.length c0] rfl ln_ ?_; (with_reducible refine (laws_toGearS.calls kj43 _ _ l0 t877 _ ?side1 ?side2 A68.out).mono ?_); (case side1 => exact kc_ (Kd.C_below HR0.out HB.out)); (case side2 => exact HC0.out); rintro e w75 ⟨v878, rfl, ho0, hb⟩; refine ⟨_, rfl, ?_⟩; have n0_ := Aside0.mk (Kd.R_below (kr_ HO_6) hb); have n1_ := Aside0.mk (Kd.R_below (kr_ HO_10) hb); have n2_ := Aside0.mk (Kd.R_lower ho0 (below_size hb_)); have n3_ := Aside0.mk (below_step hb_ hb); clear HO_6; clear HO_10; clear HB; have HO_6 := n0_; have HO_10 := n1_; have HO879 := n2_; have HB := n3_; clear n0_ n1_ n2_ n3_; (try clear hb); (try clear hb2); (try clear hk); (try clear hi); (try clear ho0)) | ((with_reducible refine gate_callee (f := 17) rfl ?_); refine goesL_ (some 98) rfl rfl Try.func17 (by kernel_rfl) rfl #[.slice A1 l1.length c1] rfl ln_ ?_; (with_reducible refine (laws_toCheckS.calls kj43 _ _ l1 t880 _ ?side1 ?side2 A69.out).mono ?_); (case side1 => exact kc_ (Kd.C_below HR1.out HB.out)); (case side2 => exact HC1.out); rintro e w76 ⟨v881, rfl, ho0, hb⟩; refine ⟨_, rfl, ?_⟩; have n0_ := Aside0.mk (Kd.R_below (kr_ HO_6) hb); have n1_ := Aside0.mk (Kd.R_below (kr_ HO_10) hb); have n2_ := Aside0.mk (Kd.R_below (kr_ HO879) hb); have n3_ := Aside0.mk (Kd.R_lower ho0 (below_size hb_)); have n4_ := Aside0.mk (below_step hb_ hb); clear HO_6; clear HO_10; clear HO879; clear HB; have HO_6 := n0_; have HO_10 := n1_; have HO879 := n2_; have HO882 := n3_; have HB := n4_; clear n0_ n1_ n2_ n3_ n4_; (try clear hb); (try clear hb2); (try clear hk); (try clear hi); (try clear ho0); obtain ⟨Ao77, co77, eo77⟩ := Kd.R_slice HO879.out; subst eo77; obtain ⟨Ao78, co78, eo78⟩ := Kd.R_slice HO882.out; subst eo78) | ((with_reducible refine gate_callee (f := 52) rfl ?_); refine goesL_ (some 99) rfl rfl Try.func52 (by kernel_rfl) rfl #[.slice Ao77 t877.length co77, .slice Ao78 t880.length co78] rfl ln_ ?_; (with_reducible refine (impl_FasterThanTold.calls kj43 _ _ t877 _ _ t880 t883 t884 _ ?side1 ?side2 ?side3 ?side4 A70.out).mono ?_); (case side1 => repeat (first | exact (Kd.R_reads' HO879.out).2.2 | (with_reducible refine Kd.C_alloc ?_ _) | (with_reducible refine Kd.C_drewN ?_ _) | (with_reducible refine Kd.C_drew ?_))); (case side2 => exact (Kd.R_reads' HO879.out).2.1); (case side3 => repeat (first | exact (Kd.R_reads' HO882.out).2.2 | (with_reducible refine Kd.C_alloc ?_ _) | (with_reducible refine Kd.C_drewN ?_ _) | (with_reducible refine Kd.C_drew ?_))); (case side4 => exact (Kd.R_reads' HO882.out).2.1); rintro e w79 ⟨v885, rfl, ho0, hb⟩; refine ⟨_, rfl, ?_⟩; have n0_ := Aside0.mk (Kd.R_elder' (kr_ HO_6) (Kd.R_base ho0) hb); have n1_ := Aside0.mk (Kd.R_elder' (kr_ HO_10) (Kd.R_base ho0) hb); have n2_ := Aside0.mk (Kd.R_below (kr_ HO879) hb); have n3_ := Aside0.mk (Kd.R_below (kr_ HO882) hb); have n4_ := Aside0.mk (Kd.R_lower (Kd.R_new' (Kd.R_new' ho0 (Kd.R_lt (kr_ HO_6))) (Kd.R_lt (kr_ HO_10))) (below_size hb_)); have n5_ := Aside0.mk (below_step hb_ hb); clear HO_6; clear HO_10; clear HO879; clear HO882; clear HB; have HO_6 := n0_; have HO_10 := n1_; have HO879 := n2_; have HO882 := n3_; have HO886 := n4_; have HB := n5_; clear n0_ n1_ n2_ n3_ n4_ n5_; (try clear hb); (try clear hb2); (try clear hk); (try clear hi); (try clear ho0)))
             (try simp only [Act.put, List.setIfInBounds_toArray, List.set_cons_zero, List.set_cons_succ])
             go_cut [110] (fun v110 wc => ∃ (kq : Nat) (x110_70 : Bool), v110 = .bool x110_70 ∧ Aside0 (laws_FnExactFasterThanTold.j2 kq t875 t874 x110_70 = some r) ∧ Aside0 (kq ≤ kj43) ∧ Aside0 (Kd.R Kd.string 9 wc w.heap.size (fun _ => True) (.slice Ao72 t856.length co72) t875) ∧ Aside0 (Below w.heap.size w wc))
             case first =>
              have H := HC71.out
              clear HC71
              replace H := Option.bind_eq_some_iff.mp H
              obtain ⟨t887, A800, H⟩ := H
              replace H : (if t887 = true then (laws_FnExactFasterThanTold.j2 kj43 t875 t874 (t884 != t847)) else (laws_FnExactFasterThanTold.j2 kj43 t875 t874 true)) = some r := H
              have A80 := Aside0.mk A800
              clear A800
              by_cases c81 : t887 = true
              ·subst c81
               have H1 : (laws_FnExactFasterThanTold.j2 kj43 t875 t874 (t884 != t847)) = some r := by rw [if_pos rfl] at H; exact H
               clear H
               have H := H1
               clear H1
               have H' := Aside0.mk H
               clear H
               obtain ⟨Ao82, co82, eo82⟩ := Kd.R_slice HO886.out
               subst eo82
               obtain ⟨Ao83, co83, eo83⟩ := Kd.R_slice HO_6.out
               subst eo83
               go_wp2_with (first | ((with_reducible refine gate_callee (f := 45) rfl ?_); refine goesL_ (some 104) rfl rfl Try.func45 (by kernel_rfl) rfl #[.slice Ao82 t883.length co82, .slice Ao83 t846.length co83] rfl ln_ ?_; (with_reducible refine (laws_eqStringS.calls kj43 _ _ t883 _ _ t846 true _ ?side1 ?side2 ?side3 ?side4 A80.out).mono ?_); (case side1 => repeat (first | exact (Kd.R_reads' HO886.out).2.2 | (with_reducible refine Kd.C_alloc ?_ _) | (with_reducible refine Kd.C_drewN ?_ _) | (with_reducible refine Kd.C_drew ?_))); (case side2 => exact (Kd.R_reads' HO886.out).2.1); (case side3 => repeat (first | exact (Kd.R_reads' HO_6.out).2.2 | (with_reducible refine Kd.C_alloc ?_ _) | (with_reducible refine Kd.C_drewN ?_ _) | (with_reducible refine Kd.C_drew ?_))); (case side4 => exact (Kd.R_reads' HO_6.out).2.1); rintro e w' ⟨rfl, ⟨nd, rfl⟩⟩; refine ⟨_, rfl, ?_⟩))
               go_meet
               case rel => exact ⟨_, ((t884 != t847)), (by first | rfl | (simp; done) | (simp [*]; done)), H', ⟨by have := HJ15.out; have := HJ43.out; first | omega | exact Nat.le_refl _⟩, ⟨by (with_reducible repeat (first | apply Kd.R_alloc | apply Kd.R_drewN | apply Kd.R_drew)); exact Kd.R_mono HO_10.out (fun _ hk => trivial)⟩, ⟨hb_⟩⟩
              ·replace c81 := Bool.eq_false_iff.mpr c81
               subst c81
               have H1 : (laws_FnExactFasterThanTold.j2 kj43 t875 t874 true) = some r := by rw [if_neg (show ¬ (false = true) by decide)] at H; exact H
               clear H
               have H := H1
               clear H1
               have H' := Aside0.mk H
               clear H
               obtain ⟨Ao84, co84, eo84⟩ := Kd.R_slice HO886.out
               subst eo84
               obtain ⟨Ao85, co85, eo85⟩ := Kd.R_slice HO_6.out
               subst eo85
               go_wp2_with (first | ((with_reducible refine gate_callee (f := 45) rfl ?_); refine goesL_ (some 104) rfl rfl Try.func45 (by kernel_rfl) rfl #[.slice Ao84 t883.length co84, .slice Ao85 t846.length co85] rfl ln_ ?_; (with_reducible refine (laws_eqStringS.calls kj43 _ _ t883 _ _ t846 false _ ?side1 ?side2 ?side3 ?side4 A80.out).mono ?_); (case side1 => repeat (first | exact (Kd.R_reads' HO886.out).2.2 | (with_reducible refine Kd.C_alloc ?_ _) | (with_reducible refine Kd.C_drewN ?_ _) | (with_reducible refine Kd.C_drew ?_))); (case side2 => exact (Kd.R_reads' HO886.out).2.1); (case side3 => repeat (first | exact (Kd.R_reads' HO_6.out).2.2 | (with_reducible refine Kd.C_alloc ?_ _) | (with_reducible refine Kd.C_drewN ?_ _) | (with_reducible refine Kd.C_drew ?_))); (case side4 => exact (Kd.R_reads' HO_6.out).2.1); rintro e w' ⟨rfl, ⟨nd, rfl⟩⟩; refine ⟨_, rfl, ?_⟩))
               go_meet
               case rel => exact ⟨_, (true), (by first | rfl | (simp; done) | (simp [*]; done)), H', ⟨by have := HJ15.out; have := HJ43.out; first | omega | exact Nat.le_refl _⟩, ⟨by (with_reducible repeat (first | apply Kd.R_alloc | apply Kd.R_drewN | apply Kd.R_drew)); exact Kd.R_mono HO_10.out (fun _ hk => trivial)⟩, ⟨hb_⟩⟩
             case rest =>
              clear HC71
              try clear c1
              try clear c2
              try clear p2
              try clear c3
              try clear c4
              try clear c4b0
              try clear c5
              try clear c6
              try clear c7
              try clear c7b0
              try clear c8
              try clear c13
              try clear c15
              try clear c17
              try clear c19
              try clear c20
              try clear c22
              try clear c24
              try clear c29
              try clear c30
              try clear c35
              try clear c38
              try clear c41
              try clear c45
              try clear c46
              try clear c47
              try clear c51
              try clear c52
              try clear c53
              try clear c53b0
              try clear c55
              try clear c60
              try clear c63
              try clear c63b0
              try clear c67
              try clear c67b0
              try clear c67b1
              try clear c81
              try clear p2
              obtain ⟨kq, x110_70, rfl, HA, HJ70, HO_10, HB⟩ := hcut
              have hl10_70 := (Kd.R_reads' HO_10.out).1
              rw [hl10_70] at HO_10
              (try simp only [hl10_70])
              cases kq with
              | zero => exact absurd HA.out (by simp [laws_FnExactFasterThanTold.j2])
              | succ kj70 =>
               have H := HA.out
               clear HA
               simp only [laws_FnExactFasterThanTold.j2] at H
               by_cases c86 : x110_70 = true
               ·subst c86
                have H1 : (some false) = some r := by rw [if_pos rfl] at H; exact H
                clear H
                have H := H1
                clear H1
                obtain rfl := Option.some.inj H
                go_wp2
                go_ret
                exact ⟨ew_, hb_⟩
               ·replace c86 := Bool.eq_false_iff.mpr c86
                subst c86
                have H1 : ((laws_heldStringS.f kj70 t875 1).bind fun t888 => (if t888 < 0 then (some false) else (if t888 = t874 then (some true) else (some false)))) = some r := by rw [if_neg (show ¬ (false = true) by decide)] at H; exact H
                clear H
                have H := H1
                clear H1
                replace H := Option.bind_eq_some_iff.mp H
                obtain ⟨t888, A870, H⟩ := H
                replace H : (if t888 < 0 then (some false) else (if t888 = t874 then (some true) else (some false))) = some r := H
                have A87 := Aside0.mk A870
                clear A870
                by_cases c88 : t888 < 0
                ·rw [if_pos c88] at H
                 have c88b0 : decide (t888 < 0) = true := decide_eq_true c88
                 clear c88
                 obtain rfl := Option.some.inj H
                 go_wp2_with (first | ((with_reducible refine gate_callee (f := 47) rfl ?_); refine goesL_ (some 113) rfl rfl Try.func47 (by kernel_rfl) rfl #[.slice Ao72 t875.length co72, .int .i64 1] rfl ln_ ?_; (with_reducible refine (laws_heldStringS.calls kj70 _ _ t875 1 t888 _ ?side1 ?side2 A87.out).mono ?_); (case side1 => repeat (first | exact (Kd.R_reads' HO_10.out).2.2 | (with_reducible refine Kd.C_alloc ?_ _) | (with_reducible refine Kd.C_drewN ?_ _) | (with_reducible refine Kd.C_drew ?_))); (case side2 => exact (Kd.R_reads' HO_10.out).2.1); rintro e w89 ⟨rfl, hb⟩; refine ⟨_, rfl, ?_⟩; have n0_ := Aside0.mk (Kd.R_below (kr_ HO_10) hb); have n1_ := Aside0.mk (below_step hb_ hb); clear HO_10; clear HB; have HO_10 := n0_; have HB := n1_; clear n0_ n1_; (try clear hb); (try clear hb2); (try clear hk); (try clear hi)))
                 go_ret
                 exact ⟨ew_, hb_⟩
                ·rw [if_neg c88] at H
                 have c88b0 : decide (t888 < 0) = false := decide_eq_false c88
                 clear c88
                 by_cases c90 : t888 = t874
                 ·rw [if_pos c90] at H
                  have c90b0 : (t888 == t874) = true := beq_iff_eq.mpr c90
                  have c90b1 : (t888 != t874) = false := bne_eq_false_iff_eq.mpr c90
                  clear c90
                  obtain rfl := Option.some.inj H
                  go_wp2_with (first | ((with_reducible refine gate_callee (f := 47) rfl ?_); refine goesL_ (some 113) rfl rfl Try.func47 (by kernel_rfl) rfl #[.slice Ao72 t875.length co72, .int .i64 1] rfl ln_ ?_; (with_reducible refine (laws_heldStringS.calls kj70 _ _ t875 1 t888 _ ?side1 ?side2 A87.out).mono ?_); (case side1 => repeat (first | exact (Kd.R_reads' HO_10.out).2.2 | (with_reducible refine Kd.C_alloc ?_ _) | (with_reducible refine Kd.C_drewN ?_ _) | (with_reducible refine Kd.C_drew ?_))); (case side2 => exact (Kd.R_reads' HO_10.out).2.1); rintro e w91 ⟨rfl, hb⟩; refine ⟨_, rfl, ?_⟩; have n0_ := Aside0.mk (Kd.R_below (kr_ HO_10) hb); have n1_ := Aside0.mk (below_step hb_ hb); clear HO_10; clear HB; have HO_10 := n0_; have HB := n1_; clear n0_ n1_; (try clear hb); (try clear hb2); (try clear hk); (try clear hi)))
                  go_ret
                  exact ⟨ew_, hb_⟩
                 ·rw [if_neg c90] at H
                  have c90b0 : (t888 == t874) = false := beq_eq_false_iff_ne.mpr c90
                  have c90b1 : (t888 != t874) = true := bne_iff_ne.mpr c90
                  obtain rfl := Option.some.inj H
                  go_wp2_with (first | ((with_reducible refine gate_callee (f := 47) rfl ?_); refine goesL_ (some 113) rfl rfl Try.func47 (by kernel_rfl) rfl #[.slice Ao72 t875.length co72, .int .i64 1] rfl ln_ ?_; (with_reducible refine (laws_heldStringS.calls kj70 _ _ t875 1 t888 _ ?side1 ?side2 A87.out).mono ?_); (case side1 => repeat (first | exact (Kd.R_reads' HO_10.out).2.2 | (with_reducible refine Kd.C_alloc ?_ _) | (with_reducible refine Kd.C_drewN ?_ _) | (with_reducible refine Kd.C_drew ?_))); (case side2 => exact (Kd.R_reads' HO_10.out).2.1); rintro e w92 ⟨rfl, hb⟩; refine ⟨_, rfl, ?_⟩; have n0_ := Aside0.mk (Kd.R_below (kr_ HO_10) hb); have n1_ := Aside0.mk (below_step hb_ hb); clear HO_10; clear HB; have HO_10 := n0_; have HB := n1_; clear n0_ n1_; (try clear hb); (try clear hb2); (try clear hk); (try clear hi)))
                  go_ret
                  exact ⟨ew_, hb_⟩
            ·rw [if_neg c67] at H
             have c67b0 : (t876 == t874) = false := beq_eq_false_iff_ne.mpr c67
             have c67b1 : (t876 != t874) = true := bne_iff_ne.mpr c67
             obtain rfl := Option.some.inj H
             obtain ⟨Ao93, co93, eo93⟩ := Kd.R_slice HO_10.out
             subst eo93
             go_wp2_with (first | ((with_reducible refine gate_callee (f := 46) rfl ?_); refine goesL_ (some 85) rfl rfl Try.func46 (by kernel_rfl) rfl #[.slice Ao93 t856.length co93, .int .i64 1] rfl ln_ ?_; (with_reducible refine (laws_markStringS.calls kj43 (fun k_ => some k_ = (.slice Ao93 t856.length co93 : Value).ownBlock) (.slice Ao93 t856.length co93) t856 1 t874 t875 w _ ?side1 ?side2 A61.out).mono ?_); (case side1 => repeat (first | (with_reducible first | exact HB.out | apply below_alloc | apply pw_below_drewN | apply below_drew1) | exact HB.out)); (case side2 => exact Kd.R_tight rfl HO_10.out); rintro e w94 ⟨rfl, hy0, hb, hkp⟩; refine ⟨_, rfl, ?_⟩; have n0_ := Aside0.mk (Kd.R_mono (ok' := fun k_ => some k_ ≠ (.slice Ao93 t856.length co93 : Value).ownBlock) (Kd.R_keptB (HO_6.out) hkp (fun k_ hk_ hs_ => (hk_) hs_)) (fun k_ hk_ => hk_.1)); have n1_ := Aside0.mk (Kd.R_reok rfl hy0 (fun k_ e_ => HO_10.out.1 k_ e_)); have n2_ := Aside0.mk (hb); clear HO_6; clear HO_10; clear HB; have HO_6 := n0_; have HO_10 := n1_; have HB := n2_; clear n0_ n1_ n2_; (try clear hb); (try clear hkp); (try clear hy0)) | ((with_reducible refine gate_callee (f := 47) rfl ?_); refine goesL_ (some 88) rfl rfl Try.func47 (by kernel_rfl) rfl #[.slice Ao93 t875.length co93, .int .i64 1] rfl (by (try simp only [List.map_toArray, List.map_cons, List.map_nil]); first | done | (rw [show t875.length = t856.length from (Kd.R_reads' HO_10.out).1.symm] <;> rfl) | rfl | (simp only [List.length_drop, List.length_take]; rfl)) ?_; (with_reducible refine (laws_heldStringS.calls kj43 _ _ t875 1 t876 _ ?side1 ?side2 A62.out).mono ?_); (case side1 => repeat (first | exact (Kd.R_reads' HO_10.out).2.2 | (with_reducible refine Kd.C_alloc ?_ _) | (with_reducible refine Kd.C_drewN ?_ _) | (with_reducible refine Kd.C_drew ?_))); (case side2 => rw [show t875.length = t856.length from (Kd.R_reads' HO_10.out).1.symm]; exact (Kd.R_reads' HO_10.out).2.1); rintro e w95 ⟨rfl, hb⟩; refine ⟨_, rfl, ?_⟩; have n0_ := Aside0.mk (Kd.R_below (kr_ HO_6) hb); have n1_ := Aside0.mk (Kd.R_below (kr_ HO_10) hb); have n2_ := Aside0.mk (below_step hb_ hb); clear HO_6; clear HO_10; clear HB; have HO_6 := n0_; have HO_10 := n1_; have HB := n2_; clear n0_ n1_ n2_; (try clear hb); (try clear hb2); (try clear hk); (try clear hi)))
             go_ret
             exact ⟨ew_, hb_⟩
       ·replace c41 := Bool.eq_false_iff.mpr c41
        subst c41
        have H1 : (some false) = some r := by rw [if_neg (show ¬ (false = true) by decide)] at H; exact H
        clear H
        have H := H1
        clear H1
        obtain rfl := Option.some.inj H
        go_wp2_with (first | ((with_reducible refine gate_callee (f := 22) rfl ?_); refine goesL_ (some 56) rfl rfl Try.func22 (by kernel_rfl) rfl #[.slice A0 l0.length c0] rfl ln_ ?_; (with_reducible refine (laws_toGearS.calls kj15 _ _ l0 t861 _ ?side1 ?side2 A36.out).mono ?_); (case side1 => exact kc_ (Kd.C_below HR0.out HB.out)); (case side2 => exact HC0.out); rintro e w96 ⟨v862, rfl, ho0, hb⟩; refine ⟨_, rfl, ?_⟩; have n0_ := Aside0.mk (Kd.R_below (kr_ HO_6) hb); have n1_ := Aside0.mk (Kd.R_elder' (kr_ HO_8) (Kd.R_base ho0) hb); have n2_ := Aside0.mk (Kd.R_below (kr_ HO_9) hb); have n3_ := Aside0.mk (Kd.R_below (kr_ HO_10) hb); have n4_ := Aside0.mk (Kd.R_lower (Kd.R_new' ho0 (Kd.R_lt (kr_ HO_8))) (below_size hb_)); have n5_ := Aside0.mk (below_step hb_ hb); clear HO_6; clear HO_8; clear HO_9; clear HO_10; clear HB; have HO_6 := n0_; have HO_8 := n1_; have HO_9 := n2_; have HO_10 := n3_; have HO863 := n4_; have HB := n5_; clear n0_ n1_ n2_ n3_ n4_ n5_; (try clear hb); (try clear hb2); (try clear hk); (try clear hi); (try clear ho0); obtain ⟨Ao97, co97, eo97⟩ := Kd.R_slice HO863.out; subst eo97) | ((with_reducible refine gate_callee (f := 24) rfl ?_); refine goesL_ (some 57) rfl rfl Try.func24 (by kernel_rfl) rfl #[.slice Ao26 t850.length co26, .slice Ao97 t861.length co97] rfl ln_ ?_; (with_reducible refine (laws_eqGearS.calls kj15 _ _ t850 _ _ t861 true _ ?side1 ?side2 ?side3 ?side4 A37.out).mono ?_); (case side1 => repeat (first | exact (Kd.R_reads' HO_8.out).2.2 | (with_reducible refine Kd.C_alloc ?_ _) | (with_reducible refine Kd.C_drewN ?_ _) | (with_reducible refine Kd.C_drew ?_))); (case side2 => exact (Kd.R_reads' HO_8.out).2.1); (case side3 => repeat (first | exact (Kd.R_reads' HO863.out).2.2 | (with_reducible refine Kd.C_alloc ?_ _) | (with_reducible refine Kd.C_drewN ?_ _) | (with_reducible refine Kd.C_drew ?_))); (case side4 => exact (Kd.R_reads' HO863.out).2.1); rintro e w98 ⟨rfl, hb⟩; refine ⟨_, rfl, ?_⟩; have n0_ := Aside0.mk (Kd.R_below (kr_ HO_6) hb); have n1_ := Aside0.mk (Kd.R_below (kr_ HO_8) hb); have n2_ := Aside0.mk (Kd.R_below (kr_ HO_9) hb); have n3_ := Aside0.mk (Kd.R_below (kr_ HO_10) hb); have n4_ := Aside0.mk (Kd.R_below (kr_ HO863) hb); have n5_ := Aside0.mk (below_step hb_ hb); clear HO_6; clear HO_8; clear HO_9; clear HO_10; clear HO863; clear HB; have HO_6 := n0_; have HO_8 := n1_; have HO_9 := n2_; have HO_10 := n3_; have HO863 := n4_; have HB := n5_; clear n0_ n1_ n2_ n3_ n4_ n5_; (try clear hb); (try clear hb2); (try clear hk); (try clear hi)) | ((with_reducible refine gate_callee (f := 17) rfl ?_); refine goesL_ (some 61) rfl rfl Try.func17 (by kernel_rfl) rfl #[.slice A1 l1.length c1] rfl ln_ ?_; (with_reducible refine (laws_toCheckS.calls kj15 _ _ l1 t865 _ ?side1 ?side2 A39.out).mono ?_); (case side1 => exact kc_ (Kd.C_below HR1.out HB.out)); (case side2 => exact HC1.out); rintro e w99 ⟨v866, rfl, ho0, hb⟩; refine ⟨_, rfl, ?_⟩; have n0_ := Aside0.mk (Kd.R_below (kr_ HO_6) hb); have n1_ := Aside0.mk (Kd.R_below (kr_ HO_8) hb); have n2_ := Aside0.mk (Kd.R_elder' (kr_ HO_9) (Kd.R_base ho0) hb); have n3_ := Aside0.mk (Kd.R_below (kr_ HO_10) hb); have n4_ := Aside0.mk (Kd.R_below (kr_ HO863) hb); have n5_ := Aside0.mk (Kd.R_lower (Kd.R_new' ho0 (Kd.R_lt (kr_ HO_9))) (below_size hb_)); have n6_ := Aside0.mk (below_step hb_ hb); clear HO_6; clear HO_8; clear HO_9; clear HO_10; clear HO863; clear HB; have HO_6 := n0_; have HO_8 := n1_; have HO_9 := n2_; have HO_10 := n3_; have HO863 := n4_; have HO867 := n5_; have HB := n6_; clear n0_ n1_ n2_ n3_ n4_ n5_ n6_; (try clear hb); (try clear hb2); (try clear hk); (try clear hi); (try clear ho0); obtain ⟨Ao100, co100, eo100⟩ := Kd.R_slice HO867.out; subst eo100) | ((with_reducible refine gate_callee (f := 19) rfl ?_); refine goesL_ (some 62) rfl rfl Try.func19 (by kernel_rfl) rfl #[.slice Ao27 t853.length co27, .slice Ao100 t865.length co100] rfl ln_ ?_; (with_reducible refine (laws_eqCheckS.calls kj15 _ _ t853 _ _ t865 false _ ?side1 ?side2 ?side3 ?side4 A40.out).mono ?_); (case side1 => repeat (first | exact (Kd.R_reads' HO_9.out).2.2 | (with_reducible refine Kd.C_alloc ?_ _) | (with_reducible refine Kd.C_drewN ?_ _) | (with_reducible refine Kd.C_drew ?_))); (case side2 => exact (Kd.R_reads' HO_9.out).2.1); (case side3 => repeat (first | exact (Kd.R_reads' HO867.out).2.2 | (with_reducible refine Kd.C_alloc ?_ _) | (with_reducible refine Kd.C_drewN ?_ _) | (with_reducible refine Kd.C_drew ?_))); (case side4 => exact (Kd.R_reads' HO867.out).2.1); rintro e w101 ⟨rfl, hb⟩; refine ⟨_, rfl, ?_⟩; have n0_ := Aside0.mk (Kd.R_below (kr_ HO_6) hb); have n1_ := Aside0.mk (Kd.R_below (kr_ HO_8) hb); have n2_ := Aside0.mk (Kd.R_below (kr_ HO_9) hb); have n3_ := Aside0.mk (Kd.R_below (kr_ HO_10) hb); have n4_ := Aside0.mk (Kd.R_below (kr_ HO863) hb); have n5_ := Aside0.mk (Kd.R_below (kr_ HO867) hb); have n6_ := Aside0.mk (below_step hb_ hb); clear HO_6; clear HO_8; clear HO_9; clear HO_10; clear HO863; clear HO867; clear HB; have HO_6 := n0_; have HO_8 := n1_; have HO_9 := n2_; have HO_10 := n3_; have HO863 := n4_; have HO867 := n5_; have HB := n6_; clear n0_ n1_ n2_ n3_ n4_ n5_ n6_; (try clear hb); (try clear hb2); (try clear hk); (try clear hi)))
        go_ret
        exact ⟨ew_, hb_⟩
      ·replace c38 := Bool.eq_false_iff.mpr c38
       subst c38
       have H1 : (some false) = some r := by rw [if_neg (show ¬ (false = true) by decide)] at H; exact H
       clear H
       have H := H1
       clear H1
       obtain rfl := Option.some.inj H
       go_wp2_with (first | ((with_reducible refine gate_callee (f := 22) rfl ?_); refine goesL_ (some 56) rfl rfl Try.func22 (by kernel_rfl) rfl #[.slice A0 l0.length c0] rfl ln_ ?_; (with_reducible refine (laws_toGearS.calls kj15 _ _ l0 t861 _ ?side1 ?side2 A36.out).mono ?_); (case side1 => exact kc_ (Kd.C_below HR0.out HB.out)); (case side2 => exact HC0.out); rintro e w102 ⟨v862, rfl, ho0, hb⟩; refine ⟨_, rfl, ?_⟩; have n0_ := Aside0.mk (Kd.R_below (kr_ HO_6) hb); have n1_ := Aside0.mk (Kd.R_elder' (kr_ HO_8) (Kd.R_base ho0) hb); have n2_ := Aside0.mk (Kd.R_below (kr_ HO_9) hb); have n3_ := Aside0.mk (Kd.R_below (kr_ HO_10) hb); have n4_ := Aside0.mk (Kd.R_lower (Kd.R_new' ho0 (Kd.R_lt (kr_ HO_8))) (below_size hb_)); have n5_ := Aside0.mk (below_step hb_ hb); clear HO_6; clear HO_8; clear HO_9; clear HO_10; clear HB; have HO_6 := n0_; have HO_8 := n1_; have HO_9 := n2_; have HO_10 := n3_; have HO863 := n4_; have HB := n5_; clear n0_ n1_ n2_ n3_ n4_ n5_; (try clear hb); (try clear hb2); (try clear hk); (try clear hi); (try clear ho0); obtain ⟨Ao103, co103, eo103⟩ := Kd.R_slice HO863.out; subst eo103) | ((with_reducible refine gate_callee (f := 24) rfl ?_); refine goesL_ (some 57) rfl rfl Try.func24 (by kernel_rfl) rfl #[.slice Ao26 t850.length co26, .slice Ao103 t861.length co103] rfl ln_ ?_; (with_reducible refine (laws_eqGearS.calls kj15 _ _ t850 _ _ t861 false _ ?side1 ?side2 ?side3 ?side4 A37.out).mono ?_); (case side1 => repeat (first | exact (Kd.R_reads' HO_8.out).2.2 | (with_reducible refine Kd.C_alloc ?_ _) | (with_reducible refine Kd.C_drewN ?_ _) | (with_reducible refine Kd.C_drew ?_))); (case side2 => exact (Kd.R_reads' HO_8.out).2.1); (case side3 => repeat (first | exact (Kd.R_reads' HO863.out).2.2 | (with_reducible refine Kd.C_alloc ?_ _) | (with_reducible refine Kd.C_drewN ?_ _) | (with_reducible refine Kd.C_drew ?_))); (case side4 => exact (Kd.R_reads' HO863.out).2.1); rintro e w104 ⟨rfl, hb⟩; refine ⟨_, rfl, ?_⟩; have n0_ := Aside0.mk (Kd.R_below (kr_ HO_6) hb); have n1_ := Aside0.mk (Kd.R_below (kr_ HO_8) hb); have n2_ := Aside0.mk (Kd.R_below (kr_ HO_9) hb); have n3_ := Aside0.mk (Kd.R_below (kr_ HO_10) hb); have n4_ := Aside0.mk (Kd.R_below (kr_ HO863) hb); have n5_ := Aside0.mk (below_step hb_ hb); clear HO_6; clear HO_8; clear HO_9; clear HO_10; clear HO863; clear HB; have HO_6 := n0_; have HO_8 := n1_; have HO_9 := n2_; have HO_10 := n3_; have HO863 := n4_; have HB := n5_; clear n0_ n1_ n2_ n3_ n4_ n5_; (try clear hb); (try clear hb2); (try clear hk); (try clear hi)))
       go_ret
       exact ⟨ew_, hb_⟩

end Go.Proofs.Ytdbigcfpinpnpaa.P
