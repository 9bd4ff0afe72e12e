/- Texts of this claim, packed: Px30. -/
import Derived.Test.YtkegmjebkikniaaZFnRenewals6
section
-- Written by gprint.py (own program, over the printer of the kit) out of the translation. Lean checks it.
namespace Go.Proofs.Ytkegmjebkikniaa.P
open Go.RowKit Go.Proofs.YtkegmjebkikniaaW.PrintWords Go.Proofs.YtkegmjebkikniaaW.PrintLast Go.Proofs.YtkegmjebkikniaaW.PrintMore Go.Proofs.YtkegmjebkikniaaW.Pk
open Bool renaming true → T_, false → F_
open List renaming setIfInBounds_toArray → sT_, set_cons_zero → s0_, set_cons_succ → sS_
attribute [local go_sem] max2_int min2_int max_two min_two max_three min_three max_four min_four   -- for this text's walks alone
set_option linter.unusedVariables false
set_option linter.unusedSimpArgs false

/-! ### impl_LateRenewals: function 41 -/
def impl_LateRenewals.l0 : Nat → List (S55) → List Int → List Int → Int → Int → Option (List Int × Int)
 | 0, _, _, _, _, _ => none
 | k + 1, x0, x7, x19, x20, x21 => if x21 < x20 then (if 0 ≤ x21 then (if x21 < (x19.length : Int) then (if x21 < (x0.length : Int) then (if (rd x19 x21) > ((rd_T55 x0 x21).f2) then (if x7.length < 17592186044416 then (impl_LateRenewals.l0 k x0 (x7 ++ [x21]) x19 x20 (wrap64 (x21 + 1))) else (none)) else (impl_LateRenewals.l0 k x0 x7 x19 x20 (wrap64 (x21 + 1)))) else (none)) else (none)) else (none)) else (some (x7, 0))
def impl_LateRenewals.f (k : Nat) (l0 : List (S55)) (l1 : List Int) : Option (List Int × Int) := (impl_orderCode.f k l0 l1).bind fun t466 => (if t466 = 0 then ((impl_endsOf.f k l0 l1).bind fun t470 => (impl_LateRenewals.l0 k l0 (([] : List Int)) t470 (t470.length : Int) 0)) else (some (([] : List Int), t466)))
set_option maxHeartbeats 8000000 in
set_option maxRecDepth 100000 in
theorem impl_LateRenewals.calls (k : Nat) (A0 : Option Addr) (c0 : Nat) (l0 : List (S55)) (A1 : Option Addr) (c1 : Nat) (l1 : List Int) (r1 : List Int) (r2 : Int) (w : World) (hr0 : Kd.C k55 w A0 l0.length l0) (hc0 : l0.length ≤ c0) (hr1 : Kd.C (Kd.int .i64) w A1 l1.length l1) (hc1 : l1.length ≤ c1) (h : impl_LateRenewals.f k l0 l1 = some (r1, r2)) :
  Calls Try.prog 41 #[.slice A0 l0.length c0, .slice A1 l1.length c1] w fun e w' => ∃ v0_ : Value, e = .returned (.tuple #[v0_, .int .i64 r2]) ∧ Kd.R (Kd.int .i64) 2 w' w.heap.size (fun _ => True) v0_ r1 ∧ Below w.heap.size w w' := by
 have HR0 := Aside0.mk hr0
 have HC0 := Aside0.mk hc0
 clear hr0 hc0
 have HR1 := Aside0.mk hr1
 have HC1 := Aside0.mk hc1
 clear hr1 hc1
 have HB := Aside0.mk (Below.refl w.heap.size w)
 have H : ((impl_orderCode.f k l0 l1).bind fun t466 => (if t466 = 0 then ((impl_endsOf.f k l0 l1).bind fun t470 => (impl_LateRenewals.l0 k l0 (([] : List Int)) t470 (t470.length : Int) 0)) else (some (([] : List Int), t466)))) = some (r1, r2) := h
 clear h
 replace H := Option.bind_eq_some_iff.mp H
 obtain ⟨t466, A30, H⟩ := H
 replace H : (if t466 = 0 then ((impl_endsOf.f k l0 l1).bind fun t470 => (impl_LateRenewals.l0 k l0 (([] : List Int)) t470 (t470.length : Int) 0)) else (some (([] : List Int), t466))) = some (r1, r2) := H
 have A3 := Aside0.mk A30
 clear A30
 by_cases c4 : t466 = 0
 ·rw [if_pos c4] at H
  have c4b0 : (t466 == 0) = true := beq_iff_eq.mpr c4
  have c4b1 : (t466 != 0) = false := bne_eq_false_iff_eq.mpr c4
  clear c4
  obtain ⟨y467, hy467⟩ : ∃ y_ : List Int, y_ = (([] : List Int)) := ⟨_, rfl⟩
  replace H : ((impl_endsOf.f k l0 l1).bind fun t470 => (impl_LateRenewals.l0 k l0 y467 t470 (t470.length : Int) 0)) = some (r1, r2) := by first | (rw [hy467]; with_reducible exact H) | (have H2_ := (Option.bind_some _ _).symm.trans H; rw [hy467]; with_reducible exact H2_) | (have H2_ := (Option.bind_some _ _).symm.trans H; with_reducible exact H2_) | with_reducible exact H | (rw [hy467]; exact H) | exact H
  have Ny467 := Aside0.mk hy467
  clear hy467
  replace H := Option.bind_eq_some_iff.mp H
  obtain ⟨t470, A50, H⟩ := H
  replace H : (impl_LateRenewals.l0 k l0 y467 t470 (t470.length : Int) 0) = some (r1, r2) := H
  have A5 := Aside0.mk A50
  clear A50
  have H' := Aside0.mk H
  clear H
  go_enter Try.func41, Try.ntmps41
  go_wp2_with (first | ((with_reducible refine gate_callee (f := 70) rfl ?_); refine goesL_ (some 12) rfl rfl Try.func70 (by kernel_rfl) rfl #[.slice A0 l0.length c0, .slice A1 l1.length c1] rfl ln_ ?_; (with_reducible refine (impl_orderCode.calls k _ _ l0 _ _ l1 t466 _ ?side1 ?side2 ?side3 ?side4 A3.out).mono ?_); (case side1 => exact kc_ HR0.out); (case side2 => exact HC0.out); (case side3 => exact kc_ HR1.out); (case side4 => exact HC1.out); rintro e w6 ⟨rfl, hb⟩; refine ⟨_, rfl, ?_⟩; have n0_ := Aside0.mk (below_step hb_ hb); clear HB; have HB := n0_; clear n0_; (try clear hb); (try clear hb2); (try clear hk); (try clear hi)) | ((with_reducible refine gate_dst (N := 16) rfl ?_); refine Kd.R_lit (Kd.int .i64) _ 2 ?hg (N := 16) ?hd (xs := ([] : List Int)) (inner := []) (ok := fun _ => True) (okp := fun _ => True) ?hr ?hp (fun _ hk => hk) trivial (Below.refl _ _) (Nat.le_refl _) (by simp) ?_; (case hd => rfl); (case hg => rfl); (case hr => first | (go_simp; done) | (go_simp; rfl)); (case hp => exact (Reps.none _ _)); intro v468 w7 ho8 hb hg_ hnew_; clear hg_ hnew_; (first | rw [← Ny467.out] at ho8 | (simp only [Int.reduceToNat] at ho8; rw [← Ny467.out] at ho8)); have n0_ := Aside0.mk (Kd.R_lower ho8 (below_size hb_)); have n1_ := Aside0.mk (below_step hb_ hb); clear HB; have HO469 := n0_; have HB := n1_; clear n0_ n1_; clear hb ho8) | ((with_reducible refine gate_callee (f := 66) rfl ?_); refine goesL_ (some 19) rfl rfl Try.func66 (by kernel_rfl) rfl #[.slice A0 l0.length c0, .slice A1 l1.length c1] rfl ln_ ?_; (with_reducible refine (impl_endsOf.calls k _ _ l0 _ _ l1 t470 _ ?side1 ?side2 ?side3 ?side4 A5.out).mono ?_); (case side1 => exact kc_ (Kd.C_below HR0.out HB.out)); (case side2 => exact HC0.out); (case side3 => exact kc_ (Kd.C_below HR1.out HB.out)); (case side4 => exact HC1.out); rintro e w9 ⟨v471, rfl, ho0, hb⟩; refine ⟨_, rfl, ?_⟩; have n0_ := Aside0.mk (Kd.R_elder' (kr_ HO469) (Kd.R_base ho0) hb); have n1_ := Aside0.mk (Kd.R_lower (Kd.R_new' ho0 (Kd.R_lt (kr_ HO469))) (below_size hb_)); have n2_ := Aside0.mk (below_step hb_ hb); clear HO469; clear HB; have HO469 := n0_; have HO472 := n1_; have HB := n2_; clear n0_ n1_ n2_; (try clear hb); (try clear hb2); (try clear hk); (try clear hi); (try clear ho0); obtain ⟨Ao10, co10, eo10⟩ := Kd.R_slice HO472.out; subst eo10))
  go_loopg [7, 21] k (fun kq v7 v21 w' => ∃ (x7_1 : List Int) (x21_1 : Int), v21 = .int .i64 x21_1 ∧ Aside0 (impl_LateRenewals.l0 kq l0 x7_1 t470 (t470.length : Int) x21_1 = some (r1, r2)) ∧ Aside0 (kq ≤ k) ∧ Aside0 (Kd.R (Kd.int .i64) 2 w' w.heap.size (fun k_ => some k_ ≠ ((.slice Ao10 t470.length co10) : Value).ownBlock) v7 x7_1) ∧ Aside0 (Kd.R (Kd.int .i64) 2 w' w.heap.size (fun k_ => some k_ ≠ (v7 : Value).ownBlock) (.slice Ao10 t470.length co10) t470) ∧ Aside0 (Below w.heap.size w w'))
  case atStart => exact ⟨(y467), (0), (by first | rfl | (simp; done) | (simp [*]; done)), H', ⟨Nat.le_refl _⟩, ⟨by (with_reducible repeat (first | apply Kd.R_alloc | apply Kd.R_drewN | apply Kd.R_drew)); exact Kd.R_mono HO469.out (fun _ hk => hk.2)⟩, ⟨by (with_reducible repeat (first | apply Kd.R_alloc | apply Kd.R_drewN | apply Kd.R_drew)); exact Kd.R_mono HO472.out (fun _ hk => hk.2)⟩, ⟨hb_⟩⟩
  case round =>
   clear H'
   try clear c1
   try clear p2
   try clear c4
   try clear c4b0
   try clear c4b1
   try clear c6
   try clear c7
   obtain ⟨x7_1, x21_1, rfl, HA, HK1, HO_7, HO_19, HB⟩ := hrel
   cases gk with
   | zero => exact absurd HA.out (by simp [impl_LateRenewals.l0])
   | succ k1 =>
    have H := HA.out
    clear HA
    simp only [impl_LateRenewals.l0] at H
    by_cases c11 : x21_1 < (t470.length : Int)
    ·rw [if_pos c11] at H
     have c11b0 : decide (x21_1 < (t470.length : Int)) = true := decide_eq_true c11
     clear c11
     by_cases c12 : 0 ≤ x21_1
     ·rw [if_pos c12] at H
      have c12b0 : decide (0 ≤ x21_1) = true := decide_eq_true c12
      clear c12
      by_cases c13 : x21_1 < (t470.length : Int)
      ·rw [if_pos c13] at H
       have c13b0 : decide (x21_1 < (t470.length : Int)) = true := decide_eq_true c13
       clear c13
       by_cases c14 : x21_1 < (l0.length : Int)
       ·rw [if_pos c14] at H
        have c14b0 : decide (x21_1 < (l0.length : Int)) = true := decide_eq_true c14
        clear c14
        by_cases c15 : (rd t470 x21_1) > ((rd_T55 l0 x21_1).f2)
        ·rw [if_pos c15] at H
         have c15b0 : decide (((rd_T55 l0 x21_1).f2) < (rd t470 x21_1)) = true := decide_eq_true c15
         clear c15
         by_cases c16 : x7_1.length < 17592186044416
         ·rw [if_pos c16] at H
          have LMc16 := Aside0.mk c16
          clear c16
          obtain ⟨y475, hy475⟩ : ∃ y_ : List Int, y_ = (x7_1 ++ [x21_1]) := ⟨_, rfl⟩
          replace H : (impl_LateRenewals.l0 k1 l0 y475 t470 (t470.length : Int) (wrap64 (x21_1 + 1))) = some (r1, r2) := by first | (rw [hy475]; with_reducible exact H) | (have H2_ := (Option.bind_some _ _).symm.trans H; rw [hy475]; with_reducible exact H2_) | (have H2_ := (Option.bind_some _ _).symm.trans H; with_reducible exact H2_) | with_reducible exact H | (rw [hy475]; exact H) | exact H
          have Ny475 := Aside0.mk hy475
          clear hy475
          have H' := Aside0.mk H
          clear H
          have p473 : 0 ≤ (x21_1 : Int) := od_
          have q473 : x21_1 < (t470.length : Int) := od_
          obtain ⟨ad473, e473, hx473_0⟩ := Kd.at_int (Kd.R_reads' HO_19.out).2.2 x21_1 p473 q473
          cases e473
          replace p473 := eq_true p473
          replace q473 := eq_true q473
          have p474 : 0 ≤ (x21_1 : Int) := od_
          have q474 : x21_1 < (l0.length : Int) := od_
          obtain ⟨ad474, e474, hx474_0, hx474_1, hx474_2, hx474_3⟩ := at_T55 HR0.out x21_1 p474 q474
          cases e474
          replace hx474_0 := cq_ HB hx474_0
          replace hx474_1 := cq_ HB hx474_1
          replace hx474_2 := cq_ HB hx474_2
          replace hx474_3 := cq_ HB hx474_3
          replace p474 := eq_true p474
          replace q474 := eq_true q474
          go_wp2_with (first | ((with_reducible refine gate_builtin (b := .append) (xs := #[.tmp 33, .tmp 35]) rfl ?_); at_builtin; refine Kd.R_append (Kd.int .i64) (w0 := w) w.heap.size rfl (.tmp 33) (.tmp 35) 37 2 (.int .i64 0) 8 rfl Try.underlying37 info2 rfl (by decide) (by omega) u7 x7_1 x21_1 [.int .i64 x21_1] (fun k_ => some k_ ≠ (.slice (some ad473) t470.length co10 : Value).ownBlock) (fun _ => False) rfl rfl ?aP (fun _ hk => hk.elim) ?aF ?aO ?aB ?aS ?aL ?_; (case aP => exact rfl); (case aB => exact hb_); (case aF => exact (fun k_ hk => Kd.fresh' (Kd.R_lt (kr_ HO_19)) k_ hk)); (case aO => exact (kr_ HO_7)); (case aS => exact (below_size hb_)); (case aL => have := LMc16.out; omega); intro v476 w17 ho hb hg hat; rw [← Ny475.out] at ho; have n0_ := Aside0.mk (Kd.R_after (ok := (fun _ => True)) (by (with_reducible repeat (first | apply Kd.R_alloc | apply Kd.R_drewN | apply Kd.R_drew)); exact Kd.R_mono HO_19.out (fun _ hk => ⟨trivial, hk⟩)) hg hat); have n1_ := Aside0.mk (hb); have n2_ := Aside0.mk (ho); clear HO_19; clear HB; clear HO_7; have HO_19 := n0_; have HB := n1_; have HO477 := n2_; clear n0_ n1_ n2_; clear ho hb hg hat))
          go_roundg k1
          case measure => have := HK1.out; omega
          case rel => exact ⟨(y475), (wrap64 (x21_1 + 1)), (by first | rfl | (simp; done) | (simp [*]; done)), H', ⟨by have := HK1.out; omega⟩, ⟨by (with_reducible repeat (first | apply Kd.R_alloc | apply Kd.R_drewN | apply Kd.R_drew)); exact HO477.out⟩, ⟨by (with_reducible repeat (first | apply Kd.R_alloc | apply Kd.R_drewN | apply Kd.R_drew)); exact Kd.R_mono HO_19.out (fun _ hk => hk.2)⟩, ⟨hb_⟩⟩
         ·rw [if_neg c16] at H
          exact absurd H (by simp)
        ·rw [if_neg c15] at H
         have c15b0 : decide (((rd_T55 l0 x21_1).f2) < (rd t470 x21_1)) = false := decide_eq_false c15
         clear c15
         have H' := Aside0.mk H
         clear H
         have p473 : 0 ≤ (x21_1 : Int) := od_
         have q473 : x21_1 < (t470.length : Int) := od_
         obtain ⟨ad473, e473, hx473_0⟩ := Kd.at_int (Kd.R_reads' HO_19.out).2.2 x21_1 p473 q473
         cases e473
         replace p473 := eq_true p473
         replace q473 := eq_true q473
         have p474 : 0 ≤ (x21_1 : Int) := od_
         have q474 : x21_1 < (l0.length : Int) := od_
         obtain ⟨ad474, e474, hx474_0, hx474_1, hx474_2, hx474_3⟩ := at_T55 HR0.out x21_1 p474 q474
         cases e474
         replace hx474_0 := cq_ HB hx474_0
         replace hx474_1 := cq_ HB hx474_1
         replace hx474_2 := cq_ HB hx474_2
         replace hx474_3 := cq_ HB hx474_3
         replace p474 := eq_true p474
         replace q474 := eq_true q474
         go_wp2
         go_roundg k1
         case measure => have := HK1.out; omega
         case rel => exact ⟨(x7_1), (wrap64 (x21_1 + 1)), (by first | rfl | (simp; done) | (simp [*]; done)), H', ⟨by have := HK1.out; omega⟩, ⟨by (with_reducible repeat (first | apply Kd.R_alloc | apply Kd.R_drewN | apply Kd.R_drew)); exact HO_7.out⟩, ⟨by (with_reducible repeat (first | apply Kd.R_alloc | apply Kd.R_drewN | apply Kd.R_drew)); exact HO_19.out⟩, ⟨hb_⟩⟩
       ·rw [if_neg c14] at H
        exact absurd H (by simp)
      ·rw [if_neg c13] at H
       exact absurd H (by simp)
     ·rw [if_neg c12] at H
      exact absurd H (by simp)
    ·rw [if_neg c11] at H
     have c11b0 : decide (x21_1 < (t470.length : Int)) = false := decide_eq_false c11
     clear c11
     simp only [Option.some.injEq, Prod.mk.injEq] at H
     obtain ⟨rfl, rfl⟩ := H
     go_wp2
     go_ret2
     exact ⟨_, ew_, by (with_reducible repeat (first | apply Kd.R_alloc | apply Kd.R_drewN | apply Kd.R_drew)); exact Kd.R_mono HO_7.out (fun _ hk => trivial), hb_⟩
 ·rw [if_neg c4] at H
  have c4b0 : (t466 == 0) = false := beq_eq_false_iff_ne.mpr c4
  have c4b1 : (t466 != 0) = true := bne_iff_ne.mpr c4
  simp only [Option.some.injEq, Prod.mk.injEq] at H
  obtain ⟨rfl, rfl⟩ := H
  go_enter Try.func41, Try.ntmps41
  go_wp2_with (first | ((with_reducible refine gate_callee (f := 70) rfl ?_); refine goesL_ (some 12) rfl rfl Try.func70 (by kernel_rfl) rfl #[.slice A0 l0.length c0, .slice A1 l1.length c1] rfl ln_ ?_; (with_reducible refine (impl_orderCode.calls k _ _ l0 _ _ l1 t466 _ ?side1 ?side2 ?side3 ?side4 A3.out).mono ?_); (case side1 => exact kc_ HR0.out); (case side2 => exact HC0.out); (case side3 => exact kc_ HR1.out); (case side4 => exact HC1.out); rintro e w18 ⟨rfl, hb⟩; refine ⟨_, rfl, ?_⟩; have n0_ := Aside0.mk (below_step hb_ hb); clear HB; have HB := n0_; clear n0_; (try clear hb); (try clear hb2); (try clear hk); (try clear hi)))
  go_ret2
  exact ⟨_, ew_, by first | exact Kd.R_nil _ _ _ _ _ | exact Kd.N_nil _ _ _ _ _ | exact Kd.V_nil _ _ _ _ _ | exact Kd.Q_nil _ _ _ _ _ | exact Kd.S_nil _ _ _ _ _, hb_⟩

end Go.Proofs.Ytkegmjebkikniaa.P
end
