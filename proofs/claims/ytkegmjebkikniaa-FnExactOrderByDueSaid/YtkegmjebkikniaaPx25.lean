-- Written by gprint.py (own program, over the printer of the kit) out of the translation. Lean checks it.
import Derived.Test.YtkegmjebkikniaaPx0
import Derived.Test.YtkegmjebkikniaaPx13
import Derived.Test.YtkegmjebkikniaaWPk
namespace Go.Proofs.Ytkegmjebkikniaa.P
open Go.RowKit Go.Proofs.YtkegmjebkikniaaW.PrintWords Go.Proofs.YtkegmjebkikniaaW.PrintLast Go.Proofs.YtkegmjebkikniaaW.PrintMore Go.Proofs.YtkegmjebkikniaaW.Pk
open Bool renaming true → T_, false → F_
open List renaming setIfInBounds_toArray → sT_, set_cons_zero → s0_, set_cons_succ → sS_
attribute [local go_sem] max2_int min2_int max_two min_two max_three min_three max_four min_four   -- for this text's walks alone
set_option linter.unusedVariables false
set_option linter.unusedSimpArgs false

/-! ### impl_harmOf: function 77 -/
def impl_harmOf.l0 : Nat → List (S55) → Int → List Int → Int → Int → Option (Int)
 | 0, _, _, _, _, _ => none
 | k + 1, x0, x5, x10, x11, x12 => if x12 < x11 then (if 0 ≤ x12 then (if x12 < (x10.length : Int) then (if x12 < (x0.length : Int) then (impl_harmOf.l0 k x0 (wrap64 (x5 + (wrap64 (((rd_T55 x0 x12).f3) * (mx 0 (wrap64 ((rd x10 x12) - ((rd_T55 x0 x12).f2)))))))) x10 x11 (wrap64 (x12 + 1))) else (none)) else (none)) else (none)) else (some x5)
def impl_harmOf.f (k : Nat) (l0 : List (S55)) (l1 : List Int) : Option (Int) := (impl_endsOf.f k l0 l1).bind fun t371 => (impl_harmOf.l0 k l0 0 t371 (t371.length : Int) 0)
theorem impl_harmOf.mono_l : ∀ k, (∀ y0 y1 y2 y3 y4, LeO (impl_harmOf.l0 k y0 y1 y2 y3 y4) (impl_harmOf.l0 (k + 1) y0 y1 y2 y3 y4))
 | 0 => fun _ _ _ _ _ r h => by simp [impl_harmOf.l0] at h
 | k + 1 => by
  have ih0 := impl_harmOf.mono_l k
  ·intro y0 y1 y2 y3 y4
   unfold impl_harmOf.l0
   repeat' first
   | (with_reducible exact ih0 _ _ _ _ _)
   | (with_reducible exact impl_endsOf.mono _ _ _)
   | (with_reducible exact LeO.refl _)
   | (with_reducible exact LeO.none _)
   | (with_reducible refine LeO.ite ?_ ?_)
   | (with_reducible refine LeO.bind ?_ (fun _ => ?_))
   | exact ih0 _ _ _ _ _
   | exact impl_endsOf.mono _ _ _
   | exact LeO.none _
   | refine LeO.ite ?_ ?_
   | refine LeO.bind ?_ (fun _ => ?_)
theorem impl_harmOf.mono : ∀ a0 a1 k, LeO (impl_harmOf.f k a0 a1) (impl_harmOf.f (k + 1) a0 a1) := by
 intro a0 a1 k
 have ih0 := impl_harmOf.mono_l k
 unfold impl_harmOf.f
 repeat' first
   | (with_reducible exact ih0 _ _ _ _ _)
   | (with_reducible exact impl_endsOf.mono _ _ _)
   | (with_reducible exact LeO.refl _)
   | (with_reducible exact LeO.none _)
   | (with_reducible refine LeO.ite ?_ ?_)
   | (with_reducible refine LeO.bind ?_ (fun _ => ?_))
   | exact ih0 _ _ _ _ _
   | exact impl_endsOf.mono _ _ _
   | exact LeO.none _
   | refine LeO.ite ?_ ?_
   | refine LeO.bind ?_ (fun _ => ?_)
set_option maxHeartbeats 8000000 in
set_option maxRecDepth 100000 in
theorem impl_harmOf.calls (k : Nat) (A0 : Option Addr) (c0 : Nat) (l0 : List (S55)) (A1 : Option Addr) (c1 : Nat) (l1 : List Int) (r : Int) (w : World) (hr0 : Kd.C k55 w A0 l0.length l0) (hc0 : l0.length ≤ c0) (hr1 : Kd.C (Kd.int .i64) w A1 l1.length l1) (hc1 : l1.length ≤ c1) (h : impl_harmOf.f k l0 l1 = some r) :
  Calls Try.prog 77 #[.slice A0 l0.length c0, .slice A1 l1.length c1] w fun e w' => e = .returned (.int .i64 r) ∧ Below w.heap.size w w' := by
 have HR0 := Aside0.mk hr0
 have HC0 := Aside0.mk hc0
 clear hr0 hc0
 have HR1 := Aside0.mk hr1
 have HC1 := Aside0.mk hc1
 clear hr1 hc1
 have HB := Aside0.mk (Below.refl w.heap.size w)
 have H : ((impl_endsOf.f k l0 l1).bind fun t371 => (impl_harmOf.l0 k l0 0 t371 (t371.length : Int) 0)) = some r := h
 clear h
 replace H := Option.bind_eq_some_iff.mp H
 obtain ⟨t371, A30, H⟩ := H
 replace H : (impl_harmOf.l0 k l0 0 t371 (t371.length : Int) 0) = some r := H
 have A3 := Aside0.mk A30
 clear A30
 have H' := Aside0.mk H
 clear H
 go_enter Try.func77, Try.ntmps77
 go_wp2_with (first | (go_at_call 66; (with_reducible refine (impl_endsOf.calls k _ _ l0 _ _ l1 t371 _ ?side1 ?side2 ?side3 ?side4 A3.out).mono ?_); (case side1 => exact kc_ HR0.out); (case side2 => exact HC0.out); (case side3 => exact kc_ HR1.out); (case side4 => exact HC1.out); rintro e w4 ⟨v372, rfl, ho0, hb⟩; have n0_ := Aside0.mk (Kd.R_lower ho0 (below_size hb_)); have n1_ := Aside0.mk (below_step hb_ hb); clear HB; have HO373 := n0_; have HB := n1_; clear n0_ n1_; (try clear hb); (try clear hb2); (try clear hk); (try clear hi); (try clear ho0); obtain ⟨Ao5, co5, eo5⟩ := Kd.R_slice HO373.out; subst eo5))
 repeat (go_quiet (first | (go_at_call 66; (with_reducible refine (impl_endsOf.calls k _ _ l0 _ _ l1 t371 _ ?side1 ?side2 ?side3 ?side4 A3.out).mono ?_); (case side1 => exact kc_ HR0.out); (case side2 => exact HC0.out); (case side3 => exact kc_ HR1.out); (case side4 => exact HC1.out); rintro e w4 ⟨v372, rfl, ho0, hb⟩; have n0_ := Aside0.mk (Kd.R_lower ho0 (below_size hb_)); have n1_ := Aside0.mk (below_step hb_ hb); clear HB; have HO373 := n0_; have HB := n1_; clear n0_ n1_; (try clear hb); (try clear hb2); (try clear hk); (try clear hi); (try clear ho0); obtain ⟨Ao5, co5, eo5⟩ := Kd.R_slice HO373.out; subst eo5)); try go_wp2_with (first | (go_at_call 66; (with_reducible refine (impl_endsOf.calls k _ _ l0 _ _ l1 t371 _ ?side1 ?side2 ?side3 ?side4 A3.out).mono ?_); (case side1 => exact kc_ HR0.out); (case side2 => exact HC0.out); (case side3 => exact kc_ HR1.out); (case side4 => exact HC1.out); rintro e w4 ⟨v372, rfl, ho0, hb⟩; have n0_ := Aside0.mk (Kd.R_lower ho0 (below_size hb_)); have n1_ := Aside0.mk (below_step hb_ hb); clear HB; have HO373 := n0_; have HB := n1_; clear n0_ n1_; (try clear hb); (try clear hb2); (try clear hk); (try clear hi); (try clear ho0); obtain ⟨Ao5, co5, eo5⟩ := Kd.R_slice HO373.out; subst eo5)))
 go_loopg [5, 12] k (fun kq v5 v12 w' => ∃ (x5_1 : Int) (x12_1 : Int), v5 = .int .i64 x5_1 ∧ v12 = .int .i64 x12_1 ∧ Aside0 (impl_harmOf.l0 kq l0 x5_1 t371 (t371.length : Int) x12_1 = some r) ∧ Aside0 (kq ≤ k) ∧ Aside0 (Kd.R (Kd.int .i64) 2 w' w.heap.size (fun _ => True) (.slice Ao5 t371.length co5) t371) ∧ Aside0 (Below w.heap.size w w'))
 case atStart => exact ⟨(0), (0), (by first | rfl | (simp; done) | (simp [*]; done)), (by first | rfl | (simp; done) | (simp [*]; done)), H', ⟨Nat.le_refl _⟩, ⟨by (with_reducible repeat (first | apply Kd.R_alloc | apply Kd.R_drewN | apply Kd.R_drew)); exact HO373.out⟩, ⟨hb_⟩⟩
 case round =>
  clear H'
  try clear c1
  try clear p2
  obtain ⟨x5_1, x12_1, rfl, rfl, HA, HK1, HO_10, HB⟩ := hrel
  cases gk with
  | zero => exact absurd HA.out (by simp [impl_harmOf.l0])
  | succ k1 =>
   have H := HA.out
   clear HA
   simp only [impl_harmOf.l0] at H
   by_cases c6 : x12_1 < (t371.length : Int)
   ·rw [if_pos c6] at H
    have c6b0 : decide (x12_1 < (t371.length : Int)) = true := decide_eq_true c6
    clear c6
    by_cases c7 : 0 ≤ x12_1
    ·rw [if_pos c7] at H
     have c7b0 : decide (0 ≤ x12_1) = true := decide_eq_true c7
     clear c7
     by_cases c8 : x12_1 < (t371.length : Int)
     ·rw [if_pos c8] at H
      have c8b0 : decide (x12_1 < (t371.length : Int)) = true := decide_eq_true c8
      clear c8
      by_cases c9 : x12_1 < (l0.length : Int)
      ·rw [if_pos c9] at H
       have c9b0 : decide (x12_1 < (l0.length : Int)) = true := decide_eq_true c9
       clear c9
       obtain ⟨ji10, hji10⟩ : ∃ j_ : Int, (mx 0 (wrap64 ((rd t371 x12_1) - ((rd_T55 l0 x12_1).f2)))) = j_ := ⟨_, rfl⟩
       replace H : (impl_harmOf.l0 k1 l0 (wrap64 (x5_1 + (wrap64 (((rd_T55 l0 x12_1).f3) * (ji10))))) t371 (t371.length : Int) (wrap64 (x12_1 + 1))) = some r := by first | (rw [hji10] at H; exact H) | (simp only [hji10] at H ⊢; exact H)
       have hji10_ : (if 0 < (wrap64 ((rd t371 x12_1) - ((rd_T55 l0 x12_1).f2))) then (wrap64 ((rd t371 x12_1) - ((rd_T55 l0 x12_1).f2))) else 0) = ji10 := hji10
       have H' := Aside0.mk H
       clear H
       have p374 : 0 ≤ (x12_1 : Int) := od_
       have q374 : x12_1 < (t371.length : Int) := od_
       obtain ⟨ad374, e374, hx374_0⟩ := Kd.at_int (Kd.R_reads' HO_10.out).2.2 x12_1 p374 q374
       cases e374
       replace p374 := eq_true p374
       replace q374 := eq_true q374
       have p375 : 0 ≤ (x12_1 : Int) := od_
       have q375 : x12_1 < (l0.length : Int) := od_
       obtain ⟨ad375, e375, hx375_0, hx375_1, hx375_2, hx375_3⟩ := at_T55 HR0.out x12_1 p375 q375
       cases e375
       replace hx375_0 := cq_ HB hx375_0
       replace hx375_1 := cq_ HB hx375_1
       replace hx375_2 := cq_ HB hx375_2
       replace hx375_3 := cq_ HB hx375_3
       replace p375 := eq_true p375
       replace q375 := eq_true q375
       have p376 : 0 ≤ (x12_1 : Int) := od_
       have q376 : x12_1 < (l0.length : Int) := od_
       obtain ⟨ad376, e376, hx376_0, hx376_1, hx376_2, hx376_3⟩ := at_T55 HR0.out x12_1 p376 q376
       obtain rfl : ad375 = ad376 := (by injection e376)
       replace hx376_0 := cq_ HB hx376_0
       replace hx376_1 := cq_ HB hx376_1
       replace hx376_2 := cq_ HB hx376_2
       replace hx376_3 := cq_ HB hx376_3
       replace p376 := eq_true p376
       replace q376 := eq_true q376
       go_wp2
       repeat (go_quiet (fail); try go_wp2)
       go_roundg k1
       case measure => have := HK1.out; omega
       case rel => exact ⟨(wrap64 (x5_1 + (wrap64 (((rd_T55 l0 x12_1).f3) * (ji10))))), (wrap64 (x12_1 + 1)), (by first | rfl | (simp; done) | (simp only [← hji10] <;> (first | rfl | simp)) | (simp [*]; done)), (by first | rfl | (simp; done) | (simp [*]; done)), H', ⟨by have := HK1.out; omega⟩, ⟨by (with_reducible repeat (first | apply Kd.R_alloc | apply Kd.R_drewN | apply Kd.R_drew)); exact HO_10.out⟩, ⟨hb_⟩⟩
      ·rw [if_neg c9] at H
       exact absurd H (by simp)
     ·rw [if_neg c8] at H
      exact absurd H (by simp)
    ·rw [if_neg c7] at H
     exact absurd H (by simp)
   ·rw [if_neg c6] at H
    have c6b0 : decide (x12_1 < (t371.length : Int)) = false := decide_eq_false c6
    clear c6
    obtain rfl := Option.some.inj H
    go_wp2
    repeat (go_quiet (fail); try go_wp2)
    go_ret
    exact ⟨ew_, hb_⟩

end Go.Proofs.Ytkegmjebkikniaa.P
