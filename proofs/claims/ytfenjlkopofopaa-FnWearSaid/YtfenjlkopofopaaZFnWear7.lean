/- Texts of this claim, packed: Px5. -/
import Derived.Test.YtfenjlkopofopaaZFnWear6
section
-- Written by gprint.py (own program, over the printer of the kit) out of the translation. Lean checks it.
namespace Go.Proofs.Ytfenjlkopofopaa.P
open Go.RowKit Go.Proofs.YtfenjlkopofopaaW.PrintWords Go.Proofs.YtfenjlkopofopaaW.PrintLast Go.Proofs.YtfenjlkopofopaaW.PrintMore Go.Proofs.YtfenjlkopofopaaW.Pk
open Bool renaming true → T_, false → F_
open List renaming setIfInBounds_toArray → sT_, set_cons_zero → s0_, set_cons_succ → sS_
attribute [local go_sem] max2_int min2_int max_two min_two max_three min_three max_four min_four   -- for this text's walks alone
set_option linter.unusedVariables false
set_option linter.unusedSimpArgs false

/-! ### spec_l21Dated: function 86 -/
def spec_l21Dated.f (k : Nat) (l0 : List Int) : Option ((List (S72)) × (List (S75)) × Int) := (spec_l00From.f l0).bind fun bt506 => ((spec_l21Both.f k bt506.1 bt506.2.1 bt506.2.2).bind fun bt510 => ((spec_l21DrawDay.f bt506.1 bt510.2.2.1 bt510.2.2.2).bind fun bt518 => (some (bt510.1, bt510.2.1, bt518.1))))
set_option maxHeartbeats 8000000 in
set_option maxRecDepth 100000 in
theorem spec_l21Dated.calls (k : Nat) (A0 : Option Addr) (c0 : Nat) (l0 : List Int) (r1 : List (S72)) (r2 : List (S75)) (r3 : Int) (w : World) (hr0 : Kd.C (Kd.int .u8) w A0 l0.length l0) (hc0 : l0.length ≤ c0) (h : spec_l21Dated.f k l0 = some (r1, r2, r3)) :
  Calls Try.prog 86 #[.slice A0 l0.length c0] w fun e w' => ∃ v0_ v1_ : Value, e = .returned (.tuple #[v0_, v1_, .int .i64 r3]) ∧ Kd.R k72 72 w' w.heap.size (fun _ => True) v0_ r1 ∧ Kd.R k75 75 w' w.heap.size (fun _ => True) v1_ r2 ∧ Below w.heap.size w w' := by
 have HR0 := ak_ hr0
 have HC0 := ak_ hc0
 clear hr0 hc0
 have HB := ak_ (Below.refl w.heap.size w)
 have H : ((spec_l00From.f l0).bind fun bt506 => ((spec_l21Both.f k bt506.1 bt506.2.1 bt506.2.2).bind fun bt510 => ((spec_l21DrawDay.f bt506.1 bt510.2.2.1 bt510.2.2.2).bind fun bt518 => (some (bt510.1, bt510.2.1, bt518.1))))) = some (r1, r2, r3) := h
 clear h
 replace H := ob_ H
 obtain ⟨⟨t506, t507, t508⟩, A20, H⟩ := H
 replace H : ((spec_l21Both.f k t506 t507 t508).bind fun bt510 => ((spec_l21DrawDay.f t506 bt510.2.2.1 bt510.2.2.2).bind fun bt518 => (some (bt510.1, bt510.2.1, bt518.1)))) = some (r1, r2, r3) := H
 have A2 := ak_ A20
 clear A20
 replace H := ob_ H
 obtain ⟨⟨t510, t513, t516, t517⟩, A30, H⟩ := H
 replace H : ((spec_l21DrawDay.f t506 t516 t517).bind fun bt518 => (some (t510, t513, bt518.1))) = some (r1, r2, r3) := H
 have A3 := ak_ A30
 clear A30
 replace H := ob_ H
 obtain ⟨⟨t518, t519, t520⟩, A40, H⟩ := H
 replace H : (some (t510, t513, t518)) = some (r1, r2, r3) := H
 have A4 := ak_ A40
 clear A40
 simp only [Option.some.injEq, Prod.mk.injEq] at H
 obtain ⟨rfl, rfl, rfl⟩ := H
 go_enter Try.func86, Try.ntmps86
 go_wp2_with (first | ((with_reducible refine gate_callee (f := 72) rfl ?_); refine goesL_ (some 9) rfl rfl Try.func72 (by kernel_rfl) rfl #[.slice A0 l0.length c0] rfl ln_ ?_; (with_reducible refine (spec_l00From.calls _ _ l0 t506 t507 t508 w _ ?side1 ?side2 ?side3 A2.out).mono ?_); (case side1 => exact hb_); (case side2 => exact HR0.out); (case side3 => exact HC0.out); rintro e w5 ⟨g509, rfl, hi, hb, hb2⟩; refine ⟨_, rfl, ?_⟩; have n0_ := ak_ (hb); have n1_ := ak_ (hi); clear HB; have HB := n0_; have HI509 := n1_; clear n0_ n1_; clear hb hb2 hi) | ((with_reducible refine gate_callee (f := 73) rfl ?_); refine goesL_ (some 12) rfl rfl Try.func73 (by kernel_rfl) rfl #[.pointer (some ⟨g509, 0, none⟩)] rfl ln_ ?_; (with_reducible refine (spec_l21Both.calls k g509 t506 t507 t508 t510 t513 t516 t517 w _ ?side1 ?side2 A3.out).mono ?_); (case side1 => exact isS135_a HI509); (case side2 => exact hz_ (IsS135.ge HI509.out)); rintro e w6 ⟨v511, v514, rfl, ho0, ho1, hi, hb, hk⟩; refine ⟨_, rfl, ?_⟩; have n0_ := ak_ (Kd.R_lower ho0 (below_size (hz_ (IsS135.ge HI509.out)))); have n1_ := ak_ (Kd.R_lower ho1 (below_size (hz_ (IsS135.ge HI509.out)))); have n2_ := ak_ (hb); have n3_ := ak_ (hi); clear HB HI509; have HO512 := n0_; have HO515 := n1_; have HB := n2_; have HI509 := n3_; clear n0_ n1_ n2_ n3_; clear hb hk hi ho0 ho1) | ((with_reducible refine gate_callee (f := 75) rfl ?_); refine goesL_ (some 18) rfl rfl Try.func75 (by kernel_rfl) rfl #[.pointer (some ⟨g509, 0, none⟩)] rfl ln_ ?_; (with_reducible refine (spec_l21DrawDay.calls g509 t506 t516 t517 t518 t519 t520 w _ ?side1 ?side2 A4.out).mono ?_); (case side1 => exact isS135_a HI509); (case side2 => exact hz_ (IsS135.ge HI509.out)); rintro e w7 ⟨rfl, hi, hb, hk⟩; refine ⟨_, rfl, ?_⟩; have n0_ := ak_ (Kd.R_mono (Kd.R_keep (IsS135.apart (show IsS135 w _ g509 t506 t516 t517 from isS135_a HI509) (kr_ HO512) (by decide)) hk (fun _ h => h.2)) (fun _ h => h.1)); have n1_ := ak_ (Kd.R_mono (Kd.R_keep (IsS135.apart (show IsS135 w _ g509 t506 t516 t517 from isS135_a HI509) (kr_ HO515) (by decide)) hk (fun _ h => h.2)) (fun _ h => h.1)); have n2_ := ak_ (hb); have n3_ := ak_ (hi); clear HO512 HO515 HB HI509; have HO512 := n0_; have HO515 := n1_; have HB := n2_; have HI509 := n3_; clear n0_ n1_ n2_ n3_; clear hb hk hi))
 go_ret3
 exact ⟨_, _, ew_, by (with_reducible repeat (first | apply Kd.R_alloc | apply Kd.R_drewN | apply Kd.R_drew)); exact HO512.out, by (with_reducible repeat (first | apply Kd.R_alloc | apply Kd.R_drewN | apply Kd.R_drew)); exact HO515.out, hz_ (IsS135.ge HI509.out)⟩

/-! ### spec_DrawWornOn: function 38 -/
def spec_DrawWornOn.f (k : Nat) (l0 : List Int) : Option ((List (S72)) × (List (S75)) × Int) := (spec_l21Dated.f k l0).bind fun bt521 => (some (bt521.1, bt521.2.1, bt521.2.2))
set_option maxHeartbeats 8000000 in
set_option maxRecDepth 100000 in
theorem spec_DrawWornOn.calls (k : Nat) (A0 : Option Addr) (c0 : Nat) (l0 : List Int) (r1 : List (S72)) (r2 : List (S75)) (r3 : Int) (w : World) (hr0 : Kd.C (Kd.int .u8) w A0 l0.length l0) (hc0 : l0.length ≤ c0) (h : spec_DrawWornOn.f k l0 = some (r1, r2, r3)) :
  Calls Try.prog 38 #[.slice A0 l0.length c0] w fun e w' => ∃ v0_ v1_ : Value, e = .returned (.tuple #[v0_, v1_, .int .i64 r3]) ∧ Kd.R k72 72 w' w.heap.size (fun _ => True) v0_ r1 ∧ Kd.R k75 75 w' w.heap.size (fun _ => True) v1_ r2 ∧ Below w.heap.size w w' := by
 have HR0 := ak_ hr0
 have HC0 := ak_ hc0
 clear hr0 hc0
 have HB := ak_ (Below.refl w.heap.size w)
 have H : ((spec_l21Dated.f k l0).bind fun bt521 => (some (bt521.1, bt521.2.1, bt521.2.2))) = some (r1, r2, r3) := h
 clear h
 replace H := ob_ H
 obtain ⟨⟨t521, t522, t523⟩, A20, H⟩ := H
 replace H : (some (t521, t522, t523)) = some (r1, r2, r3) := H
 have A2 := ak_ A20
 clear A20
 simp only [Option.some.injEq, Prod.mk.injEq] at H
 obtain ⟨rfl, rfl, rfl⟩ := H
 go_enter Try.func38, Try.ntmps38
 go_wp2_with (first | ((with_reducible refine gate_callee (f := 86) rfl ?_); refine goesL_ (some 6) rfl rfl Try.func86 (by kernel_rfl) rfl #[.slice A0 l0.length c0] rfl ln_ ?_; (with_reducible refine (spec_l21Dated.calls k _ _ l0 t521 t522 t523 _ ?side1 ?side2 A2.out).mono ?_); (case side1 => exact kc_ HR0.out); (case side2 => exact HC0.out); rintro e w3 ⟨v524, v526, rfl, ho0, ho1, hb⟩; refine ⟨_, rfl, ?_⟩; have n0_ := ak_ (Kd.R_lower ho0 (below_size hb_)); have n1_ := ak_ (Kd.R_lower ho1 (below_size hb_)); have n2_ := ak_ (below_step hb_ hb); clear HB; have HO525 := n0_; have HO527 := n1_; have HB := n2_; clear n0_ n1_ n2_; clear hb ho0 ho1))
 go_ret3
 exact ⟨_, _, ew_, by (with_reducible repeat (first | apply Kd.R_alloc | apply Kd.R_drewN | apply Kd.R_drew)); exact HO525.out, by (with_reducible repeat (first | apply Kd.R_alloc | apply Kd.R_drewN | apply Kd.R_drew)); exact HO527.out, hb_⟩

/-! ### impl_WornOn: function 39 -/
def impl_WornOn.l0 : Nat → List (S75) → Int → List ByteArray → List (S72) → Int → Int → Option (List ByteArray × Int)
 | 0, _, _, _, _, _, _ => none
 | k + 1, x1, x2, x9, x20, x21, x22 => if x22 < x21 then (if 0 ≤ x22 then (if x22 < (x20.length : Int) then ((impl_wearOn.f k ((rd_T72 x20 x22).f0) ((rd_T72 x20 x22).f1) ((rd_T72 x20 x22).f2) ((rd_T72 x20 x22).f3) x1 x2).bind fun t534 => (if t534 > ((rd_T72 x20 x22).f3) then (if x9.length < 8796093022208 then (impl_WornOn.l0 k x1 x2 (x9 ++ [(rd_T72 x20 x22).f0]) x20 x21 (wrap64 (x22 + 1))) else (none)) else (impl_WornOn.l0 k x1 x2 x9 x20 x21 (wrap64 (x22 + 1))))) else (none)) else (none)) else (some (x9, 0))
def impl_WornOn.f (k : Nat) (l0 : List (S72)) (l1 : List (S75)) (a2 : Int) : Option (List ByteArray × Int) := (impl_gearCode.f k l0 l1 a2).bind fun t528 => (if t528 = 0 then (impl_WornOn.l0 k l1 a2 (([] : List ByteArray)) l0 (l0.length : Int) 0) else (some (([] : List ByteArray), t528)))
set_option maxHeartbeats 8000000 in
set_option maxRecDepth 100000 in
theorem impl_WornOn.calls (k : Nat) (A0 : Option Addr) (c0 : Nat) (l0 : List (S72)) (A1 : Option Addr) (c1 : Nat) (l1 : List (S75)) (a2 : Int) (r1 : List ByteArray) (r2 : Int) (w : World) (hr0 : Kd.C k72 w A0 l0.length l0) (hc0 : l0.length ≤ c0) (hr1 : Kd.C k75 w A1 l1.length l1) (hc1 : l1.length ≤ c1) (h : impl_WornOn.f k l0 l1 a2 = some (r1, r2)) :
  Calls Try.prog 39 #[.slice A0 l0.length c0, .slice A1 l1.length c1, .int .i64 a2] w fun e w' => ∃ v0_ : Value, e = .returned (.tuple #[v0_, .int .i64 r2]) ∧ Kd.R Kd.string 9 w' w.heap.size (fun _ => True) v0_ r1 ∧ Below w.heap.size w w' := by
 have hu72 := Try.underlying72
 have HR0 := ak_ hr0
 have HC0 := ak_ hc0
 clear hr0 hc0
 have HR1 := ak_ hr1
 have HC1 := ak_ hc1
 clear hr1 hc1
 have HB := ak_ (Below.refl w.heap.size w)
 have H : ((impl_gearCode.f k l0 l1 a2).bind fun t528 => (if t528 = 0 then (impl_WornOn.l0 k l1 a2 (([] : List ByteArray)) l0 (l0.length : Int) 0) else (some (([] : List ByteArray), t528)))) = some (r1, r2) := h
 clear h
 replace H := ob_ H
 obtain ⟨t528, A40, H⟩ := H
 replace H : (if t528 = 0 then (impl_WornOn.l0 k l1 a2 (([] : List ByteArray)) l0 (l0.length : Int) 0) else (some (([] : List ByteArray), t528))) = some (r1, r2) := H
 have A4 := ak_ A40
 clear A40
 by_cases c5 : t528 = 0
 ·rw [if_pos c5] at H
  have c5b0 : (t528 == 0) = true := beq_iff_eq.mpr c5
  have c5b1 : (t528 != 0) = false := bne_eq_false_iff_eq.mpr c5
  clear c5
  obtain ⟨y529, hy529⟩ : ∃ y_ : List ByteArray, y_ = (([] : List ByteArray)) := ⟨_, rfl⟩
  replace H : (impl_WornOn.l0 k l1 a2 y529 l0 (l0.length : Int) 0) = some (r1, r2) := by first | (rw [hy529]; with_reducible exact H) | (have H2_ := (Option.bind_some _ _).symm.trans H; rw [hy529]; with_reducible exact H2_) | (have H2_ := (Option.bind_some _ _).symm.trans H; with_reducible exact H2_) | with_reducible exact H | (rw [hy529]; exact H) | exact H
  have Ny529 := ak_ hy529
  clear hy529
  have H' := ak_ H
  clear H
  go_enter Try.func39, Try.ntmps39
  go_wp2_with (first | ((with_reducible refine gate_callee (f := 76) rfl ?_); refine goesL_ (some 15) rfl rfl Try.func76 (by kernel_rfl) rfl #[.slice A0 l0.length c0, .slice A1 l1.length c1, .int .i64 a2] rfl ln_ ?_; (with_reducible refine (impl_gearCode.calls k _ _ l0 _ _ l1 a2 t528 _ ?side1 ?side2 ?side3 ?side4 A4.out).mono ?_); (case side1 => exact kc_ HR0.out); (case side2 => exact HC0.out); (case side3 => exact kc_ HR1.out); (case side4 => exact HC1.out); rintro e w6 ⟨rfl, hb⟩; refine ⟨_, rfl, ?_⟩; have n0_ := ak_ (below_step hb_ hb); clear HB; have HB := n0_; clear n0_; clear hb) | ((with_reducible refine gate_dst (N := 19) rfl ?_); refine Kd.R_lit Kd.string _ 9 ?hg (N := 19) ?hd (xs := ([] : List ByteArray)) (inner := []) (ok := fun _ => True) (okp := fun _ => True) ?hr ?hp (fun _ hk => hk) trivial (Below.refl _ _) (Nat.le_refl _) (by simp) ?_; (case hd => rfl); (case hg => rfl); (case hr => first | (go_simp; done) | (go_simp; rfl)); (case hp => exact (Reps.none _ _)); intro v530 w7 ho8 hb hg_ hnew_; clear hg_ hnew_; (first | rw [← Ny529.out] at ho8 | (simp only [Int.reduceToNat] at ho8; rw [← Ny529.out] at ho8)); have n0_ := ak_ (Kd.R_lower ho8 (below_size hb_)); have n1_ := ak_ (below_step hb_ hb); clear HB; have HO531 := n0_; have HB := n1_; clear n0_ n1_; clear hb ho8))
  go_loopg [9, 22] k (fun kq v9 v22 w' => ∃ (x9_1 : List ByteArray) (x22_1 : Int), v22 = .int .i64 x22_1 ∧ Aside0 (impl_WornOn.l0 kq l1 a2 x9_1 l0 (l0.length : Int) x22_1 = some (r1, r2)) ∧ Aside0 (kq ≤ k) ∧ Aside0 (Kd.R Kd.string 9 w' w.heap.size (fun _ => True) v9 x9_1) ∧ Aside0 (Below w.heap.size w w'))
  case atStart => exact ⟨(y529), (0), fr_, H', ⟨Nat.le_refl _⟩, ⟨kr_ HO531⟩, ⟨hb_⟩⟩
  case round =>
   clear H'
   try clear c1
   try clear p2
   try clear c3
   try clear c5
   try clear c5b0
   try clear c5b1
   try clear c7
   obtain ⟨x9_1, x22_1, rfl, HA, HK1, HO_9, HB⟩ := hrel
   cases gk with
   | zero => exact absurd HA.out (by simp [impl_WornOn.l0])
   | succ k1 =>
    have H := HA.out
    clear HA
    simp only [impl_WornOn.l0] at H
    by_cases c9 : x22_1 < (l0.length : Int)
    ·rw [if_pos c9] at H
     have c9b0 : decide (x22_1 < (l0.length : Int)) = true := dt_ c9
     clear c9
     by_cases c10 : 0 ≤ x22_1
     ·rw [if_pos c10] at H
      have c10b0 : decide (0 ≤ x22_1) = true := dt_ c10
      clear c10
      by_cases c11 : x22_1 < (l0.length : Int)
      ·rw [if_pos c11] at H
       have c11b0 : decide (x22_1 < (l0.length : Int)) = true := dt_ c11
       clear c11
       replace H := ob_ H
       obtain ⟨t534, A120, H⟩ := H
       replace H : (if t534 > ((rd_T72 l0 x22_1).f3) then (if x9_1.length < 8796093022208 then (impl_WornOn.l0 k1 l1 a2 (x9_1 ++ [(rd_T72 l0 x22_1).f0]) l0 (l0.length : Int) (wrap64 (x22_1 + 1))) else (none)) else (impl_WornOn.l0 k1 l1 a2 x9_1 l0 (l0.length : Int) (wrap64 (x22_1 + 1)))) = some (r1, r2) := H
       have A12 := ak_ A120
       clear A120
       by_cases c13 : t534 > ((rd_T72 l0 x22_1).f3)
       ·rw [if_pos c13] at H
        have c13b0 : decide (((rd_T72 l0 x22_1).f3) < t534) = true := dt_ c13
        clear c13
        by_cases c14 : x9_1.length < 8796093022208
        ·rw [if_pos c14] at H
         have LMc14 := ak_ c14
         clear c14
         obtain ⟨y535, hy535⟩ : ∃ y_ : List ByteArray, y_ = (x9_1 ++ [(rd_T72 l0 x22_1).f0]) := ⟨_, rfl⟩
         replace H : (impl_WornOn.l0 k1 l1 a2 y535 l0 (l0.length : Int) (wrap64 (x22_1 + 1))) = some (r1, r2) := by first | (rw [hy535]; with_reducible exact H) | (have H2_ := (Option.bind_some _ _).symm.trans H; rw [hy535]; with_reducible exact H2_) | (have H2_ := (Option.bind_some _ _).symm.trans H; with_reducible exact H2_) | with_reducible exact H | (rw [hy535]; exact H) | exact H
         have Ny535 := ak_ hy535
         clear hy535
         have H' := ak_ H
         clear H
         have p532 : 0 ≤ (x22_1 : Int) := od_
         have q532 : x22_1 < (l0.length : Int) := od_
         obtain ⟨ad532, e532, hx532_0, hx532_1, hx532_2, hx532_3⟩ := at_T72 HR0.out x22_1 p532 q532
         cases e532
         replace hx532_0 := cq_ HB hx532_0
         replace hx532_1 := cq_ HB hx532_1
         replace hx532_2 := cq_ HB hx532_2
         replace hx532_3 := cq_ HB hx532_3
         replace p532 := eq_true p532
         replace q532 := eq_true q532
         try go_wp2_with (first | ((with_reducible refine gate_dst (N := 11) rfl ?_); refine box_event ?hg (N := 11) ?hd (cs := #[.string (⟨#[]⟩ : ByteArray), .int .i64 0, .int .i64 0, .int .i64 0]) (t := 72) ?hr ?_; (case hd => rfl); (case hg => rfl); (case hr => first | (go_simp; done) | (go_simp; rfl)); intro gb533 hg w15 hbox hb; have n0_ := ak_ (Kd.R_below (kr_ HO_9) hb); have n1_ := ak_ (below_step hb_ hb); have n2_ := ak_ (hbox); have n3_ := ak_ ((by rw [hg]; exact (below_size hb_) : w.heap.size ≤ gb533)); have n4_ := ak_ ((by rw [hg]; exact (below_size hb_) : w.heap.size ≤ gb533)); clear HO_9 HB; have HO_9 := n0_; have HB := n1_; have BK533 := n2_; have GW533 := n3_; have GE533 := n4_; clear n0_ n1_ n2_ n3_ n4_; clear hb hbox hg; have hcz16_0 : w15.cell? ⟨gb533, 0, none⟩ = some (.string (⟨#[]⟩ : ByteArray)) := (blk_cell BK533.out 0).trans rfl; have hcz16_1 : w15.cell? ⟨gb533, 1, none⟩ = some (.int .i64 0) := (blk_cell BK533.out 1).trans rfl; have hcz16_2 : w15.cell? ⟨gb533, 2, none⟩ = some (.int .i64 0) := (blk_cell BK533.out 2).trans rfl; have hcz16_3 : w15.cell? ⟨gb533, 3, none⟩ = some (.int .i64 0) := (blk_cell BK533.out 3).trans rfl; have hfz16_0 := blk_frozen BK533.out 0; have hfz16_1 := blk_frozen BK533.out 1; have hfz16_2 := blk_frozen BK533.out 2; have hfz16_3 := blk_frozen BK533.out 3))
         have n0_ : Aside0 (Kd.R Kd.string 9 ((((w15.setCell ⟨gb533, 0, none⟩ (.string ((rd_T72 l0 x22_1).f0))).setCell ⟨gb533, 1, none⟩ (.int .i64 ((rd_T72 l0 x22_1).f1))).setCell ⟨gb533, 2, none⟩ (.int .i64 ((rd_T72 l0 x22_1).f2))).setCell ⟨gb533, 3, none⟩ (.int .i64 ((rd_T72 l0 x22_1).f3))) w.heap.size (fun _ => True) u9 x9_1) := ⟨by (with_reducible repeat (first | apply Kd.R_alloc | apply Kd.R_drewN | apply Kd.R_drew)); exact Kd.R_mono (Kd.R_far (p := ⟨gb533, 3, none⟩) (Kd.R_far (p := ⟨gb533, 2, none⟩) (Kd.R_far (p := ⟨gb533, 1, none⟩) (Kd.R_far (p := ⟨gb533, 0, none⟩) (Kd.R_types HO_9.out BK533.out (by decide)) (fun _ hk => hk.2) (.string ((rd_T72 l0 x22_1).f0))) (fun _ hk => hk.2) (.int .i64 ((rd_T72 l0 x22_1).f1))) (fun _ hk => hk.2) (.int .i64 ((rd_T72 l0 x22_1).f2))) (fun _ hk => hk.2) (.int .i64 ((rd_T72 l0 x22_1).f3))) (fun _ hk => trivial)⟩
         have n1_ : Aside0 (((((w15.setCell ⟨gb533, 0, none⟩ (.string ((rd_T72 l0 x22_1).f0))).setCell ⟨gb533, 1, none⟩ (.int .i64 ((rd_T72 l0 x22_1).f1))).setCell ⟨gb533, 2, none⟩ (.int .i64 ((rd_T72 l0 x22_1).f2))).setCell ⟨gb533, 3, none⟩ (.int .i64 ((rd_T72 l0 x22_1).f3))).heap[gb533]? = some (.cells #[.string ((rd_T72 l0 x22_1).f0), .int .i64 ((rd_T72 l0 x22_1).f1), .int .i64 ((rd_T72 l0 x22_1).f2), .int .i64 ((rd_T72 l0 x22_1).f3)] 72 (0, 0))) := ⟨by (with_reducible repeat (first | refine blk_drewN ?_ _ | refine blk_drew ?_ | refine blk_alloc ?_ _)); refine blk_put (cs := #[.string ((rd_T72 l0 x22_1).f0), .int .i64 ((rd_T72 l0 x22_1).f1), .int .i64 ((rd_T72 l0 x22_1).f2), .int .i64 0]) ?_ 3 _ rfl; (with_reducible repeat (first | refine blk_drewN ?_ _ | refine blk_drew ?_ | refine blk_alloc ?_ _)); refine blk_put (cs := #[.string ((rd_T72 l0 x22_1).f0), .int .i64 ((rd_T72 l0 x22_1).f1), .int .i64 0, .int .i64 0]) ?_ 2 _ rfl; (with_reducible repeat (first | refine blk_drewN ?_ _ | refine blk_drew ?_ | refine blk_alloc ?_ _)); refine blk_put (cs := #[.string ((rd_T72 l0 x22_1).f0), .int .i64 0, .int .i64 0, .int .i64 0]) ?_ 1 _ rfl; (with_reducible repeat (first | refine blk_drewN ?_ _ | refine blk_drew ?_ | refine blk_alloc ?_ _)); refine blk_put (cs := #[.string (⟨#[]⟩ : ByteArray), .int .i64 0, .int .i64 0, .int .i64 0]) ?_ 0 _ rfl; (with_reducible repeat (first | refine blk_drewN ?_ _ | refine blk_drew ?_ | refine blk_alloc ?_ _)); exact BK533.out⟩
         have n2_ : Aside0 (Below w.heap.size w ((((w15.setCell ⟨gb533, 0, none⟩ (.string ((rd_T72 l0 x22_1).f0))).setCell ⟨gb533, 1, none⟩ (.int .i64 ((rd_T72 l0 x22_1).f1))).setCell ⟨gb533, 2, none⟩ (.int .i64 ((rd_T72 l0 x22_1).f2))).setCell ⟨gb533, 3, none⟩ (.int .i64 ((rd_T72 l0 x22_1).f3)))) := ⟨(hg_ GE533)⟩
         (try clear HO_9)
         (try clear BK533)
         (try clear HB)
         generalize ((((w15.setCell ⟨gb533, 0, none⟩ (.string ((rd_T72 l0 x22_1).f0))).setCell ⟨gb533, 1, none⟩ (.int .i64 ((rd_T72 l0 x22_1).f1))).setCell ⟨gb533, 2, none⟩ (.int .i64 ((rd_T72 l0 x22_1).f2))).setCell ⟨gb533, 3, none⟩ (.int .i64 ((rd_T72 l0 x22_1).f3))) = w17 at n0_ n1_ n2_ ⊢
         have HO_9 := n0_
         have BK533 := n1_
         have HB := n2_
         clear n0_ n1_ n2_
         have n0_ := ak_ (Kd.R_drew HO_9.out)
         have n1_ := ak_ (blk_drew BK533.out)
         have n2_ := ak_ (below_drew1 HB.out)
         clear HO_9
         clear BK533
         clear HB
         have HO_9 := n0_
         have BK533 := n1_
         have HB := n2_
         clear n0_ n1_ n2_
         refine start_ (n := 7) (S := fun w' => w'.cell? ⟨gb533, 0, none⟩ = some (.string ((rd_T72 l0 x22_1).f0)) ∧ w'.cell? ⟨gb533, 1, none⟩ = some (.int .i64 ((rd_T72 l0 x22_1).f1)) ∧ w'.cell? ⟨gb533, 2, none⟩ = some (.int .i64 ((rd_T72 l0 x22_1).f2)) ∧ w'.cell? ⟨gb533, 3, none⟩ = some (.int .i64 ((rd_T72 l0 x22_1).f3))) (ds := []) #[F_,F_,F_,F_,F_,F_,F_] (by kernel_rfl) rfl rfl ⟨(blk_cell BK533.out 0).trans rfl, (blk_cell BK533.out 1).trans rfl, (blk_cell BK533.out 2).trans rfl, (blk_cell BK533.out 3).trans rfl⟩ (fun hHeld => ?_)
         generalize w17.drew = w18 at HO_9 BK533 HB hHeld ⊢
         refine pure_ (i := 1) (N := some 27) (v := ?_) (a' := ?_) #[F_,T_,F_,F_,F_,F_,F_] rfl rfl (by kernel_rfl) (fun _ _ _ h => h) (Or.inl ⟨by rfl, ?_⟩) ?_ ?_
         rotate_left
         ·intro w'
          go_simp
          with_reducible rfl
         rotate_left
         ·simp only [Act.put, sT_, s0_, sS_, i64_w, i32_w]
          rfl
         refine pure_ (i := 2) (N := some 28) (v := ?_) (a' := ?_) #[F_,T_,T_,F_,F_,F_,F_] rfl rfl (by kernel_rfl) (fun _ _ _ h => h) (Or.inl ⟨by rfl, ?_⟩) ?_ ?_
         rotate_left
         ·intro w'
          go_simp
          with_reducible rfl
         rotate_left
         ·simp only [Act.put, sT_, s0_, sS_, i64_w, i32_w]
          rfl
         refine pure_ (i := 4) (N := some 30) (v := ?_) (a' := ?_) #[F_,T_,T_,F_,T_,F_,F_] rfl rfl (by kernel_rfl) (fun _ _ _ h => h) (Or.inl ⟨by rfl, ?_⟩) ?_ ?_
         rotate_left
         ·intro w'
          go_simp
          with_reducible rfl
         rotate_left
         ·simp only [Act.put, sT_, s0_, sS_, i64_w, i32_w]
          rfl
         refine take_ (i := 0) (N := some 26) (v := ?_) (a' := ?_) #[T_,T_,T_,F_,T_,F_,F_] rfl rfl (by kernel_rfl) (fun _ _ _ h => h) (Or.inl ⟨by rfl, ?_⟩) hHeld ?_ ?_
         rotate_left
         ·rintro w' ⟨s0, s1, s2, s3⟩
          go_simp
          with_reducible rfl
         rotate_left
         ·simp only [Act.put, sT_, s0_, sS_, i64_w, i32_w]
          rfl
         refine take_ (i := 5) (N := some 31) (v := ?_) (a' := ?_) #[T_,T_,T_,F_,T_,T_,F_] rfl rfl (by kernel_rfl) (fun _ _ _ h => h) (Or.inl ⟨by rfl, ?_⟩) hHeld ?_ ?_
         rotate_left
         ·rintro w' ⟨s0, s1, s2, s3⟩
          go_simp
          with_reducible rfl
         rotate_left
         ·simp only [Act.put, sT_, s0_, sS_, i64_w, i32_w]
          rfl
         refine one_ (i := 3) (N := some 29) #[T_,T_,T_,T_,T_,T_,F_] rfl rfl (by kernel_rfl) (by decide) (fun K hK => ?_)
         refine goes_ Try.func78 (by kernel_rfl) rfl #[.agg #[.string ((rd_T72 l0 x22_1).f0), .int .i64 ((rd_T72 l0 x22_1).f1), .int .i64 ((rd_T72 l0 x22_1).f2), .int .i64 ((rd_T72 l0 x22_1).f3)], .slice A1 l1.length c1, .int .i64 a2] (by rfl) rfl rfl ln_ ?_
         with_reducible refine (impl_wearOn.calls k1 ((rd_T72 l0 x22_1).f0) ((rd_T72 l0 x22_1).f1) ((rd_T72 l0 x22_1).f2) ((rd_T72 l0 x22_1).f3) _ _ l1 a2 t534 _ ?side1 ?side2 A12.out).mono ?_
         (case side1 => exact kc_ (Kd.C_below HR1.out HB.out))
         (case side2 => exact HC1.out)
         rintro e w19 ⟨rfl, hb⟩
         refine ⟨_, rfl, ?_⟩
         have n0_ := ak_ (Kd.R_below (kr_ HO_9) hb)
         have n1_ := ak_ (blk_below (g := gb533) (o := .cells #[.string ((rd_T72 l0 x22_1).f0), .int .i64 ((rd_T72 l0 x22_1).f1), .int .i64 ((rd_T72 l0 x22_1).f2), .int .i64 ((rd_T72 l0 x22_1).f3)] 72 (0, 0)) (bk_ BK533) hb)
         have n2_ := ak_ (below_step (hg_ GE533) hb)
         clear HO_9
         clear BK533
         clear HB
         have HO_9 := n0_
         have BK533 := n1_
         have HB := n2_
         clear n0_ n1_ n2_
         (try clear hb)
         (try clear hb2)
         (try clear hk)
         (try clear hi)
         refine hK.out _ _ ⟨(blk_cell BK533.out 0).trans rfl, (blk_cell BK533.out 1).trans rfl, (blk_cell BK533.out 2).trans rfl, (blk_cell BK533.out 3).trans rfl⟩ (fun hHeld => ?_)
         clear hK K
         refine norm_ (a' := ?_) ?_ ?_
         rotate_left
         ·show Act.put _ (some 29) _ = _
          simp only [Act.put, sT_, s0_, sS_, i64_w, i32_w]
          rfl
         refine pure_ (i := 6) (N := some 32) (v := ?_) (a' := ?_) #[T_,T_,T_,T_,T_,T_,T_] rfl rfl (by kernel_rfl) (fun _ _ _ h => h) (Or.inl ⟨by rfl, ?_⟩) ?_ ?_
         rotate_left
         ·intro w'
          go_simp
          with_reducible rfl
         rotate_left
         ·simp only [Act.put, sT_, s0_, sS_, i64_w, i32_w]
          rfl
         refine done_ (by kernel_rfl) ?_
         have hcz20_0 : w19.cell? ⟨gb533, 0, none⟩ = some (.string ((rd_T72 l0 x22_1).f0)) := (blk_cell BK533.out 0).trans rfl
         have hcz20_1 : w19.cell? ⟨gb533, 1, none⟩ = some (.int .i64 ((rd_T72 l0 x22_1).f1)) := (blk_cell BK533.out 1).trans rfl
         have hcz20_2 : w19.cell? ⟨gb533, 2, none⟩ = some (.int .i64 ((rd_T72 l0 x22_1).f2)) := (blk_cell BK533.out 2).trans rfl
         have hcz20_3 : w19.cell? ⟨gb533, 3, none⟩ = some (.int .i64 ((rd_T72 l0 x22_1).f3)) := (blk_cell BK533.out 3).trans rfl
         have hfz20_0 := blk_frozen BK533.out 0
         have hfz20_1 := blk_frozen BK533.out 1
         have hfz20_2 := blk_frozen BK533.out 2
         have hfz20_3 := blk_frozen BK533.out 3
         try go_wp2_with (first | ((with_reducible refine gate_builtin (b := .append) (xs := #[.tmp 33, .tmp 36]) rfl ?_); at_builtin; refine Kd.R_append Kd.string (w0 := w) w.heap.size rfl (.tmp 33) (.tmp 36) 64 9 (.string ⟨#[]⟩) 16 rfl Try.underlying64 info9 rfl (by decide) (by omega) u9 x9_1 ((rd_T72 l0 x22_1).f0) [.string ((rd_T72 l0 x22_1).f0)] (fun _ => True) (fun _ => False) rfl rfl ?aP (fun _ hk => hk.elim) ?aF ?aO ?aB ?aS ?aL ?_; (case aP => exact rfl); (case aB => exact (hg_ GE533)); (case aF => exact (fun _ _ => trivial)); (case aO => exact (kr_ HO_9)); (case aS => exact (below_size (hg_ GE533))); (case aL => have := LMc14.out; omega); intro v536 w21 ho hb hg hat; rw [← Ny535.out] at ho; have n0_ := ak_ (blk_grown (g := gb533) (o := .cells #[.string ((rd_T72 l0 x22_1).f0), .int .i64 ((rd_T72 l0 x22_1).f1), .int .i64 ((rd_T72 l0 x22_1).f2), .int .i64 ((rd_T72 l0 x22_1).f3)] 72 (0, 0)) (bk_ BK533) hg (Kd.R_ne HO_9.out BK533.out (by decide))); have n1_ := ak_ (hb); have n2_ := ak_ (ho); clear BK533 HB HO_9; have BK533 := n0_; have HB := n1_; have HO537 := n2_; clear n0_ n1_ n2_; clear ho hb hg hat))
         go_roundg k1
         case measure => have := HK1.out; omega
         case rel => exact ⟨(y535), (wrap64 (x22_1 + 1)), fr_, H', ⟨by have := HK1.out; omega⟩, ⟨kr_ HO537⟩, ⟨(hg_ GE533)⟩⟩
        ·rw [if_neg c14] at H
         exact absurd H (by simp)
       ·rw [if_neg c13] at H
        have c13b0 : decide (((rd_T72 l0 x22_1).f3) < t534) = false := decide_eq_false c13
        clear c13
        have H' := ak_ H
        clear H
        have p532 : 0 ≤ (x22_1 : Int) := od_
        have q532 : x22_1 < (l0.length : Int) := od_
        obtain ⟨ad532, e532, hx532_0, hx532_1, hx532_2, hx532_3⟩ := at_T72 HR0.out x22_1 p532 q532
        cases e532
        replace hx532_0 := cq_ HB hx532_0
        replace hx532_1 := cq_ HB hx532_1
        replace hx532_2 := cq_ HB hx532_2
        replace hx532_3 := cq_ HB hx532_3
        replace p532 := eq_true p532
        replace q532 := eq_true q532
        try go_wp2_with (first | ((with_reducible refine gate_dst (N := 11) rfl ?_); refine box_event ?hg (N := 11) ?hd (cs := #[.string (⟨#[]⟩ : ByteArray), .int .i64 0, .int .i64 0, .int .i64 0]) (t := 72) ?hr ?_; (case hd => rfl); (case hg => rfl); (case hr => first | (go_simp; done) | (go_simp; rfl)); intro gb533 hg w22 hbox hb; have n0_ := ak_ (Kd.R_below (kr_ HO_9) hb); have n1_ := ak_ (below_step hb_ hb); have n2_ := ak_ (hbox); have n3_ := ak_ ((by rw [hg]; exact (below_size hb_) : w.heap.size ≤ gb533)); have n4_ := ak_ ((by rw [hg]; exact (below_size hb_) : w.heap.size ≤ gb533)); clear HO_9 HB; have HO_9 := n0_; have HB := n1_; have BK533 := n2_; have GW533 := n3_; have GE533 := n4_; clear n0_ n1_ n2_ n3_ n4_; clear hb hbox hg; have hcz23_0 : w22.cell? ⟨gb533, 0, none⟩ = some (.string (⟨#[]⟩ : ByteArray)) := (blk_cell BK533.out 0).trans rfl; have hcz23_1 : w22.cell? ⟨gb533, 1, none⟩ = some (.int .i64 0) := (blk_cell BK533.out 1).trans rfl; have hcz23_2 : w22.cell? ⟨gb533, 2, none⟩ = some (.int .i64 0) := (blk_cell BK533.out 2).trans rfl; have hcz23_3 : w22.cell? ⟨gb533, 3, none⟩ = some (.int .i64 0) := (blk_cell BK533.out 3).trans rfl; have hfz23_0 := blk_frozen BK533.out 0; have hfz23_1 := blk_frozen BK533.out 1; have hfz23_2 := blk_frozen BK533.out 2; have hfz23_3 := blk_frozen BK533.out 3))
        have n0_ : Aside0 (Kd.R Kd.string 9 ((((w22.setCell ⟨gb533, 0, none⟩ (.string ((rd_T72 l0 x22_1).f0))).setCell ⟨gb533, 1, none⟩ (.int .i64 ((rd_T72 l0 x22_1).f1))).setCell ⟨gb533, 2, none⟩ (.int .i64 ((rd_T72 l0 x22_1).f2))).setCell ⟨gb533, 3, none⟩ (.int .i64 ((rd_T72 l0 x22_1).f3))) w.heap.size (fun _ => True) u9 x9_1) := ⟨by (with_reducible repeat (first | apply Kd.R_alloc | apply Kd.R_drewN | apply Kd.R_drew)); exact Kd.R_mono (Kd.R_far (p := ⟨gb533, 3, none⟩) (Kd.R_far (p := ⟨gb533, 2, none⟩) (Kd.R_far (p := ⟨gb533, 1, none⟩) (Kd.R_far (p := ⟨gb533, 0, none⟩) (Kd.R_types HO_9.out BK533.out (by decide)) (fun _ hk => hk.2) (.string ((rd_T72 l0 x22_1).f0))) (fun _ hk => hk.2) (.int .i64 ((rd_T72 l0 x22_1).f1))) (fun _ hk => hk.2) (.int .i64 ((rd_T72 l0 x22_1).f2))) (fun _ hk => hk.2) (.int .i64 ((rd_T72 l0 x22_1).f3))) (fun _ hk => trivial)⟩
        have n1_ : Aside0 (((((w22.setCell ⟨gb533, 0, none⟩ (.string ((rd_T72 l0 x22_1).f0))).setCell ⟨gb533, 1, none⟩ (.int .i64 ((rd_T72 l0 x22_1).f1))).setCell ⟨gb533, 2, none⟩ (.int .i64 ((rd_T72 l0 x22_1).f2))).setCell ⟨gb533, 3, none⟩ (.int .i64 ((rd_T72 l0 x22_1).f3))).heap[gb533]? = some (.cells #[.string ((rd_T72 l0 x22_1).f0), .int .i64 ((rd_T72 l0 x22_1).f1), .int .i64 ((rd_T72 l0 x22_1).f2), .int .i64 ((rd_T72 l0 x22_1).f3)] 72 (0, 0))) := ⟨by (with_reducible repeat (first | refine blk_drewN ?_ _ | refine blk_drew ?_ | refine blk_alloc ?_ _)); refine blk_put (cs := #[.string ((rd_T72 l0 x22_1).f0), .int .i64 ((rd_T72 l0 x22_1).f1), .int .i64 ((rd_T72 l0 x22_1).f2), .int .i64 0]) ?_ 3 _ rfl; (with_reducible repeat (first | refine blk_drewN ?_ _ | refine blk_drew ?_ | refine blk_alloc ?_ _)); refine blk_put (cs := #[.string ((rd_T72 l0 x22_1).f0), .int .i64 ((rd_T72 l0 x22_1).f1), .int .i64 0, .int .i64 0]) ?_ 2 _ rfl; (with_reducible repeat (first | refine blk_drewN ?_ _ | refine blk_drew ?_ | refine blk_alloc ?_ _)); refine blk_put (cs := #[.string ((rd_T72 l0 x22_1).f0), .int .i64 0, .int .i64 0, .int .i64 0]) ?_ 1 _ rfl; (with_reducible repeat (first | refine blk_drewN ?_ _ | refine blk_drew ?_ | refine blk_alloc ?_ _)); refine blk_put (cs := #[.string (⟨#[]⟩ : ByteArray), .int .i64 0, .int .i64 0, .int .i64 0]) ?_ 0 _ rfl; (with_reducible repeat (first | refine blk_drewN ?_ _ | refine blk_drew ?_ | refine blk_alloc ?_ _)); exact BK533.out⟩
        have n2_ : Aside0 (Below w.heap.size w ((((w22.setCell ⟨gb533, 0, none⟩ (.string ((rd_T72 l0 x22_1).f0))).setCell ⟨gb533, 1, none⟩ (.int .i64 ((rd_T72 l0 x22_1).f1))).setCell ⟨gb533, 2, none⟩ (.int .i64 ((rd_T72 l0 x22_1).f2))).setCell ⟨gb533, 3, none⟩ (.int .i64 ((rd_T72 l0 x22_1).f3)))) := ⟨(hg_ GE533)⟩
        (try clear HO_9)
        (try clear BK533)
        (try clear HB)
        generalize ((((w22.setCell ⟨gb533, 0, none⟩ (.string ((rd_T72 l0 x22_1).f0))).setCell ⟨gb533, 1, none⟩ (.int .i64 ((rd_T72 l0 x22_1).f1))).setCell ⟨gb533, 2, none⟩ (.int .i64 ((rd_T72 l0 x22_1).f2))).setCell ⟨gb533, 3, none⟩ (.int .i64 ((rd_T72 l0 x22_1).f3))) = w24 at n0_ n1_ n2_ ⊢
        have HO_9 := n0_
        have BK533 := n1_
        have HB := n2_
        clear n0_ n1_ n2_
        have n0_ := ak_ (Kd.R_drew HO_9.out)
        have n1_ := ak_ (blk_drew BK533.out)
        have n2_ := ak_ (below_drew1 HB.out)
        clear HO_9
        clear BK533
        clear HB
        have HO_9 := n0_
        have BK533 := n1_
        have HB := n2_
        clear n0_ n1_ n2_
        refine start_ (n := 7) (S := fun w' => w'.cell? ⟨gb533, 0, none⟩ = some (.string ((rd_T72 l0 x22_1).f0)) ∧ w'.cell? ⟨gb533, 1, none⟩ = some (.int .i64 ((rd_T72 l0 x22_1).f1)) ∧ w'.cell? ⟨gb533, 2, none⟩ = some (.int .i64 ((rd_T72 l0 x22_1).f2)) ∧ w'.cell? ⟨gb533, 3, none⟩ = some (.int .i64 ((rd_T72 l0 x22_1).f3))) (ds := []) #[F_,F_,F_,F_,F_,F_,F_] (by kernel_rfl) rfl rfl ⟨(blk_cell BK533.out 0).trans rfl, (blk_cell BK533.out 1).trans rfl, (blk_cell BK533.out 2).trans rfl, (blk_cell BK533.out 3).trans rfl⟩ (fun hHeld => ?_)
        generalize w24.drew = w25 at HO_9 BK533 HB hHeld ⊢
        refine pure_ (i := 1) (N := some 27) (v := ?_) (a' := ?_) #[F_,T_,F_,F_,F_,F_,F_] rfl rfl (by kernel_rfl) (fun _ _ _ h => h) (Or.inl ⟨by rfl, ?_⟩) ?_ ?_
        rotate_left
        ·intro w'
         go_simp
         with_reducible rfl
        rotate_left
        ·simp only [Act.put, sT_, s0_, sS_, i64_w, i32_w]
         rfl
        refine pure_ (i := 2) (N := some 28) (v := ?_) (a' := ?_) #[F_,T_,T_,F_,F_,F_,F_] rfl rfl (by kernel_rfl) (fun _ _ _ h => h) (Or.inl ⟨by rfl, ?_⟩) ?_ ?_
        rotate_left
        ·intro w'
         go_simp
         with_reducible rfl
        rotate_left
        ·simp only [Act.put, sT_, s0_, sS_, i64_w, i32_w]
         rfl
        refine pure_ (i := 4) (N := some 30) (v := ?_) (a' := ?_) #[F_,T_,T_,F_,T_,F_,F_] rfl rfl (by kernel_rfl) (fun _ _ _ h => h) (Or.inl ⟨by rfl, ?_⟩) ?_ ?_
        rotate_left
        ·intro w'
         go_simp
         with_reducible rfl
        rotate_left
        ·simp only [Act.put, sT_, s0_, sS_, i64_w, i32_w]
         rfl
        refine take_ (i := 0) (N := some 26) (v := ?_) (a' := ?_) #[T_,T_,T_,F_,T_,F_,F_] rfl rfl (by kernel_rfl) (fun _ _ _ h => h) (Or.inl ⟨by rfl, ?_⟩) hHeld ?_ ?_
        rotate_left
        ·rintro w' ⟨s0, s1, s2, s3⟩
         go_simp
         with_reducible rfl
        rotate_left
        ·simp only [Act.put, sT_, s0_, sS_, i64_w, i32_w]
         rfl
        refine take_ (i := 5) (N := some 31) (v := ?_) (a' := ?_) #[T_,T_,T_,F_,T_,T_,F_] rfl rfl (by kernel_rfl) (fun _ _ _ h => h) (Or.inl ⟨by rfl, ?_⟩) hHeld ?_ ?_
        rotate_left
        ·rintro w' ⟨s0, s1, s2, s3⟩
         go_simp
         with_reducible rfl
        rotate_left
        ·simp only [Act.put, sT_, s0_, sS_, i64_w, i32_w]
         rfl
        refine one_ (i := 3) (N := some 29) #[T_,T_,T_,T_,T_,T_,F_] rfl rfl (by kernel_rfl) (by decide) (fun K hK => ?_)
        refine goes_ Try.func78 (by kernel_rfl) rfl #[.agg #[.string ((rd_T72 l0 x22_1).f0), .int .i64 ((rd_T72 l0 x22_1).f1), .int .i64 ((rd_T72 l0 x22_1).f2), .int .i64 ((rd_T72 l0 x22_1).f3)], .slice A1 l1.length c1, .int .i64 a2] (by rfl) rfl rfl ln_ ?_
        with_reducible refine (impl_wearOn.calls k1 ((rd_T72 l0 x22_1).f0) ((rd_T72 l0 x22_1).f1) ((rd_T72 l0 x22_1).f2) ((rd_T72 l0 x22_1).f3) _ _ l1 a2 t534 _ ?side1 ?side2 A12.out).mono ?_
        (case side1 => exact kc_ (Kd.C_below HR1.out HB.out))
        (case side2 => exact HC1.out)
        rintro e w26 ⟨rfl, hb⟩
        refine ⟨_, rfl, ?_⟩
        have n0_ := ak_ (Kd.R_below (kr_ HO_9) hb)
        have n1_ := ak_ (blk_below (g := gb533) (o := .cells #[.string ((rd_T72 l0 x22_1).f0), .int .i64 ((rd_T72 l0 x22_1).f1), .int .i64 ((rd_T72 l0 x22_1).f2), .int .i64 ((rd_T72 l0 x22_1).f3)] 72 (0, 0)) (bk_ BK533) hb)
        have n2_ := ak_ (below_step (hg_ GE533) hb)
        clear HO_9
        clear BK533
        clear HB
        have HO_9 := n0_
        have BK533 := n1_
        have HB := n2_
        clear n0_ n1_ n2_
        (try clear hb)
        (try clear hb2)
        (try clear hk)
        (try clear hi)
        refine hK.out _ _ ⟨(blk_cell BK533.out 0).trans rfl, (blk_cell BK533.out 1).trans rfl, (blk_cell BK533.out 2).trans rfl, (blk_cell BK533.out 3).trans rfl⟩ (fun hHeld => ?_)
        clear hK K
        refine norm_ (a' := ?_) ?_ ?_
        rotate_left
        ·show Act.put _ (some 29) _ = _
         simp only [Act.put, sT_, s0_, sS_, i64_w, i32_w]
         rfl
        refine pure_ (i := 6) (N := some 32) (v := ?_) (a' := ?_) #[T_,T_,T_,T_,T_,T_,T_] rfl rfl (by kernel_rfl) (fun _ _ _ h => h) (Or.inl ⟨by rfl, ?_⟩) ?_ ?_
        rotate_left
        ·intro w'
         go_simp
         with_reducible rfl
        rotate_left
        ·simp only [Act.put, sT_, s0_, sS_, i64_w, i32_w]
         rfl
        refine done_ (by kernel_rfl) ?_
        try go_wp2
        go_roundg k1
        case measure => have := HK1.out; omega
        case rel => exact ⟨(x9_1), (wrap64 (x22_1 + 1)), fr_, H', ⟨by have := HK1.out; omega⟩, ⟨kr_ HO_9⟩, ⟨(hg_ GE533)⟩⟩
      ·rw [if_neg c11] at H
       exact absurd H (by simp)
     ·rw [if_neg c10] at H
      exact absurd H (by simp)
    ·rw [if_neg c9] at H
     have c9b0 : decide (x22_1 < (l0.length : Int)) = false := decide_eq_false c9
     clear c9
     simp only [Option.some.injEq, Prod.mk.injEq] at H
     obtain ⟨rfl, rfl⟩ := H
     go_wp2
     go_ret2
     exact ⟨_, ew_, by (with_reducible repeat (first | apply Kd.R_alloc | apply Kd.R_drewN | apply Kd.R_drew)); exact HO_9.out, hb_⟩
 ·rw [if_neg c5] at H
  have c5b0 : (t528 == 0) = false := beq_eq_false_iff_ne.mpr c5
  have c5b1 : (t528 != 0) = true := bne_iff_ne.mpr c5
  simp only [Option.some.injEq, Prod.mk.injEq] at H
  obtain ⟨rfl, rfl⟩ := H
  go_enter Try.func39, Try.ntmps39
  go_wp2_with (first | ((with_reducible refine gate_callee (f := 76) rfl ?_); refine goesL_ (some 15) rfl rfl Try.func76 (by kernel_rfl) rfl #[.slice A0 l0.length c0, .slice A1 l1.length c1, .int .i64 a2] rfl ln_ ?_; (with_reducible refine (impl_gearCode.calls k _ _ l0 _ _ l1 a2 t528 _ ?side1 ?side2 ?side3 ?side4 A4.out).mono ?_); (case side1 => exact kc_ HR0.out); (case side2 => exact HC0.out); (case side3 => exact kc_ HR1.out); (case side4 => exact HC1.out); rintro e w27 ⟨rfl, hb⟩; refine ⟨_, rfl, ?_⟩; have n0_ := ak_ (below_step hb_ hb); clear HB; have HB := n0_; clear n0_; clear hb))
  go_ret2
  exact ⟨_, ew_, by first | exact Kd.R_nil _ _ _ _ _ | exact Kd.N_nil _ _ _ _ _ | exact Kd.V_nil _ _ _ _ _ | exact Kd.Q_nil _ _ _ _ _ | exact Kd.S_nil _ _ _ _ _, hb_⟩

/-! ### spec_WornOn: function 40 -/
def spec_WornOn.l0 : Nat → List (S72) → List (S75) → Int → List ByteArray → Int → Option (List ByteArray × Int)
 | 0, _, _, _, _, _ => none
 | k + 1, x0, x1, x2, x8, x9 => if x9 < (x0.length : Int) then (if 0 ≤ x9 then ((spec_l21Wear.f k ((rd_T72 x0 x9).f0) ((rd_T72 x0 x9).f1) ((rd_T72 x0 x9).f2) ((rd_T72 x0 x9).f3) x1 x2).bind fun t544 => (if t544 > ((rd_T72 x0 x9).f3) then (if x8.length < 8796093022208 then (spec_WornOn.l0 k x0 x1 x2 (x8 ++ [(rd_T72 x0 x9).f0]) (wrap64 (x9 + 1))) else (none)) else (spec_WornOn.l0 k x0 x1 x2 x8 (wrap64 (x9 + 1))))) else (none)) else (some (x8, 0))
def spec_WornOn.f (k : Nat) (l0 : List (S72)) (l1 : List (S75)) (a2 : Int) : Option (List ByteArray × Int) := (spec_l21Checks.f k l0 l1).bind fun t538 => (if t538 = true then ((spec_l21Day.f a2).bind fun t539 => (if t539 = true then (spec_WornOn.l0 k l0 l1 a2 (([] : List ByteArray)) 0) else (some (([] : List ByteArray), 2)))) else (some (([] : List ByteArray), 1)))
def spec_WornOn.T9 : Bool × List (List Nat × List Nat) := (true, [([], []), ([], []), ([0, 1], [0, 1]), ([], []), ([], []), ([2, 3, 4], [2, 3, 4]), ([], []), ([], []), ([6, 7], [6, 7]), ([8], [8]), ([9], [9]), ([5, 10], [5, 10])])
def spec_WornOn.B9 : List Nat := [0, 0, 3, 0, 0, 31, 0, 0, 192, 448, 960, 2047]
theorem spec_WornOn.tab9 : rtab .any (opsOf Try.f40 9) = spec_WornOn.T9 := by kernel_rfl
theorem spec_WornOn.bits9 : waitsOk spec_WornOn.T9.2 spec_WornOn.B9 = true := by kernel_rfl
set_option maxHeartbeats 8000000 in
set_option maxRecDepth 100000 in
theorem spec_WornOn.calls (k : Nat) (A0 : Option Addr) (c0 : Nat) (l0 : List (S72)) (A1 : Option Addr) (c1 : Nat) (l1 : List (S75)) (a2 : Int) (r1 : List ByteArray) (r2 : Int) (w : World) (hr0 : Kd.C k72 w A0 l0.length l0) (hc0 : l0.length ≤ c0) (hr1 : Kd.C k75 w A1 l1.length l1) (hc1 : l1.length ≤ c1) (h : spec_WornOn.f k l0 l1 a2 = some (r1, r2)) :
  Calls Try.prog 40 #[.slice A0 l0.length c0, .slice A1 l1.length c1, .int .i64 a2] w fun e w' => ∃ v0_ : Value, e = .returned (.tuple #[v0_, .int .i64 r2]) ∧ Kd.R Kd.string 9 w' w.heap.size (fun _ => True) v0_ r1 ∧ Below w.heap.size w w' := by
 have HR0 := ak_ hr0
 have HC0 := ak_ hc0
 clear hr0 hc0
 have HR1 := ak_ hr1
 have HC1 := ak_ hc1
 clear hr1 hc1
 have HB := ak_ (Below.refl w.heap.size w)
 have H : ((spec_l21Checks.f k l0 l1).bind fun t538 => (if t538 = true then ((spec_l21Day.f a2).bind fun t539 => (if t539 = true then (spec_WornOn.l0 k l0 l1 a2 (([] : List ByteArray)) 0) else (some (([] : List ByteArray), 2)))) else (some (([] : List ByteArray), 1)))) = some (r1, r2) := h
 clear h
 replace H := ob_ H
 obtain ⟨t538, A40, H⟩ := H
 replace H : (if t538 = true then ((spec_l21Day.f a2).bind fun t539 => (if t539 = true then (spec_WornOn.l0 k l0 l1 a2 (([] : List ByteArray)) 0) else (some (([] : List ByteArray), 2)))) else (some (([] : List ByteArray), 1))) = some (r1, r2) := H
 have A4 := ak_ A40
 clear A40
 by_cases c5 : t538 = true
 ·subst c5
  have H1 : ((spec_l21Day.f a2).bind fun t539 => (if t539 = true then (spec_WornOn.l0 k l0 l1 a2 (([] : List ByteArray)) 0) else (some (([] : List ByteArray), 2)))) = some (r1, r2) := by rw [if_pos rfl] at H; exact H
  clear H
  have H := H1
  clear H1
  replace H := ob_ H
  obtain ⟨t539, A60, H⟩ := H
  replace H : (if t539 = true then (spec_WornOn.l0 k l0 l1 a2 (([] : List ByteArray)) 0) else (some (([] : List ByteArray), 2))) = some (r1, r2) := H
  have A6 := ak_ A60
  clear A60
  by_cases c7 : t539 = true
  ·subst c7
   have H1 : (spec_WornOn.l0 k l0 l1 a2 (([] : List ByteArray)) 0) = some (r1, r2) := by rw [if_pos rfl] at H; exact H
   clear H
   have H := H1
   clear H1
   obtain ⟨y540, hy540⟩ : ∃ y_ : List ByteArray, y_ = (([] : List ByteArray)) := ⟨_, rfl⟩
   replace H : (spec_WornOn.l0 k l0 l1 a2 y540 0) = some (r1, r2) := by first | (rw [hy540]; with_reducible exact H) | (have H2_ := (Option.bind_some _ _).symm.trans H; rw [hy540]; with_reducible exact H2_) | (have H2_ := (Option.bind_some _ _).symm.trans H; with_reducible exact H2_) | with_reducible exact H | (rw [hy540]; exact H) | exact H
   have Ny540 := ak_ hy540
   clear hy540
   have H' := ak_ H
   clear H
   go_enter Try.func40, Try.ntmps40
   go_wp2_with (first | ((with_reducible refine gate_callee (f := 79) rfl ?_); refine goesL_ (some 12) rfl rfl Try.func79 (by kernel_rfl) rfl #[.slice A0 l0.length c0, .slice A1 l1.length c1] rfl ln_ ?_; (with_reducible refine (spec_l21Checks.calls k _ _ l0 _ _ l1 true _ ?side1 ?side2 ?side3 ?side4 A4.out).mono ?_); (case side1 => exact kc_ HR0.out); (case side2 => exact HC0.out); (case side3 => exact kc_ HR1.out); (case side4 => exact HC1.out); rintro e w8 ⟨rfl, hb⟩; refine ⟨_, rfl, ?_⟩; have n0_ := ak_ (below_step hb_ hb); clear HB; have HB := n0_; clear n0_; clear hb) | ((with_reducible refine gate_callee (f := 80) rfl ?_); refine goesL_ (some 15) rfl rfl Try.func80 (by kernel_rfl) rfl #[.int .i64 a2] rfl ln_ ?_; (with_reducible refine (spec_l21Day.calls a2 true _ A6.out).mono ?_); rintro e w' ⟨rfl, ⟨nd, rfl⟩⟩; refine ⟨_, rfl, ?_⟩) | ((with_reducible refine gate_dst (N := 17) rfl ?_); refine Kd.R_lit Kd.string _ 9 ?hg (N := 17) ?hd (xs := ([] : List ByteArray)) (inner := []) (ok := fun _ => True) (okp := fun _ => True) ?hr ?hp (fun _ hk => hk) trivial (Below.refl _ _) (Nat.le_refl _) (by simp) ?_; (case hd => rfl); (case hg => rfl); (case hr => first | (go_simp; done) | (go_simp; rfl)); (case hp => exact (Reps.none _ _)); intro v541 w9 ho10 hb hg_ hnew_; clear hg_ hnew_; (first | rw [← Ny540.out] at ho10 | (simp only [Int.reduceToNat] at ho10; rw [← Ny540.out] at ho10)); have n0_ := ak_ (Kd.R_lower ho10 (below_size hb_)); have n1_ := ak_ (below_step hb_ hb); clear HB; have HO542 := n0_; have HB := n1_; clear n0_ n1_; clear hb ho10))
   go_loopg [8, 9] k (fun kq v8 v9 w' => ∃ (x8_1 : List ByteArray) (x9_1 : Int), v9 = .int .i64 x9_1 ∧ Aside0 (spec_WornOn.l0 kq l0 l1 a2 x8_1 x9_1 = some (r1, r2)) ∧ Aside0 (kq ≤ k) ∧ Aside0 (Kd.R Kd.string 9 w' w.heap.size (fun _ => True) v8 x8_1) ∧ Aside0 (Below w.heap.size w w'))
   case atStart => exact ⟨(y540), (0), fr_, H', ⟨Nat.le_refl _⟩, ⟨kr_ HO542⟩, ⟨hb_⟩⟩
   case round =>
    clear H'
    try clear c1
    try clear p2
    try clear c4
    try clear c5
    try clear c7
    try clear c8
    obtain ⟨x8_1, x9_1, rfl, HA, HK1, HO_8, HB⟩ := hrel
    cases gk with
    | zero => exact absurd HA.out (by simp [spec_WornOn.l0])
    | succ k1 =>
     have H := HA.out
     clear HA
     simp only [spec_WornOn.l0] at H
     by_cases c11 : x9_1 < (l0.length : Int)
     ·rw [if_pos c11] at H
      have c11b0 : decide (x9_1 < (l0.length : Int)) = true := dt_ c11
      clear c11
      by_cases c12 : 0 ≤ x9_1
      ·rw [if_pos c12] at H
       have c12b0 : decide (0 ≤ x9_1) = true := dt_ c12
       clear c12
       replace H := ob_ H
       obtain ⟨t544, A130, H⟩ := H
       replace H : (if t544 > ((rd_T72 l0 x9_1).f3) then (if x8_1.length < 8796093022208 then (spec_WornOn.l0 k1 l0 l1 a2 (x8_1 ++ [(rd_T72 l0 x9_1).f0]) (wrap64 (x9_1 + 1))) else (none)) else (spec_WornOn.l0 k1 l0 l1 a2 x8_1 (wrap64 (x9_1 + 1)))) = some (r1, r2) := H
       have A13 := ak_ A130
       clear A130
       by_cases c14 : t544 > ((rd_T72 l0 x9_1).f3)
       ·rw [if_pos c14] at H
        have c14b0 : decide (((rd_T72 l0 x9_1).f3) < t544) = true := dt_ c14
        clear c14
        by_cases c15 : x8_1.length < 8796093022208
        ·rw [if_pos c15] at H
         have LMc15 := ak_ c15
         clear c15
         obtain ⟨y547, hy547⟩ : ∃ y_ : List ByteArray, y_ = (x8_1 ++ [(rd_T72 l0 x9_1).f0]) := ⟨_, rfl⟩
         replace H : (spec_WornOn.l0 k1 l0 l1 a2 y547 (wrap64 (x9_1 + 1))) = some (r1, r2) := by first | (rw [hy547]; with_reducible exact H) | (have H2_ := (Option.bind_some _ _).symm.trans H; rw [hy547]; with_reducible exact H2_) | (have H2_ := (Option.bind_some _ _).symm.trans H; with_reducible exact H2_) | with_reducible exact H | (rw [hy547]; exact H) | exact H
         have Ny547 := ak_ hy547
         clear hy547
         have H' := ak_ H
         clear H
         try go_wp2
         have n0_ := ak_ (Kd.R_drew HO_8.out)
         have n1_ := ak_ (below_drew1 HB.out)
         clear HO_8
         clear HB
         have HO_8 := n0_
         have HB := n1_
         clear n0_ n1_
         have p543 : 0 ≤ (x9_1 : Int) := od_
         have q543 : x9_1 < (l0.length : Int) := od_
         obtain ⟨ad543, e543, hx543_0, hx543_1, hx543_2, hx543_3⟩ := at_T72 HR0.out x9_1 p543 q543
         have hw543_3 := hx543_3
         have hw543_2 := hx543_2
         have hw543_1 := hx543_1
         have hw543_0 := hx543_0
         cases e543
         replace hx543_0 := cq_ HB hx543_0
         replace hx543_1 := cq_ HB hx543_1
         replace hx543_2 := cq_ HB hx543_2
         replace hx543_3 := cq_ HB hx543_3
         replace p543 := eq_true p543
         replace q543 := eq_true q543
         have p545 : 0 ≤ (x9_1 : Int) := od_
         have q545 : x9_1 < (l0.length : Int) := od_
         obtain ⟨ad545, e545, hx545_0, hx545_1, hx545_2, hx545_3⟩ := at_T72 HR0.out x9_1 p545 q545
         have hw545_3 := hx545_3
         have hw545_2 := hx545_2
         have hw545_1 := hx545_1
         have hw545_0 := hx545_0
         obtain rfl : ad543 = ad545 := (by injection e545)
         replace hx545_0 := cq_ HB hx545_0
         replace hx545_1 := cq_ HB hx545_1
         replace hx545_2 := cq_ HB hx545_2
         replace hx545_3 := cq_ HB hx545_3
         replace p545 := eq_true p545
         replace q545 := eq_true q545
         refine start_ (n := 12) (S := fun w' => w'.cell? (ad543.add ((x9_1).toNat * 4)) = some (.string ((rd_T72 l0 x9_1).f0)) ∧ w'.cell? ⟨(ad543.add ((x9_1).toNat * 4)).block, (ad543.add ((x9_1).toNat * 4)).off + 1, none⟩ = some (.int .i64 ((rd_T72 l0 x9_1).f1)) ∧ w'.cell? ⟨(ad543.add ((x9_1).toNat * 4)).block, (ad543.add ((x9_1).toNat * 4)).off + 2, none⟩ = some (.int .i64 ((rd_T72 l0 x9_1).f2)) ∧ w'.cell? ⟨(ad543.add ((x9_1).toNat * 4)).block, (ad543.add ((x9_1).toNat * 4)).off + 3, none⟩ = some (.int .i64 ((rd_T72 l0 x9_1).f3)) ∧ w'.cell? (ad543.add ((x9_1).toNat * 4)) = some (.string ((rd_T72 l0 x9_1).f0)) ∧ w'.cell? ⟨(ad543.add ((x9_1).toNat * 4)).block, (ad543.add ((x9_1).toNat * 4)).off + 1, none⟩ = some (.int .i64 ((rd_T72 l0 x9_1).f1)) ∧ w'.cell? ⟨(ad543.add ((x9_1).toNat * 4)).block, (ad543.add ((x9_1).toNat * 4)).off + 2, none⟩ = some (.int .i64 ((rd_T72 l0 x9_1).f2)) ∧ w'.cell? ⟨(ad543.add ((x9_1).toNat * 4)).block, (ad543.add ((x9_1).toNat * 4)).off + 3, none⟩ = some (.int .i64 ((rd_T72 l0 x9_1).f3))) (ds := []) #[F_,F_,F_,F_,F_,F_,F_,F_,F_,F_,F_,F_] (by kernel_rfl) rfl rfl ⟨((HB.out.cell (lt_ w _ hw543_0)).trans hw543_0), ((HB.out.cell (lt_ w _ hw543_1)).trans hw543_1), ((HB.out.cell (lt_ w _ hw543_2)).trans hw543_2), ((HB.out.cell (lt_ w _ hw543_3)).trans hw543_3), ((HB.out.cell (lt_ w _ hw545_0)).trans hw545_0), ((HB.out.cell (lt_ w _ hw545_1)).trans hw545_1), ((HB.out.cell (lt_ w _ hw545_2)).trans hw545_2), ((HB.out.cell (lt_ w _ hw545_3)).trans hw545_3)⟩ (fun hHeld => ?_); refine with_tabW spec_WornOn.tab9 spec_WornOn.bits9 (fun HT_ HW_ => ?_)
         generalize wr.drew = w16 at HO_8 HB hx543_0 hx543_1 hx543_2 hx543_3 hx545_0 hx545_1 hx545_2 hx545_3 hHeld ⊢
         refine pu (i := 0) (N := some 24) #[T_,F_,F_,F_,F_,F_,F_,F_,F_,F_,F_,F_] HT_ ?_
         refine pu (i := 1) (N := some 25) #[T_,T_,F_,F_,F_,F_,F_,F_,F_,F_,F_,F_] HT_ ?_
         refine pu (i := 2) (N := some 26) #[T_,T_,T_,F_,F_,F_,F_,F_,F_,F_,F_,F_] HT_ ?_
         refine pu (i := 3) (N := some 27) #[T_,T_,T_,T_,F_,F_,F_,F_,F_,F_,F_,F_] HT_ ?_
         refine pu (i := 4) (N := some 28) #[T_,T_,T_,T_,T_,F_,F_,F_,F_,F_,F_,F_] HT_ ?_
         refine pu (i := 6) (N := some 30) #[T_,T_,T_,T_,T_,F_,T_,F_,F_,F_,F_,F_] HT_ ?_
         refine pu (i := 7) (N := some 31) #[T_,T_,T_,T_,T_,F_,T_,T_,F_,F_,F_,F_] HT_ ?_
         refine pu (i := 8) (N := some 32) #[T_,T_,T_,T_,T_,F_,T_,T_,T_,F_,F_,F_] HT_ ?_
         refine pu (i := 9) (N := some 33) #[T_,T_,T_,T_,T_,F_,T_,T_,T_,T_,F_,F_] HT_ ?_
         refine take_ (i := 10) (N := some 34) (v := ?_) (a' := ?_) #[T_,T_,T_,T_,T_,F_,T_,T_,T_,T_,T_,F_] rfl rfl (take_ofW HT_.out HW_.out (by kernel_rfl)) (fun _ _ _ h => h) (Or.inl ⟨by rfl, ?_⟩) hHeld ?_ ?_
         rotate_left
         ·rintro w' ⟨s0, s1, s2, s3, s4, s5, s6, s7⟩
          go_simp
          with_reducible rfl
         rotate_left
         ·simp only [Act.put, sT_, s0_, sS_, i64_w, i32_w]
          rfl
         refine one_ (i := 5) (N := some 29) #[T_,T_,T_,T_,T_,T_,T_,T_,T_,T_,T_,F_] rfl rfl (one_of HT_.out (by kernel_rfl)) (by decide) (fun K hK => ?_)
         refine goes_ Try.func82 (by kernel_rfl) rfl #[.pointer (some (ad543.add ((x9_1).toNat * 4))), .slice A1 l1.length c1, .int .i64 a2] (by rfl) rfl rfl ln_ ?_
         with_reducible refine (spec_l21Wear.calls k1 _ ((rd_T72 l0 x9_1).f0) ((rd_T72 l0 x9_1).f1) ((rd_T72 l0 x9_1).f2) ((rd_T72 l0 x9_1).f3) _ _ l1 a2 t544 _ ?side1 ?side2 ?side3 ?side4 ?side5 ?side6 A13.out).mono ?_
         (case side1 => exact kc_ (Kd.C_below HR1.out HB.out))
         (case side2 => exact HC1.out)
         (case side3 => first | exact hx543_0 | (simpa using hx543_0) | (go_simp; done))
         (case side4 => first | exact hx543_1 | (simpa using hx543_1) | (go_simp; done))
         (case side5 => first | exact hx543_2 | (simpa using hx543_2) | (go_simp; done))
         (case side6 => first | exact hx543_3 | (simpa using hx543_3) | (go_simp; done))
         rintro e w17 ⟨rfl, hb⟩
         refine ⟨_, rfl, ?_⟩
         have n0_ := ak_ (Kd.R_below (kr_ HO_8) hb)
         have n1_ := ak_ (below_step hb_ hb)
         clear HO_8
         clear HB
         have HO_8 := n0_
         have HB := n1_
         clear n0_ n1_
         (try clear hb)
         (try clear hb2)
         (try clear hk)
         (try clear hi)
         refine hK.out _ _ ⟨((HB.out.cell (lt_ w _ hw543_0)).trans hw543_0), ((HB.out.cell (lt_ w _ hw543_1)).trans hw543_1), ((HB.out.cell (lt_ w _ hw543_2)).trans hw543_2), ((HB.out.cell (lt_ w _ hw543_3)).trans hw543_3), ((HB.out.cell (lt_ w _ hw545_0)).trans hw545_0), ((HB.out.cell (lt_ w _ hw545_1)).trans hw545_1), ((HB.out.cell (lt_ w _ hw545_2)).trans hw545_2), ((HB.out.cell (lt_ w _ hw545_3)).trans hw545_3)⟩ (fun hHeld => ?_)
         clear hK K
         refine norm_ (a' := ?_) ?_ ?_
         rotate_left
         ·show Act.put _ (some 29) _ = _
          simp only [Act.put, sT_, s0_, sS_, i64_w, i32_w]
          rfl
         refine pu (i := 11) (N := some 35) #[T_,T_,T_,T_,T_,T_,T_,T_,T_,T_,T_,T_] HT_ ?_
         refine done_ (done_of HT_.out (by kernel_rfl)) ?_
         have p546 : 0 ≤ (x9_1 : Int) := od_
         have q546 : x9_1 < (l0.length : Int) := od_
         obtain ⟨ad546, e546, hx546_0, hx546_1, hx546_2, hx546_3⟩ := at_T72 HR0.out x9_1 p546 q546
         obtain rfl : ad543 = ad546 := (by injection e546)
         replace hx546_0 := cq_ HB hx546_0
         replace hx546_1 := cq_ HB hx546_1
         replace hx546_2 := cq_ HB hx546_2
         replace hx546_3 := cq_ HB hx546_3
         replace p546 := eq_true p546
         replace q546 := eq_true q546
         try go_wp2_with (first | ((with_reducible refine gate_builtin (b := .append) (xs := #[.tmp 36, .tmp 42]) rfl ?_); at_builtin; refine Kd.R_append Kd.string (w0 := w) w.heap.size rfl (.tmp 36) (.tmp 42) 64 9 (.string ⟨#[]⟩) 16 rfl Try.underlying64 info9 rfl (by decide) (by omega) u8 x8_1 ((rd_T72 l0 x9_1).f0) [.string ((rd_T72 l0 x9_1).f0)] (fun _ => True) (fun _ => False) rfl rfl ?aP (fun _ hk => hk.elim) ?aF ?aO ?aB ?aS ?aL ?_; (case aP => exact rfl); (case aB => exact hb_); (case aF => exact (fun _ _ => trivial)); (case aO => exact (kr_ HO_8)); (case aS => exact (below_size hb_)); (case aL => have := LMc15.out; omega); intro v548 w18 ho hb hg hat; rw [← Ny547.out] at ho; have n0_ := ak_ (hb); have n1_ := ak_ (ho); clear HB HO_8; have HB := n0_; have HO549 := n1_; clear n0_ n1_; clear ho hb hg hat))
         go_roundg k1
         case measure => have := HK1.out; omega
         case rel => exact ⟨(y547), (wrap64 (x9_1 + 1)), fr_, H', ⟨by have := HK1.out; omega⟩, ⟨kr_ HO549⟩, ⟨hb_⟩⟩
        ·rw [if_neg c15] at H
         exact absurd H (by simp)
       ·rw [if_neg c14] at H
        have c14b0 : decide (((rd_T72 l0 x9_1).f3) < t544) = false := decide_eq_false c14
        clear c14
        have H' := ak_ H
        clear H
        try go_wp2
        have n0_ := ak_ (Kd.R_drew HO_8.out)
        have n1_ := ak_ (below_drew1 HB.out)
        clear HO_8
        clear HB
        have HO_8 := n0_
        have HB := n1_
        clear n0_ n1_
        have p543 : 0 ≤ (x9_1 : Int) := od_
        have q543 : x9_1 < (l0.length : Int) := od_
        obtain ⟨ad543, e543, hx543_0, hx543_1, hx543_2, hx543_3⟩ := at_T72 HR0.out x9_1 p543 q543
        have hw543_3 := hx543_3
        have hw543_2 := hx543_2
        have hw543_1 := hx543_1
        have hw543_0 := hx543_0
        cases e543
        replace hx543_0 := cq_ HB hx543_0
        replace hx543_1 := cq_ HB hx543_1
        replace hx543_2 := cq_ HB hx543_2
        replace hx543_3 := cq_ HB hx543_3
        replace p543 := eq_true p543
        replace q543 := eq_true q543
        have p545 : 0 ≤ (x9_1 : Int) := od_
        have q545 : x9_1 < (l0.length : Int) := od_
        obtain ⟨ad545, e545, hx545_0, hx545_1, hx545_2, hx545_3⟩ := at_T72 HR0.out x9_1 p545 q545
        have hw545_3 := hx545_3
        have hw545_2 := hx545_2
        have hw545_1 := hx545_1
        have hw545_0 := hx545_0
        obtain rfl : ad543 = ad545 := (by injection e545)
        replace hx545_0 := cq_ HB hx545_0
        replace hx545_1 := cq_ HB hx545_1
        replace hx545_2 := cq_ HB hx545_2
        replace hx545_3 := cq_ HB hx545_3
        replace p545 := eq_true p545
        replace q545 := eq_true q545
        refine start_ (n := 12) (S := fun w' => w'.cell? (ad543.add ((x9_1).toNat * 4)) = some (.string ((rd_T72 l0 x9_1).f0)) ∧ w'.cell? ⟨(ad543.add ((x9_1).toNat * 4)).block, (ad543.add ((x9_1).toNat * 4)).off + 1, none⟩ = some (.int .i64 ((rd_T72 l0 x9_1).f1)) ∧ w'.cell? ⟨(ad543.add ((x9_1).toNat * 4)).block, (ad543.add ((x9_1).toNat * 4)).off + 2, none⟩ = some (.int .i64 ((rd_T72 l0 x9_1).f2)) ∧ w'.cell? ⟨(ad543.add ((x9_1).toNat * 4)).block, (ad543.add ((x9_1).toNat * 4)).off + 3, none⟩ = some (.int .i64 ((rd_T72 l0 x9_1).f3)) ∧ w'.cell? (ad543.add ((x9_1).toNat * 4)) = some (.string ((rd_T72 l0 x9_1).f0)) ∧ w'.cell? ⟨(ad543.add ((x9_1).toNat * 4)).block, (ad543.add ((x9_1).toNat * 4)).off + 1, none⟩ = some (.int .i64 ((rd_T72 l0 x9_1).f1)) ∧ w'.cell? ⟨(ad543.add ((x9_1).toNat * 4)).block, (ad543.add ((x9_1).toNat * 4)).off + 2, none⟩ = some (.int .i64 ((rd_T72 l0 x9_1).f2)) ∧ w'.cell? ⟨(ad543.add ((x9_1).toNat * 4)).block, (ad543.add ((x9_1).toNat * 4)).off + 3, none⟩ = some (.int .i64 ((rd_T72 l0 x9_1).f3))) (ds := []) #[F_,F_,F_,F_,F_,F_,F_,F_,F_,F_,F_,F_] (by kernel_rfl) rfl rfl ⟨((HB.out.cell (lt_ w _ hw543_0)).trans hw543_0), ((HB.out.cell (lt_ w _ hw543_1)).trans hw543_1), ((HB.out.cell (lt_ w _ hw543_2)).trans hw543_2), ((HB.out.cell (lt_ w _ hw543_3)).trans hw543_3), ((HB.out.cell (lt_ w _ hw545_0)).trans hw545_0), ((HB.out.cell (lt_ w _ hw545_1)).trans hw545_1), ((HB.out.cell (lt_ w _ hw545_2)).trans hw545_2), ((HB.out.cell (lt_ w _ hw545_3)).trans hw545_3)⟩ (fun hHeld => ?_); refine with_tabW spec_WornOn.tab9 spec_WornOn.bits9 (fun HT_ HW_ => ?_)
        generalize wr.drew = w19 at HO_8 HB hx543_0 hx543_1 hx543_2 hx543_3 hx545_0 hx545_1 hx545_2 hx545_3 hHeld ⊢
        refine pu (i := 0) (N := some 24) #[T_,F_,F_,F_,F_,F_,F_,F_,F_,F_,F_,F_] HT_ ?_
        refine pu (i := 1) (N := some 25) #[T_,T_,F_,F_,F_,F_,F_,F_,F_,F_,F_,F_] HT_ ?_
        refine pu (i := 2) (N := some 26) #[T_,T_,T_,F_,F_,F_,F_,F_,F_,F_,F_,F_] HT_ ?_
        refine pu (i := 3) (N := some 27) #[T_,T_,T_,T_,F_,F_,F_,F_,F_,F_,F_,F_] HT_ ?_
        refine pu (i := 4) (N := some 28) #[T_,T_,T_,T_,T_,F_,F_,F_,F_,F_,F_,F_] HT_ ?_
        refine pu (i := 6) (N := some 30) #[T_,T_,T_,T_,T_,F_,T_,F_,F_,F_,F_,F_] HT_ ?_
        refine pu (i := 7) (N := some 31) #[T_,T_,T_,T_,T_,F_,T_,T_,F_,F_,F_,F_] HT_ ?_
        refine pu (i := 8) (N := some 32) #[T_,T_,T_,T_,T_,F_,T_,T_,T_,F_,F_,F_] HT_ ?_
        refine pu (i := 9) (N := some 33) #[T_,T_,T_,T_,T_,F_,T_,T_,T_,T_,F_,F_] HT_ ?_
        refine take_ (i := 10) (N := some 34) (v := ?_) (a' := ?_) #[T_,T_,T_,T_,T_,F_,T_,T_,T_,T_,T_,F_] rfl rfl (take_ofW HT_.out HW_.out (by kernel_rfl)) (fun _ _ _ h => h) (Or.inl ⟨by rfl, ?_⟩) hHeld ?_ ?_
        rotate_left
        ·rintro w' ⟨s0, s1, s2, s3, s4, s5, s6, s7⟩
         go_simp
         with_reducible rfl
        rotate_left
        ·simp only [Act.put, sT_, s0_, sS_, i64_w, i32_w]
         rfl
        refine one_ (i := 5) (N := some 29) #[T_,T_,T_,T_,T_,T_,T_,T_,T_,T_,T_,F_] rfl rfl (one_of HT_.out (by kernel_rfl)) (by decide) (fun K hK => ?_)
        refine goes_ Try.func82 (by kernel_rfl) rfl #[.pointer (some (ad543.add ((x9_1).toNat * 4))), .slice A1 l1.length c1, .int .i64 a2] (by rfl) rfl rfl ln_ ?_
        with_reducible refine (spec_l21Wear.calls k1 _ ((rd_T72 l0 x9_1).f0) ((rd_T72 l0 x9_1).f1) ((rd_T72 l0 x9_1).f2) ((rd_T72 l0 x9_1).f3) _ _ l1 a2 t544 _ ?side1 ?side2 ?side3 ?side4 ?side5 ?side6 A13.out).mono ?_
        (case side1 => exact kc_ (Kd.C_below HR1.out HB.out))
        (case side2 => exact HC1.out)
        (case side3 => first | exact hx543_0 | (simpa using hx543_0) | (go_simp; done))
        (case side4 => first | exact hx543_1 | (simpa using hx543_1) | (go_simp; done))
        (case side5 => first | exact hx543_2 | (simpa using hx543_2) | (go_simp; done))
        (case side6 => first | exact hx543_3 | (simpa using hx543_3) | (go_simp; done))
        rintro e w20 ⟨rfl, hb⟩
        refine ⟨_, rfl, ?_⟩
        have n0_ := ak_ (Kd.R_below (kr_ HO_8) hb)
        have n1_ := ak_ (below_step hb_ hb)
        clear HO_8
        clear HB
        have HO_8 := n0_
        have HB := n1_
        clear n0_ n1_
        (try clear hb)
        (try clear hb2)
        (try clear hk)
        (try clear hi)
        refine hK.out _ _ ⟨((HB.out.cell (lt_ w _ hw543_0)).trans hw543_0), ((HB.out.cell (lt_ w _ hw543_1)).trans hw543_1), ((HB.out.cell (lt_ w _ hw543_2)).trans hw543_2), ((HB.out.cell (lt_ w _ hw543_3)).trans hw543_3), ((HB.out.cell (lt_ w _ hw545_0)).trans hw545_0), ((HB.out.cell (lt_ w _ hw545_1)).trans hw545_1), ((HB.out.cell (lt_ w _ hw545_2)).trans hw545_2), ((HB.out.cell (lt_ w _ hw545_3)).trans hw545_3)⟩ (fun hHeld => ?_)
        clear hK K
        refine norm_ (a' := ?_) ?_ ?_
        rotate_left
        ·show Act.put _ (some 29) _ = _
         simp only [Act.put, sT_, s0_, sS_, i64_w, i32_w]
         rfl
        refine pu (i := 11) (N := some 35) #[T_,T_,T_,T_,T_,T_,T_,T_,T_,T_,T_,T_] HT_ ?_
        refine done_ (done_of HT_.out (by kernel_rfl)) ?_
        try go_wp2
        go_roundg k1
        case measure => have := HK1.out; omega
        case rel => exact ⟨(x8_1), (wrap64 (x9_1 + 1)), fr_, H', ⟨by have := HK1.out; omega⟩, ⟨kr_ HO_8⟩, ⟨hb_⟩⟩
      ·rw [if_neg c12] at H
       exact absurd H (by simp)
     ·rw [if_neg c11] at H
      have c11b0 : decide (x9_1 < (l0.length : Int)) = false := decide_eq_false c11
      clear c11
      simp only [Option.some.injEq, Prod.mk.injEq] at H
      obtain ⟨rfl, rfl⟩ := H
      go_wp2
      go_ret2
      exact ⟨_, ew_, by (with_reducible repeat (first | apply Kd.R_alloc | apply Kd.R_drewN | apply Kd.R_drew)); exact HO_8.out, hb_⟩
  ·replace c7 := Bool.eq_false_iff.mpr c7
   subst c7
   have H1 : (some (([] : List ByteArray), 2)) = some (r1, r2) := by rw [if_neg (show ¬ (false = true) by decide)] at H; exact H
   clear H
   have H := H1
   clear H1
   simp only [Option.some.injEq, Prod.mk.injEq] at H
   obtain ⟨rfl, rfl⟩ := H
   go_enter Try.func40, Try.ntmps40
   go_wp2_with (first | ((with_reducible refine gate_callee (f := 79) rfl ?_); refine goesL_ (some 12) rfl rfl Try.func79 (by kernel_rfl) rfl #[.slice A0 l0.length c0, .slice A1 l1.length c1] rfl ln_ ?_; (with_reducible refine (spec_l21Checks.calls k _ _ l0 _ _ l1 true _ ?side1 ?side2 ?side3 ?side4 A4.out).mono ?_); (case side1 => exact kc_ HR0.out); (case side2 => exact HC0.out); (case side3 => exact kc_ HR1.out); (case side4 => exact HC1.out); rintro e w21 ⟨rfl, hb⟩; refine ⟨_, rfl, ?_⟩; have n0_ := ak_ (below_step hb_ hb); clear HB; have HB := n0_; clear n0_; clear hb) | ((with_reducible refine gate_callee (f := 80) rfl ?_); refine goesL_ (some 15) rfl rfl Try.func80 (by kernel_rfl) rfl #[.int .i64 a2] rfl ln_ ?_; (with_reducible refine (spec_l21Day.calls a2 false _ A6.out).mono ?_); rintro e w' ⟨rfl, ⟨nd, rfl⟩⟩; refine ⟨_, rfl, ?_⟩))
   go_ret2
   exact ⟨_, ew_, by first | exact Kd.R_nil _ _ _ _ _ | exact Kd.N_nil _ _ _ _ _ | exact Kd.V_nil _ _ _ _ _ | exact Kd.Q_nil _ _ _ _ _ | exact Kd.S_nil _ _ _ _ _, hb_⟩
 ·replace c5 := Bool.eq_false_iff.mpr c5
  subst c5
  have H1 : (some (([] : List ByteArray), 1)) = some (r1, r2) := by rw [if_neg (show ¬ (false = true) by decide)] at H; exact H
  clear H
  have H := H1
  clear H1
  simp only [Option.some.injEq, Prod.mk.injEq] at H
  obtain ⟨rfl, rfl⟩ := H
  go_enter Try.func40, Try.ntmps40
  go_wp2_with (first | ((with_reducible refine gate_callee (f := 79) rfl ?_); refine goesL_ (some 12) rfl rfl Try.func79 (by kernel_rfl) rfl #[.slice A0 l0.length c0, .slice A1 l1.length c1] rfl ln_ ?_; (with_reducible refine (spec_l21Checks.calls k _ _ l0 _ _ l1 false _ ?side1 ?side2 ?side3 ?side4 A4.out).mono ?_); (case side1 => exact kc_ HR0.out); (case side2 => exact HC0.out); (case side3 => exact kc_ HR1.out); (case side4 => exact HC1.out); rintro e w22 ⟨rfl, hb⟩; refine ⟨_, rfl, ?_⟩; have n0_ := ak_ (below_step hb_ hb); clear HB; have HB := n0_; clear n0_; clear hb))
  go_ret2
  exact ⟨_, ew_, by first | exact Kd.R_nil _ _ _ _ _ | exact Kd.N_nil _ _ _ _ _ | exact Kd.V_nil _ _ _ _ _ | exact Kd.Q_nil _ _ _ _ _ | exact Kd.S_nil _ _ _ _ _, hb_⟩

/-! ### impl_NextToFail: function 41 -/
def impl_NextToFail.l0 : Nat → List (S75) → ByteArray → Int → List (S72) → Int → Int → Option (ByteArray × Int × Int)
 | 0, _, _, _, _, _, _ => none
 | k + 1, x1, x8, x9, x19, x20, x21 => if x21 < x20 then (if 0 ≤ x21 then (if x21 < (x19.length : Int) then ((impl_dayOfEnd.f k ((rd_T72 x19 x21).f0) ((rd_T72 x19 x21).f1) ((rd_T72 x19 x21).f2) ((rd_T72 x19 x21).f3) x1).bind fun t553 => (if t553 ≥ 0 then (if x9 < 0 then (impl_NextToFail.l0 k x1 ((rd_T72 x19 x21).f0) t553 x19 x20 (wrap64 (x21 + 1))) else (if t553 < x9 then (impl_NextToFail.l0 k x1 ((rd_T72 x19 x21).f0) t553 x19 x20 (wrap64 (x21 + 1))) else (impl_NextToFail.l0 k x1 x8 x9 x19 x20 (wrap64 (x21 + 1))))) else (impl_NextToFail.l0 k x1 x8 x9 x19 x20 (wrap64 (x21 + 1))))) else (none)) else (none)) else (if x9 < 0 then (some ((⟨#[]⟩ : ByteArray), 0, 3)) else (some (x8, x9, 0)))
def impl_NextToFail.f (k : Nat) (l0 : List (S72)) (l1 : List (S75)) : Option (ByteArray × Int × Int) := (impl_gearCode.f k l0 l1 0).bind fun t550 => (if t550 = 0 then (impl_NextToFail.l0 k l1 (⟨#[]⟩ : ByteArray) (-1) l0 (l0.length : Int) 0) else (some ((⟨#[]⟩ : ByteArray), 0, t550)))
set_option maxHeartbeats 8000000 in
set_option maxRecDepth 100000 in
theorem impl_NextToFail.calls (k : Nat) (A0 : Option Addr) (c0 : Nat) (l0 : List (S72)) (A1 : Option Addr) (c1 : Nat) (l1 : List (S75)) (r1 : ByteArray) (r2 : Int) (r3 : Int) (w : World) (hr0 : Kd.C k72 w A0 l0.length l0) (hc0 : l0.length ≤ c0) (hr1 : Kd.C k75 w A1 l1.length l1) (hc1 : l1.length ≤ c1) (h : impl_NextToFail.f k l0 l1 = some (r1, r2, r3)) :
  Calls Try.prog 41 #[.slice A0 l0.length c0, .slice A1 l1.length c1] w fun e w' => e = .returned (.tuple #[.string r1, .int .i64 r2, .int .i64 r3]) ∧ Below w.heap.size w w' := by
 have hu72 := Try.underlying72
 have HR0 := ak_ hr0
 have HC0 := ak_ hc0
 clear hr0 hc0
 have HR1 := ak_ hr1
 have HC1 := ak_ hc1
 clear hr1 hc1
 have HB := ak_ (Below.refl w.heap.size w)
 have H : ((impl_gearCode.f k l0 l1 0).bind fun t550 => (if t550 = 0 then (impl_NextToFail.l0 k l1 (⟨#[]⟩ : ByteArray) (-1) l0 (l0.length : Int) 0) else (some ((⟨#[]⟩ : ByteArray), 0, t550)))) = some (r1, r2, r3) := h
 clear h
 replace H := ob_ H
 obtain ⟨t550, A30, H⟩ := H
 replace H : (if t550 = 0 then (impl_NextToFail.l0 k l1 (⟨#[]⟩ : ByteArray) (-1) l0 (l0.length : Int) 0) else (some ((⟨#[]⟩ : ByteArray), 0, t550))) = some (r1, r2, r3) := H
 have A3 := ak_ A30
 clear A30
 by_cases c4 : t550 = 0
 ·rw [if_pos c4] at H
  have c4b0 : (t550 == 0) = true := beq_iff_eq.mpr c4
  have c4b1 : (t550 != 0) = false := bne_eq_false_iff_eq.mpr c4
  clear c4
  have H' := ak_ H
  clear H
  go_enter Try.func41, Try.ntmps41
  go_wp2_with (first | ((with_reducible refine gate_callee (f := 76) rfl ?_); refine goesL_ (some 15) rfl rfl Try.func76 (by kernel_rfl) rfl #[.slice A0 l0.length c0, .slice A1 l1.length c1, .int .i64 0] rfl ln_ ?_; (with_reducible refine (impl_gearCode.calls k _ _ l0 _ _ l1 0 t550 _ ?side1 ?side2 ?side3 ?side4 A3.out).mono ?_); (case side1 => exact kc_ HR0.out); (case side2 => exact HC0.out); (case side3 => exact kc_ HR1.out); (case side4 => exact HC1.out); rintro e w5 ⟨rfl, hb⟩; refine ⟨_, rfl, ?_⟩; have n0_ := ak_ (below_step hb_ hb); clear HB; have HB := n0_; clear n0_; clear hb))
  go_loopg [8, 9, 21] k (fun kq v8 v9 v21 w' => ∃ (x8_1 : ByteArray) (x9_1 : Int) (x21_1 : Int), v8 = .string x8_1 ∧ v9 = .int .i64 x9_1 ∧ v21 = .int .i64 x21_1 ∧ Aside0 (impl_NextToFail.l0 kq l1 x8_1 x9_1 l0 (l0.length : Int) x21_1 = some (r1, r2, r3)) ∧ Aside0 (kq ≤ k) ∧ Aside0 (Below w.heap.size w w'))
  case atStart => exact ⟨((⟨#[]⟩ : ByteArray)), ((-1)), (0), fr_, fr_, fr_, H', ⟨Nat.le_refl _⟩, ⟨hb_⟩⟩
  case round =>
   clear H'
   try clear c1
   try clear p2
   try clear c4
   try clear c4b0
   try clear c4b1
   obtain ⟨x8_1, x9_1, x21_1, rfl, rfl, rfl, HA, HK1, HB⟩ := hrel
   cases gk with
   | zero => exact absurd HA.out (by simp [impl_NextToFail.l0])
   | succ k1 =>
    have H := HA.out
    clear HA
    simp only [impl_NextToFail.l0] at H
    by_cases c6 : x21_1 < (l0.length : Int)
    ·rw [if_pos c6] at H
     have c6b0 : decide (x21_1 < (l0.length : Int)) = true := dt_ c6
     clear c6
     by_cases c7 : 0 ≤ x21_1
     ·rw [if_pos c7] at H
      have c7b0 : decide (0 ≤ x21_1) = true := dt_ c7
      clear c7
      by_cases c8 : x21_1 < (l0.length : Int)
      ·rw [if_pos c8] at H
       have c8b0 : decide (x21_1 < (l0.length : Int)) = true := dt_ c8
       clear c8
       replace H := ob_ H
       obtain ⟨t553, A90, H⟩ := H
       replace H : (if t553 ≥ 0 then (if x9_1 < 0 then (impl_NextToFail.l0 k1 l1 ((rd_T72 l0 x21_1).f0) t553 l0 (l0.length : Int) (wrap64 (x21_1 + 1))) else (if t553 < x9_1 then (impl_NextToFail.l0 k1 l1 ((rd_T72 l0 x21_1).f0) t553 l0 (l0.length : Int) (wrap64 (x21_1 + 1))) else (impl_NextToFail.l0 k1 l1 x8_1 x9_1 l0 (l0.length : Int) (wrap64 (x21_1 + 1))))) else (impl_NextToFail.l0 k1 l1 x8_1 x9_1 l0 (l0.length : Int) (wrap64 (x21_1 + 1)))) = some (r1, r2, r3) := H
       have A9 := ak_ A90
       clear A90
       by_cases c10 : t553 ≥ 0
       ·rw [if_pos c10] at H
        have c10b0 : decide (0 ≤ t553) = true := dt_ c10
        clear c10
        by_cases c11 : x9_1 < 0
        ·rw [if_pos c11] at H
         have c11b0 : decide (x9_1 < 0) = true := dt_ c11
         clear c11
         have H' := ak_ H
         clear H
         have p551 : 0 ≤ (x21_1 : Int) := od_
         have q551 : x21_1 < (l0.length : Int) := od_
         obtain ⟨ad551, e551, hx551_0, hx551_1, hx551_2, hx551_3⟩ := at_T72 HR0.out x21_1 p551 q551
         cases e551
         replace hx551_0 := cq_ HB hx551_0
         replace hx551_1 := cq_ HB hx551_1
         replace hx551_2 := cq_ HB hx551_2
         replace hx551_3 := cq_ HB hx551_3
         replace p551 := eq_true p551
         replace q551 := eq_true q551
         go_wp2_with (first | ((with_reducible refine gate_dst (N := 11) rfl ?_); refine box_event ?hg (N := 11) ?hd (cs := #[.string (⟨#[]⟩ : ByteArray), .int .i64 0, .int .i64 0, .int .i64 0]) (t := 72) ?hr ?_; (case hd => rfl); (case hg => rfl); (case hr => first | (go_simp; done) | (go_simp; rfl)); intro gb552 hg w12 hbox hb; have n0_ := ak_ (below_step hb_ hb); have n1_ := ak_ (hbox); have n2_ := ak_ ((by rw [hg]; exact (below_size hb_) : w.heap.size ≤ gb552)); have n3_ := ak_ ((by rw [hg]; exact (below_size hb_) : w.heap.size ≤ gb552)); clear HB; have HB := n0_; have BK552 := n1_; have GW552 := n2_; have GE552 := n3_; clear n0_ n1_ n2_ n3_; clear hb hbox hg; have hcz13_0 : w12.cell? ⟨gb552, 0, none⟩ = some (.string (⟨#[]⟩ : ByteArray)) := (blk_cell BK552.out 0).trans rfl; have hcz13_1 : w12.cell? ⟨gb552, 1, none⟩ = some (.int .i64 0) := (blk_cell BK552.out 1).trans rfl; have hcz13_2 : w12.cell? ⟨gb552, 2, none⟩ = some (.int .i64 0) := (blk_cell BK552.out 2).trans rfl; have hcz13_3 : w12.cell? ⟨gb552, 3, none⟩ = some (.int .i64 0) := (blk_cell BK552.out 3).trans rfl; have hfz13_0 := blk_frozen BK552.out 0; have hfz13_1 := blk_frozen BK552.out 1; have hfz13_2 := blk_frozen BK552.out 2; have hfz13_3 := blk_frozen BK552.out 3) | ((with_reducible refine gate_callee (f := 84) rfl ?_); refine goesL_ (some 27) rfl rfl Try.func84 (by kernel_rfl) rfl #[.agg #[.string ((rd_T72 l0 x21_1).f0), .int .i64 ((rd_T72 l0 x21_1).f1), .int .i64 ((rd_T72 l0 x21_1).f2), .int .i64 ((rd_T72 l0 x21_1).f3)], .slice A1 l1.length c1] rfl ln_ ?_; (with_reducible refine (impl_dayOfEnd.calls k1 ((rd_T72 l0 x21_1).f0) ((rd_T72 l0 x21_1).f1) ((rd_T72 l0 x21_1).f2) ((rd_T72 l0 x21_1).f3) _ _ l1 t553 _ ?side1 ?side2 A9.out).mono ?_); (case side1 => exact Kd.C_below HR1.out (hg_ GE552)); (case side2 => exact HC1.out); rintro e w14 ⟨rfl, hb⟩; refine ⟨_, rfl, ?_⟩; have n0_ := ak_ (blk_below (g := gb552) (o := .cells #[.string ((rd_T72 l0 x21_1).f0), .int .i64 ((rd_T72 l0 x21_1).f1), .int .i64 ((rd_T72 l0 x21_1).f2), .int .i64 ((rd_T72 l0 x21_1).f3)] 72 (0, 0)) (by (with_reducible repeat (first | refine blk_drewN ?_ _ | refine blk_drew ?_ | refine blk_alloc ?_ _)); refine blk_put (cs := #[.string ((rd_T72 l0 x21_1).f0), .int .i64 ((rd_T72 l0 x21_1).f1), .int .i64 ((rd_T72 l0 x21_1).f2), .int .i64 0]) ?_ 3 _ rfl; (with_reducible repeat (first | refine blk_drewN ?_ _ | refine blk_drew ?_ | refine blk_alloc ?_ _)); refine blk_put (cs := #[.string ((rd_T72 l0 x21_1).f0), .int .i64 ((rd_T72 l0 x21_1).f1), .int .i64 0, .int .i64 0]) ?_ 2 _ rfl; (with_reducible repeat (first | refine blk_drewN ?_ _ | refine blk_drew ?_ | refine blk_alloc ?_ _)); refine blk_put (cs := #[.string ((rd_T72 l0 x21_1).f0), .int .i64 0, .int .i64 0, .int .i64 0]) ?_ 1 _ rfl; (with_reducible repeat (first | refine blk_drewN ?_ _ | refine blk_drew ?_ | refine blk_alloc ?_ _)); refine blk_put (cs := #[.string (⟨#[]⟩ : ByteArray), .int .i64 0, .int .i64 0, .int .i64 0]) ?_ 0 _ rfl; (with_reducible repeat (first | refine blk_drewN ?_ _ | refine blk_drew ?_ | refine blk_alloc ?_ _)); exact BK552.out) hb); have n1_ := ak_ (below_step (hg_ GE552) hb); clear BK552 HB; have BK552 := n0_; have HB := n1_; clear n0_ n1_; (try clear hb); (try clear hb2); (try clear hk); (try clear hi); have hcz15_0 : w14.cell? ⟨gb552, 0, none⟩ = some (.string ((rd_T72 l0 x21_1).f0)) := (blk_cell BK552.out 0).trans rfl; have hcz15_1 : w14.cell? ⟨gb552, 1, none⟩ = some (.int .i64 ((rd_T72 l0 x21_1).f1)) := (blk_cell BK552.out 1).trans rfl; have hcz15_2 : w14.cell? ⟨gb552, 2, none⟩ = some (.int .i64 ((rd_T72 l0 x21_1).f2)) := (blk_cell BK552.out 2).trans rfl; have hcz15_3 : w14.cell? ⟨gb552, 3, none⟩ = some (.int .i64 ((rd_T72 l0 x21_1).f3)) := (blk_cell BK552.out 3).trans rfl; have hfz15_0 := blk_frozen BK552.out 0; have hfz15_1 := blk_frozen BK552.out 1; have hfz15_2 := blk_frozen BK552.out 2; have hfz15_3 := blk_frozen BK552.out 3))
         go_roundg k1
         case measure => have := HK1.out; omega
         case rel => exact ⟨((rd_T72 l0 x21_1).f0), (t553), (wrap64 (x21_1 + 1)), fr_, fr_, fr_, H', ⟨by have := HK1.out; omega⟩, ⟨(hg_ GE552)⟩⟩
        ·rw [if_neg c11] at H
         have c11b0 : decide (x9_1 < 0) = false := decide_eq_false c11
         clear c11
         by_cases c16 : t553 < x9_1
         ·rw [if_pos c16] at H
          have c16b0 : decide (t553 < x9_1) = true := dt_ c16
          clear c16
          have H' := ak_ H
          clear H
          have p551 : 0 ≤ (x21_1 : Int) := od_
          have q551 : x21_1 < (l0.length : Int) := od_
          obtain ⟨ad551, e551, hx551_0, hx551_1, hx551_2, hx551_3⟩ := at_T72 HR0.out x21_1 p551 q551
          cases e551
          replace hx551_0 := cq_ HB hx551_0
          replace hx551_1 := cq_ HB hx551_1
          replace hx551_2 := cq_ HB hx551_2
          replace hx551_3 := cq_ HB hx551_3
          replace p551 := eq_true p551
          replace q551 := eq_true q551
          go_wp2_with (first | ((with_reducible refine gate_dst (N := 11) rfl ?_); refine box_event ?hg (N := 11) ?hd (cs := #[.string (⟨#[]⟩ : ByteArray), .int .i64 0, .int .i64 0, .int .i64 0]) (t := 72) ?hr ?_; (case hd => rfl); (case hg => rfl); (case hr => first | (go_simp; done) | (go_simp; rfl)); intro gb552 hg w17 hbox hb; have n0_ := ak_ (below_step hb_ hb); have n1_ := ak_ (hbox); have n2_ := ak_ ((by rw [hg]; exact (below_size hb_) : w.heap.size ≤ gb552)); have n3_ := ak_ ((by rw [hg]; exact (below_size hb_) : w.heap.size ≤ gb552)); clear HB; have HB := n0_; have BK552 := n1_; have GW552 := n2_; have GE552 := n3_; clear n0_ n1_ n2_ n3_; clear hb hbox hg; have hcz18_0 : w17.cell? ⟨gb552, 0, none⟩ = some (.string (⟨#[]⟩ : ByteArray)) := (blk_cell BK552.out 0).trans rfl; have hcz18_1 : w17.cell? ⟨gb552, 1, none⟩ = some (.int .i64 0) := (blk_cell BK552.out 1).trans rfl; have hcz18_2 : w17.cell? ⟨gb552, 2, none⟩ = some (.int .i64 0) := (blk_cell BK552.out 2).trans rfl; have hcz18_3 : w17.cell? ⟨gb552, 3, none⟩ = some (.int .i64 0) := (blk_cell BK552.out 3).trans rfl; have hfz18_0 := blk_frozen BK552.out 0; have hfz18_1 := blk_frozen BK552.out 1; have hfz18_2 := blk_frozen BK552.out 2; have hfz18_3 := blk_frozen BK552.out 3) | ((with_reducible refine gate_callee (f := 84) rfl ?_); refine goesL_ (some 27) rfl rfl Try.func84 (by kernel_rfl) rfl #[.agg #[.string ((rd_T72 l0 x21_1).f0), .int .i64 ((rd_T72 l0 x21_1).f1), .int .i64 ((rd_T72 l0 x21_1).f2), .int .i64 ((rd_T72 l0 x21_1).f3)], .slice A1 l1.length c1] rfl ln_ ?_; (with_reducible refine (impl_dayOfEnd.calls k1 ((rd_T72 l0 x21_1).f0) ((rd_T72 l0 x21_1).f1) ((rd_T72 l0 x21_1).f2) ((rd_T72 l0 x21_1).f3) _ _ l1 t553 _ ?side1 ?side2 A9.out).mono ?_); (case side1 => exact Kd.C_below HR1.out (hg_ GE552)); (case side2 => exact HC1.out); rintro e w19 ⟨rfl, hb⟩; refine ⟨_, rfl, ?_⟩; have n0_ := ak_ (blk_below (g := gb552) (o := .cells #[.string ((rd_T72 l0 x21_1).f0), .int .i64 ((rd_T72 l0 x21_1).f1), .int .i64 ((rd_T72 l0 x21_1).f2), .int .i64 ((rd_T72 l0 x21_1).f3)] 72 (0, 0)) (by (with_reducible repeat (first | refine blk_drewN ?_ _ | refine blk_drew ?_ | refine blk_alloc ?_ _)); refine blk_put (cs := #[.string ((rd_T72 l0 x21_1).f0), .int .i64 ((rd_T72 l0 x21_1).f1), .int .i64 ((rd_T72 l0 x21_1).f2), .int .i64 0]) ?_ 3 _ rfl; (with_reducible repeat (first | refine blk_drewN ?_ _ | refine blk_drew ?_ | refine blk_alloc ?_ _)); refine blk_put (cs := #[.string ((rd_T72 l0 x21_1).f0), .int .i64 ((rd_T72 l0 x21_1).f1), .int .i64 0, .int .i64 0]) ?_ 2 _ rfl; (with_reducible repeat (first | refine blk_drewN ?_ _ | refine blk_drew ?_ | refine blk_alloc ?_ _)); refine blk_put (cs := #[.string ((rd_T72 l0 x21_1).f0), .int .i64 0, .int .i64 0, .int .i64 0]) ?_ 1 _ rfl; (with_reducible repeat (first | refine blk_drewN ?_ _ | refine blk_drew ?_ | refine blk_alloc ?_ _)); refine blk_put (cs := #[.string (⟨#[]⟩ : ByteArray), .int .i64 0, .int .i64 0, .int .i64 0]) ?_ 0 _ rfl; (with_reducible repeat (first | refine blk_drewN ?_ _ | refine blk_drew ?_ | refine blk_alloc ?_ _)); exact BK552.out) hb); have n1_ := ak_ (below_step (hg_ GE552) hb); clear BK552 HB; have BK552 := n0_; have HB := n1_; clear n0_ n1_; (try clear hb); (try clear hb2); (try clear hk); (try clear hi); have hcz20_0 : w19.cell? ⟨gb552, 0, none⟩ = some (.string ((rd_T72 l0 x21_1).f0)) := (blk_cell BK552.out 0).trans rfl; have hcz20_1 : w19.cell? ⟨gb552, 1, none⟩ = some (.int .i64 ((rd_T72 l0 x21_1).f1)) := (blk_cell BK552.out 1).trans rfl; have hcz20_2 : w19.cell? ⟨gb552, 2, none⟩ = some (.int .i64 ((rd_T72 l0 x21_1).f2)) := (blk_cell BK552.out 2).trans rfl; have hcz20_3 : w19.cell? ⟨gb552, 3, none⟩ = some (.int .i64 ((rd_T72 l0 x21_1).f3)) := (blk_cell BK552.out 3).trans rfl; have hfz20_0 := blk_frozen BK552.out 0; have hfz20_1 := blk_frozen BK552.out 1; have hfz20_2 := blk_frozen BK552.out 2; have hfz20_3 := blk_frozen BK552.out 3))
          go_roundg k1
          case measure => have := HK1.out; omega
          case rel => exact ⟨((rd_T72 l0 x21_1).f0), (t553), (wrap64 (x21_1 + 1)), fr_, fr_, fr_, H', ⟨by have := HK1.out; omega⟩, ⟨(hg_ GE552)⟩⟩
         ·rw [if_neg c16] at H
          have c16b0 : decide (t553 < x9_1) = false := decide_eq_false c16
          clear c16
          have H' := ak_ H
          clear H
          have p551 : 0 ≤ (x21_1 : Int) := od_
          have q551 : x21_1 < (l0.length : Int) := od_
          obtain ⟨ad551, e551, hx551_0, hx551_1, hx551_2, hx551_3⟩ := at_T72 HR0.out x21_1 p551 q551
          cases e551
          replace hx551_0 := cq_ HB hx551_0
          replace hx551_1 := cq_ HB hx551_1
          replace hx551_2 := cq_ HB hx551_2
          replace hx551_3 := cq_ HB hx551_3
          replace p551 := eq_true p551
          replace q551 := eq_true q551
          go_wp2_with (first | ((with_reducible refine gate_dst (N := 11) rfl ?_); refine box_event ?hg (N := 11) ?hd (cs := #[.string (⟨#[]⟩ : ByteArray), .int .i64 0, .int .i64 0, .int .i64 0]) (t := 72) ?hr ?_; (case hd => rfl); (case hg => rfl); (case hr => first | (go_simp; done) | (go_simp; rfl)); intro gb552 hg w21 hbox hb; have n0_ := ak_ (below_step hb_ hb); have n1_ := ak_ (hbox); have n2_ := ak_ ((by rw [hg]; exact (below_size hb_) : w.heap.size ≤ gb552)); have n3_ := ak_ ((by rw [hg]; exact (below_size hb_) : w.heap.size ≤ gb552)); clear HB; have HB := n0_; have BK552 := n1_; have GW552 := n2_; have GE552 := n3_; clear n0_ n1_ n2_ n3_; clear hb hbox hg; have hcz22_0 : w21.cell? ⟨gb552, 0, none⟩ = some (.string (⟨#[]⟩ : ByteArray)) := (blk_cell BK552.out 0).trans rfl; have hcz22_1 : w21.cell? ⟨gb552, 1, none⟩ = some (.int .i64 0) := (blk_cell BK552.out 1).trans rfl; have hcz22_2 : w21.cell? ⟨gb552, 2, none⟩ = some (.int .i64 0) := (blk_cell BK552.out 2).trans rfl; have hcz22_3 : w21.cell? ⟨gb552, 3, none⟩ = some (.int .i64 0) := (blk_cell BK552.out 3).trans rfl; have hfz22_0 := blk_frozen BK552.out 0; have hfz22_1 := blk_frozen BK552.out 1; have hfz22_2 := blk_frozen BK552.out 2; have hfz22_3 := blk_frozen BK552.out 3) | ((with_reducible refine gate_callee (f := 84) rfl ?_); refine goesL_ (some 27) rfl rfl Try.func84 (by kernel_rfl) rfl #[.agg #[.string ((rd_T72 l0 x21_1).f0), .int .i64 ((rd_T72 l0 x21_1).f1), .int .i64 ((rd_T72 l0 x21_1).f2), .int .i64 ((rd_T72 l0 x21_1).f3)], .slice A1 l1.length c1] rfl ln_ ?_; (with_reducible refine (impl_dayOfEnd.calls k1 ((rd_T72 l0 x21_1).f0) ((rd_T72 l0 x21_1).f1) ((rd_T72 l0 x21_1).f2) ((rd_T72 l0 x21_1).f3) _ _ l1 t553 _ ?side1 ?side2 A9.out).mono ?_); (case side1 => exact Kd.C_below HR1.out (hg_ GE552)); (case side2 => exact HC1.out); rintro e w23 ⟨rfl, hb⟩; refine ⟨_, rfl, ?_⟩; have n0_ := ak_ (blk_below (g := gb552) (o := .cells #[.string ((rd_T72 l0 x21_1).f0), .int .i64 ((rd_T72 l0 x21_1).f1), .int .i64 ((rd_T72 l0 x21_1).f2), .int .i64 ((rd_T72 l0 x21_1).f3)] 72 (0, 0)) (by (with_reducible repeat (first | refine blk_drewN ?_ _ | refine blk_drew ?_ | refine blk_alloc ?_ _)); refine blk_put (cs := #[.string ((rd_T72 l0 x21_1).f0), .int .i64 ((rd_T72 l0 x21_1).f1), .int .i64 ((rd_T72 l0 x21_1).f2), .int .i64 0]) ?_ 3 _ rfl; (with_reducible repeat (first | refine blk_drewN ?_ _ | refine blk_drew ?_ | refine blk_alloc ?_ _)); refine blk_put (cs := #[.string ((rd_T72 l0 x21_1).f0), .int .i64 ((rd_T72 l0 x21_1).f1), .int .i64 0, .int .i64 0]) ?_ 2 _ rfl; (with_reducible repeat (first | refine blk_drewN ?_ _ | refine blk_drew ?_ | refine blk_alloc ?_ _)); refine blk_put (cs := #[.string ((rd_T72 l0 x21_1).f0), .int .i64 0, .int .i64 0, .int .i64 0]) ?_ 1 _ rfl; (with_reducible repeat (first | refine blk_drewN ?_ _ | refine blk_drew ?_ | refine blk_alloc ?_ _)); refine blk_put (cs := #[.string (⟨#[]⟩ : ByteArray), .int .i64 0, .int .i64 0, .int .i64 0]) ?_ 0 _ rfl; (with_reducible repeat (first | refine blk_drewN ?_ _ | refine blk_drew ?_ | refine blk_alloc ?_ _)); exact BK552.out) hb); have n1_ := ak_ (below_step (hg_ GE552) hb); clear BK552 HB; have BK552 := n0_; have HB := n1_; clear n0_ n1_; clear hb))
          go_roundg k1
          case measure => have := HK1.out; omega
          case rel => exact ⟨(x8_1), (x9_1), (wrap64 (x21_1 + 1)), fr_, fr_, fr_, H', ⟨by have := HK1.out; omega⟩, ⟨(hg_ GE552)⟩⟩
       ·rw [if_neg c10] at H
        have c10b0 : decide (0 ≤ t553) = false := decide_eq_false c10
        clear c10
        have H' := ak_ H
        clear H
        have p551 : 0 ≤ (x21_1 : Int) := od_
        have q551 : x21_1 < (l0.length : Int) := od_
        obtain ⟨ad551, e551, hx551_0, hx551_1, hx551_2, hx551_3⟩ := at_T72 HR0.out x21_1 p551 q551
        cases e551
        replace hx551_0 := cq_ HB hx551_0
        replace hx551_1 := cq_ HB hx551_1
        replace hx551_2 := cq_ HB hx551_2
        replace hx551_3 := cq_ HB hx551_3
        replace p551 := eq_true p551
        replace q551 := eq_true q551
        go_wp2_with (first | ((with_reducible refine gate_dst (N := 11) rfl ?_); refine box_event ?hg (N := 11) ?hd (cs := #[.string (⟨#[]⟩ : ByteArray), .int .i64 0, .int .i64 0, .int .i64 0]) (t := 72) ?hr ?_; (case hd => rfl); (case hg => rfl); (case hr => first | (go_simp; done) | (go_simp; rfl)); intro gb552 hg w24 hbox hb; have n0_ := ak_ (below_step hb_ hb); have n1_ := ak_ (hbox); have n2_ := ak_ ((by rw [hg]; exact (below_size hb_) : w.heap.size ≤ gb552)); have n3_ := ak_ ((by rw [hg]; exact (below_size hb_) : w.heap.size ≤ gb552)); clear HB; have HB := n0_; have BK552 := n1_; have GW552 := n2_; have GE552 := n3_; clear n0_ n1_ n2_ n3_; clear hb hbox hg; have hcz25_0 : w24.cell? ⟨gb552, 0, none⟩ = some (.string (⟨#[]⟩ : ByteArray)) := (blk_cell BK552.out 0).trans rfl; have hcz25_1 : w24.cell? ⟨gb552, 1, none⟩ = some (.int .i64 0) := (blk_cell BK552.out 1).trans rfl; have hcz25_2 : w24.cell? ⟨gb552, 2, none⟩ = some (.int .i64 0) := (blk_cell BK552.out 2).trans rfl; have hcz25_3 : w24.cell? ⟨gb552, 3, none⟩ = some (.int .i64 0) := (blk_cell BK552.out 3).trans rfl; have hfz25_0 := blk_frozen BK552.out 0; have hfz25_1 := blk_frozen BK552.out 1; have hfz25_2 := blk_frozen BK552.out 2; have hfz25_3 := blk_frozen BK552.out 3) | ((with_reducible refine gate_callee (f := 84) rfl ?_); refine goesL_ (some 27) rfl rfl Try.func84 (by kernel_rfl) rfl #[.agg #[.string ((rd_T72 l0 x21_1).f0), .int .i64 ((rd_T72 l0 x21_1).f1), .int .i64 ((rd_T72 l0 x21_1).f2), .int .i64 ((rd_T72 l0 x21_1).f3)], .slice A1 l1.length c1] rfl ln_ ?_; (with_reducible refine (impl_dayOfEnd.calls k1 ((rd_T72 l0 x21_1).f0) ((rd_T72 l0 x21_1).f1) ((rd_T72 l0 x21_1).f2) ((rd_T72 l0 x21_1).f3) _ _ l1 t553 _ ?side1 ?side2 A9.out).mono ?_); (case side1 => exact Kd.C_below HR1.out (hg_ GE552)); (case side2 => exact HC1.out); rintro e w26 ⟨rfl, hb⟩; refine ⟨_, rfl, ?_⟩; have n0_ := ak_ (blk_below (g := gb552) (o := .cells #[.string ((rd_T72 l0 x21_1).f0), .int .i64 ((rd_T72 l0 x21_1).f1), .int .i64 ((rd_T72 l0 x21_1).f2), .int .i64 ((rd_T72 l0 x21_1).f3)] 72 (0, 0)) (by (with_reducible repeat (first | refine blk_drewN ?_ _ | refine blk_drew ?_ | refine blk_alloc ?_ _)); refine blk_put (cs := #[.string ((rd_T72 l0 x21_1).f0), .int .i64 ((rd_T72 l0 x21_1).f1), .int .i64 ((rd_T72 l0 x21_1).f2), .int .i64 0]) ?_ 3 _ rfl; (with_reducible repeat (first | refine blk_drewN ?_ _ | refine blk_drew ?_ | refine blk_alloc ?_ _)); refine blk_put (cs := #[.string ((rd_T72 l0 x21_1).f0), .int .i64 ((rd_T72 l0 x21_1).f1), .int .i64 0, .int .i64 0]) ?_ 2 _ rfl; (with_reducible repeat (first | refine blk_drewN ?_ _ | refine blk_drew ?_ | refine blk_alloc ?_ _)); refine blk_put (cs := #[.string ((rd_T72 l0 x21_1).f0), .int .i64 0, .int .i64 0, .int .i64 0]) ?_ 1 _ rfl; (with_reducible repeat (first | refine blk_drewN ?_ _ | refine blk_drew ?_ | refine blk_alloc ?_ _)); refine blk_put (cs := #[.string (⟨#[]⟩ : ByteArray), .int .i64 0, .int .i64 0, .int .i64 0]) ?_ 0 _ rfl; (with_reducible repeat (first | refine blk_drewN ?_ _ | refine blk_drew ?_ | refine blk_alloc ?_ _)); exact BK552.out) hb); have n1_ := ak_ (below_step (hg_ GE552) hb); clear BK552 HB; have BK552 := n0_; have HB := n1_; clear n0_ n1_; clear hb))
        go_roundg k1
        case measure => have := HK1.out; omega
        case rel => exact ⟨(x8_1), (x9_1), (wrap64 (x21_1 + 1)), fr_, fr_, fr_, H', ⟨by have := HK1.out; omega⟩, ⟨(hg_ GE552)⟩⟩
      ·rw [if_neg c8] at H
       exact absurd H (by simp)
     ·rw [if_neg c7] at H
      exact absurd H (by simp)
    ·rw [if_neg c6] at H
     have c6b0 : decide (x21_1 < (l0.length : Int)) = false := decide_eq_false c6
     clear c6
     by_cases c27 : x9_1 < 0
     ·rw [if_pos c27] at H
      have c27b0 : decide (x9_1 < 0) = true := dt_ c27
      clear c27
      simp only [Option.some.injEq, Prod.mk.injEq] at H
      obtain ⟨rfl, rfl, rfl⟩ := H
      go_wp2
      go_ret3
      exact ⟨ew_, hb_⟩
     ·rw [if_neg c27] at H
      have c27b0 : decide (x9_1 < 0) = false := decide_eq_false c27
      clear c27
      simp only [Option.some.injEq, Prod.mk.injEq] at H
      obtain ⟨rfl, rfl, rfl⟩ := H
      go_wp2
      go_ret3
      exact ⟨ew_, hb_⟩
 ·rw [if_neg c4] at H
  have c4b0 : (t550 == 0) = false := beq_eq_false_iff_ne.mpr c4
  have c4b1 : (t550 != 0) = true := bne_iff_ne.mpr c4
  simp only [Option.some.injEq, Prod.mk.injEq] at H
  obtain ⟨rfl, rfl, rfl⟩ := H
  go_enter Try.func41, Try.ntmps41
  go_wp2_with (first | ((with_reducible refine gate_callee (f := 76) rfl ?_); refine goesL_ (some 15) rfl rfl Try.func76 (by kernel_rfl) rfl #[.slice A0 l0.length c0, .slice A1 l1.length c1, .int .i64 0] rfl ln_ ?_; (with_reducible refine (impl_gearCode.calls k _ _ l0 _ _ l1 0 t550 _ ?side1 ?side2 ?side3 ?side4 A3.out).mono ?_); (case side1 => exact kc_ HR0.out); (case side2 => exact HC0.out); (case side3 => exact kc_ HR1.out); (case side4 => exact HC1.out); rintro e w28 ⟨rfl, hb⟩; refine ⟨_, rfl, ?_⟩; have n0_ := ak_ (below_step hb_ hb); clear HB; have HB := n0_; clear n0_; clear hb))
  go_ret3
  exact ⟨ew_, hb_⟩

/-! ### spec_NextToFail: function 42 -/
def spec_NextToFail.l0 : Nat → List (S72) → List (S75) → Int → Int → Int → Option (ByteArray × Int × Int)
 | 0, _, _, _, _, _ => none
 | k + 1, x0, x1, x7, x8, x9 => if x9 < (x0.length : Int) then (if 0 ≤ x9 then ((spec_l21End.f k ((rd_T72 x0 x9).f0) ((rd_T72 x0 x9).f1) ((rd_T72 x0 x9).f2) ((rd_T72 x0 x9).f3) x1).bind fun t556 => (if t556 ≥ 0 then (if x7 < 0 then (spec_NextToFail.l0 k x0 x1 x9 t556 (wrap64 (x9 + 1))) else (if t556 < x8 then (spec_NextToFail.l0 k x0 x1 x9 t556 (wrap64 (x9 + 1))) else (spec_NextToFail.l0 k x0 x1 x7 x8 (wrap64 (x9 + 1))))) else (spec_NextToFail.l0 k x0 x1 x7 x8 (wrap64 (x9 + 1))))) else (none)) else (if x7 < 0 then (some ((⟨#[]⟩ : ByteArray), 0, 3)) else (if 0 ≤ x7 then (if x7 < (x0.length : Int) then (some ((rd_T72 x0 x7).f0, x8, 0)) else (none)) else (none)))
def spec_NextToFail.f (k : Nat) (l0 : List (S72)) (l1 : List (S75)) : Option (ByteArray × Int × Int) := (spec_l21Checks.f k l0 l1).bind fun t554 => (if t554 = true then (spec_NextToFail.l0 k l0 l1 (-1) 0 0) else (some ((⟨#[]⟩ : ByteArray), 0, 1)))
set_option maxHeartbeats 8000000 in
set_option maxRecDepth 100000 in
theorem spec_NextToFail.calls (k : Nat) (A0 : Option Addr) (c0 : Nat) (l0 : List (S72)) (A1 : Option Addr) (c1 : Nat) (l1 : List (S75)) (r1 : ByteArray) (r2 : Int) (r3 : Int) (w : World) (hr0 : Kd.C k72 w A0 l0.length l0) (hc0 : l0.length ≤ c0) (hr1 : Kd.C k75 w A1 l1.length l1) (hc1 : l1.length ≤ c1) (h : spec_NextToFail.f k l0 l1 = some (r1, r2, r3)) :
  Calls Try.prog 42 #[.slice A0 l0.length c0, .slice A1 l1.length c1] w fun e w' => e = .returned (.tuple #[.string r1, .int .i64 r2, .int .i64 r3]) ∧ Below w.heap.size w w' := by
 have HR0 := ak_ hr0
 have HC0 := ak_ hc0
 clear hr0 hc0
 have HR1 := ak_ hr1
 have HC1 := ak_ hc1
 clear hr1 hc1
 have HB := ak_ (Below.refl w.heap.size w)
 have H : ((spec_l21Checks.f k l0 l1).bind fun t554 => (if t554 = true then (spec_NextToFail.l0 k l0 l1 (-1) 0 0) else (some ((⟨#[]⟩ : ByteArray), 0, 1)))) = some (r1, r2, r3) := h
 clear h
 replace H := ob_ H
 obtain ⟨t554, A30, H⟩ := H
 replace H : (if t554 = true then (spec_NextToFail.l0 k l0 l1 (-1) 0 0) else (some ((⟨#[]⟩ : ByteArray), 0, 1))) = some (r1, r2, r3) := H
 have A3 := ak_ A30
 clear A30
 by_cases c4 : t554 = true
 ·subst c4
  have H1 : (spec_NextToFail.l0 k l0 l1 (-1) 0 0) = some (r1, r2, r3) := by rw [if_pos rfl] at H; exact H
  clear H
  have H := H1
  clear H1
  have H' := ak_ H
  clear H
  go_enter Try.func42, Try.ntmps42
  go_wp2_with (first | ((with_reducible refine gate_callee (f := 79) rfl ?_); refine goesL_ (some 13) rfl rfl Try.func79 (by kernel_rfl) rfl #[.slice A0 l0.length c0, .slice A1 l1.length c1] rfl ln_ ?_; (with_reducible refine (spec_l21Checks.calls k _ _ l0 _ _ l1 true _ ?side1 ?side2 ?side3 ?side4 A3.out).mono ?_); (case side1 => exact kc_ HR0.out); (case side2 => exact HC0.out); (case side3 => exact kc_ HR1.out); (case side4 => exact HC1.out); rintro e w5 ⟨rfl, hb⟩; refine ⟨_, rfl, ?_⟩; have n0_ := ak_ (below_step hb_ hb); clear HB; have HB := n0_; clear n0_; clear hb))
  go_loopg [7, 8, 9] k (fun kq v7 v8 v9 w' => ∃ (x7_1 : Int) (x8_1 : Int) (x9_1 : Int), v7 = .int .i64 x7_1 ∧ v8 = .int .i64 x8_1 ∧ v9 = .int .i64 x9_1 ∧ Aside0 (spec_NextToFail.l0 kq l0 l1 x7_1 x8_1 x9_1 = some (r1, r2, r3)) ∧ Aside0 (kq ≤ k) ∧ Aside0 (Below w.heap.size w w'))
  case atStart => exact ⟨((-1)), (0), (0), fr_, fr_, fr_, H', ⟨Nat.le_refl _⟩, ⟨hb_⟩⟩
  case round =>
   clear H'
   try clear c1
   try clear p2
   try clear c4
   obtain ⟨x7_1, x8_1, x9_1, rfl, rfl, rfl, HA, HK1, HB⟩ := hrel
   cases gk with
   | zero => exact absurd HA.out (by simp [spec_NextToFail.l0])
   | succ k1 =>
    have H := HA.out
    clear HA
    simp only [spec_NextToFail.l0] at H
    by_cases c6 : x9_1 < (l0.length : Int)
    ·rw [if_pos c6] at H
     have c6b0 : decide (x9_1 < (l0.length : Int)) = true := dt_ c6
     clear c6
     by_cases c7 : 0 ≤ x9_1
     ·rw [if_pos c7] at H
      have c7b0 : decide (0 ≤ x9_1) = true := dt_ c7
      clear c7
      replace H := ob_ H
      obtain ⟨t556, A80, H⟩ := H
      replace H : (if t556 ≥ 0 then (if x7_1 < 0 then (spec_NextToFail.l0 k1 l0 l1 x9_1 t556 (wrap64 (x9_1 + 1))) else (if t556 < x8_1 then (spec_NextToFail.l0 k1 l0 l1 x9_1 t556 (wrap64 (x9_1 + 1))) else (spec_NextToFail.l0 k1 l0 l1 x7_1 x8_1 (wrap64 (x9_1 + 1))))) else (spec_NextToFail.l0 k1 l0 l1 x7_1 x8_1 (wrap64 (x9_1 + 1)))) = some (r1, r2, r3) := H
      have A8 := ak_ A80
      clear A80
      by_cases c9 : t556 ≥ 0
      ·rw [if_pos c9] at H
       have c9b0 : decide (0 ≤ t556) = true := dt_ c9
       clear c9
       by_cases c10 : x7_1 < 0
       ·rw [if_pos c10] at H
        have c10b0 : decide (x7_1 < 0) = true := dt_ c10
        clear c10
        have H' := ak_ H
        clear H
        have p555 : 0 ≤ (x9_1 : Int) := od_
        have q555 : x9_1 < (l0.length : Int) := od_
        obtain ⟨ad555, e555, hx555_0, hx555_1, hx555_2, hx555_3⟩ := at_T72 HR0.out x9_1 p555 q555
        cases e555
        replace hx555_0 := cq_ HB hx555_0
        replace hx555_1 := cq_ HB hx555_1
        replace hx555_2 := cq_ HB hx555_2
        replace hx555_3 := cq_ HB hx555_3
        replace p555 := eq_true p555
        replace q555 := eq_true q555
        go_wp2_with (first | ((with_reducible refine gate_callee (f := 85) rfl ?_); refine goesL_ (some 25) rfl rfl Try.func85 (by kernel_rfl) rfl #[.pointer (some (ad555.add ((x9_1).toNat * 4))), .slice A1 l1.length c1] rfl ln_ ?_; (with_reducible refine (spec_l21End.calls k1 _ ((rd_T72 l0 x9_1).f0) ((rd_T72 l0 x9_1).f1) ((rd_T72 l0 x9_1).f2) ((rd_T72 l0 x9_1).f3) _ _ l1 t556 _ ?side1 ?side2 ?side3 ?side4 ?side5 ?side6 A8.out).mono ?_); (case side1 => exact kc_ (Kd.C_below HR1.out HB.out)); (case side2 => exact HC1.out); (case side3 => first | exact hx555_0 | (simpa using hx555_0) | (go_simp; done)); (case side4 => first | exact hx555_1 | (simpa using hx555_1) | (go_simp; done)); (case side5 => first | exact hx555_2 | (simpa using hx555_2) | (go_simp; done)); (case side6 => first | exact hx555_3 | (simpa using hx555_3) | (go_simp; done)); rintro e w11 ⟨rfl, hb⟩; refine ⟨_, rfl, ?_⟩; have n0_ := ak_ (below_step hb_ hb); clear HB; have HB := n0_; clear n0_; clear hb))
        go_roundg k1
        case measure => have := HK1.out; omega
        case rel => exact ⟨(x9_1), (t556), (wrap64 (x9_1 + 1)), fr_, fr_, fr_, H', ⟨by have := HK1.out; omega⟩, ⟨hb_⟩⟩
       ·rw [if_neg c10] at H
        have c10b0 : decide (x7_1 < 0) = false := decide_eq_false c10
        clear c10
        by_cases c12 : t556 < x8_1
        ·rw [if_pos c12] at H
         have c12b0 : decide (t556 < x8_1) = true := dt_ c12
         clear c12
         have H' := ak_ H
         clear H
         have p555 : 0 ≤ (x9_1 : Int) := od_
         have q555 : x9_1 < (l0.length : Int) := od_
         obtain ⟨ad555, e555, hx555_0, hx555_1, hx555_2, hx555_3⟩ := at_T72 HR0.out x9_1 p555 q555
         cases e555
         replace hx555_0 := cq_ HB hx555_0
         replace hx555_1 := cq_ HB hx555_1
         replace hx555_2 := cq_ HB hx555_2
         replace hx555_3 := cq_ HB hx555_3
         replace p555 := eq_true p555
         replace q555 := eq_true q555
         go_wp2_with (first | ((with_reducible refine gate_callee (f := 85) rfl ?_); refine goesL_ (some 25) rfl rfl Try.func85 (by kernel_rfl) rfl #[.pointer (some (ad555.add ((x9_1).toNat * 4))), .slice A1 l1.length c1] rfl ln_ ?_; (with_reducible refine (spec_l21End.calls k1 _ ((rd_T72 l0 x9_1).f0) ((rd_T72 l0 x9_1).f1) ((rd_T72 l0 x9_1).f2) ((rd_T72 l0 x9_1).f3) _ _ l1 t556 _ ?side1 ?side2 ?side3 ?side4 ?side5 ?side6 A8.out).mono ?_); (case side1 => exact kc_ (Kd.C_below HR1.out HB.out)); (case side2 => exact HC1.out); (case side3 => first | exact hx555_0 | (simpa using hx555_0) | (go_simp; done)); (case side4 => first | exact hx555_1 | (simpa using hx555_1) | (go_simp; done)); (case side5 => first | exact hx555_2 | (simpa using hx555_2) | (go_simp; done)); (case side6 => first | exact hx555_3 | (simpa using hx555_3) | (go_simp; done)); rintro e w13 ⟨rfl, hb⟩; refine ⟨_, rfl, ?_⟩; have n0_ := ak_ (below_step hb_ hb); clear HB; have HB := n0_; clear n0_; clear hb))
         go_roundg k1
         case measure => have := HK1.out; omega
         case rel => exact ⟨(x9_1), (t556), (wrap64 (x9_1 + 1)), fr_, fr_, fr_, H', ⟨by have := HK1.out; omega⟩, ⟨hb_⟩⟩
        ·rw [if_neg c12] at H
         have c12b0 : decide (t556 < x8_1) = false := decide_eq_false c12
         clear c12
         have H' := ak_ H
         clear H
         have p555 : 0 ≤ (x9_1 : Int) := od_
         have q555 : x9_1 < (l0.length : Int) := od_
         obtain ⟨ad555, e555, hx555_0, hx555_1, hx555_2, hx555_3⟩ := at_T72 HR0.out x9_1 p555 q555
         cases e555
         replace hx555_0 := cq_ HB hx555_0
         replace hx555_1 := cq_ HB hx555_1
         replace hx555_2 := cq_ HB hx555_2
         replace hx555_3 := cq_ HB hx555_3
         replace p555 := eq_true p555
         replace q555 := eq_true q555
         go_wp2_with (first | ((with_reducible refine gate_callee (f := 85) rfl ?_); refine goesL_ (some 25) rfl rfl Try.func85 (by kernel_rfl) rfl #[.pointer (some (ad555.add ((x9_1).toNat * 4))), .slice A1 l1.length c1] rfl ln_ ?_; (with_reducible refine (spec_l21End.calls k1 _ ((rd_T72 l0 x9_1).f0) ((rd_T72 l0 x9_1).f1) ((rd_T72 l0 x9_1).f2) ((rd_T72 l0 x9_1).f3) _ _ l1 t556 _ ?side1 ?side2 ?side3 ?side4 ?side5 ?side6 A8.out).mono ?_); (case side1 => exact kc_ (Kd.C_below HR1.out HB.out)); (case side2 => exact HC1.out); (case side3 => first | exact hx555_0 | (simpa using hx555_0) | (go_simp; done)); (case side4 => first | exact hx555_1 | (simpa using hx555_1) | (go_simp; done)); (case side5 => first | exact hx555_2 | (simpa using hx555_2) | (go_simp; done)); (case side6 => first | exact hx555_3 | (simpa using hx555_3) | (go_simp; done)); rintro e w14 ⟨rfl, hb⟩; refine ⟨_, rfl, ?_⟩; have n0_ := ak_ (below_step hb_ hb); clear HB; have HB := n0_; clear n0_; clear hb))
         go_roundg k1
         case measure => have := HK1.out; omega
         case rel => exact ⟨(x7_1), (x8_1), (wrap64 (x9_1 + 1)), fr_, fr_, fr_, H', ⟨by have := HK1.out; omega⟩, ⟨hb_⟩⟩
      ·rw [if_neg c9] at H
       have c9b0 : decide (0 ≤ t556) = false := decide_eq_false c9
       clear c9
       have H' := ak_ H
       clear H
       have p555 : 0 ≤ (x9_1 : Int) := od_
       have q555 : x9_1 < (l0.length : Int) := od_
       obtain ⟨ad555, e555, hx555_0, hx555_1, hx555_2, hx555_3⟩ := at_T72 HR0.out x9_1 p555 q555
       cases e555
       replace hx555_0 := cq_ HB hx555_0
       replace hx555_1 := cq_ HB hx555_1
       replace hx555_2 := cq_ HB hx555_2
       replace hx555_3 := cq_ HB hx555_3
       replace p555 := eq_true p555
       replace q555 := eq_true q555
       go_wp2_with (first | ((with_reducible refine gate_callee (f := 85) rfl ?_); refine goesL_ (some 25) rfl rfl Try.func85 (by kernel_rfl) rfl #[.pointer (some (ad555.add ((x9_1).toNat * 4))), .slice A1 l1.length c1] rfl ln_ ?_; (with_reducible refine (spec_l21End.calls k1 _ ((rd_T72 l0 x9_1).f0) ((rd_T72 l0 x9_1).f1) ((rd_T72 l0 x9_1).f2) ((rd_T72 l0 x9_1).f3) _ _ l1 t556 _ ?side1 ?side2 ?side3 ?side4 ?side5 ?side6 A8.out).mono ?_); (case side1 => exact kc_ (Kd.C_below HR1.out HB.out)); (case side2 => exact HC1.out); (case side3 => first | exact hx555_0 | (simpa using hx555_0) | (go_simp; done)); (case side4 => first | exact hx555_1 | (simpa using hx555_1) | (go_simp; done)); (case side5 => first | exact hx555_2 | (simpa using hx555_2) | (go_simp; done)); (case side6 => first | exact hx555_3 | (simpa using hx555_3) | (go_simp; done)); rintro e w15 ⟨rfl, hb⟩; refine ⟨_, rfl, ?_⟩; have n0_ := ak_ (below_step hb_ hb); clear HB; have HB := n0_; clear n0_; clear hb))
       go_roundg k1
       case measure => have := HK1.out; omega
       case rel => exact ⟨(x7_1), (x8_1), (wrap64 (x9_1 + 1)), fr_, fr_, fr_, H', ⟨by have := HK1.out; omega⟩, ⟨hb_⟩⟩
     ·rw [if_neg c7] at H
      exact absurd H (by simp)
    ·rw [if_neg c6] at H
     have c6b0 : decide (x9_1 < (l0.length : Int)) = false := decide_eq_false c6
     clear c6
     by_cases c16 : x7_1 < 0
     ·rw [if_pos c16] at H
      have c16b0 : decide (x7_1 < 0) = true := dt_ c16
      clear c16
      simp only [Option.some.injEq, Prod.mk.injEq] at H
      obtain ⟨rfl, rfl, rfl⟩ := H
      go_wp2
      go_ret3
      exact ⟨ew_, hb_⟩
     ·rw [if_neg c16] at H
      have c16b0 : decide (x7_1 < 0) = false := decide_eq_false c16
      clear c16
      by_cases c17 : 0 ≤ x7_1
      ·rw [if_pos c17] at H
       have c17b0 : decide (0 ≤ x7_1) = true := dt_ c17
       clear c17
       by_cases c18 : x7_1 < (l0.length : Int)
       ·rw [if_pos c18] at H
        have c18b0 : decide (x7_1 < (l0.length : Int)) = true := dt_ c18
        clear c18
        simp only [Option.some.injEq, Prod.mk.injEq] at H
        obtain ⟨rfl, rfl, rfl⟩ := H
        have p557 : 0 ≤ (x7_1 : Int) := od_
        have q557 : x7_1 < (l0.length : Int) := od_
        obtain ⟨ad557, e557, hx557_0, hx557_1, hx557_2, hx557_3⟩ := at_T72 HR0.out x7_1 p557 q557
        cases e557
        replace hx557_0 := cq_ HB hx557_0
        replace hx557_1 := cq_ HB hx557_1
        replace hx557_2 := cq_ HB hx557_2
        replace hx557_3 := cq_ HB hx557_3
        replace p557 := eq_true p557
        replace q557 := eq_true q557
        go_wp2
        go_ret3
        exact ⟨ew_, hb_⟩
       ·rw [if_neg c18] at H
        exact absurd H (by simp)
      ·rw [if_neg c17] at H
       exact absurd H (by simp)
 ·replace c4 := Bool.eq_false_iff.mpr c4
  subst c4
  have H1 : (some ((⟨#[]⟩ : ByteArray), 0, 1)) = some (r1, r2, r3) := by rw [if_neg (show ¬ (false = true) by decide)] at H; exact H
  clear H
  have H := H1
  clear H1
  simp only [Option.some.injEq, Prod.mk.injEq] at H
  obtain ⟨rfl, rfl, rfl⟩ := H
  go_enter Try.func42, Try.ntmps42
  go_wp2_with (first | ((with_reducible refine gate_callee (f := 79) rfl ?_); refine goesL_ (some 13) rfl rfl Try.func79 (by kernel_rfl) rfl #[.slice A0 l0.length c0, .slice A1 l1.length c1] rfl ln_ ?_; (with_reducible refine (spec_l21Checks.calls k _ _ l0 _ _ l1 false _ ?side1 ?side2 ?side3 ?side4 A3.out).mono ?_); (case side1 => exact kc_ HR0.out); (case side2 => exact HC0.out); (case side3 => exact kc_ HR1.out); (case side4 => exact HC1.out); rintro e w19 ⟨rfl, hb⟩; refine ⟨_, rfl, ?_⟩; have n0_ := ak_ (below_step hb_ hb); clear HB; have HB := n0_; clear n0_; clear hb))
  go_ret3
  exact ⟨ew_, hb_⟩

/-! ### laws_f6texts: function 43 -/
def laws_f6texts.l0 : Nat → List ByteArray → List ByteArray → Int → Option (Bool)
 | 0, _, _, _ => none
 | k + 1, x0, x1, x5 => if x5 < (x0.length : Int) then (if 0 ≤ x5 then (if x5 < (x1.length : Int) then (if (rdOf ByteArray.empty x0 x5).toList = (rdOf ByteArray.empty x1 x5).toList then (laws_f6texts.l0 k x0 x1 (wrap64 (x5 + 1))) else (some false)) else (none)) else (none)) else (some true)
def laws_f6texts.f (k : Nat) (l0 : List ByteArray) (l1 : List ByteArray) : Option (Bool) := if (l0.length : Int) = (l1.length : Int) then (laws_f6texts.l0 k l0 l1 0) else (some false)
set_option maxHeartbeats 8000000 in
set_option maxRecDepth 100000 in
theorem laws_f6texts.calls (k : Nat) (A0 : Option Addr) (c0 : Nat) (l0 : List ByteArray) (A1 : Option Addr) (c1 : Nat) (l1 : List ByteArray) (r : Bool) (w : World) (hr0 : Kd.C Kd.string w A0 l0.length l0) (hc0 : l0.length ≤ c0) (hr1 : Kd.C Kd.string w A1 l1.length l1) (hc1 : l1.length ≤ c1) (h : laws_f6texts.f k l0 l1 = some r) :
  Calls Try.prog 43 #[.slice A0 l0.length c0, .slice A1 l1.length c1] w fun e w' => e = .returned (.bool r) ∧ Drawn0 w w' := by
 have HR0 := ak_ hr0
 have HC0 := ak_ hc0
 clear hr0 hc0
 have HR1 := ak_ hr1
 have HC1 := ak_ hc1
 clear hr1 hc1
 have H : (if (l0.length : Int) = (l1.length : Int) then (laws_f6texts.l0 k l0 l1 0) else (some false)) = some r := h
 clear h
 by_cases c3 : (l0.length : Int) = (l1.length : Int)
 ·rw [if_pos c3] at H
  have c3b0 : ((l0.length : Int) == (l1.length : Int)) = true := beq_iff_eq.mpr c3
  have c3b1 : ((l0.length : Int) != (l1.length : Int)) = false := bne_eq_false_iff_eq.mpr c3
  have c3b2 : (l0.length == l1.length) = true := by first | simpa using c3 | (simp at c3 ⊢; omega)
  clear c3
  have H' := ak_ H
  clear H
  go_enter Try.func43, Try.ntmps43
  go_wp2
  repeat (go_quiet (fail); try go_wp2)
  go_loopg [5] k (fun kq v5 w' => ∃ (x5_1 : Int), v5 = .int .i64 x5_1 ∧ Aside0 (laws_f6texts.l0 kq l0 l1 x5_1 = some r) ∧ Aside0 (kq ≤ k) ∧ Drawn0 w w')
  case atStart => exact ⟨(0), fr_, H', ⟨Nat.le_refl _⟩, by repeat (first | exact Drawn0.refl _ | apply Drawn0.step)⟩
  case round =>
   clear H'
   try clear c1
   try clear p2
   try clear c3
   try clear c3b0
   try clear c3b1
   try clear c3b2
   obtain ⟨x5_1, rfl, HA, HK1, ⟨m1, rfl⟩⟩ := hrel
   cases gk with
   | zero => exact absurd HA.out (by simp [laws_f6texts.l0])
   | succ k1 =>
    have H := HA.out
    clear HA
    simp only [laws_f6texts.l0] at H
    by_cases c4 : x5_1 < (l0.length : Int)
    ·rw [if_pos c4] at H
     have c4b0 : decide (x5_1 < (l0.length : Int)) = true := dt_ c4
     clear c4
     by_cases c5 : 0 ≤ x5_1
     ·rw [if_pos c5] at H
      have c5b0 : decide (0 ≤ x5_1) = true := dt_ c5
      clear c5
      by_cases c6 : x5_1 < (l1.length : Int)
      ·rw [if_pos c6] at H
       have c6b0 : decide (x5_1 < (l1.length : Int)) = true := dt_ c6
       clear c6
       by_cases c7 : (rdOf ByteArray.empty l0 x5_1).toList = (rdOf ByteArray.empty l1 x5_1).toList
       ·rw [if_pos c7] at H
        have c7b0 : ((rdOf ByteArray.empty l0 x5_1).toList == (rdOf ByteArray.empty l1 x5_1).toList) = true := beq_iff_eq.mpr c7
        have c7b1 : ((rdOf ByteArray.empty l0 x5_1).toList != (rdOf ByteArray.empty l1 x5_1).toList) = false := bne_eq_false_iff_eq.mpr c7
        clear c7
        have H' := ak_ H
        clear H
        have p558 : 0 ≤ (x5_1 : Int) := od_
        have q558 : x5_1 < (l0.length : Int) := od_
        obtain ⟨ad558, e558, hx558_0⟩ := Kd.at_string HR0.out x5_1 p558 q558
        cases e558
        replace p558 := eq_true p558
        replace q558 := eq_true q558
        have p559 : 0 ≤ (x5_1 : Int) := od_
        have q559 : x5_1 < (l1.length : Int) := od_
        obtain ⟨ad559, e559, hx559_0⟩ := Kd.at_string HR1.out x5_1 p559 q559
        cases e559
        replace p559 := eq_true p559
        replace q559 := eq_true q559
        go_wp2
        repeat (go_quiet (fail); try go_wp2)
        go_roundg k1
        case measure => have := HK1.out; omega
        case rel => exact ⟨(wrap64 (x5_1 + 1)), fr_, H', ⟨by have := HK1.out; omega⟩, by repeat (first | exact Drawn0.refl _ | apply Drawn0.step)⟩
       ·rw [if_neg c7] at H
        have c7b0 : ((rdOf ByteArray.empty l0 x5_1).toList == (rdOf ByteArray.empty l1 x5_1).toList) = false := beq_eq_false_iff_ne.mpr c7
        have c7b1 : ((rdOf ByteArray.empty l0 x5_1).toList != (rdOf ByteArray.empty l1 x5_1).toList) = true := bne_iff_ne.mpr c7
        obtain rfl := Option.some.inj H
        have p558 : 0 ≤ (x5_1 : Int) := od_
        have q558 : x5_1 < (l0.length : Int) := od_
        obtain ⟨ad558, e558, hx558_0⟩ := Kd.at_string HR0.out x5_1 p558 q558
        cases e558
        replace p558 := eq_true p558
        replace q558 := eq_true q558
        have p559 : 0 ≤ (x5_1 : Int) := od_
        have q559 : x5_1 < (l1.length : Int) := od_
        obtain ⟨ad559, e559, hx559_0⟩ := Kd.at_string HR1.out x5_1 p559 q559
        cases e559
        replace p559 := eq_true p559
        replace q559 := eq_true q559
        go_wp2
        repeat (go_quiet (fail); try go_wp2)
        go_ret
        exact ⟨by first | rfl | (simp; done) | (simp [*]; done), by repeat (first | exact Drawn0.refl _ | apply Drawn0.step)⟩
      ·rw [if_neg c6] at H
       exact absurd H (by simp)
     ·rw [if_neg c5] at H
      exact absurd H (by simp)
    ·rw [if_neg c4] at H
     have c4b0 : decide (x5_1 < (l0.length : Int)) = false := decide_eq_false c4
     clear c4
     obtain rfl := Option.some.inj H
     go_wp2
     repeat (go_quiet (fail); try go_wp2)
     go_ret
     exact ⟨by first | rfl | (simp; done) | (simp [*]; done), by repeat (first | exact Drawn0.refl _ | apply Drawn0.step)⟩
 ·rw [if_neg c3] at H
  have c3b0 : ((l0.length : Int) == (l1.length : Int)) = false := beq_eq_false_iff_ne.mpr c3
  have c3b1 : ((l0.length : Int) != (l1.length : Int)) = true := bne_iff_ne.mpr c3
  have c3b2 : (l0.length == l1.length) = false := by first | simpa using c3 | (simp at c3 ⊢; omega)
  obtain rfl := Option.some.inj H
  go_enter Try.func43, Try.ntmps43
  go_wp2
  repeat (go_quiet (fail); try go_wp2)
  go_ret
  exact ⟨by first | rfl | (simp; done) | (simp [*]; done), by repeat (first | exact Drawn0.refl _ | apply Drawn0.step)⟩

/-! ### spec_ValidGear: function 45 -/
def spec_ValidGear.f (k : Nat) (l0 : List (S72)) : Option (Bool) := (spec_l21Ok.f k l0).bind fun t560 => (some t560)
set_option maxHeartbeats 8000000 in
set_option maxRecDepth 100000 in
theorem spec_ValidGear.calls (k : Nat) (A0 : Option Addr) (c0 : Nat) (l0 : List (S72)) (r : Bool) (w : World) (hr0 : Kd.C k72 w A0 l0.length l0) (hc0 : l0.length ≤ c0) (h : spec_ValidGear.f k l0 = some r) :
  Calls Try.prog 45 #[.slice A0 l0.length c0] w fun e w' => e = .returned (.bool r) ∧ Below w.heap.size w w' := by
 have HR0 := ak_ hr0
 have HC0 := ak_ hc0
 clear hr0 hc0
 have HB := ak_ (Below.refl w.heap.size w)
 have H : ((spec_l21Ok.f k l0).bind fun t560 => (some t560)) = some r := h
 clear h
 replace H := ob_ H
 obtain ⟨t560, A20, H⟩ := H
 replace H : (some t560) = some r := H
 have A2 := ak_ A20
 clear A20
 obtain rfl := Option.some.inj H
 go_enter Try.func45, Try.ntmps45
 go_wp2_with (first | ((with_reducible refine gate_callee (f := 88) rfl ?_); refine goesL_ (some 4) rfl rfl Try.func88 (by kernel_rfl) rfl #[.slice A0 l0.length c0] rfl ln_ ?_; (with_reducible refine (spec_l21Ok.calls k _ _ l0 t560 _ ?side1 ?side2 A2.out).mono ?_); (case side1 => exact kc_ HR0.out); (case side2 => exact HC0.out); rintro e w3 ⟨rfl, hb⟩; refine ⟨_, rfl, ?_⟩; have n0_ := ak_ (below_step hb_ hb); clear HB; have HB := n0_; clear n0_; clear hb))
 go_ret
 exact ⟨ew_, hb_⟩

/-! ### laws_f6word: function 46 -/
def laws_f6word.l0 : Nat → List ByteArray → ByteArray → Int → Option (Bool)
 | 0, _, _, _ => none
 | k + 1, x0, x1, x5 => if x5 < (x0.length : Int) then (if 0 ≤ x5 then (if (rdOf ByteArray.empty x0 x5).toList = x1.toList then (some true) else (laws_f6word.l0 k x0 x1 (wrap64 (x5 + 1)))) else (none)) else (some false)
def laws_f6word.f (k : Nat) (l0 : List ByteArray) (a1 : ByteArray) : Option (Bool) := laws_f6word.l0 k l0 a1 0
set_option maxHeartbeats 8000000 in
set_option maxRecDepth 100000 in
theorem laws_f6word.calls (k : Nat) (A0 : Option Addr) (c0 : Nat) (l0 : List ByteArray) (a1 : ByteArray) (r : Bool) (w : World) (hr0 : Kd.C Kd.string w A0 l0.length l0) (hc0 : l0.length ≤ c0) (h : laws_f6word.f k l0 a1 = some r) :
  Calls Try.prog 46 #[.slice A0 l0.length c0, .string a1] w fun e w' => e = .returned (.bool r) ∧ Drawn0 w w' := by
 have HR0 := ak_ hr0
 have HC0 := ak_ hc0
 clear hr0 hc0
 have H : (laws_f6word.l0 k l0 a1 0) = some r := h
 clear h
 have H' := ak_ H
 clear H
 go_enter Try.func46, Try.ntmps46
 go_wp2
 go_loopg [5] k (fun kq v5 w' => ∃ (x5_1 : Int), v5 = .int .i64 x5_1 ∧ Aside0 (laws_f6word.l0 kq l0 a1 x5_1 = some r) ∧ Aside0 (kq ≤ k) ∧ Drawn0 w w')
 case atStart => exact ⟨(0), fr_, H', ⟨Nat.le_refl _⟩, by repeat (first | exact Drawn0.refl _ | apply Drawn0.step)⟩
 case round =>
  clear H'
  try clear p2
  obtain ⟨x5_1, rfl, HA, HK1, ⟨m1, rfl⟩⟩ := hrel
  cases gk with
  | zero => exact absurd HA.out (by simp [laws_f6word.l0])
  | succ k1 =>
   have H := HA.out
   clear HA
   simp only [laws_f6word.l0] at H
   by_cases c3 : x5_1 < (l0.length : Int)
   ·rw [if_pos c3] at H
    have c3b0 : decide (x5_1 < (l0.length : Int)) = true := dt_ c3
    clear c3
    by_cases c4 : 0 ≤ x5_1
    ·rw [if_pos c4] at H
     have c4b0 : decide (0 ≤ x5_1) = true := dt_ c4
     clear c4
     by_cases c5 : (rdOf ByteArray.empty l0 x5_1).toList = a1.toList
     ·rw [if_pos c5] at H
      have c5b0 : ((rdOf ByteArray.empty l0 x5_1).toList == a1.toList) = true := beq_iff_eq.mpr c5
      have c5b1 : ((rdOf ByteArray.empty l0 x5_1).toList != a1.toList) = false := bne_eq_false_iff_eq.mpr c5
      clear c5
      obtain rfl := Option.some.inj H
      have p561 : 0 ≤ (x5_1 : Int) := od_
      have q561 : x5_1 < (l0.length : Int) := od_
      obtain ⟨ad561, e561, hx561_0⟩ := Kd.at_string HR0.out x5_1 p561 q561
      cases e561
      replace p561 := eq_true p561
      replace q561 := eq_true q561
      go_wp2
      go_ret
      exact ⟨by first | rfl | (simp; done) | (simp [*]; done), by repeat (first | exact Drawn0.refl _ | apply Drawn0.step)⟩
     ·rw [if_neg c5] at H
      have c5b0 : ((rdOf ByteArray.empty l0 x5_1).toList == a1.toList) = false := beq_eq_false_iff_ne.mpr c5
      have c5b1 : ((rdOf ByteArray.empty l0 x5_1).toList != a1.toList) = true := bne_iff_ne.mpr c5
      have H' := ak_ H
      clear H
      have p561 : 0 ≤ (x5_1 : Int) := od_
      have q561 : x5_1 < (l0.length : Int) := od_
      obtain ⟨ad561, e561, hx561_0⟩ := Kd.at_string HR0.out x5_1 p561 q561
      cases e561
      replace p561 := eq_true p561
      replace q561 := eq_true q561
      go_wp2
      go_roundg k1
      case measure => have := HK1.out; omega
      case rel => exact ⟨(wrap64 (x5_1 + 1)), fr_, H', ⟨by have := HK1.out; omega⟩, by repeat (first | exact Drawn0.refl _ | apply Drawn0.step)⟩
    ·rw [if_neg c4] at H
     exact absurd H (by simp)
   ·rw [if_neg c3] at H
    have c3b0 : decide (x5_1 < (l0.length : Int)) = false := decide_eq_false c3
    clear c3
    obtain rfl := Option.some.inj H
    go_wp2
    go_ret
    exact ⟨by first | rfl | (simp; done) | (simp [*]; done), by repeat (first | exact Drawn0.refl _ | apply Drawn0.step)⟩

end Go.Proofs.Ytfenjlkopofopaa.P
end
